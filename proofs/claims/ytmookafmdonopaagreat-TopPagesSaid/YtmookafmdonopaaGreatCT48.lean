/- Plainly: what is met is there, whatever is asked; what a Trim comes to. -/
import Derived.Test.YtmookafmdonopaaGreatM34
import Derived.Test.YtmookafmdonopaaGreatM35
namespace Go.Proofs.YtmookafmdonopaaGreat.Top
open Go Go.RowKit
set_option linter.unusedVariables false
set_option linter.unusedSimpArgs false

theorem sub_and : ∀ (a b : List Bool), a.length = b.length → (∀ i : Nat, b[i]? = some true → a[i]? = some true) → andL a b = b ∧ cntT (lessL a b) + cntT b = cntT a
 | [], [], _, _ => ⟨rfl, rfl⟩
 | [], y :: b, h, _ => by simp at h
 | x :: a, [], h, _ => by simp at h
 | x :: a, y :: b, h, hs => by
  obtain ⟨h1, h2⟩ := sub_and a b (by simpa using h) (fun i hi => by simpa using hs (i + 1) (by simpa using hi))
  have h0 := hs 0
  simp only [List.getElem?_cons_zero, Option.some.injEq] at h0
  simp only [andL, lessL, cntT] at h1 h2 ⊢
  cases x <;> cases y <;> simp_all <;> omega
theorem metB_iff {c : Cf} {bl : List Bk} {i : Nat} : (metB (metN c bl))[i]? = some true ↔ i < c.H / c.Page ∧ ∃ b ∈ bl, pgF c b ≤ i ∧ i < pgB c b := by
 by_cases hi : i < c.H / c.Page
 · rw [metB, List.getElem?_map, metN_at c bl i hi]
   simp only [Option.map_some, Option.some.injEq, decide_eq_true_eq, List.countP_pos_iff]
   exact ⟨fun h => ⟨hi, h⟩, fun h => h.2⟩
 · rw [metB, List.getElem?_eq_none (by rw [List.length_map, metN_len]; omega)]
   simp [hi]
theorem metB_len (c : Cf) (bl : List Bk) : (metB (metN c bl)).length = c.H / c.Page := by rw [metB, List.length_map, metN_len]
theorem onTo_get (l : List Bool) (a k i : Nat) : (onTo l a k)[i]? = if a ≤ i ∧ i < a + k ∧ i < l.length then some true else l[i]? := by
 induction k with
 | zero => rw [if_neg (by omega)]; rfl
 | succ k ih =>
  show ((onTo l a k).set (a + k) true)[i]? = _
  rw [List.getElem?_set]
  by_cases h : a + k = i
  · rw [if_pos h]
    by_cases hl : a + k < (onTo l a k).length
    · rw [if_pos hl, if_pos (by rw [onTo_len] at hl; omega)]
    · rw [if_neg hl, if_neg (by rw [onTo_len] at hl; omega), List.getElem?_eq_none (by rw [onTo_len] at hl; omega)]
  · rw [if_neg h, ih]
    by_cases h2 : a ≤ i ∧ i < a + k ∧ i < l.length
    · rw [if_pos h2, if_pos (by omega)]
    · rw [if_neg h2, if_neg (by omega)]
theorem andL_get {a b : List Bool} {i : Nat} (h1 : a[i]? = some true) (h2 : b[i]? = some true) : (andL a b)[i]? = some true := by
 simp [andL, List.getElem?_zipWith, h1, h2]
/-- what is met is there -/
def OnC (c : Cf) (s : Hs) : Prop := ∀ i : Nat, (metB (metN c s.bl))[i]? = some true → s.on[i]? = some true
section
variable {c : Cf} {s : Hs}
theorem OnC.new (c : Cf) : OnC c (Hs.new c) := by
 intro i hi
 obtain ⟨_, b, hb, _⟩ := metB_iff.1 hi
 simp [Hs.new] at hb
theorem OnC.without (iv : Iv c s) (h : OnC c s) {b : Bk} (hb : b ∈ s.bl) : OnC c (s.without b) := by
 intro i hi
 obtain ⟨h1, y, hy, h2⟩ := metB_iff.1 hi
 exact h i (metB_iff.2 ⟨h1, y, (iv.inv.mem_del iv.good hb hy).1, h2⟩)
theorem OnC.placed (iv : Iv c s) (h : OnC c s) {k a i : Nat} {on' : List Bool} (hp : Placed c s k a i on') : OnC c (placed c s k a i on') := by
 obtain ⟨fr, hc⟩ := hp.com
 have hlm : (metB (metN c s.bl)).length = c.H / c.Page := metB_len c s.bl
 intro j hj
 obtain ⟨h1, y, hy, h2⟩ := metB_iff.1 hj
 have hjo : j < s.on.length := by rw [iv.on]; exact h1
 have hon : (onTo s.on (pgF c (bkAt c i k a)) (pgB c (bkAt c i k a) - pgF c (bkAt c i k a)))[j]? = some true ∧ (onTo (metB (metN c s.bl)) (pgF c (bkAt c i k a)) (pgB c (bkAt c i k a) - pgF c (bkAt c i k a)))[j]? = some true := by
  rw [onTo_get, onTo_get]
  rcases mem_ins.1 hy with rfl | hy
  · rw [if_pos (by omega), if_pos (by omega)]
    exact ⟨rfl, rfl⟩
  · have h3 := metB_iff.2 ⟨h1, y, hy, h2⟩
    constructor
    · split
      · rfl
      · exact h j h3
    · split
      · rfl
      · exact h3
 unfold commitP at hc
 split at hc
 · cases hc
 · injection hc with hc
   injection hc with h4 _
   show on'[j]? = some true
   rw [← h4]
   split
   · exact andL_get hon.1 hon.2
   · exact hon.1
theorem asks_on {charge asked e : Int} (iv : Iv c s) (h : OnC c s) (hm : MayP c s charge asked e) : OnC c (asksP c s charge asked e).1 := by
 rcases asks_spec iv hm with ⟨er, _, h1⟩ | ⟨_, k, a, i, on', _, _, hp, h1⟩
 · rw [h1]; exact h
 · rw [h1]; exact OnC.placed iv h hp
theorem trim_on (iv : Iv c s) (h : OnC c s) : (trimP c s).1.on = metB (metN c s.bl) ∧ cntT (lessL s.on (metB (metN c s.bl))) + cntT (metB (metN c s.bl)) = cntT s.on :=
 sub_and s.on _ (by rw [iv.on, metB_len]) h
theorem realloc_on (iv : Iv c s) (h : OnC c s) {b : Bk} (hb : b ∈ s.bl) (S : Int) : OnC c (reallocP c s b S).1 := by
 unfold reallocP
 by_cases h0 : (adm c ((sumB c s.bl - b.ch c : Nat) : Int) S 1).2 ≠ 0
 · rw [if_pos h0]; exact h
 · rw [if_neg h0]
   split
   · exact h
   · exact asks_on (iv.without hb).1 (OnC.without iv h hb) (realloc_may iv hb h0)
theorem block_on (iv : Iv c s) (h : OnC c s) (mem : List Nat) (o : Opp) : OnC c (blockP c s mem o).1 := by
 unfold blockP
 cases hb : blkAt s o.p with
 | none => exact h
 | some b =>
  have hm := (blkAt_some hb).1
  dsimp only
  split
  · exact realloc_on iv h hm _
  · split
    · exact OnC.without iv h hm
    · split
      · exact h
      · split
        · exact h
        · split <;> exact h
theorem do_on (iv : Iv c s) (h : OnC c s) (mem : List Nat) {o : Opp} (ok : OpOk o) : OnC c (doP c s mem o).1 := by
 unfold doP
 split
 · exact asks_on iv h (adm_may iv GoodA.one)
 · split
   · exact asks_on iv h (many_may iv _ _)
   · split
     · exact asks_on iv h (adm_may iv ok.a)
     · split
       · exact block_on iv h mem o
       · split
         · intro i hi
           rw [(trim_on iv h).1]
           exact hi
         · exact h
end
/-- which pages some blocks meet -/
def metL (c : Cf) (l : List MB) : List Bool := (List.range (c.H / c.Page)).map fun i => l.any fun b => decide (b.1 / c.Page ≤ i ∧ i < (b.1 + b.2.1 - 1) / c.Page + 1)
theorem metL_len (c : Cf) (l : List MB) : (metL c l).length = c.H / c.Page := by simp [metL]
theorem metL_bl (c : Cf) (bl : List Bk) : metL c (bl.map (Bk.mb c)) = metB (metN c bl) := by
 apply List.ext_getElem?
 intro i
 by_cases hi : i < c.H / c.Page
 · rw [metB, List.getElem?_map, metN_at c bl i hi, metL, List.getElem?_map, List.getElem?_range hi]
   simp only [Option.map_some, Option.some.injEq]
   rw [List.any_map]
   apply Bool.eq_iff_iff.2
   simp only [List.any_eq_true, Function.comp, decide_eq_true_eq, List.countP_pos_iff]
   rfl
 · rw [List.getElem?_eq_none (by rw [metL_len]; omega), List.getElem?_eq_none (by rw [metB_len]; omega)]
end Go.Proofs.YtmookafmdonopaaGreat.Top
