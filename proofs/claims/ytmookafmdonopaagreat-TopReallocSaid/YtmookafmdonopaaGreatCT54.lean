/- Plainly: many that are cleared answer as one would, and are nought. -/
import Derived.Test.YtmookafmdonopaaGreatCT53
namespace Go.Proofs.YtmookafmdonopaaGreat.Top
open Go Go.RowKit
set_option linter.unusedVariables false
set_option linter.unusedSimpArgs false

theorem doP_load {c : Cf} {s : Hs} (iv : Iv c s) (mem : List Nat) {b : Bk} (hb : b ∈ s.bl) {i : Nat} (hi : i < b.ch c) : doP c s mem ⟨7, b.at_, 0, 0, i, 0⟩ = (s, ⟨0, 0, 0, ((mem.getD (b.at_ + i) 0 : Nat) : Int), 0, 0, 0, 0⟩) := by
 show blockP c s mem ⟨7, b.at_, 0, 0, i, 0⟩ = _
 unfold blockP
 simp only [blkAt_mem iv hb]
 have h : ¬ ((i : Int) < 0 ∨ (b.ch c : Int) ≤ (i : Int)) := by omega
 rw [if_neg (by decide), if_neg (by decide), if_neg (by decide), if_neg h]
 rfl
theorem cal_all {c : Cf} {s : Hs} (iv : Iv c s) (ci : Ci c s.bl) (hP : c.H / c.Page ≤ c.P) (n sz : Nat) (mem : List Nat) :
 ∃ s1 ax s2, doP c s mem ⟨2, 0, sz, 0, n, 0⟩ = (s1, ax) ∧ doP c s mem ⟨1, 0, ((n * sz : Nat) : Int), 0, 0, 0⟩ = (s2, ax) ∧
  (ax.err ≠ 0 ∨ ∃ a ch : Nat, ax = ⟨0, a, 0, 0, 0, 0, 0, 0⟩ ∧ n * sz ≤ ch ∧ a + ch ≤ 65536 ∧ Iv c s1 ∧ (∀ mem', doP c s1 mem' ⟨6, a, 0, 0, 0, 0⟩ = (s1, ⟨0, 0, (ch : Nat), 0, 0, 0, 0, 0⟩)) ∧
   ∀ mem', DoMem c s mem ⟨2, 0, sz, 0, n, 0⟩ mem' → ∀ i : Nat, i < ch → doP c s1 mem' ⟨7, a, 0, 0, i, 0⟩ = (s1, ⟨0, 0, 0, 0, 0, 0, 0, 0⟩)) := by
 have hg := iv.good
 have e := calloc_as iv (n := n) (sz := sz)
 refine ⟨(callocP c s n sz).1, (callocP c s n sz).2, (alignedP c s ((n * sz : Nat) : Int) 1).1, rfl, by rw [e]; rfl, ?_⟩
 by_cases h0 : (adm c (sumB c s.bl : Nat) ((n * sz : Nat) : Int) 1).2 = 0
 · obtain ⟨k, k1, k2, k3, k4, k5, k6⟩ := adm_ok hg GoodA.one h0
   obtain ⟨i, on', p1, p2⟩ := asks_placed iv ci hP (k := k) (a := n * sz) k2 (by omega) (by omega)
   have h1 : alignedP c s ((n * sz : Nat) : Int) 1 = (placed c s k (n * sz) i on', ⟨0, ((i * 2 ^ k * c.G : Nat) : Int), 0, 0, 0, 0, 0, 0⟩) := by
    unfold alignedP
    rw [h0, k1]
    exact p2
   have hN : ¬ ((n : Int) * (sz : Int) > c.N) := by
    intro h
    have : (chg c ((n * sz : Nat) : Int) 1).2 ≠ 0 := by
     unfold chg
     have b := hg.bounds
     rw [if_neg (by omega), if_pos (Or.inr (by rw [Int.natCast_mul]; exact h))]
     decide
    unfold adm at h0
    rw [if_pos this] at h0
    exact this h0
   have hm : (many c (sumB c s.bl : Nat) (n : Int) (sz : Int)).1 = ((c.G * 2 ^ k : Nat) : Int) := by
    have e3 : prd c (n : Int) (sz : Int) = (((n * sz : Nat) : Int), 0) := by
     unfold prd
     rw [if_neg (by omega), if_neg hN, Int.natCast_mul]
    unfold many
    rw [e3]
    exact k1
   have hb : bkAt c i k (n * sz) ∈ (placed c s k (n * sz) i on').bl := by
    show bkAt c i k (n * sz) ∈ insB s.bl (bkAt c i k (n * sz))
    unfold insB
    exact List.mem_append_right _ List.mem_cons_self
   rw [e, h1]
   refine Or.inr ⟨i * 2 ^ k * c.G, c.G * 2 ^ k, rfl, p1.ha, ?_, (p1.iv iv).1, fun mem' => doP_usable (p1.iv iv).1 mem' hb, fun mem' hd j hj => ?_⟩
   · have := (p1.iv iv).2; have := hg.bounds; omega
   · have h2 := hd.1 rfl (by show (callocP c s n sz).2.err = 0; rw [e, h1]) (i * 2 ^ k * c.G + j) (by show (callocP c s n sz).2.at_ ≤ _; rw [e, h1]; show ((i * 2 ^ k * c.G : Nat) : Int) ≤ _; omega) (by
      show _ < (callocP c s n sz).2.at_ + (many c (sumB c s.bl : Nat) (n : Int) (sz : Int)).1
      rw [e, h1, hm]
      show _ < ((i * 2 ^ k * c.G : Nat) : Int) + _
      omega)
     refine (doP_load (p1.iv iv).1 mem' hb hj).trans ?_
     have h3 : mem'.getD ((bkAt c i k (n * sz)).at_ + j) 0 = 0 := by
      rw [List.getD_eq_getElem?_getD]
      show (mem'[i * 2 ^ k * c.G + j]?).getD 0 = 0
      rw [h2]
      rfl
     rw [h3]
     rfl
 · refine Or.inl ?_
   rw [e]
   unfold alignedP asksP
   rw [if_pos h0]
   exact h0
end Go.Proofs.YtmookafmdonopaaGreat.Top
