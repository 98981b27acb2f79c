/- slots.taken and slots.Use walked; what a class's bits are. -/
import Derived.Test.YtmookafmdonopaaGreatM09
/- slots.taken and slots.Use walked; what a class's bits are. -/
namespace Go.Proofs.YtmookafmdonopaaGreat.Top
open Go Go.RowKit
set_option linter.unusedVariables false
set_option linter.unusedSimpArgs false
attribute [local go_sem] max2_int min2_int max_two min_two max_three

/-- a class's bits -/
def bk (b : Nat → Bool) : Nat → Nat → Bool
  | 0, i => b i
  | k + 1, i => bk b k (2 * i) || bk b k (2 * i + 1)
theorem bk_iff (b : Nat → Bool) (k i : Nat) : bk b k i = true ↔ ∃ j, i * 2 ^ k ≤ j ∧ j < (i + 1) * 2 ^ k ∧ b j = true := by
  induction k generalizing i with
  | zero =>
    refine ⟨fun h => ⟨i, by simp, by simp, h⟩, fun ⟨j, h1, h2, h3⟩ => ?_⟩
    have e : j = i := by simp at h1 h2; omega
    exact e ▸ h3
  | succ k ih =>
    unfold bk
    rw [Bool.or_eq_true, ih, ih]
    have e1 : 2 * i * 2 ^ k = i * 2 ^ (k + 1) := by rw [Nat.pow_succ, Nat.mul_comm 2 i, Nat.mul_assoc, Nat.mul_comm 2]
    have e2 : (2 * i + 1 + 1) * 2 ^ k = (i + 1) * 2 ^ (k + 1) := by rw [Nat.pow_succ, show 2 * i + 1 + 1 = (i + 1) * 2 by omega, Nat.mul_assoc, Nat.mul_comm 2]
    have e3 : (2 * i + 1) * 2 ^ k ≤ (i + 1) * 2 ^ (k + 1) := by rw [← e2]; exact Nat.mul_le_mul_right _ (by omega)
    have e4 : i * 2 ^ (k + 1) ≤ (2 * i + 1) * 2 ^ k := by rw [← e1]; exact Nat.mul_le_mul_right _ (by omega)
    refine ⟨?_, fun ⟨j, h1, h2, h3⟩ => ?_⟩
    · rintro (⟨j, h1, h2, h3⟩ | ⟨j, h1, h2, h3⟩)
      · exact ⟨j, by omega, by omega, h3⟩
      · exact ⟨j, by omega, by omega, h3⟩
    · by_cases hj : j < (2 * i + 1) * 2 ^ k
      · exact Or.inl ⟨j, by omega, hj, h3⟩
      · exact Or.inr ⟨j, by omega, by omega, h3⟩
theorem in_div {k a i : Nat} : i * 2 ^ k ≤ a ∧ a < (i + 1) * 2 ^ k ↔ a / 2 ^ k = i := by
  have hp : 0 < 2 ^ k := Nat.two_pow_pos k
  constructor
  · rintro ⟨h1, h2⟩
    exact Nat.div_eq_of_lt_le h1 h2
  · intro h
    subst h
    refine ⟨Nat.div_mul_le_self _ _, ?_⟩
    rw [Nat.add_mul, Nat.one_mul]
    exact Nat.lt_div_mul_add hp
theorem bk_div (b : Nat → Bool) (k i : Nat) : bk b k i = true ↔ ∃ j, j / 2 ^ k = i ∧ b j = true := by
  rw [bk_iff]
  exact ⟨fun ⟨j, h1, h2, h3⟩ => ⟨j, in_div.1 ⟨h1, h2⟩, h3⟩, fun ⟨j, h1, h3⟩ => ⟨j, (in_div.2 h1).1, (in_div.2 h1).2, h3⟩⟩
theorem bool_ext {a b : Bool} (h : a = true ↔ b = true) : a = b := by cases a <;> cases b <;> simp_all
/-- bits that are let on -/
theorem bk_on (b : Nat → Bool) (a m k : Nat) (hm : 1 ≤ m) : setB (bk b k) (a / 2 ^ k) ((a + m - 1) / 2 ^ k - a / 2 ^ k + 1) true = bk (setB b a m true) k := by
  funext i
  have hp : 0 < 2 ^ k := Nat.two_pow_pos k
  have hle : a / 2 ^ k ≤ (a + m - 1) / 2 ^ k := Nat.div_le_div_right (by omega)
  apply bool_ext
  rw [bk_div]
  unfold setB
  constructor
  · intro h
    split at h
    · rename_i h2
      rcases Nat.lt_or_ge a (i * 2 ^ k) with h3 | h3
      · refine ⟨i * 2 ^ k, Nat.mul_div_cancel _ hp, ?_⟩
        rw [if_pos]
        refine ⟨by omega, ?_⟩
        have h4 : i ≤ (a + m - 1) / 2 ^ k := by omega
        have h5 := (Nat.le_div_iff_mul_le hp).1 h4
        omega
      · refine ⟨a, ?_, by rw [if_pos (by omega)]⟩
        have h4 := (Nat.le_div_iff_mul_le hp).2 h3
        omega
    · obtain ⟨j, h3, h4⟩ := (bk_div b k i).1 h
      exact ⟨j, h3, by split; rfl; exact h4⟩
  · rintro ⟨j, h3, h4⟩
    split
    · rfl
    · rename_i h2
      split at h4
      · rename_i h5
        exfalso
        apply h2
        have h6 : a / 2 ^ k ≤ j / 2 ^ k := Nat.div_le_div_right h5.1
        have h7 : j / 2 ^ k ≤ (a + m - 1) / 2 ^ k := Nat.div_le_div_right (by omega)
        omega
      · exact (bk_div b k i).2 ⟨j, h3, h4⟩
/-- bits that are let go: what lies at the ends is looked at -/
theorem bk_off (b : Nat → Bool) (a m k : Nat) (hm : 1 ≤ m) :
    setB (setB (setB (bk b k) (a / 2 ^ k) ((a + m - 1) / 2 ^ k - a / 2 ^ k + 1) false) (a / 2 ^ k) 1 (bk (setB b a m false) k (a / 2 ^ k))) ((a + m - 1) / 2 ^ k) 1 (bk (setB b a m false) k ((a + m - 1) / 2 ^ k)) = bk (setB b a m false) k := by
  funext i
  have hp : 0 < 2 ^ k := Nat.two_pow_pos k
  have hle : a / 2 ^ k ≤ (a + m - 1) / 2 ^ k := Nat.div_le_div_right (by omega)
  by_cases e1 : i = (a + m - 1) / 2 ^ k
  · subst e1
    show (if _ then _ else _) = _
    rw [if_pos (by omega)]
  · show (if _ then _ else _) = _
    rw [if_neg (by omega)]
    by_cases e2 : i = a / 2 ^ k
    · subst e2
      show (if _ then _ else _) = _
      rw [if_pos (by omega)]
    · show (if _ then _ else _) = _
      rw [if_neg (by omega)]
      apply bool_ext
      rw [bk_div]
      show (if _ then _ else _) = true ↔ _
      constructor
      · intro h
        split at h
        · cases h
        · rename_i h2
          obtain ⟨j, h3, h4⟩ := (bk_div b k i).1 h
          refine ⟨j, h3, ?_⟩
          unfold setB
          rw [if_neg]
          · exact h4
          · intro h5
            have h6 : a / 2 ^ k ≤ j / 2 ^ k := Nat.div_le_div_right h5.1
            have h7 : j / 2 ^ k ≤ (a + m - 1) / 2 ^ k := Nat.div_le_div_right (by omega)
            omega
      · rintro ⟨j, h3, h4⟩
        unfold setB at h4
        split at h4
        · cases h4
        · rename_i h5
          rw [if_neg]
          · exact (bk_div b k i).2 ⟨j, h3, h4⟩
          · intro h6
            apply h5
            obtain ⟨g1, g2⟩ := in_div.2 h3
            have h7 : a / 2 ^ k + 1 ≤ i := by omega
            have h8 : i + 1 ≤ (a + m - 1) / 2 ^ k := by omega
            have h9 := (Nat.le_div_iff_mul_le hp).1 h8
            have h10 : (a / 2 ^ k + 1) * 2 ^ k ≤ i * 2 ^ k := Nat.mul_le_mul_right _ h7
            have h11 := (in_div.2 (rfl : a / 2 ^ k = a / 2 ^ k)).2
            omega
set_option maxHeartbeats 1000000 in
theorem slots_taken (size : Nat) (b : Nat → Bool) (A : Option Addr) (n c : Nat) (i : Nat) (I : Int) (w : World) (h : Lev w (.slice A n c) (lvs size b)) (h2 : size ≤ 65536) (hi : 2 * i + 1 < size) (hI : I = (i : Int)) :
    Calls Tryz.prog 118 #[.agg #[.int .i64 size, .slice A n c], .int .i64 I] w fun e w' => e = .returned (.bool (b (2 * i) || b (2 * i + 1))) ∧ Below w.heap.size w w' := by
  subst hI
  have HA := As.mk (fun W (hL : Lev W (.slice A n c) (lvs size b)) => tree_Has size b A n c (2 * i) W hL (by omega) h2 (by omega))
  have HB := As.mk (fun W (hL : Lev W (.slice A n c) (lvs size b)) => tree_Has size b A n c (2 * i + 1) W hL (by omega) h2 (by omega))
  simp only [decide_eq_true (show 2 * i < size by omega), decide_eq_true hi, Bool.true_and] at HA HB
  have H := As.mk h
  have e1 : ((2 * i : Nat) : Int) = 2 * (i : Int) := by omega
  have e2 : ((2 * i + 1 : Nat) : Int) = 2 * (i : Int) + 1 := by omega
  rw [e1] at HA
  rw [e2] at HB
  have HO := As.mk ((Own.start (X := []) w).box #[.int .i64 size, .slice A n c] 132)
  obtain ⟨x, hx⟩ : ∃ x, x = b (2 * i) := ⟨_, rfl⟩
  obtain ⟨y, hy⟩ : ∃ y, y = b (2 * i + 1) := ⟨_, rfl⟩
  rw [← hx] at HA
  rw [← hy] at HB
  rw [← hx, ← hy]
  clear h hx hy e1 e2
  go_enter Tryz.func118, Tryz.ntmps118
  go_wp2_with fail
  refine (HA.out _ (H.out.below HO.out.toBelow)).mono ?_
  rintro e w1 ⟨rfl, hb⟩
  have HO1 := As.mk (HO.out.below hb)
  have z0 := HO1.out.get (g := w.heap.size) (e := 132) (cs := [.int .i64 size, .slice A n c]) (by simp) 0 (by simp)
  have z1 := HO1.out.get (g := w.heap.size) (e := 132) (cs := [.int .i64 size, .slice A n c]) (by simp) 1 (by simp)
  clear hb HO HA
  cases x with
  | true =>
    go_wp2
    go_ret
    exact ⟨rfl, HO1.out.toBelow⟩
  | false =>
    go_wp2_with fail
    refine (HB.out _ (H.out.below HO1.out.toBelow)).mono ?_
    rintro e w2 ⟨rfl, hb⟩
    have HO2 := As.mk (HO1.out.below hb)
    clear hb HO1 HB
    go_wp2
    go_ret
    exact ⟨by rw [Bool.false_or]; rfl, HO2.out.toBelow⟩
/-- a class's levels as Use goes up -/
def lfU (n : Nat) (b B : Nat → Bool) (k j : Nat) : List (List Nat) := if j < k then lvs (n / 2 ^ j) (bk B j) else lvs (n / 2 ^ j) (bk b j)
theorem TC.set {sz : Nat → Nat} {us xs : List Value} (h : TC sz us xs) (k : Nat) (u : Value) (hk : k < us.length) : TC sz (us.set k u) ((xs.set (k * 2) (.int .i64 (sz k))).set (k * 2 + 1) u) := by
  obtain ⟨h1, h2⟩ := h
  refine ⟨by simp [h1], fun j x hj => ?_⟩
  by_cases e : k = j
  · subst e
    rw [List.getElem?_set_self hk] at hj
    injection hj with hj
    subst hj
    rw [List.getElem?_set_ne (by omega), List.getElem?_set_self (by omega), List.getElem?_set_self (by rw [List.length_set]; omega)]
    exact ⟨rfl, rfl⟩
  · rw [List.getElem?_set_ne e] at hj
    rw [List.getElem?_set_ne (by omega), List.getElem?_set_ne (by omega), List.getElem?_set_ne (by omega), List.getElem?_set_ne (by omega)]
    exact h2 j x hj
theorem RkT.set {lf lf' : Nat → List (List Nat)} {us : List Value} {W : World} {k : Nat} {A : Option Addr} {n d : Nat} (h : RkT lf us W) (hu : Lev W (.slice A n d) (lf' k)) (hl : ∀ j, j ≠ k → lf' j = lf j) : RkT lf' (us.set k (.slice A n d)) W := by
  intro j x hj
  by_cases e : k = j
  · subst e
    by_cases hk : k < us.length
    · rw [List.getElem?_set_self hk] at hj
      injection hj with hj
      subst hj
      exact ⟨_, _, _, rfl, hu⟩
    · rw [List.getElem?_eq_none (by rw [List.length_set]; omega)] at hj
      cases hj
  · rw [List.getElem?_set_ne e] at hj
    rw [hl j (Ne.symm e)]
    exact h j x hj
/-- the bits of class k behind i ends -/
def cst (b B : Nat → Bool) (a m k : Nat) (on : Bool) (i : Nat) : Nat → Bool :=
  if on = true ∨ k = 0 ∨ i = 0 then setB (bk b k) (a / 2 ^ k) ((a + m - 1) / 2 ^ k - a / 2 ^ k + 1) on
  else if i = 1 then setB (setB (bk b k) (a / 2 ^ k) ((a + m - 1) / 2 ^ k - a / 2 ^ k + 1) on) (a / 2 ^ k) 1 (bk B k (a / 2 ^ k))
  else setB (setB (setB (bk b k) (a / 2 ^ k) ((a + m - 1) / 2 ^ k - a / 2 ^ k + 1) on) (a / 2 ^ k) 1 (bk B k (a / 2 ^ k))) ((a + m - 1) / 2 ^ k) 1 (bk B k ((a + m - 1) / 2 ^ k))
theorem cst_2 (b : Nat → Bool) (a m k : Nat) (on : Bool) (hm : 1 ≤ m) : cst b (setB b a m on) a m k on 2 = bk (setB b a m on) k := by
  unfold cst
  cases on with
  | true => rw [if_pos (Or.inl rfl)]; exact bk_on b a m k hm
  | false =>
    by_cases hk : k = 0
    · subst hk
      rw [if_pos (Or.inr (Or.inl rfl))]
      funext i
      show (if _ then _ else _) = (if _ then _ else _)
      have e : a / 2 ^ 0 = a := by simp
      have e2 : (a + m - 1) / 2 ^ 0 = a + m - 1 := by simp
      rw [e, e2]
      by_cases h : a ≤ i ∧ i < a + m
      · rw [if_pos h, if_pos (by omega)]
      · rw [if_neg h, if_neg (by omega)]; rfl
    · rw [if_neg (by simp [hk]), if_neg (by decide)]
      exact bk_off b a m k hm
theorem cst_same (b B : Nat → Bool) (a m k : Nat) (on : Bool) (i j : Nat) (h : on = true ∨ k = 0) : cst b B a m k on i = cst b B a m k on j := by
  unfold cst
  rw [if_pos (by rcases h with h | h <;> simp [h]), if_pos (by rcases h with h | h <;> simp [h])]
theorem cst_step (b B : Nat → Bool) (a m k : Nat) (i e : Nat) (hk : k ≠ 0) (hi : i < 2) (he : e = if i = 0 then a / 2 ^ k else (a + m - 1) / 2 ^ k) : setB (cst b B a m k false i) e 1 (bk B k e) = cst b B a m k false (i + 1) := by
  rcases (show i = 0 ∨ i = 1 by omega) with rfl | rfl
  · rw [if_pos rfl] at he
    subst he
    unfold cst
    rw [if_pos (by simp), if_neg (by simp [hk]), if_pos rfl]
  · rw [if_neg (by decide)] at he
    subst he
    unfold cst
    rw [if_neg (by simp [hk]), if_pos rfl, if_neg (by simp [hk]), if_neg (by decide)]
end Go.Proofs.YtmookafmdonopaaGreat.Top
/- slots.Use walked. -/
namespace Go.Proofs.YtmookafmdonopaaGreat.Top
open Go Go.RowKit
set_option linter.unusedVariables false
set_option linter.unusedSimpArgs false
attribute [local go_sem] max2_int min2_int max_two min_two max_three

theorem SOwn.below {L : List (Nat × (Obj → Prop))} {R : World → Prop} {w0 w w1 : World} {g cap n : Nat} {sz : Nat → Nat} {lf : Nat → List (List Nat)} (h : SOwn L R w0 w g cap n sz lf) (hb : Below w.heap.size w w1) : SOwn L R w0 w1 g cap n sz lf := by
  obtain ⟨us, xs, h1, h2, h3, h4⟩ := h
  exact ⟨us, xs, h1, h2, h3, h4.below hb⟩
theorem SOwn.box {L : List (Nat × (Obj → Prop))} {R : World → Prop} {w0 w : World} {g cap n : Nat} {sz : Nat → Nat} {lf : Nat → List (List Nat)} (h : SOwn L R w0 w g cap n sz lf) (cs : Array Value) (T : TypeId) : SOwn ((w.heap.size, EC T cs.toList) :: L) R w0 (w.alloc (.cells cs T)) g cap n sz lf := by
  obtain ⟨us, xs, h1, h2, h3, h4⟩ := h
  exact ⟨us, xs, h1, h2, h3, (h4.box cs T).swap⟩
theorem SOwn.drop {L : List (Nat × (Obj → Prop))} {R : World → Prop} {w0 w : World} {g cap n : Nat} {x : Nat × (Obj → Prop)} {sz : Nat → Nat} {lf : Nat → List (List Nat)} (h : SOwn (x :: L) R w0 w g cap n sz lf) : SOwn L R w0 w g cap n sz lf := by
  obtain ⟨us, xs, h1, h2, h3, h4⟩ := h
  exact ⟨us, xs, h1, h2, h3, h4.drop2⟩
theorem SOwn.rest {L : List (Nat × (Obj → Prop))} {R : World → Prop} {w0 w : World} {g cap n : Nat} {sz : Nat → Nat} {lf : Nat → List (List Nat)} (h : SOwn L R w0 w g cap n sz lf) : Own [] L R w0 w := by
  obtain ⟨us, xs, h1, h2, h3, h4⟩ := h
  exact h4.drop.imp fun W hW => hW.1
theorem SOwn.imp {L : List (Nat × (Obj → Prop))} {R R2 : World → Prop} {w0 w : World} {g cap n : Nat} {sz : Nat → Nat} {lf : Nat → List (List Nat)} (h : SOwn L R w0 w g cap n sz lf) (hr : ∀ W, R W → R2 W) : SOwn L R2 w0 w g cap n sz lf := by
  obtain ⟨us, xs, h1, h2, h3, h4⟩ := h
  exact ⟨us, xs, h1, h2, h3, h4.imp fun W hW => ⟨hr W hW.1, hW.2⟩⟩
theorem SOwn.result {L : List (Nat × (Obj → Prop))} {R R2 : World → Prop} {w0 w w1 : World} {g cap n : Nat} {sz : Nat → Nat} {lf : Nat → List (List Nat)} (h : SOwn L R w0 w g cap n sz lf) (hb : Below w.heap.size w w1) (hr : ∀ W : World, (∀ k, w.heap.size ≤ k → k < w1.heap.size → W.heap[k]? = w1.heap[k]?) → R2 W) : SOwn L (fun W => R W ∧ R2 W) w0 w1 g cap n sz lf := by
  obtain ⟨us, xs, h1, h2, h3, h4⟩ := h
  exact ⟨us, xs, h1, h2, h3, (h4.result hb hr).imp fun W hW => ⟨⟨hW.1.1, hW.2⟩, hW.1.2⟩⟩
/-- another own block is stored to -/
theorem SOwn.set {L : List (Nat × (Obj → Prop))} {R : World → Prop} {w0 w : World} {g cap n : Nat} {sz : Nat → Nat} {lf : Nat → List (List Nat)} (h : SOwn L R w0 w g cap n sz lf) (i : Nat) {a e : Nat} {cs : List Value} (hi : L[i]? = some (a, EC e cs)) (o : Nat) (u : Value) (ho : o < cs.length) : SOwn (L.set i (a, EC e (cs.set o u))) R w0 (w.setCell ⟨a, o, none⟩ u) g cap n sz lf := by
  obtain ⟨us, xs, h1, h2, h3, h4⟩ := h
  exact ⟨us, xs, h1, h2, h3, h4.set (i + 1) (by rw [List.getElem?_cons_succ]; exact hi) o u ho⟩
/-- a tree that the walk owns -/
theorem SOwn.tree {L : List (Nat × (Obj → Prop))} {R : World → Prop} {w0 w : World} {g cap n : Nat} {sz : Nat → Nat} {lf : Nat → List (List Nat)} (h : SOwn L R w0 w g cap n sz lf) (k : Nat) (hk : k < n) : w.cell? ⟨g, k * 2, none⟩ = some (.int .i64 (sz k)) ∧ ∃ A m d, w.cell? ⟨g, k * 2 + 1, none⟩ = some (.slice A m d) ∧ Lev w (.slice A m d) (lf k) := by
  obtain ⟨us, xs, h1, h2, h3, h4⟩ := h
  obtain ⟨u, hu⟩ : ∃ u, us[k]? = some u := ⟨us[k], List.getElem?_eq_getElem (by omega)⟩
  obtain ⟨c1, c2⟩ := h3.2 k u hu
  obtain ⟨A, m, d, rfl, hl⟩ := (h4.ro w (fun _ _ _ _ => rfl)).2 k u hu
  have l1 := (List.getElem?_eq_some_iff.1 c1).1
  have l2 := (List.getElem?_eq_some_iff.1 c2).1
  exact ⟨by rw [h4.get List.mem_cons_self _ l1, c1], A, m, d, by rw [h4.get List.mem_cons_self _ l2, c2], hl⟩
/-- a tree is put back -/
theorem SOwn.put {L : List (Nat × (Obj → Prop))} {R : World → Prop} {w0 w : World} {g cap n : Nat} {sz : Nat → Nat} {lf lf' : Nat → List (List Nat)} {A : Option Addr} {m d : Nat} (k : Nat) (hk : k < n) (h : SOwn L (fun W => R W ∧ Lev W (.slice A m d) (lf' k)) w0 w g cap n sz lf) (hl : ∀ j, j ≠ k → lf' j = lf j) : SOwn L R w0 ((w.setCell ⟨g, k * 2, none⟩ (.int .i64 (sz k))).setCell ⟨g, k * 2 + 1, none⟩ (.slice A m d)) g cap n sz lf' := by
  obtain ⟨us, xs, h1, h2, h3, h4⟩ := h
  have hx := h3.1
  have h5 := (h4.set 0 rfl (k * 2) (.int .i64 (sz k)) (by omega)).set 0 rfl (k * 2 + 1) (.slice A m d) (by rw [List.length_set]; omega)
  exact ⟨_, _, h1, by rw [List.length_set]; exact h2, h3.set k (.slice A m d) (by omega), h5.imp fun W hW => ⟨hW.1.1, hW.2.set hW.1.2 hl⟩⟩
theorem SOwn.frozen {L : List (Nat × (Obj → Prop))} {R : World → Prop} {w0 w : World} {g cap n : Nat} {sz : Nat → Nat} {lf : Nat → List (List Nat)} (h : SOwn L R w0 w g cap n sz lf) (o : Nat) : w.frozen? ⟨g, o, none⟩ = false := by
  obtain ⟨us, xs, h1, h2, h3, h4⟩ := h
  exact h4.frozen List.mem_cons_self o
theorem TrR.ge {w : World} {v : Value} {L : Nat} {sz : Nat → Nat} {lf : Nat → List (List Nat)} (h : TrR w v L sz lf) : ∃ g c, v = .slice (some ⟨g, 0, none⟩) L c := by
  obtain ⟨g, c, h1, _⟩ := h
  exact ⟨g, c, h1⟩
theorem SOwn.merge {L : List (Nat × (Obj → Prop))} {R R2 : World → Prop} {w0 w w1 : World} {g cap n : Nat} {sz : Nat → Nat} {lf : Nat → List (List Nat)} (h : Own [] L R w0 w) (k : SOwn [] R2 w w1 g cap n sz lf) : SOwn L (fun W => R W ∧ R2 W) w0 w1 g cap n sz lf := by
  obtain ⟨us, xs, h1, h2, h3, h4⟩ := k
  exact ⟨us, xs, h1, h2, h3, (Own.merge h h4).imp fun W hW => ⟨⟨hW.1, hW.2.1⟩, hW.2.2⟩⟩
set_option maxHeartbeats 1000000 in
theorem slots_Use_no (v : Value) (L : Nat) (sz : Nat → Nat) (b : Nat → Nat → Bool) (w : World) (h : TrR w v L sz (fun k => lvs (sz k) (b k))) (hL : 1 ≤ L) (hL2 : L ≤ 17) (hs : ∀ k, k < L → sz k ≤ 65536) :
    Calls Tryz.prog 107 #[.agg #[v], .int .i64 0, .int .i64 0, .bool true] w fun e w' => ∃ v', e = .returned (.agg #[v']) ∧ TrF w.heap.size w' v' L sz (fun k => lvs (sz k) (b k)) ∧ Below w.heap.size w w' := by
  obtain ⟨g, c, rfl⟩ := h.ge
  have H := As.mk h
  have HO := As.mk (((Own.start (X := []) w).box #[.slice (some ⟨g, 0, none⟩) L c] 80).box #[.slice none 0 0] 80)
  have HSZ := As.mk hs
  have hl0 : ((L : Int) == 0) = false := beqF (by omega)
  clear h hs
  go_enter Tryz.func107, Tryz.ntmps107
  go_wp2_with fail
  refine (slots_twin _ L sz b _ (H.out.below HO.out.toBelow) hL hL2 HSZ.out).mono ?_
  rintro e w1 ⟨g', cap, rfl, ht⟩
  have ht2 := (SOwn.merge HO.out ht).box #[.slice (some ⟨g', 0, none⟩) L cap] 80
  rw [World.size_alloc] at ht2
  have HT := As.mk ht2
  clear ht ht2 HO
  have hset := HT.out.set 1 (a := w.heap.size + 1) (e := 80) (cs := [.slice none 0 0]) rfl 0 (.slice (some ⟨g', 0, none⟩) L cap) (by simp)
  have x0 := HT.out.rest.get (g := w.heap.size + 1) (e := 80) (cs := [.slice none 0 0]) (by simp) 0 (by simp)
  have x1 := HT.out.rest.frozen (g := w.heap.size + 1) (e := 80) (cs := [.slice none 0 0]) (by simp) 0
  have HS := As.mk hset
  clear hset HT
  go_wp2
  refine bodyPost_ret (v := .agg #[.slice (some ⟨g', 0, none⟩) L cap]) (by simp [results, Tryz.f107, go_sem, *]) rfl ?_
  exact ⟨_, rfl, HS.out.trF, HS.out.rest.toBelow⟩
theorem tree_Set_i (size : Nat) (b : Nat → Bool) (A : Option Addr) (n c : Nat) (f m : Nat) (F M : Int) (on : Bool) (w : World) (h : Lev w (.slice A n c) (lvs size b)) (h2 : size ≤ 4096) (hm : 1 ≤ m) (hs : f + m ≤ size) (hF : F = (f : Int)) (hM : M = (m : Int)) :
    Calls Tryz.prog 117 #[.agg #[.int .i64 size, .slice A n c], .int .i64 F, .int .i64 M, .bool on] w fun e w' => ∃ v, e = .returned (.agg #[.int .i64 size, v]) ∧ LevF w.heap.size w' v (lvs size (setB b f m on)) ∧ Below w.heap.size w w' := by
  subst hF; subst hM
  exact tree_Set size b A n c f m on w h h2 hm hs
theorem lfU_0 (n : Nat) (b B : Nat → Bool) : lfU n b B 0 = fun j => lvs (n / 2 ^ j) (bk b j) := by
  funext j
  unfold lfU
  rw [if_neg (by omega)]
theorem lfU_all (n L : Nat) (b B : Nat → Bool) (j : Nat) (hj : j < L) : lfU n b B L j = lvs (n / 2 ^ j) (bk B j) := by
  unfold lfU
  rw [if_pos hj]
theorem lfU_at (n : Nat) (b B : Nat → Bool) (k : Nat) : lfU n b B k k = lvs (n / 2 ^ k) (bk b k) := by
  unfold lfU
  rw [if_neg (by omega)]
theorem lfU_low (n : Nat) (b B : Nat → Bool) (k j : Nat) (h : j < k) : lfU n b B k j = lvs (n / 2 ^ j) (bk B j) := by
  unfold lfU
  rw [if_pos h]
/-- what Use owns beside its trees -/
def UL (h g L c g' cap q : Nat) : List (Nat × (Obj → Prop)) := [(q, EC 80 [.slice (some ⟨g', 0, none⟩) L cap]), (h + 1, EC 80 [.slice none 0 0]), (h, EC 80 [.slice (some ⟨g, 0, none⟩) L c])]
set_option maxHeartbeats 1000000 in
theorem slots_Use (v : Value) (L n a m : Nat) (b : Nat → Bool) (on : Bool) (w : World) (h : TrR w v L (fun k => n / 2 ^ k) (fun k => lvs (n / 2 ^ k) (bk b k))) (hL : 1 ≤ L) (hL2 : L ≤ 17) (hn : n ≤ 4096) (hd : 2 ^ (L - 1) ∣ n) (hm : 1 ≤ m) (ham : a + m ≤ n) :
    Calls Tryz.prog 107 #[.agg #[v], .int .i64 a, .int .i64 m, .bool on] w fun e w' => ∃ v', e = .returned (.agg #[v']) ∧ TrF w.heap.size w' v' L (fun k => n / 2 ^ k) (fun k => lvs (n / 2 ^ k) (bk (setB b a m on) k)) ∧ Below w.heap.size w w' := by
  obtain ⟨g, c, rfl⟩ := h.ge
  have H := As.mk h
  have HO := As.mk (((Own.start (X := []) w).box #[.slice (some ⟨g, 0, none⟩) L c] 80).box #[.slice none 0 0] 80)
  have hsz : ∀ k, n / 2 ^ k ≤ n := fun k => Nat.div_le_self _ _
  have HSZ := As.mk (show ∀ k, k < L → n / 2 ^ k ≤ 65536 from fun k _ => Nat.le_trans (hsz k) (by omega))
  have HSZ2 := As.mk (show ∀ k, n / 2 ^ k ≤ 4096 from fun k => Nat.le_trans (hsz k) hn)
  have HD := As.mk hd
  clear h hsz hd
  have c0 : ((L : Int) == 0) = false := beqF (by omega)
  have c1 : ((a : Int) < 0) = False := eq_false (by omega)
  have c2 : ((m : Int) < 1) = False := eq_false (by omega)
  have c3 : ((n : Int) ≤ (a : Int)) = False := eq_false (by omega)
  have c3' : (n ≤ a) = False := eq_false (by omega)
  have c4 : min (m : Int) ((n : Int) - (a : Int)) = (m : Int) := by omega
  obtain ⟨la, hla⟩ : ∃ la, la = a + m - 1 := ⟨_, rfl⟩
  have c5 : (a : Int) + (m : Int) - 1 = (la : Int) := by omega
  have LA := As.mk hla
  have hlan : la < n := by omega
  have hala : a ≤ la := by omega
  clear hla
  go_enter Tryz.func107, Tryz.ntmps107
  go_wp2_with fail
  refine (slots_twin _ L _ (fun k => bk b k) _ (H.out.below HO.out.toBelow) hL hL2 HSZ.out).mono ?_
  rintro e w1 ⟨g', cap, rfl, ht⟩
  have ht2 := (SOwn.merge HO.out ht).box #[.slice (some ⟨g', 0, none⟩) L cap] 80
  rw [World.size_alloc] at ht2
  obtain ⟨z0, -⟩ := ht2.tree 0 (by omega)
  rw [Nat.zero_mul] at z0
  simp only [Nat.pow_zero, Nat.div_one] at z0
  obtain ⟨q9, hq9⟩ : ∃ q, q = w1.heap.size := ⟨_, rfl⟩
  have HT : As (SOwn (UL w.heap.size g L c g' cap q9) (fun _ => True) w (w1.alloc (.cells #[.slice (some ⟨g', 0, none⟩) L cap] 80)) g' cap L (fun k => n / 2 ^ k) (lfU n b (setB b a m on) 0)) := by
    rw [lfU_0]
    subst hq9
    exact As.mk (ht2.imp fun _ _ => trivial)
  have HQ9 := As.mk hq9
  clear hq9
  clear ht ht2 HO
  go_wp2_with fail
  rw [← HQ9.out]
  go_loopw [56] (fun i wr => ∃ k : Nat, k ≤ L ∧ i = .int .i64 (k : Int) ∧ SOwn (UL w.heap.size g L c g' cap q9) (fun _ => True) w wr g' cap L (fun k => n / 2 ^ k) (lfU n b (setB b a m on) k)) (fun i _ => L - (intOf i).toNat)
  case atStart => exact ⟨0, Nat.zero_le _, rfl, HT.out⟩
  case round =>
    clear HT z0
    obtain ⟨k, hk, rfl, ht⟩ := hrel
    by_cases hkL : k < L
    · obtain ⟨z1, A, d, e, z2, z3⟩ := ht.tree k hkL
      rw [lfU_at] at z3
      obtain ⟨sz, hsz⟩ : ∃ sz, sz = n / 2 ^ k := ⟨_, rfl⟩
      have z1' : wr.cell? ⟨g', k * 2, none⟩ = some (.int .i64 (sz : Int)) := by rw [z1, hsz]
      have ht2 := ht.box #[.int .i64 sz, .slice A d e] 132
      obtain ⟨q, hq⟩ : ∃ q, q = wr.heap.size := ⟨_, rfl⟩
      have hp := Nat.two_pow_pos k
      obtain ⟨lo, hlo⟩ : ∃ lo, lo = a / 2 ^ k := ⟨_, rfl⟩
      obtain ⟨hi, hhi⟩ : ∃ hi, hi = la / 2 ^ k := ⟨_, rfl⟩
      have d1 : (a : Int) / 2 ^ k = (lo : Int) := by
        rw [hlo, show ((a / 2 ^ k : Nat) : Int) = (a : Int) / ((2 ^ k : Nat) : Int) from rfl, Int.natCast_pow]; rfl
      have d2 : (la : Int) / 2 ^ k = (hi : Int) := by
        rw [hhi, show ((la / 2 ^ k : Nat) : Int) = (la : Int) / ((2 ^ k : Nat) : Int) from rfl, Int.natCast_pow]; rfl
      have hlh : lo ≤ hi := by rw [hlo, hhi]; exact Nat.div_le_div_right hala
      have hdk : 2 ^ k ∣ n := Nat.dvd_trans (Nat.pow_dvd_pow 2 (by omega)) HD.out
      have hhs : hi < sz := by
        rw [hhi, hsz]
        refine (Nat.div_lt_iff_lt_mul hp).2 ?_
        rw [Nat.div_mul_cancel hdk]
        exact hlan
      have hsz4 : sz ≤ 4096 := by rw [hsz]; exact HSZ2.out k
      have LEV := As.mk (z3.below (box_below wr (.cells #[.int .i64 sz, .slice A d e] 132)))
      rw [← hsz] at LEV
      have E := As.mk (And.intro hsz (And.intro hlo hhi))
      have HT := As.mk ht2
      have HQ := As.mk hq
      clear z1 z3 ht ht2 hsz hlo hhi hdk hp hq
      obtain ⟨df, hdf⟩ : ∃ df, df = hi - lo := ⟨_, rfl⟩
      have hh : (hi : Int) - (lo : Int) = (df : Int) := by omega
      have DF := As.mk hdf
      have hdf2 : lo + (df + 1) ≤ sz := by omega
      clear hdf
      go_wp2_with fail
      rw [← HQ.out]
      rw [← HQ.out] at HT
      refine (tree_Set_i sz (bk b k) A d e lo (df + 1) _ _ on _ LEV.out hsz4 (by omega) hdf2 rfl (by omega)).mono ?_
      rintro e2 w2 ⟨v2, rfl, hf, hb⟩
      obtain ⟨A2, d2', e2', rfl⟩ := hf.form
      have ht3 := HT.out.result (R2 := fun W => Lev W (.slice A2 d2' e2') (lvs sz (cst b (setB b a m on) a m k on 0))) hb (fun W hW => by
        have h9 := hf W hW
        unfold cst
        rw [if_pos (Or.inr (Or.inr rfl)), ← LA.out, ← E.out.2.1, ← E.out.2.2, ← DF.out]
        exact h9)
      have x0 := ht3.rest.get (g := q) (e := 132) (cs := [.int .i64 sz, .slice A d e]) (by simp) 0 (by simp)
      have x1 := ht3.rest.get (g := q) (e := 132) (cs := [.int .i64 sz, .slice A d e]) (by simp) 1 (by simp)
      have x2 := ht3.rest.frozen (g := q) (e := 132) (cs := [.int .i64 sz, .slice A d e]) (by simp) 0
      have x3 := ht3.rest.frozen (g := q) (e := 132) (cs := [.int .i64 sz, .slice A d e]) (by simp) 1
      have ht4 := (ht3.set 0 (a := q) (e := 132) (cs := [.int .i64 sz, .slice A d e]) rfl 0 (.int .i64 sz) (by simp)).set 0 (a := q) (e := 132) (cs := [.int .i64 sz, .slice A d e]) rfl 1 (.slice A2 d2' e2') (by simp)
      have ht5 := ht4.box #[.int .i64 lo, .int .i64 hi] 3
      rw [World.size_setCell, World.size_setCell] at ht5
      obtain ⟨q2, hq2⟩ : ∃ q2, q2 = w2.heap.size := ⟨_, rfl⟩
      have HT5 : As (SOwn ((q2, EC 3 [.int .i64 lo, .int .i64 hi]) :: (q, EC 132 [.int .i64 sz, .slice A2 d2' e2']) :: UL w.heap.size g L c g' cap q9) (fun W => True ∧ Lev W (.slice A2 d2' e2') (lvs sz (cst b (setB b a m on) a m k on 0))) w (((w2.setCell ⟨q, 0, none⟩ (.int .i64 sz)).setCell ⟨q, 1, none⟩ (.slice A2 d2' e2')).alloc (.cells #[.int .i64 lo, .int .i64 hi] 3)) g' cap L (fun k => n / 2 ^ k) (lfU n b (setB b a m on) k)) := by
        subst hq2
        exact As.mk ht5
      have HQ2 := As.mk hq2
      clear HT LEV ht3 ht4 ht5 hb hf hq2
      go_wp2_with fail
      rw [← HQ2.out]
      go_loopw [81] (fun i wr => ∃ (i' : Nat) (A2 : Option Addr) (d2 e2 : Nat), i' ≤ 2 ∧ i = .int .i64 (i' : Int) ∧ SOwn ((q2, EC 3 [.int .i64 lo, .int .i64 hi]) :: (q, EC 132 [.int .i64 sz, .slice A2 d2 e2]) :: UL w.heap.size g L c g' cap q9) (fun W => True ∧ Lev W (.slice A2 d2 e2) (lvs sz (cst b (setB b a m on) a m k on i'))) w wr g' cap L (fun k => n / 2 ^ k) (lfU n b (setB b a m on) k)) (fun i _ => 2 - (intOf i).toNat)
      case atStart => exact ⟨0, A2, d2', e2', by omega, rfl, HT5.out⟩
      case round =>
        clear HT5 x0 x1 x2 x3
        obtain ⟨i, A3, d3, e3, hi2, rfl, ht⟩ := hrel
        have y0 := ht.rest.get (g := q2) (e := 3) (cs := [.int .i64 lo, .int .i64 hi]) (by simp) 0 (by simp)
        have y1 := ht.rest.get (g := q2) (e := 3) (cs := [.int .i64 lo, .int .i64 hi]) (by simp) 1 (by simp)
        have y2 := ht.rest.get (g := q) (e := 132) (cs := [.int .i64 sz, .slice A3 d3 e3]) (by simp) 0 (by simp)
        have y3 := ht.rest.get (g := q) (e := 132) (cs := [.int .i64 sz, .slice A3 d3 e3]) (by simp) 1 (by simp)
        have y4 := ht.rest.get (g := q9) (e := 80) (cs := [.slice (some ⟨g', 0, none⟩) L cap]) (by simp [UL]) 0 (by simp)
        by_cases hi3 : i < 2
        · obtain ⟨e, he⟩ : ∃ e, e = if i = 0 then lo else hi := ⟨_, rfl⟩
          have y5 : wr.cell? ⟨q2, i, none⟩ = some (.int .i64 (e : Int)) := by
            rcases (show i = 0 ∨ i = 1 by omega) with rfl | rfl
            · rw [he, if_pos rfl]; exact y0
            · rw [he, if_neg (by decide)]; exact y1
          have he2 : e < sz := by rw [he]; split <;> omega
          have hea : e = if i = 0 then a / 2 ^ k else (a + m - 1) / 2 ^ k := by rw [he, ← LA.out, ← E.out.2.1, ← E.out.2.2]
          have HEA := As.mk hea
          have HT := As.mk ht
          clear he hea ht y0 y1
          by_cases hon : on = true ∨ k = 0
          · have hcs : cst b (setB b a m on) a m k on i = cst b (setB b a m on) a m k on (i + 1) := cst_same _ _ _ _ _ _ _ _ hon
            have HT2 : As (SOwn ((q2, EC 3 [.int .i64 lo, .int .i64 hi]) :: (q, EC 132 [.int .i64 sz, .slice A3 d3 e3]) :: UL w.heap.size g L c g' cap q9) (fun W => True ∧ Lev W (.slice A3 d3 e3) (lvs sz (cst b (setB b a m on) a m k on (i + 1)))) w wr g' cap L (fun k => n / 2 ^ k) (lfU n b (setB b a m on) k)) := by
              rw [← hcs]; exact HT
            clear HT hcs
            rcases hon with hon | hon
            · subst hon
              by_cases hk0 : 0 < k
              · have hk0' : ((0 : Int) < (k : Int)) = True := eq_true (by omega)
                go_wp2_with fail
                go_roundw
                case rel => exact ⟨i + 1, _, _, _, by omega, by go_num, HT2.out⟩
                case measure => simp [intOf]; omega
              · have hk0' : ((0 : Int) < (k : Int)) = False := eq_false (by omega)
                go_wp2_with fail
                go_roundw
                case rel => exact ⟨i + 1, _, _, _, by omega, by go_num, HT2.out⟩
                case measure => simp [intOf]; omega
            · have hk0' : ((0 : Int) < (k : Int)) = False := eq_false (by omega)
              go_wp2_with fail
              go_roundw
              case rel => exact ⟨i + 1, _, _, _, by omega, by go_num, HT2.out⟩
              case measure => simp [intOf]; omega
          · have hof : on = false := by cases on with | true => exact absurd (Or.inl rfl) hon | false => rfl
            subst hof
            obtain ⟨kk, hkk⟩ : ∃ kk, k = kk + 1 := ⟨k - 1, by simp at hon; omega⟩
            obtain ⟨t1, A4, d4, e4, t2, t3⟩ := HT.out.tree kk (by omega)
            rw [lfU_low _ _ _ _ _ (by omega)] at t3
            obtain ⟨s4, hs4⟩ : ∃ s4, s4 = n / 2 ^ kk := ⟨_, rfl⟩
            replace t1 : wr.cell? ⟨g', kk * 2, none⟩ = some (.int .i64 (s4 : Int)) := by rw [t1, hs4]
            rw [← hs4] at t3
            have hs42 : 2 * e + 1 < s4 := by
              have h8 := E.out.1
              rw [hkk, Nat.pow_succ, ← Nat.div_div_eq_div_mul, ← hs4] at h8
              have h9 : sz ≤ s4 / 2 := by omega
              omega
            have hs43 : s4 ≤ 65536 := by rw [hs4]; exact HSZ.out kk (by omega)
            have hki : (k : Int) - 1 = (kk : Int) := by omega
            have hk0' : ((0 : Int) < (k : Int)) = True := eq_true (by omega)
            have hkn : k ≠ 0 := by omega
            have HTK := As.mk (fun W (hL : Lev W (.slice A4 d4 e4) (lvs s4 (bk (setB b a m false) kk))) => slots_taken s4 (bk (setB b a m false) kk) A4 d4 e4 e e W hL hs43 hs42 rfl)
            have hbk : (bk (setB b a m false) kk (2 * e) || bk (setB b a m false) kk (2 * e + 1)) = bk (setB b a m false) k e := by rw [hkk]; rfl
            rw [hbk] at HTK
            have HST := As.mk (cst_step b (setB b a m false) a m k i e hkn hi3 HEA.out)
            obtain ⟨x, hx⟩ : ∃ x, x = bk (setB b a m false) k e := ⟨_, rfl⟩
            rw [← hx] at HTK HST
            have LV4 := As.mk t3
            have HS := As.mk (show ∀ W, Below wr.heap.size wr W → W.cell? ⟨q, 0, none⟩ = some (.int .i64 sz) ∧ W.cell? ⟨q, 1, none⟩ = some (.slice A3 d3 e3) ∧ W.cell? ⟨q9, 0, none⟩ = some (.slice (some ⟨g', 0, none⟩) L cap) ∧ W.cell? ⟨g', kk * 2, none⟩ = some (.int .i64 s4) ∧ W.cell? ⟨g', kk * 2 + 1, none⟩ = some (.slice A4 d4 e4) from
              fun W hb => ⟨cell_below hb y2, cell_below hb y3, cell_below hb y4, cell_below hb t1, cell_below hb t2⟩)
            have hkkL : kk < L := by omega
            have hwk : IntKind.i64.wrap (kk : Int) = (kk : Int) := iw64 _ (by omega) (by omega)
            have hbb : ((kk : Int) < (L : Int)) = True := eq_true (by omega)
            have hbc : (0 : Int) ≤ (kk : Int) := by omega
            clear t3 hx hbk hs4 hkk hon
            go_wp2_with fail
            refine rgn [(0, 0), (1, 1), (2, 1), (3, 0), (4, 1), (5, 1), (6, 1), (7, 0), (8, 1), (9, 2), (10, 2), (11, 3)] [11] (fun W => W.cell? ⟨q, 0, none⟩ = some (.int .i64 sz) ∧ W.cell? ⟨q, 1, none⟩ = some (.slice A3 d3 e3) ∧ W.cell? ⟨q9, 0, none⟩ = some (.slice (some ⟨g', 0, none⟩) L cap) ∧ W.cell? ⟨g', kk * 2, none⟩ = some (.int .i64 s4) ∧ W.cell? ⟨g', kk * 2 + 1, none⟩ = some (.slice A4 d4 e4)) (by kernel_rfl) (by kernel_rfl) (fun _ _ _ d _ h => by cases d <;> exact h) (HS.out _ (drew_below _)) ?_
            refine Run.rd (v := ?_) (a' := ?_) rfl rfl (Or.inl ⟨by rfl, ?_⟩) ?_ ?_; rotate_left 2; (focus (rintro W ⟨hW1, hW2, hW3, hW4, hW5⟩; go_simp; with_reducible rfl)); (focus (simp only [Act.put, List.setIfInBounds_toArray, List.set_cons_zero, List.set_cons_succ]; rfl))
            iterate 2 (refine Run.pu (v := ?_) (a' := ?_) rfl rfl (Or.inl ⟨by rfl, ?_⟩) ?_ ?_; rotate_left 2; (focus (intro W; go_simp; with_reducible rfl)); (focus (simp only [Act.put, List.setIfInBounds_toArray, List.set_cons_zero, List.set_cons_succ]; rfl)))
            refine Run.rd (v := ?_) (a' := ?_) rfl rfl (Or.inl ⟨by rfl, ?_⟩) ?_ ?_; rotate_left 2; (focus (rintro W ⟨hW1, hW2, hW3, hW4, hW5⟩; go_simp; with_reducible rfl)); (focus (simp only [Act.put, List.setIfInBounds_toArray, List.set_cons_zero, List.set_cons_succ]; rfl))
            iterate 3 (refine Run.pu (v := ?_) (a' := ?_) rfl rfl (Or.inl ⟨by rfl, ?_⟩) ?_ ?_; rotate_left 2; (focus (intro W; go_simp; with_reducible rfl)); (focus (simp only [Act.put, List.setIfInBounds_toArray, List.set_cons_zero, List.set_cons_succ]; rfl)))
            refine Run.rd (v := ?_) (a' := ?_) rfl rfl (Or.inl ⟨by rfl, ?_⟩) ?_ ?_; rotate_left 2; (focus (rintro W ⟨hW1, hW2, hW3, hW4, hW5⟩; go_simp; with_reducible rfl)); (focus (simp only [Act.put, List.setIfInBounds_toArray, List.set_cons_zero, List.set_cons_succ]; rfl))
            refine Run.pu (v := ?_) (a' := ?_) rfl rfl (Or.inl ⟨by rfl, ?_⟩) ?_ ?_; rotate_left 2; (focus (intro W; go_simp; with_reducible rfl)); (focus (simp only [Act.put, List.setIfInBounds_toArray, List.set_cons_zero, List.set_cons_succ]; rfl))
            refine Run.ef rfl (fun K hK => ?_)
            simp only [List.getElem_toArray, List.getElem_cons_succ, List.getElem_cons_zero]
            go_wp2_with fail
            refine (HTK.out _ (LV4.out.below (drew_below _))).mono ?_
            rintro e5 w5 ⟨rfl, hb⟩
            have HB := As.mk ((drew_below wr).trans (hb.mono (drew_below wr).size))
            clear hb
            go_wp2
            refine hK.out _ _ (HS.out _ HB.out) ?_
            clear hK K
            refine Run.ef rfl (fun K hK => ?_)
            simp only [List.getElem_toArray, List.getElem_cons_succ, List.getElem_cons_zero]
            go_wp2_with fail
            have HT1 := As.mk (HT.out.below HB.out)
            obtain ⟨us, xs, q1, q2', q3, q4⟩ := HT1.out
            have hl9 := (q4.ro w5 (fun _ _ _ _ => rfl)).1.2
            clear q1 q2' q3 q4
            refine (tree_Set_i sz _ A3 d3 e3 e 1 _ 1 x _ hl9 hsz4 (by decide) he2 rfl rfl).mono ?_
            rintro e6 w6 ⟨v6, rfl, hf, hb⟩
            obtain ⟨A6, d6, e6', rfl⟩ := hf.form
            rw [HST.out] at hf
            have HB2 := As.mk (HB.out.trans (hb.mono HB.out.size))
            have ht7 := (HT1.out.result (R2 := fun W => Lev W (.slice A6 d6 e6') (lvs sz (cst b (setB b a m false) a m k false (i + 1)))) hb (fun W hW => hf W hW)).imp (R2 := fun W => True ∧ Lev W (.slice A6 d6 e6') (lvs sz (cst b (setB b a m false) a m k false (i + 1)))) (fun W hW => ⟨trivial, hW.2⟩)
            have x0 := ht7.rest.get (g := q) (e := 132) (cs := [.int .i64 sz, .slice A3 d3 e3]) (by simp) 0 (by simp)
            have x1 := ht7.rest.get (g := q) (e := 132) (cs := [.int .i64 sz, .slice A3 d3 e3]) (by simp) 1 (by simp)
            have x2 := ht7.rest.frozen (g := q) (e := 132) (cs := [.int .i64 sz, .slice A3 d3 e3]) (by simp) 0
            have x3 := ht7.rest.frozen (g := q) (e := 132) (cs := [.int .i64 sz, .slice A3 d3 e3]) (by simp) 1
            have ht8 := (ht7.set 1 (a := q) (e := 132) (cs := [.int .i64 sz, .slice A3 d3 e3]) rfl 0 (.int .i64 sz) (by simp)).set 1 (a := q) (e := 132) (cs := [.int .i64 sz, .slice A3 d3 e3]) rfl 1 (.slice A6 d6 e6') (by simp)
            have HT8 := As.mk ht8
            clear ht7 ht8 hb hf hl9 HT HT1 y2 y3 y4 y5
            go_wp2
            refine hK.out _ _ (HS.out _ HB2.out) ?_
            clear hK K
            refine Run.la rfl (fun K hK => ?_)
            simp only [List.getElem_toArray, List.getElem_cons_succ, List.getElem_cons_zero]
            go_wp2
            refine hK.out _ _ ?_
            clear hK K x0 x1 x2 x3
            refine Run.nil ?_
            go_wp2_with fail
            go_roundw
            case rel => exact ⟨i + 1, _, _, _, by omega, by go_num, HT8.out⟩
            case measure => simp [intOf]; omega
        · have hi4 : i = 2 := by omega
          subst hi4
          obtain ⟨b1, A5, d5, e5, b2, -⟩ := ht.tree k hkL
          have b3 := ht.frozen (k * 2)
          have b4 := ht.frozen (k * 2 + 1)
          have ht2 : SOwn ((q2, EC 3 [.int .i64 lo, .int .i64 hi]) :: (q, EC 132 [.int .i64 sz, .slice A3 d3 e3]) :: UL w.heap.size g L c g' cap q9) (fun W => True ∧ Lev W (.slice A3 d3 e3) (lfU n b (setB b a m on) (k + 1) k)) w wr g' cap L (fun k => n / 2 ^ k) (lfU n b (setB b a m on) k) := by
            rw [cst_2 b a m k on hm] at ht
            rw [lfU_low n b (setB b a m on) (k + 1) k (by omega), ← E.out.1]
            exact ht
          have ht3 := (SOwn.put (lf' := lfU n b (setB b a m on) (k + 1)) k hkL ht2 (fun j hj => by
            unfold lfU
            by_cases h : j < k
            · rw [if_pos h, if_pos (by omega)]
            · rw [if_neg h, if_neg (by omega)])).drop.drop
          have HT3 : As (SOwn (UL w.heap.size g L c g' cap q9) (fun _ => True) w ((wr.setCell ⟨g', k * 2, none⟩ (.int .i64 (sz : Int))).setCell ⟨g', k * 2 + 1, none⟩ (.slice A3 d3 e3)) g' cap L (fun k => n / 2 ^ k) (lfU n b (setB b a m on) (k + 1))) := by
            have h9 := ht3
            have e9 : (sz : Int) = ((n / 2 ^ k : Nat) : Int) := by rw [E.out.1]
            rw [e9]
            exact As.mk h9
          clear ht ht2 ht3 y0 y1
          go_wp2_with fail
          go_roundw
          case rel => exact ⟨k + 1, by omega, by go_num, HT3.out⟩
          case measure => simp [intOf]; omega
    · have hkL' : k = L := by omega
      subst hkL'
      have ht2 : SOwn (UL w.heap.size g k c g' cap q9) (fun _ => True) w wr g' cap k (fun k => n / 2 ^ k) (fun j => lvs (n / 2 ^ j) (bk (setB b a m on) j)) := by
        obtain ⟨us, xs, q1, q2, q3, q4⟩ := ht
        refine ⟨us, xs, q1, q2, q3, q4.imp fun W hW => ⟨hW.1, fun j u hu => ?_⟩⟩
        obtain ⟨A, n1, d1, h1, h2⟩ := hW.2 j u hu
        rw [lfU_all n k b _ j (by have := (List.getElem?_eq_some_iff.1 hu).1; omega)] at h2
        exact ⟨A, n1, d1, h1, h2⟩
      have hset := ht2.set 1 (a := w.heap.size + 1) (e := 80) (cs := [.slice none 0 0]) rfl 0 (.slice (some ⟨g', 0, none⟩) k cap) (by simp)
      have x0 := ht2.rest.get (g := w.heap.size + 1) (e := 80) (cs := [.slice none 0 0]) (by simp [UL]) 0 (by simp)
      have x1 := ht2.rest.frozen (g := w.heap.size + 1) (e := 80) (cs := [.slice none 0 0]) (by simp [UL]) 0
      have x2 := ht2.rest.get (g := q9) (e := 80) (cs := [.slice (some ⟨g', 0, none⟩) k cap]) (by simp [UL]) 0 (by simp)
      have HS := As.mk hset
      clear hset ht2 ht
      go_wp2
      refine bodyPost_ret (v := .agg #[.slice (some ⟨g', 0, none⟩) k cap]) (by simp [results, Tryz.f107, go_sem, *]) rfl ?_
      exact ⟨_, rfl, HS.out.trF, HS.out.rest.toBelow⟩
end Go.Proofs.YtmookafmdonopaaGreat.Top
