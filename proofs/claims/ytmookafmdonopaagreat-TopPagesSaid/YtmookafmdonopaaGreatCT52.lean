/- Plainly: with pages enough, what is let in is placed; who asks for less of a multiple lies no higher; many as one. -/
import Derived.Test.YtmookafmdonopaaGreatM34
import Derived.Test.YtmookafmdonopaaGreatM35
namespace Go.Proofs.YtmookafmdonopaaGreat.Top
open Go Go.RowKit
set_option linter.unusedVariables false
set_option linter.unusedSimpArgs false
variable {c : Cf} {s : Hs}

theorem conf_P (r : Rw) (h : confOf r = (c, 0)) (hb : r.b = 5000) : c.P = 5000 := by
 unfold confOf at h
 split at h
 · injection h with h1 h2
   rw [← h1]
   show r.b.toNat = 5000
   rw [hb]
   rfl
 · injection h with h1 h2
   cases h2
theorem asks_placed (iv : Iv c s) (ci : Ci c s.bl) (hP : c.H / c.Page ≤ c.P) {k a : Nat} (hk : k ≤ c.L) (ha : a ≤ c.G * 2 ^ k) (hM : sumB c s.bl + c.G * 2 ^ k ≤ c.M) :
 ∃ (i : Nat) (on' : List Bool), Placed c s k a i on' ∧ asksP c s ((c.G * 2 ^ k : Nat) : Int) (a : Int) 0 = (placed c s k a i on', ⟨0, ((i * 2 ^ k * c.G : Nat) : Int), 0, 0, 0, 0, 0, 0⟩) := by
 have hm : MayP c s ((c.G * 2 ^ k : Nat) : Int) (a : Int) 0 := Or.inr ⟨rfl, k, a, rfl, rfl, hk, ha, hM⟩
 rcases asks_spec iv hm with ⟨er, he, h⟩ | ⟨_, k', a', i, on', h1, h2, h3, h4⟩
 · exfalso
   have h0 : (asksP c s ((c.G * 2 ^ k : Nat) : Int) (a : Int) 0).2.err = 0 := by
    unfold asksP
    rw [if_neg (by simp), log_ch iv.good, Int.toNat_natCast]
    unfold putsP
    obtain ⟨i, i1, i2⟩ := low_ceil iv.good iv.inv ci hk hM
    rw [i1]
    dsimp only
    unfold commitP
    rw [if_neg ?_]
    have h5 := cntT_le (onTo (metB (metN c s.bl)) (pgF c (bkAt c i k a)) (pgB c (bkAt c i k a) - pgF c (bkAt c i k a)))
    rw [onTo_len, metB, List.length_map, metN_len] at h5
    rw [← metB] at h5
    omega
   rw [h] at h0
   exact he h0
 · have e1 : a' = a := by omega
   have e2 : c.G * 2 ^ k' = c.G * 2 ^ k := by omega
   have e3 : k' = k := by
    have := Nat.eq_of_mul_eq_mul_left (by have := iv.good.g1; omega) e2
    exact (Nat.pow_right_inj (by decide : 1 < 2)).1 this
   subst e1 e3
   exact ⟨i, on', h3, h4⟩
theorem low_mono {bl : List Bk} {k k' i : Nat} (hg : Good c) (hk : k' ≤ k) (h : lowB c bl k = some i) {i' : Nat} (h' : lowB c bl k' = some i') : i' * 2 ^ k' ≤ i * 2 ^ k := by
 obtain ⟨a1, a2, a3⟩ := lowB_spec h
 obtain ⟨b1, b2, b3⟩ := lowB_spec h'
 have e : 2 ^ k = 2 ^ (k - k') * 2 ^ k' := by rw [← Nat.pow_add]; congr 1; omega
 have h2 : bk (bitsB c bl) k' (i * 2 ^ (k - k')) = false := by
  rw [Bool.eq_false_iff]
  intro h3
  obtain ⟨j, j1, j2, j3⟩ := (bk_iff _ _ _).1 h3
  have : bk (bitsB c bl) k i = true := (bk_iff _ _ _).2 ⟨j, by rw [e, ← Nat.mul_assoc]; exact j1, by
   refine Nat.lt_of_lt_of_le j2 ?_
   rw [e, ← Nat.mul_assoc]
   refine Nat.mul_le_mul_right _ ?_
   rw [Nat.add_mul]
   have := Nat.two_pow_pos (k - k')
   omega, j3⟩
  rw [a2] at this
  cases this
 have h3 : i' ≤ i * 2 ^ (k - k') := by
  refine Nat.le_of_not_lt fun h4 => ?_
  have := b3 _ h4
  rw [h2] at this
  cases this
 rw [e, ← Nat.mul_assoc]
 exact Nat.mul_le_mul_right _ h3
theorem calloc_as (iv : Iv c s) {n sz : Nat} : callocP c s (n : Int) (sz : Int) = alignedP c s ((n * sz : Nat) : Int) 1 := by
 have b := iv.good.bounds
 by_cases h : ((n : Int) * (sz : Int)) > c.N
 · have e : adm c (sumB c s.bl : Nat) ((n * sz : Nat) : Int) 1 = (0, 4) := by
    unfold adm
    have e2 : chg c ((n * sz : Nat) : Int) 1 = (0, 4) := by
     unfold chg
     rw [if_neg (by omega), if_pos (Or.inr (by rw [Int.natCast_mul]; exact h))]
    rw [e2]
    rfl
   have e3 : prd c (n : Int) (sz : Int) = (0, 4) := by
    unfold prd
    rw [if_neg (by omega), if_pos h]
   have e4 : many c (sumB c s.bl : Nat) (n : Int) (sz : Int) = (0, 4) := by
    unfold many
    rw [e3]
    rfl
   unfold callocP alignedP
   rw [e, e3, e4]
   rfl
 · have e3 : prd c (n : Int) (sz : Int) = (((n * sz : Nat) : Int), 0) := by
    unfold prd
    rw [if_neg (by omega), if_neg h, Int.natCast_mul]
   have e4 : many c (sumB c s.bl : Nat) (n : Int) (sz : Int) = adm c (sumB c s.bl : Nat) ((n * sz : Nat) : Int) 1 := by
    unfold many
    rw [e3]
    rfl
   unfold callocP alignedP
   rw [e3, e4]
theorem chg_of (hg : Good c) {S A : Nat} (hS : S ≤ c.N) (hA1 : 1 ≤ A) (hA3 : A ≠ 3) (hA : A ≤ c.N) : chg c (S : Int) (A : Int) = (((upN (max (max S A) c.G) : Nat) : Int), 0) := by
 have b := hg.bounds
 unfold chg
 rw [if_neg (by omega), if_neg (by omega)]
 have e : (max (max (S : Int) (A : Int)) (c.G : Int)).toNat = max (max S A) c.G := by omega
 rw [e]
theorem upN_mono {v v' : Nat} (h : v' ≤ v) (h1 : 1 ≤ v') (h2 : v ≤ 2 ^ 19) : upN v' ≤ upN v := by
 obtain ⟨j, j1, j2, j3⟩ := upN_spec v (by omega)
 rw [j1]
 refine upN_le h1 (by omega) ?_
 refine Nat.le_of_not_lt fun h3 => ?_
 have : 2 ^ 21 ≤ 2 ^ j := Nat.pow_le_pow_right (by decide) h3
 omega
theorem al_plain (iv : Iv c s) (ci : Ci c s.bl) (hP : c.H / c.Page ≤ c.P) {S m : Nat} (hS : S ≤ c.N) (hm : m ≤ 7) :
 (∃ er : Int, (er = 3 ∨ er = 5) ∧ alignedP c s (S : Int) ((2 ^ m : Nat) : Int) = (s, An.no er)) ∨
 (∃ (k i : Nat) (on' : List Bool), Placed c s k S i on' ∧ alignedP c s (S : Int) ((2 ^ m : Nat) : Int) = (placed c s k S i on', ⟨0, ((i * 2 ^ k * c.G : Nat) : Int), 0, 0, 0, 0, 0, 0⟩) ∧ 2 ^ m ≤ c.G * 2 ^ k ∧ 2 ^ m ∣ i * 2 ^ k * c.G ∧
  ∃ (k' i' : Nat) (on'' : List Bool), i' * 2 ^ k' * c.G ≤ i * 2 ^ k * c.G ∧ alignedP c s (S : Int) ((2 ^ (m - 1) : Nat) : Int) = (placed c s k' S i' on'', ⟨0, ((i' * 2 ^ k' * c.G : Nat) : Int), 0, 0, 0, 0, 0, 0⟩)) := by
 have hg := iv.good
 have b := hg.bounds
 have hga : ∀ m : Nat, m ≤ 7 → GoodA ((2 ^ m : Nat) : Int) := fun m h => Or.inr (Or.inr ⟨m, by omega, rfl⟩)
 have h3 : ∀ m : Nat, 2 ^ m ≠ 3 := fun m => by
  cases m with
  | zero => decide
  | succ m => rw [Nat.pow_succ]; omega
 have hp1 : ∀ m : Nat, 1 ≤ 2 ^ m := fun m => Nat.two_pow_pos m
 by_cases hN : c.N < 2 ^ m
 · refine Or.inl ⟨3, Or.inl rfl, ?_⟩
   have e : adm c (sumB c s.bl : Nat) (S : Int) ((2 ^ m : Nat) : Int) = (0, 3) := by
    unfold adm
    have e2 : chg c (S : Int) ((2 ^ m : Nat) : Int) = (0, 3) := by
     unfold chg
     rw [if_pos (Or.inr (Or.inr (by omega)))]
    rw [e2]
    rfl
   unfold alignedP
   rw [e]
   rfl
 · have c1 := chg_of hg hS (hp1 m) (h3 m) (by omega)
   have hle : 2 ^ (m - 1) ≤ 2 ^ m := Nat.pow_le_pow_right (by decide) (by omega)
   have c2 := chg_of hg hS (hp1 (m - 1)) (h3 (m - 1)) (by omega)
   by_cases hM : (c.M : Int) < (sumB c s.bl : Nat) + (upN (max (max S (2 ^ m)) c.G) : Nat)
   · refine Or.inl ⟨5, Or.inr rfl, ?_⟩
     have e : adm c (sumB c s.bl : Nat) (S : Int) ((2 ^ m : Nat) : Int) = (0, 5) := by
      unfold adm
      rw [c1]
      simp only [ne_eq, not_true_eq_false, if_false]
      rw [if_pos hM]
     unfold alignedP
     rw [e]
     rfl
   · refine Or.inr ?_
     have hmono : upN (max (max S (2 ^ (m - 1))) c.G) ≤ upN (max (max S (2 ^ m)) c.G) := upN_mono (by omega) (by have := hp1 (m - 1); omega) (by omega)
     have e1 : adm c (sumB c s.bl : Nat) (S : Int) ((2 ^ m : Nat) : Int) = (((upN (max (max S (2 ^ m)) c.G) : Nat) : Int), 0) := by
      unfold adm
      rw [c1]
      simp only [ne_eq, not_true_eq_false, if_false]
      rw [if_neg hM]
     have e2 : adm c (sumB c s.bl : Nat) (S : Int) ((2 ^ (m - 1) : Nat) : Int) = (((upN (max (max S (2 ^ (m - 1))) c.G) : Nat) : Int), 0) := by
      unfold adm
      rw [c2]
      simp only [ne_eq, not_true_eq_false, if_false]
      rw [if_neg (by omega)]
     obtain ⟨k, k1, k2, k3, k4, k5, k6⟩ := adm_ok hg (hga m hm) (show (adm c (sumB c s.bl : Nat) (S : Int) ((2 ^ m : Nat) : Int)).2 = 0 by rw [e1])
     obtain ⟨k', q1, q2, q3, q4, q5, q6⟩ := adm_ok hg (hga (m - 1) (by omega)) (show (adm c (sumB c s.bl : Nat) (S : Int) ((2 ^ (m - 1) : Nat) : Int)).2 = 0 by rw [e2])
     have hkk : c.G * 2 ^ k' ≤ c.G * 2 ^ k := by
      rw [e1] at k1
      rw [e2] at q1
      simp only at k1 q1
      omega
     have hk' : k' ≤ k := by
      have := Nat.le_of_mul_le_mul_left hkk (by have := hg.g1; omega)
      exact (Nat.pow_le_pow_iff_right (by decide : 1 < 2)).1 this
     obtain ⟨i, on', p1, p2⟩ := asks_placed iv ci hP (k := k) (a := S) k2 (by omega) (by omega)
     obtain ⟨i', on'', r1, r2⟩ := asks_placed iv ci hP (k := k') (a := S) q2 (by omega) (by omega)
     refine ⟨k, i, on', p1, ?_, by omega, ?_, k', i', on'', ?_, ?_⟩
     · unfold alignedP
       rw [e1] at k1 ⊢
       simp only at k1 ⊢
       rw [k1]
       exact p2
     · obtain ⟨g, pg, kk, g1, _⟩ := hg.pow
       have : 2 ^ m ≤ 2 ^ (g + k) := by rw [Nat.pow_add, ← g1]; omega
       have h4 : m ≤ g + k := (Nat.pow_le_pow_iff_right (by decide : 1 < 2)).1 this
       have h5 : i * 2 ^ k * c.G = i * 2 ^ (g + k) := by rw [g1, Nat.mul_assoc, ← Nat.pow_add, Nat.add_comm k g]
       rw [h5]
       exact Nat.dvd_trans (Nat.pow_dvd_pow 2 h4) (Nat.dvd_mul_left _ _)
     · exact Nat.mul_le_mul_right _ (low_mono hg hk' p1.low r1.low)
     · unfold alignedP
       rw [e2] at q1 ⊢
       simp only at q1 ⊢
       rw [q1]
       exact r2
end Go.Proofs.YtmookafmdonopaaGreat.Top
