/- Plain facts that the laws on words share: that package word answers at all, and counts of pieces. -/
import Derived.Test.YtflmdnjcniidgaaWordFns
import Derived.OpenShut
set_option linter.unusedVariables false
set_option linter.unusedSimpArgs false
set_option linter.unnecessarySimpa false
namespace Go.Proofs.Ytflmdnjcniidgaa.WL
open Go.RowKit Go.Proofs.Ytflmdnjcniidgaa.PWord Go.Proofs.YtflmdnjcniidgaaW.PrintWords Go.Proofs.YtflmdnjcniidgaaW.PrintLast Go.Proofs.YtflmdnjcniidgaaW.PrintMore Go.Proofs.Ytflmdnjcniidgaa.Bt Go.Proofs.Ytflmdnjcniidgaa.WFWord

theorem lawBegun_at : hodmanlaw3_begun.f 70 = some true := by decide +kernel
theorem lawBegun (k : Nat) (hk : 70 ≤ k) : hodmanlaw3_begun.f k = some true := at_rounds hodmanlaw3_begun.mono hk lawBegun_at
theorem wf_u64 {a : Int} (h : (Lit.int .u64 a).wf = true) : ∃ u : Nat, a = (u : Int) ∧ u < 2 ^ 64 := by
  have := bounds_u64 h
  exact ⟨a.toNat, by omega, by omega⟩
theorem wf_u8 {a : Int} (h : (Lit.int .u8 a).wf = true) : ∃ u : Nat, a = (u : Int) ∧ u < 256 := by
  have := bounds_u8 h
  exact ⟨a.toNat, by omega, by omega⟩
theorem tmod_nat (a b : Nat) (hb : b ≤ 1000) (h0 : b ≠ 0) : wrap64 (Int.tmod (a : Int) (b : Int)) = ((a % b : Nat) : Int) := by
  have : Int.tmod (a : Int) (b : Int) = ((a % b : Nat) : Int) := rfl
  rw [this]
  have := Nat.mod_lt a (Nat.pos_of_ne_zero h0)
  exact wrapi_in (by omega) (by omega)
/-- only those below i -/
theorem cnt_cut (p : Nat → Bool) (i : Nat) : ∀ n, cnt (fun j => p j && decide (j < i)) n = cnt p (min i n)
  | 0 => by simp [cnt]
  | n + 1 => by
    rw [cnt_step, cnt_cut p i n]
    by_cases h : n < i
    · rw [Nat.min_eq_right (by omega), Nat.min_eq_right (by omega), cnt_step]
      simp [h]
    · rw [Nat.min_eq_left (by omega), Nat.min_eq_left (by omega)]
      simp [h]
theorem cnt_true : ∀ n, cnt (fun _ => true) n = n := fun n => cnt_all n fun _ _ => rfl
/-- a stretch -/
theorem cnt_between (a b : Nat) (h : a ≤ b) : ∀ n, cnt (fun k => decide (a ≤ k) && decide (k < b)) n = min b n - min a n
  | 0 => by simp [cnt]
  | n + 1 => by
    rw [cnt_step, cnt_between a b h n]
    by_cases h1 : a ≤ n <;> by_cases h2 : n < b <;> simp [h1, h2] <;> omega
theorem mask_cnt (x y : Nat) : cnt (mask x y).testBit 64 = min (x + y) 64 - min x 64 := by
  rw [← cnt_between x (x + y) (by omega) 64]
  refine cnt_congr 64 fun i hi => ?_
  rw [mask_bit]
  simp [hi]
theorem and_zero_cut {u : Nat} (hu : u < 2 ^ 64) (i : Nat) (hi : i ≤ 64) : cnt (u &&& mask 0 i).testBit 64 = cnt u.testBit i := by
  have h := cnt_cut u.testBit i 64
  rw [Nat.min_eq_left hi] at h
  rw [← h]
  refine cnt_congr 64 fun j hj => ?_
  rw [Nat.testBit_and, mask_bit]
  simp [hj]
theorem and_lt {u v : Nat} (hu : u < 2 ^ 64) : u &&& v < 2 ^ 64 := Nat.lt_of_le_of_lt Nat.and_le_left hu

end Go.Proofs.Ytflmdnjcniidgaa.WL
