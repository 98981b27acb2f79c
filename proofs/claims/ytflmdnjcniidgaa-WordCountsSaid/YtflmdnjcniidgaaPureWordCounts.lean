/- WordCounts, the plain part: Nth counts what Ones counts, for every word. -/
import Derived.Test.YtflmdnjcniidgaaWordLaws
set_option linter.unusedVariables false
set_option linter.unusedSimpArgs false
namespace Go.Proofs.Ytflmdnjcniidgaa.Pure
open Go.RowKit Go.Proofs.Ytflmdnjcniidgaa.PWord Go.Proofs.YtflmdnjcniidgaaW.PrintWords Go.Proofs.YtflmdnjcniidgaaW.PrintLast Go.Proofs.YtflmdnjcniidgaaW.PrintMore Go.Proofs.Ytflmdnjcniidgaa.Bt Go.Proofs.Ytflmdnjcniidgaa.WFWord Go.Proofs.Ytflmdnjcniidgaa.WL

theorem counts_end {u : Nat} (hu : u < 2 ^ 64) (k : Nat) (hk : 150 ≤ k) (x : Int) (hx : 66 ≤ x) :
    hodmanlaw3_WordCounts.l0 (k + 1) (u : Int) ((cnt u.testBit 64 : Nat) : Int) x = some true := by
  have hc := cnt_le u.testBit 64
  have hn := cnt_not u.testBit 64
  simp only [hodmanlaw3_WordCounts.l0]
  rw [if_neg (by omega), nth_ hu 0 (by omega) k (by omega), low hu k (by omega), lowz hu k (by omega), not_ hu, low (not_lt hu) k (by omega), ones (not_lt hu) k (by omega)]
  simp only [Option.bind_some]
  rw [fst_not, cnt_not_]
  have e : nthI u 0 = fst u.testBit 64 := by
    unfold nthI
    rw [if_neg (by omega)]
    exact nth_zero _ _
  rw [e, if_pos rfl, if_pos rfl, wrapi_in (by omega) (by omega)]
  exact congrArg some (beq_iff_eq.mpr (by omega))
theorem counts_l {u : Nat} (hu : u < 2 ^ 64) (d : Nat) : ∀ (k x : Nat), x + d = 66 → 150 + 2 * d ≤ k →
    hodmanlaw3_WordCounts.l0 (k + 1) (u : Int) ((cnt u.testBit 64 : Nat) : Int) (x : Int) = some true := by
  induction d with
  | zero => intro k x hx hk; exact counts_end hu k (by omega) x (by omega)
  | succ d ih =>
    intro k x hx hk
    obtain ⟨k, rfl⟩ : ∃ m, k = m + 2 := ⟨k - 2, by omega⟩
    have hc := cnt_le u.testBit 64
    have hle := nth_le u.testBit x 64
    have hI : nthI u (x : Int) = nth u.testBit x 64 := by unfold nthI; rw [if_neg (by omega)]; rfl
    rw [hodmanlaw3_WordCounts.l0.eq_2]
    rw [if_pos (by omega), nth_ hu x (by omega) (k + 2) (by omega)]
    simp only [Option.bind_some]
    rw [hI]
    have hnext : hodmanlaw3_WordCounts.l0 (k + 1) (u : Int) ((cnt u.testBit 64 : Nat) : Int) (wrap64 ((x : Int) + 1)) = some true := by
      rw [wrapi_in (by omega) (by omega)]
      exact ih k (x + 1) (by omega) (by omega)
    rcases nth_spec u.testBit x 64 with ⟨h1, h2, h3⟩ | ⟨h1, h2⟩
    · have hlt := cnt_lt h1 h2
      have hA : (((nth u.testBit x 64 : Nat) : Int) == 64) = false := beq_eq_false_iff_ne.mpr (by omega)
      have hB : decide ((x : Int) ≥ ((cnt u.testBit 64 : Nat) : Int)) = false := decide_eq_false (by omega)
      rw [hA, hB, if_neg (by decide), if_neg (by omega)]
      have hd : decide (((nth u.testBit x 64 : Nat) : Int) > 64) = false := by simp; omega
      rw [hd]
      rw [hodmanlaw3_WordCounts.j1.eq_2]
      rw [if_neg (by decide), if_pos (by omega), if_pos (by omega), bit_test hu _ h1, h2, if_pos (by rfl)]
      have hm := mask_ 0 ((nth u.testBit x 64 : Nat) : Int) (by omega) (by omega) (k + 1) (by omega)
      rw [show ((0 : Int)) = ((0 : Nat) : Int) from rfl, maskI_nat] at hm
      rw [show ((0 : Int)) = ((0 : Nat) : Int) from rfl, hm]
      simp only [Option.bind_some]
      rw [and_ hu (mask_lt _ _), ones (and_lt hu) (k + 1) (by omega)]
      simp only [Option.bind_some]
      rw [and_zero_cut hu _ (by omega), if_pos (by omega)]
      exact hnext
    · rw [h1]
      have hB : decide ((x : Int) ≥ ((cnt u.testBit 64 : Nat) : Int)) = true := decide_eq_true (by omega)
      rw [hB, if_neg (by decide), if_neg (by decide)]
      have hd : decide (((64 : Nat) : Int) > 64) = false := by decide
      rw [hd]
      rw [hodmanlaw3_WordCounts.j1.eq_2]
      rw [if_neg (by decide), if_neg (by decide)]
      exact hnext
theorem WordCounts : hodmanlaw3_WordCounts.Pure := by
  intro a hwf
  obtain ⟨u, rfl, hu⟩ := wf_u64 hwf
  refine ⟨301, ?_⟩
  unfold hodmanlaw3_WordCounts.f
  rw [lawBegun 301 (by omega), ones hu 301 (by omega)]
  simp only [Option.bind_some, if_true]
  exact counts_l hu 66 300 0 (by omega) (by omega)

end Go.Proofs.Ytflmdnjcniidgaa.Pure
