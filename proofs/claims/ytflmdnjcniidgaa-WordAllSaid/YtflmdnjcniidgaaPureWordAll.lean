/- WordAll, the plain part: package word answers what the reference answers, for every word and any two numbers. -/
import Derived.Test.YtflmdnjcniidgaaWordLaws
set_option linter.unusedVariables false
set_option linter.unusedSimpArgs false
namespace Go.Proofs.Ytflmdnjcniidgaa.Pure
open Go.RowKit Go.Proofs.Ytflmdnjcniidgaa.PWord Go.Proofs.YtflmdnjcniidgaaW.PrintWords Go.Proofs.YtflmdnjcniidgaaW.PrintLast Go.Proofs.YtflmdnjcniidgaaW.PrintMore Go.Proofs.Ytflmdnjcniidgaa.Bt Go.Proofs.Ytflmdnjcniidgaa.WFWord Go.Proofs.Ytflmdnjcniidgaa.WL

theorem bits_i64_le (op : BinOp) (x y : Int) : Go.bits op .i64 x y ≤ 9223372036854775807 := by
  have h : ∀ z : Int, IntKind.i64.wrap z ≤ 9223372036854775807 := by
    intro z
    rw [IntKind.wrap_i64]
    omega
  exact h _
theorem all_end (k : Nat) (hk : 70 ≤ k) (i n : Int) (hi : i ≤ 9223372036854775807) (hn : n ≤ 9223372036854775807) (l : List Int) :
    hodmanlaw3_WordAll.l0 (k + 1) i n l 5 = some true := by
  simp only [hodmanlaw3_WordAll.l0]
  rw [if_neg (by decide), mask_ i n hi hn k hk, ref_mask i n hi hn k hk, mask_ _ _ (bits_i64_le _ _ _) (bits_i64_le _ _ _) k hk, ref_mask _ _ (bits_i64_le _ _ _) (bits_i64_le _ _ _) k hk]
  simp only [Option.bind_some, if_true]
  exact congrArg some (beq_iff_eq.mpr rfl)
theorem all_l (i n : Int) (hi : i ≤ 9223372036854775807) (hn0 : -9223372036854775808 ≤ n) (hn : n ≤ 9223372036854775807) (l : List Int) (hl : l.length = 5) (hu : ∀ j : Nat, j < 5 → ∃ u : Nat, rd l (j : Int) = (u : Int) ∧ u < 2 ^ 64) (d : Nat) :
    ∀ k j : Nat, j + d = 5 → 200 + d ≤ k → hodmanlaw3_WordAll.l0 (k + 1) i n l (j : Int) = some true := by
  induction d with
  | zero =>
    intro k j hj hk
    obtain rfl : j = 5 := by omega
    exact all_end k (by omega) i n hi hn l
  | succ d ih =>
    intro k j hj hk
    obtain ⟨k, rfl⟩ : ∃ m, k = m + 1 := ⟨k - 1, by omega⟩
    obtain ⟨u, e, hu⟩ := hu j (by omega)
    rw [hodmanlaw3_WordAll.l0.eq_2]
    rw [if_pos (by omega), if_pos (by omega), if_pos (by omega), e]
    have w9 : wrap64 ((j : Int) * 9) = (j : Int) * 9 := wrapi_in (by omega) (by omega)
    have w1 : wrap64 ((j : Int) + 1) = ((j + 1 : Nat) : Int) := wrapi_in (by omega) (by omega)
    rw [w9, w1, low hu (k + 1) (by omega), ref_low hu (k + 1) (by omega), lowz hu (k + 1) (by omega), ref_lowz hu (k + 1) (by omega), ones hu (k + 1) (by omega), ref_ones hu (k + 1) (by omega), nth_ hu n hn (k + 1) (by omega), ref_nth hu n hn0 hn (k + 1) (by omega), nth_ hu _ (by omega) (k + 1) (by omega), ref_nth hu _ (by omega) (by omega) (k + 1) (by omega)]
    simp only [Option.bind_some, if_true]
    exact ih k (j + 1) (by omega) (by omega)
theorem WordAll : hodmanlaw3_WordAll.Pure := by
  intro a i n ha hi hn
  obtain ⟨u, rfl, hu⟩ := wf_u64 ha
  have bi := bounds_i64 hi
  have bn := bounds_i64 hn
  refine ⟨301, ?_⟩
  unfold hodmanlaw3_WordAll.f
  rw [lawBegun 301 (by omega)]
  simp only [Option.bind_some, if_true]
  refine all_l i n (by omega) (by omega) (by omega) _ rfl (fun j hj => ?_) 5 300 0 (by omega) (by omega)
  have hd : u / 1152921504606846976 < 2 ^ 64 := Nat.lt_of_le_of_lt (Nat.div_le_self _ _) hu
  match j, hj with
  | 0, _ => exact ⟨u, rfl, hu⟩
  | 1, _ => exact ⟨_, not_ hu, not_lt hu⟩
  | 2, _ => exact ⟨_, and_ (v := 255) hu (by decide), and_lt hu⟩
  | 3, _ =>
    refine ⟨(u * 1152921504606846976) % 2 ^ 64, ?_, Nat.mod_lt _ (by decide)⟩
    rw [← wrapu_nat]
    rfl
  | 4, _ => exact ⟨u / 1152921504606846976, rfl, hd⟩

end Go.Proofs.Ytflmdnjcniidgaa.Pure
