/- RowFirst, the plain part: the first one that is not set is not, and all ahead of it are. -/
import Derived.Test.YtgbkdmcbdilgaaaRowFns
set_option linter.unusedVariables false
set_option linter.unusedSimpArgs false
namespace Go.Proofs.Ytgbkdmcbdilgaaa.Pure
open Go.RowKit Go.Proofs.Ytgbkdmcbdilgaaa Go.Proofs.Ytgbkdmcbdilgaaa.PRow Go.Proofs.YtgbkdmcbdilgaaaW.PrintWords Go.Proofs.YtgbkdmcbdilgaaaW.PrintLast Go.Proofs.YtgbkdmcbdilgaaaW.PrintMore Go.Proofs.Ytgbkdmcbdilgaaa.RF

theorem rowBegun_at : hodmanlaw4_begun.f 200 = some true := by decide +kernel
theorem rowBegun (k : Nat) (hk : 200 ≤ k) : hodmanlaw4_begun.f k = some true := at_rounds hodmanlaw4_begun.mono hk rowBegun_at
theorem row_u16 {a : Int} (h : (Lit.int .u16 a).wf = true) : ∃ u : Nat, a = (u : Int) ∧ u < 65536 := by
  have := bounds_u16 h
  exact ⟨a.toNat, by omega, by omega⟩
theorem RowFirst : hodmanlaw4_RowFirst.Pure := by
  intro l a1 a2 _ _ _ h1 h2
  obtain ⟨u1, rfl, hu1⟩ := row_u16 h1
  obtain ⟨u2, rfl, hu2⟩ := row_u16 h2
  obtain ⟨K, hK⟩ : ∃ K, K = 3000 := ⟨_, rfl⟩
  refine ⟨K, ?_⟩
  unfold hodmanlaw4_RowFirst.f
  rw [rowBegun K (by omega), Option.bind_some, if_pos rfl]
  by_cases h100 : (l.length : Int) > 100
  · rw [if_pos h100]
  · rw [if_neg h100]
    obtain ⟨us, hw, hF, hl⟩ := words l (by omega) K (by omega)
    have hs := Nat.mod_lt u1 (show 0 < 900 by decide)
    have hf := Nat.mod_lt u2 (show 0 < 900 by decide)
    have e1 : wrap64 (Int.tmod (u1 : Int) 900) = ((u1 % 900 : Nat) : Int) := rn rfl (by omega)
    have e2 : wrap64 (Int.tmod (u2 : Int) 900) = ((u2 % 900 : Nat) : Int) := rn rfl (by omega)
    rw [hw, Option.bind_some, e1, e2, W_len]
    generalize u1 % 900 = s at hs ⊢
    generalize u2 % 900 = f at hf ⊢
    obtain ⟨r, hr, hFd⟩ := first us hF s f (by omega) (by omega) (by omega) K (by omega)
    obtain ⟨e, he⟩ : ∃ e, e = min s (64 * us.length) := ⟨_, rfl⟩
    have e3 : mn (s : Int) (wrap64 (64 * (us.length : Int))) = (e : Int) := by
      rw [rn (n := 64 * (us.length : Int)) (m := 64 * us.length) (by omega) (by omega)]
      unfold mn
      split <;> omega
    rw [hr, Option.bind_some, e3]
    clear e1 e2 e3 hr hw h1 h2
    rcases hFd with ⟨rfl, hall⟩ | ⟨a, rfl, ha1, _, ha2, ha3, ha4, ha5⟩
    · dsimp only
      rw [if_neg Bool.false_ne_true, if_pos rfl]
      by_cases h3 : e ≤ f
      · rw [if_pos (by omega)]
      · rw [if_neg (by omega), rn (n := (e : Int) - (f : Int)) (m := e - f) (by omega) (by omega), count_all us hF (by omega) f (e - f) (by omega) (fun j h4 h5 => hall j h4 (by omega) (by omega) (by omega)), Option.bind_some]
        exact congrArg some (beq_self_eq_true _)
    · dsimp only
      rw [if_pos rfl, if_pos (by omega), if_pos (by omega), has_ us hF (by omega) a ha3, Option.bind_some, ha4, if_neg (by decide), rn (n := (a : Int) - (f : Int)) (m := a - f) (by omega) (by omega), count_all us hF (by omega) f (a - f) (by omega) (fun j h4 h5 => ha5 j h4 (by omega) (by omega)), Option.bind_some]
      exact congrArg some (beq_self_eq_true _)

end Go.Proofs.Ytgbkdmcbdilgaaa.Pure
