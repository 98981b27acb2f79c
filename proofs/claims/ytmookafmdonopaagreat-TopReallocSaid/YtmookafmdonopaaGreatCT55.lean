/- Plainly: a Realloc answers as a Malloc behind a Free. -/
import Derived.Test.YtmookafmdonopaaGreatM34
namespace Go.Proofs.YtmookafmdonopaaGreat.Top
open Go Go.RowKit
set_option linter.unusedVariables false
set_option linter.unusedSimpArgs false

theorem realloc_as {c : Cf} {s : Hs} (iv : Iv c s) {b : Bk} (hb : b ∈ s.bl) (S : Int) : (reallocP c s b S).2 = (alignedP c (s.without b) S 1).2 ∧ ((reallocP c s b S).2.err ≠ 0 → (reallocP c s b S).1 = s) ∧ ((reallocP c s b S).2.err = 0 → (reallocP c s b S).1 = (alignedP c (s.without b) S 1).1) := by
 have e := sum_without iv hb
 unfold reallocP alignedP
 rw [e]
 obtain ⟨ad, had⟩ : ∃ x, x = adm c ((sumB c (s.without b).bl : Nat) : Int) S 1 := ⟨_, rfl⟩
 rw [← had]
 by_cases h0 : ad.2 ≠ 0
 · rw [if_pos h0]
   have e2 : asksP c (s.without b) ad.1 S ad.2 = (s.without b, An.no ad.2) := by unfold asksP; rw [if_pos h0]
   rw [e2]
   exact ⟨rfl, fun _ => rfl, fun h => absurd h h0⟩
 · rw [if_neg h0]
   have e3 : ad.2 = 0 := Decidable.byContradiction h0
   rw [e3]
   by_cases h1 : (asksP c (s.without b) ad.1 S 0).2.err ≠ 0
   · rw [if_pos h1]
     exact ⟨rfl, fun _ => rfl, fun h => absurd h h1⟩
   · rw [if_neg h1]
     exact ⟨rfl, fun h => absurd h h1, fun _ => rfl⟩
end Go.Proofs.YtmookafmdonopaaGreat.Top
