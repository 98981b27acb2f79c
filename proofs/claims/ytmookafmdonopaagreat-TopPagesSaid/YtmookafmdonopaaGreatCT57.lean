/- Two heaps and a slice of one's own beside them. -/
import Derived.Test.YtmookafmdonopaaGreatCT56
namespace Go.Proofs.YtmookafmdonopaaGreat.Top
open Go Go.RowKit
set_option linter.unusedVariables false
set_option linter.unusedSimpArgs false

theorem HW2.opn {h x : Nat} {c : Cf} {s s2 : Hs} {mem mem2 : List Nat} {L : List (Nat × (Obj → Prop))} {R : World → Prop} {w0 w : World} (H : HW2 h x c s mem s2 mem2 L R w0 w) :
 ∃ (Q : List (Nat × (Obj → Prop))) (R' : World → Prop), Own [] (Q ++ L) R' w0 w ∧ ∀ (L' : List (Nat × (Obj → Prop))) (w' : World), Own [] (Q ++ L') R' w0 w' → HW2 h x c s mem s2 mem2 L' R w0 w' := by
 obtain ⟨d2, a2, b2, c2, H⟩ := H
 obtain ⟨a, d, b1, b2', b3⟩ := H.opn
 refine ⟨hO h c s mem d ++ hO x c s2 mem2 d2, _, by rw [List.append_assoc]; exact b3, fun L' w' ho => ⟨d2, a2, b2, c2, HW.mk a b1 b2' ?_⟩⟩
 rw [List.append_assoc] at ho
 exact ho
theorem HW2.join {h x : Nat} {c : Cf} {s s2 : Hs} {mem mem2 : List Nat} {L G : List (Nat × (Obj → Prop))} {R : World → Prop} {w0 w : World} {e sz n : Nat} {v : Value} {xs : List Value} (hs : SG w0 e sz v n xs G) (H : HW2 h x c s mem s2 mem2 (G ++ L) R w0 w) :
 ∃ (Q : List (Nat × (Obj → Prop))) (R' : World → Prop), OwnS [] (Q ++ L) R' w0 w e sz v n xs ∧ ∀ (n' : Nat) (v' : Value) (xs' : List Value) (w' : World), OwnS [] (Q ++ L) R' w0 w' e sz v' n' xs' → ∃ G', SG w0 e sz v' n' xs' G' ∧ HW2 h x c s mem s2 mem2 (G' ++ L) R w0 w' := by
 obtain ⟨Q, R', h1, h2⟩ := H.opn
 refine ⟨Q, R', hs.join (h1.permL ?_), fun n' v' xs' w' k => ?_⟩
 · rw [← List.append_assoc, ← List.append_assoc]
   exact List.perm_append_comm.append_right _
 · obtain ⟨G', g1, g2⟩ := k.split
   refine ⟨G', g1, h2 _ _ (g2.permL ?_)⟩
   rw [← List.append_assoc, ← List.append_assoc]
   exact List.perm_append_comm.append_right _
end Go.Proofs.YtmookafmdonopaaGreat.Top
