/- Cells of a row of the call's own written one behind the other: what the row then holds. -/
import Derived.Test.YtjjfcpffbooboaaWWords
import Derived.Test.YtjjfcpffbooboaaWMore
import Derived.Lib.SliceRun
set_option linter.unusedVariables false
set_option linter.unusedSimpArgs false
namespace Go.Proofs.Ytjjfcpffbooboaa.MemW
open Go Go.RowKit Go.Proofs.YtjjfcpffbooboaaW.PrintWords

/-- a list with others written over it from a place on -/
def putL {α : Type} : List α → Nat → List α → List α
  | l, _, [] => l
  | l, o, v :: r => putL (l.set o v) (o + 1) r
theorem R_setCells {α : Type} {enc : α → Value} {h1 : ∀ x, (enc x).oneCell' = true} {e : Nat} {base : Nat} {ok : Nat → Prop} {g n cap : Nat} : ∀ (vs : List α) (o : Nat) (W : World) (xs : List α), Kd.R (Kd.scalar enc h1) e W base ok (.slice (some ⟨g, 0, none⟩) n cap) xs →
    Kd.R (Kd.scalar enc h1) e (W.setCells g o (vs.map enc)) base ok (.slice (some ⟨g, 0, none⟩) n cap) (putL xs o vs)
  | [], _, _, _, h => h
  | v :: r, o, W, xs, h => by
    have h2 := Kd.R_putn h (o : Int) v
    rw [Int.toNat_natCast] at h2
    exact R_setCells r (o + 1) _ _ h2
theorem below_setCells {base : Nat} {w0 : World} {g : Nat} (hg : base ≤ g) : ∀ (vs : List Value) (o : Nat) (W : World), Below base w0 W → Below base w0 (W.setCells g o vs)
  | [], _, _, h => h
  | v :: r, o, W, h => below_setCells hg r (o + 1) _ (h.setCell hg _)

end Go.Proofs.Ytjjfcpffbooboaa.MemW
