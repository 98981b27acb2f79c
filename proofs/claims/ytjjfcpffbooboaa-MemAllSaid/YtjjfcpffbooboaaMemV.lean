/- A string made of a row that may be another one: told where what it holds is told. -/
import Derived.Test.YtjjfcpffbooboaaWWords
import Derived.Test.YtjjfcpffbooboaaWMore
set_option linter.unusedVariables false
set_option linter.unusedSimpArgs false
namespace Go.Proofs.Ytjjfcpffbooboaa.MemV
open Go Go.RowKit Go.Proofs.YtjjfcpffbooboaaW.PrintWords

theorem V_string {P : Program} {W : World} {src e dst : TypeId} {e0 base : Nat} {ok : Nat → Prop} {v : Value} {xs : List Int} (hs : P.underlying src = some (.slice e)) (he : P.underlying e = some (.int .u8)) (hd : P.underlying dst = some .string)
    (h : Kd.V (Kd.int .u8) e0 W base ok v xs) : (convert src dst v).run P W = .ok (.string (strOfNums xs)) W := by
  obtain ⟨A, c, rfl, hc, hf⟩ := h
  exact Kd.C_string hs he hd (Kd.F_now hf)

theorem undef_bool {b : Bool} (h : some undef = some (Value.bool b)) : False := by
  have h2 := Option.some.inj h
  unfold undef at h2
  cases h2

end Go.Proofs.Ytjjfcpffbooboaa.MemV
