/- PinForms, the plain part: which pages some blocks meet, at closed lists: computed. -/
import Derived.Test.YtflmdnjcniidgaaPPinx
namespace Go.Proofs.Ytflmdnjcniidgaa.Pure
open Go.RowKit Go.Proofs.Ytflmdnjcniidgaa.PPin

theorem PinForms : hodmanlaw12_PinForms.Pure := ⟨100, by decide +kernel⟩

end Go.Proofs.Ytflmdnjcniidgaa.Pure
