/- JunkForms, the plain part: what stands in some fresh pages, at closed lists: computed. -/
import Derived.Test.YtflmdnjcniidgaaPJunkx
namespace Go.Proofs.Ytflmdnjcniidgaa.Pure
open Go.RowKit Go.Proofs.Ytflmdnjcniidgaa.PJunk

theorem JunkForms : hodmanlaw14_JunkForms.Pure := ⟨40, by decide +kernel⟩

end Go.Proofs.Ytflmdnjcniidgaa.Pure
