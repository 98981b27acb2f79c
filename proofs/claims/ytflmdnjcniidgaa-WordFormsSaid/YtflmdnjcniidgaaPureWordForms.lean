/- WordForms, the plain part: what some words are, at closed numbers: computed. -/
import Derived.Test.YtflmdnjcniidgaaPWordx
namespace Go.Proofs.Ytflmdnjcniidgaa.Pure
open Go.RowKit Go.Proofs.Ytflmdnjcniidgaa.PWord

theorem WordForms : hodmanlaw3_WordForms.Pure := ⟨200, by decide +kernel⟩

end Go.Proofs.Ytflmdnjcniidgaa.Pure
