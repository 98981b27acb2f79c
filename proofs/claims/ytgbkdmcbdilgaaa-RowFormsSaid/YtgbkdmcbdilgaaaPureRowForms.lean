/- RowForms, the plain part: what some rows are, at closed lists: computed. -/
import Derived.Test.YtgbkdmcbdilgaaaPRowx7
namespace Go.Proofs.Ytgbkdmcbdilgaaa.Pure
open Go.RowKit Go.Proofs.Ytgbkdmcbdilgaaa.PRow

theorem RowForms : hodmanlaw4_RowForms.Pure := by
  unfold hodmanlaw4_RowForms.Pure
  exact ⟨200, by decide +kernel⟩

end Go.Proofs.Ytgbkdmcbdilgaaa.Pure
