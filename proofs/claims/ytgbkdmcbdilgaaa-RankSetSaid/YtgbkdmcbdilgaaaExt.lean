/- Small laws that the walks of this session's texts lean on: a slice held against nil. -/
import Derived.Test.YtgbkdmcbdilgaaaWWords
import Derived.Test.YtgbkdmcbdilgaaaWMore
import Derived.Lib.SliceRun
set_option linter.unusedVariables false
set_option linter.unusedSimpArgs false
namespace Go.Proofs.Ytgbkdmcbdilgaaa.Ext
open Go Go.RowKit Go.Proofs.YtgbkdmcbdilgaaaW.PrintWords

theorem C_none {α : Type} {d : Kd α} {w : World} {n : Nat} {xs : List α} (h : Kd.C d w none n xs) : xs = [] := by
  cases xs with
  | nil => rfl
  | cons x xs =>
    obtain ⟨h1, _, h3⟩ := h
    simp at h1
    obtain ⟨_, hh, _⟩ := h3 (by omega)
    cases hh

end Go.Proofs.Ytgbkdmcbdilgaaa.Ext
