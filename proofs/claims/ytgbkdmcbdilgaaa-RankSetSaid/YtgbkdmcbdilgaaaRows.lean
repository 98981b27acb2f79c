/-
  No cell of these rows narrows 'for every input' (looked for: loops, veiled, ifaces, maps, wideKeys, modest, calm, conditions, laid).
  DERIVED. THE GIVEN ROWS OF THIS SEAT. 6 by the template 'for every input the law returns true; each argument reads behind the call as it read before'; 0 by the template 'total and deterministic' (their statements: YtgbkdmcbdilgaaaTotals.lean).
  GIVEN WITH THE SEED: the statements are not yours to turn. If you find one false, say at which input.
  Laid BY PROGRAM, IN A SANDBOX (cutbox-rows.mjs): the forced cells as the released guide's own fill.sh prints them over the translation fabf6051ff30fd1e… (all of the seat's roots in one cut). By AI agents, Wed Nov 11 2026. No macro, syntax, notation, axiom, sorry.
-/
import Derived.Test.YtgbkdmcbdilgaaaChecked
import GoSem.Claim
import GoSem.ClaimJoined
import GoSem.ClaimMapViews
import Derived.JoinedTies
import Derived.KernelRfl
namespace Go.Proofs.Ytgbkdmcbdilgaaa
/- THE CELL 'sum', in the pinned program and in every row, IS THE sha256 OF THE DUMP (.gsa) THAT YtgbkdmcbdilgaaaProg.lean LOADS. Nothing in Lean hashes anything: it is a label: what it is worth is what the hold of that sum in a sandbox is worth. -/
noncomputable def Try.pinned : Pinned := { name := "ytgbkdmcbdilgaaa", sum := "fabf6051ff30fd1e814033ac904e1da4a7a61e70a82d1a80e5c91d076f5942f0", checked := Try.checked }
namespace Rows
def none {H : Type} : Left H := { results := [], args := [] }

/-- 'hodmanlaw6.RankAll': WHATEVER THE INPUT: true; the input reads as it did. -/
def rankAllSpec : ChangeSpec := { name := "rankAll", fn := fun _ => fun
  | [d1, d2, d3] => { results := [.lit (.bool true)], args := [d1, d2, d3] }
  | _ => none }
def rankAllRow : OpenClaim := { program := "ytgbkdmcbdilgaaa", sum := "fabf6051ff30fd1e814033ac904e1da4a7a61e70a82d1a80e5c91d076f5942f0", func := "hodman/hodmanlaw6.RankAll", spec := "rankAll", apart := false }
def RankAllSaid : Prop := rankAllRow.holds Try.pinned (OpenSpec.ofChange rankAllSpec)

/-- ITS FALSE NEIGHBOUR: 'it returns false'. Refute it at one input. -/
def rankAllWrong : ChangeSpec := { name := "rankAll", fn := fun _ => fun
  | [d1, d2, d3] => { results := [.lit (.bool false)], args := [d1, d2, d3] }
  | _ => none }
def RankAllWrongFalsely : Prop := rankAllRow.holds Try.pinned (OpenSpec.ofChange rankAllWrong)

/-- 'hodmanlaw6.RankBack': WHATEVER THE INPUT: true; the input reads as it did. -/
def rankBackSpec : ChangeSpec := { name := "rankBack", fn := fun _ => fun
  | [d1, d2, d3] => { results := [.lit (.bool true)], args := [d1, d2, d3] }
  | _ => none }
def rankBackRow : OpenClaim := { program := "ytgbkdmcbdilgaaa", sum := "fabf6051ff30fd1e814033ac904e1da4a7a61e70a82d1a80e5c91d076f5942f0", func := "hodman/hodmanlaw6.RankBack", spec := "rankBack", apart := false }
def RankBackSaid : Prop := rankBackRow.holds Try.pinned (OpenSpec.ofChange rankBackSpec)

/-- ITS FALSE NEIGHBOUR: 'it returns false'. Refute it at one input. -/
def rankBackWrong : ChangeSpec := { name := "rankBack", fn := fun _ => fun
  | [d1, d2, d3] => { results := [.lit (.bool false)], args := [d1, d2, d3] }
  | _ => none }
def RankBackWrongFalsely : Prop := rankBackRow.holds Try.pinned (OpenSpec.ofChange rankBackWrong)

/-- 'hodmanlaw6.RankForms': WHATEVER THE INPUT: true; the input reads as it did. -/
def rankFormsSpec : ChangeSpec := { name := "rankForms", fn := fun _ => fun
  | [] => { results := [.lit (.bool true)], args := [] }
  | _ => none }
def rankFormsRow : OpenClaim := { program := "ytgbkdmcbdilgaaa", sum := "fabf6051ff30fd1e814033ac904e1da4a7a61e70a82d1a80e5c91d076f5942f0", func := "hodman/hodmanlaw6.RankForms", spec := "rankForms", apart := false }
def RankFormsSaid : Prop := rankFormsRow.holds Try.pinned (OpenSpec.ofChange rankFormsSpec)

/-- ITS FALSE NEIGHBOUR: 'it returns false'. Refute it at one input. -/
def rankFormsWrong : ChangeSpec := { name := "rankForms", fn := fun _ => fun
  | [] => { results := [.lit (.bool false)], args := [] }
  | _ => none }
def RankFormsWrongFalsely : Prop := rankFormsRow.holds Try.pinned (OpenSpec.ofChange rankFormsWrong)

/-- 'hodmanlaw4.RowFirst': WHATEVER THE INPUT: true; the input reads as it did. -/
def rowFirstSpec : ChangeSpec := { name := "rowFirst", fn := fun _ => fun
  | [d1, d2, d3] => { results := [.lit (.bool true)], args := [d1, d2, d3] }
  | _ => none }
def rowFirstRow : OpenClaim := { program := "ytgbkdmcbdilgaaa", sum := "fabf6051ff30fd1e814033ac904e1da4a7a61e70a82d1a80e5c91d076f5942f0", func := "hodman/hodmanlaw4.RowFirst", spec := "rowFirst", unfollowed := true, recurses := true, apart := false }
def RowFirstSaid : Prop := rowFirstRow.holds Try.pinned (OpenSpec.ofChange rowFirstSpec)

/-- ITS FALSE NEIGHBOUR: 'it returns false'. Refute it at one input. -/
def rowFirstWrong : ChangeSpec := { name := "rowFirst", fn := fun _ => fun
  | [d1, d2, d3] => { results := [.lit (.bool false)], args := [d1, d2, d3] }
  | _ => none }
def RowFirstWrongFalsely : Prop := rowFirstRow.holds Try.pinned (OpenSpec.ofChange rowFirstWrong)

/-- 'hodmanlaw4.RowForms': WHATEVER THE INPUT: true; the input reads as it did. -/
def rowFormsSpec : ChangeSpec := { name := "rowForms", fn := fun _ => fun
  | [] => { results := [.lit (.bool true)], args := [] }
  | _ => none }
def rowFormsRow : OpenClaim := { program := "ytgbkdmcbdilgaaa", sum := "fabf6051ff30fd1e814033ac904e1da4a7a61e70a82d1a80e5c91d076f5942f0", func := "hodman/hodmanlaw4.RowForms", spec := "rowForms", unfollowed := true, recurses := true, apart := false }
def RowFormsSaid : Prop := rowFormsRow.holds Try.pinned (OpenSpec.ofChange rowFormsSpec)

/-- ITS FALSE NEIGHBOUR: 'it returns false'. Refute it at one input. -/
def rowFormsWrong : ChangeSpec := { name := "rowForms", fn := fun _ => fun
  | [] => { results := [.lit (.bool false)], args := [] }
  | _ => none }
def RowFormsWrongFalsely : Prop := rowFormsRow.holds Try.pinned (OpenSpec.ofChange rowFormsWrong)

/-- 'hodmanlaw6.RankSet': WHATEVER THE INPUT: true; the input reads as it did. -/
def rankSetSpec : ChangeSpec := { name := "rankSet", fn := fun _ => fun
  | [d1, d2, d3, d4] => { results := [.lit (.bool true)], args := [d1, d2, d3, d4] }
  | _ => none }
def rankSetRow : OpenClaim := { program := "ytgbkdmcbdilgaaa", sum := "fabf6051ff30fd1e814033ac904e1da4a7a61e70a82d1a80e5c91d076f5942f0", func := "hodman/hodmanlaw6.RankSet", spec := "rankSet", apart := false }
def RankSetSaid : Prop := rankSetRow.holds Try.pinned (OpenSpec.ofChange rankSetSpec)

/-- ITS FALSE NEIGHBOUR: 'it returns false'. Refute it at one input. -/
def rankSetWrong : ChangeSpec := { name := "rankSet", fn := fun _ => fun
  | [d1, d2, d3, d4] => { results := [.lit (.bool false)], args := [d1, d2, d3, d4] }
  | _ => none }
def RankSetWrongFalsely : Prop := rankSetRow.holds Try.pinned (OpenSpec.ofChange rankSetWrong)

/- THE SECOND FORM. 'bulk': how many values and letters a reading holds, each counted each time it is reached (what is shared counts as often as it is met; a slice's spare places count too). A statement '..UptoSaid' is the law's where the arguments, and the package variables that the reading takes, are together of bulk at most 1048576: NARROWER than '..Said'. Prove '..Said' where nothing that the law and all that it calls make is longer than what came in: it says more and counts as full. Else prove '..UptoSaid'. A law counts once. -/
mutual
def uptoBulk {H : Type} : DataW H → Nat
  | .lit (.string bytes) => bytes.length + 1
  | .lit _ => 1
  | .nil => 1
  | .ptr d => uptoBulk d + 1
  | .slice elems spare => uptoBulkAll elems + uptoBulkAll spare + 1
  | .agg parts => uptoBulkAll parts + 1
  | .iface _ d => uptoBulk d + 1
  | .map entries => uptoBulkEntries entries + 1
  | .held _ => 1
def uptoBulkAll {H : Type} : List (DataW H) → Nat
  | [] => 0
  | d :: r => uptoBulk d + uptoBulkAll r
def uptoBulkEntries {H : Type} : List (Lit × DataW H) → Nat
  | [] => 0
  | x :: r => uptoBulkEntry x + uptoBulkEntries r
def uptoBulkEntry {H : Type} : Lit × DataW H → Nat
  | (.string bytes, d) => bytes.length + uptoBulk d + 1
  | (_, d) => uptoBulk d + 1
 end
def uptoSmall : (H : Type) → List (DataW H) → Bool := fun _ ds => decide (uptoBulkAll ds ≤ 1048576)
def OpenSpec.upto (s : _root_.Go.ChangeSpec) : _root_.Go.OpenSpec := { _root_.Go.OpenSpec.ofChange s with cond := some uptoSmall }

/-- 'hodmanlaw6.RankAll', WHERE WHAT IT READS IS OF BULK AT MOST 1048576: true; the input reads as it did. -/
def rankAllUptoRow : OpenClaim := { program := "ytgbkdmcbdilgaaa", sum := "fabf6051ff30fd1e814033ac904e1da4a7a61e70a82d1a80e5c91d076f5942f0", func := "hodman/hodmanlaw6.RankAll", spec := "rankAll", apart := false, narrowed := true }
def RankAllUptoSaid : Prop := rankAllUptoRow.holds Try.pinned (OpenSpec.upto rankAllSpec)

/-- 'hodmanlaw6.RankBack', WHERE WHAT IT READS IS OF BULK AT MOST 1048576: true; the input reads as it did. -/
def rankBackUptoRow : OpenClaim := { program := "ytgbkdmcbdilgaaa", sum := "fabf6051ff30fd1e814033ac904e1da4a7a61e70a82d1a80e5c91d076f5942f0", func := "hodman/hodmanlaw6.RankBack", spec := "rankBack", apart := false, narrowed := true }
def RankBackUptoSaid : Prop := rankBackUptoRow.holds Try.pinned (OpenSpec.upto rankBackSpec)

/-- 'hodmanlaw6.RankForms', WHERE WHAT IT READS IS OF BULK AT MOST 1048576: true; the input reads as it did. -/
def rankFormsUptoRow : OpenClaim := { program := "ytgbkdmcbdilgaaa", sum := "fabf6051ff30fd1e814033ac904e1da4a7a61e70a82d1a80e5c91d076f5942f0", func := "hodman/hodmanlaw6.RankForms", spec := "rankForms", apart := false, narrowed := true }
def RankFormsUptoSaid : Prop := rankFormsUptoRow.holds Try.pinned (OpenSpec.upto rankFormsSpec)

/-- 'hodmanlaw4.RowFirst', WHERE WHAT IT READS IS OF BULK AT MOST 1048576: true; the input reads as it did. -/
def rowFirstUptoRow : OpenClaim := { program := "ytgbkdmcbdilgaaa", sum := "fabf6051ff30fd1e814033ac904e1da4a7a61e70a82d1a80e5c91d076f5942f0", func := "hodman/hodmanlaw4.RowFirst", spec := "rowFirst", unfollowed := true, recurses := true, apart := false, narrowed := true }
def RowFirstUptoSaid : Prop := rowFirstUptoRow.holds Try.pinned (OpenSpec.upto rowFirstSpec)

/-- 'hodmanlaw4.RowForms', WHERE WHAT IT READS IS OF BULK AT MOST 1048576: true; the input reads as it did. -/
def rowFormsUptoRow : OpenClaim := { program := "ytgbkdmcbdilgaaa", sum := "fabf6051ff30fd1e814033ac904e1da4a7a61e70a82d1a80e5c91d076f5942f0", func := "hodman/hodmanlaw4.RowForms", spec := "rowForms", unfollowed := true, recurses := true, apart := false, narrowed := true }
def RowFormsUptoSaid : Prop := rowFormsUptoRow.holds Try.pinned (OpenSpec.upto rowFormsSpec)

/-- 'hodmanlaw6.RankSet', WHERE WHAT IT READS IS OF BULK AT MOST 1048576: true; the input reads as it did. -/
def rankSetUptoRow : OpenClaim := { program := "ytgbkdmcbdilgaaa", sum := "fabf6051ff30fd1e814033ac904e1da4a7a61e70a82d1a80e5c91d076f5942f0", func := "hodman/hodmanlaw6.RankSet", spec := "rankSet", apart := false, narrowed := true }
def RankSetUptoSaid : Prop := rankSetUptoRow.holds Try.pinned (OpenSpec.upto rankSetSpec)

end Rows
end Go.Proofs.Ytgbkdmcbdilgaaa
