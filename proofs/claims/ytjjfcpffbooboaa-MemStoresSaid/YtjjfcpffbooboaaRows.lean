/-
  No cell of these rows narrows 'for every input' (looked for: loops, veiled, ifaces, maps, wideKeys, modest, calm, conditions, laid).
  DERIVED. THE GIVEN ROWS OF THIS SEAT. 8 by the template 'for every input the law returns true; each argument reads behind the call as it read before'; 0 by the template 'total and deterministic' (their statements: YtjjfcpffbooboaaTotals.lean).
  GIVEN WITH THE SEED: the statements are not yours to turn. If you find one false, say at which input.
  Laid BY PROGRAM, IN A SANDBOX (cutbox-rows.mjs): the forced cells as the released guide's own fill.sh prints them over the translation a2c1c52b89da6755… (all of the seat's roots in one cut). By AI agents, Wed Nov 11 2026. No macro, syntax, notation, axiom, sorry.
-/
import Derived.Test.YtjjfcpffbooboaaChecked
import GoSem.Claim
import GoSem.ClaimJoined
import GoSem.ClaimMapViews
import Derived.JoinedTies
import Derived.KernelRfl
namespace Go.Proofs.Ytjjfcpffbooboaa
/- THE CELL 'sum', in the pinned program and in every row, IS THE sha256 OF THE DUMP (.gsa) THAT YtjjfcpffbooboaaProg.lean LOADS. Nothing in Lean hashes anything: it is a label: what it is worth is what the hold of that sum in a sandbox is worth. -/
noncomputable def Try.pinned : Pinned := { name := "ytjjfcpffbooboaa", sum := "a2c1c52b89da675541cf6d7dd11305542700df631497e7a4d8650fe90d46ec5a", checked := Try.checked }
namespace Rows
def none {H : Type} : Left H := { results := [], args := [] }

/-- 'hodmanlaw15.MemAll': WHATEVER THE INPUT: true; the input reads as it did. -/
def memAllSpec : ChangeSpec := { name := "memAll", fn := fun _ => fun
  | [d1, d2, d3, d4, d5, d6, d7, d8] => { results := [.lit (.bool true)], args := [d1, d2, d3, d4, d5, d6, d7, d8] }
  | _ => none }
def memAllRow : OpenClaim := { program := "ytjjfcpffbooboaa", sum := "a2c1c52b89da675541cf6d7dd11305542700df631497e7a4d8650fe90d46ec5a", func := "hodman/hodmanlaw15.MemAll", spec := "memAll", apart := false }
def MemAllSaid : Prop := memAllRow.holds Try.pinned (OpenSpec.ofChange memAllSpec)

/-- ITS FALSE NEIGHBOUR: 'it returns false'. Refute it at one input. -/
def memAllWrong : ChangeSpec := { name := "memAll", fn := fun _ => fun
  | [d1, d2, d3, d4, d5, d6, d7, d8] => { results := [.lit (.bool false)], args := [d1, d2, d3, d4, d5, d6, d7, d8] }
  | _ => none }
def MemAllWrongFalsely : Prop := memAllRow.holds Try.pinned (OpenSpec.ofChange memAllWrong)

/-- 'hodmanlaw15.MemMoves': WHATEVER THE INPUT: true; the input reads as it did. -/
def memMovesSpec : ChangeSpec := { name := "memMoves", fn := fun _ => fun
  | [d1, d2, d3, d4] => { results := [.lit (.bool true)], args := [d1, d2, d3, d4] }
  | _ => none }
def memMovesRow : OpenClaim := { program := "ytjjfcpffbooboaa", sum := "a2c1c52b89da675541cf6d7dd11305542700df631497e7a4d8650fe90d46ec5a", func := "hodman/hodmanlaw15.MemMoves", spec := "memMoves", apart := false }
def MemMovesSaid : Prop := memMovesRow.holds Try.pinned (OpenSpec.ofChange memMovesSpec)

/-- ITS FALSE NEIGHBOUR: 'it returns false'. Refute it at one input. -/
def memMovesWrong : ChangeSpec := { name := "memMoves", fn := fun _ => fun
  | [d1, d2, d3, d4] => { results := [.lit (.bool false)], args := [d1, d2, d3, d4] }
  | _ => none }
def MemMovesWrongFalsely : Prop := memMovesRow.holds Try.pinned (OpenSpec.ofChange memMovesWrong)

/-- 'hodmanlaw15.MemStores': WHATEVER THE INPUT: true; the input reads as it did. -/
def memStoresSpec : ChangeSpec := { name := "memStores", fn := fun _ => fun
  | [d] => { results := [.lit (.bool true)], args := [d] }
  | _ => none }
def memStoresRow : OpenClaim := { program := "ytjjfcpffbooboaa", sum := "a2c1c52b89da675541cf6d7dd11305542700df631497e7a4d8650fe90d46ec5a", func := "hodman/hodmanlaw15.MemStores", spec := "memStores", apart := false }
def MemStoresSaid : Prop := memStoresRow.holds Try.pinned (OpenSpec.ofChange memStoresSpec)

/-- ITS FALSE NEIGHBOUR: 'it returns false'. Refute it at one input. -/
def memStoresWrong : ChangeSpec := { name := "memStores", fn := fun _ => fun
  | [d] => { results := [.lit (.bool false)], args := [d] }
  | _ => none }
def MemStoresWrongFalsely : Prop := memStoresRow.holds Try.pinned (OpenSpec.ofChange memStoresWrong)

/-- 'hodmanlaw15.MemForms': WHATEVER THE INPUT: true; the input reads as it did. -/
def memFormsSpec : ChangeSpec := { name := "memForms", fn := fun _ => fun
  | [] => { results := [.lit (.bool true)], args := [] }
  | _ => none }
def memFormsRow : OpenClaim := { program := "ytjjfcpffbooboaa", sum := "a2c1c52b89da675541cf6d7dd11305542700df631497e7a4d8650fe90d46ec5a", func := "hodman/hodmanlaw15.MemForms", spec := "memForms", apart := false }
def MemFormsSaid : Prop := memFormsRow.holds Try.pinned (OpenSpec.ofChange memFormsSpec)

/-- ITS FALSE NEIGHBOUR: 'it returns false'. Refute it at one input. -/
def memFormsWrong : ChangeSpec := { name := "memForms", fn := fun _ => fun
  | [] => { results := [.lit (.bool false)], args := [] }
  | _ => none }
def MemFormsWrongFalsely : Prop := memFormsRow.holds Try.pinned (OpenSpec.ofChange memFormsWrong)

/-- 'hodmanlaw15.MemBack': WHATEVER THE INPUT: true; the input reads as it did. -/
def memBackSpec : ChangeSpec := { name := "memBack", fn := fun _ => fun
  | [d1, d2, d3] => { results := [.lit (.bool true)], args := [d1, d2, d3] }
  | _ => none }
def memBackRow : OpenClaim := { program := "ytjjfcpffbooboaa", sum := "a2c1c52b89da675541cf6d7dd11305542700df631497e7a4d8650fe90d46ec5a", func := "hodman/hodmanlaw15.MemBack", spec := "memBack", apart := false }
def MemBackSaid : Prop := memBackRow.holds Try.pinned (OpenSpec.ofChange memBackSpec)

/-- ITS FALSE NEIGHBOUR: 'it returns false'. Refute it at one input. -/
def memBackWrong : ChangeSpec := { name := "memBack", fn := fun _ => fun
  | [d1, d2, d3] => { results := [.lit (.bool false)], args := [d1, d2, d3] }
  | _ => none }
def MemBackWrongFalsely : Prop := memBackRow.holds Try.pinned (OpenSpec.ofChange memBackWrong)

/-- 'hodmanlaw13.CommitTrim': WHATEVER THE INPUT: true; the input reads as it did. -/
def commitTrimSpec : ChangeSpec := { name := "commitTrim", fn := fun _ => fun
  | [d] => { results := [.lit (.bool true)], args := [d] }
  | _ => none }
def commitTrimRow : OpenClaim := { program := "ytjjfcpffbooboaa", sum := "a2c1c52b89da675541cf6d7dd11305542700df631497e7a4d8650fe90d46ec5a", func := "hodman/hodmanlaw13.CommitTrim", spec := "commitTrim", apart := false }
def CommitTrimSaid : Prop := commitTrimRow.holds Try.pinned (OpenSpec.ofChange commitTrimSpec)

/-- ITS FALSE NEIGHBOUR: 'it returns false'. Refute it at one input. -/
def commitTrimWrong : ChangeSpec := { name := "commitTrim", fn := fun _ => fun
  | [d] => { results := [.lit (.bool false)], args := [d] }
  | _ => none }
def CommitTrimWrongFalsely : Prop := commitTrimRow.holds Try.pinned (OpenSpec.ofChange commitTrimWrong)

/-- 'hodmanlaw13.CommitForms': WHATEVER THE INPUT: true; the input reads as it did. -/
def commitFormsSpec : ChangeSpec := { name := "commitForms", fn := fun _ => fun
  | [] => { results := [.lit (.bool true)], args := [] }
  | _ => none }
def commitFormsRow : OpenClaim := { program := "ytjjfcpffbooboaa", sum := "a2c1c52b89da675541cf6d7dd11305542700df631497e7a4d8650fe90d46ec5a", func := "hodman/hodmanlaw13.CommitForms", spec := "commitForms", apart := false }
def CommitFormsSaid : Prop := commitFormsRow.holds Try.pinned (OpenSpec.ofChange commitFormsSpec)

/-- ITS FALSE NEIGHBOUR: 'it returns false'. Refute it at one input. -/
def commitFormsWrong : ChangeSpec := { name := "commitForms", fn := fun _ => fun
  | [] => { results := [.lit (.bool false)], args := [] }
  | _ => none }
def CommitFormsWrongFalsely : Prop := commitFormsRow.holds Try.pinned (OpenSpec.ofChange commitFormsWrong)

/-- 'hodmanlaw13.CommitTwice': WHATEVER THE INPUT: true; the input reads as it did. -/
def commitTwiceSpec : ChangeSpec := { name := "commitTwice", fn := fun _ => fun
  | [d1, d2, d3, d4] => { results := [.lit (.bool true)], args := [d1, d2, d3, d4] }
  | _ => none }
def commitTwiceRow : OpenClaim := { program := "ytjjfcpffbooboaa", sum := "a2c1c52b89da675541cf6d7dd11305542700df631497e7a4d8650fe90d46ec5a", func := "hodman/hodmanlaw13.CommitTwice", spec := "commitTwice", apart := false }
def CommitTwiceSaid : Prop := commitTwiceRow.holds Try.pinned (OpenSpec.ofChange commitTwiceSpec)

/-- ITS FALSE NEIGHBOUR: 'it returns false'. Refute it at one input. -/
def commitTwiceWrong : ChangeSpec := { name := "commitTwice", fn := fun _ => fun
  | [d1, d2, d3, d4] => { results := [.lit (.bool false)], args := [d1, d2, d3, d4] }
  | _ => none }
def CommitTwiceWrongFalsely : Prop := commitTwiceRow.holds Try.pinned (OpenSpec.ofChange commitTwiceWrong)

/- THE SECOND FORM. 'bulk': how many values and letters a reading holds, each counted each time it is reached (what is shared counts as often as it is met; a slice's spare places count too). A statement '..UptoSaid' is the law's where the arguments, and the package variables that the reading takes, are together of bulk at most 1048576: NARROWER than '..Said'. Prove '..Said' where nothing that the law and all that it calls make is longer than what came in: it says more and counts as full. Else prove '..UptoSaid'. A law counts once. -/
mutual
def uptoBulk {H : Type} : DataW H → Nat
  | .lit (.string bytes) => bytes.length + 1
  | .lit _ => 1
  | .nil => 1
  | .ptr d => uptoBulk d + 1
  | .slice elems spare => uptoBulkAll elems + uptoBulkAll spare + 1
  | .agg parts => uptoBulkAll parts + 1
  | .iface _ d => uptoBulk d + 1
  | .map entries => uptoBulkEntries entries + 1
  | .held _ => 1
def uptoBulkAll {H : Type} : List (DataW H) → Nat
  | [] => 0
  | d :: r => uptoBulk d + uptoBulkAll r
def uptoBulkEntries {H : Type} : List (Lit × DataW H) → Nat
  | [] => 0
  | x :: r => uptoBulkEntry x + uptoBulkEntries r
def uptoBulkEntry {H : Type} : Lit × DataW H → Nat
  | (.string bytes, d) => bytes.length + uptoBulk d + 1
  | (_, d) => uptoBulk d + 1
 end
def uptoSmall : (H : Type) → List (DataW H) → Bool := fun _ ds => decide (uptoBulkAll ds ≤ 1048576)
def OpenSpec.upto (s : _root_.Go.ChangeSpec) : _root_.Go.OpenSpec := { _root_.Go.OpenSpec.ofChange s with cond := some uptoSmall }

/-- 'hodmanlaw15.MemAll', WHERE WHAT IT READS IS OF BULK AT MOST 1048576: true; the input reads as it did. -/
def memAllUptoRow : OpenClaim := { program := "ytjjfcpffbooboaa", sum := "a2c1c52b89da675541cf6d7dd11305542700df631497e7a4d8650fe90d46ec5a", func := "hodman/hodmanlaw15.MemAll", spec := "memAll", apart := false, narrowed := true }
def MemAllUptoSaid : Prop := memAllUptoRow.holds Try.pinned (OpenSpec.upto memAllSpec)

/-- 'hodmanlaw15.MemMoves', WHERE WHAT IT READS IS OF BULK AT MOST 1048576: true; the input reads as it did. -/
def memMovesUptoRow : OpenClaim := { program := "ytjjfcpffbooboaa", sum := "a2c1c52b89da675541cf6d7dd11305542700df631497e7a4d8650fe90d46ec5a", func := "hodman/hodmanlaw15.MemMoves", spec := "memMoves", apart := false, narrowed := true }
def MemMovesUptoSaid : Prop := memMovesUptoRow.holds Try.pinned (OpenSpec.upto memMovesSpec)

/-- 'hodmanlaw15.MemStores', WHERE WHAT IT READS IS OF BULK AT MOST 1048576: true; the input reads as it did. -/
def memStoresUptoRow : OpenClaim := { program := "ytjjfcpffbooboaa", sum := "a2c1c52b89da675541cf6d7dd11305542700df631497e7a4d8650fe90d46ec5a", func := "hodman/hodmanlaw15.MemStores", spec := "memStores", apart := false, narrowed := true }
def MemStoresUptoSaid : Prop := memStoresUptoRow.holds Try.pinned (OpenSpec.upto memStoresSpec)

/-- 'hodmanlaw15.MemForms', WHERE WHAT IT READS IS OF BULK AT MOST 1048576: true; the input reads as it did. -/
def memFormsUptoRow : OpenClaim := { program := "ytjjfcpffbooboaa", sum := "a2c1c52b89da675541cf6d7dd11305542700df631497e7a4d8650fe90d46ec5a", func := "hodman/hodmanlaw15.MemForms", spec := "memForms", apart := false, narrowed := true }
def MemFormsUptoSaid : Prop := memFormsUptoRow.holds Try.pinned (OpenSpec.upto memFormsSpec)

/-- 'hodmanlaw15.MemBack', WHERE WHAT IT READS IS OF BULK AT MOST 1048576: true; the input reads as it did. -/
def memBackUptoRow : OpenClaim := { program := "ytjjfcpffbooboaa", sum := "a2c1c52b89da675541cf6d7dd11305542700df631497e7a4d8650fe90d46ec5a", func := "hodman/hodmanlaw15.MemBack", spec := "memBack", apart := false, narrowed := true }
def MemBackUptoSaid : Prop := memBackUptoRow.holds Try.pinned (OpenSpec.upto memBackSpec)

/-- 'hodmanlaw13.CommitTrim', WHERE WHAT IT READS IS OF BULK AT MOST 1048576: true; the input reads as it did. -/
def commitTrimUptoRow : OpenClaim := { program := "ytjjfcpffbooboaa", sum := "a2c1c52b89da675541cf6d7dd11305542700df631497e7a4d8650fe90d46ec5a", func := "hodman/hodmanlaw13.CommitTrim", spec := "commitTrim", apart := false, narrowed := true }
def CommitTrimUptoSaid : Prop := commitTrimUptoRow.holds Try.pinned (OpenSpec.upto commitTrimSpec)

/-- 'hodmanlaw13.CommitForms', WHERE WHAT IT READS IS OF BULK AT MOST 1048576: true; the input reads as it did. -/
def commitFormsUptoRow : OpenClaim := { program := "ytjjfcpffbooboaa", sum := "a2c1c52b89da675541cf6d7dd11305542700df631497e7a4d8650fe90d46ec5a", func := "hodman/hodmanlaw13.CommitForms", spec := "commitForms", apart := false, narrowed := true }
def CommitFormsUptoSaid : Prop := commitFormsUptoRow.holds Try.pinned (OpenSpec.upto commitFormsSpec)

/-- 'hodmanlaw13.CommitTwice', WHERE WHAT IT READS IS OF BULK AT MOST 1048576: true; the input reads as it did. -/
def commitTwiceUptoRow : OpenClaim := { program := "ytjjfcpffbooboaa", sum := "a2c1c52b89da675541cf6d7dd11305542700df631497e7a4d8650fe90d46ec5a", func := "hodman/hodmanlaw13.CommitTwice", spec := "commitTwice", apart := false, narrowed := true }
def CommitTwiceUptoSaid : Prop := commitTwiceUptoRow.holds Try.pinned (OpenSpec.upto commitTwiceSpec)

end Rows
end Go.Proofs.Ytjjfcpffbooboaa
