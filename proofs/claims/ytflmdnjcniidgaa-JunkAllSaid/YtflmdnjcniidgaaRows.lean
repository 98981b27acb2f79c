/-
  No cell of these rows narrows 'for every input' (looked for: loops, veiled, ifaces, maps, wideKeys, modest, calm, conditions, laid).
  DERIVED. THE GIVEN ROWS OF THIS SEAT. 11 by the template 'for every input the law returns true; each argument reads behind the call as it read before'; 0 by the template 'total and deterministic' (their statements: YtflmdnjcniidgaaTotals.lean).
  GIVEN WITH THE SEED: the statements are not yours to turn. If you find one false, say at which input.
  Laid BY PROGRAM, IN A SANDBOX (cutbox-rows.mjs): the forced cells as the released guide's own fill.sh prints them over the translation 7109927669ebde73… (all of the seat's roots in one cut). By AI agents, Wed Nov 11 2026. No macro, syntax, notation, axiom, sorry.
-/
import Derived.Test.YtflmdnjcniidgaaChecked
import GoSem.Claim
import GoSem.ClaimJoined
import GoSem.ClaimMapViews
import Derived.JoinedTies
import Derived.KernelRfl
namespace Go.Proofs.Ytflmdnjcniidgaa
/- THE CELL 'sum', in the pinned program and in every row, IS THE sha256 OF THE DUMP (.gsa) THAT YtflmdnjcniidgaaProg.lean LOADS. Nothing in Lean hashes anything: it is a label: what it is worth is what the hold of that sum in a sandbox is worth. -/
noncomputable def Try.pinned : Pinned := { name := "ytflmdnjcniidgaa", sum := "7109927669ebde73de7f3e41a1f1d4a271d7fdefe534787c56b111905d3da196", checked := Try.checked }
namespace Rows
def none {H : Type} : Left H := { results := [], args := [] }

/-- 'hodmanlaw14.JunkAll': WHATEVER THE INPUT: true; the input reads as it did. -/
def junkAllSpec : ChangeSpec := { name := "junkAll", fn := fun _ => fun
  | [d1, d2, d3, d4, d5, d6] => { results := [.lit (.bool true)], args := [d1, d2, d3, d4, d5, d6] }
  | _ => none }
def junkAllRow : OpenClaim := { program := "ytflmdnjcniidgaa", sum := "7109927669ebde73de7f3e41a1f1d4a271d7fdefe534787c56b111905d3da196", func := "hodman/hodmanlaw14.JunkAll", spec := "junkAll", apart := false }
def JunkAllSaid : Prop := junkAllRow.holds Try.pinned (OpenSpec.ofChange junkAllSpec)

/-- ITS FALSE NEIGHBOUR: 'it returns false'. Refute it at one input. -/
def junkAllWrong : ChangeSpec := { name := "junkAll", fn := fun _ => fun
  | [d1, d2, d3, d4, d5, d6] => { results := [.lit (.bool false)], args := [d1, d2, d3, d4, d5, d6] }
  | _ => none }
def JunkAllWrongFalsely : Prop := junkAllRow.holds Try.pinned (OpenSpec.ofChange junkAllWrong)

/-- 'hodmanlaw14.JunkOnly': WHATEVER THE INPUT: true; the input reads as it did. -/
def junkOnlySpec : ChangeSpec := { name := "junkOnly", fn := fun _ => fun
  | [d1, d2, d3, d4] => { results := [.lit (.bool true)], args := [d1, d2, d3, d4] }
  | _ => none }
def junkOnlyRow : OpenClaim := { program := "ytflmdnjcniidgaa", sum := "7109927669ebde73de7f3e41a1f1d4a271d7fdefe534787c56b111905d3da196", func := "hodman/hodmanlaw14.JunkOnly", spec := "junkOnly", apart := false }
def JunkOnlySaid : Prop := junkOnlyRow.holds Try.pinned (OpenSpec.ofChange junkOnlySpec)

/-- ITS FALSE NEIGHBOUR: 'it returns false'. Refute it at one input. -/
def junkOnlyWrong : ChangeSpec := { name := "junkOnly", fn := fun _ => fun
  | [d1, d2, d3, d4] => { results := [.lit (.bool false)], args := [d1, d2, d3, d4] }
  | _ => none }
def JunkOnlyWrongFalsely : Prop := junkOnlyRow.holds Try.pinned (OpenSpec.ofChange junkOnlyWrong)

/-- 'hodmanlaw14.JunkForms': WHATEVER THE INPUT: true; the input reads as it did. -/
def junkFormsSpec : ChangeSpec := { name := "junkForms", fn := fun _ => fun
  | [] => { results := [.lit (.bool true)], args := [] }
  | _ => none }
def junkFormsRow : OpenClaim := { program := "ytflmdnjcniidgaa", sum := "7109927669ebde73de7f3e41a1f1d4a271d7fdefe534787c56b111905d3da196", func := "hodman/hodmanlaw14.JunkForms", spec := "junkForms", apart := false }
def JunkFormsSaid : Prop := junkFormsRow.holds Try.pinned (OpenSpec.ofChange junkFormsSpec)

/-- ITS FALSE NEIGHBOUR: 'it returns false'. Refute it at one input. -/
def junkFormsWrong : ChangeSpec := { name := "junkForms", fn := fun _ => fun
  | [] => { results := [.lit (.bool false)], args := [] }
  | _ => none }
def JunkFormsWrongFalsely : Prop := junkFormsRow.holds Try.pinned (OpenSpec.ofChange junkFormsWrong)

/-- 'hodmanlaw3.WordAll': WHATEVER THE INPUT: true; the input reads as it did. -/
def wordAllSpec : ChangeSpec := { name := "wordAll", fn := fun _ => fun
  | [d1, d2, d3] => { results := [.lit (.bool true)], args := [d1, d2, d3] }
  | _ => none }
def wordAllRow : OpenClaim := { program := "ytflmdnjcniidgaa", sum := "7109927669ebde73de7f3e41a1f1d4a271d7fdefe534787c56b111905d3da196", func := "hodman/hodmanlaw3.WordAll", spec := "wordAll", apart := false }
def WordAllSaid : Prop := wordAllRow.holds Try.pinned (OpenSpec.ofChange wordAllSpec)

/-- ITS FALSE NEIGHBOUR: 'it returns false'. Refute it at one input. -/
def wordAllWrong : ChangeSpec := { name := "wordAll", fn := fun _ => fun
  | [d1, d2, d3] => { results := [.lit (.bool false)], args := [d1, d2, d3] }
  | _ => none }
def WordAllWrongFalsely : Prop := wordAllRow.holds Try.pinned (OpenSpec.ofChange wordAllWrong)

/-- 'hodmanlaw3.WordCounts': WHATEVER THE INPUT: true; the input reads as it did. -/
def wordCountsSpec : ChangeSpec := { name := "wordCounts", fn := fun _ => fun
  | [d] => { results := [.lit (.bool true)], args := [d] }
  | _ => none }
def wordCountsRow : OpenClaim := { program := "ytflmdnjcniidgaa", sum := "7109927669ebde73de7f3e41a1f1d4a271d7fdefe534787c56b111905d3da196", func := "hodman/hodmanlaw3.WordCounts", spec := "wordCounts", apart := false }
def WordCountsSaid : Prop := wordCountsRow.holds Try.pinned (OpenSpec.ofChange wordCountsSpec)

/-- ITS FALSE NEIGHBOUR: 'it returns false'. Refute it at one input. -/
def wordCountsWrong : ChangeSpec := { name := "wordCounts", fn := fun _ => fun
  | [d] => { results := [.lit (.bool false)], args := [d] }
  | _ => none }
def WordCountsWrongFalsely : Prop := wordCountsRow.holds Try.pinned (OpenSpec.ofChange wordCountsWrong)

/-- 'hodmanlaw3.WordMasks': WHATEVER THE INPUT: true; the input reads as it did. -/
def wordMasksSpec : ChangeSpec := { name := "wordMasks", fn := fun _ => fun
  | [d1, d2, d3] => { results := [.lit (.bool true)], args := [d1, d2, d3] }
  | _ => none }
def wordMasksRow : OpenClaim := { program := "ytflmdnjcniidgaa", sum := "7109927669ebde73de7f3e41a1f1d4a271d7fdefe534787c56b111905d3da196", func := "hodman/hodmanlaw3.WordMasks", spec := "wordMasks", apart := false }
def WordMasksSaid : Prop := wordMasksRow.holds Try.pinned (OpenSpec.ofChange wordMasksSpec)

/-- ITS FALSE NEIGHBOUR: 'it returns false'. Refute it at one input. -/
def wordMasksWrong : ChangeSpec := { name := "wordMasks", fn := fun _ => fun
  | [d1, d2, d3] => { results := [.lit (.bool false)], args := [d1, d2, d3] }
  | _ => none }
def WordMasksWrongFalsely : Prop := wordMasksRow.holds Try.pinned (OpenSpec.ofChange wordMasksWrong)

/-- 'hodmanlaw3.WordForms': WHATEVER THE INPUT: true; the input reads as it did. -/
def wordFormsSpec : ChangeSpec := { name := "wordForms", fn := fun _ => fun
  | [] => { results := [.lit (.bool true)], args := [] }
  | _ => none }
def wordFormsRow : OpenClaim := { program := "ytflmdnjcniidgaa", sum := "7109927669ebde73de7f3e41a1f1d4a271d7fdefe534787c56b111905d3da196", func := "hodman/hodmanlaw3.WordForms", spec := "wordForms", apart := false }
def WordFormsSaid : Prop := wordFormsRow.holds Try.pinned (OpenSpec.ofChange wordFormsSpec)

/-- ITS FALSE NEIGHBOUR: 'it returns false'. Refute it at one input. -/
def wordFormsWrong : ChangeSpec := { name := "wordForms", fn := fun _ => fun
  | [] => { results := [.lit (.bool false)], args := [] }
  | _ => none }
def WordFormsWrongFalsely : Prop := wordFormsRow.holds Try.pinned (OpenSpec.ofChange wordFormsWrong)

/-- 'hodmanlaw3.WordShift': WHATEVER THE INPUT: true; the input reads as it did. -/
def wordShiftSpec : ChangeSpec := { name := "wordShift", fn := fun _ => fun
  | [d1, d2] => { results := [.lit (.bool true)], args := [d1, d2] }
  | _ => none }
def wordShiftRow : OpenClaim := { program := "ytflmdnjcniidgaa", sum := "7109927669ebde73de7f3e41a1f1d4a271d7fdefe534787c56b111905d3da196", func := "hodman/hodmanlaw3.WordShift", spec := "wordShift", apart := false }
def WordShiftSaid : Prop := wordShiftRow.holds Try.pinned (OpenSpec.ofChange wordShiftSpec)

/-- ITS FALSE NEIGHBOUR: 'it returns false'. Refute it at one input. -/
def wordShiftWrong : ChangeSpec := { name := "wordShift", fn := fun _ => fun
  | [d1, d2] => { results := [.lit (.bool false)], args := [d1, d2] }
  | _ => none }
def WordShiftWrongFalsely : Prop := wordShiftRow.holds Try.pinned (OpenSpec.ofChange wordShiftWrong)

/-- 'hodmanlaw12.PinBytes': WHATEVER THE INPUT: true; the input reads as it did. -/
def pinBytesSpec : ChangeSpec := { name := "pinBytes", fn := fun _ => fun
  | [d1, d2] => { results := [.lit (.bool true)], args := [d1, d2] }
  | _ => none }
def pinBytesRow : OpenClaim := { program := "ytflmdnjcniidgaa", sum := "7109927669ebde73de7f3e41a1f1d4a271d7fdefe534787c56b111905d3da196", func := "hodman/hodmanlaw12.PinBytes", spec := "pinBytes", apart := false }
def PinBytesSaid : Prop := pinBytesRow.holds Try.pinned (OpenSpec.ofChange pinBytesSpec)

/-- ITS FALSE NEIGHBOUR: 'it returns false'. Refute it at one input. -/
def pinBytesWrong : ChangeSpec := { name := "pinBytes", fn := fun _ => fun
  | [d1, d2] => { results := [.lit (.bool false)], args := [d1, d2] }
  | _ => none }
def PinBytesWrongFalsely : Prop := pinBytesRow.holds Try.pinned (OpenSpec.ofChange pinBytesWrong)

/-- 'hodmanlaw12.PinForms': WHATEVER THE INPUT: true; the input reads as it did. -/
def pinFormsSpec : ChangeSpec := { name := "pinForms", fn := fun _ => fun
  | [] => { results := [.lit (.bool true)], args := [] }
  | _ => none }
def pinFormsRow : OpenClaim := { program := "ytflmdnjcniidgaa", sum := "7109927669ebde73de7f3e41a1f1d4a271d7fdefe534787c56b111905d3da196", func := "hodman/hodmanlaw12.PinForms", spec := "pinForms", apart := false }
def PinFormsSaid : Prop := pinFormsRow.holds Try.pinned (OpenSpec.ofChange pinFormsSpec)

/-- ITS FALSE NEIGHBOUR: 'it returns false'. Refute it at one input. -/
def pinFormsWrong : ChangeSpec := { name := "pinForms", fn := fun _ => fun
  | [] => { results := [.lit (.bool false)], args := [] }
  | _ => none }
def PinFormsWrongFalsely : Prop := pinFormsRow.holds Try.pinned (OpenSpec.ofChange pinFormsWrong)

/-- 'hodmanlaw12.PinMore': WHATEVER THE INPUT: true; the input reads as it did. -/
def pinMoreSpec : ChangeSpec := { name := "pinMore", fn := fun _ => fun
  | [d1, d2, d3, d4] => { results := [.lit (.bool true)], args := [d1, d2, d3, d4] }
  | _ => none }
def pinMoreRow : OpenClaim := { program := "ytflmdnjcniidgaa", sum := "7109927669ebde73de7f3e41a1f1d4a271d7fdefe534787c56b111905d3da196", func := "hodman/hodmanlaw12.PinMore", spec := "pinMore", apart := false }
def PinMoreSaid : Prop := pinMoreRow.holds Try.pinned (OpenSpec.ofChange pinMoreSpec)

/-- ITS FALSE NEIGHBOUR: 'it returns false'. Refute it at one input. -/
def pinMoreWrong : ChangeSpec := { name := "pinMore", fn := fun _ => fun
  | [d1, d2, d3, d4] => { results := [.lit (.bool false)], args := [d1, d2, d3, d4] }
  | _ => none }
def PinMoreWrongFalsely : Prop := pinMoreRow.holds Try.pinned (OpenSpec.ofChange pinMoreWrong)

/- THE SECOND FORM. 'bulk': how many values and letters a reading holds, each counted each time it is reached (what is shared counts as often as it is met; a slice's spare places count too). A statement '..UptoSaid' is the law's where the arguments, and the package variables that the reading takes, are together of bulk at most 1048576: NARROWER than '..Said'. Prove '..Said' where nothing that the law and all that it calls make is longer than what came in: it says more and counts as full. Else prove '..UptoSaid'. A law counts once. -/
mutual
def uptoBulk {H : Type} : DataW H → Nat
  | .lit (.string bytes) => bytes.length + 1
  | .lit _ => 1
  | .nil => 1
  | .ptr d => uptoBulk d + 1
  | .slice elems spare => uptoBulkAll elems + uptoBulkAll spare + 1
  | .agg parts => uptoBulkAll parts + 1
  | .iface _ d => uptoBulk d + 1
  | .map entries => uptoBulkEntries entries + 1
  | .held _ => 1
def uptoBulkAll {H : Type} : List (DataW H) → Nat
  | [] => 0
  | d :: r => uptoBulk d + uptoBulkAll r
def uptoBulkEntries {H : Type} : List (Lit × DataW H) → Nat
  | [] => 0
  | x :: r => uptoBulkEntry x + uptoBulkEntries r
def uptoBulkEntry {H : Type} : Lit × DataW H → Nat
  | (.string bytes, d) => bytes.length + uptoBulk d + 1
  | (_, d) => uptoBulk d + 1
 end
def uptoSmall : (H : Type) → List (DataW H) → Bool := fun _ ds => decide (uptoBulkAll ds ≤ 1048576)
def OpenSpec.upto (s : _root_.Go.ChangeSpec) : _root_.Go.OpenSpec := { _root_.Go.OpenSpec.ofChange s with cond := some uptoSmall }

/-- 'hodmanlaw14.JunkAll', WHERE WHAT IT READS IS OF BULK AT MOST 1048576: true; the input reads as it did. -/
def junkAllUptoRow : OpenClaim := { program := "ytflmdnjcniidgaa", sum := "7109927669ebde73de7f3e41a1f1d4a271d7fdefe534787c56b111905d3da196", func := "hodman/hodmanlaw14.JunkAll", spec := "junkAll", apart := false, narrowed := true }
def JunkAllUptoSaid : Prop := junkAllUptoRow.holds Try.pinned (OpenSpec.upto junkAllSpec)

/-- 'hodmanlaw14.JunkOnly', WHERE WHAT IT READS IS OF BULK AT MOST 1048576: true; the input reads as it did. -/
def junkOnlyUptoRow : OpenClaim := { program := "ytflmdnjcniidgaa", sum := "7109927669ebde73de7f3e41a1f1d4a271d7fdefe534787c56b111905d3da196", func := "hodman/hodmanlaw14.JunkOnly", spec := "junkOnly", apart := false, narrowed := true }
def JunkOnlyUptoSaid : Prop := junkOnlyUptoRow.holds Try.pinned (OpenSpec.upto junkOnlySpec)

/-- 'hodmanlaw14.JunkForms', WHERE WHAT IT READS IS OF BULK AT MOST 1048576: true; the input reads as it did. -/
def junkFormsUptoRow : OpenClaim := { program := "ytflmdnjcniidgaa", sum := "7109927669ebde73de7f3e41a1f1d4a271d7fdefe534787c56b111905d3da196", func := "hodman/hodmanlaw14.JunkForms", spec := "junkForms", apart := false, narrowed := true }
def JunkFormsUptoSaid : Prop := junkFormsUptoRow.holds Try.pinned (OpenSpec.upto junkFormsSpec)

/-- 'hodmanlaw3.WordAll', WHERE WHAT IT READS IS OF BULK AT MOST 1048576: true; the input reads as it did. -/
def wordAllUptoRow : OpenClaim := { program := "ytflmdnjcniidgaa", sum := "7109927669ebde73de7f3e41a1f1d4a271d7fdefe534787c56b111905d3da196", func := "hodman/hodmanlaw3.WordAll", spec := "wordAll", apart := false, narrowed := true }
def WordAllUptoSaid : Prop := wordAllUptoRow.holds Try.pinned (OpenSpec.upto wordAllSpec)

/-- 'hodmanlaw3.WordCounts', WHERE WHAT IT READS IS OF BULK AT MOST 1048576: true; the input reads as it did. -/
def wordCountsUptoRow : OpenClaim := { program := "ytflmdnjcniidgaa", sum := "7109927669ebde73de7f3e41a1f1d4a271d7fdefe534787c56b111905d3da196", func := "hodman/hodmanlaw3.WordCounts", spec := "wordCounts", apart := false, narrowed := true }
def WordCountsUptoSaid : Prop := wordCountsUptoRow.holds Try.pinned (OpenSpec.upto wordCountsSpec)

/-- 'hodmanlaw3.WordMasks', WHERE WHAT IT READS IS OF BULK AT MOST 1048576: true; the input reads as it did. -/
def wordMasksUptoRow : OpenClaim := { program := "ytflmdnjcniidgaa", sum := "7109927669ebde73de7f3e41a1f1d4a271d7fdefe534787c56b111905d3da196", func := "hodman/hodmanlaw3.WordMasks", spec := "wordMasks", apart := false, narrowed := true }
def WordMasksUptoSaid : Prop := wordMasksUptoRow.holds Try.pinned (OpenSpec.upto wordMasksSpec)

/-- 'hodmanlaw3.WordForms', WHERE WHAT IT READS IS OF BULK AT MOST 1048576: true; the input reads as it did. -/
def wordFormsUptoRow : OpenClaim := { program := "ytflmdnjcniidgaa", sum := "7109927669ebde73de7f3e41a1f1d4a271d7fdefe534787c56b111905d3da196", func := "hodman/hodmanlaw3.WordForms", spec := "wordForms", apart := false, narrowed := true }
def WordFormsUptoSaid : Prop := wordFormsUptoRow.holds Try.pinned (OpenSpec.upto wordFormsSpec)

/-- 'hodmanlaw3.WordShift', WHERE WHAT IT READS IS OF BULK AT MOST 1048576: true; the input reads as it did. -/
def wordShiftUptoRow : OpenClaim := { program := "ytflmdnjcniidgaa", sum := "7109927669ebde73de7f3e41a1f1d4a271d7fdefe534787c56b111905d3da196", func := "hodman/hodmanlaw3.WordShift", spec := "wordShift", apart := false, narrowed := true }
def WordShiftUptoSaid : Prop := wordShiftUptoRow.holds Try.pinned (OpenSpec.upto wordShiftSpec)

/-- 'hodmanlaw12.PinBytes', WHERE WHAT IT READS IS OF BULK AT MOST 1048576: true; the input reads as it did. -/
def pinBytesUptoRow : OpenClaim := { program := "ytflmdnjcniidgaa", sum := "7109927669ebde73de7f3e41a1f1d4a271d7fdefe534787c56b111905d3da196", func := "hodman/hodmanlaw12.PinBytes", spec := "pinBytes", apart := false, narrowed := true }
def PinBytesUptoSaid : Prop := pinBytesUptoRow.holds Try.pinned (OpenSpec.upto pinBytesSpec)

/-- 'hodmanlaw12.PinForms', WHERE WHAT IT READS IS OF BULK AT MOST 1048576: true; the input reads as it did. -/
def pinFormsUptoRow : OpenClaim := { program := "ytflmdnjcniidgaa", sum := "7109927669ebde73de7f3e41a1f1d4a271d7fdefe534787c56b111905d3da196", func := "hodman/hodmanlaw12.PinForms", spec := "pinForms", apart := false, narrowed := true }
def PinFormsUptoSaid : Prop := pinFormsUptoRow.holds Try.pinned (OpenSpec.upto pinFormsSpec)

/-- 'hodmanlaw12.PinMore', WHERE WHAT IT READS IS OF BULK AT MOST 1048576: true; the input reads as it did. -/
def pinMoreUptoRow : OpenClaim := { program := "ytflmdnjcniidgaa", sum := "7109927669ebde73de7f3e41a1f1d4a271d7fdefe534787c56b111905d3da196", func := "hodman/hodmanlaw12.PinMore", spec := "pinMore", apart := false, narrowed := true }
def PinMoreUptoSaid : Prop := pinMoreUptoRow.holds Try.pinned (OpenSpec.upto pinMoreSpec)

end Rows
end Go.Proofs.Ytflmdnjcniidgaa
