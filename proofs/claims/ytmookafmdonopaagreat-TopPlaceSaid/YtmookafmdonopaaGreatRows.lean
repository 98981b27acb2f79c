/-
  No cell of these rows narrows 'for every input' (looked for: loops, veiled, ifaces, maps, wideKeys, modest, calm, conditions, laid).
  DERIVED. THE GIVEN ROWS OF THIS SEAT. 7 by the template 'for every input the law returns true; each argument reads behind the call as it read before'; 0 by the template 'total and deterministic' (their statements: YtmookafmdonopaaGreatTotals.lean).
  GIVEN WITH THE SEED: the statements are not yours to turn. If you find one false, say at which input.
  Laid BY PROGRAM, IN A SANDBOX (cutbox-rows.mjs): the forced cells as the released guide's own fill.sh prints them over the translation e9ef3ed4c1e1aae7… (all of the seat's roots in one cut). By AI agents, Wed Nov 11 2026. No macro, syntax, notation, axiom, sorry.
-/
import Derived.Test.YtmookafmdonopaaGreatChecked
import GoSem.Claim
import GoSem.ClaimJoined
import GoSem.ClaimMapViews
import Derived.JoinedTies
import Derived.KernelRfl
namespace Go.Proofs.YtmookafmdonopaaGreat
/- THE CELL 'sum', in the pinned program and in every row, IS THE sha256 OF THE DUMP (.gsa) THAT YtmookafmdonopaaGreatProg.lean LOADS. Nothing in Lean hashes anything: it is a label: what it is worth is what the hold of that sum in a sandbox is worth. -/
noncomputable def Tryz.pinned : Pinned := { name := "ytmookafmdonopaagreat", sum := "e9ef3ed4c1e1aae7dc60536962b2744bff3730b5157ba38727c558ee09a460da", checked := Tryz.checked }
namespace Rows
def none {H : Type} : Left H := { results := [], args := [] }

/-- 'hodmantop.TopApart': WHATEVER THE INPUT: true; the input reads as it did. -/
def topApartSpec : ChangeSpec := { name := "topApart", fn := fun _ => fun
  | [d1, d2] => { results := [.lit (.bool true)], args := [d1, d2] }
  | _ => none }
def topApartRow : OpenClaim := { program := "ytmookafmdonopaagreat", sum := "e9ef3ed4c1e1aae7dc60536962b2744bff3730b5157ba38727c558ee09a460da", func := "hodman/hodmantop.TopApart", spec := "topApart", inPlace := ["slices.overlaps[hodman/api.Mark]"], unfollowed := true, recurses := true, plainKeys := false, apart := false }
def TopApartSaid : Prop := topApartRow.holds Tryz.pinned (OpenSpec.ofChange topApartSpec)

/-- ITS FALSE NEIGHBOUR: 'it returns false'. Refute it at one input. -/
def topApartWrong : ChangeSpec := { name := "topApart", fn := fun _ => fun
  | [d1, d2] => { results := [.lit (.bool false)], args := [d1, d2] }
  | _ => none }
def TopApartWrongFalsely : Prop := topApartRow.holds Tryz.pinned (OpenSpec.ofChange topApartWrong)

/-- 'hodmantop.TopCalloc': WHATEVER THE INPUT: true; the input reads as it did. -/
def topCallocSpec : ChangeSpec := { name := "topCalloc", fn := fun _ => fun
  | [d1, d2, d3, d4] => { results := [.lit (.bool true)], args := [d1, d2, d3, d4] }
  | _ => none }
def topCallocRow : OpenClaim := { program := "ytmookafmdonopaagreat", sum := "e9ef3ed4c1e1aae7dc60536962b2744bff3730b5157ba38727c558ee09a460da", func := "hodman/hodmantop.TopCalloc", spec := "topCalloc", inPlace := ["slices.overlaps[hodman/api.Mark]"], unfollowed := true, recurses := true, plainKeys := false, apart := false }
def TopCallocSaid : Prop := topCallocRow.holds Tryz.pinned (OpenSpec.ofChange topCallocSpec)

/-- ITS FALSE NEIGHBOUR: 'it returns false'. Refute it at one input. -/
def topCallocWrong : ChangeSpec := { name := "topCalloc", fn := fun _ => fun
  | [d1, d2, d3, d4] => { results := [.lit (.bool false)], args := [d1, d2, d3, d4] }
  | _ => none }
def TopCallocWrongFalsely : Prop := topCallocRow.holds Tryz.pinned (OpenSpec.ofChange topCallocWrong)

/-- 'hodmantop.TopRealloc': WHATEVER THE INPUT: true; the input reads as it did. -/
def topReallocSpec : ChangeSpec := { name := "topRealloc", fn := fun _ => fun
  | [d1, d2, d3, d4] => { results := [.lit (.bool true)], args := [d1, d2, d3, d4] }
  | _ => none }
def topReallocRow : OpenClaim := { program := "ytmookafmdonopaagreat", sum := "e9ef3ed4c1e1aae7dc60536962b2744bff3730b5157ba38727c558ee09a460da", func := "hodman/hodmantop.TopRealloc", spec := "topRealloc", inPlace := ["slices.overlaps[hodman/api.Mark]"], unfollowed := true, recurses := true, plainKeys := false, apart := false }
def TopReallocSaid : Prop := topReallocRow.holds Tryz.pinned (OpenSpec.ofChange topReallocSpec)

/-- ITS FALSE NEIGHBOUR: 'it returns false'. Refute it at one input. -/
def topReallocWrong : ChangeSpec := { name := "topRealloc", fn := fun _ => fun
  | [d1, d2, d3, d4] => { results := [.lit (.bool false)], args := [d1, d2, d3, d4] }
  | _ => none }
def TopReallocWrongFalsely : Prop := topReallocRow.holds Tryz.pinned (OpenSpec.ofChange topReallocWrong)

/-- 'hodmantop.TopAligned': WHATEVER THE INPUT: true; the input reads as it did. -/
def topAlignedSpec : ChangeSpec := { name := "topAligned", fn := fun _ => fun
  | [d1, d2, d3, d4] => { results := [.lit (.bool true)], args := [d1, d2, d3, d4] }
  | _ => none }
def topAlignedRow : OpenClaim := { program := "ytmookafmdonopaagreat", sum := "e9ef3ed4c1e1aae7dc60536962b2744bff3730b5157ba38727c558ee09a460da", func := "hodman/hodmantop.TopAligned", spec := "topAligned", inPlace := ["slices.overlaps[hodman/api.Mark]"], unfollowed := true, recurses := true, plainKeys := false, apart := false }
def TopAlignedSaid : Prop := topAlignedRow.holds Tryz.pinned (OpenSpec.ofChange topAlignedSpec)

/-- ITS FALSE NEIGHBOUR: 'it returns false'. Refute it at one input. -/
def topAlignedWrong : ChangeSpec := { name := "topAligned", fn := fun _ => fun
  | [d1, d2, d3, d4] => { results := [.lit (.bool false)], args := [d1, d2, d3, d4] }
  | _ => none }
def TopAlignedWrongFalsely : Prop := topAlignedRow.holds Tryz.pinned (OpenSpec.ofChange topAlignedWrong)

/-- 'hodmantop.TopPages': WHATEVER THE INPUT: true; the input reads as it did. -/
def topPagesSpec : ChangeSpec := { name := "topPages", fn := fun _ => fun
  | [d1, d2, d3] => { results := [.lit (.bool true)], args := [d1, d2, d3] }
  | _ => none }
def topPagesRow : OpenClaim := { program := "ytmookafmdonopaagreat", sum := "e9ef3ed4c1e1aae7dc60536962b2744bff3730b5157ba38727c558ee09a460da", func := "hodman/hodmantop.TopPages", spec := "topPages", inPlace := ["slices.overlaps[hodman/api.Mark]"], unfollowed := true, recurses := true, plainKeys := false, apart := false }
def TopPagesSaid : Prop := topPagesRow.holds Tryz.pinned (OpenSpec.ofChange topPagesSpec)

/-- ITS FALSE NEIGHBOUR: 'it returns false'. Refute it at one input. -/
def topPagesWrong : ChangeSpec := { name := "topPages", fn := fun _ => fun
  | [d1, d2, d3] => { results := [.lit (.bool false)], args := [d1, d2, d3] }
  | _ => none }
def TopPagesWrongFalsely : Prop := topPagesRow.holds Tryz.pinned (OpenSpec.ofChange topPagesWrong)

/-- 'hodmantop.TopPlace': WHATEVER THE INPUT: true; the input reads as it did. -/
def topPlaceSpec : ChangeSpec := { name := "topPlace", fn := fun _ => fun
  | [d1, d2] => { results := [.lit (.bool true)], args := [d1, d2] }
  | _ => none }
def topPlaceRow : OpenClaim := { program := "ytmookafmdonopaagreat", sum := "e9ef3ed4c1e1aae7dc60536962b2744bff3730b5157ba38727c558ee09a460da", func := "hodman/hodmantop.TopPlace", spec := "topPlace", inPlace := ["slices.overlaps[hodman/api.Mark]"], unfollowed := true, recurses := true, plainKeys := false, apart := false }
def TopPlaceSaid : Prop := topPlaceRow.holds Tryz.pinned (OpenSpec.ofChange topPlaceSpec)

/-- ITS FALSE NEIGHBOUR: 'it returns false'. Refute it at one input. -/
def topPlaceWrong : ChangeSpec := { name := "topPlace", fn := fun _ => fun
  | [d1, d2] => { results := [.lit (.bool false)], args := [d1, d2] }
  | _ => none }
def TopPlaceWrongFalsely : Prop := topPlaceRow.holds Tryz.pinned (OpenSpec.ofChange topPlaceWrong)

/-- 'hodmantop.TopTrim': WHATEVER THE INPUT: true; the input reads as it did. -/
def topTrimSpec : ChangeSpec := { name := "topTrim", fn := fun _ => fun
  | [d1, d2] => { results := [.lit (.bool true)], args := [d1, d2] }
  | _ => none }
def topTrimRow : OpenClaim := { program := "ytmookafmdonopaagreat", sum := "e9ef3ed4c1e1aae7dc60536962b2744bff3730b5157ba38727c558ee09a460da", func := "hodman/hodmantop.TopTrim", spec := "topTrim", inPlace := ["slices.overlaps[hodman/api.Mark]"], unfollowed := true, recurses := true, plainKeys := false, apart := false }
def TopTrimSaid : Prop := topTrimRow.holds Tryz.pinned (OpenSpec.ofChange topTrimSpec)

/-- ITS FALSE NEIGHBOUR: 'it returns false'. Refute it at one input. -/
def topTrimWrong : ChangeSpec := { name := "topTrim", fn := fun _ => fun
  | [d1, d2] => { results := [.lit (.bool false)], args := [d1, d2] }
  | _ => none }
def TopTrimWrongFalsely : Prop := topTrimRow.holds Tryz.pinned (OpenSpec.ofChange topTrimWrong)

/- THE SECOND FORM. 'bulk': how many values and letters a reading holds, each counted each time it is reached (what is shared counts as often as it is met; a slice's spare places count too). A statement '..UptoSaid' is the law's where the arguments, and the package variables that the reading takes, are together of bulk at most 1048576: NARROWER than '..Said'. Prove '..Said' where nothing that the law and all that it calls make is longer than what came in: it says more and counts as full. Else prove '..UptoSaid'. A law counts once. -/
mutual
def uptoBulk {H : Type} : DataW H → Nat
  | .lit (.string bytes) => bytes.length + 1
  | .lit _ => 1
  | .nil => 1
  | .ptr d => uptoBulk d + 1
  | .slice elems spare => uptoBulkAll elems + uptoBulkAll spare + 1
  | .agg parts => uptoBulkAll parts + 1
  | .iface _ d => uptoBulk d + 1
  | .map entries => uptoBulkEntries entries + 1
  | .held _ => 1
def uptoBulkAll {H : Type} : List (DataW H) → Nat
  | [] => 0
  | d :: r => uptoBulk d + uptoBulkAll r
def uptoBulkEntries {H : Type} : List (Lit × DataW H) → Nat
  | [] => 0
  | x :: r => uptoBulkEntry x + uptoBulkEntries r
def uptoBulkEntry {H : Type} : Lit × DataW H → Nat
  | (.string bytes, d) => bytes.length + uptoBulk d + 1
  | (_, d) => uptoBulk d + 1
 end
def uptoSmall : (H : Type) → List (DataW H) → Bool := fun _ ds => decide (uptoBulkAll ds ≤ 1048576)
def OpenSpec.upto (s : _root_.Go.ChangeSpec) : _root_.Go.OpenSpec := { _root_.Go.OpenSpec.ofChange s with cond := some uptoSmall }

/-- 'hodmantop.TopApart', WHERE WHAT IT READS IS OF BULK AT MOST 1048576: true; the input reads as it did. -/
def topApartUptoRow : OpenClaim := { program := "ytmookafmdonopaagreat", sum := "e9ef3ed4c1e1aae7dc60536962b2744bff3730b5157ba38727c558ee09a460da", func := "hodman/hodmantop.TopApart", spec := "topApart", inPlace := ["slices.overlaps[hodman/api.Mark]"], unfollowed := true, recurses := true, plainKeys := false, apart := false, narrowed := true }
def TopApartUptoSaid : Prop := topApartUptoRow.holds Tryz.pinned (OpenSpec.upto topApartSpec)

/-- 'hodmantop.TopCalloc', WHERE WHAT IT READS IS OF BULK AT MOST 1048576: true; the input reads as it did. -/
def topCallocUptoRow : OpenClaim := { program := "ytmookafmdonopaagreat", sum := "e9ef3ed4c1e1aae7dc60536962b2744bff3730b5157ba38727c558ee09a460da", func := "hodman/hodmantop.TopCalloc", spec := "topCalloc", inPlace := ["slices.overlaps[hodman/api.Mark]"], unfollowed := true, recurses := true, plainKeys := false, apart := false, narrowed := true }
def TopCallocUptoSaid : Prop := topCallocUptoRow.holds Tryz.pinned (OpenSpec.upto topCallocSpec)

/-- 'hodmantop.TopRealloc', WHERE WHAT IT READS IS OF BULK AT MOST 1048576: true; the input reads as it did. -/
def topReallocUptoRow : OpenClaim := { program := "ytmookafmdonopaagreat", sum := "e9ef3ed4c1e1aae7dc60536962b2744bff3730b5157ba38727c558ee09a460da", func := "hodman/hodmantop.TopRealloc", spec := "topRealloc", inPlace := ["slices.overlaps[hodman/api.Mark]"], unfollowed := true, recurses := true, plainKeys := false, apart := false, narrowed := true }
def TopReallocUptoSaid : Prop := topReallocUptoRow.holds Tryz.pinned (OpenSpec.upto topReallocSpec)

/-- 'hodmantop.TopAligned', WHERE WHAT IT READS IS OF BULK AT MOST 1048576: true; the input reads as it did. -/
def topAlignedUptoRow : OpenClaim := { program := "ytmookafmdonopaagreat", sum := "e9ef3ed4c1e1aae7dc60536962b2744bff3730b5157ba38727c558ee09a460da", func := "hodman/hodmantop.TopAligned", spec := "topAligned", inPlace := ["slices.overlaps[hodman/api.Mark]"], unfollowed := true, recurses := true, plainKeys := false, apart := false, narrowed := true }
def TopAlignedUptoSaid : Prop := topAlignedUptoRow.holds Tryz.pinned (OpenSpec.upto topAlignedSpec)

/-- 'hodmantop.TopPages', WHERE WHAT IT READS IS OF BULK AT MOST 1048576: true; the input reads as it did. -/
def topPagesUptoRow : OpenClaim := { program := "ytmookafmdonopaagreat", sum := "e9ef3ed4c1e1aae7dc60536962b2744bff3730b5157ba38727c558ee09a460da", func := "hodman/hodmantop.TopPages", spec := "topPages", inPlace := ["slices.overlaps[hodman/api.Mark]"], unfollowed := true, recurses := true, plainKeys := false, apart := false, narrowed := true }
def TopPagesUptoSaid : Prop := topPagesUptoRow.holds Tryz.pinned (OpenSpec.upto topPagesSpec)

/-- 'hodmantop.TopPlace', WHERE WHAT IT READS IS OF BULK AT MOST 1048576: true; the input reads as it did. -/
def topPlaceUptoRow : OpenClaim := { program := "ytmookafmdonopaagreat", sum := "e9ef3ed4c1e1aae7dc60536962b2744bff3730b5157ba38727c558ee09a460da", func := "hodman/hodmantop.TopPlace", spec := "topPlace", inPlace := ["slices.overlaps[hodman/api.Mark]"], unfollowed := true, recurses := true, plainKeys := false, apart := false, narrowed := true }
def TopPlaceUptoSaid : Prop := topPlaceUptoRow.holds Tryz.pinned (OpenSpec.upto topPlaceSpec)

/-- 'hodmantop.TopTrim', WHERE WHAT IT READS IS OF BULK AT MOST 1048576: true; the input reads as it did. -/
def topTrimUptoRow : OpenClaim := { program := "ytmookafmdonopaagreat", sum := "e9ef3ed4c1e1aae7dc60536962b2744bff3730b5157ba38727c558ee09a460da", func := "hodman/hodmantop.TopTrim", spec := "topTrim", inPlace := ["slices.overlaps[hodman/api.Mark]"], unfollowed := true, recurses := true, plainKeys := false, apart := false, narrowed := true }
def TopTrimUptoSaid : Prop := topTrimUptoRow.holds Tryz.pinned (OpenSpec.upto topTrimSpec)

end Rows
end Go.Proofs.YtmookafmdonopaaGreat
