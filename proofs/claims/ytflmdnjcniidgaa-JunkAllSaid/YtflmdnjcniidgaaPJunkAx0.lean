/- Written by a program of this session (wip/tools/ext.py) out of the translation: Go functions told as Lean functions, with their walks; or the row of a law out of its plain part. Lean checks it. -/
import Derived.Test.YtflmdnjcniidgaaProg
import Derived.Test.YtflmdnjcniidgaaExt
import Derived.Below
import Derived.Deep.Draws
import Derived.Deep.AppendLies
import Derived.Maps.AppendAt
import Derived.OwnWalk
import Derived.Laws.BytesArg
import Derived.Laws.MakeOwn
import Derived.Laws.OwnMore
import Derived.Deep.OwnRows
import Derived.Tactics
import Derived.Lib.ConvBytes
import Derived.Laws.Slices
import Derived.WalkKit
import Derived.KernelRfl
import Derived.RowKit3
import Derived.Deep.LoopGhost
import Derived.Deep.QuietTactic
import Derived.BigQuiet
import Derived.WideLaws
import Derived.Deep.DeepCutAuto
import Derived.Deep.CutBlock
import Derived.Deep.RegionHeld3
import Derived.Laws.Rows
import Derived.Lib.AppendStr
import Derived.ArgAppend
import Derived.Laws.IdiomCopy
import Derived.OrdersHeld
import Derived.Laws.BitsLemmas
import Derived.RowKit
import Derived.Test.YtflmdnjcniidgaaWWords
import Derived.Test.YtflmdnjcniidgaaWLast
import Derived.Test.YtflmdnjcniidgaaWTab
import Derived.Test.YtflmdnjcniidgaaWFour
import Derived.Test.YtflmdnjcniidgaaWQPut
import Derived.Test.YtflmdnjcniidgaaWApart
import Derived.Test.YtflmdnjcniidgaaWArr
import Derived.Test.YtflmdnjcniidgaaWZeros
import Derived.Test.YtflmdnjcniidgaaWFoot
import Derived.Test.YtflmdnjcniidgaaWKept
import Derived.Test.YtflmdnjcniidgaaWShare
import Derived.Test.YtflmdnjcniidgaaWN
import Derived.Test.YtflmdnjcniidgaaWFootNe
import Derived.Test.YtflmdnjcniidgaaWAt
import Derived.Test.YtflmdnjcniidgaaWEqStruct
import Derived.Test.YtflmdnjcniidgaaWRepsOne
import Derived.Test.YtflmdnjcniidgaaWInv
import Derived.Test.YtflmdnjcniidgaaWInvWords
import Derived.Test.YtflmdnjcniidgaaWGuard
import Derived.Test.YtflmdnjcniidgaaWNEv
import Derived.Test.YtflmdnjcniidgaaWMore
namespace Go.Proofs.Ytflmdnjcniidgaa.PJunkA
open Go.RowKit Go.Proofs.YtflmdnjcniidgaaW.PrintWords Go.Proofs.YtflmdnjcniidgaaW.PrintLast Go.Proofs.YtflmdnjcniidgaaW.PrintMore
attribute [local go_sem] max2_int min2_int max_two min_two max_three min_three max_four min_four   -- for this text's walks alone
set_option linter.unusedVariables false
set_option linter.unusedSimpArgs false



def errW : Option Int → Value
  | none => .nilIface
  | some c => .iface 0 (.int .i64 c)
theorem errW_none : errW none = .nilIface := rfl
theorem errW_some (c : Int) : errW (some c) = .iface 0 (.int .i64 c) := rfl

theorem info3 : (Try.prog.info? 3).map (fun i => (i.zero, i.size, i.bytes)) = some (some (.int .i64 0), 1, 8) := by kernel_rfl
theorem info5 : (Try.prog.info? 5).map (fun i => (i.zero, i.size, i.bytes)) = some (some (.int .u8 0), 1, 1) := by kernel_rfl
-- the values' own types

end Go.Proofs.Ytflmdnjcniidgaa.PJunkA
