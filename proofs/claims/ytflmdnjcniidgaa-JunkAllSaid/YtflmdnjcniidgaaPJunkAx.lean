/- Written by a program of this session (wip/tools/ext.py) out of the translation: Go functions told as Lean functions, with their walks; or the row of a law out of its plain part. Lean checks it. -/
import Derived.Test.YtflmdnjcniidgaaPJunkAx0
import Derived.Test.YtflmdnjcniidgaaPJunkAx1
import Derived.Test.YtflmdnjcniidgaaPJunkAx2
import Derived.Test.YtflmdnjcniidgaaPJunkAx3
namespace Go.Proofs.Ytflmdnjcniidgaa.PJunkA
open Go.RowKit Go.Proofs.YtflmdnjcniidgaaW.PrintWords Go.Proofs.YtflmdnjcniidgaaW.PrintLast Go.Proofs.YtflmdnjcniidgaaW.PrintMore
attribute [local go_sem] max2_int min2_int max_two min_two max_three min_three max_four min_four   -- for this text's walks alone
set_option linter.unusedVariables false
set_option linter.unusedSimpArgs false

end Go.Proofs.Ytflmdnjcniidgaa.PJunkA
