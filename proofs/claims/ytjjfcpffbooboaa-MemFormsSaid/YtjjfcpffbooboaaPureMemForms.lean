/- MemForms, the plain part: what becomes of some bytes, at closed lists: computed. -/
import Derived.Test.YtjjfcpffbooboaaPMemx5
namespace Go.Proofs.Ytjjfcpffbooboaa.Pure
open Go.RowKit Go.Proofs.Ytjjfcpffbooboaa.PMem

theorem MemForms : hodmanlaw15_MemForms.Pure := by
  unfold hodmanlaw15_MemForms.Pure
  decide +kernel

end Go.Proofs.Ytjjfcpffbooboaa.Pure
