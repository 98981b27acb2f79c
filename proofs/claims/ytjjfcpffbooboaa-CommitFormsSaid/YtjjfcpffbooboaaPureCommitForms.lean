/- CommitForms, the plain part: which pages are there, of some, at closed lists: computed. -/
import Derived.Test.YtjjfcpffbooboaaPComx8
namespace Go.Proofs.Ytjjfcpffbooboaa.Pure
open Go.RowKit Go.Proofs.Ytjjfcpffbooboaa.PCom

theorem CommitForms : hodmanlaw13_CommitForms.Pure := ⟨40, by decide +kernel⟩

end Go.Proofs.Ytjjfcpffbooboaa.Pure
