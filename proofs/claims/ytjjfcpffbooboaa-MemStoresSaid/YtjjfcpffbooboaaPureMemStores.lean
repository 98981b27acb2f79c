/- MemStores has no plain part of its own: its walk (StoresHand) holds the bytes and the array side by side. -/
import Derived.Test.YtjjfcpffbooboaaPMemSx3
namespace Go.Proofs.Ytjjfcpffbooboaa.Pure
open Go.RowKit Go.Proofs.Ytjjfcpffbooboaa.PMemS Go.Proofs.YtjjfcpffbooboaaW.PrintWords Go.Proofs.YtjjfcpffbooboaaW.PrintLast

theorem MemStores : hodmanlaw15_MemStores.Pure := trivial

end Go.Proofs.Ytjjfcpffbooboaa.Pure
