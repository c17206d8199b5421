/- The program's main, by its sum (a closed fact, shown once for all rows). -/
import Derived.Test.YtdpnnglfaofjeaaDoorRows
import Derived.WalkKit
namespace Go.Proofs.YtdpnnglfaofjeaaDoor
set_option maxRecDepth 100000
theorem mainIs_fact : Tryd.pinned.checked.prog.mainIs = some (true, "6aa5da39bf2255101a6b896fba29e1b71b3d0ef7cf1f99d9f2a76a6bc3524817".toList) := by kernel_rfl
end Go.Proofs.YtdpnnglfaofjeaaDoor
