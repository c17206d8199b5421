import Derived.Test.YtdpnnglfaofjeaaPUtfx2
import Derived.Test.YtdpnnglfaofjeaaM
namespace Go.Proofs.Ytdpnnglfaofjeaa.Pure
open Go.RowKit Go.Proofs.Ytdpnnglfaofjeaa.PUtf Go.Proofs.YtdpnnglfaofjeaaW.PrintWords Go.Proofs.YtdpnnglfaofjeaaW.PrintLast

theorem UtfBoundaries : bobbinlaw01_UtfBoundaries.Pure := boundaries_pure

end Go.Proofs.Ytdpnnglfaofjeaa.Pure
