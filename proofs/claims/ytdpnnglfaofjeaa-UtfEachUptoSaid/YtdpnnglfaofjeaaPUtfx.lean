-- PRINTED by print.py (a twelfth state) out of the translation. Not trusted: Lean checks it.
import Derived.Test.YtdpnnglfaofjeaaPUtfx0
import Derived.Test.YtdpnnglfaofjeaaPUtfx1
import Derived.Test.YtdpnnglfaofjeaaPUtfx2
import Derived.Test.YtdpnnglfaofjeaaPUtfx3
import Derived.Test.YtdpnnglfaofjeaaPUtfx4
namespace Go.Proofs.Ytdpnnglfaofjeaa.PUtf
open Go.RowKit Go.Proofs.YtdpnnglfaofjeaaW.PrintWords Go.Proofs.YtdpnnglfaofjeaaW.PrintLast Go.Proofs.YtdpnnglfaofjeaaW.PrintMore
attribute [local go_sem] max2_int min2_int max_two min_two max_three min_three max_four min_four   -- for this text's walks alone
set_option linter.unusedVariables false
set_option linter.unusedSimpArgs false

end Go.Proofs.Ytdpnnglfaofjeaa.PUtf
