/- Told functions: what each answers, as plain trees; written by a program of this session (tell.py). -/
import Derived.Test.YtpfnmjpccmobpaaDoorVCa
import Derived.Test.YtpfnmjpccmobpaaDoorEc
import Derived.KernelRfl
namespace Go.Proofs.YtpfnmjpccmobpaaDoor.V
open Go Go.Ev
set_option maxRecDepth 100000
set_option linter.unusedVariables false
def tab3b6e57 : List Dat := ([.int 0, .int 0, .int 0, .int 1, .int 0, .int 1] : List Dat)
end Go.Proofs.YtpfnmjpccmobpaaDoor.V
