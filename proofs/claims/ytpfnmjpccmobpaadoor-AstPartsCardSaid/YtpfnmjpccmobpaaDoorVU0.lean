/- Told functions: what each answers, as plain trees; written by a program of this session (tell.py). -/
import Derived.Test.YtpfnmjpccmobpaaDoorVCc
import Derived.Test.YtpfnmjpccmobpaaDoorEc
import Derived.KernelRfl
namespace Go.Proofs.YtpfnmjpccmobpaaDoor.V
open Go Go.Ev
set_option maxRecDepth 100000
set_option linter.unusedVariables false
end Go.Proofs.YtpfnmjpccmobpaaDoor.V
