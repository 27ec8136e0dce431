/- Told functions: what each answers, as plain trees; written by a program of this session (tell.py). -/
import Derived.Test.YtdihkhpgkgfnbaaDoorVCa
import Derived.Test.YtdihkhpgkgfnbaaDoorEc
import Derived.KernelRfl
namespace Go.Proofs.YtdihkhpgkgfnbaaDoor.V
open Go Go.Ev
set_option maxRecDepth 100000
set_option linter.unusedVariables false
end Go.Proofs.YtdihkhpgkgfnbaaDoor.V
