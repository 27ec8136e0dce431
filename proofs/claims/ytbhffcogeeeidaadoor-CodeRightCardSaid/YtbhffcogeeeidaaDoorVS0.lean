/- Told functions: what each answers, as plain trees; written by a program of this session (tell.py). -/
import Derived.Test.YtbhffcogeeeidaaDoorVCb
import Derived.Test.YtbhffcogeeeidaaDoorEc
import Derived.KernelRfl
namespace Go.Proofs.YtbhffcogeeeidaaDoor.V0
open Go Go.Ev
set_option maxRecDepth 100000
set_option linter.unusedVariables false
end Go.Proofs.YtbhffcogeeeidaaDoor.V0
