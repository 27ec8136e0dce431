/- Told functions: what each answers, as plain trees; written by a program of this session (tell.py). -/
import Derived.Test.YtlofoifcdmeopaaGreatDoorVCa
import Derived.Test.YtlofoifcdmeopaaGreatDoorEc
import Derived.KernelRfl
namespace Go.Proofs.YtlofoifcdmeopaaGreatDoor.V
open Go Go.Ev
set_option maxRecDepth 100000
set_option linter.unusedVariables false
def tabdd2fde : List Dat := ([.agg [.int 181, .int 956], .agg [.int 376, .int 255], .agg [.int 383, .int 115], .agg [.int 962, .int 963], .agg [.int 8490, .int 107], .agg [.int 8491, .int 229]] : List Dat)
def tab542c0f : List Dat := ([.agg [.int 65, .int 90, .int 1, .int 32], .agg [.int 192, .int 214, .int 1, .int 32], .agg [.int 216, .int 222, .int 1, .int 32], .agg [.int 256, .int 302, .int 2, .int 1], .agg [.int 306, .int 310, .int 2, .int 1], .agg [.int 313, .int 327, .int 2, .int 1], .agg [.int 330, .int 374, .int 2, .int 1], .agg [.int 377, .int 381, .int 2, .int 1], .agg [.int 913, .int 929, .int 1, .int 32], .agg [.int 931, .int 939, .int 1, .int 32], .agg [.int 1024, .int 1039, .int 1, .int 80], .agg [.int 1040, .int 1071, .int 1, .int 32], .agg [.int 1120, .int 1152, .int 2, .int 1], .agg [.int 1329, .int 1366, .int 1, .int 48], .agg [.int 7680, .int 7828, .int 2, .int 1], .agg [.int 9398, .int 9423, .int 1, .int 26], .agg [.int 65313, .int 65338, .int 1, .int 32], .agg [.int 66560, .int 66599, .int 1, .int 40]] : List Dat)
end Go.Proofs.YtlofoifcdmeopaaGreatDoor.V
