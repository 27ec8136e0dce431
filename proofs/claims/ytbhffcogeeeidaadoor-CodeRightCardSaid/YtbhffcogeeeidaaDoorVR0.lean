/- Told functions: what each answers, as plain trees; written by a program of this session (tell.py). -/
import Derived.Test.YtbhffcogeeeidaaDoorVCa
import Derived.Test.YtbhffcogeeeidaaDoorEc
import Derived.KernelRfl
namespace Go.Proofs.YtbhffcogeeeidaaDoor.V
open Go Go.Ev
set_option maxRecDepth 100000
set_option linter.unusedVariables false
def tabfa47b4 : List Dat := ([.str ByteArray.empty, .str (bs [115, 101, 116]), .str (bs [104, 111, 108, 100]), .str (bs [98, 97, 99, 107]), .str (bs [102, 111, 114, 107]), .str (bs [119, 97, 121]), .str (bs [106, 117, 109, 112]), .str (bs [105, 110, 105, 116]), .str (bs [108, 111, 111, 112]), .str (bs [109, 97, 114, 107]), .str (bs [110, 101, 120, 116]), .str (bs [111, 112, 101, 110]), .str (bs [99, 108, 111, 115, 101]), .str (bs [105, 110, 116, 111]), .str (bs [114, 101, 116, 114, 101, 97, 116]), .str (bs [109, 101, 101, 116]), .str (bs [99, 117, 116]), .str (bs [112, 101, 101, 107]), .str (bs [114, 101, 102, 117, 116, 101]), .str (bs [109, 97, 116, 99, 104])] : List Dat)
end Go.Proofs.YtbhffcogeeeidaaDoor.V
