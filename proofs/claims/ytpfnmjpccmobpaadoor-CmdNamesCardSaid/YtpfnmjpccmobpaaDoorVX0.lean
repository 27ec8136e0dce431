/- Told functions: what each answers, as plain trees; written by a program of this session (tell.py). -/
import Derived.Test.YtpfnmjpccmobpaaDoorVCd
import Derived.Test.YtpfnmjpccmobpaaDoorEc
import Derived.KernelRfl
namespace Go.Proofs.YtpfnmjpccmobpaaDoor.V
open Go Go.Ev
set_option maxRecDepth 100000
set_option linter.unusedVariables false
def tab18f1a9 : List Dat := ([.str ByteArray.empty, .str (bs [115, 116, 101, 112]), .str (bs [98, 97, 99, 107]), .str (bs [103, 111, 116, 111]), .str (bs [99, 111, 110, 116, 105, 110, 117, 101]), .str (bs [114, 101, 118, 101, 114, 115, 101]), .str (bs [97, 103, 97, 105, 110]), .str (bs [97, 100, 100]), .str (bs [114, 101, 109, 111, 118, 101]), .str (bs [112, 111, 105, 110, 116, 115]), .str (bs [115, 104, 111, 119]), .str (bs [116, 114, 101, 101]), .str (bs [119, 104, 121]), .str (bs [114, 101, 115, 117, 108, 116]), .str (bs [99, 111, 100, 101])] : List Dat)
def tabcec582 : List Dat := ([.str ByteArray.empty, .str (bs [98, 101, 103, 105, 110]), .str (bs [115, 116, 101, 112]), .str (bs [109, 105, 115, 115]), .str (bs [104, 101, 108, 100]), .str (bs [116, 117, 114, 110]), .str (bs [102, 111, 114, 107]), .str (bs [97, 103, 97, 105, 110]), .str (bs [111, 112, 101, 110]), .str (bs [99, 108, 111, 115, 101]), .str (bs [105, 110, 116, 111]), .str (bs [111, 117, 116]), .str (bs [100, 114, 111, 112]), .str (bs [109, 97, 116, 99, 104]), .str (bs [110, 111, 110, 101])] : List Dat)
def tabf4bf8e : List Dat := ([.str ByteArray.empty, .str (bs [110, 111, 100, 101]), .str (bs [112, 111, 115]), .str (bs [107, 105, 110, 100]), .str (bs [103, 114, 111, 117, 112]), .str (bs [100, 101, 112, 116, 104])] : List Dat)
end Go.Proofs.YtpfnmjpccmobpaaDoor.V
