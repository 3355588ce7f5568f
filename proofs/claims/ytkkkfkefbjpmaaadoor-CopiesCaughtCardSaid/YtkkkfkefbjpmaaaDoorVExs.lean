/- The examples of signatures, reckoned. -/
import Derived.Test.YtkkkfkefbjpmaaaDoorVEnv
import Derived.Lib.SlBytesConst
namespace Frk
open Go Go.RowKit Go.Proofs
set_option maxRecDepth 100000

def tLetter : Bytes := [108, 101, 116, 116, 101, 114]
end Frk
