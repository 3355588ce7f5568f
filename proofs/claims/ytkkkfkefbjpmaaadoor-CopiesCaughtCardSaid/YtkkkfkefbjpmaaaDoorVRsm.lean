/- The reference's SHA-256: padded. -/
import Derived.Test.YtkkkfkefbjpmaaaDoorVRap
import Derived.Test.YtkkkfkefbjpmaaaDoorVAbs
import Derived.Test.YtkkkfkefbjpmaaaDoorVTag
import Derived.StillTailTactics
namespace Frk
open Go Go.RowKit Go.Proofs
set_option maxRecDepth 100000

/-- the first bytes of a number of eight -/
def beP (n j : Nat) : Bytes := (List.range j).map (fun i => beAt n 8 i)
end Frk
