/- The examples with which the statements on signatures begin. -/
import Derived.Test.YtkkkfkefbjpmaaaDoorExs
namespace Frk
open Go Go.RowKit Go.Proofs
set_option maxRecDepth 100000

end Frk
