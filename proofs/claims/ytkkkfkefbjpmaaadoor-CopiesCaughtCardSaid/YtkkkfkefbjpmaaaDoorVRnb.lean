/- A range over a function whose rounds begin by making variables: the law for the caller. -/
import Derived.Test.YtkkkfkefbjpmaaaDoorVRng
namespace Frk
open Go Go.RowKit

variable {F : Fence} {n : Nat} {P : Program}

end Frk
