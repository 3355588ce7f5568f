/- The reference's sign: values, Hash. -/
import Derived.Test.YtkkkfkefbjpmaaaDoorVRel
import Derived.Test.YtkkkfkefbjpmaaaDoorVRsm
import Derived.Test.YtkkkfkefbjpmaaaDoorVGrf
import Derived.Test.YtkkkfkefbjpmaaaDoorVExs
import Derived.Test.YtkkkfkefbjpmaaaDoorVRqm
namespace Frk
open Go Go.RowKit Go.Proofs
set_option maxRecDepth 100000

theorem IsB.drew {w : World} {a : Option Addr} {len cap : Nat} {l : Bytes} (h : IsB w a len cap l) : IsB w.drew a len cap l := ⟨h.llen, h.lcap, h.lmax, h.cmax, h.at_⟩

end Frk
