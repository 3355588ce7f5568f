/- The law SignMeans, walked. -/
import Derived.Test.YtkkkfkefbjpmaaaDoorPnt
namespace Frk
open Go Go.RowKit Go.Proofs
set_option maxRecDepth 100000

theorem boolne (a b : Bool) (h : a = b) : (a == b) = true := by simp [h]

end Frk
