/- The reference's Mod, Times, Power and Quotient. -/
import Derived.Test.YtkkkfkefbjpmaaaDoorVGrp
import Derived.Test.YtkkkfkefbjpmaaaDoorVKit
import Derived.Test.YtkkkfkefbjpmaaaDoorProg
import Derived.BigQuiet
import Derived.Lib.Hide
namespace Frk
open Go Go.RowKit Go.Proofs
set_option maxRecDepth 100000

def pwqn (a n : Nat) : Nat := a ^ n % Q

/-- Q less 2 -/
def eQ : Nat := 1073741787
attribute [irreducible] eQ

/-- the quotient modulo Q -/
def quo (a b : Int) : Nat := lq a * pwqn (lq b) eQ % 1073741789
end Frk
