/- Elements and numbers: group.Element, group.Number and the reference's. -/
import Derived.Test.YtcioeedlfbioaaaGreatDoorRpw
namespace Frk
open Go Go.RowKit Go.Proofs
set_option maxRecDepth 100000

/-- the element of a number -/
def elB (n : Int) : Int := if vd n = true then n else 2147483579 - n
def numOk (n : Int) : Bool := decide (1 ≤ n) && decide (n ≤ 1073741789)

theorem valid_at1 (x : Int) (r : Bool) (w : World) (hr : vd x = r) : Calls Tryz.prog 55 #[.int .i64 x] w fun e w' => e = .returned (.bool r) ∧ w = w' := by
  rw [← hr]; exact valid_any x w

/-- the number of an element -/
def nmB (x : Int) : Int := if x ≤ 1073741789 then x else 2147483579 - x

end Frk
