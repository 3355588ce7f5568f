/- Powers that can be reckoned. -/
import Derived.Test.YtkkkfkefbjpmaaaDoorVVer
namespace Frk

/-- a power, by squares -/
def pwq (a : Nat) (n : Int) : Nat := qpow P 31 a (lq n) 1
theorem pw_q (a : Nat) (n : Int) : pw a n = pwq a n := by
  unfold pw pwq
  exact pow_eq_qpow (Nat.lt_of_lt_of_le (lq_lt n) (by decide))

def sgHashQ (r key : Int) (b : Bytes) : Nat := sgHash r key b
def sgEQ (x : Int) (b : Bytes) : Nat := sgHash (pwq 4 (sgK x b)) (pwq 4 x) b
theorem sgE_q (x : Int) (b : Bytes) : sgE x b = sgEQ x b := by unfold sgE sgEQ; rw [pw_q, pw_q]
def sgSQ (x : Int) (b : Bytes) : Int := ((sgK x b : Int) + (sgEQ x b : Int) * x % 1073741789) % 1073741789
theorem sgS_q (x : Int) (b : Bytes) : sgS x b = sgSQ x b := by unfold sgS sgSQ; rw [sgE_q]
def sgPointQ (key E S : Int) : Nat := mp (pwq 4 S) (pwq key.toNat (-E))
theorem sgPoint_q (key E S : Int) : sgPoint key E S = sgPointQ key E S := by unfold sgPoint sgPointQ; rw [pw_q, pw_q]
def vrQ (key : Int) (b : Bytes) (E S : Int) : Bool := inQ E && inQ S && vd key && (E == (sgHash (sgPointQ key E S) key b : Nat))
theorem vr_q (key : Int) (b : Bytes) (E S : Int) : vrB key b E S = vrQ key b E S := by unfold vrB vrQ; rw [sgPoint_q]
end Frk
