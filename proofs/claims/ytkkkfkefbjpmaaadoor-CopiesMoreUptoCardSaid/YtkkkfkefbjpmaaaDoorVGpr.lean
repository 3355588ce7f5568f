/- The group: what the reference's power and Valid, and the program's least and Valid, compute. -/
import Derived.Test.YtkkkfkefbjpmaaaDoorVKit
import Derived.Test.YtkkkfkefbjpmaaaDoorVGrp
import Derived.Test.YtkkkfkefbjpmaaaDoorProg
import Derived.BigQuiet
import Derived.Lib.Hide
namespace Frk
open Go Go.RowKit Go.Proofs
set_option maxRecDepth 100000

theorem mul_bd {a c : Nat} (ha : a < 2147483579) (hc : c < 2147483579) : 0 ≤ (c : Int) * (a : Int) ∧ (c : Int) * (a : Int) ≤ 4611685966887780484 := by
  have h : c * a ≤ 2147483578 * 2147483578 := Nat.mul_le_mul (by omega) (by omega)
  have e : (c : Int) * (a : Int) = ((c * a : Nat) : Int) := by simp
  rw [e]
  omega

theorem pow_step_odd (c a n : Nat) (h : n % 2 = 1) : (c * a % P) * (a * a % P) ^ (n / 2) % P = c * a ^ n % P := by
  rw [Nat.mul_mod, pow_mod', ← Nat.pow_two, ← Nat.pow_mul, Nat.mod_mod, ← Nat.mul_mod, Nat.mul_assoc, ← Nat.pow_succ', show (2 * (n / 2)).succ = n from by omega]

theorem pow_step_even (c a n : Nat) (h : n % 2 = 0) : c * (a * a % P) ^ (n / 2) % P = c * a ^ n % P := by
  rw [Nat.mul_mod, pow_mod', ← Nat.pow_two, ← Nat.pow_mul, ← Nat.mul_mod, show 2 * (n / 2) = n from by omega]

/-- a to the power of n, modulo P -/
def pwn (a n : Nat) : Nat := a ^ n % P

theorem vd_low {x : Int} (h : x ≤ 0) : vd x = false := by
  unfold vd; rw [show decide (0 < x) = false from by simpa using h]; rfl
theorem vd_high {x : Int} (h : 2147483579 ≤ x) : vd x = false := by
  unfold vd; rw [show decide (x < (P : Int)) = false from decide_eq_false (Int.not_lt.2 h)]; simp

end Frk
