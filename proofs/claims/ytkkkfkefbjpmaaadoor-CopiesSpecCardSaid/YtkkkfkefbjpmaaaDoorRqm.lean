/- The reference's Mod, Times, Power and Quotient. -/
import Derived.Test.YtkkkfkefbjpmaaaDoorInv
import Derived.Test.YtkkkfkefbjpmaaaDoorKit
import Derived.Test.YtkkkfkefbjpmaaaDoorProg
import Derived.BigQuiet
import Derived.Lib.Hide
namespace Frk
open Go Go.RowKit Go.Proofs
set_option maxRecDepth 100000

theorem tmod_neg_lq (n : Int) (h : n.tmod 1073741789 < 0) : n.tmod 1073741789 + 1073741789 = ((lq n : Nat) : Int) := by
  rw [lq_cast]
  have h2 : -1073741789 < n.tmod 1073741789 := Int.lt_tmod_of_pos n (by decide)
  have h3 : (n.tmod 1073741789 + 1073741789) % 1073741789 = n % 1073741789 := by rw [Int.add_emod_right, Int.tmod_def, Int.sub_mul_emod_self_left]
  show _ = n % 1073741789
  rw [← h3, Int.emod_eq_of_lt (by omega) (by omega)]

theorem tmod_pos_lq (n : Int) (h : 0 ≤ n.tmod 1073741789) : n.tmod 1073741789 = ((lq n : Nat) : Int) := by
  rw [lq_cast]
  have h2 : n.tmod 1073741789 < 1073741789 := Int.tmod_lt_of_pos n (by decide)
  have h3 : n.tmod 1073741789 % 1073741789 = n % 1073741789 := by rw [Int.tmod_def, Int.sub_mul_emod_self_left]
  show _ = n % 1073741789
  rw [← h3, Int.emod_eq_of_lt (by omega) (by omega)]

theorem mod_any (n : Int) (w : World) : Calls Tryd.prog 114 #[.int .i64 n] w fun e w' => e = .returned (.int .i64 (lq n)) ∧ w = w' := by
  have h1 : -1073741789 < n.tmod 1073741789 := Int.lt_tmod_of_pos n (by decide)
  have h2 : n.tmod 1073741789 < 1073741789 := Int.tmod_lt_of_pos n (by decide)
  by_cases h0 : 0 ≤ n
  · have e : n % 1073741789 = ((lq n : Nat) : Int) := (lq_cast n).symm
    have h3 : 0 ≤ n % 1073741789 := Int.emod_nonneg _ (by decide)
    have HT := Seal.mk e
    clear h1 h2 e
    go_enter Tryd.func114, Tryd.ntmps114
    go_wp2
    go_ret
    exact ⟨ret_i64 HT.out, rfl⟩
  · have hn : n < 0 := by omega
    by_cases h : n.tmod 1073741789 < 0
    · have HT := Seal.mk (tmod_neg_lq n h)
      go_enter Tryd.func114, Tryd.ntmps114
      go_wp2
      go_ret
      exact ⟨ret_i64 HT.out, rfl⟩
    · have HT := Seal.mk (tmod_pos_lq n (by omega))
      go_enter Tryd.func114, Tryd.ntmps114
      go_wp2
      go_ret
      exact ⟨ret_i64 HT.out, rfl⟩

theorem mulq_bd {a c : Nat} (ha : a < 1073741789) (hc : c < 1073741789) : 0 ≤ (c : Int) * (a : Int) ∧ (c : Int) * (a : Int) ≤ 1152921427297436944 := by
  have h : c * a ≤ 1073741788 * 1073741788 := Nat.mul_le_mul (by omega) (by omega)
  have e : (c : Int) * (a : Int) = ((c * a : Nat) : Int) := by simp
  rw [e]
  omega

theorem rtimes_any (a b : Int) (w : World) : Calls Tryd.prog 83 #[.int .i64 a, .int .i64 b] w fun e w' => e = .returned (.int .i64 (lq a * lq b % 1073741789 : Nat)) ∧ w = w' := by
  have la : lq a < 1073741789 := lq_lt a
  have lb : lq b < 1073741789 := lq_lt b
  obtain ⟨b1, b2⟩ := mulq_bd lb la
  go_enter Tryd.func83, Tryd.ntmps83
  go_wp2_with (go_at_call 114; refine (mod_any _ _).mono ?_; rintro e w' ⟨rfl, rfl⟩)
  go_ret
  exact ⟨ret_i64 (by simp), rfl⟩

theorem powq_step_odd (c a n : Nat) (h : n % 2 = 1) : (c * a % Q) * (a * a % Q) ^ (n / 2) % Q = c * a ^ n % Q := by
  rw [Nat.mul_mod, pow_mod', ← Nat.pow_two, ← Nat.pow_mul, Nat.mod_mod, ← Nat.mul_mod, Nat.mul_assoc, ← Nat.pow_succ', show (2 * (n / 2)).succ = n from by omega]
theorem powq_step_even (c a n : Nat) (h : n % 2 = 0) : c * (a * a % Q) ^ (n / 2) % Q = c * a ^ n % Q := by
  rw [Nat.mul_mod, pow_mod', ← Nat.pow_two, ← Nat.pow_mul, ← Nat.mul_mod, show 2 * (n / 2) = n from by omega]

def pwqn (a n : Nat) : Nat := a ^ n % Q

/-- Q less 2 -/
def eQ : Nat := 1073741787
theorem eQ_le : eQ ≤ 9223372036854775807 := by decide
theorem eQ_int : ((eQ : Nat) : Int) = 1073741787 := rfl
theorem eQ_inv {a : Nat} (h : a % Q ≠ 0) : a * a ^ eQ % Q = 1 := inv_Q h
attribute [irreducible] eQ

/-- the quotient modulo Q -/
def quo (a b : Int) : Nat := lq a * pwqn (lq b) eQ % 1073741789
theorem quo_lt (a b : Int) : quo a b < 1073741789 := Nat.mod_lt _ (by decide)
theorem pwqn_lt (a n : Nat) : pwqn a n < Q := Nat.mod_lt _ Q_pos
theorem quo_mul (a b : Int) (hb : lq b ≠ 0) : lq ((quo a b : Nat) * b) = lq a := by
  have hbl := lq_lt b
  have h1 : quo a b % Q = quo a b := Nat.mod_eq_of_lt (quo_lt a b)
  have h2 : lq b ^ eQ % Q * lq b % Q = 1 := by
    rw [Nat.mod_mul_mod, Nat.mul_comm]
    exact eQ_inv (by rw [Nat.mod_eq_of_lt hbl]; exact hb)
  rw [lq_mul, lq_nat, h1]
  unfold quo pwqn
  rw [show (1073741789 : Nat) = Q from rfl, Nat.mod_mul_mod, Nat.mul_assoc, Nat.mul_mod, h2, Nat.mul_one, Nat.mod_mod, Nat.mod_eq_of_lt (lq_lt a)]
end Frk
