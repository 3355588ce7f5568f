/- The group: what the reference's power and Valid, and the program's least and Valid, compute. -/
import Derived.Test.YtkkkfkefbjpmaaaDoorKit
import Derived.Test.YtkkkfkefbjpmaaaDoorInv
import Derived.Test.YtkkkfkefbjpmaaaDoorProg
import Derived.BigQuiet
import Derived.Lib.Hide
namespace Frk
open Go Go.RowKit Go.Proofs
set_option maxRecDepth 100000

theorem mul_bd {a c : Nat} (ha : a < 2147483579) (hc : c < 2147483579) : 0 ≤ (c : Int) * (a : Int) ∧ (c : Int) * (a : Int) ≤ 4611685966887780484 := by
  have h : c * a ≤ 2147483578 * 2147483578 := Nat.mul_le_mul (by omega) (by omega)
  have e : (c : Int) * (a : Int) = ((c * a : Nat) : Int) := by simp
  rw [e]
  omega

theorem pow_step_odd (c a n : Nat) (h : n % 2 = 1) : (c * a % P) * (a * a % P) ^ (n / 2) % P = c * a ^ n % P := by
  rw [Nat.mul_mod, pow_mod', ← Nat.pow_two, ← Nat.pow_mul, Nat.mod_mod, ← Nat.mul_mod, Nat.mul_assoc, ← Nat.pow_succ', show (2 * (n / 2)).succ = n from by omega]

theorem pow_step_even (c a n : Nat) (h : n % 2 = 0) : c * (a * a % P) ^ (n / 2) % P = c * a ^ n % P := by
  rw [Nat.mul_mod, pow_mod', ← Nat.pow_two, ← Nat.pow_mul, ← Nat.mul_mod, show 2 * (n / 2) = n from by omega]

/-- a to the power of n, modulo P -/
def pwn (a n : Nat) : Nat := a ^ n % P

set_option maxHeartbeats 400000 in
theorem rpower_any (a n : Nat) (ha : a < 2147483579) (hn : n ≤ 9223372036854775807) (w : World) :
   Calls Tryd.prog 94 #[.int .i64 a, .int .i64 n] w fun e w' => e = .returned (.int .i64 (pwn a n : Nat)) ∧ w = w' := by
  go_enter Tryd.func94, Tryd.ntmps94
  go_wp2
  go_loop [0, 1, 5] (fun x y z => ∃ a' n' c : Nat, a' < 2147483579 ∧ n' ≤ 9223372036854775807 ∧ c < 2147483579 ∧ x = .int .i64 a' ∧ y = .int .i64 n' ∧ z = .int .i64 c ∧ Seal (c * a' ^ n' % P = pwn a n)) (fun _ y _ => (intOf y).toNat)
  case atStart => exact ⟨a, n, 1, ha, hn, by omega, rfl, rfl, rfl, ⟨by rw [Nat.one_mul]; rfl⟩⟩
  case round =>
    obtain ⟨a', n', c, h1, h2, h3, rfl, rfl, rfl, hS⟩ := hrel
    clear ha hn
    obtain ⟨b1, b2⟩ := mul_bd h1 h3
    obtain ⟨b3, b4⟩ := mul_bd h1 h1
    by_cases h0 : n' = 0
    · subst h0
      have HC : Seal (c = pwn a n) := ⟨by have := hS.out; rwa [Nat.pow_zero, Nat.mul_one, Nat.mod_eq_of_lt (show c < P from h3)] at this⟩
      rw [show ((0 : Nat) : Int) = 0 from rfl]
      go_wp2
      go_ret
      exact ⟨ret_i64 (by rw [← HC.out]), rfl⟩
    · by_cases hp : n' % 2 = 1
      · have hp' : (n' : Int) % 2 = 1 := by omega
        have HS : Seal ((c * a' % P) * (a' * a' % P) ^ (n' / 2) % P = pwn a n) := ⟨by rw [pow_step_odd _ _ _ hp]; exact hS.out⟩
        clear hp hS
        go_wp2
        go_round
        case rel => exact ⟨a' * a' % P, n' / 2, c * a' % P, Nat.mod_lt _ P_pos, by omega, Nat.mod_lt _ P_pos, by go_num, by go_num, by go_num, HS⟩
        case measure => simp [intOf]; omega
      · have hp' : (n' : Int) % 2 = 0 := by omega
        have HS : Seal (c * (a' * a' % P) ^ (n' / 2) % P = pwn a n) := ⟨by rw [pow_step_even _ _ _ (by omega)]; exact hS.out⟩
        clear hp hS
        go_wp2
        go_round
        case rel => exact ⟨a' * a' % P, n' / 2, c, Nat.mod_lt _ P_pos, by omega, h3, by go_num, by go_num, rfl, HS⟩
        case measure => simp [intOf]; omega

theorem vd_pwn {x : Int} (h0 : 0 < x) (h1 : x < 2147483579) : vd x = ((pwn x.toNat 1073741789 : Int) == 1) := by
  unfold vd pwn
  rw [show decide (0 < x) = true from by simpa using h0, show decide (x < (P : Int)) = true from decide_eq_true h1, Bool.true_and, Bool.true_and,
    show (1073741789 : Nat) = Q from rfl, ← pow_eq_qpow (by decide)]
  rw [Bool.eq_iff_iff]
  simp only [beq_iff_eq]
  omega

theorem vd_low {x : Int} (h : x ≤ 0) : vd x = false := by
  unfold vd; rw [show decide (0 < x) = false from by simpa using h]; rfl
theorem vd_high {x : Int} (h : 2147483579 ≤ x) : vd x = false := by
  unfold vd; rw [show decide (x < (P : Int)) = false from decide_eq_false (Int.not_lt.2 h)]; simp

set_option maxHeartbeats 400000 in
theorem rvalid_any (x : Int) (w : World) : Calls Tryd.prog 86 #[.int .i64 x] w fun e w' => e = .returned (.bool (vd x)) ∧ w = w' := by
  by_cases h0 : 0 < x
  · by_cases h1 : x < 2147483579
    · have h0' : 1 ≤ x := h0
      obtain ⟨n, rfl⟩ := Int.eq_ofNat_of_zero_le (Int.le_of_lt h0)
      have HV := Seal.mk (vd_pwn h0 h1)
      have HC := fun w => rpower_any n 1073741789 (by omega) (by omega) w
      have HC' := Seal.mk HC
      clear h0 HC
      go_enter Tryd.func86, Tryd.ntmps86
      go_wp2_with (go_at_call 94; refine (HC'.out _).mono ?_; rintro e w' ⟨rfl, rfl⟩)
      all_goals go_ret
      all_goals exact ⟨ret_bool (by rw [HV.out]; simp [*]), rfl⟩
    · have HV := Seal.mk (vd_high (x := x) (by omega))
      go_enter Tryd.func86, Tryd.ntmps86
      go_wp2_with (fail)
      all_goals go_ret
      all_goals exact ⟨ret_bool (by rw [HV.out]), rfl⟩
  · have HV := Seal.mk (vd_low (x := x) (by omega))
    go_enter Tryd.func86, Tryd.ntmps86
    go_wp2_with (fail)
    all_goals go_ret
    all_goals exact ⟨ret_bool (by rw [HV.out]), rfl⟩
end Frk
