/- The reference's Mod, Times, Power and Quotient. -/
import Derived.Test.YtbifjlejelcicaaDoorInv
import Derived.Test.YtbifjlejelcicaaDoorKit
import Derived.Test.YtbifjlejelcicaaDoorProg
import Derived.BigQuiet
import Derived.Lib.Hide
namespace Frk
open Go Go.RowKit Go.Proofs
set_option maxRecDepth 100000

theorem tmod_neg_lq (n : Int) (h : n.tmod 1073741789 < 0) : n.tmod 1073741789 + 1073741789 = ((lq n : Nat) : Int) := by
  rw [lq_cast]
  have h2 : -1073741789 < n.tmod 1073741789 := Int.lt_tmod_of_pos n (by decide)
  have h3 : (n.tmod 1073741789 + 1073741789) % 1073741789 = n % 1073741789 := by rw [Int.add_emod_right, Int.tmod_def, Int.sub_mul_emod_self_left]
  show _ = n % 1073741789
  rw [← h3, Int.emod_eq_of_lt (by omega) (by omega)]

theorem tmod_pos_lq (n : Int) (h : 0 ≤ n.tmod 1073741789) : n.tmod 1073741789 = ((lq n : Nat) : Int) := by
  rw [lq_cast]
  have h2 : n.tmod 1073741789 < 1073741789 := Int.tmod_lt_of_pos n (by decide)
  have h3 : n.tmod 1073741789 % 1073741789 = n % 1073741789 := by rw [Int.tmod_def, Int.sub_mul_emod_self_left]
  show _ = n % 1073741789
  rw [← h3, Int.emod_eq_of_lt (by omega) (by omega)]

theorem mod_any (n : Int) (w : World) : Calls Tryd.prog 23 #[.int .i64 n] w fun e w' => e = .returned (.int .i64 (lq n)) ∧ w = w' := by
  have h1 : -1073741789 < n.tmod 1073741789 := Int.lt_tmod_of_pos n (by decide)
  have h2 : n.tmod 1073741789 < 1073741789 := Int.tmod_lt_of_pos n (by decide)
  by_cases h0 : 0 ≤ n
  · have e : n % 1073741789 = ((lq n : Nat) : Int) := (lq_cast n).symm
    have h3 : 0 ≤ n % 1073741789 := Int.emod_nonneg _ (by decide)
    have HT := Seal.mk e
    clear h1 h2 e
    go_enter Tryd.func23, Tryd.ntmps23
    go_wp2
    go_ret
    exact ⟨ret_i64 HT.out, rfl⟩
  · have hn : n < 0 := by omega
    by_cases h : n.tmod 1073741789 < 0
    · have HT := Seal.mk (tmod_neg_lq n h)
      go_enter Tryd.func23, Tryd.ntmps23
      go_wp2
      go_ret
      exact ⟨ret_i64 HT.out, rfl⟩
    · have HT := Seal.mk (tmod_pos_lq n (by omega))
      go_enter Tryd.func23, Tryd.ntmps23
      go_wp2
      go_ret
      exact ⟨ret_i64 HT.out, rfl⟩

theorem mulq_bd {a c : Nat} (ha : a < 1073741789) (hc : c < 1073741789) : 0 ≤ (c : Int) * (a : Int) ∧ (c : Int) * (a : Int) ≤ 1152921427297436944 := by
  have h : c * a ≤ 1073741788 * 1073741788 := Nat.mul_le_mul (by omega) (by omega)
  have e : (c : Int) * (a : Int) = ((c * a : Nat) : Int) := by simp
  rw [e]
  omega

theorem rtimes_any (a b : Int) (w : World) : Calls Tryd.prog 48 #[.int .i64 a, .int .i64 b] w fun e w' => e = .returned (.int .i64 (lq a * lq b % 1073741789 : Nat)) ∧ w = w' := by
  have la : lq a < 1073741789 := lq_lt a
  have lb : lq b < 1073741789 := lq_lt b
  obtain ⟨b1, b2⟩ := mulq_bd lb la
  go_enter Tryd.func48, Tryd.ntmps48
  go_wp2_with (go_at_call 23; refine (mod_any _ _).mono ?_; rintro e w' ⟨rfl, rfl⟩)
  go_ret
  exact ⟨ret_i64 (by simp), rfl⟩

theorem powq_step_odd (c a n : Nat) (h : n % 2 = 1) : (c * a % Q) * (a * a % Q) ^ (n / 2) % Q = c * a ^ n % Q := by
  rw [Nat.mul_mod, pow_mod', ← Nat.pow_two, ← Nat.pow_mul, Nat.mod_mod, ← Nat.mul_mod, Nat.mul_assoc, ← Nat.pow_succ', show (2 * (n / 2)).succ = n from by omega]
theorem powq_step_even (c a n : Nat) (h : n % 2 = 0) : c * (a * a % Q) ^ (n / 2) % Q = c * a ^ n % Q := by
  rw [Nat.mul_mod, pow_mod', ← Nat.pow_two, ← Nat.pow_mul, ← Nat.mul_mod, show 2 * (n / 2) = n from by omega]

def pwqn (a n : Nat) : Nat := a ^ n % Q

set_option maxHeartbeats 400000 in
theorem rpowerq_any (x : Int) (n : Nat) (hn : n ≤ 9223372036854775807) (w : World) :
   Calls Tryd.prog 57 #[.int .i64 x, .int .i64 n] w fun e w' => e = .returned (.int .i64 (pwqn (lq x) n : Nat)) ∧ w = w' := by
  have la : lq x < 1073741789 := lq_lt x
  go_enter Tryd.func57, Tryd.ntmps57
  go_wp2_with (go_at_call 23; refine (mod_any _ _).mono ?_; rintro e w' ⟨rfl, rfl⟩)
  obtain ⟨a, HA⟩ : ∃ a, Seal (lq x = a) := ⟨_, ⟨rfl⟩⟩
  rw [HA.out] at la
  rw [HA.out]
  go_loop [0, 1, 5] (fun x y z => ∃ a' n' c : Nat, a' < 1073741789 ∧ n' ≤ 9223372036854775807 ∧ c < 1073741789 ∧ x = .int .i64 a' ∧ y = .int .i64 n' ∧ z = .int .i64 c ∧ Seal (c * a' ^ n' % Q = pwqn a n)) (fun _ y _ => (intOf y).toNat)
  case atStart => exact ⟨a, n, 1, la, hn, by omega, rfl, rfl, rfl, ⟨by rw [Nat.one_mul]; rfl⟩⟩
  case round =>
    obtain ⟨a', n', c, h1, h2, h3, rfl, rfl, rfl, hS⟩ := hrel
    clear la hn
    obtain ⟨b1, b2⟩ := mulq_bd h1 h3
    obtain ⟨b3, b4⟩ := mulq_bd h1 h1
    by_cases h0 : n' = 0
    · subst h0
      have HC : Seal (c = pwqn a n) := ⟨by have := hS.out; rwa [Nat.pow_zero, Nat.mul_one, Nat.mod_eq_of_lt (show c < Q from h3)] at this⟩
      rw [show ((0 : Nat) : Int) = 0 from rfl]
      go_wp2
      go_ret
      exact ⟨ret_i64 (by rw [HA.out, ← HC.out]), rfl⟩
    · by_cases hp : n' % 2 = 1
      · have hp' : (n' : Int) % 2 = 1 := by omega
        have HS : Seal ((c * a' % Q) * (a' * a' % Q) ^ (n' / 2) % Q = pwqn a n) := ⟨by rw [powq_step_odd _ _ _ hp]; exact hS.out⟩
        clear hp hS
        go_wp2
        go_round
        case rel => exact ⟨a' * a' % Q, n' / 2, c * a' % Q, Nat.mod_lt _ Q_pos, by omega, Nat.mod_lt _ Q_pos, by go_num, by go_num, by go_num, HS⟩
        case measure => simp [intOf]; omega
      · have hp' : (n' : Int) % 2 = 0 := by omega
        have HS : Seal (c * (a' * a' % Q) ^ (n' / 2) % Q = pwqn a n) := ⟨by rw [powq_step_even _ _ _ (by omega)]; exact hS.out⟩
        clear hp hS
        go_wp2
        go_round
        case rel => exact ⟨a' * a' % Q, n' / 2, c, Nat.mod_lt _ Q_pos, by omega, h3, by go_num, by go_num, rfl, HS⟩
        case measure => simp [intOf]; omega

/-- Q less 2 -/
def eQ : Nat := 1073741787
theorem eQ_le : eQ ≤ 9223372036854775807 := by decide
theorem eQ_int : ((eQ : Nat) : Int) = 1073741787 := rfl
theorem eQ_inv {a : Nat} (h : a % Q ≠ 0) : a * a ^ eQ % Q = 1 := inv_Q h
attribute [irreducible] eQ

/-- the quotient modulo Q -/
def quo (a b : Int) : Nat := lq a * pwqn (lq b) eQ % 1073741789
theorem quo_lt (a b : Int) : quo a b < 1073741789 := Nat.mod_lt _ (by decide)
theorem pwqn_lt (a n : Nat) : pwqn a n < Q := Nat.mod_lt _ Q_pos
theorem quotient_any (a b : Int) (w : World) : Calls Tryd.prog 24 #[.int .i64 a, .int .i64 b] w fun e w' => e = .returned (.int .i64 (quo a b)) ∧ w = w' := by
  have HC := Seal.mk (rpowerq_any b eQ eQ_le w)
  rw [eQ_int] at HC
  have HD : Seal (quo a b = lq a * lq (pwqn (lq b) eQ : Nat) % 1073741789) := ⟨by
    unfold quo
    rw [lq_nat, Nat.mod_eq_of_lt (pwqn_lt _ _)]⟩
  go_enter Tryd.func24, Tryd.ntmps24
  go_wp2_with fail
  refine HC.out.mono ?_
  rintro e w' ⟨rfl, rfl⟩
  go_wp2_with fail
  refine (rtimes_any _ _ _).mono ?_
  rintro e w' ⟨rfl, rfl⟩
  go_wp2_with fail
  go_ret
  exact ⟨ret_i64 (by rw [HD.out, Int.natCast_emod, Int.natCast_mul]; rfl), rfl⟩

theorem quo_mul (a b : Int) (hb : lq b ≠ 0) : lq ((quo a b : Nat) * b) = lq a := by
  have hbl := lq_lt b
  have h1 : quo a b % Q = quo a b := Nat.mod_eq_of_lt (quo_lt a b)
  have h2 : lq b ^ eQ % Q * lq b % Q = 1 := by
    rw [Nat.mod_mul_mod, Nat.mul_comm]
    exact eQ_inv (by rw [Nat.mod_eq_of_lt hbl]; exact hb)
  rw [lq_mul, lq_nat, h1]
  unfold quo pwqn
  rw [show (1073741789 : Nat) = Q from rfl, Nat.mod_mul_mod, Nat.mul_assoc, Nat.mul_mod, h2, Nat.mul_one, Nat.mod_mod, Nat.mod_eq_of_lt (lq_lt a)]
end Frk
