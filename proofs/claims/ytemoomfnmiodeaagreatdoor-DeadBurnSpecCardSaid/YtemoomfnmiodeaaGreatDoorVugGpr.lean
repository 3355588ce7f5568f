/- Parts of the proof, joined. -/
import Derived.Test.YtemoomfnmiodeaaGreatDoorVuNum
import Derived.Test.YtemoomfnmiodeaaGreatDoorVugKit
import Derived.Test.YtemoomfnmiodeaaGreatDoorProg
import Derived.BigQuiet
import Derived.Lib.Hide
/- The group of squares modulo P: powers, elements, inverses; and numbers modulo Q. -/
namespace Frk

def P : Nat := 2147483579
def Q : Nat := 1073741789

theorem P_eq : P = 2 * Q + 1 := rfl
theorem P_pos : 0 < P := by decide
theorem one_lt_P : 1 < P := by decide
theorem prime_P : Prime P := primeP
/-- an element -/
def Vd (x : Nat) : Prop := 0 < x ∧ x < P ∧ x ^ Q % P = 1

theorem not_dvd_of_lt {x : Nat} (h0 : 0 < x) (h1 : x < P) : ¬ P ∣ x := fun h => by have := Nat.le_of_dvd h0 h; omega

theorem char_of {x : Nat} (h0 : 0 < x) (h1 : x < P) : x ^ Q % P = if up x P % 2 = 0 then 1 else P - 1 :=
  euler prime_P P_eq (by decide) (not_dvd_of_lt h0 h1)

/-- x is an element exactly if its character is even -/
theorem vd_iff_up {x : Nat} (h0 : 0 < x) (h1 : x < P) : Vd x ↔ up x P % 2 = 0 := by
  unfold Vd
  rw [char_of h0 h1]
  constructor
  · rintro ⟨_, _, h⟩
    split at h
    · assumption
    · exact absurd h (by decide)
  · intro h
    exact ⟨h0, h1, by rw [if_pos h]⟩

theorem pow_mod' (a n : Nat) (p : Nat) : (a % p) ^ n % p = a ^ n % p := (Nat.pow_mod a n p).symm

theorem Vd.mul {a b : Nat} (ha : Vd a) (hb : Vd b) : Vd (a * b % P) := by
  refine ⟨?_, Nat.mod_lt _ P_pos, ?_⟩
  · rcases Nat.eq_zero_or_pos (a * b % P) with e | e
    · exfalso
      rcases prime_P.dvd_mul (Nat.dvd_of_mod_eq_zero e) with h | h
      · exact not_dvd_of_lt ha.1 ha.2.1 h
      · exact not_dvd_of_lt hb.1 hb.2.1 h
    · exact e
  · rw [pow_mod', Nat.mul_pow, Nat.mul_mod, ha.2.2, hb.2.2]; decide

theorem vd_one : Vd 1 := ⟨by decide, by decide, by rw [Nat.one_pow]; decide⟩

theorem Vd.pow {a : Nat} (ha : Vd a) : ∀ n, Vd (a ^ n % P)
  | 0 => by rw [Nat.pow_zero, Nat.mod_eq_of_lt one_lt_P]; exact vd_one
  | n + 1 => by
    have h := (Vd.pow ha n).mul ha
    rw [Nat.pow_succ, Nat.mul_mod, Nat.mod_eq_of_lt ha.2.1]
    exact h

/-- the least number that is not negative and congruent to n -/
def lq (n : Int) : Nat := (n % (Q : Int)).toNat

theorem lq_lt (n : Int) : lq n < Q := by
  have h1 := Int.emod_nonneg n (show (Q : Int) ≠ 0 by decide)
  have h2 := Int.emod_lt_of_pos n (show (0 : Int) < Q by decide)
  unfold lq; omega

theorem lq_cast (n : Int) : (lq n : Int) = n % (Q : Int) := by
  have h1 := Int.emod_nonneg n (show (Q : Int) ≠ 0 by decide)
  unfold lq; omega

/-- a to the power of a number that may be negative -/
def pw (a : Nat) (n : Int) : Nat := a ^ lq n % P

theorem Vd.pw {a : Nat} (ha : Vd a) (n : Int) : Vd (pw a n) := ha.pow _

/-- products modulo P -/
def mp (a b : Nat) : Nat := a * b % P
theorem mp_lt (a b : Nat) : mp a b < P := Nat.mod_lt _ P_pos
theorem Vd.mp {a b : Nat} (ha : Vd a) (hb : Vd b) : Vd (mp a b) := ha.mul hb

/-! ## what is opposite -/

theorem opp_pow {x : Nat} (h0 : 0 < x) (h1 : x < P) : (P - x) ^ Q % P = (P - 1) * (x ^ Q % P) % P := by
  have h : (P - x) % P = (P - 1) * x % P := by
    have : (P - 1) * x = (P - x) + P * (x - 1) := by
      rw [Nat.sub_mul, Nat.mul_sub, Nat.one_mul, Nat.mul_one]
      have : P ≤ P * x := Nat.le_mul_of_pos_right P h0
      omega
    rw [this, Nat.add_mul_mod_self_left]
  rw [← pow_mod', h, pow_mod', Nat.mul_pow, Nat.mul_mod, minus_pow P (by decide), if_neg (by decide)]

/-- of two opposite numbers one is an element -/
theorem vd_opp {x : Nat} (h0 : 0 < x) (h1 : x < P) : Vd (P - x) ↔ ¬ Vd x := by
  unfold Vd
  rw [opp_pow h0 h1, char_of h0 h1]
  by_cases h : up x P % 2 = 0
  · rw [if_pos h, Nat.mul_one, Nat.mod_eq_of_lt (by decide)]
    constructor
    · rintro ⟨_, _, e⟩; exact absurd e (by decide)
    · intro e; exact absurd ⟨h0, h1, rfl⟩ e
  · rw [if_neg h, sq_minus_one P (by decide)]
    constructor
    · rintro _ ⟨_, _, e⟩; exact absurd e (by decide)
    · intro _; exact ⟨by omega, by omega, rfl⟩

/-! ## powers, quickly -/

/-- a to the power of n, modulo P, by squares -/
def qpow (p : Nat) : Nat → Nat → Nat → Nat → Nat
  | 0, _, _, c => c
  | f + 1, a, n, c => if n = 0 then c else qpow p f (a * a % p) (n / 2) (if n % 2 = 1 then c * a % p else c)

theorem qpow_spec (p : Nat) : ∀ f a n c, n < 2 ^ f → c < p → qpow p f a n c = c * a ^ n % p
  | 0, a, n, c, hn, hc => by
    have : n = 0 := by simp at hn; exact hn
    subst this
    rw [qpow, Nat.pow_zero, Nat.mul_one, Nat.mod_eq_of_lt hc]
  | f + 1, a, n, c, hn, hc => by
    unfold qpow
    by_cases h : n = 0
    · rw [if_pos h, h, Nat.pow_zero, Nat.mul_one, Nat.mod_eq_of_lt hc]
    · rw [if_neg h, qpow_spec p f _ _ _ (by rw [Nat.pow_succ] at hn; omega) (by split; exact Nat.mod_lt _ (by omega); exact hc)]
      have e : (a * a % p) ^ (n / 2) % p = a ^ (2 * (n / 2)) % p := by
        rw [pow_mod', ← Nat.pow_two, ← Nat.pow_mul]
      rw [Nat.mul_mod, e]
      split
      · rename_i h1
        rw [Nat.mod_mod, ← Nat.mul_mod, Nat.mul_assoc, ← Nat.pow_succ', show (2 * (n / 2)).succ = n from by omega]
      · rename_i h1
        rw [← Nat.mul_mod, show 2 * (n / 2) = n from by omega]

theorem pow_eq_qpow {a n : Nat} (hn : n < 2 ^ 31) : a ^ n % P = qpow P 31 a n 1 := by
  rw [qpow_spec P 31 a n 1 hn one_lt_P, Nat.one_mul]

/-- is x an element? (to be reckoned) -/
def vd (x : Int) : Bool := decide (0 < x) && decide (x < (P : Int)) && (qpow P 31 x.toNat Q 1 == 1)

theorem vd_iff (x : Nat) : vd (x : Int) = true ↔ Vd x := by
  unfold vd Vd
  rw [Int.toNat_natCast, ← pow_eq_qpow (by decide)]
  simp only [Bool.and_eq_true, decide_eq_true_eq, beq_iff_eq]
  omega

theorem vd_of_vd {x : Int} (h : vd x = true) : ∃ n : Nat, x = n ∧ Vd n := by
  have h0 : 0 < x := by
    unfold vd at h; simp only [Bool.and_eq_true, decide_eq_true_eq] at h; exact h.1.1
  obtain ⟨n, rfl⟩ := Int.eq_ofNat_of_zero_le (Int.le_of_lt h0)
  exact ⟨n, rfl, (vd_iff n).1 h⟩

theorem vd4 : Vd 4 := (vd_iff 4).1 (by decide +kernel)

end Frk

/- The group: what the reference's power and Valid, and the program's least and Valid, compute. -/
namespace Frk
open Go Go.RowKit Go.Proofs
set_option maxRecDepth 100000

theorem mul_bd {a c : Nat} (ha : a < 2147483579) (hc : c < 2147483579) : 0 ≤ (c : Int) * (a : Int) ∧ (c : Int) * (a : Int) ≤ 4611685966887780484 := by
  have h : c * a ≤ 2147483578 * 2147483578 := Nat.mul_le_mul (by omega) (by omega)
  have e : (c : Int) * (a : Int) = ((c * a : Nat) : Int) := by simp
  rw [e]
  omega

theorem pow_step_odd (c a n : Nat) (h : n % 2 = 1) : (c * a % P) * (a * a % P) ^ (n / 2) % P = c * a ^ n % P := by
  rw [Nat.mul_mod, pow_mod', ← Nat.pow_two, ← Nat.pow_mul, Nat.mod_mod, ← Nat.mul_mod, Nat.mul_assoc, ← Nat.pow_succ', show (2 * (n / 2)).succ = n from by omega]

theorem pow_step_even (c a n : Nat) (h : n % 2 = 0) : c * (a * a % P) ^ (n / 2) % P = c * a ^ n % P := by
  rw [Nat.mul_mod, pow_mod', ← Nat.pow_two, ← Nat.pow_mul, ← Nat.mul_mod, show 2 * (n / 2) = n from by omega]

/-- a to the power of n, modulo P -/
def pwn (a n : Nat) : Nat := a ^ n % P

set_option maxHeartbeats 400000 in
theorem rpower_any (a n : Nat) (ha : a < 2147483579) (hn : n ≤ 9223372036854775807) (w : World) :
   Calls Tryz.prog 100 #[.int .i64 a, .int .i64 n] w fun e w' => e = .returned (.int .i64 (pwn a n : Nat)) ∧ w = w' := by
  go_enter Tryz.func100, Tryz.ntmps100
  go_wp2
  go_loop [0, 1, 5] (fun x y z => ∃ a' n' c : Nat, a' < 2147483579 ∧ n' ≤ 9223372036854775807 ∧ c < 2147483579 ∧ x = .int .i64 a' ∧ y = .int .i64 n' ∧ z = .int .i64 c ∧ Seal (c * a' ^ n' % P = pwn a n)) (fun _ y _ => (intOf y).toNat)
  case atStart => exact ⟨a, n, 1, ha, hn, by omega, rfl, rfl, rfl, ⟨by rw [Nat.one_mul]; rfl⟩⟩
  case round =>
    obtain ⟨a', n', c, h1, h2, h3, rfl, rfl, rfl, hS⟩ := hrel
    clear ha hn
    obtain ⟨b1, b2⟩ := mul_bd h1 h3
    obtain ⟨b3, b4⟩ := mul_bd h1 h1
    by_cases h0 : n' = 0
    · subst h0
      have HC : Seal (c = pwn a n) := ⟨by have := hS.out; rwa [Nat.pow_zero, Nat.mul_one, Nat.mod_eq_of_lt (show c < P from h3)] at this⟩
      rw [show ((0 : Nat) : Int) = 0 from rfl]
      go_wp2
      go_ret
      exact ⟨ret_i64 (by rw [← HC.out]), rfl⟩
    · by_cases hp : n' % 2 = 1
      · have hp' : (n' : Int) % 2 = 1 := by omega
        have HS : Seal ((c * a' % P) * (a' * a' % P) ^ (n' / 2) % P = pwn a n) := ⟨by rw [pow_step_odd _ _ _ hp]; exact hS.out⟩
        clear hp hS
        go_wp2
        go_round
        case rel => exact ⟨a' * a' % P, n' / 2, c * a' % P, Nat.mod_lt _ P_pos, by omega, Nat.mod_lt _ P_pos, by go_num, by go_num, by go_num, HS⟩
        case measure => simp [intOf]; omega
      · have hp' : (n' : Int) % 2 = 0 := by omega
        have HS : Seal (c * (a' * a' % P) ^ (n' / 2) % P = pwn a n) := ⟨by rw [pow_step_even _ _ _ (by omega)]; exact hS.out⟩
        clear hp hS
        go_wp2
        go_round
        case rel => exact ⟨a' * a' % P, n' / 2, c, Nat.mod_lt _ P_pos, by omega, h3, by go_num, by go_num, rfl, HS⟩
        case measure => simp [intOf]; omega

theorem vd_pwn {x : Int} (h0 : 0 < x) (h1 : x < 2147483579) : vd x = ((pwn x.toNat 1073741789 : Int) == 1) := by
  unfold vd pwn
  rw [show decide (0 < x) = true from by simpa using h0, show decide (x < (P : Int)) = true from decide_eq_true h1, Bool.true_and, Bool.true_and,
    show (1073741789 : Nat) = Q from rfl, ← pow_eq_qpow (by decide)]
  rw [Bool.eq_iff_iff]
  simp only [beq_iff_eq]
  omega

theorem vd_low {x : Int} (h : x ≤ 0) : vd x = false := by
  unfold vd; rw [show decide (0 < x) = false from by simpa using h]; rfl
theorem vd_high {x : Int} (h : 2147483579 ≤ x) : vd x = false := by
  unfold vd; rw [show decide (x < (P : Int)) = false from decide_eq_false (Int.not_lt.2 h)]; simp

set_option maxHeartbeats 400000 in
theorem rvalid_any (x : Int) (w : World) : Calls Tryz.prog 82 #[.int .i64 x] w fun e w' => e = .returned (.bool (vd x)) ∧ w = w' := by
  by_cases h0 : 0 < x
  · by_cases h1 : x < 2147483579
    · have h0' : 1 ≤ x := h0
      obtain ⟨n, rfl⟩ := Int.eq_ofNat_of_zero_le (Int.le_of_lt h0)
      have HV := Seal.mk (vd_pwn h0 h1)
      have HC := fun w => rpower_any n 1073741789 (by omega) (by omega) w
      have HC' := Seal.mk HC
      clear h0 HC
      go_enter Tryz.func82, Tryz.ntmps82
      go_wp2_with (go_at_call 100; refine (HC'.out _).mono ?_; rintro e w' ⟨rfl, rfl⟩)
      all_goals go_ret
      all_goals exact ⟨ret_bool (by rw [HV.out]; simp [*]), rfl⟩
    · have HV := Seal.mk (vd_high (x := x) (by omega))
      go_enter Tryz.func82, Tryz.ntmps82
      go_wp2_with (fail)
      all_goals go_ret
      all_goals exact ⟨ret_bool (by rw [HV.out]), rfl⟩
  · have HV := Seal.mk (vd_low (x := x) (by omega))
    go_enter Tryz.func82, Tryz.ntmps82
    go_wp2_with (fail)
    all_goals go_ret
    all_goals exact ⟨ret_bool (by rw [HV.out]), rfl⟩
end Frk

