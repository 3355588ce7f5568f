/- Parts of the proof, joined. -/
import Derived.Test.YtllbjakfjpjfnaaDoorVwNum
import Derived.Test.YtllbjakfjpjfnaaDoorVwKit
import Derived.Test.YtllbjakfjpjfnaaDoorProg
import Derived.BigQuiet
import Derived.Lib.Hide
/- The group of squares modulo P: powers, elements, inverses; and numbers modulo Q. -/
namespace Frk

def P : Nat := 2147483579
def Q : Nat := 1073741789

theorem P_eq : P = 2 * Q + 1 := rfl
theorem P_pos : 0 < P := by decide
theorem one_lt_P : 1 < P := by decide
theorem prime_P : Prime P := primeP
/-- an element -/
def Vd (x : Nat) : Prop := 0 < x ∧ x < P ∧ x ^ Q % P = 1

theorem not_dvd_of_lt {x : Nat} (h0 : 0 < x) (h1 : x < P) : ¬ P ∣ x := fun h => by have := Nat.le_of_dvd h0 h; omega

theorem char_of {x : Nat} (h0 : 0 < x) (h1 : x < P) : x ^ Q % P = if up x P % 2 = 0 then 1 else P - 1 :=
  euler prime_P P_eq (by decide) (not_dvd_of_lt h0 h1)

/-- x is an element exactly if its character is even -/
theorem vd_iff_up {x : Nat} (h0 : 0 < x) (h1 : x < P) : Vd x ↔ up x P % 2 = 0 := by
  unfold Vd
  rw [char_of h0 h1]
  constructor
  · rintro ⟨_, _, h⟩
    split at h
    · assumption
    · exact absurd h (by decide)
  · intro h
    exact ⟨h0, h1, by rw [if_pos h]⟩

theorem pow_mod' (a n : Nat) (p : Nat) : (a % p) ^ n % p = a ^ n % p := (Nat.pow_mod a n p).symm

theorem Vd.mul {a b : Nat} (ha : Vd a) (hb : Vd b) : Vd (a * b % P) := by
  refine ⟨?_, Nat.mod_lt _ P_pos, ?_⟩
  · rcases Nat.eq_zero_or_pos (a * b % P) with e | e
    · exfalso
      rcases prime_P.dvd_mul (Nat.dvd_of_mod_eq_zero e) with h | h
      · exact not_dvd_of_lt ha.1 ha.2.1 h
      · exact not_dvd_of_lt hb.1 hb.2.1 h
    · exact e
  · rw [pow_mod', Nat.mul_pow, Nat.mul_mod, ha.2.2, hb.2.2]; decide

theorem vd_one : Vd 1 := ⟨by decide, by decide, by rw [Nat.one_pow]; decide⟩

theorem Vd.pow {a : Nat} (ha : Vd a) : ∀ n, Vd (a ^ n % P)
  | 0 => by rw [Nat.pow_zero, Nat.mod_eq_of_lt one_lt_P]; exact vd_one
  | n + 1 => by
    have h := (Vd.pow ha n).mul ha
    rw [Nat.pow_succ, Nat.mul_mod, Nat.mod_eq_of_lt ha.2.1]
    exact h

/-- the least number that is not negative and congruent to n -/
def lq (n : Int) : Nat := (n % (Q : Int)).toNat

/-- a to the power of a number that may be negative -/
def pw (a : Nat) (n : Int) : Nat := a ^ lq n % P

theorem Vd.pw {a : Nat} (ha : Vd a) (n : Int) : Vd (pw a n) := ha.pow _

/-- products modulo P -/
def mp (a b : Nat) : Nat := a * b % P
theorem Vd.mp {a b : Nat} (ha : Vd a) (hb : Vd b) : Vd (mp a b) := ha.mul hb

/-! ## what is opposite -/

/-! ## powers, quickly -/

/-- a to the power of n, modulo P, by squares -/
def qpow (p : Nat) : Nat → Nat → Nat → Nat → Nat
  | 0, _, _, c => c
  | f + 1, a, n, c => if n = 0 then c else qpow p f (a * a % p) (n / 2) (if n % 2 = 1 then c * a % p else c)

theorem qpow_spec (p : Nat) : ∀ f a n c, n < 2 ^ f → c < p → qpow p f a n c = c * a ^ n % p
  | 0, a, n, c, hn, hc => by
    have : n = 0 := by simp at hn; exact hn
    subst this
    rw [qpow, Nat.pow_zero, Nat.mul_one, Nat.mod_eq_of_lt hc]
  | f + 1, a, n, c, hn, hc => by
    unfold qpow
    by_cases h : n = 0
    · rw [if_pos h, h, Nat.pow_zero, Nat.mul_one, Nat.mod_eq_of_lt hc]
    · rw [if_neg h, qpow_spec p f _ _ _ (by rw [Nat.pow_succ] at hn; omega) (by split; exact Nat.mod_lt _ (by omega); exact hc)]
      have e : (a * a % p) ^ (n / 2) % p = a ^ (2 * (n / 2)) % p := by
        rw [pow_mod', ← Nat.pow_two, ← Nat.pow_mul]
      rw [Nat.mul_mod, e]
      split
      · rename_i h1
        rw [Nat.mod_mod, ← Nat.mul_mod, Nat.mul_assoc, ← Nat.pow_succ', show (2 * (n / 2)).succ = n from by omega]
      · rename_i h1
        rw [← Nat.mul_mod, show 2 * (n / 2) = n from by omega]

theorem pow_eq_qpow {a n : Nat} (hn : n < 2 ^ 31) : a ^ n % P = qpow P 31 a n 1 := by
  rw [qpow_spec P 31 a n 1 hn one_lt_P, Nat.one_mul]

/-- is x an element? (to be reckoned) -/
def vd (x : Int) : Bool := decide (0 < x) && decide (x < (P : Int)) && (qpow P 31 x.toNat Q 1 == 1)

theorem vd_iff (x : Nat) : vd (x : Int) = true ↔ Vd x := by
  unfold vd Vd
  rw [Int.toNat_natCast, ← pow_eq_qpow (by decide)]
  simp only [Bool.and_eq_true, decide_eq_true_eq, beq_iff_eq]
  omega

end Frk

/- The group: what the reference's power and Valid, and the program's least and Valid, compute. -/
namespace Frk
open Go Go.RowKit Go.Proofs
set_option maxRecDepth 100000

/-- a to the power of n, modulo P -/
def pwn (a n : Nat) : Nat := a ^ n % P

theorem vd_low {x : Int} (h : x ≤ 0) : vd x = false := by
  unfold vd; rw [show decide (0 < x) = false from by simpa using h]; rfl
theorem vd_high {x : Int} (h : 2147483579 ≤ x) : vd x = false := by
  unfold vd; rw [show decide (x < (P : Int)) = false from decide_eq_false (Int.not_lt.2 h)]; simp

end Frk

