/- Parts of the proof, joined. -/
import Derived.Test.YtnpnboldjbljaaaDoorVfNum
import Derived.Test.YtnpnboldjbljaaaDoorVfKit
import Derived.Test.YtnpnboldjbljaaaDoorProg
import Derived.BigQuiet
import Derived.Lib.Hide
import Derived.Deep.LoopGhost
import Derived.WalkMore
import Derived.RangeFuncNested
import Derived.RangeFuncBound
import Derived.RangeFuncCalls
import Derived.RangeFuncLeaves
/- The group of squares modulo P: powers, elements, inverses; and numbers modulo Q. -/
namespace Frk

def P : Nat := 2147483579
def Q : Nat := 1073741789

theorem P_eq : P = 2 * Q + 1 := rfl
theorem P_pos : 0 < P := by decide
theorem one_lt_P : 1 < P := by decide
theorem prime_P : Prime P := primeP
/-- an element -/
def Vd (x : Nat) : Prop := 0 < x ∧ x < P ∧ x ^ Q % P = 1

theorem not_dvd_of_lt {x : Nat} (h0 : 0 < x) (h1 : x < P) : ¬ P ∣ x := fun h => by have := Nat.le_of_dvd h0 h; omega

theorem char_of {x : Nat} (h0 : 0 < x) (h1 : x < P) : x ^ Q % P = if up x P % 2 = 0 then 1 else P - 1 :=
  euler prime_P P_eq (by decide) (not_dvd_of_lt h0 h1)

/-- x is an element exactly if its character is even -/
theorem vd_iff_up {x : Nat} (h0 : 0 < x) (h1 : x < P) : Vd x ↔ up x P % 2 = 0 := by
  unfold Vd
  rw [char_of h0 h1]
  constructor
  · rintro ⟨_, _, h⟩
    split at h
    · assumption
    · exact absurd h (by decide)
  · intro h
    exact ⟨h0, h1, by rw [if_pos h]⟩

theorem pow_mod' (a n : Nat) (p : Nat) : (a % p) ^ n % p = a ^ n % p := (Nat.pow_mod a n p).symm

theorem Vd.mul {a b : Nat} (ha : Vd a) (hb : Vd b) : Vd (a * b % P) := by
  refine ⟨?_, Nat.mod_lt _ P_pos, ?_⟩
  · rcases Nat.eq_zero_or_pos (a * b % P) with e | e
    · exfalso
      rcases prime_P.dvd_mul (Nat.dvd_of_mod_eq_zero e) with h | h
      · exact not_dvd_of_lt ha.1 ha.2.1 h
      · exact not_dvd_of_lt hb.1 hb.2.1 h
    · exact e
  · rw [pow_mod', Nat.mul_pow, Nat.mul_mod, ha.2.2, hb.2.2]; decide

theorem vd_one : Vd 1 := ⟨by decide, by decide, by rw [Nat.one_pow]; decide⟩

theorem Vd.pow {a : Nat} (ha : Vd a) : ∀ n, Vd (a ^ n % P)
  | 0 => by rw [Nat.pow_zero, Nat.mod_eq_of_lt one_lt_P]; exact vd_one
  | n + 1 => by
    have h := (Vd.pow ha n).mul ha
    rw [Nat.pow_succ, Nat.mul_mod, Nat.mod_eq_of_lt ha.2.1]
    exact h

/-- the least number that is not negative and congruent to n -/
def lq (n : Int) : Nat := (n % (Q : Int)).toNat

/-- a to the power of a number that may be negative -/
def pw (a : Nat) (n : Int) : Nat := a ^ lq n % P

theorem Vd.pw {a : Nat} (ha : Vd a) (n : Int) : Vd (pw a n) := ha.pow _

/-- products modulo P -/
def mp (a b : Nat) : Nat := a * b % P
theorem Vd.mp {a b : Nat} (ha : Vd a) (hb : Vd b) : Vd (mp a b) := ha.mul hb

/-! ## what is opposite -/

/-! ## powers, quickly -/

/-- a to the power of n, modulo P, by squares -/
def qpow (p : Nat) : Nat → Nat → Nat → Nat → Nat
  | 0, _, _, c => c
  | f + 1, a, n, c => if n = 0 then c else qpow p f (a * a % p) (n / 2) (if n % 2 = 1 then c * a % p else c)

theorem qpow_spec (p : Nat) : ∀ f a n c, n < 2 ^ f → c < p → qpow p f a n c = c * a ^ n % p
  | 0, a, n, c, hn, hc => by
    have : n = 0 := by simp at hn; exact hn
    subst this
    rw [qpow, Nat.pow_zero, Nat.mul_one, Nat.mod_eq_of_lt hc]
  | f + 1, a, n, c, hn, hc => by
    unfold qpow
    by_cases h : n = 0
    · rw [if_pos h, h, Nat.pow_zero, Nat.mul_one, Nat.mod_eq_of_lt hc]
    · rw [if_neg h, qpow_spec p f _ _ _ (by rw [Nat.pow_succ] at hn; omega) (by split; exact Nat.mod_lt _ (by omega); exact hc)]
      have e : (a * a % p) ^ (n / 2) % p = a ^ (2 * (n / 2)) % p := by
        rw [pow_mod', ← Nat.pow_two, ← Nat.pow_mul]
      rw [Nat.mul_mod, e]
      split
      · rename_i h1
        rw [Nat.mod_mod, ← Nat.mul_mod, Nat.mul_assoc, ← Nat.pow_succ', show (2 * (n / 2)).succ = n from by omega]
      · rename_i h1
        rw [← Nat.mul_mod, show 2 * (n / 2) = n from by omega]

theorem pow_eq_qpow {a n : Nat} (hn : n < 2 ^ 31) : a ^ n % P = qpow P 31 a n 1 := by
  rw [qpow_spec P 31 a n 1 hn one_lt_P, Nat.one_mul]

/-- is x an element? (to be reckoned) -/
def vd (x : Int) : Bool := decide (0 < x) && decide (x < (P : Int)) && (qpow P 31 x.toNat Q 1 == 1)

theorem vd_iff (x : Nat) : vd (x : Int) = true ↔ Vd x := by
  unfold vd Vd
  rw [Int.toNat_natCast, ← pow_eq_qpow (by decide)]
  simp only [Bool.and_eq_true, decide_eq_true_eq, beq_iff_eq]
  omega

end Frk

/- The group: what the reference's power and Valid, and the program's least and Valid, compute. -/
namespace Frk
open Go Go.RowKit Go.Proofs
set_option maxRecDepth 100000

/-- a to the power of n, modulo P -/
def pwn (a n : Nat) : Nat := a ^ n % P

end Frk

/- The program's group.Valid computes whether a number is an element (by reciprocity). -/
namespace Frk
open Go Go.RowKit Go.Proofs
set_option maxRecDepth 100000

def par (x n : Nat) : Bool := up x n % 2 == 0

theorem par_one (n : Nat) (h : n % 2 = 1) : par 1 n = true := by unfold par; rw [up_one n h]; rfl

theorem par_half (x n : Nat) (hn : n % 2 = 1) (hx : x % 2 = 0) (hc : Nat.gcd x n = 1) (sq : Bool) :
    (sq == par x n) = ((if n % 8 = 3 ∨ n % 8 = 5 then !sq else sq) == par (x / 2) n) := by
  have h := up_half x n hn hx hc
  unfold par
  split at h <;> rename_i h8
  · rw [if_pos h8]
    cases sq <;> rw [Bool.eq_iff_iff] <;> simp <;> omega
  · rw [if_neg h8]
    cases sq <;> rw [Bool.eq_iff_iff] <;> simp <;> omega

theorem gcd_half (x n : Nat) (h : Nat.gcd x n = 1) : Nat.gcd (x / 2) n = 1 ∨ x % 2 = 1 := by
  by_cases hx : x % 2 = 1
  · exact .inr hx
  · left
    obtain ⟨y, rfl⟩ : ∃ y, x = 2 * y := ⟨x / 2, by omega⟩
    rw [show 2 * y / 2 = y from by omega]
    exact Nat.Coprime.coprime_mul_left h

/-- what holds at the head of both loops -/
structure VInv (v : Bool) (x n : Nat) (sq : Bool) : Prop where
  pos : 0 < x
  odd : n % 2 = 1
  gcd : Nat.gcd x n = 1
  val : (sq == par x n) = v

theorem VInv.half {v : Bool} {x n : Nat} {sq : Bool} (h : VInv v x n sq) (hx : x % 2 = 0) : VInv v (x / 2) n (if n % 8 = 3 ∨ n % 8 = 5 then !sq else sq) :=
  ⟨by have := h.pos; omega, h.odd, (gcd_half x n h.gcd).resolve_right (by omega), by rw [← par_half x n h.odd hx h.gcd]; exact h.val⟩

theorem VInv.one {v : Bool} {n : Nat} {sq : Bool} (h : VInv v 1 n sq) : sq = v := by
  have := h.val
  rw [par_one n h.odd] at this
  cases sq <;> simpa using this

theorem VInv.start {x : Nat} (h0 : 0 < x) (h1 : x < 2147483579) : VInv (vd x) x 2147483579 true := by
  refine ⟨h0, rfl, prime_P.gcd (not_dvd_of_lt h0 h1), ?_⟩
  rw [Bool.eq_iff_iff, vd_iff, vd_iff_up h0 h1]
  unfold par
  simp
  rfl

def VRel (v : Bool) (K : Nat) (a b c : Value) : Prop := ∃ (x n : Nat) (sq : Bool), x < K ∧ n ≤ K ∧ a = .int .i64 x ∧ b = .int .i64 n ∧ c = .bool sq ∧ Seal (VInv v x n sq)
def VRin (v : Bool) (n x : Nat) (a c : Value) : Prop := ∃ (x' : Nat) (sq' : Bool), x' ≤ x ∧ a = .int .i64 x' ∧ c = .bool sq' ∧ Seal (VInv v x' n sq')

end Frk

/- A range over a function whose iterator keeps its state in cells of its own: the law for the caller. -/
namespace Frk
open Go Go.RowKit

/-- what an iterator that never is stopped promises; its own cells lie in the blocks of which mine holds -/
def SeqCells {α : Type} (F : Fence) (n : Nat) (P : Program) (g : Nat) (lb : Array Value) (encs : α → Array Value) (mine : Nat → Prop) (S : List α → Prop) (N : Nat) (w : World) : Prop :=
  ∀ (l : Nat) (J : List α → World → Prop) (W : World), Below w.heap.size w W →
    (∀ s A B row, J s A → A.grownBy B row → (∀ r, row = some r → mine r) → J s B) →
    (∀ pre x W1, J pre W1 → pre.length < N → YieldAt F (n - 1) P l (encs x) W1 fun e W' =>
      e = .returned (.bool true) ∧ J (pre ++ [x]) W' ∧ ∀ r, mine r → W'.heap[r]? = W1.heap[r]?) →
    J [] W →
    CallsIn F n P g (#[.func (.yield l) #[] #[]] ++ lb) W fun e W' => (∃ v, e = .returned v) ∧ ∃ xs, S xs ∧ J xs W'

/-- how a round's body is left -/
def cellsPost {α : Type} (mine : Nat → Prop) (I : List α → World → Prop) (xs : List α) (W : World) : Exit → Act → World → Prop
  | .normal, _, W' => KeepsOthers W W' ∧ (∀ r, mine r → W'.heap[r]? = W.heap[r]?) ∧ I xs W'
  | _, _, _ => False

variable {F : Fence} {n : Nat} {P : Program}

end Frk

