/- Parts of the proof, joined. -/
import Derived.Test.YtllbjakfjpjfnaaGreatDoorVxNum
import Derived.Test.YtllbjakfjpjfnaaGreatDoorVxgKit
import Derived.Test.YtllbjakfjpjfnaaGreatDoorProg
import Derived.BigQuiet
import Derived.Lib.Hide
import Derived.Deep.LoopGhost
import Derived.WalkMore
/- The group of squares modulo P: powers, elements, inverses; and numbers modulo Q. -/
namespace Frk

def P : Nat := 2147483579
def Q : Nat := 1073741789

theorem P_eq : P = 2 * Q + 1 := rfl
theorem P_pos : 0 < P := by decide
theorem one_lt_P : 1 < P := by decide
theorem prime_P : Prime P := primeP
/-- an element -/
def Vd (x : Nat) : Prop := 0 < x ∧ x < P ∧ x ^ Q % P = 1

theorem not_dvd_of_lt {x : Nat} (h0 : 0 < x) (h1 : x < P) : ¬ P ∣ x := fun h => by have := Nat.le_of_dvd h0 h; omega

theorem char_of {x : Nat} (h0 : 0 < x) (h1 : x < P) : x ^ Q % P = if up x P % 2 = 0 then 1 else P - 1 :=
  euler prime_P P_eq (by decide) (not_dvd_of_lt h0 h1)

/-- x is an element exactly if its character is even -/
theorem vd_iff_up {x : Nat} (h0 : 0 < x) (h1 : x < P) : Vd x ↔ up x P % 2 = 0 := by
  unfold Vd
  rw [char_of h0 h1]
  constructor
  · rintro ⟨_, _, h⟩
    split at h
    · assumption
    · exact absurd h (by decide)
  · intro h
    exact ⟨h0, h1, by rw [if_pos h]⟩

theorem pow_mod' (a n : Nat) (p : Nat) : (a % p) ^ n % p = a ^ n % p := (Nat.pow_mod a n p).symm

theorem Vd.mul {a b : Nat} (ha : Vd a) (hb : Vd b) : Vd (a * b % P) := by
  refine ⟨?_, Nat.mod_lt _ P_pos, ?_⟩
  · rcases Nat.eq_zero_or_pos (a * b % P) with e | e
    · exfalso
      rcases prime_P.dvd_mul (Nat.dvd_of_mod_eq_zero e) with h | h
      · exact not_dvd_of_lt ha.1 ha.2.1 h
      · exact not_dvd_of_lt hb.1 hb.2.1 h
    · exact e
  · rw [pow_mod', Nat.mul_pow, Nat.mul_mod, ha.2.2, hb.2.2]; decide

theorem vd_one : Vd 1 := ⟨by decide, by decide, by rw [Nat.one_pow]; decide⟩

theorem Vd.pow {a : Nat} (ha : Vd a) : ∀ n, Vd (a ^ n % P)
  | 0 => by rw [Nat.pow_zero, Nat.mod_eq_of_lt one_lt_P]; exact vd_one
  | n + 1 => by
    have h := (Vd.pow ha n).mul ha
    rw [Nat.pow_succ, Nat.mul_mod, Nat.mod_eq_of_lt ha.2.1]
    exact h

/-- the least number that is not negative and congruent to n -/
def lq (n : Int) : Nat := (n % (Q : Int)).toNat

/-- a to the power of a number that may be negative -/
def pw (a : Nat) (n : Int) : Nat := a ^ lq n % P

theorem Vd.pw {a : Nat} (ha : Vd a) (n : Int) : Vd (pw a n) := ha.pow _

/-- products modulo P -/
def mp (a b : Nat) : Nat := a * b % P
theorem Vd.mp {a b : Nat} (ha : Vd a) (hb : Vd b) : Vd (mp a b) := ha.mul hb

/-! ## what is opposite -/

/-! ## powers, quickly -/

/-- a to the power of n, modulo P, by squares -/
def qpow (p : Nat) : Nat → Nat → Nat → Nat → Nat
  | 0, _, _, c => c
  | f + 1, a, n, c => if n = 0 then c else qpow p f (a * a % p) (n / 2) (if n % 2 = 1 then c * a % p else c)

theorem qpow_spec (p : Nat) : ∀ f a n c, n < 2 ^ f → c < p → qpow p f a n c = c * a ^ n % p
  | 0, a, n, c, hn, hc => by
    have : n = 0 := by simp at hn; exact hn
    subst this
    rw [qpow, Nat.pow_zero, Nat.mul_one, Nat.mod_eq_of_lt hc]
  | f + 1, a, n, c, hn, hc => by
    unfold qpow
    by_cases h : n = 0
    · rw [if_pos h, h, Nat.pow_zero, Nat.mul_one, Nat.mod_eq_of_lt hc]
    · rw [if_neg h, qpow_spec p f _ _ _ (by rw [Nat.pow_succ] at hn; omega) (by split; exact Nat.mod_lt _ (by omega); exact hc)]
      have e : (a * a % p) ^ (n / 2) % p = a ^ (2 * (n / 2)) % p := by
        rw [pow_mod', ← Nat.pow_two, ← Nat.pow_mul]
      rw [Nat.mul_mod, e]
      split
      · rename_i h1
        rw [Nat.mod_mod, ← Nat.mul_mod, Nat.mul_assoc, ← Nat.pow_succ', show (2 * (n / 2)).succ = n from by omega]
      · rename_i h1
        rw [← Nat.mul_mod, show 2 * (n / 2) = n from by omega]

theorem pow_eq_qpow {a n : Nat} (hn : n < 2 ^ 31) : a ^ n % P = qpow P 31 a n 1 := by
  rw [qpow_spec P 31 a n 1 hn one_lt_P, Nat.one_mul]

/-- is x an element? (to be reckoned) -/
def vd (x : Int) : Bool := decide (0 < x) && decide (x < (P : Int)) && (qpow P 31 x.toNat Q 1 == 1)

theorem vd_iff (x : Nat) : vd (x : Int) = true ↔ Vd x := by
  unfold vd Vd
  rw [Int.toNat_natCast, ← pow_eq_qpow (by decide)]
  simp only [Bool.and_eq_true, decide_eq_true_eq, beq_iff_eq]
  omega

end Frk

/- The group: what the reference's power and Valid, and the program's least and Valid, compute. -/
namespace Frk
open Go Go.RowKit Go.Proofs
set_option maxRecDepth 100000

theorem mul_bd {a c : Nat} (ha : a < 2147483579) (hc : c < 2147483579) : 0 ≤ (c : Int) * (a : Int) ∧ (c : Int) * (a : Int) ≤ 4611685966887780484 := by
  have h : c * a ≤ 2147483578 * 2147483578 := Nat.mul_le_mul (by omega) (by omega)
  have e : (c : Int) * (a : Int) = ((c * a : Nat) : Int) := by simp
  rw [e]
  omega

theorem pow_step_odd (c a n : Nat) (h : n % 2 = 1) : (c * a % P) * (a * a % P) ^ (n / 2) % P = c * a ^ n % P := by
  rw [Nat.mul_mod, pow_mod', ← Nat.pow_two, ← Nat.pow_mul, Nat.mod_mod, ← Nat.mul_mod, Nat.mul_assoc, ← Nat.pow_succ', show (2 * (n / 2)).succ = n from by omega]

theorem pow_step_even (c a n : Nat) (h : n % 2 = 0) : c * (a * a % P) ^ (n / 2) % P = c * a ^ n % P := by
  rw [Nat.mul_mod, pow_mod', ← Nat.pow_two, ← Nat.pow_mul, ← Nat.mul_mod, show 2 * (n / 2) = n from by omega]

/-- a to the power of n, modulo P -/
def pwn (a n : Nat) : Nat := a ^ n % P

set_option maxHeartbeats 400000 in
theorem rpower_any (a n : Nat) (ha : a < 2147483579) (hn : n ≤ 9223372036854775807) (w : World) :
   Calls Tryz.prog 81 #[.int .i64 a, .int .i64 n] w fun e w' => e = .returned (.int .i64 (pwn a n : Nat)) ∧ w = w' := by
  go_enter Tryz.func81, Tryz.ntmps81
  go_wp2
  go_loop [0, 1, 5] (fun x y z => ∃ a' n' c : Nat, a' < 2147483579 ∧ n' ≤ 9223372036854775807 ∧ c < 2147483579 ∧ x = .int .i64 a' ∧ y = .int .i64 n' ∧ z = .int .i64 c ∧ Seal (c * a' ^ n' % P = pwn a n)) (fun _ y _ => (intOf y).toNat)
  case atStart => exact ⟨a, n, 1, ha, hn, by omega, rfl, rfl, rfl, ⟨by rw [Nat.one_mul]; rfl⟩⟩
  case round =>
    obtain ⟨a', n', c, h1, h2, h3, rfl, rfl, rfl, hS⟩ := hrel
    clear ha hn
    obtain ⟨b1, b2⟩ := mul_bd h1 h3
    obtain ⟨b3, b4⟩ := mul_bd h1 h1
    by_cases h0 : n' = 0
    · subst h0
      have HC : Seal (c = pwn a n) := ⟨by have := hS.out; rwa [Nat.pow_zero, Nat.mul_one, Nat.mod_eq_of_lt (show c < P from h3)] at this⟩
      rw [show ((0 : Nat) : Int) = 0 from rfl]
      go_wp2
      go_ret
      exact ⟨ret_i64 (by rw [← HC.out]), rfl⟩
    · by_cases hp : n' % 2 = 1
      · have hp' : (n' : Int) % 2 = 1 := by omega
        have HS : Seal ((c * a' % P) * (a' * a' % P) ^ (n' / 2) % P = pwn a n) := ⟨by rw [pow_step_odd _ _ _ hp]; exact hS.out⟩
        clear hp hS
        go_wp2
        go_round
        case rel => exact ⟨a' * a' % P, n' / 2, c * a' % P, Nat.mod_lt _ P_pos, by omega, Nat.mod_lt _ P_pos, by go_num, by go_num, by go_num, HS⟩
        case measure => simp [intOf]; omega
      · have hp' : (n' : Int) % 2 = 0 := by omega
        have HS : Seal (c * (a' * a' % P) ^ (n' / 2) % P = pwn a n) := ⟨by rw [pow_step_even _ _ _ (by omega)]; exact hS.out⟩
        clear hp hS
        go_wp2
        go_round
        case rel => exact ⟨a' * a' % P, n' / 2, c, Nat.mod_lt _ P_pos, by omega, h3, by go_num, by go_num, rfl, HS⟩
        case measure => simp [intOf]; omega

theorem vd_pwn {x : Int} (h0 : 0 < x) (h1 : x < 2147483579) : vd x = ((pwn x.toNat 1073741789 : Int) == 1) := by
  unfold vd pwn
  rw [show decide (0 < x) = true from by simpa using h0, show decide (x < (P : Int)) = true from decide_eq_true h1, Bool.true_and, Bool.true_and,
    show (1073741789 : Nat) = Q from rfl, ← pow_eq_qpow (by decide)]
  rw [Bool.eq_iff_iff]
  simp only [beq_iff_eq]
  omega

theorem vd_low {x : Int} (h : x ≤ 0) : vd x = false := by
  unfold vd; rw [show decide (0 < x) = false from by simpa using h]; rfl
theorem vd_high {x : Int} (h : 2147483579 ≤ x) : vd x = false := by
  unfold vd; rw [show decide (x < (P : Int)) = false from decide_eq_false (Int.not_lt.2 h)]; simp

set_option maxHeartbeats 400000 in
theorem rvalid_any (x : Int) (w : World) : Calls Tryz.prog 53 #[.int .i64 x] w fun e w' => e = .returned (.bool (vd x)) ∧ w = w' := by
  by_cases h0 : 0 < x
  · by_cases h1 : x < 2147483579
    · have h0' : 1 ≤ x := h0
      obtain ⟨n, rfl⟩ := Int.eq_ofNat_of_zero_le (Int.le_of_lt h0)
      have HV := Seal.mk (vd_pwn h0 h1)
      have HC := fun w => rpower_any n 1073741789 (by omega) (by omega) w
      have HC' := Seal.mk HC
      clear h0 HC
      go_enter Tryz.func53, Tryz.ntmps53
      go_wp2_with (go_at_call 81; refine (HC'.out _).mono ?_; rintro e w' ⟨rfl, rfl⟩)
      all_goals go_ret
      all_goals exact ⟨ret_bool (by rw [HV.out]; simp [*]), rfl⟩
    · have HV := Seal.mk (vd_high (x := x) (by omega))
      go_enter Tryz.func53, Tryz.ntmps53
      go_wp2_with (fail)
      all_goals go_ret
      all_goals exact ⟨ret_bool (by rw [HV.out]), rfl⟩
  · have HV := Seal.mk (vd_low (x := x) (by omega))
    go_enter Tryz.func53, Tryz.ntmps53
    go_wp2_with (fail)
    all_goals go_ret
    all_goals exact ⟨ret_bool (by rw [HV.out]), rfl⟩
end Frk

/- The program's group.Valid computes whether a number is an element (by reciprocity). -/
namespace Frk
open Go Go.RowKit Go.Proofs
set_option maxRecDepth 100000

def par (x n : Nat) : Bool := up x n % 2 == 0

theorem par_one (n : Nat) (h : n % 2 = 1) : par 1 n = true := by unfold par; rw [up_one n h]; rfl

theorem par_half (x n : Nat) (hn : n % 2 = 1) (hx : x % 2 = 0) (hc : Nat.gcd x n = 1) (sq : Bool) :
    (sq == par x n) = ((if n % 8 = 3 ∨ n % 8 = 5 then !sq else sq) == par (x / 2) n) := by
  have h := up_half x n hn hx hc
  unfold par
  split at h <;> rename_i h8
  · rw [if_pos h8]
    cases sq <;> rw [Bool.eq_iff_iff] <;> simp <;> omega
  · rw [if_neg h8]
    cases sq <;> rw [Bool.eq_iff_iff] <;> simp <;> omega

theorem par_turn (x n : Nat) (hn : n % 2 = 1) (hx : x % 2 = 1) (hc : Nat.gcd x n = 1) (sq : Bool) :
    (sq == par x n) = ((if x % 4 = 3 ∧ n % 4 = 3 then !sq else sq) == par (n % x) x) := by
  have h := up_turn x n hn hx hc
  unfold par
  split at h <;> rename_i h8
  · rw [if_pos h8]
    cases sq <;> rw [Bool.eq_iff_iff] <;> simp <;> omega
  · rw [if_neg h8]
    cases sq <;> rw [Bool.eq_iff_iff] <;> simp <;> omega

theorem gcd_half (x n : Nat) (h : Nat.gcd x n = 1) : Nat.gcd (x / 2) n = 1 ∨ x % 2 = 1 := by
  by_cases hx : x % 2 = 1
  · exact .inr hx
  · left
    obtain ⟨y, rfl⟩ : ∃ y, x = 2 * y := ⟨x / 2, by omega⟩
    rw [show 2 * y / 2 = y from by omega]
    exact Nat.Coprime.coprime_mul_left h

theorem gcd_turn (x n : Nat) (h : Nat.gcd x n = 1) : Nat.gcd (n % x) x = 1 := by
  rw [← Nat.gcd_rec]; exact h

/-- what holds at the head of both loops -/
structure VInv (v : Bool) (x n : Nat) (sq : Bool) : Prop where
  pos : 0 < x
  odd : n % 2 = 1
  gcd : Nat.gcd x n = 1
  val : (sq == par x n) = v

theorem VInv.half {v : Bool} {x n : Nat} {sq : Bool} (h : VInv v x n sq) (hx : x % 2 = 0) : VInv v (x / 2) n (if n % 8 = 3 ∨ n % 8 = 5 then !sq else sq) :=
  ⟨by have := h.pos; omega, h.odd, (gcd_half x n h.gcd).resolve_right (by omega), by rw [← par_half x n h.odd hx h.gcd]; exact h.val⟩

theorem VInv.turn {v : Bool} {x n : Nat} {sq : Bool} (h : VInv v x n sq) (hx : x % 2 = 1) (h1 : 1 < x) : VInv v (n % x) x (if x % 4 = 3 ∧ n % 4 = 3 then !sq else sq) :=
  ⟨by
    rcases Nat.eq_zero_or_pos (n % x) with e | e
    · have := gcd_turn x n h.gcd
      rw [e, Nat.gcd_zero_left] at this
      omega
    · exact e, hx, gcd_turn x n h.gcd, by rw [← par_turn x n h.odd hx h.gcd]; exact h.val⟩

theorem VInv.one {v : Bool} {n : Nat} {sq : Bool} (h : VInv v 1 n sq) : sq = v := by
  have := h.val
  rw [par_one n h.odd] at this
  cases sq <;> simpa using this

theorem VInv.start {x : Nat} (h0 : 0 < x) (h1 : x < 2147483579) : VInv (vd x) x 2147483579 true := by
  refine ⟨h0, rfl, prime_P.gcd (not_dvd_of_lt h0 h1), ?_⟩
  rw [Bool.eq_iff_iff, vd_iff, vd_iff_up h0 h1]
  unfold par
  simp
  rfl

def VRel (v : Bool) (K : Nat) (a b c : Value) : Prop := ∃ (x n : Nat) (sq : Bool), x < K ∧ n ≤ K ∧ a = .int .i64 x ∧ b = .int .i64 n ∧ c = .bool sq ∧ Seal (VInv v x n sq)
def VRin (v : Bool) (n x : Nat) (a c : Value) : Prop := ∃ (x' : Nat) (sq' : Bool), x' ≤ x ∧ a = .int .i64 x' ∧ c = .bool sq' ∧ Seal (VInv v x' n sq')

theorem meas_half (x : Nat) (h : 0 < x) : (intOf (.int .i64 ((x : Int) / 2))).toNat < (intOf (.int .i64 (x : Int))).toNat := by
  simp only [intOf]; omega

set_option maxHeartbeats 1000000 in
theorem valid_any (x : Int) (w : World) : Calls Tryz.prog 46 #[.int .i64 x] w fun e w' => e = .returned (.bool (vd x)) ∧ w = w' := by
  by_cases h0 : 0 < x
  · by_cases h1 : x < 2147483579
    · have HI := Seal.mk (fun (y : Nat) (e : x = y) => VInv.start (x := y) (by omega) (by omega))
      have HX := Seal.mk (And.intro h0 h1)
      have h0' : ¬ x < 1 := by omega
      have h1' : ¬ 2147483579 ≤ x := by omega
      have HV : Seal (∀ y : Nat, x = y → vd x = vd (y : Int)) := ⟨fun y e => by rw [e]⟩
      clear h0 h1
      generalize vd x = v at HV ⊢
      go_enter Tryz.func46, Tryz.ntmps46
      go_wp2
      go_step3
      go_wp2
      go_step3
      go_wp2
      obtain ⟨y, rfl⟩ := Int.eq_ofNat_of_zero_le (Int.le_of_lt HX.out.1)
      have HJ := HI.out y rfl
      rw [← HV.out y rfl] at HJ
      obtain ⟨K, hK⟩ : ∃ K : Nat, K = 2147483579 := ⟨_, rfl⟩
      have hKi : (2147483579 : Int) = (K : Int) := by omega
      have hy : y < K := by have := HX.out.2; omega
      rw [← hK] at HJ
      have HJ := Seal.mk HJ
      have hKS := Seal.mk hK
      rw [hKi]
      clear h1' HI HV hK hKi HX
      go_loop [0, 3, 4] (fun a b c => VRel v K a b c) (fun a _ _ => (intOf a).toNat)
      case atStart => exact ⟨y, K, true, hy, Nat.le_refl _, rfl, rfl, rfl, HJ⟩
      case round =>
        obtain ⟨x, n, sq, hx, hn, rfl, rfl, rfl, HX⟩ := hrel
        have hB := Seal.mk (And.intro hx hn)
        have hKi : (K : Int) = 2147483579 := by have := hKS.out; omega
        clear hx hn hy HJ h0'
        by_cases h1 : 1 < x
        · have hx1 : (1 : Int) < (x : Int) := by omega
          have HT := Seal.mk h1
          clear h1
          have HG : ∃ wo : World, wo = w := ⟨_, rfl⟩
          go_wp2
          go_loop [0, 4] (fun a c => VRin v n x a c) (fun a _ => (intOf a).toNat)
          case atStart => exact ⟨x, sq, Nat.le_refl _, rfl, rfl, HX⟩
          case round =>
            obtain ⟨x', sq', hx', rfl, rfl, HX'⟩ := hrel
            have hC := Seal.mk hx'
            have hwr : wrap64 ((x' : Int) / 2) = (x' : Int) / 2 := IntWalk.wrap64_in _ (by have := hB.out; omega)
            clear hx' HG
            by_cases h2 : x' % 2 = 0
            · have h2' : (x' : Int) % 2 = 0 := by omega
              have HH := Seal.mk (HX'.out.half h2)
              have hpos := HX'.out.pos
              have hlt : x' / 2 < x' := by omega
              have HL := Seal.mk (show x' / 2 ≤ x from by have := hC.out; omega)
              have hn0 := Seal.mk (show (n % 8 = 3) = ((n : Int) % 8 = 3) ∧ (n % 8 = 5) = ((n : Int) % 8 = 5) from by constructor <;> rw [eq_iff_iff] <;> omega)
              clear h2 hC HX'
              by_cases h3 : n % 8 = 3
              · have h3' : (n : Int) % 8 = 3 := by omega
                rw [if_pos (.inl h3)] at HH
                clear h3
                go_wp2
                go_round
                case rel => exact ⟨x' / 2, !sq', HL.out, by go_num, by simp, HH⟩
                case measure => rw [hwr]; exact meas_half _ hpos
              · by_cases h5 : n % 8 = 5
                · have h5' : (n : Int) % 8 = 5 := by omega
                  rw [if_pos (.inr h5)] at HH
                  have h3' : ((n : Int) % 8 == 3) = false := by simp; omega
                  clear h3 h5
                  go_wp2
                  go_round
                  case rel => exact ⟨x' / 2, !sq', HL.out, by go_num, by simp, HH⟩
                  case measure => rw [hwr]; exact meas_half _ hpos
                · have h5' : ((n : Int) % 8 == 5) = false := by simp; omega
                  rw [if_neg (by rintro (h | h); exact h3 h; exact h5 h)] at HH
                  have h3' : ((n : Int) % 8 == 3) = false := by simp; omega
                  clear h3 h5
                  go_wp2
                  go_round
                  case rel => exact ⟨x' / 2, sq', HL.out, by go_num, rfl, HH⟩
                  case measure => rw [hwr]; exact meas_half _ hpos
            · have h2' : ¬ (x' : Int) % 2 = 0 := by omega
              by_cases h4 : x' = 1
              · subst h4
                have HE := Seal.mk HX'.out.one
                clear h2 hC HX'
                rw [show ((1 : Nat) : Int) = 1 from rfl]
                go_wp2
                go_ret
                exact ⟨ret_bool HE.out, rfl⟩
              · have h4' : ¬ (x' : Int) = 1 := by omega
                have hgt : 1 < x' := by have := HX'.out.pos; omega
                have HH := Seal.mk (HX'.out.turn (by omega) hgt)
                have HL := Seal.mk (show n % x' < K ∧ x' ≤ K ∧ n % x' < x from by have := Nat.mod_lt n (show 0 < x' from by omega); have := hC.out; have := hB.out; omega)
                have hx0 : ¬ (x' : Int) = 0 := by omega
                clear h2 h4 hgt HX' hC
                by_cases h5 : x' % 4 = 3 ∧ n % 4 = 3
                · have h5' : (x' : Int) % 4 = 3 := by omega
                  have h6' : (n : Int) % 4 = 3 := by omega
                  rw [if_pos h5] at HH
                  clear h5
                  go_wp2
                  go_round
                  case rel => exact ⟨_, _, _, ⟨n % x', x', !sq', HL.out.1, HL.out.2.1, rfl, rfl, rfl, HH⟩, by simp, rfl, rfl⟩
                  case measure => have := HL.out.2.2; rw [show (n : Int) % (x' : Int) = ((n % x' : Nat) : Int) from by simp]; simp only [intOf]; omega
                · rw [if_neg h5] at HH
                  by_cases h6 : x' % 4 = 3
                  · have h5' : (x' : Int) % 4 = 3 := by omega
                    have h6' : ¬ (n : Int) % 4 = 3 := by omega
                    clear h5 h6
                    go_wp2
                    go_round
                    case rel => exact ⟨_, _, _, ⟨n % x', x', sq', HL.out.1, HL.out.2.1, rfl, rfl, rfl, HH⟩, by simp, rfl, rfl⟩
                    case measure => have := HL.out.2.2; rw [show (n : Int) % (x' : Int) = ((n % x' : Nat) : Int) from by simp]; simp only [intOf]; omega
                  · have h5' : ¬ (x' : Int) % 4 = 3 := by omega
                    clear h5 h6
                    go_wp2
                    go_round
                    case rel => exact ⟨_, _, _, ⟨n % x', x', sq', HL.out.1, HL.out.2.1, rfl, rfl, rfl, HH⟩, by simp, rfl, rfl⟩
                    case measure => have := HL.out.2.2; rw [show (n : Int) % (x' : Int) = ((n % x' : Nat) : Int) from by simp]; simp only [intOf]; omega
        · have hx1 : ¬ (1 : Int) < (x : Int) := by omega
          have HE : Seal (sq = v) := ⟨by
            have e : x = 1 := by have := HX.out.pos; omega
            have := HX.out; rw [e] at this; exact this.one⟩
          clear h1
          go_wp2
          go_ret
          exact ⟨ret_bool HE.out, rfl⟩
    · have HV := Seal.mk (vd_high (x := x) (by omega))
      have h0' : ¬ x < 1 := by omega
      have h1' : 2147483579 ≤ x := by omega
      clear h0 h1
      go_enter Tryz.func46, Tryz.ntmps46
      go_wp2
      go_step3
      go_wp2
      try rw [Exit.noGoto_ret]
      go_ret
      exact ⟨ret_bool (by rw [HV.out]), rfl⟩
  · have HV := Seal.mk (vd_low (x := x) (by omega))
    have h0' : x < 1 := by omega
    clear h0
    go_enter Tryz.func46, Tryz.ntmps46
    go_wp2
    go_step3
    go_wp2
    try rw [Exit.noGoto_ret]
    go_ret
    exact ⟨ret_bool (by rw [HV.out]), rfl⟩
end Frk

