/- Parts of the proof, joined. -/
import Derived.Test.YtemoomfnmiodeaaGreatDoorVsgGen
import Derived.Lib.SlBytesConst
import Derived.Test.YtemoomfnmiodeaaGreatDoorVsgGpr
import Derived.Test.YtemoomfnmiodeaaGreatDoorVsgKit
import Derived.Test.YtemoomfnmiodeaaGreatDoorProg
import Derived.BigQuiet
import Derived.Lib.Hide
/- The examples of signatures, reckoned. -/
namespace Frk
open Go Go.RowKit Go.Proofs
set_option maxRecDepth 100000

def tLetter : Bytes := [108, 101, 116, 116, 101, 114]
end Frk

/- The reference's Mod, Times, Power and Quotient. -/
namespace Frk
open Go Go.RowKit Go.Proofs
set_option maxRecDepth 100000

theorem tmod_neg_lq (n : Int) (h : n.tmod 1073741789 < 0) : n.tmod 1073741789 + 1073741789 = ((lq n : Nat) : Int) := by
  rw [lq_cast]
  have h2 : -1073741789 < n.tmod 1073741789 := Int.lt_tmod_of_pos n (by decide)
  have h3 : (n.tmod 1073741789 + 1073741789) % 1073741789 = n % 1073741789 := by rw [Int.add_emod_right, Int.tmod_def, Int.sub_mul_emod_self_left]
  show _ = n % 1073741789
  rw [← h3, Int.emod_eq_of_lt (by omega) (by omega)]

theorem tmod_pos_lq (n : Int) (h : 0 ≤ n.tmod 1073741789) : n.tmod 1073741789 = ((lq n : Nat) : Int) := by
  rw [lq_cast]
  have h2 : n.tmod 1073741789 < 1073741789 := Int.tmod_lt_of_pos n (by decide)
  have h3 : n.tmod 1073741789 % 1073741789 = n % 1073741789 := by rw [Int.tmod_def, Int.sub_mul_emod_self_left]
  show _ = n % 1073741789
  rw [← h3, Int.emod_eq_of_lt (by omega) (by omega)]

def pwqn (a n : Nat) : Nat := a ^ n % Q

/-- Q less 2 -/
def eQ : Nat := 1073741787
attribute [irreducible] eQ

/-- the quotient modulo Q -/
def quo (a b : Int) : Nat := lq a * pwqn (lq b) eQ % 1073741789
end Frk

/- The reference's Pow and Mul. -/
namespace Frk
open Go Go.RowKit Go.Proofs
set_option maxRecDepth 100000

theorem rexponent_any (n : Int) (w : World) : Calls Tryz.prog 102 #[.int .i64 n] w fun e w' => e = .returned (.int .i64 (lq n)) ∧ w = w' := by
  by_cases h : 0 ≤ n
  · have HL : Seal (n % 1073741789 = ((lq n : Nat) : Int)) := ⟨by rw [lq_cast]; rfl⟩
    have h3 : 0 ≤ n % 1073741789 := Int.emod_nonneg _ (by decide)
    go_enter Tryz.func102, Tryz.ntmps102
    go_wp2
    go_ret
    exact ⟨ret_i64 (by rw [← HL.out]), rfl⟩
  · have hb1 : -1073741789 < n.tmod 1073741789 := Int.lt_tmod_of_pos n (by decide)
    have hb2 : n.tmod 1073741789 < 1073741789 := Int.tmod_lt_of_pos n (by decide)
    by_cases h2 : n.tmod 1073741789 < 0
    · have HL := Seal.mk (tmod_neg_lq n h2)
      go_enter Tryz.func102, Tryz.ntmps102
      go_wp2
      go_ret
      exact ⟨ret_i64 (by rw [← HL.out]), rfl⟩
    · have HL := Seal.mk (tmod_pos_lq n (by omega))
      have h2' : 0 ≤ n.tmod 1073741789 := by omega
      go_enter Tryz.func102, Tryz.ntmps102
      go_wp2
      go_ret
      exact ⟨ret_i64 (by rw [← HL.out]), rfl⟩

theorem rpow_yes (a n p : Int) (w : World) (h : vd a = true) (hp : Seal (((pw a.toNat n : Nat) : Int) = p)) :
    Calls Tryz.prog 84 #[.int .i64 a, .int .i64 n] w fun e w' => e = .returned (.tuple #[.int .i64 p, .int .i64 0]) ∧ w = w' := by
  have hr := vd_range h
  obtain ⟨h0, h1⟩ := hr
  obtain ⟨k, rfl⟩ := Int.eq_ofNat_of_zero_le (Int.le_of_lt h0)
  have HV := Seal.mk h
  have HP : Seal (((pwn k (lq n) : Nat) : Int) = p) := hp
  have hl := lq_lt n
  have HC : Seal (∀ w, Calls Tryz.prog 100 #[.int .i64 k, .int .i64 (lq n)] w fun e w' => e = .returned (.int .i64 p) ∧ w = w') := ⟨by
    intro w; rw [← HP.out]; exact rpower_any k (lq n) (by omega) (by unfold Q at hl; omega) w⟩
  clear hp h hl
  go_enter Tryz.func84, Tryz.ntmps84
  go_wp2_with fail
  refine (rvalid_any _ _).mono ?_
  rintro e w' ⟨rfl, rfl⟩
  rw [HV.out]
  go_wp2_with fail
  refine (rexponent_any _ _).mono ?_
  rintro e w' ⟨rfl, rfl⟩
  go_wp2_with fail
  refine (HC.out _).mono ?_
  rintro e w' ⟨rfl, rfl⟩
  go_wp2_with fail
  go_ret2
  exact ⟨rfl, rfl⟩

theorem rmul_yes (a b p : Int) (w : World) (ha : vd a = true) (hb : vd b = true) (hp : Seal (((mp a.toNat b.toNat : Nat) : Int) = p)) :
    Calls Tryz.prog 62 #[.int .i64 a, .int .i64 b] w fun e w' => e = .returned (.tuple #[.int .i64 p, .int .i64 0]) ∧ w = w' := by
  have hra := vd_range ha
  obtain ⟨a0, a1⟩ := hra
  have hrb := vd_range hb
  obtain ⟨b0, b1⟩ := hrb
  obtain ⟨k, rfl⟩ := Int.eq_ofNat_of_zero_le (Int.le_of_lt a0)
  obtain ⟨j, rfl⟩ := Int.eq_ofNat_of_zero_le (Int.le_of_lt b0)
  have HV := Seal.mk ha
  have HV2 := Seal.mk hb
  have hm : 0 ≤ (k : Int) * (j : Int) ∧ (k : Int) * (j : Int) ≤ 4611685966887780484 := mul_bd (c := k) (a := j) (by omega) (by omega)
  obtain ⟨m0, m1⟩ := hm
  have HP : Seal (((k : Int) * (j : Int)) % 2147483579 = p) := ⟨by rw [← hp.out]; simp [mp, P]⟩
  clear ha hb hp
  go_enter Tryz.func62, Tryz.ntmps62
  go_wp2_with fail
  refine (rvalid_any _ _).mono ?_
  rintro e w' ⟨rfl, rfl⟩
  rw [HV.out]
  go_wp2_with fail
  refine (rvalid_any _ _).mono ?_
  rintro e w' ⟨rfl, rfl⟩
  rw [HV2.out]
  go_wp2_with fail
  go_ret2
  exact ⟨by rw [HP.out]; rfl, rfl⟩

theorem rvalid_at (x : Int) (r : Bool) (w : World) (hr : vd x = r) : Calls Tryz.prog 82 #[.int .i64 x] w fun e w' => e = .returned (.bool r) ∧ w = w' := by
  rw [← hr]; exact rvalid_any x w
end Frk

/- Elements and numbers: group.Element, group.Number and the reference's. -/
namespace Frk
open Go Go.RowKit Go.Proofs
set_option maxRecDepth 100000

/-- the element of a number -/
def elB (n : Int) : Int := if vd n = true then n else 2147483579 - n
def numOk (n : Int) : Bool := decide (1 ≤ n) && decide (n ≤ 1073741789)

theorem valid_at1 (x : Int) (r : Bool) (w : World) (hr : vd x = r) : Calls Tryz.prog 63 #[.int .i64 x] w fun e w' => e = .returned (.bool r) ∧ w = w' := by
  rw [← hr]; exact valid_any x w

theorem element_no (n : Int) (w : World) (h : n < 1 ∨ 1073741789 < n) : Calls Tryz.prog 45 #[.int .i64 n] w fun e w' => e = .returned (.tuple #[.int .i64 0, .int .i64 1]) ∧ w = w' := by
  rcases h with h | h
  · go_enter Tryz.func45, Tryz.ntmps45
    go_wp2
    go_ret2
    exact ⟨rfl, rfl⟩
  · have h' : ¬ n < 1 := by omega
    go_enter Tryz.func45, Tryz.ntmps45
    go_wp2
    go_ret2
    exact ⟨rfl, rfl⟩

theorem element_yes (n p : Int) (w : World) (h1 : 1 ≤ n) (h2 : n ≤ 1073741789) (hp : Seal (elB n = p)) : Calls Tryz.prog 45 #[.int .i64 n] w fun e w' => e = .returned (.tuple #[.int .i64 p, .int .i64 0]) ∧ w = w' := by
  have hp' := hp.out
  unfold elB at hp'
  have n1 : ¬ n < 1 := by omega
  have n2 : ¬ 1073741789 < n := by omega
  cases hv : vd n with
  | true =>
    rw [if_pos hv] at hp'
    have HV := Seal.mk hv
    subst hp'
    clear hv hp
    go_enter Tryz.func45, Tryz.ntmps45
    go_wp2_with fail
    refine (valid_at1 n true _ HV.out).mono ?_
    rintro e w' ⟨rfl, rfl⟩
    go_wp2
    go_ret2
    exact ⟨rfl, rfl⟩
  | false =>
    rw [if_neg (by rw [hv]; decide)] at hp'
    have HV := Seal.mk hv
    subst hp'
    clear hv hp
    go_enter Tryz.func45, Tryz.ntmps45
    go_wp2_with fail
    refine (valid_at1 n false _ HV.out).mono ?_
    rintro e w' ⟨rfl, rfl⟩
    go_wp2
    go_ret2
    exact ⟨rfl, rfl⟩
theorem relement_no (n : Int) (w : World) (h : n < 1 ∨ 1073741789 < n) : Calls Tryz.prog 60 #[.int .i64 n] w fun e w' => e = .returned (.tuple #[.int .i64 0, .int .i64 1]) ∧ w = w' := by
  rcases h with h | h
  · go_enter Tryz.func60, Tryz.ntmps60
    go_wp2
    go_ret2
    exact ⟨rfl, rfl⟩
  · have h' : ¬ n < 1 := by omega
    go_enter Tryz.func60, Tryz.ntmps60
    go_wp2
    go_ret2
    exact ⟨rfl, rfl⟩

theorem relement_yes (n p : Int) (w : World) (h1 : 1 ≤ n) (h2 : n ≤ 1073741789) (hp : Seal (elB n = p)) : Calls Tryz.prog 60 #[.int .i64 n] w fun e w' => e = .returned (.tuple #[.int .i64 p, .int .i64 0]) ∧ w = w' := by
  have hp' := hp.out
  unfold elB at hp'
  have n1 : ¬ n < 1 := by omega
  have n2 : ¬ 1073741789 < n := by omega
  cases hv : vd n with
  | true =>
    rw [if_pos hv] at hp'
    have HV := Seal.mk hv
    subst hp'
    clear hv hp
    go_enter Tryz.func60, Tryz.ntmps60
    go_wp2_with fail
    refine (rvalid_at n true _ HV.out).mono ?_
    rintro e w' ⟨rfl, rfl⟩
    go_wp2
    go_ret2
    exact ⟨rfl, rfl⟩
  | false =>
    rw [if_neg (by rw [hv]; decide)] at hp'
    have HV := Seal.mk hv
    subst hp'
    clear hv hp
    go_enter Tryz.func60, Tryz.ntmps60
    go_wp2_with fail
    refine (rvalid_at n false _ HV.out).mono ?_
    rintro e w' ⟨rfl, rfl⟩
    go_wp2
    go_ret2
    exact ⟨rfl, rfl⟩

/-- the number of an element -/
def nmB (x : Int) : Int := if x ≤ 1073741789 then x else 2147483579 - x

end Frk

