/- The reference's Pow and Mul. -/
import Derived.Test.YtkkkfkefbjpmaaaDoorLsm
import Derived.Test.YtkkkfkefbjpmaaaDoorRqm
namespace Frk
open Go Go.RowKit Go.Proofs
set_option maxRecDepth 100000

theorem rexponent_any (n : Int) (w : World) : Calls Tryd.prog 95 #[.int .i64 n] w fun e w' => e = .returned (.int .i64 (lq n)) ∧ w = w' := by
  by_cases h : 0 ≤ n
  · have HL : Seal (n % 1073741789 = ((lq n : Nat) : Int)) := ⟨by rw [lq_cast]; rfl⟩
    have h3 : 0 ≤ n % 1073741789 := Int.emod_nonneg _ (by decide)
    go_enter Tryd.func95, Tryd.ntmps95
    go_wp2
    go_ret
    exact ⟨ret_i64 (by rw [← HL.out]), rfl⟩
  · have hb1 : -1073741789 < n.tmod 1073741789 := Int.lt_tmod_of_pos n (by decide)
    have hb2 : n.tmod 1073741789 < 1073741789 := Int.tmod_lt_of_pos n (by decide)
    by_cases h2 : n.tmod 1073741789 < 0
    · have HL := Seal.mk (tmod_neg_lq n h2)
      go_enter Tryd.func95, Tryd.ntmps95
      go_wp2
      go_ret
      exact ⟨ret_i64 (by rw [← HL.out]), rfl⟩
    · have HL := Seal.mk (tmod_pos_lq n (by omega))
      have h2' : 0 ≤ n.tmod 1073741789 := by omega
      go_enter Tryd.func95, Tryd.ntmps95
      go_wp2
      go_ret
      exact ⟨ret_i64 (by rw [← HL.out]), rfl⟩

theorem rpow_yes (a n p : Int) (w : World) (h : vd a = true) (hp : Seal (((pw a.toNat n : Nat) : Int) = p)) :
    Calls Tryd.prog 59 #[.int .i64 a, .int .i64 n] w fun e w' => e = .returned (.tuple #[.int .i64 p, .int .i64 0]) ∧ w = w' := by
  have hr := vd_range h
  obtain ⟨h0, h1⟩ := hr
  obtain ⟨k, rfl⟩ := Int.eq_ofNat_of_zero_le (Int.le_of_lt h0)
  have HV := Seal.mk h
  have HP : Seal (((pwn k (lq n) : Nat) : Int) = p) := hp
  have hl := lq_lt n
  have HC : Seal (∀ w, Calls Tryd.prog 94 #[.int .i64 k, .int .i64 (lq n)] w fun e w' => e = .returned (.int .i64 p) ∧ w = w') := ⟨by
    intro w; rw [← HP.out]; exact rpower_any k (lq n) (by omega) (by unfold Q at hl; omega) w⟩
  clear hp h hl
  go_enter Tryd.func59, Tryd.ntmps59
  go_wp2_with fail
  refine (rvalid_any _ _).mono ?_
  rintro e w' ⟨rfl, rfl⟩
  rw [HV.out]
  go_wp2_with fail
  refine (rexponent_any _ _).mono ?_
  rintro e w' ⟨rfl, rfl⟩
  go_wp2_with fail
  refine (HC.out _).mono ?_
  rintro e w' ⟨rfl, rfl⟩
  go_wp2_with fail
  go_ret2
  exact ⟨rfl, rfl⟩

theorem rmul_yes (a b p : Int) (w : World) (ha : vd a = true) (hb : vd b = true) (hp : Seal (((mp a.toNat b.toNat : Nat) : Int) = p)) :
    Calls Tryd.prog 60 #[.int .i64 a, .int .i64 b] w fun e w' => e = .returned (.tuple #[.int .i64 p, .int .i64 0]) ∧ w = w' := by
  have hra := vd_range ha
  obtain ⟨a0, a1⟩ := hra
  have hrb := vd_range hb
  obtain ⟨b0, b1⟩ := hrb
  obtain ⟨k, rfl⟩ := Int.eq_ofNat_of_zero_le (Int.le_of_lt a0)
  obtain ⟨j, rfl⟩ := Int.eq_ofNat_of_zero_le (Int.le_of_lt b0)
  have HV := Seal.mk ha
  have HV2 := Seal.mk hb
  have hm : 0 ≤ (k : Int) * (j : Int) ∧ (k : Int) * (j : Int) ≤ 4611685966887780484 := mul_bd (c := k) (a := j) (by omega) (by omega)
  obtain ⟨m0, m1⟩ := hm
  have HP : Seal (((k : Int) * (j : Int)) % 2147483579 = p) := ⟨by rw [← hp.out]; simp [mp, P]⟩
  clear ha hb hp
  go_enter Tryd.func60, Tryd.ntmps60
  go_wp2_with fail
  refine (rvalid_any _ _).mono ?_
  rintro e w' ⟨rfl, rfl⟩
  rw [HV.out]
  go_wp2_with fail
  refine (rvalid_any _ _).mono ?_
  rintro e w' ⟨rfl, rfl⟩
  rw [HV2.out]
  go_wp2_with fail
  go_ret2
  exact ⟨by rw [HP.out]; rfl, rfl⟩

theorem rvalid_at (x : Int) (r : Bool) (w : World) (hr : vd x = r) : Calls Tryd.prog 86 #[.int .i64 x] w fun e w' => e = .returned (.bool r) ∧ w = w' := by
  rw [← hr]; exact rvalid_any x w
end Frk
