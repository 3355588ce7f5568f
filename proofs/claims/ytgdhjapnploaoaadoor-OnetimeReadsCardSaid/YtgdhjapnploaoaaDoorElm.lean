/- Elements and numbers: group.Element, group.Number and the reference's. -/
import Derived.Test.YtgdhjapnploaoaaDoorRpw
namespace Frk
open Go Go.RowKit Go.Proofs
set_option maxRecDepth 100000

/-- the element of a number -/
def elB (n : Int) : Int := if vd n = true then n else 2147483579 - n
def numOk (n : Int) : Bool := decide (1 ≤ n) && decide (n ≤ 1073741789)

theorem valid_at1 (x : Int) (r : Bool) (w : World) (hr : vd x = r) : Calls Tryd.prog 37 #[.int .i64 x] w fun e w' => e = .returned (.bool r) ∧ w = w' := by
  rw [← hr]; exact valid_any x w

theorem element_no (n : Int) (w : World) (h : n < 1 ∨ 1073741789 < n) : Calls Tryd.prog 42 #[.int .i64 n] w fun e w' => e = .returned (.tuple #[.int .i64 0, .int .i64 1]) ∧ w = w' := by
  rcases h with h | h
  · go_enter Tryd.func42, Tryd.ntmps42
    go_wp2
    go_ret2
    exact ⟨rfl, rfl⟩
  · have h' : ¬ n < 1 := by omega
    go_enter Tryd.func42, Tryd.ntmps42
    go_wp2
    go_ret2
    exact ⟨rfl, rfl⟩

theorem element_yes (n p : Int) (w : World) (h1 : 1 ≤ n) (h2 : n ≤ 1073741789) (hp : Seal (elB n = p)) : Calls Tryd.prog 42 #[.int .i64 n] w fun e w' => e = .returned (.tuple #[.int .i64 p, .int .i64 0]) ∧ w = w' := by
  have hp' := hp.out
  unfold elB at hp'
  have n1 : ¬ n < 1 := by omega
  have n2 : ¬ 1073741789 < n := by omega
  cases hv : vd n with
  | true =>
    rw [if_pos hv] at hp'
    have HV := Seal.mk hv
    subst hp'
    clear hv hp
    go_enter Tryd.func42, Tryd.ntmps42
    go_wp2_with fail
    refine (valid_at1 n true _ HV.out).mono ?_
    rintro e w' ⟨rfl, rfl⟩
    go_wp2
    go_ret2
    exact ⟨rfl, rfl⟩
  | false =>
    rw [if_neg (by rw [hv]; decide)] at hp'
    have HV := Seal.mk hv
    subst hp'
    clear hv hp
    go_enter Tryd.func42, Tryd.ntmps42
    go_wp2_with fail
    refine (valid_at1 n false _ HV.out).mono ?_
    rintro e w' ⟨rfl, rfl⟩
    go_wp2
    go_ret2
    exact ⟨rfl, rfl⟩
theorem relement_no (n : Int) (w : World) (h : n < 1 ∨ 1073741789 < n) : Calls Tryd.prog 72 #[.int .i64 n] w fun e w' => e = .returned (.tuple #[.int .i64 0, .int .i64 1]) ∧ w = w' := by
  rcases h with h | h
  · go_enter Tryd.func72, Tryd.ntmps72
    go_wp2
    go_ret2
    exact ⟨rfl, rfl⟩
  · have h' : ¬ n < 1 := by omega
    go_enter Tryd.func72, Tryd.ntmps72
    go_wp2
    go_ret2
    exact ⟨rfl, rfl⟩

theorem relement_yes (n p : Int) (w : World) (h1 : 1 ≤ n) (h2 : n ≤ 1073741789) (hp : Seal (elB n = p)) : Calls Tryd.prog 72 #[.int .i64 n] w fun e w' => e = .returned (.tuple #[.int .i64 p, .int .i64 0]) ∧ w = w' := by
  have hp' := hp.out
  unfold elB at hp'
  have n1 : ¬ n < 1 := by omega
  have n2 : ¬ 1073741789 < n := by omega
  cases hv : vd n with
  | true =>
    rw [if_pos hv] at hp'
    have HV := Seal.mk hv
    subst hp'
    clear hv hp
    go_enter Tryd.func72, Tryd.ntmps72
    go_wp2_with fail
    refine (rvalid_at n true _ HV.out).mono ?_
    rintro e w' ⟨rfl, rfl⟩
    go_wp2
    go_ret2
    exact ⟨rfl, rfl⟩
  | false =>
    rw [if_neg (by rw [hv]; decide)] at hp'
    have HV := Seal.mk hv
    subst hp'
    clear hv hp
    go_enter Tryd.func72, Tryd.ntmps72
    go_wp2_with fail
    refine (rvalid_at n false _ HV.out).mono ?_
    rintro e w' ⟨rfl, rfl⟩
    go_wp2
    go_ret2
    exact ⟨rfl, rfl⟩

/-- the number of an element -/
def nmB (x : Int) : Int := if x ≤ 1073741789 then x else 2147483579 - x

end Frk
