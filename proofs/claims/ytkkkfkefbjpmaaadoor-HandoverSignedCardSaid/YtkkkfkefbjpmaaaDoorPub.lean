/- elgamal's Public. -/
import Derived.Test.YtkkkfkefbjpmaaaDoorGen
import Derived.Test.YtkkkfkefbjpmaaaDoorPow
namespace Frk
open Go Go.RowKit Go.Proofs
set_option maxRecDepth 100000

def secB (n : Int) : Bool := decide (0 < n) && decide (n < 1073741789)

theorem esecret_any (n : Int) (t : Bool) (w : World) (ht : secB n = t) : Calls Tryd.prog 57 #[.int .i64 n] w fun e w' => e = .returned (.bool t) ∧ w = w' := by
  unfold secB at ht
  have HT := Seal.mk ht
  clear ht
  by_cases h0 : 1 ≤ n
  · by_cases h1 : n < 1073741789
    · have HF : Seal (t = true) := ⟨by rw [← HT.out, decide_eq_true (show 0 < n by omega), decide_eq_true h1]; rfl⟩
      go_enter Tryd.func57, Tryd.ntmps57
      go_wp2
      go_ret
      exact ⟨ret_bool HF.out.symm, rfl⟩
    · have HF : Seal (t = false) := ⟨by rw [← HT.out, decide_eq_false h1]; simp⟩
      go_enter Tryd.func57, Tryd.ntmps57
      go_wp2
      go_ret
      exact ⟨ret_bool HF.out.symm, rfl⟩
  · have HF : Seal (t = false) := ⟨by rw [← HT.out, decide_eq_false (show ¬ 0 < n by omega)]; simp⟩
    go_enter Tryd.func57, Tryd.ntmps57
    go_wp2
    go_ret
    exact ⟨ret_bool HF.out.symm, rfl⟩

/-- what Public returns (and blind's Begin) -/
def pubF (n : Int) : Int × Int := if secB n = true then (((pw 4 n : Nat) : Int), 0) else (0, 110)

theorem public_at (n d e0 : Int) (w : World) (h : Seal (pubF n = (d, e0))) (h1 : -9223372036854775808 ≤ n) (h2 : n ≤ 9223372036854775807) : Calls Tryd.prog 23 #[.int .i64 n] w fun e w' => e = .returned (.tuple #[.int .i64 d, .int .i64 e0]) ∧ Below w.heap.size w w' := by
  have h' := h.out
  unfold pubF at h'
  cases hs : secB n with
  | false =>
    rw [hs, if_neg (by decide)] at h'
    obtain ⟨rfl, rfl⟩ := Prod.mk.inj h'
    have HS := Seal.mk hs
    clear h h' hs h1 h2
    go_enter Tryd.func23, Tryd.ntmps23
    go_wp2_with (go_at_call 57; refine (esecret_any _ _ _ HS.out).mono ?_; rintro e w' ⟨rfl, rfl⟩)
    go_ret2
    exact ⟨rfl, Below.refl _ _⟩
  | true =>
    rw [hs, if_pos rfl] at h'
    obtain ⟨rfl, rfl⟩ := Prod.mk.inj h'
    have HS := Seal.mk hs
    have HP : Seal _ := ⟨pow_yes 4 n w (by decide +kernel) h1 h2⟩
    clear h h' hs h1 h2
    go_enter Tryd.func23, Tryd.ntmps23
    go_wp2_with (first | (go_at_call 57; refine (esecret_any _ _ _ HS.out).mono ?_; rintro e w' ⟨rfl, rfl⟩) | (go_at_call 58; refine HP.out.mono ?_; rintro e w' ⟨rfl, hb⟩))
    go_ret2
    exact ⟨rfl, hb⟩

end Frk
