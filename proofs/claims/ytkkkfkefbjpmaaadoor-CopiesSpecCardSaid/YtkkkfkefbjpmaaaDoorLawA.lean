/- Laws of signatures: plain. -/
import Derived.Test.YtkkkfkefbjpmaaaDoorSan
namespace Frk
open Go Go.RowKit Go.Proofs
set_option maxRecDepth 100000

theorem ghash_bd (t b : Bytes) : ghash t b < 1073741789 := ghash_lt t b
theorem sgE_lt (x : Int) (b : Bytes) : sgE x b < 1073741789 := ghash_lt _ _
theorem sgS_rng (x : Int) (b : Bytes) : 0 ≤ sgS x b ∧ sgS x b < 1073741789 := by
  unfold sgS
  exact ⟨Int.emod_nonneg _ (by decide), Int.emod_lt_of_pos _ (by decide)⟩

/-- the point of what is signed is the point of its beginning -/
theorem point_right (x : Int) (b : Bytes) : sgPoint (pw 4 x) (sgE x b) (sgS x b) = pw 4 (sgK x b) := by
  unfold sgPoint mp
  rw [Int.toNat_natCast, pw_pw vd4, ← pw_add vd4]
  apply pw_congr
  unfold sgS
  rw [show (1073741789 : Int) = (Q : Int) from rfl]
  have h1 : ((sgK x b : Int) + (sgE x b : Int) * x % (Q : Int)) % (Q : Int) = ((sgK x b : Int) + (sgE x b : Int) * x) % (Q : Int) := by
    rw [Int.add_emod, Int.emod_emod_of_dvd _ (Int.dvd_refl _), ← Int.add_emod]
  rw [Int.add_emod, Int.emod_emod_of_dvd _ (Int.dvd_refl _), h1, ← Int.add_emod]
  congr 1
  rw [Int.mul_neg, Int.mul_comm x]
  omega

/-- what is signed is right -/
theorem sign_right (x : Int) (b : Bytes) : vrB (pw 4 x : Nat) b (sgE x b : Nat) (sgS x b) = true := by
  have h1 := sgS_rng x b
  have h2 := sgE_lt x b
  unfold vrB
  rw [(inQ_iff _).2 ⟨by omega, by omega⟩, (inQ_iff _).2 h1, show vd ((pw 4 x : Nat) : Int) = true from vd_pw (a := 4) (by decide +kernel) x, point_right]
  simp [sgE]
end Frk
