/- The examples of signatures, reckoned. -/
import Derived.Test.YtkkkfkefbjpmaaaDoorEnv
import Derived.Lib.SlBytesConst
namespace Frk
open Go Go.RowKit Go.Proofs
set_option maxRecDepth 100000

def tLetter : Bytes := [108, 101, 116, 116, 101, 114]
theorem ex1 : sgE 5 tLetter = 964071050 := by rw [sgE_q]; decide +kernel
theorem ex2 : sgS 5 tLetter = 759496991 := by rw [sgS_q]; decide +kernel
theorem ex3 : sgE 1073741788 [] = 238075162 := by rw [sgE_q]; decide +kernel
theorem ex4 : sgS 1073741788 [] = 124230148 := by rw [sgS_q]; decide +kernel
theorem ex5 : vrB 1024 tLetter 964071050 759496991 = true := by rw [vr_q]; decide +kernel
theorem ex6 : vrB 2 tLetter 964071050 759496991 = false := by rw [vr_q]; decide +kernel
theorem ex7 : vrB 1024 tLetter 964071050 1833238780 = false := by rw [vr_q]; decide +kernel
theorem ex8 : vrB 536870895 [] 238075162 124230148 = true := by rw [vr_q]; decide +kernel
theorem ex9 : vrB 0 [] 238075162 124230148 = false := by rw [vr_q]; decide +kernel

theorem sign5 (a : Option Addr) (len cap : Nat) (w : World) (hb : IsB w a len cap tLetter) (hG : Glob w) :
    Calls Tryd.prog 47 #[.int .i64 5, .slice a len cap] w fun e w' => e = .returned (.tuple #[.agg #[.int .i64 964071050, .int .i64 759496991], .int .i64 0]) ∧ Below w.heap.size w w' := by
  have h := sign_yes 5 a len cap tLetter w (by decide) (by decide) hb (by have := hb.llen; simp [tLetter] at this; omega) hG
  rw [ex1, ex2] at h
  exact h
theorem signq (w : World) (hG : Glob w) :
    Calls Tryd.prog 47 #[.int .i64 1073741788, .slice none 0 0] w fun e w' => e = .returned (.tuple #[.agg #[.int .i64 238075162, .int .i64 124230148], .int .i64 0]) ∧ Below w.heap.size w w' := by
  have h := sign_yes 1073741788 none 0 0 [] w (by decide) (by decide) (isB_nil w) (by decide) hG
  rw [ex3, ex4] at h
  exact h

theorem ver_at (key E S : Int) (r : Bool) (a : Option Addr) (len cap : Nat) (b : Bytes) (w : World) (hr : vrB key b E S = r) (hb : IsB w a len cap b) (hl : len ≤ 1099511627776) (hG : Glob w) :
    Calls Tryd.prog 50 #[.int .i64 key, .slice a len cap, .agg #[.int .i64 E, .int .i64 S]] w fun e w' => e = .returned (.bool r) ∧ Below w.heap.size w w' := by
  subst hr; exact verify_any key E S a len cap b w hb hl hG
end Frk
