/- The examples of blind signatures, reckoned. -/
import Derived.Test.YtbifjlejelcicaaDoorBlm
import Derived.Test.YtbifjlejelcicaaDoorExs
namespace Frk
open Go Go.RowKit Go.Proofs
set_option maxRecDepth 100000

def tSerial : Bytes := [115, 101, 114, 105, 97, 108]
def blPointQ (key r u v : Int) : Nat := mp r.toNat (mp (pwq 4 u) (pwq key.toNat v))
theorem blPoint_q (key r u v : Int) : blPoint key r u v = blPointQ key r u v := by unfold blPoint blPointQ; rw [pw_q, pw_q]
def blHashQ (key r : Int) (b : Bytes) (u v : Int) : Nat := sgHash (blPointQ key r u v) key b
theorem blHash_q (key r : Int) (b : Bytes) (u v : Int) : blHash key r b u v = blHashQ key r b u v := by unfold blHash blHashQ; rw [blPoint_q]
theorem bx1 : ((pw 4 5 : Nat) : Int) = 1024 := by rw [pw_q]; decide +kernel
theorem bx2 : ((pw 4 1 : Nat) : Int) = 4 := by rw [pw_q]; decide +kernel
theorem bx3 : ((blHash 64 1024 tSerial 11 (-13) : Nat) : Int) = 173695858 := by rw [blHash_q]; decide +kernel
theorem bx4 : ((lq (173695858 + (lq (-13) : Nat)) : Nat) : Int) = 173695845 := by decide +kernel
theorem bx5 : ((lq (5 + (lq 173695845 : Nat) * 3) : Nat) : Int) = 521087540 := by decide +kernel
theorem bx6 : ((lq ((lq 521087540 : Nat) + (lq 11 : Nat)) : Nat) : Int) = 521087551 := by decide +kernel
theorem bx7 : vrB 64 tSerial 173695858 521087551 = true := by rw [vr_q]; decide +kernel
theorem bx8 : ((lq (5 + (lq 7 : Nat) * 3) : Nat) : Int) = 26 := by decide +kernel
theorem bx9 : ((lq (5 + (lq (-1) : Nat) * 3) : Nat) : Int) = 2 := by decide +kernel
theorem bx10 : (vd 2 && vd 4) = false := by decide +kernel
theorem bx11 : (vd 64 && vd 1024) = true := by decide +kernel
theorem bx12 : (vd 64 && vd 4) = true := by decide +kernel
theorem bx13 : ((pw 4 521087540 : Nat) : Int) = ((pwq 4 521087540 : Nat) : Int) := by rw [pw_q]
theorem bx14 : ((blPoint 64 1024 0 173695845 : Nat) : Int) = ((pwq 4 521087540 : Nat) : Int) := by rw [blPoint_q]; decide +kernel
theorem bx15 : ((blPoint 64 4 0 173695845 : Nat) : Int) = ((blPointQ 64 4 0 173695845 : Nat) : Int) := by rw [blPoint_q]
theorem bx16 : ((pwq 4 521087540 : Nat) : Int) ≠ ((blPointQ 64 4 0 173695845 : Nat) : Int) := by decide +kernel
theorem bx17 : ((lq (521087551 - (lq 521087540 : Nat)) : Nat) : Int) = 11 := by decide +kernel
theorem bx18 : ((lq ((lq 173695845 : Nat) - 173695858) : Nat) : Int) = 1073741776 := by decide +kernel
theorem bx19 : secB 5 = true := by decide
theorem bx20 : secB 3 = true := by decide
end Frk
