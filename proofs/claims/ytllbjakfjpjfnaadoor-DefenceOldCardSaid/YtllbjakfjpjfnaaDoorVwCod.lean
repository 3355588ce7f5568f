import Derived.Test.YtllbjakfjpjfnaaDoorVwSha
/- The encoding of lists of numbers and texts. -/
namespace Frk

/-- the digits of a number, the least one first; f bounds their number -/
def numF : Nat → Nat → Bytes
  | 0, _ => []
  | f + 1, u => if u < 128 then [UInt8.ofNat u] else UInt8.ofNat (u % 128 + 128) :: numF f (u / 128)

def numeral (u : Nat) : Bytes := numF 10 u

/-- the unsigned form of a number -/
def zig (n : Int) : Nat := if 0 ≤ n then (2 * n).toNat else (2 * (-(n + 1)) + 1).toNat

inductive Lf where
  | i (n : Int)
  | t (b : Bytes)

def Lf.enc : Lf → Bytes
  | .i n => 1 :: numeral (zig n)
  | .t b => 2 :: (numeral b.length ++ b)

def encs : List Lf → Bytes
  | [] => []
  | x :: l => x.enc ++ encs l

/-- the encoding of a list -/
def encL (l : List Lf) : Bytes := 3 :: (numeral l.length ++ encs l)

theorem encs_append : ∀ l m, encs (l ++ m) = encs l ++ encs m
  | [], m => rfl
  | x :: l, m => by simp [encs, encs_append l m]

def Lf.fits : Lf → Prop
  | .i n => -9223372036854775808 ≤ n ∧ n ≤ 9223372036854775807
  | .t b => b.length < 2 ^ 63

theorem zig_lt {n : Int} (h : -9223372036854775808 ≤ n ∧ n ≤ 9223372036854775807) : zig n < 2 ^ 64 := by
  unfold zig; split <;> omega

/-- a number out of a hash -/
def hashN (d : Bytes) : Nat := ((((((((d.getD 0 0).toNat % 128 * 256 + (d.getD 1 0).toNat) * 256 + (d.getD 2 0).toNat) * 256 + (d.getD 3 0).toNat) * 256 + (d.getD 4 0).toNat) * 256 + (d.getD 5 0).toNat) * 256 + (d.getD 6 0).toNat) * 256 + (d.getD 7 0).toNat) % 1073741789

def ghash (tag b : Bytes) : Nat := hashN (tagged tag b)

end Frk
