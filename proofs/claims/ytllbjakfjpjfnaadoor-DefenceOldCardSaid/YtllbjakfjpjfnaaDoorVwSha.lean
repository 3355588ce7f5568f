/- SHA-256 on lists of bytes, on natural numbers. -/

namespace Frk

abbrev Bytes := List UInt8

def rotr (x n : Nat) : Nat := (x >>> n) ||| ((x <<< (32 - n)) % 4294967296)
def add32 (x y : Nat) : Nat := (x + y) % 4294967296

structure St where
  a : Nat
  b : Nat
  c : Nat
  d : Nat
  e : Nat
  f : Nat
  g : Nat
  h : Nat

def Kt : List Nat := [
  0x428a2f98, 0x71374491, 0xb5c0fbcf, 0xe9b5dba5, 0x3956c25b, 0x59f111f1, 0x923f82a4, 0xab1c5ed5,
  0xd807aa98, 0x12835b01, 0x243185be, 0x550c7dc3, 0x72be5d74, 0x80deb1fe, 0x9bdc06a7, 0xc19bf174,
  0xe49b69c1, 0xefbe4786, 0x0fc19dc6, 0x240ca1cc, 0x2de92c6f, 0x4a7484aa, 0x5cb0a9dc, 0x76f988da,
  0x983e5152, 0xa831c66d, 0xb00327c8, 0xbf597fc7, 0xc6e00bf3, 0xd5a79147, 0x06ca6351, 0x14292967,
  0x27b70a85, 0x2e1b2138, 0x4d2c6dfc, 0x53380d13, 0x650a7354, 0x766a0abb, 0x81c2c92e, 0x92722c85,
  0xa2bfe8a1, 0xa81a664b, 0xc24b8b70, 0xc76c51a3, 0xd192e819, 0xd6990624, 0xf40e3585, 0x106aa070,
  0x19a4c116, 0x1e376c08, 0x2748774c, 0x34b0bcb5, 0x391c0cb3, 0x4ed8aa4a, 0x5b9cca4f, 0x682e6ff3,
  0x748f82ee, 0x78a5636f, 0x84c87814, 0x8cc70208, 0x90befffa, 0xa4506ceb, 0xbef9a3f7, 0xc67178f2]

def iv : St := ⟨0x6a09e667, 0xbb67ae85, 0x3c6ef372, 0xa54ff53a, 0x510e527f, 0x9b05688c, 0x1f83d9ab, 0x5be0cd19⟩

def s0 (x : Nat) : Nat := (rotr x 7 ^^^ rotr x 18) ^^^ (x >>> 3)
def s1 (x : Nat) : Nat := (rotr x 17 ^^^ rotr x 19) ^^^ (x >>> 10)
def S0 (x : Nat) : Nat := (rotr x 2 ^^^ rotr x 13) ^^^ rotr x 22
def S1 (x : Nat) : Nat := (rotr x 6 ^^^ rotr x 11) ^^^ rotr x 25

/-- the word behind the words w (from the sixteenth on) -/
def nextW (w : List Nat) : Nat :=
  let t := w.length
  add32 (add32 (add32 (w.getD (t - 16) 0) (s0 (w.getD (t - 15) 0))) (w.getD (t - 7) 0)) (s1 (w.getD (t - 2) 0))

def sched (w : List Nat) : Nat → List Nat
  | 0 => w
  | n + 1 => let v := sched w n; v ++ [nextW v]

def rnd (s : St) (k w : Nat) : St :=
  let p := add32 (add32 (add32 (add32 s.h (S1 s.e)) (s.g ^^^ (s.e &&& (s.f ^^^ s.g)))) k) w
  let q := add32 (S0 s.a) ((s.a &&& s.b) ||| (s.c &&& (s.a ||| s.b)))
  ⟨add32 p q, s.a, s.b, s.c, add32 s.d p, s.e, s.f, s.g⟩

def rounds (s : St) : List Nat → List Nat → St
  | k :: ks, w :: ws => rounds (rnd s k w) ks ws
  | _, _ => s

def St.plus (s v : St) : St := ⟨add32 s.a v.a, add32 s.b v.b, add32 s.c v.c, add32 s.d v.d, add32 s.e v.e, add32 s.f v.f, add32 s.g v.g, add32 s.h v.h⟩

/-- four bytes as a number, the most significant one first -/
def word4 (l : Bytes) : Nat := (((l.getD 0 0).toNat * 256 + (l.getD 1 0).toNat) * 256 + (l.getD 2 0).toNat) * 256 + (l.getD 3 0).toNat

def words (l : Bytes) : Nat → List Nat
  | 0 => []
  | n + 1 => word4 l :: words (l.drop 4) n

def block (s : St) (l : Bytes) : St := s.plus (rounds s Kt (sched (words l 16) 48))

def absorb (s : St) (l : Bytes) : Nat → St
  | 0 => s
  | n + 1 => absorb (block s (l.take 64)) (l.drop 64) n

/-- n as k bytes, the most significant one first -/
def be (n : Nat) : Nat → Bytes
  | 0 => []
  | k + 1 => be (n / 256) k ++ [UInt8.ofNat n]

def pad (l : Bytes) : Bytes := l ++ [0x80] ++ List.replicate ((119 - l.length % 64) % 64) 0 ++ be (l.length * 8) 8

def St.list (s : St) : List Nat := [s.a, s.b, s.c, s.d, s.e, s.f, s.g, s.h]
def St.bytes (s : St) : Bytes := be s.a 4 ++ be s.b 4 ++ be s.c 4 ++ be s.d 4 ++ be s.e 4 ++ be s.f 4 ++ be s.g 4 ++ be s.h 4

def sha (l : Bytes) : Bytes := (absorb iv (pad l) ((l.length + 72) / 64)).bytes

def tagged (tag b : Bytes) : Bytes := sha (sha tag ++ b)

example : sha [97, 98, 99] = [0xba, 0x78, 0x16, 0xbf, 0x8f, 0x01, 0xcf, 0xea, 0x41, 0x41, 0x40, 0xde, 0x5d, 0xae, 0x22, 0x23, 0xb0, 0x03, 0x61, 0xa3, 0x96, 0x17, 0x7a, 0x9c, 0xb4, 0x10, 0xff, 0x61, 0xf2, 0x00, 0x15, 0xad] := by decide +kernel
example : (pad (List.replicate 55 1)).length = 64 := by decide +kernel
example : (pad (List.replicate 56 1)).length = 128 := by decide +kernel
end Frk
