/- Parts of the proof, joined. -/
import Derived.WalkKit
import Derived.WalkSpells
import Derived.WalkLawsBesides
import Derived.Deep.MidRow
import Derived.Maps.AppendAt
import Derived.Deep.RegionHeld3
/- SHA-256 on lists of bytes, on natural numbers. -/
namespace Frk

abbrev Bytes := List UInt8

def rotr (x n : Nat) : Nat := (x >>> n) ||| ((x <<< (32 - n)) % 4294967296)
def add32 (x y : Nat) : Nat := (x + y) % 4294967296

structure St where
  a : Nat
  b : Nat
  c : Nat
  d : Nat
  e : Nat
  f : Nat
  g : Nat
  h : Nat

def Kt : List Nat := [
  0x428a2f98, 0x71374491, 0xb5c0fbcf, 0xe9b5dba5, 0x3956c25b, 0x59f111f1, 0x923f82a4, 0xab1c5ed5,
  0xd807aa98, 0x12835b01, 0x243185be, 0x550c7dc3, 0x72be5d74, 0x80deb1fe, 0x9bdc06a7, 0xc19bf174,
  0xe49b69c1, 0xefbe4786, 0x0fc19dc6, 0x240ca1cc, 0x2de92c6f, 0x4a7484aa, 0x5cb0a9dc, 0x76f988da,
  0x983e5152, 0xa831c66d, 0xb00327c8, 0xbf597fc7, 0xc6e00bf3, 0xd5a79147, 0x06ca6351, 0x14292967,
  0x27b70a85, 0x2e1b2138, 0x4d2c6dfc, 0x53380d13, 0x650a7354, 0x766a0abb, 0x81c2c92e, 0x92722c85,
  0xa2bfe8a1, 0xa81a664b, 0xc24b8b70, 0xc76c51a3, 0xd192e819, 0xd6990624, 0xf40e3585, 0x106aa070,
  0x19a4c116, 0x1e376c08, 0x2748774c, 0x34b0bcb5, 0x391c0cb3, 0x4ed8aa4a, 0x5b9cca4f, 0x682e6ff3,
  0x748f82ee, 0x78a5636f, 0x84c87814, 0x8cc70208, 0x90befffa, 0xa4506ceb, 0xbef9a3f7, 0xc67178f2]

def iv : St := ⟨0x6a09e667, 0xbb67ae85, 0x3c6ef372, 0xa54ff53a, 0x510e527f, 0x9b05688c, 0x1f83d9ab, 0x5be0cd19⟩

def s0 (x : Nat) : Nat := (rotr x 7 ^^^ rotr x 18) ^^^ (x >>> 3)
def s1 (x : Nat) : Nat := (rotr x 17 ^^^ rotr x 19) ^^^ (x >>> 10)
def S0 (x : Nat) : Nat := (rotr x 2 ^^^ rotr x 13) ^^^ rotr x 22
def S1 (x : Nat) : Nat := (rotr x 6 ^^^ rotr x 11) ^^^ rotr x 25

/-- the word behind the words w (from the sixteenth on) -/
def nextW (w : List Nat) : Nat :=
  let t := w.length
  add32 (add32 (add32 (w.getD (t - 16) 0) (s0 (w.getD (t - 15) 0))) (w.getD (t - 7) 0)) (s1 (w.getD (t - 2) 0))

def sched (w : List Nat) : Nat → List Nat
  | 0 => w
  | n + 1 => let v := sched w n; v ++ [nextW v]

def rnd (s : St) (k w : Nat) : St :=
  let p := add32 (add32 (add32 (add32 s.h (S1 s.e)) (s.g ^^^ (s.e &&& (s.f ^^^ s.g)))) k) w
  let q := add32 (S0 s.a) ((s.a &&& s.b) ||| (s.c &&& (s.a ||| s.b)))
  ⟨add32 p q, s.a, s.b, s.c, add32 s.d p, s.e, s.f, s.g⟩

def rounds (s : St) : List Nat → List Nat → St
  | k :: ks, w :: ws => rounds (rnd s k w) ks ws
  | _, _ => s

def St.plus (s v : St) : St := ⟨add32 s.a v.a, add32 s.b v.b, add32 s.c v.c, add32 s.d v.d, add32 s.e v.e, add32 s.f v.f, add32 s.g v.g, add32 s.h v.h⟩

/-- four bytes as a number, the most significant one first -/
def word4 (l : Bytes) : Nat := (((l.getD 0 0).toNat * 256 + (l.getD 1 0).toNat) * 256 + (l.getD 2 0).toNat) * 256 + (l.getD 3 0).toNat

def words (l : Bytes) : Nat → List Nat
  | 0 => []
  | n + 1 => word4 l :: words (l.drop 4) n

def block (s : St) (l : Bytes) : St := s.plus (rounds s Kt (sched (words l 16) 48))

def absorb (s : St) (l : Bytes) : Nat → St
  | 0 => s
  | n + 1 => absorb (block s (l.take 64)) (l.drop 64) n

/-- n as k bytes, the most significant one first -/
def be (n : Nat) : Nat → Bytes
  | 0 => []
  | k + 1 => be (n / 256) k ++ [UInt8.ofNat n]

def pad (l : Bytes) : Bytes := l ++ [0x80] ++ List.replicate ((119 - l.length % 64) % 64) 0 ++ be (l.length * 8) 8

def St.list (s : St) : List Nat := [s.a, s.b, s.c, s.d, s.e, s.f, s.g, s.h]
def St.bytes (s : St) : Bytes := be s.a 4 ++ be s.b 4 ++ be s.c 4 ++ be s.d 4 ++ be s.e 4 ++ be s.f 4 ++ be s.g 4 ++ be s.h 4

def sha (l : Bytes) : Bytes := (absorb iv (pad l) ((l.length + 72) / 64)).bytes

def tagged (tag b : Bytes) : Bytes := sha (sha tag ++ b)

example : sha [97, 98, 99] = [0xba, 0x78, 0x16, 0xbf, 0x8f, 0x01, 0xcf, 0xea, 0x41, 0x41, 0x40, 0xde, 0x5d, 0xae, 0x22, 0x23, 0xb0, 0x03, 0x61, 0xa3, 0x96, 0x17, 0x7a, 0x9c, 0xb4, 0x10, 0xff, 0x61, 0xf2, 0x00, 0x15, 0xad] := by decide +kernel
example : (pad (List.replicate 55 1)).length = 64 := by decide +kernel
example : (pad (List.replicate 56 1)).length = 128 := by decide +kernel
end Frk

/- Words for what lies in memory: rows of bytes and of words, and what keeps them. -/
namespace Frk
open Go Go.RowKit

/-- a fact that no tactic looks into -/
structure Seal (p : Prop) : Prop where
  out : p

/-- a byte, and a word, as values -/
abbrev B (b : UInt8) : Value := .int .u8 (b.toNat : Int)
abbrev W (n : Nat) : Value := .int .u32 (n : Int)

theorem ret_u32 {a b : Int} (h : a = b) : Ending.returned (.int .u32 a) = .returned (.int .u32 b) := by rw [h]
theorem ret_i64 {a b : Int} (h : a = b) : Ending.returned (.int .i64 a) = .returned (.int .i64 b) := by rw [h]
theorem ret_bool {a b : Bool} (h : a = b) : Ending.returned (.bool a) = .returned (.bool b) := by rw [h]

theorem cellB {w : World} {g off : Nat} {l : Bytes} (h : w.rangeAt g off (l.map B)) {i : Nat} (hi : i < l.length) :
    w.cell? ⟨g, off + i, none⟩ = some (.int .u8 ((l.getD i 0).toNat : Int)) :=
  h i _ (by simp [List.getD_eq_getElem?_getD, List.getElem?_eq_getElem hi])

theorem cellW {w : World} {g off : Nat} {l : List Nat} (h : w.rangeAt g off (l.map W)) {i : Nat} (hi : i < l.length) :
    w.cell? ⟨g, off + i, none⟩ = some (.int .u32 ((l.getD i 0 : Nat) : Int)) :=
  h i _ (by simp [List.getD_eq_getElem?_getD, List.getElem?_eq_getElem hi])

theorem rangeAt_lt {w : World} {g off : Nat} {cs : List Value} (h : w.rangeAt g off cs) (hp : 0 < cs.length) : g < w.heap.size :=
  block_lt_of_cell (h 0 _ (List.getElem?_eq_getElem hp))

theorem rangeAt_of_same {w w' : World} {g off : Nat} {cs : List Value} (h : w.rangeAt g off cs) (e : w'.heap[g]? = w.heap[g]?) : w'.rangeAt g off cs :=
  fun j v hv => (World.cell?_of_block (w := w) e).trans (h j v hv)

theorem rangeAt_below {w w' : World} {B g off : Nat} {cs : List Value} (h : w.rangeAt g off cs) (hb : Below B w w') (hg : g < B) : w'.rangeAt g off cs :=
  rangeAt_of_same h (hb.block g hg)

theorem rangeAt_below' {w w' : World} {g off : Nat} {cs : List Value} (h : w.rangeAt g off cs) (hb : Below w.heap.size w w') : w'.rangeAt g off cs := by
  intro j v hv
  have h0 := h j v hv
  exact (World.cell?_of_block (w := w) (hb.block g (block_lt_of_cell h0))).trans h0

theorem rangeAt_grown {w w' : World} {g off : Nat} {row : Option Nat} {cs : List Value} (h : w.rangeAt g off cs) (hb : w.grownBy w' row) (hg : some g ≠ row) : w'.rangeAt g off cs := by
  intro j v hv
  have h0 := h j v hv
  exact (World.cell?_of_block (w := w) (hb.block g (block_lt_of_cell h0) hg)).trans h0

theorem rangeAt_drewN {w : World} {g off n : Nat} {cs : List Value} (h : w.rangeAt g off cs) : (w.drewN n).rangeAt g off cs := h

theorem rangeAt_drop {w : World} {g off : Nat} {cs : List Value} (h : w.rangeAt g off cs) (n : Nat) : w.rangeAt g (off + n) (cs.drop n) := by
  intro j v hv
  rw [List.getElem?_drop] at hv
  have := h _ v hv
  rw [Nat.add_assoc]; exact this

theorem rangeAt_take {w : World} {g off : Nat} {cs : List Value} (h : w.rangeAt g off cs) (n : Nat) : w.rangeAt g off (cs.take n) := by
  intro j v hv
  rw [List.getElem?_take] at hv
  split at hv
  · exact h j v hv
  · cases hv

theorem rangeAt_row {w : World} {g : Nat} {cs : List Value} {t : TypeId} {fr : Nat × Nat} (h : w.heap[g]? = some (.cells cs.toArray t fr)) : w.rangeAt g 0 cs := by
  intro j v hv
  rw [cell_of_row w g _ _ t fr h]
  simpa using hv

theorem rangeAt_new (w : World) (cs : List Value) (t : TypeId) (fr : Nat × Nat) : (w.alloc (.cells cs.toArray t fr)).rangeAt w.heap.size 0 cs :=
  rangeAt_row (heap_alloc_new w _)

theorem size_alloc (w : World) (o : Obj) : (w.alloc o).heap.size = w.heap.size + 1 := by
  show (w.heap.push o).size = _
  simp

theorem below_alloc (w : World) (o : Obj) : Below w.heap.size w (w.alloc o) := (Below.refl _ w).alloc (Nat.le_refl _) o

theorem grown_of_below {w w' : World} (h : Below w.heap.size w w') (row : Option Nat) : w.grownBy w' row :=
  ⟨h.os, h.tape, h.output, h.size, fun i hi _ => h.block i hi⟩

theorem grown_drewN (w : World) (n : Nat) (row : Option Nat) : w.grownBy (w.drewN n) row := grown_of_below (w := w) (w' := w.drewN n) ⟨rfl, rfl, rfl, Nat.le_refl _, fun _ _ => rfl⟩ row

theorem below_of_grown {w w' : World} {B g : Nat} (h : w.grownBy w' (some g)) (hg : B ≤ g) (hB : B ≤ w.heap.size) : Below B w w' :=
  ⟨h.os, h.tape, h.output, h.size, fun k hk => h.block k (by omega) (by intro e; cases e; omega)⟩

theorem below_of_grown_none {w w' : World} (h : w.grownBy w' none) : Below w.heap.size w w' :=
  ⟨h.os, h.tape, h.output, h.size, fun k hk => h.block k hk (by intro e; cases e)⟩

theorem setCell_new (w : World) (cs : List Value) (t : TypeId) (i d : Nat) (v : Value) :
    ((w.alloc (.cells cs.toArray t)).drewN d).setCell ⟨w.heap.size, i, none⟩ v = (w.alloc (.cells (cs.set i v).toArray t)).drewN d := by
  show ((w.alloc (.cells cs.toArray t)).setCell ⟨w.heap.size, i, none⟩ v).drewN d = _
  rw [World.setCell_alloc_at _ _ _ _ _ rfl]
  simp

/-- a cell of a new block, another one of which is written -/
theorem cell_new_other (w : World) (cs : List Value) (t : TypeId) (i j d : Nat) (v u : Value) (hij : i ≠ j) (h : cs[j]? = some u) :
    (((w.alloc (.cells cs.toArray t)).drewN d).setCell ⟨w.heap.size, i, none⟩ v).cell? ⟨w.heap.size, j, none⟩ = some u := by
  rw [setCell_new, World.cell?_drewN, cell_of_row _ _ _ _ _ _ (heap_alloc_new w _)]
  simp [hij, h]

theorem setCell_new' (w : World) (cs : List Value) (t : TypeId) (i d n : Nat) (v : Value) (hn : n = w.heap.size) :
    ((w.alloc (.cells cs.toArray t)).drewN d).setCell ⟨n, i, none⟩ v = (w.alloc (.cells (cs.set i v).toArray t)).drewN d := by
  subst hn; exact setCell_new w cs t i d v

theorem grown_setCell {a w : World} {g : Nat} (h : a.grownBy w (some g)) (i : Nat) (v : Value) : a.grownBy (w.setCell ⟨g, i, none⟩ v) (some g) :=
  ⟨h.os, h.tape, h.output, by simpa [World.setCell] using h.size, fun k hk hne => (Below.heap_setCell w _ v k (by intro e; exact hne (by rw [e]))).trans (h.block k hk hne)⟩

theorem grown_drew {a w : World} {row : Option Nat} (h : a.grownBy w row) (n : Nat) : a.grownBy (w.drewN n) row := ⟨h.os, h.tape, h.output, h.size, h.block⟩

theorem heap_setCell_row {w : World} {g i : Nat} {cs : List Value} {t : TypeId} (v : Value) (h : w.heap[g]? = some (.cells cs.toArray t (0, 0))) :
    (w.setCell ⟨g, i, none⟩ v).heap[g]? = some (.cells (cs.set i v).toArray t (0, 0)) := by
  rw [setCell_eq_setRow w g i _ _ _ v h, setRow_heap _ _ _ _ _ _ h]
  simp

theorem cell_allocd {w : World} {a : Addr} {v : Value} (h : w.cell? a = some v) (o : Obj) : (w.alloc o).cell? a = some v :=
  (World.cell?_alloc_some w a o (by rw [h]; rfl)).trans h

theorem slice_eq {a : Option Addr} {n n' c c' : Nat} (h : n = n') (h' : c = c') : Value.slice a n c = Value.slice a n' c' := by rw [h, h']

theorem below_row {B g : Nat} {w0 w : World} (hb : Below B w0 w) (hBg : B ≤ g) (cs : Array Value) : Below B w0 (w.setRow g cs) :=
  hb.trans ⟨rfl, rfl, rfl, by simp [World.setRow], fun k hk => setRow_other w g k cs (by omega)⟩

theorem setRow_new (w : World) (cs ds : List Value) (t : TypeId) : (w.alloc (.cells cs.toArray t)).setRow w.heap.size ds.toArray = w.alloc (.cells ds.toArray t) := by
  have h : ((w.alloc (.cells cs.toArray t)).setRow w.heap.size ds.toArray).heap = (w.alloc (.cells ds.toArray t)).heap := by
    apply Array.ext_getElem?
    intro i
    by_cases e : i = w.heap.size
    · subst e
      rw [setRow_heap _ _ _ _ _ _ (heap_alloc_new w _), heap_alloc_new]
    · rw [setRow_other _ _ _ _ e]
      by_cases hl : i < w.heap.size
      · rw [Below.heap_alloc _ _ _ hl, Below.heap_alloc _ _ _ hl]
      · rw [Array.getElem?_eq_none (by rw [size_alloc]; omega), Array.getElem?_eq_none (by rw [size_alloc]; omega)]
  show ({ (w.alloc (.cells cs.toArray t)) with heap := ((w.alloc (.cells cs.toArray t)).setRow w.heap.size ds.toArray).heap } : World) = _
  rw [h]
  rfl

/-- contracts that leave the world alone, in a quiet region -/
theorem quiet_left {P : Program} {f : FuncId} {args : Array Value} {w : World} {n : Nat} {v : Value}
    (h : Calls P f args (w.drewN n) fun e w' => e = .returned v ∧ w.drewN n = w') : Calls P f args (w.drewN n) fun e w' => e = .returned v ∧ ∃ m, w' = w.drewN m :=
  h.mono fun _ _ hh => ⟨hh.1, n, hh.2.symm⟩
theorem quiet_add {P : Program} {f : FuncId} {args : Array Value} {w : World} {a n : Nat} {v : Value}
    (h : Calls P f args (w.drewN (a + n)) fun e w' => e = .returned v ∧ w.drewN (a + n) = w') : Calls P f args (w.drewN (a + n)) fun e w' => e = .returned v ∧ ∃ m, w' = w.drewN (a + m) :=
  h.mono fun _ _ hh => ⟨hh.1, n, hh.2.symm⟩

/-! ## rows that grow from the left -/

theorem set_mid (xs : List Value) (y : Value) (n : Nat) (z : Value) (k : Nat) (hk : xs.length = k) :
    (xs ++ List.replicate (n + 1) z).toArray.setIfInBounds k y = (xs ++ [y] ++ List.replicate n z).toArray := by
  subst hk
  apply Array.ext'
  simp [List.replicate_succ]

end Frk

