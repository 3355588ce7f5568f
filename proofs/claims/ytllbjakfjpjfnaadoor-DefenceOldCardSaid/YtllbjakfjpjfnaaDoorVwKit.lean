/- Words for what lies in memory: rows of bytes and of words, and what keeps them. -/
import Derived.Test.YtllbjakfjpjfnaaDoorVwSha
import Derived.WalkKit
import Derived.WalkSpells
import Derived.WalkLawsBesides
import Derived.Deep.MidRow
import Derived.Maps.AppendAt
import Derived.Deep.RegionHeld3
namespace Frk
open Go Go.RowKit

/-- a fact that no tactic looks into -/
structure Seal (p : Prop) : Prop where
  out : p

/-- a byte, and a word, as values -/
abbrev B (b : UInt8) : Value := .int .u8 (b.toNat : Int)
abbrev W (n : Nat) : Value := .int .u32 (n : Int)

theorem ret_u32 {a b : Int} (h : a = b) : Ending.returned (.int .u32 a) = .returned (.int .u32 b) := by rw [h]
theorem ret_bool {a b : Bool} (h : a = b) : Ending.returned (.bool a) = .returned (.bool b) := by rw [h]

theorem cellB {w : World} {g off : Nat} {l : Bytes} (h : w.rangeAt g off (l.map B)) {i : Nat} (hi : i < l.length) :
    w.cell? ⟨g, off + i, none⟩ = some (.int .u8 ((l.getD i 0).toNat : Int)) :=
  h i _ (by simp [List.getD_eq_getElem?_getD, List.getElem?_eq_getElem hi])

theorem cellW {w : World} {g off : Nat} {l : List Nat} (h : w.rangeAt g off (l.map W)) {i : Nat} (hi : i < l.length) :
    w.cell? ⟨g, off + i, none⟩ = some (.int .u32 ((l.getD i 0 : Nat) : Int)) :=
  h i _ (by simp [List.getD_eq_getElem?_getD, List.getElem?_eq_getElem hi])

theorem rangeAt_lt {w : World} {g off : Nat} {cs : List Value} (h : w.rangeAt g off cs) (hp : 0 < cs.length) : g < w.heap.size :=
  block_lt_of_cell (h 0 _ (List.getElem?_eq_getElem hp))

theorem rangeAt_below' {w w' : World} {g off : Nat} {cs : List Value} (h : w.rangeAt g off cs) (hb : Below w.heap.size w w') : w'.rangeAt g off cs := by
  intro j v hv
  have h0 := h j v hv
  exact (World.cell?_of_block (w := w) (hb.block g (block_lt_of_cell h0))).trans h0

theorem rangeAt_grown {w w' : World} {g off : Nat} {row : Option Nat} {cs : List Value} (h : w.rangeAt g off cs) (hb : w.grownBy w' row) (hg : some g ≠ row) : w'.rangeAt g off cs := by
  intro j v hv
  have h0 := h j v hv
  exact (World.cell?_of_block (w := w) (hb.block g (block_lt_of_cell h0) hg)).trans h0

theorem rangeAt_drop {w : World} {g off : Nat} {cs : List Value} (h : w.rangeAt g off cs) (n : Nat) : w.rangeAt g (off + n) (cs.drop n) := by
  intro j v hv
  rw [List.getElem?_drop] at hv
  have := h _ v hv
  rw [Nat.add_assoc]; exact this

theorem rangeAt_take {w : World} {g off : Nat} {cs : List Value} (h : w.rangeAt g off cs) (n : Nat) : w.rangeAt g off (cs.take n) := by
  intro j v hv
  rw [List.getElem?_take] at hv
  split at hv
  · exact h j v hv
  · cases hv

theorem rangeAt_row {w : World} {g : Nat} {cs : List Value} {t : TypeId} {fr : Nat × Nat} (h : w.heap[g]? = some (.cells cs.toArray t fr)) : w.rangeAt g 0 cs := by
  intro j v hv
  rw [cell_of_row w g _ _ t fr h]
  simpa using hv

theorem rangeAt_new (w : World) (cs : List Value) (t : TypeId) (fr : Nat × Nat) : (w.alloc (.cells cs.toArray t fr)).rangeAt w.heap.size 0 cs :=
  rangeAt_row (heap_alloc_new w _)

theorem size_alloc (w : World) (o : Obj) : (w.alloc o).heap.size = w.heap.size + 1 := by
  show (w.heap.push o).size = _
  simp

theorem below_alloc (w : World) (o : Obj) : Below w.heap.size w (w.alloc o) := (Below.refl _ w).alloc (Nat.le_refl _) o

theorem grown_of_below {w w' : World} (h : Below w.heap.size w w') (row : Option Nat) : w.grownBy w' row :=
  ⟨h.os, h.tape, h.output, h.size, fun i hi _ => h.block i hi⟩

theorem grown_drewN (w : World) (n : Nat) (row : Option Nat) : w.grownBy (w.drewN n) row := grown_of_below (w := w) (w' := w.drewN n) ⟨rfl, rfl, rfl, Nat.le_refl _, fun _ _ => rfl⟩ row

theorem below_of_grown {w w' : World} {B g : Nat} (h : w.grownBy w' (some g)) (hg : B ≤ g) (hB : B ≤ w.heap.size) : Below B w w' :=
  ⟨h.os, h.tape, h.output, h.size, fun k hk => h.block k (by omega) (by intro e; cases e; omega)⟩

theorem below_of_grown_none {w w' : World} (h : w.grownBy w' none) : Below w.heap.size w w' :=
  ⟨h.os, h.tape, h.output, h.size, fun k hk => h.block k hk (by intro e; cases e)⟩

theorem setCell_new (w : World) (cs : List Value) (t : TypeId) (i d : Nat) (v : Value) :
    ((w.alloc (.cells cs.toArray t)).drewN d).setCell ⟨w.heap.size, i, none⟩ v = (w.alloc (.cells (cs.set i v).toArray t)).drewN d := by
  show ((w.alloc (.cells cs.toArray t)).setCell ⟨w.heap.size, i, none⟩ v).drewN d = _
  rw [World.setCell_alloc_at _ _ _ _ _ rfl]
  simp

/-- a cell of a new block, another one of which is written -/
theorem cell_new_other (w : World) (cs : List Value) (t : TypeId) (i j d : Nat) (v u : Value) (hij : i ≠ j) (h : cs[j]? = some u) :
    (((w.alloc (.cells cs.toArray t)).drewN d).setCell ⟨w.heap.size, i, none⟩ v).cell? ⟨w.heap.size, j, none⟩ = some u := by
  rw [setCell_new, World.cell?_drewN, cell_of_row _ _ _ _ _ _ (heap_alloc_new w _)]
  simp [hij, h]

theorem setCell_new' (w : World) (cs : List Value) (t : TypeId) (i d n : Nat) (v : Value) (hn : n = w.heap.size) :
    ((w.alloc (.cells cs.toArray t)).drewN d).setCell ⟨n, i, none⟩ v = (w.alloc (.cells (cs.set i v).toArray t)).drewN d := by
  subst hn; exact setCell_new w cs t i d v

theorem grown_setCell {a w : World} {g : Nat} (h : a.grownBy w (some g)) (i : Nat) (v : Value) : a.grownBy (w.setCell ⟨g, i, none⟩ v) (some g) :=
  ⟨h.os, h.tape, h.output, by simpa [World.setCell] using h.size, fun k hk hne => (Below.heap_setCell w _ v k (by intro e; exact hne (by rw [e]))).trans (h.block k hk hne)⟩

theorem grown_drew {a w : World} {row : Option Nat} (h : a.grownBy w row) (n : Nat) : a.grownBy (w.drewN n) row := ⟨h.os, h.tape, h.output, h.size, h.block⟩

theorem heap_setCell_row {w : World} {g i : Nat} {cs : List Value} {t : TypeId} (v : Value) (h : w.heap[g]? = some (.cells cs.toArray t (0, 0))) :
    (w.setCell ⟨g, i, none⟩ v).heap[g]? = some (.cells (cs.set i v).toArray t (0, 0)) := by
  rw [setCell_eq_setRow w g i _ _ _ v h, setRow_heap _ _ _ _ _ _ h]
  simp

theorem cell_allocd {w : World} {a : Addr} {v : Value} (h : w.cell? a = some v) (o : Obj) : (w.alloc o).cell? a = some v :=
  (World.cell?_alloc_some w a o (by rw [h]; rfl)).trans h

theorem slice_eq {a : Option Addr} {n n' c c' : Nat} (h : n = n') (h' : c = c') : Value.slice a n c = Value.slice a n' c' := by rw [h, h']

theorem below_row {B g : Nat} {w0 w : World} (hb : Below B w0 w) (hBg : B ≤ g) (cs : Array Value) : Below B w0 (w.setRow g cs) :=
  hb.trans ⟨rfl, rfl, rfl, by simp [World.setRow], fun k hk => setRow_other w g k cs (by omega)⟩

theorem setRow_new (w : World) (cs ds : List Value) (t : TypeId) : (w.alloc (.cells cs.toArray t)).setRow w.heap.size ds.toArray = w.alloc (.cells ds.toArray t) := by
  have h : ((w.alloc (.cells cs.toArray t)).setRow w.heap.size ds.toArray).heap = (w.alloc (.cells ds.toArray t)).heap := by
    apply Array.ext_getElem?
    intro i
    by_cases e : i = w.heap.size
    · subst e
      rw [setRow_heap _ _ _ _ _ _ (heap_alloc_new w _), heap_alloc_new]
    · rw [setRow_other _ _ _ _ e]
      by_cases hl : i < w.heap.size
      · rw [Below.heap_alloc _ _ _ hl, Below.heap_alloc _ _ _ hl]
      · rw [Array.getElem?_eq_none (by rw [size_alloc]; omega), Array.getElem?_eq_none (by rw [size_alloc]; omega)]
  show ({ (w.alloc (.cells cs.toArray t)) with heap := ((w.alloc (.cells cs.toArray t)).setRow w.heap.size ds.toArray).heap } : World) = _
  rw [h]
  rfl

/-- contracts that leave the world alone, in a quiet region -/
theorem quiet_left {P : Program} {f : FuncId} {args : Array Value} {w : World} {n : Nat} {v : Value}
    (h : Calls P f args (w.drewN n) fun e w' => e = .returned v ∧ w.drewN n = w') : Calls P f args (w.drewN n) fun e w' => e = .returned v ∧ ∃ m, w' = w.drewN m :=
  h.mono fun _ _ hh => ⟨hh.1, n, hh.2.symm⟩
theorem quiet_add {P : Program} {f : FuncId} {args : Array Value} {w : World} {a n : Nat} {v : Value}
    (h : Calls P f args (w.drewN (a + n)) fun e w' => e = .returned v ∧ w.drewN (a + n) = w') : Calls P f args (w.drewN (a + n)) fun e w' => e = .returned v ∧ ∃ m, w' = w.drewN (a + m) :=
  h.mono fun _ _ hh => ⟨hh.1, n, hh.2.symm⟩

/-! ## rows that grow from the left -/

theorem set_mid (xs : List Value) (y : Value) (n : Nat) (z : Value) (k : Nat) (hk : xs.length = k) :
    (xs ++ List.replicate (n + 1) z).toArray.setIfInBounds k y = (xs ++ [y] ++ List.replicate n z).toArray := by
  subst hk
  apply Array.ext'
  simp [List.replicate_succ]

end Frk
