/- Parts of the proof, joined. -/
import Derived.Test.YtllbjakfjpjfnaaDoorVwEnf
import Derived.Test.YtllbjakfjpjfnaaDoorVwgGrf
import Derived.Lib.BufferRead
/- The program's sign: list, power, Sign, Verify. -/
namespace Frk
open Go Go.RowKit Go.Proofs
set_option maxRecDepth 100000

theorem IsB.below {w w' : World} {a : Option Addr} {len cap : Nat} {l : Bytes} (h : IsB w a len cap l) (hb : Below w.heap.size w w') : IsB w' a len cap l :=
  ⟨h.llen, h.lcap, h.lmax, h.cmax, by
    rcases h.at_ with h | ⟨g, off, e, hr, hg⟩
    · exact .inl h
    · exact .inr ⟨g, off, e, rangeAt_below' hr hb, Nat.lt_of_lt_of_le hg hb.size⟩⟩

theorem IsB.conv {w : World} {a : Option Addr} {len cap : Nat} {l : Bytes} (h : IsB w a len cap l) :
    (convert 58 9 (.slice a len cap)).run Tryd.prog w = .ok (.string ⟨l.toArray⟩) w := by
  rcases h.at_ with rfl | ⟨g, off, rfl, hr, hg⟩
  · have e : l = [] := List.eq_nil_of_length_eq_zero h.llen
    subst e
    cases a with
    | some a => exact run_convert_bytes_back (P := Tryd.prog) w 58 9 5 a cap [] Tryd.underlying58 Tryd.underlying5 Tryd.underlying9 (fun j hj => absurd hj (by simp))
    | none => exact Lib.run_convert_nil_bytes w 58 9 5 cap Tryd.underlying58 Tryd.underlying5 Tryd.underlying9
  · have := run_convert_bytes_back (P := Tryd.prog) w 58 9 5 ⟨g, off, none⟩ cap l Tryd.underlying58 Tryd.underlying5 Tryd.underlying9 (fun j hj => by
      rw [Addr.add_mid]; exact hr j _ (by rw [List.getElem?_map, List.getElem?_eq_getElem hj]; rfl))
    rwa [h.llen] at this

/-- what list is called with -/
inductive Arg where
  | i (n : Int)
  | s (a : Option Addr) (len cap : Nat) (b : Bytes)

def Arg.val : Arg → Value
  | .i n => .iface 3 (.int .i64 n)
  | .s a len cap _ => .iface 58 (.slice a len cap)
def Arg.lf : Arg → Lf
  | .i n => .i n
  | .s _ _ _ b => .t b
def Arg.ok (w : World) : Arg → Prop
  | .i n => -9223372036854775808 ≤ n ∧ n ≤ 9223372036854775807
  | .s a len cap b => IsB w a len cap b
theorem Arg.ok.below {w w' : World} {x : Arg} (h : x.ok w) (hb : Below w.heap.size w w') : x.ok w' := by
  cases x with
  | i n => exact h
  | s a len cap b => exact IsB.below h hb
theorem Arg.ok.fits {w : World} {x : Arg} (h : x.ok w) : x.lf.fits := by
  cases x with
  | i n => exact h
  | s a len cap b =>
    have h' : IsB w a len cap b := h
    have := h'.lmax
    have := h'.llen
    show b.length < 2 ^ 63
    omega

theorem info_val : (Tryd.prog.info? 57).map (fun i => (i.zero, i.size, i.bytes)) = some (some (.agg #[.int .i64 0, .int .i64 0, .string ByteArray.empty, .slice none 0 0]), 4, 56) := by kernel_rfl

def leafCells (xs : List Arg) : List Value := xs.flatMap fun x => x.lf.cells
/-- where the loop of list stands -/
def ListRel (xs : List Arg) (w0 : World) (i : Value) (w : World) : Prop :=
  ∃ (j : Nat) (v : Value), j ≤ xs.length ∧ i = .int .i64 j ∧ Seal (w.heap[w0.heap.size]? = some (.cells #[.int .i64 3, .int .i64 0, .string ByteArray.empty, v] 57)) ∧
    Seal (w.ownsRow (w0.heap.size + 1) 57 4 v j (leafCells (xs.take j))) ∧ Seal (Below w0.heap.size w0 w)

theorem ListRel.next {xs : List Arg} {x : Arg} {w0 wr w1 : World} {j g1 cap1 : Nat} {v : Value} {o : Obj} (hj : j < xs.length) (HT : leafCells (xs.take (j + 1)) = leafCells (xs.take j) ++ x.lf.cells) (hb : Below w0.heap.size w0 wr)
    (hr1 : w1.heap[w0.heap.size]? = some (.cells #[.int .i64 3, .int .i64 0, .string ByteArray.empty, v] 57))
    (hown : wr.ownsRow (w0.heap.size + 1) 57 4 v j (leafCells (xs.take j))) (hg : (wr.alloc o).grownBy w1 v.ownBlock) (hbs : w0.heap.size < wr.heap.size)
    (hown1 : w1.ownsRow (w0.heap.size + 1) 57 4 (.slice (some ⟨g1, 0, none⟩) (j + 1) cap1) (j + 1) (leafCells (xs.take j) ++ x.lf.cells)) :
    ListRel xs w0 (.int .i64 ((j + 1 : Nat) : Int)) (w1.setCell ⟨w0.heap.size, 3, none⟩ (.slice (some ⟨g1, 0, none⟩) (j + 1) cap1)) := by
  refine ⟨j + 1, .slice (some ⟨g1, 0, none⟩) (j + 1) cap1, hj, rfl, ⟨?_⟩, ⟨?_⟩, ⟨?_⟩⟩
  · exact heap_setCell_row (cs := [.int .i64 3, .int .i64 0, .string ByteArray.empty, v]) _ hr1
  · rw [HT]
    refine hown1.kept (row := some w0.heap.size) (grown_setCell (grown_of_below (Below.refl _ w1) _) _ _) (.inr ?_)
    intro e
    have := (hown1.lt _ e).1
    omega
  · have h1 : Below w0.heap.size (wr.alloc o) w1 := ⟨hg.os, hg.tape, hg.output, hg.size, fun k hk => hg.block k (by rw [size_alloc]; omega) (fun e => by have := (hown.lt k e.symm).1; omega)⟩
    exact ((hb.alloc (by omega) o).trans h1).setCell (p := ⟨w0.heap.size, 3, none⟩) (Nat.le_refl _) _

end Frk

/- The program's sign: power, Sign, Verify. -/
namespace Frk
open Go Go.RowKit Go.Proofs
set_option maxRecDepth 100000

/-- what list leaves -/
def ListPost (l : Bytes) (w : World) (e : Ending) (w' : World) : Prop := ∃ g' n' cap', Seal (l.length = n') ∧
      e = .returned (.slice (some ⟨g', 0, none⟩) n' cap') ∧ Seal (n' ≤ cap' ∧ cap' ≤ 9223372036854775807 ∧ g' < w'.heap.size ∧ w'.rangeAt g' 0 (l.map B) ∧ Below w.heap.size w w')

theorem encL_length (xs : List Lf) : (encL xs).length ≤ wgts xs + 11 := by
  have h1 := encs_length xs
  have h2 := numF_length 10 xs.length
  simp [encL, numeral]; omega

/-! ## signatures -/
def tNonce : Bytes := [110, 111, 110, 99, 101]
def tSign : Bytes := [115, 105, 103, 110]
/-- the hash of a point, a key and a text -/
def sgHash (r key : Int) (b : Bytes) : Nat := ghash tSign (encL [.i r, .i key, .t b])
def sgK (x : Int) (b : Bytes) : Nat := max (ghash tNonce (encL [.i x, .t b])) 1
def sgE (x : Int) (b : Bytes) : Nat := sgHash (pw 4 (sgK x b)) (pw 4 x) b
def sgS (x : Int) (b : Bytes) : Int := ((sgK x b : Int) + (sgE x b : Int) * x % 1073741789) % 1073741789

theorem blk {w w' : World} {n b : Nat} {o : Obj} (h : Below n w w') (hb : b < n) (ho : w.heap[b]? = some o) : w'.heap[b]? = some o := (h.block b hb).trans ho

end Frk

