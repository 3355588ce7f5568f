/- Parts of the proof, joined. -/
import Derived.RangeFuncNested
import Derived.RangeFuncBound
import Derived.RangeFuncCalls
import Derived.RangeFuncLeaves
import Derived.Test.YtllbjakfjpjfnaaGreatDoorVxgVal
import Derived.Laws.BitsAllLaws
import Derived.Laws.BitsLemmas
import Derived.Shelf.Abstract
import Derived.Shelf.RegionOpen
import Derived.OwnWalkIn
import Derived.TacticsInMore
import Derived.LoopNIn
import Derived.LoopIn
import Derived.Test.YtllbjakfjpjfnaaGreatDoorVxgCod
import Derived.Test.YtllbjakfjpjfnaaGreatDoorVxEnf
import Derived.Lib.BufferRead
/- A range over a function whose iterator keeps its state in cells of its own: the law for the caller. -/
namespace Frk
open Go Go.RowKit

/-- what an iterator that never is stopped promises; its own cells lie in the blocks of which mine holds -/
def SeqCells {α : Type} (F : Fence) (n : Nat) (P : Program) (g : Nat) (lb : Array Value) (encs : α → Array Value) (mine : Nat → Prop) (S : List α → Prop) (N : Nat) (w : World) : Prop :=
  ∀ (l : Nat) (J : List α → World → Prop) (W : World), Below w.heap.size w W →
    (∀ s A B row, J s A → A.grownBy B row → (∀ r, row = some r → mine r) → J s B) →
    (∀ pre x W1, J pre W1 → pre.length < N → YieldAt F (n - 1) P l (encs x) W1 fun e W' =>
      e = .returned (.bool true) ∧ J (pre ++ [x]) W' ∧ ∀ r, mine r → W'.heap[r]? = W1.heap[r]?) →
    J [] W →
    CallsIn F n P g (#[.func (.yield l) #[] #[]] ++ lb) W fun e W' => (∃ v, e = .returned v) ∧ ∃ xs, S xs ∧ J xs W'

/-- how a round's body is left -/
def cellsPost {α : Type} (mine : Nat → Prop) (I : List α → World → Prop) (xs : List α) (W : World) : Exit → Act → World → Prop
  | .normal, _, W' => KeepsOthers W W' ∧ (∀ r, mine r → W'.heap[r]? = W.heap[r]?) ∧ I xs W'
  | _, _, _ => False

variable {F : Fence} {n : Nat} {P : Program}

end Frk

/- The program's least, squares, Pow and Mul compute numbers modulo Q, powers and products of the group. -/
namespace Frk
open Go Go.RowKit Go.Proofs
set_option maxRecDepth 100000
attribute [local go_sem] Oper.semAt_some

/-! ## the squares of a number, with the bits of an exponent -/
abbrev Sq := { p : Nat × Bool // p.1 < 2147483579 }
def sqs : Nat → Nat → Nat → List Sq
  | 0, _, _ => []
  | f + 1, a, n => if n = 0 then [] else ⟨(a % P, n % 2 == 1), Nat.mod_lt _ P_pos⟩ :: sqs f (a * a % P) (n / 2)
def mulS (c : Nat) (x : Sq) : Nat := if x.1.2 then c * x.1.1 % P else c
def prodS (l : List Sq) : Nat := l.foldl mulS 1
abbrev encSq (p : Sq) : Array Value := #[.int .i64 p.1.1, .bool p.1.2]

theorem heap_of_cell_grown {A B : World} {row : Option Nat} (g : A.grownBy B row) {b : Nat} {v : Value} (hc : A.cell? ⟨b, 0, none⟩ = some v) (hb : some b ≠ row) : B.cell? ⟨b, 0, none⟩ = some v :=
  (World.cell?_of_block (w := A) (g.block b (block_lt_of_cell hc) hb)).trans hc

def SqRel (J : List Sq → World → Prop) (a n bn ba : Nat) (W : World) : Prop :=
  ∃ (pre : List Sq) (f a' n' : Nat), pre ++ sqs f a' n' = sqs 64 a n ∧ n' < 2 ^ f ∧ a' < 2147483579 ∧ n' < 1073741789 ∧ J pre W ∧
    W.cell? ⟨bn, 0, none⟩ = some (.int .i64 n') ∧ W.frozen? ⟨bn, 0, none⟩ = false ∧ W.cell? ⟨ba, 0, none⟩ = some (.int .i64 a') ∧ W.frozen? ⟨ba, 0, none⟩ = false

theorem SqRel.next {J : List Sq → World → Prop} {a n bn ba : Nat} {W : World} (hne : bn ≠ ba) (hJ : ∀ (s : List Sq) (A B : World) (row : Option Nat), J s A → A.grownBy B row → (∀ (r : Nat), row = some r → r = bn ∨ r = ba) → J s B)
    {pre : List Sq} {f a' n' : Nat} (hS : pre ++ sqs f a' n' = sqs 64 a n ∧ n' < 2 ^ f) (ha : a' < 2147483579) (hn : n' < 1073741789) (hJp : J pre W) {v u : Value}
    (hcn : W.cell? ⟨bn, 0, none⟩ = some v) (hfn : W.frozen? ⟨bn, 0, none⟩ = false) (hca : W.cell? ⟨ba, 0, none⟩ = some u) (hfa : W.frozen? ⟨ba, 0, none⟩ = false) :
    SqRel J a n bn ba ((W.setCell ⟨ba, 0, none⟩ (.int .i64 a')).setCell ⟨bn, 0, none⟩ (.int .i64 n')) ∧
      ((W.setCell ⟨ba, 0, none⟩ (.int .i64 a')).setCell ⟨bn, 0, none⟩ (.int .i64 n')).cell? ⟨bn, 0, none⟩ = some (.int .i64 n') := by
  have g1 : W.grownBy (W.setCell ⟨ba, 0, none⟩ (.int .i64 a')) (some ba) := grown_setCell (grown_of_below (Below.refl _ W) _) _ _
  have g2 : (W.setCell ⟨ba, 0, none⟩ (.int .i64 a')).grownBy ((W.setCell ⟨ba, 0, none⟩ (.int .i64 a')).setCell ⟨bn, 0, none⟩ (.int .i64 n')) (some bn) := grown_setCell (grown_of_below (Below.refl _ _) _) _ _
  have c1 : (W.setCell ⟨ba, 0, none⟩ (.int .i64 a')).cell? ⟨ba, 0, none⟩ = some (.int .i64 a') := World.cell?_setCell_same' _ _ _ (by rw [hca]; rfl)
  have c2 : (W.setCell ⟨ba, 0, none⟩ (.int .i64 a')).cell? ⟨bn, 0, none⟩ = some v := heap_of_cell_grown g1 hcn (by intro e; cases e; exact hne rfl)
  have c3 : ((W.setCell ⟨ba, 0, none⟩ (.int .i64 a')).setCell ⟨bn, 0, none⟩ (.int .i64 n')).cell? ⟨bn, 0, none⟩ = some (.int .i64 n') := World.cell?_setCell_same' _ _ _ (by rw [c2]; rfl)
  exact ⟨⟨pre, f, a', n', hS.1, hS.2, ha, hn, hJ _ _ _ _ (hJ _ _ _ _ hJp g1 (fun r e => by cases e; exact .inr rfl)) g2 (fun r e => by cases e; exact .inl rfl), c3,
    by rw [World.frozen?_setCell, World.frozen?_setCell]; exact hfn, heap_of_cell_grown g2 c1 (by intro e; cases e; exact hne rfl), by rw [World.frozen?_setCell, World.frozen?_setCell]; exact hfa⟩, c3⟩

end Frk

/- The program's Mul and Hash, and what the packages sign and blind make of them. -/
namespace Frk
open Go Go.RowKit Go.Proofs
set_option maxRecDepth 100000

/-- the first bytes of a hash as a number -/
def hpre (l : Bytes) : Nat → Nat
  | 0 => 0
  | k + 1 => hpre l k * 256 + (l.getD k 0).toNat

def mask0 (l : Bytes) : Bytes := l.set 0 (UInt8.ofNat ((l.getD 0 0).toNat % 128))

end Frk

/- The program's sign: list, power, Sign, Verify. -/
namespace Frk
open Go Go.RowKit Go.Proofs
set_option maxRecDepth 100000

theorem IsB.below {w w' : World} {a : Option Addr} {len cap : Nat} {l : Bytes} (h : IsB w a len cap l) (hb : Below w.heap.size w w') : IsB w' a len cap l :=
  ⟨h.llen, h.lcap, h.lmax, h.cmax, by
    rcases h.at_ with h | ⟨g, off, e, hr, hg⟩
    · exact .inl h
    · exact .inr ⟨g, off, e, rangeAt_below' hr hb, Nat.lt_of_lt_of_le hg hb.size⟩⟩

theorem IsB.conv {w : World} {a : Option Addr} {len cap : Nat} {l : Bytes} (h : IsB w a len cap l) :
    (convert 52 9 (.slice a len cap)).run Tryz.prog w = .ok (.string ⟨l.toArray⟩) w := by
  rcases h.at_ with rfl | ⟨g, off, rfl, hr, hg⟩
  · have e : l = [] := List.eq_nil_of_length_eq_zero h.llen
    subst e
    cases a with
    | some a => exact run_convert_bytes_back (P := Tryz.prog) w 52 9 5 a cap [] Tryz.underlying52 Tryz.underlying5 Tryz.underlying9 (fun j hj => absurd hj (by simp))
    | none => exact Lib.run_convert_nil_bytes w 52 9 5 cap Tryz.underlying52 Tryz.underlying5 Tryz.underlying9
  · have := run_convert_bytes_back (P := Tryz.prog) w 52 9 5 ⟨g, off, none⟩ cap l Tryz.underlying52 Tryz.underlying5 Tryz.underlying9 (fun j hj => by
      rw [Addr.add_mid]; exact hr j _ (by rw [List.getElem?_map, List.getElem?_eq_getElem hj]; rfl))
    rwa [h.llen] at this

/-- what list is called with -/
inductive Arg where
  | i (n : Int)
  | s (a : Option Addr) (len cap : Nat) (b : Bytes)

def Arg.val : Arg → Value
  | .i n => .iface 3 (.int .i64 n)
  | .s a len cap _ => .iface 52 (.slice a len cap)
def Arg.lf : Arg → Lf
  | .i n => .i n
  | .s _ _ _ b => .t b
def Arg.ok (w : World) : Arg → Prop
  | .i n => -9223372036854775808 ≤ n ∧ n ≤ 9223372036854775807
  | .s a len cap b => IsB w a len cap b
theorem Arg.ok.below {w w' : World} {x : Arg} (h : x.ok w) (hb : Below w.heap.size w w') : x.ok w' := by
  cases x with
  | i n => exact h
  | s a len cap b => exact IsB.below h hb
theorem Arg.ok.fits {w : World} {x : Arg} (h : x.ok w) : x.lf.fits := by
  cases x with
  | i n => exact h
  | s a len cap b =>
    have h' : IsB w a len cap b := h
    have := h'.lmax
    have := h'.llen
    show b.length < 2 ^ 63
    omega

theorem info_val : (Tryz.prog.info? 51).map (fun i => (i.zero, i.size, i.bytes)) = some (some (.agg #[.int .i64 0, .int .i64 0, .string ByteArray.empty, .slice none 0 0]), 4, 56) := by kernel_rfl

def leafCells (xs : List Arg) : List Value := xs.flatMap fun x => x.lf.cells
theorem leafCells_at : ∀ (xs : List Arg) (k : Nat) (x : Arg), xs[k]? = some x → ∀ (j : Nat) (c : Value), x.lf.cells[j]? = some c → (leafCells xs)[k * 4 + j]? = some c
  | [], k, x, h, _, _, _ => by simp at h
  | y :: xs, 0, x, h, j, c, hc => by
    have e : y = x := by simpa using h
    subst e
    unfold leafCells
    rw [List.flatMap_cons, Nat.zero_mul, Nat.zero_add, List.getElem?_append_left (List.getElem?_eq_some_iff.1 hc).1]
    exact hc
  | y :: xs, k + 1, x, h, j, c, hc => by
    have := leafCells_at xs k x (by simpa using h) j c hc
    unfold leafCells at *
    have hl : y.lf.cells.length = 4 := by cases y <;> rfl
    rw [List.flatMap_cons, List.getElem?_append_right (by omega), hl, show (k + 1) * 4 + j - 4 = k * 4 + j from by omega]
    exact this
theorem leafCells_take (xs : List Arg) (k : Nat) (x : Arg) (h : xs[k]? = some x) : leafCells (xs.take (k + 1)) = leafCells (xs.take k) ++ x.lf.cells := by
  obtain ⟨hk, rfl⟩ := List.getElem?_eq_some_iff.1 h
  unfold leafCells
  rw [List.take_succ_eq_append_getElem hk, List.flatMap_append]
  simp

/-- where the loop of list stands -/
def ListRel (xs : List Arg) (w0 : World) (i : Value) (w : World) : Prop :=
  ∃ (j : Nat) (v : Value), j ≤ xs.length ∧ i = .int .i64 j ∧ Seal (w.heap[w0.heap.size]? = some (.cells #[.int .i64 3, .int .i64 0, .string ByteArray.empty, v] 51)) ∧
    Seal (w.ownsRow (w0.heap.size + 1) 51 4 v j (leafCells (xs.take j))) ∧ Seal (Below w0.heap.size w0 w)

theorem ListRel.next {xs : List Arg} {x : Arg} {w0 wr w1 : World} {j g1 cap1 : Nat} {v : Value} {o : Obj} (hj : j < xs.length) (HT : leafCells (xs.take (j + 1)) = leafCells (xs.take j) ++ x.lf.cells) (hb : Below w0.heap.size w0 wr)
    (hr1 : w1.heap[w0.heap.size]? = some (.cells #[.int .i64 3, .int .i64 0, .string ByteArray.empty, v] 51))
    (hown : wr.ownsRow (w0.heap.size + 1) 51 4 v j (leafCells (xs.take j))) (hg : (wr.alloc o).grownBy w1 v.ownBlock) (hbs : w0.heap.size < wr.heap.size)
    (hown1 : w1.ownsRow (w0.heap.size + 1) 51 4 (.slice (some ⟨g1, 0, none⟩) (j + 1) cap1) (j + 1) (leafCells (xs.take j) ++ x.lf.cells)) :
    ListRel xs w0 (.int .i64 ((j + 1 : Nat) : Int)) (w1.setCell ⟨w0.heap.size, 3, none⟩ (.slice (some ⟨g1, 0, none⟩) (j + 1) cap1)) := by
  refine ⟨j + 1, .slice (some ⟨g1, 0, none⟩) (j + 1) cap1, hj, rfl, ⟨?_⟩, ⟨?_⟩, ⟨?_⟩⟩
  · exact heap_setCell_row (cs := [.int .i64 3, .int .i64 0, .string ByteArray.empty, v]) _ hr1
  · rw [HT]
    refine hown1.kept (row := some w0.heap.size) (grown_setCell (grown_of_below (Below.refl _ w1) _) _ _) (.inr ?_)
    intro e
    have := (hown1.lt _ e).1
    omega
  · have h1 : Below w0.heap.size (wr.alloc o) w1 := ⟨hg.os, hg.tape, hg.output, hg.size, fun k hk => hg.block k (by rw [size_alloc]; omega) (fun e => by have := (hown.lt k e.symm).1; omega)⟩
    exact ((hb.alloc (by omega) o).trans h1).setCell (p := ⟨w0.heap.size, 3, none⟩) (Nat.le_refl _) _

end Frk

/- The program's sign: power, Sign, Verify. -/
namespace Frk
open Go Go.RowKit Go.Proofs
set_option maxRecDepth 100000

/-- what list leaves -/
def ListPost (l : Bytes) (w : World) (e : Ending) (w' : World) : Prop := ∃ g' n' cap', Seal (l.length = n') ∧
      e = .returned (.slice (some ⟨g', 0, none⟩) n' cap') ∧ Seal (n' ≤ cap' ∧ cap' ≤ 9223372036854775807 ∧ g' < w'.heap.size ∧ w'.rangeAt g' 0 (l.map B) ∧ Below w.heap.size w w')

theorem encL_length (xs : List Lf) : (encL xs).length ≤ wgts xs + 11 := by
  have h1 := encs_length xs
  have h2 := numF_length 10 xs.length
  simp [encL, numeral]; omega

/-! ## signatures -/
def tNonce : Bytes := [110, 111, 110, 99, 101]
def tSign : Bytes := [115, 105, 103, 110]
/-- the hash of a point, a key and a text -/
def sgHash (r key : Int) (b : Bytes) : Nat := ghash tSign (encL [.i r, .i key, .t b])
def sgK (x : Int) (b : Bytes) : Nat := max (ghash tNonce (encL [.i x, .t b])) 1
def sgE (x : Int) (b : Bytes) : Nat := sgHash (pw 4 (sgK x b)) (pw 4 x) b
def sgS (x : Int) (b : Bytes) : Int := ((sgK x b : Int) + (sgE x b : Int) * x % 1073741789) % 1073741789

theorem blk {w w' : World} {n b : Nat} {o : Obj} (h : Below n w w') (hb : b < n) (ho : w.heap[b]? = some o) : w'.heap[b]? = some o := (h.block b hb).trans ho

end Frk

