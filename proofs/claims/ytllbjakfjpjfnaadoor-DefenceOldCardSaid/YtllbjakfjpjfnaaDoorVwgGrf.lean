/- Parts of the proof, joined. -/
import Derived.RangeFuncNested
import Derived.RangeFuncBound
import Derived.RangeFuncCalls
import Derived.RangeFuncLeaves
import Derived.Test.YtllbjakfjpjfnaaDoorVwVal
import Derived.Laws.BitsAllLaws
import Derived.Laws.BitsLemmas
import Derived.Shelf.Abstract
import Derived.Shelf.RegionOpen
import Derived.OwnWalkIn
import Derived.TacticsInMore
import Derived.LoopNIn
import Derived.LoopIn
import Derived.Test.YtllbjakfjpjfnaaDoorVwTag
import Derived.Test.YtllbjakfjpjfnaaDoorVwCod
/- A range over a function whose iterator keeps its state in cells of its own: the law for the caller. -/
namespace Frk
open Go Go.RowKit

/-- what an iterator that never is stopped promises; its own cells lie in the blocks of which mine holds -/
def SeqCells {α : Type} (F : Fence) (n : Nat) (P : Program) (g : Nat) (lb : Array Value) (encs : α → Array Value) (mine : Nat → Prop) (S : List α → Prop) (N : Nat) (w : World) : Prop :=
  ∀ (l : Nat) (J : List α → World → Prop) (W : World), Below w.heap.size w W →
    (∀ s A B row, J s A → A.grownBy B row → (∀ r, row = some r → mine r) → J s B) →
    (∀ pre x W1, J pre W1 → pre.length < N → YieldAt F (n - 1) P l (encs x) W1 fun e W' =>
      e = .returned (.bool true) ∧ J (pre ++ [x]) W' ∧ ∀ r, mine r → W'.heap[r]? = W1.heap[r]?) →
    J [] W →
    CallsIn F n P g (#[.func (.yield l) #[] #[]] ++ lb) W fun e W' => (∃ v, e = .returned v) ∧ ∃ xs, S xs ∧ J xs W'

/-- how a round's body is left -/
def cellsPost {α : Type} (mine : Nat → Prop) (I : List α → World → Prop) (xs : List α) (W : World) : Exit → Act → World → Prop
  | .normal, _, W' => KeepsOthers W W' ∧ (∀ r, mine r → W'.heap[r]? = W.heap[r]?) ∧ I xs W'
  | _, _, _ => False

variable {F : Fence} {n : Nat} {P : Program}

end Frk

/- The program's least, squares, Pow and Mul compute numbers modulo Q, powers and products of the group. -/
namespace Frk
open Go Go.RowKit Go.Proofs
set_option maxRecDepth 100000
attribute [local go_sem] Oper.semAt_some

/-! ## the squares of a number, with the bits of an exponent -/
abbrev Sq := { p : Nat × Bool // p.1 < 2147483579 }
def sqs : Nat → Nat → Nat → List Sq
  | 0, _, _ => []
  | f + 1, a, n => if n = 0 then [] else ⟨(a % P, n % 2 == 1), Nat.mod_lt _ P_pos⟩ :: sqs f (a * a % P) (n / 2)
def mulS (c : Nat) (x : Sq) : Nat := if x.1.2 then c * x.1.1 % P else c
def prodS (l : List Sq) : Nat := l.foldl mulS 1
abbrev encSq (p : Sq) : Array Value := #[.int .i64 p.1.1, .bool p.1.2]

theorem heap_of_cell_grown {A B : World} {row : Option Nat} (g : A.grownBy B row) {b : Nat} {v : Value} (hc : A.cell? ⟨b, 0, none⟩ = some v) (hb : some b ≠ row) : B.cell? ⟨b, 0, none⟩ = some v :=
  (World.cell?_of_block (w := A) (g.block b (block_lt_of_cell hc) hb)).trans hc

def SqRel (J : List Sq → World → Prop) (a n bn ba : Nat) (W : World) : Prop :=
  ∃ (pre : List Sq) (f a' n' : Nat), pre ++ sqs f a' n' = sqs 64 a n ∧ n' < 2 ^ f ∧ a' < 2147483579 ∧ n' < 1073741789 ∧ J pre W ∧
    W.cell? ⟨bn, 0, none⟩ = some (.int .i64 n') ∧ W.frozen? ⟨bn, 0, none⟩ = false ∧ W.cell? ⟨ba, 0, none⟩ = some (.int .i64 a') ∧ W.frozen? ⟨ba, 0, none⟩ = false

theorem SqRel.next {J : List Sq → World → Prop} {a n bn ba : Nat} {W : World} (hne : bn ≠ ba) (hJ : ∀ (s : List Sq) (A B : World) (row : Option Nat), J s A → A.grownBy B row → (∀ (r : Nat), row = some r → r = bn ∨ r = ba) → J s B)
    {pre : List Sq} {f a' n' : Nat} (hS : pre ++ sqs f a' n' = sqs 64 a n ∧ n' < 2 ^ f) (ha : a' < 2147483579) (hn : n' < 1073741789) (hJp : J pre W) {v u : Value}
    (hcn : W.cell? ⟨bn, 0, none⟩ = some v) (hfn : W.frozen? ⟨bn, 0, none⟩ = false) (hca : W.cell? ⟨ba, 0, none⟩ = some u) (hfa : W.frozen? ⟨ba, 0, none⟩ = false) :
    SqRel J a n bn ba ((W.setCell ⟨ba, 0, none⟩ (.int .i64 a')).setCell ⟨bn, 0, none⟩ (.int .i64 n')) ∧
      ((W.setCell ⟨ba, 0, none⟩ (.int .i64 a')).setCell ⟨bn, 0, none⟩ (.int .i64 n')).cell? ⟨bn, 0, none⟩ = some (.int .i64 n') := by
  have g1 : W.grownBy (W.setCell ⟨ba, 0, none⟩ (.int .i64 a')) (some ba) := grown_setCell (grown_of_below (Below.refl _ W) _) _ _
  have g2 : (W.setCell ⟨ba, 0, none⟩ (.int .i64 a')).grownBy ((W.setCell ⟨ba, 0, none⟩ (.int .i64 a')).setCell ⟨bn, 0, none⟩ (.int .i64 n')) (some bn) := grown_setCell (grown_of_below (Below.refl _ _) _) _ _
  have c1 : (W.setCell ⟨ba, 0, none⟩ (.int .i64 a')).cell? ⟨ba, 0, none⟩ = some (.int .i64 a') := World.cell?_setCell_same' _ _ _ (by rw [hca]; rfl)
  have c2 : (W.setCell ⟨ba, 0, none⟩ (.int .i64 a')).cell? ⟨bn, 0, none⟩ = some v := heap_of_cell_grown g1 hcn (by intro e; cases e; exact hne rfl)
  have c3 : ((W.setCell ⟨ba, 0, none⟩ (.int .i64 a')).setCell ⟨bn, 0, none⟩ (.int .i64 n')).cell? ⟨bn, 0, none⟩ = some (.int .i64 n') := World.cell?_setCell_same' _ _ _ (by rw [c2]; rfl)
  exact ⟨⟨pre, f, a', n', hS.1, hS.2, ha, hn, hJ _ _ _ _ (hJ _ _ _ _ hJp g1 (fun r e => by cases e; exact .inr rfl)) g2 (fun r e => by cases e; exact .inl rfl), c3,
    by rw [World.frozen?_setCell, World.frozen?_setCell]; exact hfn, heap_of_cell_grown g2 c1 (by intro e; cases e; exact hne rfl), by rw [World.frozen?_setCell, World.frozen?_setCell]; exact hfa⟩, c3⟩

end Frk

/- The program's Mul and Hash, and what the packages sign and blind make of them. -/
namespace Frk
open Go Go.RowKit Go.Proofs
set_option maxRecDepth 100000

/-- the first bytes of a hash as a number -/
def hpre (l : Bytes) : Nat → Nat
  | 0 => 0
  | k + 1 => hpre l k * 256 + (l.getD k 0).toNat

def mask0 (l : Bytes) : Bytes := l.set 0 (UInt8.ofNat ((l.getD 0 0).toNat % 128))

end Frk

