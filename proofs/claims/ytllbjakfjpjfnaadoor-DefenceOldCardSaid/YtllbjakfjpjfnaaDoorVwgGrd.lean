/- Parts of the proof, joined. -/
import Derived.Test.YtllbjakfjpjfnaaDoorVwDls
import Derived.Test.YtllbjakfjpjfnaaDoorVwDbs
import Derived.Test.YtllbjakfjpjfnaaDoorVwgRsg
import Derived.Test.YtllbjakfjpjfnaaDoorVwgEqd
import Derived.Deep.Cut
/- Law 44, plain: lists that rise; what is put in its place; what two lists give together. -/
namespace Frk
set_option maxRecDepth 100000

section
variable {α : Type} (key : α → Int)

def RisK (l : List α) : Prop := l.Pairwise (fun a b => key a < key b)
instance (l : List α) : Decidable (RisK key l) := by unfold RisK; infer_instance
def risB (l : List α) : Bool := decide (RisK key l)
def atK (l : List α) (n : Int) : Nat := (l.takeWhile (fun a => decide (key a < n))).length
def hasK (l : List α) (n : Int) : Bool := l.any (fun a => key a == n)
def insK (l : List α) (a : α) : List α := l.take (atK key l (key a)) ++ a :: l.drop (atK key l (key a))
/-- two lists say the same of what is in both -/
def AgrK (a b : List α) : Prop := ∀ x ∈ a, ∀ y ∈ b, key x = key y → x = y
def mrgK : List α → List α → List α
  | [], b => b
  | x :: a, [] => x :: a
  | x :: a, y :: b => if key x < key y then x :: mrgK a (y :: b) else if key y < key x then y :: mrgK (x :: a) b else y :: mrgK a b
termination_by a b => a.length + b.length
end

section
variable {α : Type} {key : α → Int}

theorem RisK.lt {l : List α} (h : RisK key l) {i j : Nat} {x y : α} (hij : i < j) (hx : l[i]? = some x) (hy : l[j]? = some y) : key x < key y := by
  obtain ⟨hi, ex⟩ := List.getElem?_eq_some_iff.1 hx
  obtain ⟨hj, ey⟩ := List.getElem?_eq_some_iff.1 hy
  have := List.pairwise_iff_getElem.1 h i j hi hj hij
  rw [ex, ey] at this
  exact this
theorem RisK.inj {l : List α} (h : RisK key l) {x y : α} (hx : x ∈ l) (hy : y ∈ l) (e : key x = key y) : x = y := by
  obtain ⟨i, hi⟩ := List.mem_iff_getElem?.1 hx
  obtain ⟨j, hj⟩ := List.mem_iff_getElem?.1 hy
  rcases Nat.lt_trichotomy i j with h1 | h1 | h1
  · have := h.lt h1 hi hj; omega
  · subst h1; rw [hi] at hj; exact Option.some.inj hj
  · have := h.lt h1 hj hi; omega

/-- the reference's way to merge: one after the other is put in -/
def foldP (a : List α) (b : List α) : List α := b.foldl (fun x p => if hasK key a (key p) then x else insK key x p) a
end

/-! ## numbers -/

def idI (n : Int) : Int := n
/-- a number is put in its place, once -/
def putI (l : List Int) (n : Int) : List Int := if hasK idI l n then l else insK idI l n
def foldG (a b : List Int) : List Int := b.foldl putI a
end Frk

/- Law 44, plain: devices. -/
namespace Frk
set_option maxRecDepth 100000

structure Po where
  o : Int
  S : Bytes
deriving DecidableEq
structure Dv where
  P : List Po
  G : List Int
def Dv.z : Dv := ⟨[], []⟩

def okP (p : Po) : Bool := decide (0 ≤ p.o) && decide (p.o ≤ 1048576)
def rightD (d : Dv) : Bool := d.P.all okP && (risB Po.o d.P && (risB idI d.G && d.G.all (fun n => hasK Po.o d.P n)))
def chkD (d : Dv) : Int := if 4096 < d.P.length then 2 else if rightD d then 0 else 440
/-- a posting of b that a knows otherwise -/
def confD (a b : List Po) : Bool := b.any (fun p => a.any (fun q => (q.o == p.o) && !decide (q = p)))
theorem AgrK.symm {α : Type} {key : α → Int} {a b : List α} (h : AgrK key a b) : AgrK key b a := fun x hx y hy e => (h y hy x hx e.symm).symm
def mrgD (a b : Dv) : Dv := ⟨mrgK Po.o a.P b.P, mrgK idI a.G b.G⟩
def mergeE (a b : Dv) : Int := if chkD a ≠ 0 then chkD a else if chkD b ≠ 0 then chkD b else if confD a.P b.P then 440 else if 4096 < (mrgK Po.o a.P b.P).length then 2 else 0
def mergeD (a b : Dv) : Dv := if mergeE a b = 0 then mrgD a b else Dv.z
/-! ## receipts -/

def gotE (d : Dv) (n : Int) : Int := if chkD d ≠ 0 then chkD d else if hasK Po.o d.P n then 0 else 1
def gotD (d : Dv) (n : Int) : Dv := if gotE d n = 0 then ⟨d.P, putI d.G n⟩ else Dv.z
def owedL (d : Dv) : List Int := (d.P.map Po.o).filter (fun n => !hasK idI d.G n)
end Frk

/- Slices of rows of equal length, in general; law 44's postings. -/
namespace Frk
open Go Go.RowKit Go.Proofs
set_option maxRecDepth 100000

/-! ## a slice whose elements are told by their cells -/
section
variable {α : Type} (C : α → List Value) (z : Nat)

structure IsC (w : World) (a : Option Addr) (n c : Nat) (l : List α) : Prop where
  llen : l.length = n
  lcap : n ≤ c
  lmax : n ≤ 5000
  cmax : c ≤ 9223372036854775807
  each : ∀ x ∈ l, (C x).length = z
  at_ : n = 0 ∨ ∃ g o, a = some ⟨g, o, none⟩ ∧ w.rangeAt g o (l.flatMap C) ∧ g < w.heap.size
end
section
variable {α : Type} {C : α → List Value} {z : Nat}

theorem isC_flat_at : ∀ {l : List α} {i : Nat} {x : α} (_ : ∀ x ∈ l, (C x).length = z) (_ : l[i]? = some x) (j : Nat) (v : Value), (C x)[j]? = some v → (l.flatMap C)[i * z + j]? = some v
  | [], i, x, _, hx, _, _, _ => by simp at hx
  | y :: l, i, x, he, hx, j, v, hv => by
    rw [List.flatMap_cons]
    cases i with
    | zero =>
      cases hx
      rw [Nat.zero_mul, Nat.zero_add, List.getElem?_append_left (List.getElem?_eq_some_iff.1 hv).1]
      exact hv
    | succ i =>
      have hy := he y List.mem_cons_self
      rw [List.getElem?_append_right (by rw [hy, Nat.succ_mul]; omega), hy, show (i + 1) * z + j - z = i * z + j from by rw [Nat.succ_mul]; omega]
      exact isC_flat_at (fun x hx => he x (List.mem_cons_of_mem _ hx)) (by simpa using hx) j v hv
theorem isC_flat_len : ∀ {l : List α} (_ : ∀ x ∈ l, (C x).length = z), (l.flatMap C).length = l.length * z
  | [], _ => by simp
  | y :: l, he => by
    rw [List.flatMap_cons, List.length_append, he y List.mem_cons_self, isC_flat_len fun x hx => he x (List.mem_cons_of_mem _ hx), List.length_cons, Nat.succ_mul]
    omega
theorem IsC.below {w w' : World} {a : Option Addr} {n c : Nat} {l : List α} (h : IsC C z w a n c l) (hb : Below w.heap.size w w') : IsC C z w' a n c l :=
  ⟨h.llen, h.lcap, h.lmax, h.cmax, h.each, by
    rcases h.at_ with h0 | ⟨g, o, e, hr, hg⟩
    · exact .inl h0
    · exact .inr ⟨g, o, e, rangeAt_below' hr hb, Nat.lt_of_lt_of_le hg hb.size⟩⟩
theorem rangeC_row {w : World} {g o : Nat} {l : List α} (hr : w.rangeAt g o (l.flatMap C)) (he : ∀ x ∈ l, (C x).length = z) {i : Nat} {x : α} (hx : l[i]? = some x) : w.rangeAt g (o + i * z) (C x) := fun j v hv => by
  have := hr (i * z + j) v (isC_flat_at he hx j v hv)
  rwa [show o + i * z + j = o + (i * z + j) from by omega]
end

/-! ## postings -/
def Po.C (p : Po) : List Value := .int .i64 p.o :: p.S.map B
structure Po.ok (p : Po) : Prop where
  s32 : p.S.length = 32
  io : I64 p.o
def intC (n : Int) : List Value := [.int .i64 n]
theorem intC_flat (l : List Int) : l.flatMap intC = l.map (Value.int .i64) := by
  induction l with
  | nil => rfl
  | cons x l ih => rw [List.flatMap_cons, ih]; rfl
abbrev IsPs (w : World) (a : Option Addr) (n c : Nat) (l : List Po) : Prop := IsC Po.C 33 w a n c l
abbrev IsIs (w : World) (a : Option Addr) (n c : Nat) (l : List Int) : Prop := IsC intC 1 w a n c l
end Frk

/- Long loads under a guard. -/
namespace Frk
open Go Go.RowKit Go.Proofs
set_option maxRecDepth 100000

theorem wpList_wanted {P : Program} {ops : Array Oper} {rest : List Oper} {o : Oper} {a : Act} {w : World} {Q : Exit → Act → World → Prop} (hw : Region.wanted o (yielded ops a.tmps) = true)
    (h : ∀ K : Act → World → Prop, (∀ a w, wpList P ops Q rest a w → K a w) → o.wp P a w K Q) : wpList P ops Q (o :: rest) a w :=
  wpList_step fun K hK => by simp only [hw, if_true]; exact h K hK

/-- a long load out of the midst of a block under a guard that holds -/
theorem wpList_load_mid_g {P : Program} {ops : Array Oper} {rest : List Oper} {o : Oper} {a : Act} {w : World} {Q : Exit → Act → World → Prop} (hw : Region.wanted o (yielded ops a.tmps) = true) (ty : TypeId) (x : Operand) (ho : o.op = .load ty x)
    (b off : Nat) (hx : a.eval x = .pointer (some ⟨b, off, none⟩)) (cs : List Value) (d : TypeDesc) (hc : w.rangeAt b off cs)
    (hu : P.underlying ty = some d) (hd : d.isRow = true) (hi : (P.info? ty).map (·.size) = some cs.length)
    (h : wpList P ops Q rest (a.put o.dst (.agg cs.toArray)) w) : wpList P ops Q (o :: rest) a w :=
  wpList_wanted hw fun _ hK => wp_load_mid ty x ho b off hx cs d hc hu hd hi (hK _ _ h)
end Frk

