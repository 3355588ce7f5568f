/- Appends of rows of equal length, in general. -/
import Derived.Test.YtnpnboldjbljaaaDoorVdDow
import Derived.Test.YtnpnboldjbljaaaDoorVdDpi
import Derived.Test.YtnpnboldjbljaaaDoorVdRpv
namespace Frk
open Go Go.RowKit Go.Proofs
set_option maxRecDepth 100000

/-- slices of type tS have elements of type tE, which C lays out in z cells -/
structure RowT {α : Type} (C : α → List Value) (z : Nat) (tS tE : TypeId) : Prop where
  ut : Tryd.prog.underlying tS = some (.slice tE)
  info : ∃ (i : TypeInfo) (zv : Value) (b : Nat), Tryd.prog.info? tE = some i ∧ i.zero = some zv ∧ i.size = z ∧ i.bytes = b ∧ zv.cells.size = z ∧ 0 < z ∧ b ≤ 1000
  one : ∀ x, ∀ u ∈ C x, u.oneCell' = true
section
variable {α : Type} {C : α → List Value} {z : Nat} {tS tE : TypeId} (R : RowT C z tS tE)
def OwnC (C : α → List Value) (z : Nat) (tE : TypeId) (w : World) (base : Nat) (v : Value) (n : Nat) (l : List α) : Prop := w.ownsRow base tE z v n (l.flatMap C)
end
/-- a slice with a plain address -/
def PlainA (a : Option Addr) (c : Nat) : Prop := c = 0 ∨ ∃ g off, a = some ⟨g, off, none⟩
/-- block b is that of a slice that is not empty -/
def OldOf (a : Option Addr) (n b : Nat) : Prop := (∃ o, a = some ⟨b, o, none⟩) ∧ 0 < n
/-- a slice of rows is returned: one that was there (old), or one that is new -/
def RowPost {α : Type} (C : α → List Value) (z : Nat) (old : Nat → Prop) (l : List α) (w : World) (e : Ending) (w' : World) : Prop :=
  ∃ a n c, e = .returned (.slice a n c) ∧ Seal (IsC C z w' a n c l ∧ PlainA a c ∧ (∀ g o, a = some ⟨g, o, none⟩ → 0 < n → (old g ∨ w.heap.size ≤ g))) ∧ Below w.heap.size w w'
theorem IsC.setRow {α : Type} {C : α → List Value} {z : Nat} {w : World} {a : Option Addr} {n c : Nat} {l : List α} (h : IsC C z w a n c l) (k : Nat) (R : Array Value) (hne : ∀ g o, a = some ⟨g, o, none⟩ → 0 < n → g ≠ k) : IsC C z (w.setRow k R) a n c l :=
  ⟨h.llen, h.lcap, h.lmax, h.cmax, h.each, by
    rcases Nat.eq_zero_or_pos n with h1 | h1
    · exact .inl h1
    rcases h.at_ with h0 | ⟨g, o, e, hr, hg⟩
    · exact .inl h0
    · exact .inr ⟨g, o, e, rangeAt_setRow hr (hne g o e h1), by simpa [World.setRow] using hg⟩⟩
end Frk
