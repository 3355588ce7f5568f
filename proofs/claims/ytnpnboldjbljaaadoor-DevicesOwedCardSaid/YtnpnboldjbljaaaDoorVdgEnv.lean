/- Parts of the proof, joined. -/
import Derived.Test.YtnpnboldjbljaaaDoorVdgSgn
import Derived.Laws.BitsLemmas
import Derived.Laws.StructEq
/- The program's sign: power, Sign, Verify. -/
namespace Frk
open Go Go.RowKit Go.Proofs
set_option maxRecDepth 100000

/-- what list leaves -/
def ListPost (l : Bytes) (w : World) (e : Ending) (w' : World) : Prop := ∃ g' n' cap', Seal (l.length = n') ∧
      e = .returned (.slice (some ⟨g', 0, none⟩) n' cap') ∧ Seal (n' ≤ cap' ∧ cap' ≤ 9223372036854775807 ∧ g' < w'.heap.size ∧ w'.rangeAt g' 0 (l.map B) ∧ Below w.heap.size w w')

theorem encL_length (xs : List Lf) : (encL xs).length ≤ wgts xs + 11 := by
  have h1 := encs_length xs
  have h2 := numF_length 10 xs.length
  simp [encL, numeral]; omega

/-! ## signatures -/
def tNonce : Bytes := [110, 111, 110, 99, 101]
def tSign : Bytes := [115, 105, 103, 110]
/-- the hash of a point, a key and a text -/
def sgHash (r key : Int) (b : Bytes) : Nat := ghash tSign (encL [.i r, .i key, .t b])
def sgK (x : Int) (b : Bytes) : Nat := max (ghash tNonce (encL [.i x, .t b])) 1
def sgE (x : Int) (b : Bytes) : Nat := sgHash (pw 4 (sgK x b)) (pw 4 x) b
def sgS (x : Int) (b : Bytes) : Int := ((sgK x b : Int) + (sgE x b : Int) * x % 1073741789) % 1073741789

theorem blk {w w' : World} {n b : Nat} {o : Obj} (h : Below n w w') (hb : b < n) (ho : w.heap[b]? = some o) : w'.heap[b]? = some o := (h.block b hb).trans ho

end Frk

/- The program's sign: Verify. -/
namespace Frk
open Go Go.RowKit Go.Proofs
set_option maxRecDepth 100000

def inQ (x : Int) : Bool := decide (0 ≤ x) && decide (x < 1073741789)
/-- the point of a signature for a key -/
def sgPoint (key E S : Int) : Nat := mp (pw 4 S) (pw key.toNat (-E))
/-- is a signature right? -/
def vrB (key : Int) (b : Bytes) (E S : Int) : Bool := inQ E && inQ S && vd key && (E == (sgHash (sgPoint key E S) key b : Nat))

end Frk

/- Powers that can be reckoned. -/
namespace Frk

/-- a power, by squares -/
def pwq (a : Nat) (n : Int) : Nat := qpow P 31 a (lq n) 1
def sgHashQ (r key : Int) (b : Bytes) : Nat := sgHash r key b
def sgEQ (x : Int) (b : Bytes) : Nat := sgHash (pwq 4 (sgK x b)) (pwq 4 x) b
def sgSQ (x : Int) (b : Bytes) : Int := ((sgK x b : Int) + (sgEQ x b : Int) * x % 1073741789) % 1073741789
def sgPointQ (key E S : Int) : Nat := mp (pwq 4 S) (pwq key.toNat (-E))
def vrQ (key : Int) (b : Bytes) (E S : Int) : Bool := inQ E && inQ S && vd key && (E == (sgHash (sgPointQ key E S) key b : Nat))
end Frk

/- What a law carries along: the tables, a text, blocks that it has made. -/
namespace Frk
open Go Go.RowKit Go.Proofs
set_option maxRecDepth 100000

structure Env (w : World) (a : Option Addr) (len cap : Nat) (b : Bytes) (bs : List (Nat × Obj)) : Prop where
  glob : Glob w
  isb : IsB w a len cap b
  keep : ∀ p ∈ bs, w.heap[p.1]? = some p.2

theorem Env.below {w w' : World} {a : Option Addr} {len cap : Nat} {b : Bytes} {bs : List (Nat × Obj)} (h : Env w a len cap b bs) (hb : Below w.heap.size w w') : Env w' a len cap b bs :=
  ⟨h.glob.below hb, h.isb.below hb, fun p hp => blk hb (Array.getElem?_eq_some_iff.1 (h.keep p hp)).1 (h.keep p hp)⟩

theorem Env.push {w : World} {a : Option Addr} {len cap : Nat} {b : Bytes} {bs : List (Nat × Obj)} (h : Env w a len cap b bs) (o : Obj) : Env (w.alloc o) a len cap b ((w.heap.size, o) :: bs) :=
  ⟨h.glob.below (below_alloc w o), h.isb.below (below_alloc w o), fun p hp => by
    rcases List.mem_cons.1 hp with rfl | hp
    · exact heap_alloc_new w o
    · exact blk (below_alloc w o) (Array.getElem?_eq_some_iff.1 (h.keep p hp)).1 (h.keep p hp)⟩

theorem Env.cell {w : World} {a : Option Addr} {len cap : Nat} {b : Bytes} {bs : List (Nat × Obj)} (h : Env w a len cap b bs) {g i : Nat} {cs : Array Value} {t : TypeId} {v : Value} (hp : (g, Obj.cells cs t) ∈ bs) (hi : cs[i]? = some v) : w.cell? ⟨g, i, none⟩ = some v := by
  rw [cell_of_row _ _ _ _ _ _ (h.keep _ hp)]; exact hi

theorem Env.lt {w : World} {a : Option Addr} {len cap : Nat} {b : Bytes} {bs : List (Nat × Obj)} (h : Env w a len cap b bs) {g : Nat} {o : Obj} (hp : (g, o) ∈ bs) : g < w.heap.size :=
  (Array.getElem?_eq_some_iff.1 (h.keep _ hp)).1

theorem Env.frozen {w : World} {a : Option Addr} {len cap : Nat} {b : Bytes} {bs : List (Nat × Obj)} (h : Env w a len cap b bs) {g i : Nat} {cs : Array Value} {t : TypeId} (hp : (g, Obj.cells cs t) ∈ bs) : w.frozen? ⟨g, i, none⟩ = false :=
  frozen_of_row _ _ _ _ _ (h.keep _ hp)

/-- another text -/
theorem Env.text {w : World} {a a' : Option Addr} {len cap len' cap' : Nat} {b b' : Bytes} {bs : List (Nat × Obj)} (h : Env w a len cap b bs) (hb : IsB w a' len' cap' b') : Env w a' len' cap' b' bs := ⟨h.glob, hb, h.keep⟩

theorem isB_new (w : World) (l : Bytes) (n : Nat) (t : TypeId) (fr : Nat × Nat) (hl : l.length = n) (hn : n ≤ 140737488355328) : IsB (w.alloc (.cells (l.map B).toArray t fr)) (some ⟨w.heap.size, 0, none⟩) n n l :=
  ⟨hl, Nat.le_refl _, hn, by omega, .inr ⟨w.heap.size, 0, rfl, rangeAt_new w _ _ _, by rw [size_alloc]; omega⟩⟩

end Frk

