/- Parts of the proof, joined. -/
import Derived.Test.YtnpnboldjbljaaaDoorVdEnf
import Derived.Test.YtnpnboldjbljaaaDoorVdgEnv
import Derived.Test.YtnpnboldjbljaaaDoorVdAbs
import Derived.Test.YtnpnboldjbljaaaDoorVdTag
import Derived.StillTailTactics
import Derived.Lib.SlBytesConst
import Derived.Test.YtnpnboldjbljaaaDoorVdgRng
import Derived.Test.YtnpnboldjbljaaaDoorVdKit
import Derived.Test.YtnpnboldjbljaaaDoorProg
import Derived.BigQuiet
import Derived.Lib.Hide
import Derived.Test.YtnpnboldjbljaaaDoorVdgSgn
import Derived.Test.YtnpnboldjbljaaaDoorVdgDpa
/- Appends to slices of bytes that a call has made itself, whatever bytes are appended. -/
namespace Frk
open Go Go.RowKit Go.Proofs
set_option maxRecDepth 100000

theorem Own.cap {w : World} {base g n cap : Nat} {l : Bytes} (h : Own w base (.slice (some ⟨g, 0, none⟩) n cap) l) : n ≤ cap := by
  rcases h.2 with ⟨e, _⟩ | ⟨g', cap', cur, hv, _, _, hle, _⟩
  · cases e
  · cases hv; exact hle

theorem Own.alloc {w : World} {base : Nat} {v : Value} {l : Bytes} (h : Own w base v l) (o : Obj) : Own (w.alloc o) base v l := World.ownsRow.alloc h o
theorem Own.drewN {w : World} {base : Nat} {v : Value} {l : Bytes} (h : Own w base v l) (n : Nat) : Own (w.drewN n) base v l := h

theorem IsB.grown {w w' : World} {a : Option Addr} {m c : Nat} {l : Bytes} {r : Option Nat} (h : IsB w a m c l) (hg : w.grownBy w' r) (hne : ∀ g o, a = some ⟨g, o, none⟩ → r ≠ some g) : IsB w' a m c l :=
  ⟨h.llen, h.lcap, h.lmax, h.cmax, by
    rcases h.at_ with h0 | ⟨g, off, e, hr, hlt⟩
    · exact .inl h0
    · exact .inr ⟨g, off, e, rangeAt_grown hr hg (fun e' => hne g off e e'.symm), Nat.lt_of_lt_of_le hlt hg.size⟩⟩

/-- a slice of bytes that a call has made since the world w0 -/
structure Stg (w0 w : World) (g n cap : Nat) (l : Bytes) : Prop where
  own : Own w w0.heap.size (.slice (some ⟨g, 0, none⟩) n cap) l
  len : l.length = n
  bel : Below w0.heap.size w0 w

theorem Stg.alloc {w0 w : World} {g n cap : Nat} {l : Bytes} (h : Stg w0 w g n cap l) (o : Obj) : Stg w0 (w.alloc o) g n cap l :=
  ⟨h.own.alloc o, h.len, h.bel.alloc h.bel.size o⟩
theorem Stg.drewN {w0 w : World} {g n cap : Nat} {l : Bytes} (h : Stg w0 w g n cap l) (d : Nat) : Stg w0 (w.drewN d) g n cap l :=
  ⟨h.own, h.len, ⟨h.bel.os, h.bel.tape, h.bel.output, h.bel.size, h.bel.block⟩⟩
theorem Stg.below {w0 w w' : World} {g n cap : Nat} {l : Bytes} (h : Stg w0 w g n cap l) (hb : Below w.heap.size w w') : Stg w0 w' g n cap l :=
  ⟨World.ownsRow.kept h.own (grown_of_below hb none) (.inr (by intro e; cases e)), h.len, h.bel.trans (hb.mono h.bel.size)⟩
theorem Stg.from {w0 X w : World} {g n cap : Nat} {l : Bytes} (h : Stg X w g n cap l) (hb : Below w0.heap.size w0 X) : Stg w0 w g n cap l :=
  ⟨⟨h.own.1, by
    rcases h.own.2 with h0 | ⟨g', cap', cur, hv, hg, hr⟩
    · exact .inl h0
    · exact .inr ⟨g', cap', cur, hv, Nat.le_trans hb.size hg, hr⟩⟩, h.len, hb.trans (h.bel.mono hb.size)⟩

end Frk

/- The reference's codec: numeral, unsigned, encode at leaves. -/
namespace Frk
open Go Go.RowKit Go.Proofs
set_option maxRecDepth 100000

/-- a fresh slice of the bytes l -/
def FreshPost (l : Bytes) (w : World) (e : Ending) (w' : World) : Prop := ∃ g n c, e = .returned (.slice (some ⟨g, 0, none⟩) n c) ∧ Seal (Stg w w' g n c l)

end Frk

/- The reference's SHA-256: padded. -/
namespace Frk
open Go Go.RowKit Go.Proofs
set_option maxRecDepth 100000

/-- the first bytes of a number of eight -/
def beP (n j : Nat) : Bytes := (List.range j).map (fun i => beAt n 8 i)
end Frk

/- The examples of signatures, reckoned. -/
namespace Frk
open Go Go.RowKit Go.Proofs
set_option maxRecDepth 100000

def tLetter : Bytes := [108, 101, 116, 116, 101, 114]
end Frk

/- The reference's Mod, Times, Power and Quotient. -/
namespace Frk
open Go Go.RowKit Go.Proofs
set_option maxRecDepth 100000

def pwqn (a n : Nat) : Nat := a ^ n % Q

/-- Q less 2 -/
def eQ : Nat := 1073741787
attribute [irreducible] eQ

/-- the quotient modulo Q -/
def quo (a b : Int) : Nat := lq a * pwqn (lq b) eQ % 1073741789
end Frk

/- The reference's sign: values, Hash. -/
namespace Frk
open Go Go.RowKit Go.Proofs
set_option maxRecDepth 100000

theorem IsB.drew {w : World} {a : Option Addr} {len cap : Nat} {l : Bytes} (h : IsB w a len cap l) : IsB w.drew a len cap l := ⟨h.llen, h.lcap, h.lmax, h.cmax, h.at_⟩

end Frk

/- The reference's Ints. -/
namespace Frk
open Go Go.RowKit Go.Proofs
set_option maxRecDepth 100000

/-- what Ints returns: a list that bears these leaves -/
def IntsPost (xs : List Lf) (k : Nat) (w : World) (e : Ending) (w' : World) : Prop :=
  ∃ g c, e = .returned (.agg #[.int .i64 3, .int .i64 0, .string ByteArray.empty, .slice (some ⟨g, 0, none⟩) k c]) ∧ Seal (k ≤ c ∧ g < w'.heap.size ∧ LeavesAt w' g 0 xs ∧ w'.ownsRow w.heap.size 78 4 (.slice (some ⟨g, 0, none⟩) k c) k (xs.flatMap Lf.cells)) ∧ Below w.heap.size w w'

end Frk

