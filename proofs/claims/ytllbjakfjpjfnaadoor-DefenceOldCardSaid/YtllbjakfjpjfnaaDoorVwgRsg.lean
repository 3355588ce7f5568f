/- Parts of the proof, joined. -/
import Derived.Test.YtllbjakfjpjfnaaDoorVwgSig
import Derived.Test.YtllbjakfjpjfnaaDoorVwRow
import Derived.Test.YtllbjakfjpjfnaaDoorVwgEqd
import Derived.Test.YtllbjakfjpjfnaaDoorVwDbs
import Derived.Deep.Cut
import Derived.Test.YtllbjakfjpjfnaaDoorVwEnf
import Derived.Test.YtllbjakfjpjfnaaDoorVwAbs
import Derived.Test.YtllbjakfjpjfnaaDoorVwTag
import Derived.StillTailTactics
import Derived.Lib.SlBytesConst
import Derived.Test.YtllbjakfjpjfnaaDoorVwgGpr
import Derived.Test.YtllbjakfjpjfnaaDoorVwKit
import Derived.Test.YtllbjakfjpjfnaaDoorProg
import Derived.BigQuiet
import Derived.Lib.Hide
import Derived.Test.YtllbjakfjpjfnaaDoorVwgGrf
/- General things. -/
namespace Frk
open Go Go.RowKit Go.Proofs
set_option maxRecDepth 100000

def I64 (n : Int) : Prop := -9223372036854775808 ≤ n ∧ n ≤ 9223372036854775807

theorem exec_append {P : Program} {o : Oper} {a : Act} {w w' : World} (s x : Operand) (t tn : TypeId) (ho : o.op = .call { callee := .builtin .append, args := #[s, x], argTypes := #[t, tn] }) (sv xv v : Value) (hs : a.eval s = sv) (hx : a.eval x = xv)
    (hrun : ∀ ty, (Builtin.append_ #[t, tn] ty #[sv, xv]).run P w = .ok v w') : (execOp a.eval o).run P w = .ok (.value v) w' := by
  have := hrun o.type
  simp [execOp, ho, resolve, invoke, builtin, hs, hx, this, Result.andThen]

theorem ownsRow_below {w w' : World} {base : Nat} {e : TypeId} {size n : Nat} {v : Value} {xs : List Value} (h : w.ownsRow base e size v n xs) (hb : Below w.heap.size w w') : w'.ownsRow base e size v n xs :=
  h.kept (row := none) (grown_of_below hb none) (by cases hv : v.ownBlock with | none => exact .inl rfl | some b => exact .inr (by simp))

theorem exec_append1 {P : Program} {o : Oper} {a : Act} {w w' : World} (s x : Operand) (t tn ty : TypeId) (hty : o.type = ty) (ho : o.op = .call { callee := .builtin .append, args := #[s, x], argTypes := #[t, tn] }) (sv xv v : Value) (hs : a.eval s = sv) (hx : a.eval x = xv)
    (hrun : (Builtin.append_ #[t, tn] ty #[sv, xv]).run P w = .ok v w') : (execOp a.eval o).run P w = .ok (.value v) w' := by
  subst hty
  simp [execOp, ho, resolve, invoke, builtin, hs, hx, hrun, Result.andThen]

/-- numbers as leaves -/
def lfs (ns : List Int) : List Lf := ns.map Lf.i

theorem wgts_lfs (ns : List Int) : wgts (lfs ns) = ns.length * 11 := by
  induction ns with
  | nil => rfl
  | cons n ns ih =>
    have e : lfs (n :: ns) = Lf.i n :: lfs ns := rfl
    rw [e, wgts_cons, ih, List.length_cons]
    show 11 + _ = _
    omega

def zb32 : Bytes := [0, 0, 0, 0, 0, 0, 0, 0, 0, 0, 0, 0, 0, 0, 0, 0, 0, 0, 0, 0, 0, 0, 0, 0, 0, 0, 0, 0, 0, 0, 0, 0]

theorem cell_below' {w w' : World} {b i : Nat} {v : Value} (hb : Below w.heap.size w w') (h : w.cell? ⟨b, i, none⟩ = some v) : w'.cell? ⟨b, i, none⟩ = some v :=
  (hb.cell (p := ⟨b, i, none⟩) (block_lt_of_cell h)).trans h

/-- a stretch of a walk, ended by what its slots and its world are -/
def CutQ (F : Nat → Act) (R : Nat → World → Prop) : Exit → Act → World → Prop
  | .normal, a, W => ∃ g, a = F g ∧ R g W
  | _, _, _ => False

theorem exec_store_row {P : Program} {o : Oper} {a : Act} {w : World} (ty : TypeId) (x y : Operand) (ho : o.op = .store ty x y)
    (g : Nat) (cells : Array Value) (hx : a.eval x = .pointer (some ⟨g, 0, none⟩)) (hy : a.eval y = .agg cells)
    (t : TypeId) (old : Array Value) (hg : w.heap[g]? = some (.cells old t (0, 0))) (hi : (P.info? ty).map (·.size) = some cells.size)
    (hold : old.size = cells.size) (h1 : cells.all (·.oneCell') = true) : (execOp a.eval o).run P w = .ok .skip (w.setRow g cells) := by
  unfold execOp
  simp only [ho, hx, hy, Instr.storeAt, Instr.sureAddr, Sem.run_bind, Sem.run_pure, Result.andThen_ok, run_storeVar_row w g t ty old cells hg hi hold h1]

theorem fold_lay_at (k : Nat) : ∀ (L : List Value) (j : Nat) (Z : List Value), k + j + L.length ≤ Z.length → (L.zipIdx j).foldl (fun cs x => cs.setIfInBounds (k + x.2) x.1) Z.toArray = (lay Z (k + j) L).toArray
  | [], j, Z, _ => by rw [lay_nil]; rfl
  | v :: L, j, Z, h => by
    have hk : k + j < Z.length := by simp at h; omega
    rw [List.zipIdx_cons, List.foldl_cons, List.setIfInBounds_toArray, fold_lay_at k L (j + 1) (Z.set (k + j) v) (by simp at h ⊢; omega), ← Nat.add_assoc, lay_cons hk]

end Frk

/- Appends to slices of bytes that a call has made itself, whatever bytes are appended. -/
namespace Frk
open Go Go.RowKit Go.Proofs
set_option maxRecDepth 100000

theorem Own.cap {w : World} {base g n cap : Nat} {l : Bytes} (h : Own w base (.slice (some ⟨g, 0, none⟩) n cap) l) : n ≤ cap := by
  rcases h.2 with ⟨e, _⟩ | ⟨g', cap', cur, hv, _, _, hle, _⟩
  · cases e
  · cases hv; exact hle

theorem Own.alloc {w : World} {base : Nat} {v : Value} {l : Bytes} (h : Own w base v l) (o : Obj) : Own (w.alloc o) base v l := World.ownsRow.alloc h o
theorem Own.drewN {w : World} {base : Nat} {v : Value} {l : Bytes} (h : Own w base v l) (n : Nat) : Own (w.drewN n) base v l := h

theorem IsB.grown {w w' : World} {a : Option Addr} {m c : Nat} {l : Bytes} {r : Option Nat} (h : IsB w a m c l) (hg : w.grownBy w' r) (hne : ∀ g o, a = some ⟨g, o, none⟩ → r ≠ some g) : IsB w' a m c l :=
  ⟨h.llen, h.lcap, h.lmax, h.cmax, by
    rcases h.at_ with h0 | ⟨g, off, e, hr, hlt⟩
    · exact .inl h0
    · exact .inr ⟨g, off, e, rangeAt_grown hr hg (fun e' => hne g off e e'.symm), Nat.lt_of_lt_of_le hlt hg.size⟩⟩

/-- a slice of bytes that a call has made since the world w0 -/
structure Stg (w0 w : World) (g n cap : Nat) (l : Bytes) : Prop where
  own : Own w w0.heap.size (.slice (some ⟨g, 0, none⟩) n cap) l
  len : l.length = n
  bel : Below w0.heap.size w0 w

theorem Stg.alloc {w0 w : World} {g n cap : Nat} {l : Bytes} (h : Stg w0 w g n cap l) (o : Obj) : Stg w0 (w.alloc o) g n cap l :=
  ⟨h.own.alloc o, h.len, h.bel.alloc h.bel.size o⟩
theorem Stg.drewN {w0 w : World} {g n cap : Nat} {l : Bytes} (h : Stg w0 w g n cap l) (d : Nat) : Stg w0 (w.drewN d) g n cap l :=
  ⟨h.own, h.len, ⟨h.bel.os, h.bel.tape, h.bel.output, h.bel.size, h.bel.block⟩⟩
theorem Stg.below {w0 w w' : World} {g n cap : Nat} {l : Bytes} (h : Stg w0 w g n cap l) (hb : Below w.heap.size w w') : Stg w0 w' g n cap l :=
  ⟨World.ownsRow.kept h.own (grown_of_below hb none) (.inr (by intro e; cases e)), h.len, h.bel.trans (hb.mono h.bel.size)⟩
theorem Stg.from {w0 X w : World} {g n cap : Nat} {l : Bytes} (h : Stg X w g n cap l) (hb : Below w0.heap.size w0 X) : Stg w0 w g n cap l :=
  ⟨⟨h.own.1, by
    rcases h.own.2 with h0 | ⟨g', cap', cur, hv, hg, hr⟩
    · exact .inl h0
    · exact .inr ⟨g', cap', cur, hv, Nat.le_trans hb.size hg, hr⟩⟩, h.len, hb.trans (h.bel.mono hb.size)⟩

end Frk

/- The reference's codec: numeral, unsigned, encode at leaves. -/
namespace Frk
open Go Go.RowKit Go.Proofs
set_option maxRecDepth 100000

/-- a fresh slice of the bytes l -/
def FreshPost (l : Bytes) (w : World) (e : Ending) (w' : World) : Prop := ∃ g n c, e = .returned (.slice (some ⟨g, 0, none⟩) n c) ∧ Seal (Stg w w' g n c l)

end Frk

/- The reference's SHA-256: padded. -/
namespace Frk
open Go Go.RowKit Go.Proofs
set_option maxRecDepth 100000

/-- the first bytes of a number of eight -/
def beP (n j : Nat) : Bytes := (List.range j).map (fun i => beAt n 8 i)
end Frk

/- The examples of signatures, reckoned. -/
namespace Frk
open Go Go.RowKit Go.Proofs
set_option maxRecDepth 100000

def tLetter : Bytes := [108, 101, 116, 116, 101, 114]
end Frk

/- The reference's Mod, Times, Power and Quotient. -/
namespace Frk
open Go Go.RowKit Go.Proofs
set_option maxRecDepth 100000

def pwqn (a n : Nat) : Nat := a ^ n % Q

/-- Q less 2 -/
def eQ : Nat := 1073741787
attribute [irreducible] eQ

/-- the quotient modulo Q -/
def quo (a b : Int) : Nat := lq a * pwqn (lq b) eQ % 1073741789
end Frk

/- The reference's sign: values, Hash. -/
namespace Frk
open Go Go.RowKit Go.Proofs
set_option maxRecDepth 100000

theorem IsB.drew {w : World} {a : Option Addr} {len cap : Nat} {l : Bytes} (h : IsB w a len cap l) : IsB w.drew a len cap l := ⟨h.llen, h.lcap, h.lmax, h.cmax, h.at_⟩

end Frk

