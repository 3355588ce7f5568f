/- Parts of the proof, joined. -/
import Derived.Test.YtnpnboldjbljaaaDoorVfOnq
import Derived.Test.YtnpnboldjbljaaaDoorVfgDpa
import Derived.Deep.Cut
import Derived.Test.YtnpnboldjbljaaaDoorVfEnf
import Derived.Test.YtnpnboldjbljaaaDoorVfgEnv
import Derived.Test.YtnpnboldjbljaaaDoorVfAbs
import Derived.Test.YtnpnboldjbljaaaDoorVfTag
import Derived.StillTailTactics
import Derived.Lib.SlBytesConst
import Derived.Test.YtnpnboldjbljaaaDoorVfgRng
import Derived.Test.YtnpnboldjbljaaaDoorVfKit
import Derived.Test.YtnpnboldjbljaaaDoorProg
import Derived.BigQuiet
import Derived.Lib.Hide
/- Law 44: the office's state in memory. -/
namespace Frk
open Go Go.RowKit Go.Proofs
set_option maxRecDepth 100000

theorem cell_cells {w : World} {g o : Nat} {v : Value} (h : w.cell? ⟨g, o, none⟩ = some v) : ∃ (cs : Array Value) (t : TypeId) (z : Nat × Nat), w.heap[g]? = some (.cells cs t z) := by
  unfold World.cell? at h
  simp only at h
  split at h
  · exact ⟨_, _, _, by assumption⟩
  · cases h
theorem MapN.obj {w : World} {P : Program} {k : TypeId} {b n : Nat} {f : Value → Option Value} (h : MapN w P k b n f) : ∃ es c, w.heap[b]? = some (.map es c) := by
  obtain ⟨D, ⟨es, c, hb, _⟩, _⟩ := h
  exact ⟨es, c, hb⟩
theorem MapN.setCell {w : World} {P : Program} {k : TypeId} {b n : Nat} {f : Value → Option Value} (h : MapN w P k b n f) {c : Nat} {cs : Array Value} {t : TypeId} {z : Nat × Nat} (hc : w.heap[c]? = some (.cells cs t z)) (u : Value) : MapN (w.setCell ⟨c, 0, none⟩ u) P k b n f :=
  h.of_block (Below.heap_setCell _ _ _ _ (fun e => by
    obtain ⟨es, cl, hb⟩ := h.obj
    have e : b = c := e
    rw [e, hc] at hb
    cases hb))
/-- W' has what W has, but for blocks of which X holds -/
structure Tn (X : Nat → Prop) (W W' : World) : Prop where
  os : W'.os = W.os
  tape : W'.tape = W.tape
  output : W'.output = W.output
  size : W.heap.size ≤ W'.heap.size
  block : ∀ k, k < W.heap.size → ¬ X k → W'.heap[k]? = W.heap[k]?
theorem Tn.refl (X : Nat → Prop) (W : World) : Tn X W W := ⟨rfl, rfl, rfl, Nat.le_refl _, fun _ _ _ => rfl⟩
theorem Tn.trans {X : Nat → Prop} {A W W' : World} (h : Tn X A W) (k : Tn X W W') : Tn X A W' :=
  ⟨k.os.trans h.os, k.tape.trans h.tape, k.output.trans h.output, Nat.le_trans h.size k.size, fun i hi hx => (k.block i (Nat.lt_of_lt_of_le hi h.size) hx).trans (h.block i hi hx)⟩
theorem Tn.below {X : Nat → Prop} {W W' : World} (h : Below W.heap.size W W') : Tn X W W' := ⟨h.os, h.tape, h.output, h.size, fun k hk _ => h.block k hk⟩
theorem Tn.grown {X : Nat → Prop} {W W' : World} {b : Nat} (h : W.grownBy W' (some b)) (hb : X b) : Tn X W W' := ⟨h.os, h.tape, h.output, h.size, fun k hk hx => h.block k hk (fun e => by cases e; exact hx hb)⟩
theorem Tn.setCell {X : Nat → Prop} {W : World} (p : Addr) (u : Value) (hb : X p.block) : Tn X W (W.setCell p u) := ⟨rfl, rfl, rfl, by simp [World.setCell], fun k _ hx => Below.heap_setCell _ _ _ k (fun e => hx (e ▸ hb))⟩
/-- all that is a row stays -/
def RowsStay (W W' : World) : Prop := W.heap.size ≤ W'.heap.size ∧ ∀ (k : Nat) (cs : Array Value) (t : TypeId) (z : Nat × Nat), W.heap[k]? = some (.cells cs t z) → W'.heap[k]? = W.heap[k]?
theorem rowsStay_below {W W' : World} (h : Below W.heap.size W W') : RowsStay W W' := ⟨h.size, fun k _ _ _ hk => h.block k (Array.getElem?_eq_some_iff.1 hk).1⟩
theorem rowsStay_map {W W' : World} {P : Program} {k : TypeId} {b n : Nat} {f : Value → Option Value} (h : W.grownBy W' (some b)) (hm : MapN W P k b n f) : RowsStay W W' := ⟨h.size, fun g cs t z hg => h.block g (Array.getElem?_eq_some_iff.1 hg).1 (fun e => by
  cases e
  obtain ⟨es, c, hb⟩ := hm.obj
  rw [hb] at hg
  cases hg)⟩
theorem rangeAt_stay {W W' : World} {g o : Nat} {cs : List Value} (hs : RowsStay W W') (h : W.rangeAt g o cs) : W'.rangeAt g o cs := fun j u hu => by
  have h1 := h j u hu
  obtain ⟨xs, t, z, hg⟩ := cell_cells h1
  exact (World.cell?_of_block (w := W) (hs.2 g xs t z hg)).trans h1
theorem IsD.stay {W W' : World} {a : Option Addr} {n c : Nat} {l : List Bytes} (h : IsD W a n c l) (hs : RowsStay W W') : IsD W' a n c l :=
  ⟨h.llen, h.lcap, h.lmax, h.cmax, h.each, by
    rcases h.at_ with h0 | ⟨g, o, e, hr, hg⟩
    · exact .inl h0
    · exact .inr ⟨g, o, e, rangeAt_stay hs hr, Nat.lt_of_lt_of_le hg hs.1⟩⟩
theorem IsC.stay {α : Type} {C : α → List Value} {z : Nat} {W W' : World} {a : Option Addr} {n c : Nat} {l : List α} (h : IsC C z W a n c l) (hs : RowsStay W W') : IsC C z W' a n c l :=
  ⟨h.llen, h.lcap, h.lmax, h.cmax, h.each, by
    rcases h.at_ with h0 | ⟨g, o, e, hr, hg⟩
    · exact .inl h0
    · exact .inr ⟨g, o, e, rangeAt_stay hs hr, Nat.lt_of_lt_of_le hg hs.1⟩⟩
/-- a slice of digests lies elsewhere than a cell that holds a slice -/
theorem IsD.other {W : World} {a : Option Addr} {n c : Nat} {l : List Bytes} (h : IsD W a n c l) (h0 : 0 < n) {g o b : Nat} (e : a = some ⟨g, o, none⟩) {ua : Option Addr} {un uc : Nat} {t : TypeId} (hb : W.heap[b]? = some (.cells #[.slice ua un uc] t (0, 0))) : g ≠ b := by
  rintro rfl
  rcases h.at_ with h1 | ⟨g', o', e', hr, hg⟩
  · omega
  · rw [e] at e'
    cases e'
    match l, h.llen, h.each, hr with
    | [], hl, _, _ => simp at hl; omega
    | T :: l, _, he, hr =>
      have hT := he T List.mem_cons_self
      match T, hT with
      | x :: T, _ =>
        have h2 := hr 0 (B x) (by simp [dcells])
        rw [cell_of_row _ _ _ _ _ _ hb] at h2
        match o with
        | 0 => simp [B] at h2
        | o + 1 => simp at h2
theorem IsD.setCell {W : World} {a : Option Addr} {n c : Nat} {l : List Bytes} (h : IsD W a n c l) {b : Nat} {ua : Option Addr} {un uc : Nat} {t : TypeId} (hb : W.heap[b]? = some (.cells #[.slice ua un uc] t (0, 0))) (u : Value) : IsD (W.setCell ⟨b, 0, none⟩ u) a n c l :=
  ⟨h.llen, h.lcap, h.lmax, h.cmax, h.each, by
    rcases Nat.eq_zero_or_pos n with h1 | h1
    · exact .inl h1
    rcases h.at_ with h0 | ⟨g, o, e, hr, hg⟩
    · exact .inl h0
    · exact .inr ⟨g, o, e, fun j v hv => (World.cell?_of_block (w := W) (Below.heap_setCell _ _ _ _ (h.other h1 e hb))).trans (hr j v hv), by simpa [World.setCell] using hg⟩⟩
/-- the variables of the office: serials, used, accepted, given -/
structure Rws (c10 c7 c8 c9 m10 m8 m9 : Nat) (ua : Option Addr) (un uc : Nat) (W : World) : Prop where
  r10 : W.heap[c10]? = some (.cells #[.map (some m10)] 55 (0, 0))
  r7 : W.heap[c7]? = some (.cells #[.slice ua un uc] 46 (0, 0))
  r8 : W.heap[c8]? = some (.cells #[.map (some m8)] 53 (0, 0))
  r9 : W.heap[c9]? = some (.cells #[.map (some m9)] 54 (0, 0))
theorem Rws.stay {c10 c7 c8 c9 m10 m8 m9 : Nat} {ua : Option Addr} {un uc : Nat} {W W' : World} (h : Rws c10 c7 c8 c9 m10 m8 m9 ua un uc W) (hs : RowsStay W W') : Rws c10 c7 c8 c9 m10 m8 m9 ua un uc W' :=
  ⟨(hs.2 _ _ _ _ h.r10).trans h.r10, (hs.2 _ _ _ _ h.r7).trans h.r7, (hs.2 _ _ _ _ h.r8).trans h.r8, (hs.2 _ _ _ _ h.r9).trans h.r9⟩
theorem Rws.cells {c10 c7 c8 c9 m10 m8 m9 : Nat} {ua : Option Addr} {un uc : Nat} {W : World} (h : Rws c10 c7 c8 c9 m10 m8 m9 ua un uc W) :
    W.cell? ⟨c10, 0, none⟩ = some (.map (some m10)) ∧ W.cell? ⟨c7, 0, none⟩ = some (.slice ua un uc) ∧ W.cell? ⟨c8, 0, none⟩ = some (.map (some m8)) ∧ W.cell? ⟨c9, 0, none⟩ = some (.map (some m9)) :=
  ⟨by rw [cell_of_row _ _ _ _ _ _ h.r10]; rfl, by rw [cell_of_row _ _ _ _ _ _ h.r7]; rfl, by rw [cell_of_row _ _ _ _ _ _ h.r8]; rfl, by rw [cell_of_row _ _ _ _ _ _ h.r9]; rfl⟩
theorem Rws.set {c10 c7 c8 c9 m10 m8 m9 : Nat} {ua : Option Addr} {un uc : Nat} {W : World} (h : Rws c10 c7 c8 c9 m10 m8 m9 ua un uc W) (va : Option Addr) (vn vc : Nat) : Rws c10 c7 c8 c9 m10 m8 m9 va vn vc (W.setCell ⟨c7, 0, none⟩ (.slice va vn vc)) := by
  have ne : ∀ {g m : Nat} {t : TypeId}, W.heap[g]? = some (.cells #[.map (some m)] t (0, 0)) → g ≠ c7 := fun hg e => by
    subst e
    rw [h.r7] at hg
    simp at hg
  exact ⟨(Below.heap_setCell _ _ _ _ (ne h.r10)).trans h.r10, heap_setCell_row (cs := [.slice ua un uc]) (i := 0) (.slice va vn vc) h.r7, (Below.heap_setCell _ _ _ _ (ne h.r8)).trans h.r8, (Below.heap_setCell _ _ _ _ (ne h.r9)).trans h.r9⟩
def Tx (c7 m10 m8 m9 : Nat) (k : Nat) : Prop := k = c7 ∨ k = m10 ∨ k = m8 ∨ k = m9
/-- the office's state -/
def OfSt (s : Int) (c10 c7 c8 c9 m10 m8 m9 : Nat) (gs : List Int) (W : World) : Prop :=
  ∃ u ua un uc fs fa fg, Off s gs u ∧ Rws c10 c7 c8 c9 m10 m8 m9 ua un uc W ∧ IsD W ua un uc u ∧ MapN W Tryd.prog 29 m10 gs.length fs ∧ SerF s gs fs ∧ MapN W Tryd.prog 3 m8 gs.length fa ∧ AccF gs (.int .i64 1) fa ∧ MapN W Tryd.prog 3 m9 gs.length fg ∧ AccF gs (.bool true) fg
theorem OfSt.below {s : Int} {c10 c7 c8 c9 m10 m8 m9 : Nat} {gs : List Int} {W W' : World} (h : OfSt s c10 c7 c8 c9 m10 m8 m9 gs W) (hb : Below W.heap.size W W') : OfSt s c10 c7 c8 c9 m10 m8 m9 gs W' := by
  obtain ⟨u, ua, un, uc, fs, fa, fg, h1, h2, h3, h4, h5, h6, h7, h8, h9⟩ := h
  exact ⟨u, ua, un, uc, fs, fa, fg, h1, h2.stay (rowsStay_below hb), h3.of_heap hb, h4.below hb, h5, h6.below hb, h7, h8.below hb, h9⟩
end Frk

/- Law 44's reference: Find, Has, SameInts, Few. -/
namespace Frk
open Go Go.RowKit Go.Proofs
set_option maxRecDepth 100000

/-- where Find says that an order is -/
def FindR (l : List Po) (q i : Int) : Prop := (i = -1 ∧ hasK Po.o l q = false) ∨ ∃ (j : Nat) (x : Po), i = (j : Int) ∧ l[j]? = some x ∧ x.o = q
def fewB (pn gn : Nat) : Bool := decide (gn ≤ 40) && (decide (pn ≤ 40) || (decide (4096 < pn) && decide (pn ≤ 5000)))
end Frk

/- Appends to slices of bytes that a call has made itself, whatever bytes are appended. -/
namespace Frk
open Go Go.RowKit Go.Proofs
set_option maxRecDepth 100000

theorem Own.cap {w : World} {base g n cap : Nat} {l : Bytes} (h : Own w base (.slice (some ⟨g, 0, none⟩) n cap) l) : n ≤ cap := by
  rcases h.2 with ⟨e, _⟩ | ⟨g', cap', cur, hv, _, _, hle, _⟩
  · cases e
  · cases hv; exact hle

theorem Own.alloc {w : World} {base : Nat} {v : Value} {l : Bytes} (h : Own w base v l) (o : Obj) : Own (w.alloc o) base v l := World.ownsRow.alloc h o
theorem Own.drewN {w : World} {base : Nat} {v : Value} {l : Bytes} (h : Own w base v l) (n : Nat) : Own (w.drewN n) base v l := h

theorem IsB.grown {w w' : World} {a : Option Addr} {m c : Nat} {l : Bytes} {r : Option Nat} (h : IsB w a m c l) (hg : w.grownBy w' r) (hne : ∀ g o, a = some ⟨g, o, none⟩ → r ≠ some g) : IsB w' a m c l :=
  ⟨h.llen, h.lcap, h.lmax, h.cmax, by
    rcases h.at_ with h0 | ⟨g, off, e, hr, hlt⟩
    · exact .inl h0
    · exact .inr ⟨g, off, e, rangeAt_grown hr hg (fun e' => hne g off e e'.symm), Nat.lt_of_lt_of_le hlt hg.size⟩⟩

/-- a slice of bytes that a call has made since the world w0 -/
structure Stg (w0 w : World) (g n cap : Nat) (l : Bytes) : Prop where
  own : Own w w0.heap.size (.slice (some ⟨g, 0, none⟩) n cap) l
  len : l.length = n
  bel : Below w0.heap.size w0 w

theorem Stg.alloc {w0 w : World} {g n cap : Nat} {l : Bytes} (h : Stg w0 w g n cap l) (o : Obj) : Stg w0 (w.alloc o) g n cap l :=
  ⟨h.own.alloc o, h.len, h.bel.alloc h.bel.size o⟩
theorem Stg.drewN {w0 w : World} {g n cap : Nat} {l : Bytes} (h : Stg w0 w g n cap l) (d : Nat) : Stg w0 (w.drewN d) g n cap l :=
  ⟨h.own, h.len, ⟨h.bel.os, h.bel.tape, h.bel.output, h.bel.size, h.bel.block⟩⟩
theorem Stg.below {w0 w w' : World} {g n cap : Nat} {l : Bytes} (h : Stg w0 w g n cap l) (hb : Below w.heap.size w w') : Stg w0 w' g n cap l :=
  ⟨World.ownsRow.kept h.own (grown_of_below hb none) (.inr (by intro e; cases e)), h.len, h.bel.trans (hb.mono h.bel.size)⟩
theorem Stg.from {w0 X w : World} {g n cap : Nat} {l : Bytes} (h : Stg X w g n cap l) (hb : Below w0.heap.size w0 X) : Stg w0 w g n cap l :=
  ⟨⟨h.own.1, by
    rcases h.own.2 with h0 | ⟨g', cap', cur, hv, hg, hr⟩
    · exact .inl h0
    · exact .inr ⟨g', cap', cur, hv, Nat.le_trans hb.size hg, hr⟩⟩, h.len, hb.trans (h.bel.mono hb.size)⟩

end Frk

/- The reference's codec: numeral, unsigned, encode at leaves. -/
namespace Frk
open Go Go.RowKit Go.Proofs
set_option maxRecDepth 100000

/-- a fresh slice of the bytes l -/
def FreshPost (l : Bytes) (w : World) (e : Ending) (w' : World) : Prop := ∃ g n c, e = .returned (.slice (some ⟨g, 0, none⟩) n c) ∧ Seal (Stg w w' g n c l)

end Frk

/- The reference's SHA-256: padded. -/
namespace Frk
open Go Go.RowKit Go.Proofs
set_option maxRecDepth 100000

/-- the first bytes of a number of eight -/
def beP (n j : Nat) : Bytes := (List.range j).map (fun i => beAt n 8 i)
end Frk

/- The examples of signatures, reckoned. -/
namespace Frk
open Go Go.RowKit Go.Proofs
set_option maxRecDepth 100000

def tLetter : Bytes := [108, 101, 116, 116, 101, 114]
end Frk

/- The reference's Mod, Times, Power and Quotient. -/
namespace Frk
open Go Go.RowKit Go.Proofs
set_option maxRecDepth 100000

def pwqn (a n : Nat) : Nat := a ^ n % Q

/-- Q less 2 -/
def eQ : Nat := 1073741787
attribute [irreducible] eQ

/-- the quotient modulo Q -/
def quo (a b : Int) : Nat := lq a * pwqn (lq b) eQ % 1073741789
end Frk

/- The reference's sign: values, Hash. -/
namespace Frk
open Go Go.RowKit Go.Proofs
set_option maxRecDepth 100000

theorem IsB.drew {w : World} {a : Option Addr} {len cap : Nat} {l : Bytes} (h : IsB w a len cap l) : IsB w.drew a len cap l := ⟨h.llen, h.lcap, h.lmax, h.cmax, h.at_⟩

end Frk

/- The reference's Ints. -/
namespace Frk
open Go Go.RowKit Go.Proofs
set_option maxRecDepth 100000

/-- what Ints returns: a list that bears these leaves -/
def IntsPost (xs : List Lf) (k : Nat) (w : World) (e : Ending) (w' : World) : Prop :=
  ∃ g c, e = .returned (.agg #[.int .i64 3, .int .i64 0, .string ByteArray.empty, .slice (some ⟨g, 0, none⟩) k c]) ∧ Seal (k ≤ c ∧ g < w'.heap.size ∧ LeavesAt w' g 0 xs ∧ w'.ownsRow w.heap.size 78 4 (.slice (some ⟨g, 0, none⟩) k c) k (xs.flatMap Lf.cells)) ∧ Below w.heap.size w w'

end Frk

