/- Parts of the proof, joined. -/
import Derived.Test.YtemoomfnmiodeaaDoorVrEnf
import Derived.Test.YtemoomfnmiodeaaDoorVrgDbs
import Derived.Test.YtemoomfnmiodeaaDoorVrAbs
import Derived.Test.YtemoomfnmiodeaaDoorVrTag
import Derived.StillTailTactics
import Derived.Test.YtemoomfnmiodeaaDoorVrgSig
import Derived.Test.YtemoomfnmiodeaaDoorVrgElm
import Derived.Test.YtemoomfnmiodeaaDoorVrRow
import Derived.Test.YtemoomfnmiodeaaDoorProg
import Derived.OrdersIn
import Derived.Deep.RegionHeld
import Derived.Deep.MidRow
/- Appends to slices of bytes that a call has made itself, whatever bytes are appended. -/
namespace Frk
open Go Go.RowKit Go.Proofs
set_option maxRecDepth 100000

theorem Own.cap {w : World} {base g n cap : Nat} {l : Bytes} (h : Own w base (.slice (some ⟨g, 0, none⟩) n cap) l) : n ≤ cap := by
  rcases h.2 with ⟨e, _⟩ | ⟨g', cap', cur, hv, _, _, hle, _⟩
  · cases e
  · cases hv; exact hle

theorem Own.alloc {w : World} {base : Nat} {v : Value} {l : Bytes} (h : Own w base v l) (o : Obj) : Own (w.alloc o) base v l := World.ownsRow.alloc h o
theorem Own.drewN {w : World} {base : Nat} {v : Value} {l : Bytes} (h : Own w base v l) (n : Nat) : Own (w.drewN n) base v l := h

theorem IsB.grown {w w' : World} {a : Option Addr} {m c : Nat} {l : Bytes} {r : Option Nat} (h : IsB w a m c l) (hg : w.grownBy w' r) (hne : ∀ g o, a = some ⟨g, o, none⟩ → r ≠ some g) : IsB w' a m c l :=
  ⟨h.llen, h.lcap, h.lmax, h.cmax, by
    rcases h.at_ with h0 | ⟨g, off, e, hr, hlt⟩
    · exact .inl h0
    · exact .inr ⟨g, off, e, rangeAt_grown hr hg (fun e' => hne g off e e'.symm), Nat.lt_of_lt_of_le hlt hg.size⟩⟩

/-- a slice of bytes that a call has made since the world w0 -/
structure Stg (w0 w : World) (g n cap : Nat) (l : Bytes) : Prop where
  own : Own w w0.heap.size (.slice (some ⟨g, 0, none⟩) n cap) l
  len : l.length = n
  bel : Below w0.heap.size w0 w

theorem Stg.alloc {w0 w : World} {g n cap : Nat} {l : Bytes} (h : Stg w0 w g n cap l) (o : Obj) : Stg w0 (w.alloc o) g n cap l :=
  ⟨h.own.alloc o, h.len, h.bel.alloc h.bel.size o⟩
theorem Stg.drewN {w0 w : World} {g n cap : Nat} {l : Bytes} (h : Stg w0 w g n cap l) (d : Nat) : Stg w0 (w.drewN d) g n cap l :=
  ⟨h.own, h.len, ⟨h.bel.os, h.bel.tape, h.bel.output, h.bel.size, h.bel.block⟩⟩
theorem Stg.below {w0 w w' : World} {g n cap : Nat} {l : Bytes} (h : Stg w0 w g n cap l) (hb : Below w.heap.size w w') : Stg w0 w' g n cap l :=
  ⟨World.ownsRow.kept h.own (grown_of_below hb none) (.inr (by intro e; cases e)), h.len, h.bel.trans (hb.mono h.bel.size)⟩
theorem Stg.from {w0 X w : World} {g n cap : Nat} {l : Bytes} (h : Stg X w g n cap l) (hb : Below w0.heap.size w0 X) : Stg w0 w g n cap l :=
  ⟨⟨h.own.1, by
    rcases h.own.2 with h0 | ⟨g', cap', cur, hv, hg, hr⟩
    · exact .inl h0
    · exact .inr ⟨g', cap', cur, hv, Nat.le_trans hb.size hg, hr⟩⟩, h.len, hb.trans (h.bel.mono hb.size)⟩

end Frk

/- The reference's codec: numeral, unsigned, encode at leaves. -/
namespace Frk
open Go Go.RowKit Go.Proofs
set_option maxRecDepth 100000

/-- a fresh slice of the bytes l -/
def FreshPost (l : Bytes) (w : World) (e : Ending) (w' : World) : Prop := ∃ g n c, e = .returned (.slice (some ⟨g, 0, none⟩) n c) ∧ Seal (Stg w w' g n c l)

end Frk

/- The reference's SHA-256: padded. -/
namespace Frk
open Go Go.RowKit Go.Proofs
set_option maxRecDepth 100000

/-- the first bytes of a number of eight -/
def beP (n j : Nat) : Bytes := (List.range j).map (fun i => beAt n 8 i)
end Frk

/- The reference's sign: values, Hash. -/
namespace Frk
open Go Go.RowKit Go.Proofs
set_option maxRecDepth 100000

theorem IsB.drew {w : World} {a : Option Addr} {len cap : Nat} {l : Bytes} (h : IsB w a len cap l) : IsB w.drew a len cap l := ⟨h.llen, h.lcap, h.lmax, h.cmax, h.at_⟩

end Frk

/- A region in which an operation, number t, waits for all that reads: from it on nothing need hold. -/
namespace Frk
open Go Go.RowKit Go.Proofs
set_option maxRecDepth 100000

section
variable {P : Program} {ops : Array Oper} {Q : Exit → Act → World → Prop} {md : Region.Mode} {S : World → Prop} {t : Nat}

def wpAnyU (P : Program) (md : Region.Mode) (ops : Array Oper) (Q : Exit → Act → World → Prop) (S : World → Prop) (t : Nat) : Nat → Array Bool → Act → World → Prop
  | 0, listed, a, w => Region.ready md ops listed = [] ∧ Q .normal a w
  | fuel + 1, listed, a, w =>
    (Region.ready md ops listed = [] → Q .normal a w) ∧
    ∀ i ∈ Region.ready md ops listed, wpOp P ops Q i (fun a' w' => ((listed.setIfInBounds i true).getD t true = false → S w') ∧ wpAnyU P md ops Q S t fuel (listed.setIfInBounds i true) a' w') a w

end

section
variable {P : Program} {md : Region.Mode} {ops : Array Oper} {Q : Exit → Act → World → Prop} {S : World → Prop} {t : Nat} {dst : Option Tmp} {op : Op} {ty : TypeId} {pos : String} {after : Array Edge} {guard : Option (Nat × Bool)}

end

section
variable {P : Program} {md : Region.Mode} {ops : Array Oper} {Q : Exit → Act → World → Prop} {S S' : World → Prop} {t : Nat} {dst : Option Tmp} {op : Op} {ty : TypeId} {pos : String} {after : Array Edge} {guard : Option (Nat × Bool)}

end

/-- the cells of values, one behind the other -/
def lcs (ls : List Lf) : List Value := ls.flatMap Lf.cells
theorem lcs_len : ∀ ls : List Lf, (lcs ls).length = ls.length * 4
  | [] => rfl
  | x :: ls => by
    have := lcs_len ls
    unfold lcs at this ⊢
    rw [List.flatMap_cons, List.length_append, this, List.length_cons]
    cases x <;> simp [Lf.cells] <;> omega
theorem lcs_snoc (ls : List Lf) (x : Lf) : lcs (ls ++ [x]) = lcs ls ++ x.cells := by unfold lcs; simp

theorem ownsRow_set1 {w : World} {base : Nat} {e : TypeId} {size n g cap i : Nat} {xs : List Value} (u : Value) (h : w.ownsRow base e size (.slice (some ⟨g, 0, none⟩) n cap) n xs) (_hi : i < xs.length) :
    (w.setCell ⟨g, i, none⟩ u).ownsRow base e size (.slice (some ⟨g, 0, none⟩) n cap) n (xs.set i u) := by
  refine ⟨by rw [List.length_set]; exact h.1, .inr ?_⟩
  rcases h.2 with ⟨h0, _⟩ | ⟨g', cap', cur, hv, hb, hg, h1, h2, h3, h4⟩
  · cases h0
  · cases hv
    have hr := heap_setCell_row (cs := cur.toList) (i := i) u (by simpa using hg)
    refine ⟨g, cap, (cur.toList.set i u).toArray, rfl, hb, hr, h1, h2, by simpa using h3, ?_⟩
    simp only [List.take_set, h4]

theorem set_at {α : Type} (l r : List α) (k m : Nat) (v : α) (hk : l.length = k) (_hm : m < r.length) : (l ++ r).set (k + m) v = l ++ r.set m v := by
  rw [List.set_append_right _ _ (by omega)]; congr 2; omega

/-- the four cells of a value, stored -/
def set4 (w : World) (g k : Nat) (a b c d : Value) : World := (((w.setCell ⟨g, k, none⟩ a).setCell ⟨g, k + 1, none⟩ b).setCell ⟨g, k + 2, none⟩ c).setCell ⟨g, k + 3, none⟩ d

theorem ownsRow_set4 {w : World} {base : Nat} {e : TypeId} {n g cap k : Nat} {xs : List Value} {z0 z1 z2 z3 : Value} (a b c d : Value) (h : w.ownsRow base e 4 (.slice (some ⟨g, 0, none⟩) n cap) n (xs ++ [z0, z1, z2, z3])) (hk : xs.length = k) :
    (set4 w g k a b c d).ownsRow base e 4 (.slice (some ⟨g, 0, none⟩) n cap) n (xs ++ [a, b, c, d]) := by
  have h0 := ownsRow_set1 (i := k) a h (by simp [hk])
  have e0 := set_at xs [z0, z1, z2, z3] k 0 a hk (by simp)
  rw [Nat.add_zero] at e0
  rw [e0] at h0
  have h1 := ownsRow_set1 (i := k + 1) b h0 (by simp [hk])
  rw [set_at xs _ k 1 b hk (by simp)] at h1
  have h2 := ownsRow_set1 (i := k + 2) c h1 (by simp [hk])
  rw [set_at xs _ k 2 c hk (by simp)] at h2
  have h3 := ownsRow_set1 (i := k + 3) d h2 (by simp [hk])
  rw [set_at xs _ k 3 d hk (by simp)] at h3
  exact h3

theorem set4_block (w : World) (g k j : Nat) (a b c d : Value) (h : j ≠ g) : (set4 w g k a b c d).heap[j]? = w.heap[j]? := by
  unfold set4
  exact (Below.heap_setCell _ _ _ j h).trans ((Below.heap_setCell _ _ _ j h).trans ((Below.heap_setCell _ _ _ j h).trans (Below.heap_setCell _ _ _ j h)))
theorem set4_below {w0 w : World} {B g : Nat} (h : Below B w0 w) (hg : B ≤ g) (k : Nat) (a b c d : Value) : Below B w0 (set4 w g k a b c d) := by
  unfold set4
  exact (((h.setCell (p := ⟨g, k, none⟩) hg _).setCell (p := ⟨g, k + 1, none⟩) hg _).setCell (p := ⟨g, k + 2, none⟩) hg _).setCell (p := ⟨g, k + 3, none⟩) hg _

/-- a list value that grows in block B -/
structure VL (B : Nat) (w0 : World) (ls : List Lf) (v : Value) (w : World) : Prop where
  row : w.heap[B]? = some (.cells #[.int .i64 3, .int .i64 0, .string ByteArray.empty, v] 131 (0, 0))
  own : w.ownsRow (B + 1) 131 4 v ls.length (lcs ls)
  bel : Below B w0 w

theorem VL.ne {B : Nat} {w0 : World} {ls : List Lf} {v : Value} {w : World} (h : VL B w0 ls v w) : some B ≠ v.ownBlock := fun e => by have := (h.own.lt _ e.symm).1; omega
theorem VL.drew {B : Nat} {w0 : World} {ls : List Lf} {v : Value} {w : World} (h : VL B w0 ls v w) : VL B w0 ls v w.drew :=
  ⟨h.row, ⟨h.own.1, h.own.2⟩, ⟨h.bel.os, h.bel.tape, h.bel.output, h.bel.size, h.bel.block⟩⟩

theorem VL.form {B : Nat} {w0 : World} {ls : List Lf} {v : Value} {w : World} (h : VL B w0 ls v w) : ∃ a cap, v = .slice a ls.length cap := by
  rcases h.own.2 with ⟨rfl, h0⟩ | ⟨g, cap, _, rfl, _⟩
  · exact ⟨none, 0, by rw [h0]⟩
  · exact ⟨_, cap, rfl⟩

/-- the world behind an append of one value, in either order of the stores -/
theorem VL.next {B : Nat} {w0 w w1 : World} {ls : List Lf} {v z0 z1 z2 z3 : Value} {o : Obj} {g1 cap1 : Nat} {x : Lf} {a b c d : Value} (h : VL B w0 ls v w) (hBw : B < w.heap.size)
    (hg : (w.alloc o).grownBy w1 v.ownBlock) (hown : w1.ownsRow (B + 1) 131 4 (.slice (some ⟨g1, 0, none⟩) (ls.length + 1) cap1) (ls.length + 1) (lcs ls ++ [z0, z1, z2, z3])) (hx : x.cells = [a, b, c, d]) :
    VL B w0 (ls ++ [x]) (.slice (some ⟨g1, 0, none⟩) (ls.length + 1) cap1) ((set4 w1 g1 (ls.length * 4) a b c d).setCell ⟨B, 3, none⟩ (.slice (some ⟨g1, 0, none⟩) (ls.length + 1) cap1)) ∧
    VL B w0 (ls ++ [x]) (.slice (some ⟨g1, 0, none⟩) (ls.length + 1) cap1) (set4 (w1.setCell ⟨B, 3, none⟩ (.slice (some ⟨g1, 0, none⟩) (ls.length + 1) cap1)) g1 (ls.length * 4) a b c d) := by
  have hr1 : w1.heap[B]? = some (.cells #[.int .i64 3, .int .i64 0, .string ByteArray.empty, v] 131 (0, 0)) := (hg.block _ (by rw [size_alloc]; omega) h.ne).trans ((Below.heap_alloc w _ _ hBw).trans h.row)
  have hb1 : Below B w0 w1 := by
    have h1 : Below B (w.alloc o) w1 := ⟨hg.os, hg.tape, hg.output, hg.size, fun k hk => hg.block k (by rw [size_alloc]; omega) (fun e => by have := (h.own.lt k e.symm).1; omega)⟩
    exact (h.bel.alloc (by omega) o).trans h1
  have hgB : B + 1 ≤ g1 := (hown.lt g1 rfl).1
  have hne : B ≠ g1 := by omega
  have hlen : (ls ++ [x]).length = ls.length + 1 := by simp
  have hkeep : ∀ (W : World) (ys : List Value), W.ownsRow (B + 1) 131 4 (.slice (some ⟨g1, 0, none⟩) (ls.length + 1) cap1) (ls.length + 1) ys → (W.setCell ⟨B, 3, none⟩ (.slice (some ⟨g1, 0, none⟩) (ls.length + 1) cap1)).ownsRow (B + 1) 131 4 (.slice (some ⟨g1, 0, none⟩) (ls.length + 1) cap1) (ls.length + 1) ys := fun W ys hW =>
    hW.kept (row := some B) (grown_setCell (grown_of_below (Below.refl _ W) _) _ _) (.inr fun e => hne (by simpa [Value.ownBlock] using e.symm))
  constructor
  · refine ⟨?_, ?_, ?_⟩
    · exact heap_setCell_row (cs := [.int .i64 3, .int .i64 0, .string ByteArray.empty, v]) _ ((set4_block w1 g1 _ B a b c d hne).trans hr1)
    · rw [hlen, lcs_snoc, hx]
      exact hkeep _ _ (ownsRow_set4 a b c d hown (lcs_len ls))
    · exact (set4_below hb1 (by omega) _ a b c d).setCell (p := ⟨B, 3, none⟩) (Nat.le_refl _) _
  · refine ⟨?_, ?_, ?_⟩
    · exact (set4_block _ g1 _ B a b c d hne).trans (heap_setCell_row (cs := [.int .i64 3, .int .i64 0, .string ByteArray.empty, v]) _ hr1)
    · rw [hlen, lcs_snoc, hx]
      exact ownsRow_set4 a b c d (hkeep _ _ hown) (lcs_len ls)
    · exact set4_below (hb1.setCell (p := ⟨B, 3, none⟩) (Nat.le_refl _) _) (by omega) _ a b c d

/-- the integers behind which the loop stands -/
def HtxRel (B g off k : Nat) (ns : List Int) (ls : List Lf) (w0 : World) (i : Value) (w : World) : Prop :=
  ∃ (j : Nat) (v : Value), j ≤ k ∧ i = .int .i64 j ∧ Seal (VL B w0 (ls ++ lfs (ns.take j)) v w ∧ B < w.heap.size) ∧ Seal (v.ownBlock ≠ some g ∧ g < w.heap.size ∧ ∀ j n, ns[j]? = some n → w.cell? ⟨g, off + j, none⟩ = some (.int .i64 n))


/-- what text is called with -/
inductive HA where
  | i (n : Int)
  | r (a b c : Int)
  | ci (a b : Int)
  | t (T : Bytes)
def HA.lfs : HA → List Lf
  | .i n => [.i n]
  | .r a b c => [.i a, .i b, .i c]
  | .ci a b => [.i a, .i b]
  | .t T => [.t T]
def HA.ok : HA → Prop
  | .t T => T.length = 32
  | _ => True

theorem VL.alloc {B : Nat} {w0 : World} {ls : List Lf} {v : Value} {w : World} (h : VL B w0 ls v w) (hB : B < w.heap.size) (o : Obj) : VL B w0 ls v (w.alloc o) :=
  ⟨(Below.heap_alloc w _ _ hB).trans h.row, h.own.alloc _, h.bel.alloc (by omega) _⟩

def HtyRel (xs : List HA) (w0 : World) (i : Value) (w : World) : Prop :=
  ∃ (j : Nat) (v : Value), j ≤ xs.length ∧ i = .int .i64 j ∧ Seal (VL w0.heap.size w0 ((xs.take j).flatMap HA.lfs) v w ∧ w0.heap.size < w.heap.size)

end Frk

