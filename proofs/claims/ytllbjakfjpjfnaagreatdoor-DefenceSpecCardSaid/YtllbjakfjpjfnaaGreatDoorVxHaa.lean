/- A region in which an operation, number t, waits for all that reads: from it on nothing need hold. -/
import Derived.Test.YtllbjakfjpjfnaaGreatDoorVxRow
import Derived.Test.YtllbjakfjpjfnaaGreatDoorProg
import Derived.OrdersIn
import Derived.Deep.RegionHeld
import Derived.Deep.MidRow
import Derived.Test.YtllbjakfjpjfnaaGreatDoorVxgGen
import Derived.Test.YtllbjakfjpjfnaaGreatDoorVxgEqd
import Derived.Test.YtllbjakfjpjfnaaGreatDoorVxgRsg
namespace Frk
open Go Go.RowKit Go.Proofs
set_option maxRecDepth 100000

section
variable {P : Program} {ops : Array Oper} {Q : Exit → Act → World → Prop} {md : Region.Mode} {S : World → Prop} {t : Nat}

def wpAnyU (P : Program) (md : Region.Mode) (ops : Array Oper) (Q : Exit → Act → World → Prop) (S : World → Prop) (t : Nat) : Nat → Array Bool → Act → World → Prop
  | 0, listed, a, w => Region.ready md ops listed = [] ∧ Q .normal a w
  | fuel + 1, listed, a, w =>
    (Region.ready md ops listed = [] → Q .normal a w) ∧
    ∀ i ∈ Region.ready md ops listed, wpOp P ops Q i (fun a' w' => ((listed.setIfInBounds i true).getD t true = false → S w') ∧ wpAnyU P md ops Q S t fuel (listed.setIfInBounds i true) a' w') a w

theorem any_of_U : ∀ (fuel : Nat) (listed : Array Bool) (a : Act) (w : World), wpAnyU P md ops Q S t fuel listed a w → wpAny P md ops Q fuel listed a w
  | 0, _, _, _, h => h
  | fuel + 1, _, _, _, h => ⟨h.1, fun i hi => wpOp_mono (fun a' w' h' => any_of_U fuel _ a' w' h'.2) (h.2 i hi)⟩

theorem anyU_first {i : Nat} {oi : Oper} {v : Value} (hi : ops[i]? = some oi) (hsel : ∀ (j : Nat) (o : Oper) cs b, ops[j]? = some o → o.op ≠ .select cs b)
    (hQ : ∀ c a w, Q (.panic c) (a.put oi.dst v) w → Q (.panic c) a w) (hwt : waitsFor md ops t i = true) :
    ∀ (fuel : Nat) (listed : Array Bool) (a : Act) (w : World), listed.getD t true = false →
      (∀ j oj, ops[j]? = some oj → j ≠ i → listed.getD j true = false → (∀ e ∈ oj.after, Region.binds md e = true → e.on ≠ i) → oi.apart ops oj = true) →
      i ∈ Region.ready md ops listed → YieldsIf P ops S oi v a → S w →
      wpAnyU P md ops Q S t fuel (listed.setIfInBounds i true) (a.put oi.dst v) w → wpAnyU P md ops Q S t (fuel + 1) listed a w := by
  intro fuel
  induction fuel with
  | zero =>
    intro listed a w _ _ hr hy hS H
    refine ⟨fun h => (by rw [h] at hr; cases hr), fun j hj => ?_⟩
    by_cases hji : j = i
    · subst hji; exact hy.wpOp hi hS ⟨fun _ => hS, H⟩
    · have := ready_mono hj hji
      rw [H.1] at this
      cases this
  | succ fuel ih =>
    intro listed a w ht hfree hr hy hS H
    refine ⟨fun h => (by rw [h] at hr; cases hr), fun j hj => ?_⟩
    by_cases hji : j = i
    · subst hji; exact hy.wpOp hi hS ⟨fun _ => hS, H⟩
    · have h1 := H.2 j (ready_mono hj hji)
      obtain ⟨hjun, oj, hoj, hall⟩ := mem_ready.1 hj
      have hnot : ∀ e ∈ oj.after, Region.binds md e = true → e.on ≠ i := fun e he hb heq => by
        have h1 := hall e he hb
        have h0 := (mem_ready.1 hr).1
        rw [heq] at h1
        rcases Nat.lt_or_ge i listed.size with h' | h'
        · simp [h'] at h0 h1; rw [h0] at h1; cases h1
        · simp [Array.getElem?_eq_none h'] at h1
      have hjt : j ≠ t := fun e => by
        subst e
        unfold waitsFor at hwt
        rw [hoj] at hwt
        simp only [Bool.and_eq_true] at hwt
        obtain ⟨e, he, hb⟩ := Array.any_eq_true'.1 hwt.2
        simp only [Bool.and_eq_true, beq_iff_eq] at hb
        exact hnot e he hb.1 hb.2
      have h2 := wpOp_putIf hoj (hfree j oj hoj hji hjun hnot) (fun cs b => hsel i oi cs b hi) (fun cs b => hsel j oj cs b hoj) hQ hy h1
      have hfree' : ∀ k ok, ops[k]? = some ok → k ≠ i → (listed.setIfInBounds j true).getD k true = false →
          (∀ e ∈ ok.after, Region.binds md e = true → e.on ≠ i) → oi.apart ops ok = true := fun k ok hk hki hun hno => by
        refine hfree k ok hk hki ?_ hno
        by_cases hjk : j = k
        · subst hjk; exact hjun
        · rw [getD_set_ne true hjk] at hun; exact hun
      have hit : i ≠ t := fun e => by
        subst e
        unfold waitsFor at hwt
        simp at hwt
      have hset : ((listed.setIfInBounds i true).setIfInBounds j true).getD t true = false := by
        rw [getD_set_ne true hjt, getD_set_ne true hit]; exact ht
      refine wpOp_mono (fun a' w' h3 => ⟨fun _ => h3.2.1 hset, ih (listed.setIfInBounds j true) a' w' (by rw [getD_set_ne true hjt]; exact ht) hfree' (ready_mono hr (Ne.symm hji)) h3.1 (h3.2.1 hset) ?_⟩) h2
      rw [Array.setIfInBounds_comm _ _ hji]
      exact h3.2.2
end

section
variable {P : Program} {md : Region.Mode} {ops : Array Oper} {Q : Exit → Act → World → Prop} {S : World → Prop} {t : Nat} {dst : Option Tmp} {op : Op} {ty : TypeId} {pos : String} {after : Array Edge} {guard : Option (Nat × Bool)}

theorem take_u (i : Nat) (v : Value) {fuel : Nat} {listed : Array Bool} {a : Act} {w : World}
    (hi : ops[i]? = some { dst := dst, op := op, type := ty, pos := pos, after := after, guard := guard }) (hs : Region.noSelect ops = true) (hf : Region.free md ops listed i = true) (hr : (Region.ready md ops listed).contains i = true) (hwt : waitsFor md ops t i = true) (ht : listed.getD t true = false)
    (hQ : ∀ c a w, Q (.panic c) (a.put dst v) w → Q (.panic c) a w) (hy : YieldsIf P ops S { dst := dst, op := op, type := ty, pos := pos, after := after, guard := guard } v a) (hS : S w)
    (h : wpAnyU P md ops Q S t fuel (listed.setIfInBounds i true) (a.put dst v) w) : wpAnyU P md ops Q S t (fuel + 1) listed a w :=
  anyU_first hi (Region.noSelect_spec hs) hQ hwt fuel listed a w ht (Region.free_spec hi hf) (by simpa using hr) hy hS h

theorem readyU_one {i : Nat} {fuel : Nat} {listed : Array Bool} {a : Act} {w : World} (hr : Region.ready md ops listed = [i]) (h : wpOp P ops Q i (fun a' w' => ((listed.setIfInBounds i true).getD t true = false → S w') ∧ wpAnyU P md ops Q S t fuel (listed.setIfInBounds i true) a' w') a w) : wpAnyU P md ops Q S t (fuel + 1) listed a w :=
  ⟨fun h0 => (by rw [hr] at h0; cases h0), fun j hj => (by rw [hr] at hj; obtain rfl : j = i := (by simpa using hj); exact h)⟩

theorem wp_region_heldU (t : Nat) {id : Nat} {a : Act} {w : World} (hm : P.follows .mixedOrders = true) (hS : S w.drew)
    (h : S w.drew → wpAnyU P .any ops Q S t ops.size (Array.replicate ops.size false) a w.drew) : (Code.region id ops true).wp P Q a w :=
  wp_region_any hm (any_of_U _ _ _ _ (h hS))
end

section
variable {P : Program} {md : Region.Mode} {ops : Array Oper} {Q : Exit → Act → World → Prop} {S S' : World → Prop} {t : Nat} {dst : Option Tmp} {op : Op} {ty : TypeId} {pos : String} {after : Array Edge} {guard : Option (Nat × Bool)}

/-- behind number t another word may be kept -/
theorem anyU_of_H : ∀ (fuel : Nat) (listed : Array Bool) (a : Act) (w : World), listed.getD t true = true → wpAnyH P md ops Q S' fuel listed a w → wpAnyU P md ops Q S t fuel listed a w
  | 0, _, _, _, _, h => h
  | fuel + 1, listed, a, w, ht, h => ⟨h.1, fun i hi => wpOp_mono (fun a' w' h' => by
      have hs : (listed.setIfInBounds i true).getD t true = true := by
        by_cases hit : i = t
        · subst hit
          rcases Nat.lt_or_ge i listed.size with h1 | h1
          · simp [h1]
          · simp [h1]
        · rw [getD_set_ne true hit]; exact ht
      exact ⟨fun hf => (by rw [hs] at hf; cases hf), anyU_of_H fuel _ a' w' hs h'.2⟩) (h.2 i hi)⟩

/-- an operation that yields a value and may make memory -/
theorem oper_u (i : Nat) {fuel : Nat} {listed : Array Bool} {a : Act} {w : World} (v : Value) (w' : World)
    (hi : ops[i]? = some { dst := dst, op := op, type := ty, pos := pos, after := after, guard := guard }) (hr : Region.ready md ops listed = [i])
    (hw : Region.wanted { dst := dst, op := op, type := ty, pos := pos, after := after, guard := guard } (yielded ops a.tmps) = true)
    (hrun : (execOp a.eval { dst := dst, op := op, type := ty, pos := pos, after := after, guard := guard }).run P w = .ok (.value v) w')
    (hS : (listed.setIfInBounds i true).getD t true = false → S w') (hn : wpAnyU P md ops Q S t fuel (listed.setIfInBounds i true) (a.put dst v) w') : wpAnyU P md ops Q S t (fuel + 1) listed a w :=
  readyU_one hr (wpOp_step hi (fun K hK => by
    rw [if_pos hw]
    unfold Oper.wp
    rw [hrun]
    exact hK _ _ ⟨hS, hn⟩))

/-- a store, beside which others may come up -/
theorem skip_b (i : Nat) {fuel : Nat} {listed : Array Bool} {a : Act} {w : World} {rs : List Nat} (w' : World)
    (hi : ops[i]? = some { dst := dst, op := op, type := ty, pos := pos, after := after, guard := guard })
    (hw : Region.wanted { dst := dst, op := op, type := ty, pos := pos, after := after, guard := guard } (yielded ops a.tmps) = true)
    (hrun : (execOp a.eval { dst := dst, op := op, type := ty, pos := pos, after := after, guard := guard }).run P w = .ok .skip w')
    (hS : S w') (hn : S w' → wpAnyH P md ops Q S fuel (listed.setIfInBounds i true) (a.put dst undef) w')
    (hs : AllReadyH P md ops Q S fuel listed a w rs) : AllReadyH P md ops Q S fuel listed a w (i :: rs) :=
  AllReadyH.cons hi (fun K hK => by
    rw [if_pos hw]
    unfold Oper.wp
    rw [hrun]
    exact hK.out _ _ hS hn) hs
end

/-- the cells of values, one behind the other -/
def lcs (ls : List Lf) : List Value := ls.flatMap Lf.cells
theorem lcs_len : ∀ ls : List Lf, (lcs ls).length = ls.length * 4
  | [] => rfl
  | x :: ls => by
    have := lcs_len ls
    unfold lcs at this ⊢
    rw [List.flatMap_cons, List.length_append, this, List.length_cons]
    cases x <;> simp [Lf.cells] <;> omega
theorem lcs_snoc (ls : List Lf) (x : Lf) : lcs (ls ++ [x]) = lcs ls ++ x.cells := by unfold lcs; simp

theorem ownsRow_set1 {w : World} {base : Nat} {e : TypeId} {size n g cap i : Nat} {xs : List Value} (u : Value) (h : w.ownsRow base e size (.slice (some ⟨g, 0, none⟩) n cap) n xs) (_hi : i < xs.length) :
    (w.setCell ⟨g, i, none⟩ u).ownsRow base e size (.slice (some ⟨g, 0, none⟩) n cap) n (xs.set i u) := by
  refine ⟨by rw [List.length_set]; exact h.1, .inr ?_⟩
  rcases h.2 with ⟨h0, _⟩ | ⟨g', cap', cur, hv, hb, hg, h1, h2, h3, h4⟩
  · cases h0
  · cases hv
    have hr := heap_setCell_row (cs := cur.toList) (i := i) u (by simpa using hg)
    refine ⟨g, cap, (cur.toList.set i u).toArray, rfl, hb, hr, h1, h2, by simpa using h3, ?_⟩
    simp only [List.take_set, h4]

theorem set_at {α : Type} (l r : List α) (k m : Nat) (v : α) (hk : l.length = k) (_hm : m < r.length) : (l ++ r).set (k + m) v = l ++ r.set m v := by
  rw [List.set_append_right _ _ (by omega)]; congr 2; omega

/-- the four cells of a value, stored -/
def set4 (w : World) (g k : Nat) (a b c d : Value) : World := (((w.setCell ⟨g, k, none⟩ a).setCell ⟨g, k + 1, none⟩ b).setCell ⟨g, k + 2, none⟩ c).setCell ⟨g, k + 3, none⟩ d

theorem ownsRow_set4 {w : World} {base : Nat} {e : TypeId} {n g cap k : Nat} {xs : List Value} {z0 z1 z2 z3 : Value} (a b c d : Value) (h : w.ownsRow base e 4 (.slice (some ⟨g, 0, none⟩) n cap) n (xs ++ [z0, z1, z2, z3])) (hk : xs.length = k) :
    (set4 w g k a b c d).ownsRow base e 4 (.slice (some ⟨g, 0, none⟩) n cap) n (xs ++ [a, b, c, d]) := by
  have h0 := ownsRow_set1 (i := k) a h (by simp [hk])
  have e0 := set_at xs [z0, z1, z2, z3] k 0 a hk (by simp)
  rw [Nat.add_zero] at e0
  rw [e0] at h0
  have h1 := ownsRow_set1 (i := k + 1) b h0 (by simp [hk])
  rw [set_at xs _ k 1 b hk (by simp)] at h1
  have h2 := ownsRow_set1 (i := k + 2) c h1 (by simp [hk])
  rw [set_at xs _ k 2 c hk (by simp)] at h2
  have h3 := ownsRow_set1 (i := k + 3) d h2 (by simp [hk])
  rw [set_at xs _ k 3 d hk (by simp)] at h3
  exact h3

theorem set4_block (w : World) (g k j : Nat) (a b c d : Value) (h : j ≠ g) : (set4 w g k a b c d).heap[j]? = w.heap[j]? := by
  unfold set4
  exact (Below.heap_setCell _ _ _ j h).trans ((Below.heap_setCell _ _ _ j h).trans ((Below.heap_setCell _ _ _ j h).trans (Below.heap_setCell _ _ _ j h)))
theorem set4_below {w0 w : World} {B g : Nat} (h : Below B w0 w) (hg : B ≤ g) (k : Nat) (a b c d : Value) : Below B w0 (set4 w g k a b c d) := by
  unfold set4
  exact (((h.setCell (p := ⟨g, k, none⟩) hg _).setCell (p := ⟨g, k + 1, none⟩) hg _).setCell (p := ⟨g, k + 2, none⟩) hg _).setCell (p := ⟨g, k + 3, none⟩) hg _

/-- a list value that grows in block B -/
structure VL (B : Nat) (w0 : World) (ls : List Lf) (v : Value) (w : World) : Prop where
  row : w.heap[B]? = some (.cells #[.int .i64 3, .int .i64 0, .string ByteArray.empty, v] 51 (0, 0))
  own : w.ownsRow (B + 1) 51 4 v ls.length (lcs ls)
  bel : Below B w0 w

theorem VL.ne {B : Nat} {w0 : World} {ls : List Lf} {v : Value} {w : World} (h : VL B w0 ls v w) : some B ≠ v.ownBlock := fun e => by have := (h.own.lt _ e.symm).1; omega
theorem VL.drew {B : Nat} {w0 : World} {ls : List Lf} {v : Value} {w : World} (h : VL B w0 ls v w) : VL B w0 ls v w.drew :=
  ⟨h.row, ⟨h.own.1, h.own.2⟩, ⟨h.bel.os, h.bel.tape, h.bel.output, h.bel.size, h.bel.block⟩⟩

theorem VL.form {B : Nat} {w0 : World} {ls : List Lf} {v : Value} {w : World} (h : VL B w0 ls v w) : ∃ a cap, v = .slice a ls.length cap := by
  rcases h.own.2 with ⟨rfl, h0⟩ | ⟨g, cap, _, rfl, _⟩
  · exact ⟨none, 0, by rw [h0]⟩
  · exact ⟨_, cap, rfl⟩

/-- the world behind an append of one value, in either order of the stores -/
theorem VL.next {B : Nat} {w0 w w1 : World} {ls : List Lf} {v z0 z1 z2 z3 : Value} {o : Obj} {g1 cap1 : Nat} {x : Lf} {a b c d : Value} (h : VL B w0 ls v w) (hBw : B < w.heap.size)
    (hg : (w.alloc o).grownBy w1 v.ownBlock) (hown : w1.ownsRow (B + 1) 51 4 (.slice (some ⟨g1, 0, none⟩) (ls.length + 1) cap1) (ls.length + 1) (lcs ls ++ [z0, z1, z2, z3])) (hx : x.cells = [a, b, c, d]) :
    VL B w0 (ls ++ [x]) (.slice (some ⟨g1, 0, none⟩) (ls.length + 1) cap1) ((set4 w1 g1 (ls.length * 4) a b c d).setCell ⟨B, 3, none⟩ (.slice (some ⟨g1, 0, none⟩) (ls.length + 1) cap1)) ∧
    VL B w0 (ls ++ [x]) (.slice (some ⟨g1, 0, none⟩) (ls.length + 1) cap1) (set4 (w1.setCell ⟨B, 3, none⟩ (.slice (some ⟨g1, 0, none⟩) (ls.length + 1) cap1)) g1 (ls.length * 4) a b c d) := by
  have hr1 : w1.heap[B]? = some (.cells #[.int .i64 3, .int .i64 0, .string ByteArray.empty, v] 51 (0, 0)) := (hg.block _ (by rw [size_alloc]; omega) h.ne).trans ((Below.heap_alloc w _ _ hBw).trans h.row)
  have hb1 : Below B w0 w1 := by
    have h1 : Below B (w.alloc o) w1 := ⟨hg.os, hg.tape, hg.output, hg.size, fun k hk => hg.block k (by rw [size_alloc]; omega) (fun e => by have := (h.own.lt k e.symm).1; omega)⟩
    exact (h.bel.alloc (by omega) o).trans h1
  have hgB : B + 1 ≤ g1 := (hown.lt g1 rfl).1
  have hne : B ≠ g1 := by omega
  have hlen : (ls ++ [x]).length = ls.length + 1 := by simp
  have hkeep : ∀ (W : World) (ys : List Value), W.ownsRow (B + 1) 51 4 (.slice (some ⟨g1, 0, none⟩) (ls.length + 1) cap1) (ls.length + 1) ys → (W.setCell ⟨B, 3, none⟩ (.slice (some ⟨g1, 0, none⟩) (ls.length + 1) cap1)).ownsRow (B + 1) 51 4 (.slice (some ⟨g1, 0, none⟩) (ls.length + 1) cap1) (ls.length + 1) ys := fun W ys hW =>
    hW.kept (row := some B) (grown_setCell (grown_of_below (Below.refl _ W) _) _ _) (.inr fun e => hne (by simpa [Value.ownBlock] using e.symm))
  constructor
  · refine ⟨?_, ?_, ?_⟩
    · exact heap_setCell_row (cs := [.int .i64 3, .int .i64 0, .string ByteArray.empty, v]) _ ((set4_block w1 g1 _ B a b c d hne).trans hr1)
    · rw [hlen, lcs_snoc, hx]
      exact hkeep _ _ (ownsRow_set4 a b c d hown (lcs_len ls))
    · exact (set4_below hb1 (by omega) _ a b c d).setCell (p := ⟨B, 3, none⟩) (Nat.le_refl _) _
  · refine ⟨?_, ?_, ?_⟩
    · exact (set4_block _ g1 _ B a b c d hne).trans (heap_setCell_row (cs := [.int .i64 3, .int .i64 0, .string ByteArray.empty, v]) _ hr1)
    · rw [hlen, lcs_snoc, hx]
      exact ownsRow_set4 a b c d (hkeep _ _ hown) (lcs_len ls)
    · exact set4_below (hb1.setCell (p := ⟨B, 3, none⟩) (Nat.le_refl _) _) (by omega) _ a b c d

/-- what a round needs to store into the new row: the cells are there, and free -/
theorem own_cells {w : World} {base : Nat} {e : TypeId} {n g cap k : Nat} {xs : List Value} {z0 z1 z2 z3 : Value} (h : w.ownsRow base e 4 (.slice (some ⟨g, 0, none⟩) n cap) n (xs ++ [z0, z1, z2, z3])) (hk : xs.length = k) :
    (w.cell? ⟨g, k, none⟩ = some z0 ∧ w.cell? ⟨g, k + 1, none⟩ = some z1 ∧ w.cell? ⟨g, k + 2, none⟩ = some z2 ∧ w.cell? ⟨g, k + 3, none⟩ = some z3) ∧ (∀ i, w.frozen? ⟨g, i, none⟩ = false) := by
  have hc := h.cells (g := g) rfl
  have at_ : ∀ m (z : Value), [z0, z1, z2, z3][m]? = some z → w.cell? ⟨g, k + m, none⟩ = some z := fun m z hz => by
    have := hc (k + m) z (by rw [List.getElem?_append_right (by omega), hk, Nat.add_sub_cancel_left]; exact hz)
    rwa [Addr.add_mid, Nat.zero_add] at this
  refine ⟨⟨at_ 0 z0 rfl, at_ 1 z1 rfl, at_ 2 z2 rfl, at_ 3 z3 rfl⟩, fun i => ?_⟩
  rcases h.2 with ⟨h0, _⟩ | ⟨g', cap', cur, hv, _, hg, _⟩
  · cases h0
  · cases hv
    exact frozen_of_row _ _ _ _ _ hg

/-- the integers behind which the loop stands -/
def HtxRel (B g off k : Nat) (ns : List Int) (ls : List Lf) (w0 : World) (i : Value) (w : World) : Prop :=
  ∃ (j : Nat) (v : Value), j ≤ k ∧ i = .int .i64 j ∧ Seal (VL B w0 (ls ++ lfs (ns.take j)) v w ∧ B < w.heap.size) ∧ Seal (v.ownBlock ≠ some g ∧ g < w.heap.size ∧ ∀ j n, ns[j]? = some n → w.cell? ⟨g, off + j, none⟩ = some (.int .i64 n))


set_option maxHeartbeats 2000000 in
theorem htext1_any (g off k cap B : Nat) (ns : List Int) (ls : List Lf) (w0 w : World) (v0 : Value) (hk : ns.length = k) (hk9 : ls.length + k ≤ 1000) (hV : VL B w0 ls v0 w) (hB : B < w.heap.size)
    (hg : v0.ownBlock ≠ some g ∧ g < w.heap.size ∧ ∀ j n, ns[j]? = some n → w.cell? ⟨g, off + j, none⟩ = some (.int .i64 n)) (hgB : g ≠ B) :
    Calls Tryz.prog 91 #[.slice (some ⟨g, off, none⟩) k cap, .pointer (some ⟨B, 0, none⟩)] w fun e w' => e = .returned (.tuple #[]) ∧ ∃ v, Seal (VL B w0 (ls ++ lfs ns) v w' ∧ B < w'.heap.size) := by
  have HK := Seal.mk hk
  obtain ⟨i0, hi, hz0, hz1, hz2⟩ := info_parts info_val
  have HI := Seal.mk (And.intro hi (And.intro hz0 (And.intro hz1 hz2)))
  have H0 : Seal (VL B w0 (ls ++ lfs (ns.take 0)) v0 w ∧ B < w.heap.size) := ⟨by simpa [lfs] using hV, hB⟩
  have HG0 := Seal.mk hg
  have HGB := Seal.mk hgB
  clear hk hi hz0 hz1 hz2 hV hB hg hgB
  go_enter Tryz.func91, Tryz.ntmps91
  go_wp2
  go_loopw [7] (fun i wr => HtxRel B g off k ns ls w0 i wr) (fun i _ => k - (intOf i).toNat)
  case atStart => exact ⟨0, v0, Nat.zero_le _, rfl, H0, HG0⟩
  case round =>
    obtain ⟨j, v, hj, rfl, HV, HG⟩ := hrel
    by_cases hlt : j < k
    · obtain ⟨n, hn⟩ : ∃ n, ns[j]? = some n := ⟨_, List.getElem?_eq_getElem (by rw [HK.out]; exact hlt)⟩
      have hcx := HG.out.2.2 j n hn
      have q1 : (j : Int) < (k : Int) := by omega
      have q2 : (0 : Int) ≤ (j : Int) := by omega
      obtain ⟨m, hm⟩ : ∃ m, m = ls ++ lfs (ns.take j) := ⟨_, rfl⟩
      have HT : Seal (ls ++ lfs (ns.take (j + 1)) = m ++ [.i n]) := ⟨by
        rw [hm, List.take_add_one, hn]
        simp [lfs]⟩
      have HM : Seal (m.length = ls.length + j) := ⟨by rw [hm]; simp [lfs, HK.out]; omega⟩
      rw [← hm] at HV
      clear hm hn
      obtain ⟨a0, c0, rfl⟩ := HV.out.1.form
      have cV : wr.cell? ⟨B, 3, none⟩ = some (.slice a0 (m).length c0) := by rw [cell_of_row _ _ _ _ _ _ HV.out.1.row]; rfl
      go_upto_region 3 with (fail)
      have HVd : Seal (VL B w0 m (.slice a0 m.length c0) wr.drew ∧ B < wr.drew.heap.size) := ⟨HV.out.1.drew, HV.out.2⟩
      have HBd : Seal (g < wr.drew.heap.size ∧ ∀ j n, ns[j]? = some n → wr.drew.cell? ⟨g, off + j, none⟩ = some (.int .i64 n)) := ⟨HG.out.2⟩
      refine wp_region_heldU 6 (S := fun w' => w'.cell? ⟨B, 3, none⟩ = some (.slice a0 m.length c0)) (by kernel_rfl) cV (fun hHeld => ?_)
      clear hcx cV HV
      refine take_u 0 ?_ rfl (by kernel_rfl) (by kernel_rfl) (by kernel_rfl) (by kernel_rfl) (by kernel_rfl) (fun _ _ _ h => h) (Or.inl ⟨by kernel_rfl, ?_⟩) (by assumption) ?_
      rotate_left
      · (intro w hSw; (try dsimp only at hSw); go_simp; try (with_reducible rfl))
      try simp only [Act.put, List.setIfInBounds_toArray, List.set_cons_zero, List.set_cons_succ]
      refine take_u 1 ?_ rfl (by kernel_rfl) (by kernel_rfl) (by kernel_rfl) (by kernel_rfl) (by kernel_rfl) (fun _ _ _ h => h) (Or.inl ⟨by kernel_rfl, ?_⟩) (by assumption) ?_
      rotate_left
      · (intro w hSw; (try dsimp only at hSw); go_simp; try (with_reducible rfl))
      try simp only [Act.put, List.setIfInBounds_toArray, List.set_cons_zero, List.set_cons_succ]
      refine take_u 2 ?_ rfl (by kernel_rfl) (by kernel_rfl) (by kernel_rfl) (by kernel_rfl) (by kernel_rfl) (fun _ _ _ h => h) (Or.inl ⟨by kernel_rfl, ?_⟩) (by assumption) ?_
      rotate_left
      · (intro w hSw; (try dsimp only at hSw); go_simp; try (with_reducible rfl))
      try simp only [Act.put, List.setIfInBounds_toArray, List.set_cons_zero, List.set_cons_succ]
      refine take_u 3 ?_ rfl (by kernel_rfl) (by kernel_rfl) (by kernel_rfl) (by kernel_rfl) (by kernel_rfl) (fun _ _ _ h => h) (Or.inl ⟨by kernel_rfl, ?_⟩) (by assumption) ?_
      rotate_left
      · (intro w hSw; (try dsimp only at hSw); go_simp; try (with_reducible rfl))
      try simp only [Act.put, List.setIfInBounds_toArray, List.set_cons_zero, List.set_cons_succ]
      refine take_u 4 ?_ rfl (by kernel_rfl) (by kernel_rfl) (by kernel_rfl) (by kernel_rfl) (by kernel_rfl) (fun _ _ _ h => h) (Or.inl ⟨by kernel_rfl, ?_⟩) (by assumption) ?_
      rotate_left
      · (intro w hSw; (try dsimp only at hSw); go_simp; try (with_reducible rfl))
      try simp only [Act.put, List.setIfInBounds_toArray, List.set_cons_zero, List.set_cons_succ]
      obtain ⟨V, hV⟩ : ∃ V, V = wr.drew := ⟨_, rfl⟩
      rw [← hV] at hHeld HVd HBd ⊢
      clear hV
      refine oper_u 5 (.slice (some ⟨V.heap.size, 0, none⟩) 1 1) (V.alloc (.cells #[.int .i64 0, .int .i64 0, .string ByteArray.empty, .slice none 0 0] 51)) rfl (by kernel_rfl) (by kernel_rfl) (by go_simp; rfl) (fun _ => cell_allocd hHeld _) ?_
      try simp only [Act.put, List.setIfInBounds_toArray, List.set_cons_zero, List.set_cons_succ]
      obtain ⟨g1, cap1, w1, hrun, hown1, hgrow1, hat, hlt1⟩ := run_append_lies (P := Tryz.prog) (w := V.alloc (.cells #[.int .i64 0, .int .i64 0, .string ByteArray.empty, .slice none 0 0] 51)) 49 49 (B + 1) 51 i0 _ 4 56 Tryz.underlying49 HI.out.1 HI.out.2.1 HI.out.2.2.1 HI.out.2.2.2 rfl (by decide) (.slice a0 m.length c0) m.length (lcs m) (HVd.out.1.own.alloc _) ⟨V.heap.size, 0, none⟩ 1 1 [.int .i64 0, .int .i64 0, .string ByteArray.empty, .slice none 0 0] rfl (World.news_of_block (heap_alloc_new V _)) (by simp [Value.oneCell']) (by decide) (by unfold maxLen; have := HM.out; omega) (by have := HM.out; omega) (by have := HVd.out.2; simp; omega) _ rfl
      refine oper_u 6 (.slice (some ⟨g1, 0, none⟩) (m.length + 1) cap1) w1 rfl (by kernel_rfl) (by kernel_rfl) (exec_append (.tmp 12) (.tmp 16) 49 49 rfl _ _ _ rfl rfl (fun ty => hrun)) (fun h => absurd (h.symm.trans (by kernel_rfl : _ = true)) (by decide)) ?_
      try simp only [Act.put, List.setIfInBounds_toArray, List.set_cons_zero, List.set_cons_succ]
      obtain ⟨⟨z0, z1, z2, z3⟩, fz⟩ := own_cells hown1 (lcs_len m)
      have HN := VL.next (x := .i n) HVd.out.1 HVd.out.2 hgrow1 hown1 rfl
      have q5 : ((m.length : Int) < (m.length : Int) + 1) := by omega
      have q6 : 0 ≤ (m.length : Int) := by omega
      have hgB1 : B + 1 ≤ g1 := (hown1.lt g1 rfl).1
      have hr1 : w1.heap[B]? = some (.cells #[.int .i64 3, .int .i64 0, .string ByteArray.empty, .slice a0 m.length c0] 51 (0, 0)) := (hgrow1.block _ (by have := HVd.out.2; rw [size_alloc]; omega) HVd.out.1.ne).trans ((Below.heap_alloc V _ _ HVd.out.2).trans HVd.out.1.row)
      have x1 : w1.cell? ⟨B, 3, none⟩ = some (.slice a0 m.length c0) := by rw [cell_of_row _ _ _ _ _ _ hr1]; rfl
      have f1 : w1.frozen? ⟨B, 3, none⟩ = false := frozen_of_row _ _ _ _ _ hr1
      have hgn : g1 ≠ g := fun e => by
        rcases hat with h | h
        · exact HG.out.1 (by rw [h, e])
        · have := HBd.out.1; rw [size_alloc] at h; omega
      have HX : Seal (∀ W : World, (∀ j, j ≠ g1 → j ≠ B → W.heap[j]? = w1.heap[j]?) → (Value.slice (some ⟨g1, 0, none⟩) (m.length + 1) cap1).ownBlock ≠ some g ∧ g < W.heap.size ∧ ∀ j n, ns[j]? = some n → W.cell? ⟨g, off + j, none⟩ = some (.int .i64 n)) := ⟨fun W hW => by
        have h1 : W.heap[g]? = V.heap[g]? := (hW g (Ne.symm hgn) HGB.out).trans ((hgrow1.block g (by rw [size_alloc]; have := HBd.out.1; omega) (fun e => HG.out.1 e.symm)).trans (Below.heap_alloc V _ _ HBd.out.1))
        refine ⟨fun e => hgn (by simpa [Value.ownBlock] using e), ?_, fun j n hn => (World.cell?_of_block (w := V) h1).trans (HBd.out.2 j n hn)⟩
        rw [Array.getElem?_eq_getElem HBd.out.1] at h1
        exact (Array.getElem?_eq_some_iff.1 h1).1⟩
      have hTr : True := trivial
      refine anyU_of_H (S' := fun _ => True) _ _ _ _ (by kernel_rfl) ?_
      refine take_h 7 ?_ rfl (by kernel_rfl) (by kernel_rfl) (by kernel_rfl) (fun _ _ _ h => h) (Or.inl ⟨by kernel_rfl, ?_⟩) (by assumption) ?_
      rotate_left
      · (intro w hSw; (try dsimp only at hSw); go_simp; try (with_reducible rfl))
      try simp only [Act.put, List.setIfInBounds_toArray, List.set_cons_zero, List.set_cons_succ]
      refine take_h 9 ?_ rfl (by kernel_rfl) (by kernel_rfl) (by kernel_rfl) (fun _ _ _ h => h) (Or.inl ⟨by kernel_rfl, ?_⟩) (by assumption) ?_
      rotate_left
      · (intro w hSw; (try dsimp only at hSw); go_simp; try (with_reducible rfl))
      try simp only [Act.put, List.setIfInBounds_toArray, List.set_cons_zero, List.set_cons_succ]
      refine wpAnyH_ready (rs := [8, 10]) (by kernel_rfl) (by simp) ?_
      refine skip_b 8 (set4 w1 g1 (m.length * 4) (.int .i64 1) (.int .i64 n) (.string ByteArray.empty) (.slice none 0 0)) rfl (by kernel_rfl) (by unfold set4; go_simp; rfl) trivial (fun _ => ?_) (skip_b 10 (w1.setCell ⟨B, 3, none⟩ (.slice (some ⟨g1, 0, none⟩) (m.length + 1) cap1)) rfl (by kernel_rfl) (by go_simp) trivial (fun _ => ?_) AllReadyH.nil)
      · obtain ⟨W, hW⟩ : ∃ W, W = set4 w1 g1 (m.length * 4) (.int .i64 1) (.int .i64 n) (.string ByteArray.empty) (.slice none 0 0) := ⟨_, rfl⟩
        have hr2 : W.heap[B]? = some (.cells #[.int .i64 3, .int .i64 0, .string ByteArray.empty, .slice a0 m.length c0] 51 (0, 0)) := by rw [hW]; exact (set4_block w1 g1 _ B _ _ _ _ (by omega)).trans hr1
        have x2 : W.cell? ⟨B, 3, none⟩ = some (.slice a0 m.length c0) := by rw [cell_of_row _ _ _ _ _ _ hr2]; rfl
        have f2 : W.frozen? ⟨B, 3, none⟩ = false := frozen_of_row _ _ _ _ _ hr2
        have HN1 : Seal (VL B w0 (ls ++ lfs (ns.take (j + 1))) (.slice (some ⟨g1, 0, none⟩) (m.length + 1) cap1) (W.setCell ⟨B, 3, none⟩ (.slice (some ⟨g1, 0, none⟩) (m.length + 1) cap1))) := ⟨by rw [HT.out, hW]; exact HN.1⟩
        have HX1 := Seal.mk (HX.out (W.setCell ⟨B, 3, none⟩ (.slice (some ⟨g1, 0, none⟩) (m.length + 1) cap1)) (fun j h1 h2 => by rw [hW]; exact (Below.heap_setCell _ _ _ j h2).trans (set4_block w1 g1 _ j _ _ _ _ h1)))
        rw [← hW]
        clear hW x1 f1 z0 z1 z2 z3 fz HN hr1 hr2 HX hHeld HVd HBd hown1 hgrow1 hrun hat
        refine skip_h 10 (W.setCell ⟨B, 3, none⟩ (.slice (some ⟨g1, 0, none⟩) (m.length + 1) cap1)) rfl (by kernel_rfl) (by kernel_rfl) (by go_simp) trivial (fun _ => ?_)
        try simp only [Act.put]
        try simp only [List.setIfInBounds_toArray, List.set_cons_zero, List.set_cons_succ]
        refine wpAnyH_done (by kernel_rfl) ?_ _
        clear x2 f2
        go_wp2
        refine ⟨⟨j + 1, _, by omega, rfl, ⟨HN1.out, (Array.getElem?_eq_some_iff.1 HN1.out.row).1⟩, HX1⟩, ?_⟩
        simp only [intOf]; omega
      · obtain ⟨W, hW⟩ : ∃ W, W = w1.setCell ⟨B, 3, none⟩ (.slice (some ⟨g1, 0, none⟩) (m.length + 1) cap1) := ⟨_, rfl⟩
        have hot : ∀ j, j ≠ B → W.heap[j]? = w1.heap[j]? := fun j h => by rw [hW]; exact Below.heap_setCell _ _ _ j h
        have hcl : ∀ i, W.cell? ⟨g1, i, none⟩ = w1.cell? ⟨g1, i, none⟩ := fun i => World.cell?_of_block (w := w1) (hot g1 (by omega))
        have y0 := (hcl _).trans z0
        have y1 := (hcl _).trans z1
        have y2 := (hcl _).trans z2
        have y3 := (hcl _).trans z3
        have fy : ∀ i, W.frozen? ⟨g1, i, none⟩ = false := fun i => by
          have h1 := fz i
          unfold World.frozen? at h1 ⊢
          simp only [hot g1 (by omega)] at h1 ⊢
          exact h1
        have HN2 : Seal (VL B w0 (ls ++ lfs (ns.take (j + 1))) (.slice (some ⟨g1, 0, none⟩) (m.length + 1) cap1) (set4 W g1 (m.length * 4) (.int .i64 1) (.int .i64 n) (.string ByteArray.empty) (.slice none 0 0))) := ⟨by rw [HT.out, hW]; exact HN.2⟩
        have HX2 := Seal.mk (HX.out (set4 W g1 (m.length * 4) (.int .i64 1) (.int .i64 n) (.string ByteArray.empty) (.slice none 0 0)) (fun j h1 h2 => (set4_block W g1 _ j _ _ _ _ h1).trans (hot j h2)))
        rw [← hW]
        clear hW x1 f1 z0 z1 z2 z3 fz HN hr1 HX hHeld HVd HBd hown1 hgrow1 hrun hat hot hcl
        refine skip_h 8 (set4 W g1 (m.length * 4) (.int .i64 1) (.int .i64 n) (.string ByteArray.empty) (.slice none 0 0)) rfl (by kernel_rfl) (by kernel_rfl) (by unfold set4; go_simp; rfl) trivial (fun _ => ?_)
        try simp only [Act.put]
        try simp only [List.setIfInBounds_toArray, List.set_cons_zero, List.set_cons_succ]
        refine wpAnyH_done (by kernel_rfl) ?_ _
        clear y0 y1 y2 y3 fy
        go_wp2
        refine ⟨⟨j + 1, _, by omega, rfl, ⟨HN2.out, (Array.getElem?_eq_some_iff.1 HN2.out.row).1⟩, HX2⟩, ?_⟩
        simp only [intOf]; omega
    · obtain rfl : j = k := by omega
      have q1 : ¬ ((j : Int) < (j : Int)) := by omega
      have HR : Seal (VL B w0 (ls ++ lfs ns) v wr ∧ B < wr.heap.size) := ⟨by rw [List.take_of_length_le (by rw [HK.out]; exact Nat.le_refl _)] at HV; exact HV.out⟩
      clear HV HG
      go_wp2
      exact ⟨rfl, .tuple #[], by simp [results, Tryz.results91, go_sem], rfl, v, HR⟩

/-- what text is called with -/
inductive HA where
  | i (n : Int)
  | r (a b c : Int)
  | ci (a b : Int)
  | t (T : Bytes)
def HA.val : HA → Value
  | .i n => .iface 3 (.int .i64 n)
  | .r a b c => .iface 26 (.agg #[.int .i64 a, .int .i64 b, .int .i64 c])
  | .ci a b => .iface 116 (.agg #[.int .i64 a, .int .i64 b])
  | .t T => .iface 42 (.agg (T.map B).toArray)
def HA.lfs : HA → List Lf
  | .i n => [.i n]
  | .r a b c => [.i a, .i b, .i c]
  | .ci a b => [.i a, .i b]
  | .t T => [.t T]
def HA.ok : HA → Prop
  | .t T => T.length = 32
  | _ => True

theorem ha_ii (v : Value) (W : World) : (Instr.typeAssert (.iface 3 v) 20 3 true).run Tryz.prog W = .ok (.tuple #[v, .bool true]) W := by kernel_rfl
theorem ha_ri (v : Value) (W : World) : (Instr.typeAssert (.iface 26 v) 20 3 true).run Tryz.prog W = .ok (.tuple #[.int .i64 0, .bool false]) W := by kernel_rfl
theorem ha_rr (v : Value) (W : World) : (Instr.typeAssert (.iface 26 v) 20 26 true).run Tryz.prog W = .ok (.tuple #[v, .bool true]) W := by kernel_rfl
theorem ha_ci (v : Value) (W : World) : (Instr.typeAssert (.iface 116 v) 20 3 true).run Tryz.prog W = .ok (.tuple #[.int .i64 0, .bool false]) W := by kernel_rfl
theorem ha_cr (v : Value) (W : World) : (Instr.typeAssert (.iface 116 v) 20 26 true).run Tryz.prog W = .ok (.tuple #[.agg #[.int .i64 0, .int .i64 0, .int .i64 0], .bool false]) W := by kernel_rfl
theorem ha_cc (v : Value) (W : World) : (Instr.typeAssert (.iface 116 v) 20 116 true).run Tryz.prog W = .ok (.tuple #[v, .bool true]) W := by kernel_rfl
theorem ha_ti (v : Value) (W : World) : (Instr.typeAssert (.iface 42 v) 20 3 true).run Tryz.prog W = .ok (.tuple #[.int .i64 0, .bool false]) W := by kernel_rfl
theorem ha_tr (v : Value) (W : World) : (Instr.typeAssert (.iface 42 v) 20 26 true).run Tryz.prog W = .ok (.tuple #[.agg #[.int .i64 0, .int .i64 0, .int .i64 0], .bool false]) W := by kernel_rfl
theorem ha_tc (v : Value) (W : World) : (Instr.typeAssert (.iface 42 v) 20 116 true).run Tryz.prog W = .ok (.tuple #[.agg #[.int .i64 0, .int .i64 0], .bool false]) W := by kernel_rfl
theorem ha_tt (v : Value) (W : World) : (Instr.typeAssert (.iface 42 v) 20 42 true).run Tryz.prog W = .ok (.tuple #[v, .bool true]) W := by kernel_rfl

theorem VL.alloc {B : Nat} {w0 : World} {ls : List Lf} {v : Value} {w : World} (h : VL B w0 ls v w) (hB : B < w.heap.size) (o : Obj) : VL B w0 ls v (w.alloc o) :=
  ⟨(Below.heap_alloc w _ _ hB).trans h.row, h.own.alloc _, h.bel.alloc (by omega) _⟩

/-- the numbers, laid out just now -/
theorem htext1_new (k B H : Nat) (ns : List Int) (ls : List Lf) (w0 w : World) (v0 : Value) (hk : ns.length = k) (hk9 : ls.length + k ≤ 1000) (hV : VL B w0 ls v0 w) (hB : B < w.heap.size) (hH : w.heap.size = H) (cs : Array Value) (hcs : cs.toList = ns.map (Value.int .i64)) :
    Calls Tryz.prog 91 #[.slice (some ⟨H, 0, none⟩) k k, .pointer (some ⟨B, 0, none⟩)] (w.alloc (.cells cs 3)) fun e w' => e = .returned (.tuple #[]) ∧ ∃ v, Seal (VL B w0 (ls ++ lfs ns) v w' ∧ B < w'.heap.size) := by
  subst hH
  refine htext1_any w.heap.size 0 k k B ns ls w0 _ v0 hk hk9 (hV.alloc hB _) (by rw [size_alloc]; omega) ⟨fun e => ?_, by rw [size_alloc]; omega, fun j n hn => ?_⟩ (by omega)
  · have := (hV.own.lt _ e).2; omega
  · rw [cell_of_row _ _ _ _ _ _ (heap_alloc_new w _), Nat.zero_add]
    rw [← Array.getElem?_toList, hcs, List.getElem?_map, hn]; rfl

def HtyRel (xs : List HA) (w0 : World) (i : Value) (w : World) : Prop :=
  ∃ (j : Nat) (v : Value), j ≤ xs.length ∧ i = .int .i64 j ∧ Seal (VL w0.heap.size w0 ((xs.take j).flatMap HA.lfs) v w ∧ w0.heap.size < w.heap.size)

theorem lcs_at : ∀ (ls : List Lf) (k : Nat) (x : Lf), ls[k]? = some x → ∀ (j : Nat) (c : Value), x.cells[j]? = some c → (lcs ls)[k * 4 + j]? = some c
  | [], k, x, h, _, _, _ => by simp at h
  | y :: ys, k, x, hx, j, c, hc => by
    have hy : y.cells.length = 4 := by cases y <;> rfl
    show (y.cells ++ lcs ys)[k * 4 + j]? = some c
    cases k with
    | zero =>
      have e : y = x := by simpa using hx
      subst e
      have hj : j < 4 := by rw [← hy]; exact (List.getElem?_eq_some_iff.1 hc).1
      rw [List.getElem?_append_left (by omega), Nat.zero_mul, Nat.zero_add]; exact hc
    | succ k =>
      rw [List.getElem?_append_right (by omega), hy, show (k + 1) * 4 + j - 4 = k * 4 + j from by omega]
      exact lcs_at ys k x (by simpa using hx) j c hc

set_option maxHeartbeats 4000000 in
theorem htext_any (g off k cap : Nat) (xs : List HA) (w : World) (hk : xs.length = k) (hkm : k ≤ 1000) (hk0 : 0 < (xs.flatMap HA.lfs).length) (hk9 : (xs.flatMap HA.lfs).length ≤ 900) (hw : wgts (xs.flatMap HA.lfs) + 22 ≤ 140737488355328) (hc : ∀ j x, xs[j]? = some x → w.cell? ⟨g, off + j, none⟩ = some x.val) (hok : ∀ x ∈ xs, x.ok) (hfit : ∀ y ∈ xs.flatMap HA.lfs, y.fits) :
    Calls Tryz.prog 67 #[.slice (some ⟨g, off, none⟩) k cap] w (ListPost (encL (xs.flatMap HA.lfs)) w) := by
  have HK := Seal.mk hk
  have HC := Seal.mk hc
  have HO := Seal.mk hok
  have HL := Seal.mk (And.intro hk0 (And.intro hk9 (And.intro hw hfit)))
  obtain ⟨i0, hi, hz0, hz1, hz2⟩ := info_parts info_val
  have HI := Seal.mk (And.intro hi (And.intro hz0 (And.intro hz1 hz2)))
  have hS0 : Seal (VL w.heap.size w [] (.slice none 0 0) (w.alloc (.cells #[.int .i64 3, .int .i64 0, .string ByteArray.empty, .slice none 0 0] 51)) ∧ w.heap.size < (w.alloc (.cells #[.int .i64 3, .int .i64 0, .string ByteArray.empty, .slice none 0 0] 51)).heap.size) := ⟨⟨heap_alloc_new w _, World.ownsRow_nil _ _ _ _, below_alloc w _⟩, by rw [size_alloc]; omega⟩
  clear hk hc hok hi hz0 hz1 hz2 hk0 hk9 hw hfit
  go_enter Tryz.func67, Tryz.ntmps67
  go_wp2
  go_loopw [17] (fun i wr => HtyRel xs w i wr) (fun i _ => k - (intOf i).toNat)
  case atStart => exact ⟨0, .slice none 0 0, Nat.zero_le _, rfl, hS0⟩
  case round =>
    obtain ⟨j, v, hj, rfl, HV⟩ := hrel
    rw [HK.out] at hj
    by_cases hlt : j < k
    · obtain ⟨x, hx⟩ : ∃ x, xs[j]? = some x := ⟨_, List.getElem?_eq_getElem (by rw [HK.out]; exact hlt)⟩
      have hcx : wr.cell? ⟨g, off + j, none⟩ = some x.val := (HV.out.1.bel.cell (p := ⟨g, off + j, none⟩) (block_lt_of_cell (HC.out j x hx))).trans (HC.out j x hx)
      have hox := HO.out x (List.mem_of_getElem? hx)
      obtain ⟨m, hm⟩ : ∃ m, m = (xs.take j).flatMap HA.lfs := ⟨_, rfl⟩
      have HT : Seal ((xs.take (j + 1)).flatMap HA.lfs = m ++ x.lfs) := ⟨by rw [hm, List.take_add_one, hx]; simp⟩
      have HM : Seal (m.length + x.lfs.length ≤ 900) := ⟨by
        have h1 := congrArg List.length HT.out
        rw [List.length_append] at h1
        rw [← h1]
        have h2 : (xs.flatMap HA.lfs).length = ((xs.take (j + 1)).flatMap HA.lfs).length + ((xs.drop (j + 1)).flatMap HA.lfs).length := by
          rw [← List.length_append, ← List.flatMap_append, List.take_append_drop]
        have := HL.out.2.1
        omega⟩
      rw [← hm] at HV
      have q1 : (j : Int) < (k : Int) := by omega
      have q2 : (0 : Int) ≤ (j : Int) := by omega
      clear hm hx
      cases x with
      | i n =>
        unfold HA.val at hcx
        have ta0 := fun W => ha_ii (.int .i64 n) W
        have HCall := Seal.mk (htext1_new 1 w.heap.size wr.heap.size [n] m w wr v rfl (by have := HM.out; simp [HA.lfs] at this; omega) HV.out.1 HV.out.2 rfl #[.int .i64 n] rfl)
        clear hox
        go_wp2_with fail
        refine HCall.out.mono ?_
        rintro e w1 ⟨rfl, v1, HV1⟩
        go_wp2
        refine ⟨⟨j + 1, v1, by rw [HK.out]; omega, by go_num, ⟨by rw [HT.out]; exact HV1.out⟩⟩, ?_⟩
        simp only [intOf]; omega
      | r a b c =>
        unfold HA.val at hcx
        have ta0 := fun W => ha_ri (.agg #[.int .i64 a, .int .i64 b, .int .i64 c]) W
        have ta1 := fun W => ha_rr (.agg #[.int .i64 a, .int .i64 b, .int .i64 c]) W
        have HCall := Seal.mk (htext1_new 3 w.heap.size (wr.heap.size + 1) [a, b, c] m w (wr.alloc (.cells #[.int .i64 a, .int .i64 b, .int .i64 c] 26)) v rfl (by have := HM.out; simp [HA.lfs] at this; omega) (HV.out.1.alloc HV.out.2 _) (by rw [size_alloc]; have := HV.out.2; omega) (size_alloc _ _) #[.int .i64 a, .int .i64 b, .int .i64 c] rfl)
        clear hox
        go_wp2_with fail
        refine HCall.out.mono ?_
        rintro e w1 ⟨rfl, v1, HV1⟩
        go_wp2
        refine ⟨⟨j + 1, v1, by rw [HK.out]; omega, by go_num, ⟨by rw [HT.out]; exact HV1.out⟩⟩, ?_⟩
        simp only [intOf]; omega
      | ci a b =>
        unfold HA.val at hcx
        have ta0 := fun W => ha_ci (.agg #[.int .i64 a, .int .i64 b]) W
        have ta1 := fun W => ha_cr (.agg #[.int .i64 a, .int .i64 b]) W
        have ta2 := fun W => ha_cc (.agg #[.int .i64 a, .int .i64 b]) W
        have HCall := Seal.mk (htext1_new 2 w.heap.size (wr.heap.size + 1) [a, b] m w (wr.alloc (.cells #[.int .i64 a, .int .i64 b] 116)) v rfl (by have := HM.out; simp [HA.lfs] at this; omega) (HV.out.1.alloc HV.out.2 _) (by rw [size_alloc]; have := HV.out.2; omega) (size_alloc _ _) #[.int .i64 a, .int .i64 b] rfl)
        clear hox
        go_wp2_with fail
        refine HCall.out.mono ?_
        rintro e w1 ⟨rfl, v1, HV1⟩
        go_wp2
        refine ⟨⟨j + 1, v1, by rw [HK.out]; omega, by go_num, ⟨by rw [HT.out]; exact HV1.out⟩⟩, ?_⟩
        simp only [intOf]; omega
      | t T =>
        have h32 : T.length = 32 := hox
        obtain ⟨TC, hTC⟩ : ∃ TC, TC = T.map B := ⟨_, rfl⟩
        have cT : TC.length = 32 := by rw [hTC, List.length_map, h32]
        have hcy : wr.cell? ⟨g, off + j, none⟩ = some (.iface 42 (.agg (T.map B).toArray)) := hcx
        clear hcx
        rw [← hTC] at hcy
        have ta0 := fun W => ha_ti (.agg TC.toArray) W
        have ta1 := fun W => ha_tr (.agg TC.toArray) W
        have ta2 := fun W => ha_tc (.agg TC.toArray) W
        have ta3 := fun W => ha_tt (.agg TC.toArray) W
        have IT : Seal ((Tryz.prog.info? 42).map (·.size) = some TC.length) := ⟨by rw [cT]; kernel_rfl⟩
        have LT : Seal ((([.int .u8 0, .int .u8 0, .int .u8 0, .int .u8 0, .int .u8 0, .int .u8 0, .int .u8 0, .int .u8 0, .int .u8 0, .int .u8 0, .int .u8 0, .int .u8 0, .int .u8 0, .int .u8 0, .int .u8 0, .int .u8 0, .int .u8 0, .int .u8 0, .int .u8 0, .int .u8 0, .int .u8 0, .int .u8 0, .int .u8 0, .int .u8 0, .int .u8 0, .int .u8 0, .int .u8 0, .int .u8 0, .int .u8 0, .int .u8 0, .int .u8 0, .int .u8 0] : List Value)).length = TC.length) := ⟨by rw [cT]; rfl⟩
        have OT : Seal (∀ u ∈ TC, u.oneCell' = true) := ⟨by rw [hTC]; intro u hu; obtain ⟨b, _, rfl⟩ := List.mem_map.1 hu; rfl⟩
        obtain ⟨V0, hV0⟩ : ∃ V0, V0 = wr.alloc (.cells TC.toArray 42) := ⟨_, rfl⟩
        have HV2 : Seal (VL w.heap.size w m v V0 ∧ w.heap.size < V0.heap.size) := ⟨by rw [hV0]; exact ⟨HV.out.1.alloc HV.out.2 _, by rw [size_alloc]; have := HV.out.2; omega⟩⟩
        have rT : V0.rangeAt wr.heap.size 0 TC := by rw [hV0]; exact rangeAt_row (heap_alloc_new wr _)
        have HTC := Seal.mk hTC
        clear hox hTC
        go_upto_region 18 with (refine wpList_store_new rfl 42 (.tmp 10) (.tmp 53) rfl ([.int .u8 0, .int .u8 0, .int .u8 0, .int .u8 0, .int .u8 0, .int .u8 0, .int .u8 0, .int .u8 0, .int .u8 0, .int .u8 0, .int .u8 0, .int .u8 0, .int .u8 0, .int .u8 0, .int .u8 0, .int .u8 0, .int .u8 0, .int .u8 0, .int .u8 0, .int .u8 0, .int .u8 0, .int .u8 0, .int .u8 0, .int .u8 0, .int .u8 0, .int .u8 0, .int .u8 0, .int .u8 0, .int .u8 0, .int .u8 0, .int .u8 0, .int .u8 0] : List Value) TC 42 rfl rfl IT.out LT.out OT.out ?_)
        rw [← hV0]
        clear hV0 ta0 ta1 ta2 ta3 hcy
        obtain ⟨a0, c0, rfl⟩ := HV2.out.1.form
        have hrB : wr.heap.size ≠ w.heap.size := by have := HV.out.2; omega
        have cV : V0.cell? ⟨w.heap.size, 3, none⟩ = some (.slice a0 m.length c0) := by rw [cell_of_row _ _ _ _ _ _ HV2.out.1.row]; rfl
        have HVd : Seal (VL w.heap.size w m (.slice a0 m.length c0) V0.drew ∧ w.heap.size < V0.drew.heap.size) := ⟨HV2.out.1.drew, HV2.out.2⟩
        refine wp_region_heldU 7 (S := fun w' => w'.cell? ⟨w.heap.size, 3, none⟩ = some (.slice a0 m.length c0) ∧ w'.rangeAt wr.heap.size 0 TC) (by kernel_rfl) ⟨cV, rT⟩ (fun hHeld => ?_)
        clear cV rT HV HV2
        refine take_u 0 ?_ rfl (by kernel_rfl) (by kernel_rfl) (by kernel_rfl) (by kernel_rfl) (by kernel_rfl) (fun _ _ _ h => h) (Or.inl ⟨by kernel_rfl, ?_⟩) (by assumption) ?_
        rotate_left
        · (intro w hSw; (try dsimp only at hSw); go_simp; try (with_reducible rfl))
        try simp only [Act.put, List.setIfInBounds_toArray, List.set_cons_zero, List.set_cons_succ]
        refine take_u 1 ?_ rfl (by kernel_rfl) (by kernel_rfl) (by kernel_rfl) (by kernel_rfl) (by kernel_rfl) (fun _ _ _ h => h) (Or.inl ⟨by kernel_rfl, ?_⟩) (by assumption) ?_
        rotate_left
        · (intro w hSw; (try dsimp only at hSw); go_simp; try (with_reducible rfl))
        try simp only [Act.put, List.setIfInBounds_toArray, List.set_cons_zero, List.set_cons_succ]
        refine take_u 2 ?_ rfl (by kernel_rfl) (by kernel_rfl) (by kernel_rfl) (by kernel_rfl) (by kernel_rfl) (fun _ _ _ h => h) (Or.inl ⟨by kernel_rfl, ?_⟩) (by assumption) ?_
        rotate_left
        · (intro w hSw; (try dsimp only at hSw); go_simp; try (with_reducible rfl))
        try simp only [Act.put, List.setIfInBounds_toArray, List.set_cons_zero, List.set_cons_succ]
        refine take_u 3 (.string ⟨T.toArray⟩) rfl (by kernel_rfl) (by kernel_rfl) (by kernel_rfl) (by kernel_rfl) (by kernel_rfl) (fun _ _ _ h => h) (Or.inl ⟨by kernel_rfl, ?_⟩) (by assumption) ?_
        · intro w hSw
          have hcv := IsB.conv (w := w) (a := some ⟨wr.heap.size, 0, none⟩) (len := 32) (cap := 32) (l := T) ⟨h32, Nat.le_refl _, by decide, by decide, .inr ⟨_, 0, rfl, by rw [← HTC.out]; exact hSw.2, by
            have := hSw.2 0 _ (List.getElem?_eq_getElem (show 0 < TC.length by rw [cT]; decide))
            exact block_lt_of_cell this⟩⟩
          go_simp
        try simp only [Act.put, List.setIfInBounds_toArray, List.set_cons_zero, List.set_cons_succ]
        refine take_u 4 ?_ rfl (by kernel_rfl) (by kernel_rfl) (by kernel_rfl) (by kernel_rfl) (by kernel_rfl) (fun _ _ _ h => h) (Or.inl ⟨by kernel_rfl, ?_⟩) (by assumption) ?_
        rotate_left
        · (intro w hSw; (try dsimp only at hSw); go_simp; try (with_reducible rfl))
        try simp only [Act.put, List.setIfInBounds_toArray, List.set_cons_zero, List.set_cons_succ]
        refine take_u 5 ?_ rfl (by kernel_rfl) (by kernel_rfl) (by kernel_rfl) (by kernel_rfl) (by kernel_rfl) (fun _ _ _ h => h) (Or.inl ⟨by kernel_rfl, ?_⟩) (by assumption) ?_
        rotate_left
        · (intro w hSw; (try dsimp only at hSw); go_simp; try (with_reducible rfl))
        try simp only [Act.put, List.setIfInBounds_toArray, List.set_cons_zero, List.set_cons_succ]
        obtain ⟨V, hV⟩ : ∃ V, V = V0.drew := ⟨_, rfl⟩
        rw [← hV] at hHeld HVd ⊢
        clear hV
        refine oper_u 6 (.slice (some ⟨V.heap.size, 0, none⟩) 1 1) (V.alloc (.cells #[.int .i64 0, .int .i64 0, .string ByteArray.empty, .slice none 0 0] 51)) rfl (by kernel_rfl) (by kernel_rfl) (by go_simp; rfl) (fun _ => ⟨cell_allocd hHeld.1 _, World.rangeAt_alloc hHeld.2 _⟩) ?_
        try simp only [Act.put, List.setIfInBounds_toArray, List.set_cons_zero, List.set_cons_succ]
        obtain ⟨g1, cap1, w1, hrun, hown1, hgrow1, hat, hlt1⟩ := run_append_lies (P := Tryz.prog) (w := V.alloc (.cells #[.int .i64 0, .int .i64 0, .string ByteArray.empty, .slice none 0 0] 51)) 49 49 (w.heap.size + 1) 51 i0 _ 4 56 Tryz.underlying49 HI.out.1 HI.out.2.1 HI.out.2.2.1 HI.out.2.2.2 rfl (by decide) (.slice a0 m.length c0) m.length (lcs m) (HVd.out.1.own.alloc _) ⟨V.heap.size, 0, none⟩ 1 1 [.int .i64 0, .int .i64 0, .string ByteArray.empty, .slice none 0 0] rfl (World.news_of_block (heap_alloc_new V _)) (by simp [Value.oneCell']) (by decide) (by unfold maxLen; have := HM.out; simp [HA.lfs] at this; omega) (by have := HM.out; simp [HA.lfs] at this; omega) (by have := HVd.out.2; simp; omega) _ rfl
        refine oper_u 7 (.slice (some ⟨g1, 0, none⟩) (m.length + 1) cap1) w1 rfl (by kernel_rfl) (by kernel_rfl) (exec_append (.tmp 55) (.tmp 60) 49 49 rfl _ _ _ rfl rfl (fun ty => hrun)) (fun h => absurd (h.symm.trans (by kernel_rfl : _ = true)) (by decide)) ?_
        try simp only [Act.put, List.setIfInBounds_toArray, List.set_cons_zero, List.set_cons_succ]
        obtain ⟨⟨z0, z1, z2, z3⟩, fz⟩ := own_cells hown1 (lcs_len m)
        have HN := VL.next (x := .t T) HVd.out.1 HVd.out.2 hgrow1 hown1 rfl
        have q5 : ((m.length : Int) < (m.length : Int) + 1) := by omega
        have q6 : 0 ≤ (m.length : Int) := by omega
        have hgB1 : w.heap.size + 1 ≤ g1 := (hown1.lt g1 rfl).1
        have hr1 : w1.heap[w.heap.size]? = some (.cells #[.int .i64 3, .int .i64 0, .string ByteArray.empty, .slice a0 m.length c0] 51 (0, 0)) := (hgrow1.block _ (by have := HVd.out.2; rw [size_alloc]; omega) HVd.out.1.ne).trans ((Below.heap_alloc V _ _ HVd.out.2).trans HVd.out.1.row)
        have x1 : w1.cell? ⟨w.heap.size, 3, none⟩ = some (.slice a0 m.length c0) := by rw [cell_of_row _ _ _ _ _ _ hr1]; rfl
        have f1 : w1.frozen? ⟨w.heap.size, 3, none⟩ = false := frozen_of_row _ _ _ _ _ hr1
        have hTr : True := trivial
        refine anyU_of_H (S' := fun _ => True) _ _ _ _ (by kernel_rfl) ?_
        refine take_h 8 ?_ rfl (by kernel_rfl) (by kernel_rfl) (by kernel_rfl) (fun _ _ _ h => h) (Or.inl ⟨by kernel_rfl, ?_⟩) (by assumption) ?_
        rotate_left
        · (intro w hSw; (try dsimp only at hSw); go_simp; try (with_reducible rfl))
        try simp only [Act.put, List.setIfInBounds_toArray, List.set_cons_zero, List.set_cons_succ]
        refine take_h 10 ?_ rfl (by kernel_rfl) (by kernel_rfl) (by kernel_rfl) (fun _ _ _ h => h) (Or.inl ⟨by kernel_rfl, ?_⟩) (by assumption) ?_
        rotate_left
        · (intro w hSw; (try dsimp only at hSw); go_simp; try (with_reducible rfl))
        try simp only [Act.put, List.setIfInBounds_toArray, List.set_cons_zero, List.set_cons_succ]
        refine wpAnyH_ready (rs := [9, 11]) (by kernel_rfl) (by simp) ?_
        refine skip_b 9 (set4 w1 g1 (m.length * 4) (.int .i64 2) (.int .i64 0) (.string ⟨T.toArray⟩) (.slice none 0 0)) rfl (by kernel_rfl) (by unfold set4; go_simp; try rfl) trivial (fun _ => ?_) (skip_b 11 (w1.setCell ⟨w.heap.size, 3, none⟩ (.slice (some ⟨g1, 0, none⟩) (m.length + 1) cap1)) rfl (by kernel_rfl) (by go_simp) trivial (fun _ => ?_) AllReadyH.nil)
        · obtain ⟨W, hW⟩ : ∃ W, W = set4 w1 g1 (m.length * 4) (.int .i64 2) (.int .i64 0) (.string ⟨T.toArray⟩) (.slice none 0 0) := ⟨_, rfl⟩
          have hr2 : W.heap[w.heap.size]? = some (.cells #[.int .i64 3, .int .i64 0, .string ByteArray.empty, .slice a0 m.length c0] 51 (0, 0)) := by rw [hW]; exact (set4_block w1 g1 _ w.heap.size _ _ _ _ (by omega)).trans hr1
          have x2 : W.cell? ⟨w.heap.size, 3, none⟩ = some (.slice a0 m.length c0) := by rw [cell_of_row _ _ _ _ _ _ hr2]; rfl
          have f2 : W.frozen? ⟨w.heap.size, 3, none⟩ = false := frozen_of_row _ _ _ _ _ hr2
          have HN1 : Seal (VL w.heap.size w ((xs.take (j + 1)).flatMap HA.lfs) (.slice (some ⟨g1, 0, none⟩) (m.length + 1) cap1) (W.setCell ⟨w.heap.size, 3, none⟩ (.slice (some ⟨g1, 0, none⟩) (m.length + 1) cap1))) := ⟨by rw [HT.out, hW]; exact HN.1⟩
          rw [← hW]
          clear hW x1 f1 z0 z1 z2 z3 fz HN hr1 hr2 hHeld HVd hown1 hgrow1 hrun hat
          refine skip_h 11 (W.setCell ⟨w.heap.size, 3, none⟩ (.slice (some ⟨g1, 0, none⟩) (m.length + 1) cap1)) rfl (by kernel_rfl) (by kernel_rfl) (by go_simp) trivial (fun _ => ?_)
          try simp only [Act.put]
          try simp only [List.setIfInBounds_toArray, List.set_cons_zero, List.set_cons_succ]
          refine wpAnyH_done (by kernel_rfl) ?_ _
          clear x2 f2
          go_wp2
          refine ⟨⟨j + 1, _, by rw [HK.out]; omega, by go_num, ⟨⟨HN1.out, (Array.getElem?_eq_some_iff.1 HN1.out.row).1⟩⟩⟩, ?_⟩
          simp only [intOf]; omega
        · obtain ⟨W, hW⟩ : ∃ W, W = w1.setCell ⟨w.heap.size, 3, none⟩ (.slice (some ⟨g1, 0, none⟩) (m.length + 1) cap1) := ⟨_, rfl⟩
          have hot : ∀ j, j ≠ w.heap.size → W.heap[j]? = w1.heap[j]? := fun j h => by rw [hW]; exact Below.heap_setCell _ _ _ j h
          have hcl : ∀ i, W.cell? ⟨g1, i, none⟩ = w1.cell? ⟨g1, i, none⟩ := fun i => World.cell?_of_block (w := w1) (hot g1 (by omega))
          have y0 := (hcl _).trans z0
          have y1 := (hcl _).trans z1
          have y2 := (hcl _).trans z2
          have y3 := (hcl _).trans z3
          have fy : ∀ i, W.frozen? ⟨g1, i, none⟩ = false := fun i => by
            have h1 := fz i
            unfold World.frozen? at h1 ⊢
            simp only [hot g1 (by omega)] at h1 ⊢
            exact h1
          have HN2 : Seal (VL w.heap.size w ((xs.take (j + 1)).flatMap HA.lfs) (.slice (some ⟨g1, 0, none⟩) (m.length + 1) cap1) (set4 W g1 (m.length * 4) (.int .i64 2) (.int .i64 0) (.string ⟨T.toArray⟩) (.slice none 0 0))) := ⟨by rw [HT.out, hW]; exact HN.2⟩
          rw [← hW]
          clear hW x1 f1 z0 z1 z2 z3 fz HN hr1 hHeld HVd hown1 hgrow1 hrun hat hot hcl
          refine skip_h 9 (set4 W g1 (m.length * 4) (.int .i64 2) (.int .i64 0) (.string ⟨T.toArray⟩) (.slice none 0 0)) rfl (by kernel_rfl) (by kernel_rfl) (by unfold set4; go_simp; try rfl) trivial (fun _ => ?_)
          try simp only [Act.put]
          try simp only [List.setIfInBounds_toArray, List.set_cons_zero, List.set_cons_succ]
          refine wpAnyH_done (by kernel_rfl) ?_ _
          clear y0 y1 y2 y3 fy
          go_wp2
          refine ⟨⟨j + 1, _, by rw [HK.out]; omega, by go_num, ⟨⟨HN2.out, (Array.getElem?_eq_some_iff.1 HN2.out.row).1⟩⟩⟩, ?_⟩
          simp only [intOf]; omega
    · obtain rfl : j = k := by omega
      have q1 : ¬ ((j : Int) < (j : Int)) := by omega
      have e1 : xs.take j = xs := List.take_of_length_le (by rw [HK.out]; exact Nat.le_refl _)
      rw [e1] at HV
      obtain ⟨ls, hls⟩ : ∃ ls, ls = xs.flatMap HA.lfs := ⟨_, rfl⟩
      rw [← hls] at HV HL
      have HLs := Seal.mk hls
      clear hls e1
      obtain ⟨g2, cap2, rfl, _, hg2⟩ := HV.out.1.own.form HL.out.1
      have HA1 : Seal (LeavesAt wr g2 0 ls) := ⟨fun q y hy r c hrc => by
        have h2 := HV.out.1.own.cells (g := g2) rfl (q * 4 + r) c (lcs_at ls q y hy r c hrc)
        rw [Addr.add_mid] at h2
        rw [Nat.add_assoc]; exact h2⟩
      have HQ : Seal (ls.length ≤ cap2) := ⟨by
        rcases HV.out.1.own.2 with ⟨e, _⟩ | ⟨_, _, _, hv, _, _, hle, _⟩
        · cases e
        · cases hv; exact hle⟩
      have HE : Seal _ := ⟨encode_any g2 0 ls.length cap2 ls wr rfl HQ.out HL.out.2.2.1 HL.out.1 HA1.out hg2 HL.out.2.2.2⟩
      have c0 : wr.cell? ⟨w.heap.size, 0, none⟩ = some (.int .i64 3) := by rw [cell_of_row _ _ _ _ _ _ HV.out.1.row]; rfl
      have c1 : wr.cell? ⟨w.heap.size, 1, none⟩ = some (.int .i64 0) := by rw [cell_of_row _ _ _ _ _ _ HV.out.1.row]; rfl
      have c2 : wr.cell? ⟨w.heap.size, 2, none⟩ = some (.string ByteArray.empty) := by rw [cell_of_row _ _ _ _ _ _ HV.out.1.row]; rfl
      have c3 : wr.cell? ⟨w.heap.size, 3, none⟩ = some (.slice (some ⟨g2, 0, none⟩) ls.length cap2) := by rw [cell_of_row _ _ _ _ _ _ HV.out.1.row]; rfl
      have HB := Seal.mk (And.intro HV.out.1.bel HV.out.2)
      clear HV HA1 HQ HC HO HL
      go_wp2_with (go_at_call 13; refine HE.out.mono ?_; rintro e w2 ⟨g', n', cap', hn', rfl, hf⟩)
      go_ret
      rw [← HLs.out]
      exact ⟨g', n', cap', hn', rfl, ⟨hf.out.1, hf.out.2.1, hf.out.2.2.1, hf.out.2.2.2.1, HB.out.1.trans (hf.out.2.2.2.2.mono (Nat.le_of_lt HB.out.2))⟩⟩
end Frk
