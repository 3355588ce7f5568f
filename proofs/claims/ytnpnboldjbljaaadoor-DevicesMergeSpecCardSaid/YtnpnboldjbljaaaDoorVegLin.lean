/- Parts of the proof, joined. -/
import Derived.Test.YtnpnboldjbljaaaDoorVegMer
import Derived.Test.YtnpnboldjbljaaaDoorVegEnv
import Derived.Deep.Cut
import Derived.Test.YtnpnboldjbljaaaDoorVegDpa
import Derived.Test.YtnpnboldjbljaaaDoorVeRow
import Derived.LoopIn
import Derived.RangeFuncCalls
import Derived.RangeFuncBound
import Derived.RangeFuncNested
import Derived.RangeFuncLeaves
import Derived.OwnWalkIn
/- A range over a function whose iterator keeps its state in blocks of its own: the law for the caller. -/
namespace Frk
open Go Go.RowKit

/-- all blocks but those of mine lie as they lay -/
structure KeptBut (mine : Nat → Prop) (A B : World) : Prop where
  os : B.os = A.os
  tape : B.tape = A.tape
  output : B.output = A.output
  size : A.heap.size ≤ B.heap.size
  block : ∀ k, k < A.heap.size → ¬ mine k → B.heap[k]? = A.heap[k]?
theorem KeptBut.refl (mine : Nat → Prop) (A : World) : KeptBut mine A A := ⟨rfl, rfl, rfl, Nat.le_refl _, fun _ _ _ => rfl⟩
theorem KeptBut.trans {mine : Nat → Prop} {A B C : World} (h : KeptBut mine A B) (k : KeptBut mine B C) : KeptBut mine A C :=
  ⟨k.os.trans h.os, k.tape.trans h.tape, k.output.trans h.output, Nat.le_trans h.size k.size, fun b hb hn => (k.block b (Nat.lt_of_lt_of_le hb h.size) hn).trans (h.block b hb hn)⟩
theorem KeptBut.of_below {mine : Nat → Prop} {A B : World} (h : Below A.heap.size A B) : KeptBut mine A B := ⟨h.os, h.tape, h.output, h.size, fun k hk _ => h.block k hk⟩
theorem KeptBut.of_grown {mine : Nat → Prop} {A B : World} (h : A.grownBy B none) : KeptBut mine A B := ⟨h.os, h.tape, h.output, h.size, fun k hk _ => h.block k hk (by simp)⟩
theorem KeptBut.cellSet {mine : Nat → Prop} {A B : World} {b : Nat} (h : KeptBut mine A B) (hm : mine b) (v : Value) : KeptBut mine A (B.setCell ⟨b, 0, none⟩ v) := by
  have hg := grownBy_setCell' B b v
  exact ⟨hg.os.trans h.os, hg.tape.trans h.tape, hg.output.trans h.output, Nat.le_trans h.size hg.size, fun k hk hn => (hg.block k (Nat.lt_of_lt_of_le hk h.size) (fun e => hn (by rw [Option.some.inj e]; exact hm))).trans (h.block k hk hn)⟩

/-- what an iterator promises that is never stopped and keeps its state in its own blocks (mine): it turns no others; what it yields is as G says; a round leaves mine, and what it reads (rd), as they were -/
def SeqOwn {α : Type} (F : Fence) (n : Nat) (P : Program) (g : Nat) (lb : Array Value) (encs : α → Array Value) (G : α → Prop) (mine rd : Nat → Prop) (S : List α → Prop) (N : Nat) (w : World) : Prop :=
  ∀ (l : Nat) (J : List α → World → Prop) (W : World), Below w.heap.size w W →
    (∀ pre x W0 W1, J pre W0 → KeptBut mine W0 W1 → W.heap.size ≤ W0.heap.size → G x → pre.length < N → YieldAt F (n - 1) P l (encs x) W1 fun e W' =>
      e = .returned (.bool true) ∧ J (pre ++ [x]) W' ∧ W1.heap.size ≤ W'.heap.size ∧ (∀ r, mine r ∨ rd r → W'.heap[r]? = W1.heap[r]?)) →
    J [] W →
    CallsIn F n P g (#[.func (.yield l) #[] #[]] ++ lb) W fun e W' => (∃ v, e = .returned v) ∧ ∃ xs W0, S xs ∧ J xs W0 ∧ KeptBut mine W0 W' ∧ W.heap.size ≤ W0.heap.size

/-- how a round's body is left -/
def ownPost {α : Type} (mine rd : Nat → Prop) (I : List α → World → Prop) (xs : List α) (W : World) : Exit → Act → World → Prop
  | .normal, _, W' => KeepsOthers W W' ∧ (∀ r, mine r ∨ rd r → W'.heap[r]? = W.heap[r]?) ∧ I xs W'
  | _, _, _ => False

variable {F : Fence} {n : Nat} {P : Program}
theorem wpIn_rangeFunc_own {α : Type} {g : Operand} {ps : Array Tmp} {assign body : Code} {Q : Exit → Act → World → Prop} {a : Act} {w : World}
    (hro : F.round = none) (h1 : 1 ≤ n) {gf : Nat} {lb : Array Value} (hg : a.eval g = .func (.func gf) #[] lb) (hFg : F.fn gf) (eg : ∀ args w, (callFunc gf args).run P w = .ok (.enter gf args) w)
    {encs : α → Array Value} {G : α → Prop} {mine rd : Nat → Prop} {S : List α → Prop} {N : Nat} (hseq : SeqOwn F (n - 1) P gf lb encs G mine rd S N w) (hmine : ∀ r, mine r ∨ rd r → r < w.heap.size) (hps : ∀ x, (encs x).size = ps.size)
    (I : List α → World → Prop)
    (hI : ∀ s A B, I s A → A.grownBy B (some (w.heap.size + 1)) → (∃ o : Obj, A.heap[w.heap.size + 1]? = some o ∧ o.isCells = false) → I s B)
    (hIn : ∀ s A B, I s A → KeptBut mine A B → I s B)
    (h0 : I [] w) (a₁ : α → World → Act) (az : α → World → World) (has : ∀ x W, Below W.heap.size W (az x W))
    (hassign : ∀ (l : Nat) (x : α) (W : World) (K : Act → World → Prop), G x → K (a₁ x W) (az x W) →
      assign.wpIn (F.inRound l) (n - 1 - 1) P (Exit.then K (fun _ _ _ => False)) { tmps := (ps.zip (encs x)).foldl (fun t (p, v) => t.setIfInBounds p v) a.tmps, defers := [] } W)
    (hbody : ∀ (l : Nat) (pre : List α) (x : α) (W0 Wa W : World), I pre W → (∀ k, k ≠ w.heap.size + 1 → W.heap[k]? = (az x Wa).heap[k]?) →
      w.heap.size + 1 < W0.heap.size → W0.heap.size ≤ Wa.heap.size → W.heap.size = (az x Wa).heap.size →
      G x → pre.length < N → body.wpIn (F.inRound l) (n - 1 - 1) P (ownPost mine rd I (pre ++ [x]) W) (a₁ x Wa) W)
    (hdone : ∀ (xs : List α) (W : World), S xs → I xs W → w.heap.size + 1 < W.heap.size → W.heap[w.heap.size]? = some (.deferred (some [])) → Q .normal { a with defers := { target := .collected w.heap.size, args := #[] } :: a.defers } W) :
    (Code.rangeFunc g ps assign body).wpIn F n P Q a w := by
  refine wpIn_rangeFunc ?_
  intro fn hfn
  rw [hro]
  obtain ⟨rec, hrec⟩ : ∃ rec : LoopState → Option Code → Loop, rec = fun st pe => { state := st, pending := pe, fn, tmps := a.tmps, params := ps, assign, body, defers := w.heap.size } := ⟨_, rfl⟩
  obtain ⟨W1, hW1⟩ : ∃ W1, (w.alloc (.deferred (some []))).alloc (.loop (rec .ready none)) = W1 := ⟨_, rfl⟩
  have hL1 : W1.heap[w.heap.size + 1]? = some (.loop (rec .ready none)) := by
    rw [← hW1]; have := World.alloc_heap_new (w.alloc (.deferred (some []))) (.loop (rec .ready none)); rwa [World.size_alloc] at this
  have hK1 : W1.heap[w.heap.size]? = some (.deferred (some [])) := by
    rw [← hW1]; exact (Below.heap_alloc _ _ _ (by simp)).trans (World.alloc_heap_new w _)
  have hI1 : I [] W1 := by rw [← hW1]; exact hIn _ _ _ (hIn _ _ _ h0 (.of_grown (World.grownBy_alloc w _ none))) (.of_grown (World.grownBy_alloc _ _ none))
  have hb1 : Below w.heap.size w W1 := by
    rw [← hW1]; exact ((Below.refl _ w).alloc (Nat.le_refl _) _).alloc (by simp) _
  have hz1 : W1.heap.size = w.heap.size + 2 := by rw [← hW1]; simp
  refine ⟨w.heap.size + 1, [{ target := .collected w.heap.size, args := #[] }], W1, { target := .fn (.func gf) lb, args := #[.func (.yield (w.heap.size + 1)) #[] #[]] }, W1, gf,
    #[.func (.yield (w.heap.size + 1)) #[] #[]] ++ lb, W1, ?_, ?_, ?_, ?_, fun _ => h1, ?_⟩
  · rw [← hW1, hrec]; exact run_enterLoop_outer _ _ _ _ _
  · simp only [resolve, hg]
    simp [go_sem]
  · intro f' hf'; simp [Target.leads] at hf'; subst hf'; exact hFg
  · simp [invoke, go_sem, eg]
  · refine (hseq (w.heap.size + 1)
      (fun pre W => I pre W ∧ W.heap[w.heap.size + 1]? = some (.loop (rec .ready none)) ∧ W.heap[w.heap.size]? = some (.deferred (some [])))
      W1 hb1 ?_ ⟨hI1, hL1, hK1⟩).mono ?_
    · rintro pre x W0 W ⟨hi, hl0, hk0⟩ hb hsz hg2 hlen
      have hl : W.heap[w.heap.size + 1]? = some (.loop (rec .ready none)) := (hb.block _ (Array.getElem?_eq_some_iff.1 hl0).1 (fun h => by have := hmine _ (.inl h); omega)).trans hl0
      have hk : W.heap[w.heap.size]? = some (.deferred (some [])) := (hb.block _ (Array.getElem?_eq_some_iff.1 hk0).1 (fun h => by have := hmine _ (.inl h); omega)).trans hk0
      have hlt : w.heap.size + 1 < W.heap.size := (Array.getElem?_eq_some_iff.1 hl).1
      have hlt0 : w.heap.size + 1 < W0.heap.size := (Array.getElem?_eq_some_iff.1 hl0).1
      have hy := run_yield (P := P) (args := encs x) hl (by rw [hrec]; exact hps x)
      rw [hrec] at hy
      have ha := has x W
      have hla : (az x W).heap[w.heap.size + 1]? = some (.loop (rec .ready none)) := (ha.block _ hlt).trans hl
      have hka : (az x W).heap[w.heap.size]? = some (.deferred (some [])) := (ha.block _ (by omega)).trans hk
      have hlta : w.heap.size + 1 < (az x W).heap.size := Nat.lt_of_lt_of_le hlt ha.size
      refine ⟨fn, _, assign, body, hy, roundIn_of_wpIn hfn (hassign _ x W _ hg2 ⟨_, run_beginRound hla (by rw [hrec]), ?_⟩)⟩
      have hl2 : ((az x W).putObj (w.heap.size + 1) (.loop { rec .ready none with state := .busy })).heap[w.heap.size + 1]? = some (.loop { rec .ready none with state := .busy }) := World.putObj_heap_same hlta
      have hk2 : ((az x W).putObj (w.heap.size + 1) (.loop { rec .ready none with state := .busy })).heap[w.heap.size]? = some (.deferred (some [])) := (World.putObj_heap_other (by omega)).trans hka
      have hgp := grownBy_putObj' (az x W) (w.heap.size + 1) (.loop { rec .ready none with state := .busy })
      have hiW : I pre (az x W) := hIn _ _ _ (hIn _ _ _ hi hb) (.of_below ha)
      refine wpIn_mono (hbody _ pre x W0 W _ (hI _ _ _ hiW hgp ⟨_, hla, rfl⟩) (fun k hk1 => World.putObj_heap_other hk1) hlt0 hb.size (by simp [World.putObj]) hg2 hlen) ?_
      rintro e a3 W3 hp
      cases e with
      | normal =>
        obtain ⟨hk3, hm3, hi3⟩ := hp
        have hs3 := hk3.size
        have hl3 := hk3.same _ _ hl2 rfl
        have hr := run_endRound (P := P) none hl3
        rw [hrec] at hr hl3
        have hs3' : (az x W).heap.size ≤ W3.heap.size := by simpa [World.putObj] using hs3
        refine ⟨_, _, hr, rfl, ⟨hI _ _ _ hi3 (grownBy_putObj' _ _ _) ⟨_, hl3, rfl⟩, ?_, (World.putObj_heap_other (by omega)).trans (hk3.same _ _ hk2 rfl)⟩, ?_, fun r h => ?_⟩
        · rw [hrec]; exact World.putObj_heap_same (Array.getElem?_eq_some_iff.1 hl3).1
        · have := ha.size; simp [World.putObj]; omega
        · have := hmine r h
          exact (World.putObj_heap_other (by omega)).trans ((hm3 r h).trans ((World.putObj_heap_other (by omega)).trans (ha.block r (by omega))))
      | ret => exact hp.elim
      | exit id => exact hp.elim
      | goto t => exact hp.elim
      | panic ch => exact hp.elim
      | outgrown => exact hp.elim
    · rintro e W2 ⟨⟨v, rfl⟩, xs, W0, hS, ⟨hi, hl0, hk0⟩, hb, hsz⟩
      have hl : W2.heap[w.heap.size + 1]? = some (.loop (rec .ready none)) := (hb.block _ (Array.getElem?_eq_some_iff.1 hl0).1 (fun h => by have := hmine _ (.inl h); omega)).trans hl0
      have hk : W2.heap[w.heap.size]? = some (.deferred (some [])) := (hb.block _ (Array.getElem?_eq_some_iff.1 hk0).1 (fun h => by have := hmine _ (.inl h); omega)).trans hk0
      have hlt0 : w.heap.size + 1 < W0.heap.size := (Array.getElem?_eq_some_iff.1 hl0).1
      refine ⟨none, _, by have := run_endLoop (P := P) hl (by rw [hrec]; simp); rw [hrec] at this; exact this, ?_⟩
      exact hdone xs _ hS (hI _ _ _ (hIn _ _ _ hi hb) (grownBy_putObj' W2 _ _) ⟨_, hl, rfl⟩) (by have := hb.size; simp [World.putObj]; omega) ((World.putObj_heap_other (by omega)).trans hk)
end Frk

/- Long loads under a guard. -/
namespace Frk
open Go Go.RowKit Go.Proofs
set_option maxRecDepth 100000

theorem wpList_wanted {P : Program} {ops : Array Oper} {rest : List Oper} {o : Oper} {a : Act} {w : World} {Q : Exit → Act → World → Prop} (hw : Region.wanted o (yielded ops a.tmps) = true)
    (h : ∀ K : Act → World → Prop, (∀ a w, wpList P ops Q rest a w → K a w) → o.wp P a w K Q) : wpList P ops Q (o :: rest) a w :=
  wpList_step fun K hK => by simp only [hw, if_true]; exact h K hK

/-- a long load out of the midst of a block under a guard that holds -/
theorem wpList_load_mid_g {P : Program} {ops : Array Oper} {rest : List Oper} {o : Oper} {a : Act} {w : World} {Q : Exit → Act → World → Prop} (hw : Region.wanted o (yielded ops a.tmps) = true) (ty : TypeId) (x : Operand) (ho : o.op = .load ty x)
    (b off : Nat) (hx : a.eval x = .pointer (some ⟨b, off, none⟩)) (cs : List Value) (d : TypeDesc) (hc : w.rangeAt b off cs)
    (hu : P.underlying ty = some d) (hd : d.isRow = true) (hi : (P.info? ty).map (·.size) = some cs.length)
    (h : wpList P ops Q rest (a.put o.dst (.agg cs.toArray)) w) : wpList P ops Q (o :: rest) a w :=
  wpList_wanted hw fun _ hK => wp_load_mid ty x ho b off hx cs d hc hu hd hi (hK _ _ h)
end Frk

/- Literal slices of elements of several cells. -/
namespace Frk
open Go Go.RowKit Go.Proofs
set_option maxRecDepth 100000

theorem lay_lay (Z A C : List Value) (k : Nat) (h : k + A.length + C.length ≤ Z.length) : lay (lay Z k A) (k + A.length) C = lay Z k (A ++ C) := by
  unfold lay
  have h1 : (Z.take k).length = k := by rw [List.length_take]; omega
  rw [List.take_left' (by rw [List.length_append, h1]), List.length_append, List.drop_append, List.drop_of_length_le (by rw [List.length_append, h1]; omega), List.nil_append, List.length_append, h1, List.drop_drop]
  simp only [List.append_assoc]
  congr 4
  omega
/-- the parts of a literal slice -/
def sparts : List (List Value) → Nat → List (Nat × Value)
  | [], _ => []
  | C :: r, k => (k, .agg C.toArray) :: sparts r (k + 1)
theorem fill_parts (z : Nat) : ∀ (Cs : List (List Value)) (k : Nat) (Z : List Value), (∀ C ∈ Cs, C.length = z) → (k + Cs.length) * z ≤ Z.length →
    Instr.fill (fun i => some (i * z, z)) Z.toArray (sparts Cs k) = some (lay Z (k * z) Cs.flatten).toArray
  | [], k, Z, _, _ => by simp [sparts, Instr.fill, lay_nil]
  | C :: r, k, Z, hC, hl => by
    have h0 := hC C (by simp)
    have hk : (k + (C :: r).length) * z = k * z + z + r.length * z := by rw [List.length_cons, Nat.add_mul, Nat.add_mul]; omega
    rw [hk] at hl
    have e := fold_lay_at (k * z) C 0 Z (by omega)
    have ih := fill_parts z r (k + 1) (lay Z (k * z) C) (fun D hD => hC D (by simp [hD])) (by rw [length_lay (by omega), Nat.add_mul, Nat.add_mul]; omega)
    rw [Nat.add_zero] at e
    simp [sparts, Instr.fill, Value.cells, h0]
    refine ⟨by omega, ?_⟩
    rw [e, ih, show (k + 1) * z = k * z + C.length from by rw [h0, Nat.add_mul]; omega, lay_lay _ _ _ _ (by
      have := isC_flat_len (C := id) (z := z) (l := r) (fun x hx => hC x (by simp [hx]))
      simp only [List.flatMap_id] at this
      rw [this]; omega)]
theorem sparts_flat {z : Nat} {Cs : List (List Value)} (hC : ∀ C ∈ Cs, C.length = z) : Cs.flatten.length = Cs.length * z := by
  have := isC_flat_len (C := id) (z := z) (l := Cs) hC
  simpa using this

theorem exec_bslice {P : Program} {ρ : Operand → Value} {o : Oper} {t elem : TypeId} {m z : Nat} {ps : Array (Nat × Operand)} (ho : o.op = .buildSlice t m ps) (Cs : List (List Value)) (hu : P.underlying t = some (.slice elem)) (w : World) (hs : (Go.sizeOf elem).run P w = .ok z w) {zv : Value} (hz : (zeroValue elem).run P w = .ok zv w)
    (_hzs : zv.cells.size = z) (hm : Cs.length = m) (hC : ∀ C ∈ Cs, C.length = z) (h0 : 0 < m * z) (hb : m * z ≤ 16777216) (hp : ps.toList.map (fun x => (x.1, ρ x.2)) = sparts Cs 0) :
    (execOp ρ o).run P w = .ok (.value (.slice (some ⟨w.heap.size, 0, none⟩) m m)) (w.alloc (.cells Cs.flatten.toArray elem)) := by
  obtain ⟨Z, hZ⟩ : ∃ Z : List Value, Z.toArray = (Array.range (m * z)).map (zv.cells[· % zv.cells.size]!) := ⟨((Array.range (m * z)).map (zv.cells[· % zv.cells.size]!)).toList, by rw [Array.toArray_toList]⟩
  have hZl : Z.length = m * z := by
    have := congrArg Array.size hZ
    simpa using this
  have hf := fill_parts z Cs 0 Z hC (by rw [Nat.zero_add, hm, hZl]; exact Nat.le_refl _)
  have hl : lay Z (0 * z) Cs.flatten = Cs.flatten := by
    unfold lay
    rw [Nat.zero_mul, List.take_zero, List.nil_append, List.drop_of_length_le (by rw [sparts_flat hC, hZl, hm]; omega), List.append_nil]
  rw [hl] at hf
  have h1 : ¬ (16777216 < m * z) := by omega
  have h2 : ¬ (m * z = 0) := by omega
  have hbs : (Instr.buildSlice t m (ps.map fun x => (x.1, ρ x.2))).run P w = .ok (.slice (some ⟨w.heap.size, 0, none⟩) m m) (w.alloc (.cells Cs.flatten.toArray elem)) := by
    unfold Instr.buildSlice
    simp only [run_underlying hu, Sem.run_bind, Result.andThen_ok, hs]
    simp [h1, h2, hz, Result.andThen, ← hZ, newRow]
    rw [hp, hf]
    simp [go_sem]
  unfold execOp
  rw [ho]
  simp [hbs, Result.andThen]

section
variable {l n : Nat} {P : Program} {ops : Array Oper} {rest : List Oper} {o o2 : Oper} {a : Act} {w : World} {Q : Exit → Act → World → Prop}
/-- a literal slice -/
theorem wpList_bslice (hw : Region.wanted o (yielded ops a.tmps) = true) (t elem : TypeId) (m z : Nat) (ps : Array (Nat × Operand)) (ho : o.op = .buildSlice t m ps) (Cs : List (List Value)) (hu : P.underlying t = some (.slice elem)) (hs : ∀ w, (Go.sizeOf elem).run P w = .ok z w) (zv : Value) (hz : ∀ w, (zeroValue elem).run P w = .ok zv w)
    (hzs : zv.cells.size = z) (hm : Cs.length = m) (hC : ∀ C ∈ Cs, C.length = z) (h0 : 0 < m * z) (hb : m * z ≤ 16777216) (hp : ps.toList.map (fun x => (x.1, a.eval x.2)) = sparts Cs 0)
    (h : wpList P ops Q rest (a.put o.dst (.slice (some ⟨w.heap.size, 0, none⟩) m m)) (w.alloc (.cells Cs.flatten.toArray elem))) : wpList P ops Q (o :: rest) a w :=
  wpList_wanted hw fun K hK => by unfold Oper.wp; rw [exec_bslice ho Cs hu w (hs w) (hz w) hzs hm hC h0 hb hp]; exact hK _ _ h
end
end Frk

/- Steps of a walk within a round of a range over a function. -/
namespace Frk
open Go Go.RowKit Go.Proofs
set_option maxRecDepth 100000

theorem wpListIn_load_mid {l n : Nat} {P : Program} {ops : Array Oper} {rest : List Oper} {o : Oper} {a : Act} {w : World} {Q : Exit → Act → World → Prop} (hg : o.guard = none) (ty : TypeId) (x : Operand) (ho : o.op = .load ty x)
    (b off : Nat) (hx : a.eval x = .pointer (some ⟨b, off, none⟩)) (cs : List Value) (d : TypeDesc) (hc : w.rangeAt b off cs)
    (hu : P.underlying ty = some d) (hd : d.isRow = true) (hi : (P.info? ty).map (·.size) = some cs.length)
    (h : wpListIn (Fence.wide.inRound l) n P ops Q rest (a.put o.dst (.agg cs.toArray)) w) : wpListIn (Fence.wide.inRound l) n P ops Q (o :: rest) a w :=
  wpListIn_plain hg fun K hK' => opIn_of_op (by rw [ho]; intro c hc'; cases hc') (wp_load_mid ty x ho b off hx cs d hc hu hd hi (hK' _ _ h))

theorem wpListIn_store_row {l n : Nat} {P : Program} {ops : Array Oper} {rest : List Oper} {o : Oper} {a : Act} {w : World} {Q : Exit → Act → World → Prop} (hgd : o.guard = none) (ty : TypeId) (x y : Operand) (ho : o.op = .store ty x y)
    (g : Nat) (cells : Array Value) (hx : a.eval x = .pointer (some ⟨g, 0, none⟩)) (hy : a.eval y = .agg cells)
    (t : TypeId) (old : Array Value) (hg : w.heap[g]? = some (.cells old t (0, 0))) (hi : (P.info? ty).map (·.size) = some cells.size)
    (hold : old.size = cells.size) (h1 : cells.all (·.oneCell') = true)
    (h : wpListIn (Fence.wide.inRound l) n P ops Q rest (a.put o.dst undef) (w.setRow g cells)) : wpListIn (Fence.wide.inRound l) n P ops Q (o :: rest) a w :=
  wpListIn_plain hgd fun K hK' => opIn_of_op (by rw [ho]; intro c hc'; cases hc') (by
    unfold Oper.wp
    rw [exec_store_row ty x y ho g cells hx hy t old hg hi hold h1]
    exact hK' _ _ h)

theorem foldl_one (F : Array Value) (p : Tmp) (v : Value) : (#[p].zip #[v]).foldl (fun t (p, v) => t.setIfInBounds p v) F = F.setIfInBounds p v := by simp
section
variable {l n : Nat} {P : Program} {ops : Array Oper} {rest : List Oper} {o o2 : Oper} {a : Act} {w : World} {Q : Exit → Act → World → Prop}
/-- in a round: a new variable -/
theorem wpListIn_alloc (hg : o.guard = none) (ty : TypeId) (ho : o.op = .alloc ty) (v : Value) (w' : World) (hrun : (execOp a.eval o).run P w = .ok (.value v) w')
    (h : wpListIn (Fence.wide.inRound l) n P ops Q rest (a.put o.dst v) w') : wpListIn (Fence.wide.inRound l) n P ops Q (o :: rest) a w :=
  wpListIn_plain hg fun K hK' => opIn_of_op (by rw [ho]; intro c hc; cases hc) (by unfold Oper.wp; rw [hrun]; exact hK' _ _ h)
theorem wpListIn_bslice (hg : o.guard = none) (t elem : TypeId) (m z : Nat) (ps : Array (Nat × Operand)) (ho : o.op = .buildSlice t m ps) (Cs : List (List Value)) (hu : P.underlying t = some (.slice elem)) (hs : ∀ w, (Go.sizeOf elem).run P w = .ok z w) (zv : Value) (hz : ∀ w, (zeroValue elem).run P w = .ok zv w)
    (hzs : zv.cells.size = z) (hm : Cs.length = m) (hC : ∀ C ∈ Cs, C.length = z) (h0 : 0 < m * z) (hb : m * z ≤ 16777216) (hp : ps.toList.map (fun x => (x.1, a.eval x.2)) = sparts Cs 0)
    (h : wpListIn (Fence.wide.inRound l) n P ops Q rest (a.put o.dst (.slice (some ⟨w.heap.size, 0, none⟩) m m)) (w.alloc (.cells Cs.flatten.toArray elem))) : wpListIn (Fence.wide.inRound l) n P ops Q (o :: rest) a w :=
  wpListIn_plain hg fun K hK' => opIn_of_op (by rw [ho]; intro c hc; cases hc) (by unfold Oper.wp; rw [exec_bslice ho Cs hu w (hs w) (hz w) hzs hm hC h0 hb hp]; exact hK' _ _ h)
end
end Frk

