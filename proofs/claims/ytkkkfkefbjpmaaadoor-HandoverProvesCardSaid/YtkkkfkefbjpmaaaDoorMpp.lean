/- merkle.Prove. -/
import Derived.Test.YtkkkfkefbjpmaaaDoorMka
namespace Frk
open Go Go.RowKit Go.Proofs
set_option maxRecDepth 100000

section
variable {F : Fence} {n : Nat} {P : Program}
theorem wpIn_rangeFunc_mem2 {α : Type} {g : Operand} {ps : Array Tmp} {assign body : Code} {Q : Exit → Act → World → Prop} {a : Act} {w : World}
    (hro : F.round = none) (h1 : 1 ≤ n) {gf : Nat} {lb : Array Value} (hg : a.eval g = .func (.func gf) #[] lb) (hFg : F.fn gf) (eg : ∀ args w, (callFunc gf args).run P w = .ok (.enter gf args) w)
    {encs : α → Array Value} {G : Nat → List α → α → World → Prop} {mine : Nat → Prop} {S : List α → Prop} {N : Nat} (hseq : SeqMem F (n - 1) P gf lb encs G mine S N w) (hmine : ∀ r, mine r → r < w.heap.size) (hps : ∀ x, (encs x).size = ps.size)
    (hG : ∀ sz pre x A B, w.heap.size + 1 < sz → G sz pre x A → A.grownBy B (some (w.heap.size + 1)) → (∃ o : Obj, A.heap[w.heap.size + 1]? = some o ∧ o.isCells = false) → G sz pre x B)
    (I : List α → World → Prop)
    (hI : ∀ s A B, I s A → A.grownBy B (some (w.heap.size + 1)) → (∃ o : Obj, A.heap[w.heap.size + 1]? = some o ∧ o.isCells = false) → I s B)
    (hIn : ∀ s A B, I s A → A.grownBy B none → I s B)
    (h0 : I [] w) (a₁ : α → Act)
    (hassign : ∀ (l : Nat) (x : α) (W : World) (K : Act → World → Prop), K (a₁ x) W →
      assign.wpIn (F.inRound l) (n - 1 - 1) P (Exit.then K (fun _ _ _ => False)) { tmps := (ps.zip (encs x)).foldl (fun t (p, v) => t.setIfInBounds p v) a.tmps, defers := [] } W)
    (hbody : ∀ (l : Nat) (pre : List α) (x : α) (W0 W : World), I pre W0 → I pre W → (∀ k, k < W0.heap.size → k ≠ w.heap.size + 1 → W.heap[k]? = W0.heap[k]?) → w.heap.size + 1 < W0.heap.size → W0.heap.size ≤ W.heap.size →
      G W0.heap.size pre x W → pre.length < N → body.wpIn (F.inRound l) (n - 1 - 1) P (memPost mine I (G W0.heap.size pre x) (pre ++ [x]) W) (a₁ x) W)
    (hdone : ∀ (xs : List α) (W : World), S xs → I xs W → w.heap.size + 1 < W.heap.size → W.heap[w.heap.size]? = some (.deferred (some [])) → Q .normal { a with defers := { target := .collected w.heap.size, args := #[] } :: a.defers } W) :
    (Code.rangeFunc g ps assign body).wpIn F n P Q a w := by
  refine wpIn_rangeFunc ?_
  intro fn hfn
  rw [hro]
  obtain ⟨rec, hrec⟩ : ∃ rec : LoopState → Option Code → Loop, rec = fun st pe => { state := st, pending := pe, fn, tmps := a.tmps, params := ps, assign, body, defers := w.heap.size } := ⟨_, rfl⟩
  obtain ⟨W1, hW1⟩ : ∃ W1, (w.alloc (.deferred (some []))).alloc (.loop (rec .ready none)) = W1 := ⟨_, rfl⟩
  have hL1 : W1.heap[w.heap.size + 1]? = some (.loop (rec .ready none)) := by
    rw [← hW1]; have := World.alloc_heap_new (w.alloc (.deferred (some []))) (.loop (rec .ready none)); rwa [World.size_alloc] at this
  have hK1 : W1.heap[w.heap.size]? = some (.deferred (some [])) := by
    rw [← hW1]; exact (Below.heap_alloc _ _ _ (by simp)).trans (World.alloc_heap_new w _)
  have hI1 : I [] W1 := by rw [← hW1]; exact hIn _ _ _ (hIn _ _ _ h0 (World.grownBy_alloc w _ none)) (World.grownBy_alloc _ _ none)
  have hb1 : Below w.heap.size w W1 := by
    rw [← hW1]; exact ((Below.refl _ w).alloc (Nat.le_refl _) _).alloc (by simp) _
  have hz1 : W1.heap.size = w.heap.size + 2 := by rw [← hW1]; simp
  refine ⟨w.heap.size + 1, [{ target := .collected w.heap.size, args := #[] }], W1, { target := .fn (.func gf) lb, args := #[.func (.yield (w.heap.size + 1)) #[] #[]] }, W1, gf,
    #[.func (.yield (w.heap.size + 1)) #[] #[]] ++ lb, W1, ?_, ?_, ?_, ?_, fun _ => h1, ?_⟩
  · rw [← hW1, hrec]; exact run_enterLoop_outer _ _ _ _ _
  · simp only [resolve, hg]
    simp [go_sem]
  · intro f' hf'; simp [Target.leads] at hf'; subst hf'; exact hFg
  · simp [invoke, go_sem, eg]
  · refine (hseq (w.heap.size + 1)
      (fun pre W => I pre W ∧ W.heap[w.heap.size + 1]? = some (.loop (rec .ready none)) ∧ W.heap[w.heap.size]? = some (.deferred (some [])))
      W1 hb1 ?_ ⟨hI1, hL1, hK1⟩).mono ?_
    · rintro pre x W0 W ⟨hi, hl0, hk0⟩ hb hsz hg2 hlen
      have hl : W.heap[w.heap.size + 1]? = some (.loop (rec .ready none)) := (hb.block _ (Array.getElem?_eq_some_iff.1 hl0).1).trans hl0
      have hk : W.heap[w.heap.size]? = some (.deferred (some [])) := (hb.block _ (Array.getElem?_eq_some_iff.1 hk0).1).trans hk0
      have hlt : w.heap.size + 1 < W.heap.size := (Array.getElem?_eq_some_iff.1 hl).1
      have hlt0 : w.heap.size + 1 < W0.heap.size := (Array.getElem?_eq_some_iff.1 hl0).1
      have hy := run_yield (P := P) (args := encs x) hl (by rw [hrec]; exact hps x)
      rw [hrec] at hy
      refine ⟨fn, _, assign, body, hy, roundIn_of_wpIn hfn (hassign _ x W _ ⟨_, run_beginRound hl (by rw [hrec]), ?_⟩)⟩
      have hl2 : (W.putObj (w.heap.size + 1) (.loop { rec .ready none with state := .busy })).heap[w.heap.size + 1]? = some (.loop { rec .ready none with state := .busy }) := World.putObj_heap_same hlt
      have hk2 : (W.putObj (w.heap.size + 1) (.loop { rec .ready none with state := .busy })).heap[w.heap.size]? = some (.deferred (some [])) := (World.putObj_heap_other (by omega)).trans hk
      have hgp := grownBy_putObj' W (w.heap.size + 1) (.loop { rec .ready none with state := .busy })
      refine wpIn_mono (hbody _ pre x W0 _ hi (hI _ _ _ (hIn _ _ _ hi ⟨hb.os, hb.tape, hb.output, hb.size, fun k hk _ => hb.block k hk⟩) hgp ⟨_, hl, rfl⟩) (fun k hk1 hk2' => (World.putObj_heap_other hk2').trans (hb.block k hk1)) hlt0 (by simpa [World.putObj] using hb.size) (hG _ _ _ _ _ hlt0 hg2 hgp ⟨_, hl, rfl⟩) hlen) ?_
      rintro e a3 W3 hp
      cases e with
      | normal =>
        obtain ⟨hk3, hm3, hg3, hi3⟩ := hp
        have hl3 := hk3.same _ _ hl2 rfl
        have hr := run_endRound (P := P) none hl3
        rw [hrec] at hr hl3
        have hs3 := hk3.size
        refine ⟨_, _, hr, rfl, ⟨hI _ _ _ hi3 (grownBy_putObj' _ _ _) ⟨_, hl3, rfl⟩, ?_, (World.putObj_heap_other (by omega)).trans (hk3.same _ _ hk2 rfl)⟩, hG _ _ _ _ _ hlt0 hg3 (grownBy_putObj' _ _ _) ⟨_, hl3, rfl⟩, ?_, fun r h => ?_⟩
        · rw [hrec]; exact World.putObj_heap_same (Array.getElem?_eq_some_iff.1 hl3).1
        · simpa [World.putObj] using hs3
        · have := hmine r h
          exact (World.putObj_heap_other (by omega)).trans ((hm3 r h).trans (World.putObj_heap_other (by omega)))
      | ret => exact hp.elim
      | exit id => exact hp.elim
      | goto t => exact hp.elim
      | panic ch => exact hp.elim
      | outgrown => exact hp.elim
    · rintro e W2 ⟨⟨v, rfl⟩, xs, W0, hS, ⟨hi, hl0, hk0⟩, hb, hsz⟩
      have hl : W2.heap[w.heap.size + 1]? = some (.loop (rec .ready none)) := (hb.block _ (Array.getElem?_eq_some_iff.1 hl0).1).trans hl0
      have hk : W2.heap[w.heap.size]? = some (.deferred (some [])) := (hb.block _ (Array.getElem?_eq_some_iff.1 hk0).1).trans hk0
      have hlt0 : w.heap.size + 1 < W0.heap.size := (Array.getElem?_eq_some_iff.1 hl0).1
      refine ⟨none, _, by have := run_endLoop (P := P) hl (by rw [hrec]; simp); rw [hrec] at this; exact this, ?_⟩
      exact hdone xs _ hS (hI _ _ _ (hIn _ _ _ hi ⟨hb.os, hb.tape, hb.output, hb.size, fun k hk _ => hb.block k hk⟩) (grownBy_putObj' W2 _ _) ⟨_, hl, rfl⟩) (by have := hb.size; simp [World.putObj]; omega) ((World.putObj_heap_other (by omega)).trans hk)
end

theorem i64_xor1 (a : Nat) (ha : a < 4611686018427387904) : bits .xor .i64 (a : Int) 1 = ((a ^^^ 1 : Nat) : Int) := by
  have hx : a ^^^ 1 < 2 ^ 63 := Nat.xor_lt_two_pow (by omega) (by decide)
  have e1 : (BitVec.ofInt 64 (a : Int)).toNat = a := by rw [BitVec.ofInt_natCast, BitVec.toNat_ofNat]; exact Nat.mod_eq_of_lt (by omega)
  have e2 : (BitVec.ofInt 64 (1 : Int)).toNat = 1 := by decide
  show IntKind.i64.wrap ((BitVec.ofInt 64 (a : Int) ^^^ BitVec.ofInt 64 (1 : Int)).toNat : Int) = _
  rw [BitVec.toNat_xor, e1, e2, IntKind.wrap_i64]
  omega

/-- the path of a leaf, over the first rows -/
def pathB (R : List Bytes) (i : Nat) : Nat → List Bytes
  | 0 => []
  | k + 1 => pathB R i k ++ (if (i / 2 ^ k) ^^^ 1 < (rowN R k).length then [(rowN R k).getD ((i / 2 ^ k) ^^^ 1) []] else [])
theorem pathB_32 {R : List Bytes} (h : ∀ d ∈ R, d.length = 32) (i : Nat) : ∀ k, ∀ d ∈ pathB R i k, d.length = 32
  | 0 => by simp [pathB]
  | k + 1 => by
    intro d hd
    rcases List.mem_append.1 hd with hd | hd
    · exact pathB_32 h i k d hd
    · split at hd
      · rename_i hlt
        rw [List.mem_singleton.1 hd]
        exact getD_len (rowN_32 h k) hlt
      · cases hd
theorem pathB_len (R : List Bytes) (i : Nat) : ∀ k, (pathB R i k).length ≤ k
  | 0 => Nat.le_refl _
  | k + 1 => by
    show (pathB R i k ++ _).length ≤ k + 1
    rw [List.length_append]
    have := pathB_len R i k
    split <;> simp <;> omega

/-- how far Prove has come -/
structure PvRel (R : List Bytes) (i : Nat) (w0 : World) (base k : Nat) (v : Value) (W : World) : Prop where
  c3 : W.heap[w0.heap.size]? = some (.cells #[.int .i64 ((i / 2 ^ k : Nat) : Int)] 3 (0, 0))
  c4 : W.heap[w0.heap.size + 1]? = some (.cells #[v] 51 (0, 0))
  own : W.ownsRow base 25 32 v (pathB R i k).length (dcells (pathB R i k))
  bel : Below w0.heap.size w0 W
  big : base ≤ W.heap.size

theorem PvRel.grown {R : List Bytes} {i : Nat} {w0 : World} {base k : Nat} {v : Value} {A B' : World} {r : Option Nat} (h : PvRel R i w0 base k v A) (hg : A.grownBy B' r) (hr : ∀ b, r = some b → w0.heap.size ≤ b ∧ ∃ o : Obj, A.heap[b]? = some o ∧ o.isCells = false) : PvRel R i w0 base k v B' := by
  refine ⟨(hg.block _ (Array.getElem?_eq_some_iff.1 h.c3).1 (fun e => cells_ne h.c3 (hr _ e.symm).2 rfl)).trans h.c3, (hg.block _ (Array.getElem?_eq_some_iff.1 h.c4).1 (fun e => cells_ne h.c4 (hr _ e.symm).2 rfl)).trans h.c4, h.own.kept hg ?_, h.bel.grown hg h.bel.size (fun b e => (hr b e).1), Nat.le_trans h.big hg.size⟩
  rcases h.own.2 with ⟨rfl, _⟩ | ⟨g, cap, cur, rfl, _, hgc, _⟩
  · exact .inl rfl
  · exact .inr (fun e => cells_ne hgc (hr g (by simpa [Value.ownBlock] using e.symm)).2 rfl)

theorem PvRel.step0 {R : List Bytes} {i : Nat} {w0 : World} {base k q : Nat} {v : Value} {V : World} (h : PvRel R i w0 base k v V) (hb : w0.heap.size + 2 ≤ base) (hP : pathB R i (k + 1) = pathB R i k) (hq : i / 2 ^ (k + 1) = q) :
    PvRel R i w0 base (k + 1) v (V.setCell ⟨w0.heap.size, 0, none⟩ (.int .i64 (q : Int))) ∧ KeepsOthers V (V.setCell ⟨w0.heap.size, 0, none⟩ (.int .i64 (q : Int))) ∧ (∀ r, r ≠ w0.heap.size → (V.setCell ⟨w0.heap.size, 0, none⟩ (.int .i64 (q : Int))).heap[r]? = V.heap[r]?) := by
  have hset := grownBy_setCell' V w0.heap.size (.int .i64 (q : Int))
  have hbig := h.big
  refine ⟨⟨?_, ?_, ?_, h.bel.setCell (p := ⟨w0.heap.size, 0, none⟩) (by simp) _, by have := hset.size; omega⟩, KeepsOthers.setCell _ _ _, fun r hr => Below.heap_setCell _ _ _ _ (by simpa using hr)⟩
  · rw [hq]
    have := heap_setCell_row (cs := [.int .i64 ((i / 2 ^ k : Nat) : Int)]) (i := 0) (.int .i64 (q : Int)) h.c3
    simpa using this
  · exact (Below.heap_setCell _ _ _ _ (by simp)).trans h.c4
  · rw [hP]
    exact h.own.kept hset (by
      cases hv : v.ownBlock with
      | none => exact .inl rfl
      | some b => exact .inr (fun e => by have := (h.own.lt b hv).1; have := Option.some.inj e; omega))

theorem PvRel.heap5 {R : List Bytes} {i : Nat} {w0 : World} {base k : Nat} {v : Value} {V w5 : World} {o : Obj} (h : PvRel R i w0 base k v V) (hb : w0.heap.size + 2 ≤ base) (hg : (V.alloc o).grownBy w5 v.ownBlock) :
    w5.heap[w0.heap.size]? = some (.cells #[.int .i64 ((i / 2 ^ k : Nat) : Int)] 3 (0, 0)) ∧ w5.heap[w0.heap.size + 1]? = some (.cells #[v] 51 (0, 0)) ∧ Below w0.heap.size w0 w5 ∧ base ≤ w5.heap.size := by
  have hbig := h.big
  have vlt := h.own.lt
  have hz := hg.size
  rw [size_alloc] at hz
  refine ⟨(hg.block _ (by rw [size_alloc]; omega) (fun e => by have := (vlt _ e.symm).1; omega)).trans ((Below.heap_alloc V _ _ (by omega)).trans h.c3), (hg.block _ (by rw [size_alloc]; omega) (fun e => by have := (vlt _ e.symm).1; omega)).trans ((Below.heap_alloc V _ _ (by omega)).trans h.c4), ?_, by omega⟩
  exact (h.bel.alloc (by omega) _).grown hg (by rw [size_alloc]; omega) (fun k e => by have := (vlt k e).1; omega)

theorem PvRel.step1 {R : List Bytes} {i : Nat} {w0 : World} {base k q : Nat} {v v5 : Value} {V w5 : World} {D : Bytes} (h : PvRel R i w0 base k v V) (hb : w0.heap.size + 2 ≤ base) (hP : pathB R i (k + 1) = pathB R i k ++ [D]) (hq : i / 2 ^ (k + 1) = q)
    (hown : w5.ownsRow base 25 32 v5 ((pathB R i k).length + 1) (dcells (pathB R i k ++ [D]))) (hg : (V.alloc (.cells (D.map B).toArray 25)).grownBy w5 v.ownBlock) :
    PvRel R i w0 base (k + 1) v5 ((w5.setCell ⟨w0.heap.size + 1, 0, none⟩ v5).setCell ⟨w0.heap.size, 0, none⟩ (.int .i64 (q : Int))) ∧ KeepsOthers V ((w5.setCell ⟨w0.heap.size + 1, 0, none⟩ v5).setCell ⟨w0.heap.size, 0, none⟩ (.int .i64 (q : Int))) ∧
      (∀ r, r < V.heap.size → v.ownBlock ≠ some r → r ≠ w0.heap.size → r ≠ w0.heap.size + 1 → ((w5.setCell ⟨w0.heap.size + 1, 0, none⟩ v5).setCell ⟨w0.heap.size, 0, none⟩ (.int .i64 (q : Int))).heap[r]? = V.heap[r]?) ∧
      V.heap.size ≤ ((w5.setCell ⟨w0.heap.size + 1, 0, none⟩ v5).setCell ⟨w0.heap.size, 0, none⟩ (.int .i64 (q : Int))).heap.size := by
  obtain ⟨x3, x4, xb, xz⟩ := h.heap5 hb hg
  have h1 := grownBy_setCell' w5 (w0.heap.size + 1) v5
  have h2 := grownBy_setCell' (w5.setCell ⟨w0.heap.size + 1, 0, none⟩ v5) w0.heap.size (.int .i64 (q : Int))
  have z1 := h1.size
  have z2 := h2.size
  have z5 := hg.size
  rw [size_alloc] at z5
  refine ⟨⟨?_, ?_, ?_, (xb.setCell (p := ⟨w0.heap.size + 1, 0, none⟩) (by simp) _).setCell (p := ⟨w0.heap.size, 0, none⟩) (by simp) _, by omega⟩, ?_, ?_, by omega⟩
  · rw [hq]
    have e : (w5.setCell ⟨w0.heap.size + 1, 0, none⟩ v5).heap[w0.heap.size]? = some (.cells [Value.int .i64 ((i / 2 ^ k : Nat) : Int)].toArray 3 (0, 0)) := (Below.heap_setCell _ _ _ _ (by simp)).trans x3
    have := heap_setCell_row (i := 0) (.int .i64 (q : Int)) e
    simpa using this
  · refine (Below.heap_setCell _ _ _ _ (by simp)).trans ?_
    have := heap_setCell_row (cs := [v]) (i := 0) v5 x4
    simpa using this
  · rw [hP, List.length_append]
    have k1 := hown.kept h1 (by
      cases hv : v5.ownBlock with
      | none => exact .inl rfl
      | some b => exact .inr (fun e => by have := (hown.lt b hv).1; have := Option.some.inj e; omega))
    exact k1.kept h2 (by
      cases hv : v5.ownBlock with
      | none => exact .inl rfl
      | some b => exact .inr (fun e => by have := (hown.lt b hv).1; have := Option.some.inj e; omega))
  · refine (((KeepsOthers.alloc V _).trans (KeepsOthers.of_grownBy hg (fun j o e ho => ?_))).trans (KeepsOthers.setCell _ _ _)).trans (KeepsOthers.setCell _ _ _)
    rcases h.own.2 with ⟨rfl, _⟩ | ⟨g, cap, cur, rfl, _, hgc, _⟩
    · cases e
    · have hgj : g = j := by simpa [Value.ownBlock] using e
      subst hgj
      rw [Below.heap_alloc V _ _ (Array.getElem?_eq_some_iff.1 hgc).1, hgc] at ho
      cases ho; rfl
  · intro r hr hv e1 e2
    exact (Below.heap_setCell _ _ _ _ (by simpa using e1)).trans ((Below.heap_setCell _ _ _ _ (by simpa using e2)).trans ((hg.block r (by rw [size_alloc]; omega) (fun e => hv e.symm)).trans (Below.heap_alloc V _ _ hr)))

section
attribute [local go_sem] Oper.semAt_some

set_option maxHeartbeats 4000000 in
theorem mprove_any (a : Option Addr) (n cap i : Nat) (ts : List Bytes) (w : World) (hG : Glob w) (hl : IsBs w a n cap ts) (hi : i < n) (hm : n ≤ 100) (ht : ∀ t ∈ ts, 0 < t.length ∧ t.length ≤ 1000) :
    Calls Tryd.prog 27 #[.slice a n cap, .int .i64 i] w fun e w' => ∃ K v, e = .returned (.tuple #[v, .int .i64 0]) ∧ Seal ((rowN (ts.map leafD) K).length ≤ 1 ∧ (∀ k, k < K → 1 < (rowN (ts.map leafD) k).length) ∧
      w'.ownsRow w.heap.size 25 32 v (pathB (ts.map leafD) i (K + 1)).length (dcells (pathB (ts.map leafD) i (K + 1))) ∧ Below w.heap.size w w') := by
  obtain ⟨X, hX⟩ : ∃ X : World, X = (w.alloc (.cells #[.int .i64 i] 3)).alloc (.cells #[.slice none 0 0] 51) := ⟨_, rfl⟩
  have hXb : Below w.heap.size w X := by rw [hX]; exact ((Below.refl _ w).alloc (Nat.le_refl _) _).alloc (by simp) _
  have hX3 : X.heap[w.heap.size]? = some (.cells #[.int .i64 i] 3 (0, 0)) := by rw [hX]; exact heap_alloc2_old w _ _
  have hX4 : X.heap[w.heap.size + 1]? = some (.cells #[.slice none 0 0] 51 (0, 0)) := by rw [hX]; exact heap_alloc2_new w _ _
  have hXs : X.heap.size = w.heap.size + 2 := by rw [hX]; simp
  obtain ⟨Y, hY⟩ : ∃ Y : World, Y = X.alloc (.cells #[.slice a n cap] 54) := ⟨_, rfl⟩
  have hYb : Below w.heap.size w Y := by rw [hY]; exact hXb.alloc hXb.size _
  have hYs : Y.heap.size = w.heap.size + 3 := by rw [hY, size_alloc, hXs]
  have hY3 : Y.heap[w.heap.size]? = some (.cells #[.int .i64 i] 3 (0, 0)) := by rw [hY]; exact (Below.heap_alloc X _ _ (by omega)).trans hX3
  have hY4 : Y.heap[w.heap.size + 1]? = some (.cells #[.slice none 0 0] 51 (0, 0)) := by rw [hY]; exact (Below.heap_alloc X _ _ (by omega)).trans hX4
  have hYc : Y.cell? ⟨X.heap.size, 0, none⟩ = some (.slice a n cap) := by rw [hY, cell_of_row _ _ _ _ _ _ (heap_alloc_new X _)]; rfl
  have HSeq := Seal.mk (rows_mem 2 X.heap.size a n cap ts Y (hG.below hYb) hYc (hl.of_heap hYb) (by omega) hm ht)
  have hr : Calls Tryd.prog 67 #[.slice a n cap] X fun e w' => e = .returned (.func (.func 98) #[] #[.pointer (some ⟨X.heap.size, 0, none⟩)]) ∧ Y = w' := by rw [hY]; exact mrows_any a n cap X
  have HRows := Seal.mk hr
  have HY := Seal.mk (And.intro hYb (And.intro hYs (And.intro hY3 hY4)))
  have R32 : ∀ d ∈ ts.map leafD, d.length = 32 := by intro d hd; obtain ⟨t, _, rfl⟩ := List.mem_map.1 hd; exact leafD_len t
  have R0 : (ts.map leafD).length = n := by rw [List.length_map, hl.llen]
  have HR := Seal.mk (And.intro R32 (And.intro R0 (And.intro hi hm)))
  have HGl : Seal (∀ r, globB r → r < w.heap.size) := ⟨fun r hr => by
    rcases hr with rfl | rfl
    · exact block_lt_of_cell (hG.start 0 _ (List.getElem?_eq_getElem (by decide)))
    · exact block_lt_of_cell (hG.nums 0 _ (List.getElem?_eq_getElem (by decide)))⟩
  have q1 : ¬ (65536 : Int) < (n : Int) := by omega
  have q2 : ¬ (i : Int) < 0 := by omega
  have q3 : (i : Int) < (n : Int) := by omega
  obtain ⟨R, hR⟩ : ∃ R, R = ts.map leafD := ⟨_, rfl⟩
  have c3 : X.cell? ⟨w.heap.size, 0, none⟩ = some (.int .i64 i) := by rw [cell_of_row _ _ _ _ _ _ hX3]; rfl
  rw [← hR] at HSeq HR ⊢
  clear hXb hX3 hX4 hYb hYs hY3 hY4 hYc hr R32 R0 hl hG hXs ht hm hR hi
  refine (callsIn_wide (n := 3)).1 ?_
  refine callsIn_of_wp_marks Tryd.func27 rfl trivial ?_ rfl
  simp only [Tryd.ntmps27, List.size_toArray, List.length_cons, List.length_nil, Nat.reduceAdd, Nat.reduceSub, Array.replicate_succ, Array.replicate_zero, List.push_toArray, List.append_toArray, List.nil_append, List.cons_append]
  refine wpIn_wide.2 ?_
  go_upto_region 1 with (fail)
  rw [← hX]
  clear hX
  go_wp2_with fail
  refine HRows.out.mono ?_
  rintro e w1 ⟨rfl, rfl⟩
  clear HRows hY c3
  obtain ⟨gx, hgx⟩ : ∃ gx, gx = X.heap.size := ⟨_, rfl⟩
  rw [← hgx] at HSeq ⊢
  clear hgx
  go_wp2_with fail
  refine (wpIn_wide (n := 3)).1 ?_
  refine wpIn_rangeFunc_mem2 rfl (by decide) (gf := 98) (lb := #[.pointer (some ⟨gx, 0, none⟩)]) rfl trivial (enters_of Tryd.func98 (by kernel_rfl) rfl)
    HSeq.out ?mine (fun x => rfl) ?gee
    (fun pre W => ∃ v, PvRel R i w Y.heap.size pre.length v W)
    ?own ?none ⟨_, ⟨by show Y.heap[w.heap.size]? = some (.cells #[.int .i64 ((i / 2 ^ 0 : Nat) : Int)] 3 (0, 0)); rw [Nat.pow_zero, Nat.div_one]; exact HY.out.2.2.1, HY.out.2.2.2, World.ownsRow_nil _ _ _ _, HY.out.1, Nat.le_refl _⟩⟩
    (fun x => { tmps := #[.slice a n cap, .int .i64 i, undef, .pointer (some ⟨w.heap.size, 0, none⟩), .pointer (some ⟨w.heap.size + 1, 0, none⟩), .int .i64 0, (.slice (some ⟨x.1, x.2.1, none⟩) x.2.2.1 x.2.2.2), undef, .slice a n cap, .int .i64 n, .bool false, .bool false, .int .i64 i, .bool false, .bool false, .bool false, .int .i64 i, .slice a n cap, .int .i64 n, .bool false, .bool false, .slice a n cap, (.func (.func 98) #[] #[.pointer (some ⟨gx, 0, none⟩)]), (.slice (some ⟨x.1, x.2.1, none⟩) x.2.2.1 x.2.2.2), undef, undef, undef, undef, undef, undef, undef, undef, undef, undef, undef, undef, undef, undef, undef, undef], defers := [] }) ?assign ?body ?done
  case mine =>
    intro r hr
    have h1 := HGl.out r hr
    have h2 := HY.out.2.1
    omega
  case gee =>
    rintro sz pre ⟨xg, xo, xn, xc⟩ A B' hsz ⟨e1, e2, e3, e4, e5, e6⟩ hg ho
    dsimp only at e1 e2 e3 e4 e5 e6
    refine ⟨e1, e2, e3, e4, Nat.lt_of_lt_of_le e5 hg.size, ?_⟩
    exact rangeAt_grown e6 hg (by intro e; have := Option.some.inj e; omega)
  case own =>
    rintro pre A B' ⟨v, hA⟩ hg ho
    have h2 := HY.out.2.1
    exact ⟨v, hA.grown hg (fun b e => by have := Option.some.inj e; subst this; exact ⟨by omega, ho⟩)⟩
  case none =>
    rintro pre A B' ⟨v, hA⟩ hg
    exact ⟨v, hA.grown hg (fun b e => by cases e)⟩
  case assign =>
    intro t x W K hK
    obtain ⟨xg, xo, xn, xc⟩ := x
    dsimp only at hK
    unfold encR
    gi_wp2
    exact hK
  case body =>
    rintro t pre x W0 W ⟨v0, hA0⟩ ⟨v, hA⟩ hkeep hw1 hw2 hGR hlen
    obtain ⟨xg, xo, xn, xc⟩ := x
    have hvv : v0 = v := by
      have h1 := hkeep (w.heap.size + 1) (by have := HY.out.2.1; omega) (by have := HY.out.2.1; omega)
      rw [hA.c4, hA0.c4] at h1
      simpa using h1.symm
    subst hvv
    have vlt0 := hA0.own.lt
    have c3 : W.cell? ⟨w.heap.size, 0, none⟩ = some (.int .i64 ((i / 2 ^ pre.length : Nat) : Int)) := by rw [cell_of_row _ _ _ _ _ _ hA.c3]; rfl
    have c4 : W.cell? ⟨w.heap.size + 1, 0, none⟩ = some v0 := by rw [cell_of_row _ _ _ _ _ _ hA.c4]; rfl
    have f3 : W.frozen? ⟨w.heap.size, 0, none⟩ = false := frozen_of_row _ _ _ _ _ hA.c3
    obtain ⟨j, hj⟩ : ∃ j, j = i / 2 ^ pre.length := ⟨_, rfl⟩
    have hjn : j < n := by rw [hj]; exact Nat.lt_of_le_of_lt (Nat.div_le_self _ _) HR.out.2.2.1
    have hj2 : i / 2 ^ (pre.length + 1) = j / 2 := by rw [hj, Nat.pow_succ, Nat.div_div_eq_div_mul]
    rw [← hj] at c3
    have hn100 := HR.out.2.2.2
    have hxor := i64_xor1 j (by omega)
    obtain ⟨o, ho⟩ : ∃ o, o = j ^^^ 1 := ⟨_, rfl⟩
    rw [← ho] at hxor
    have hGR' := hGR
    obtain ⟨e1, e2, e3, e4, e5, e6⟩ := hGR
    dsimp only at e1 e2 e3 e4 e5 e6
    have hpl := pathB_len R i pre.length
    have hdec : pre.length ≤ 101 := by omega
    have HA := Seal.mk hA
    have HJ := Seal.mk (And.intro hj (And.intro hj2 ho))
    have HGR := Seal.mk hGR'
    have HZ := Seal.mk (And.intro hw1 (And.intro hw2 (And.intro e4 e5)))
    have hq : (2 : Int) ≠ 0 := by decide
    by_cases hox : o < xn
    · have q5 : (o : Int) < (xn : Int) := by omega
      have q6 : (0 : Int) ≤ (o : Int) := by omega
      have rD := range_dg e6 (rowN_32 HR.out.1 pre.length) (i := o) (by omega)
      have d32 := getD_len (rowN_32 HR.out.1 pre.length) (i := o) (by omega)
      have HP : Seal (pathB R i (pre.length + 1) = pathB R i pre.length ++ [(rowN R pre.length).getD o []]) := ⟨by
        show pathB R i pre.length ++ _ = _
        rw [← hj, ← ho, if_pos (by omega)]⟩
      obtain ⟨D, hD⟩ : ∃ D, D = (rowN R pre.length).getD o [] := ⟨_, rfl⟩
      rw [← hD] at rD d32 HP
      have iD := dg_info D d32
      have uD := Tryd.underlying25
      clear hA0 hA hj hj2 ho hGR' e1 e2 e3 e4 e5 e6 hD hkeep hw1 hw2
      gi_wp2_with fail
      refine wpIn_region_heldT 7 (S := fun w' => w'.cell? ⟨w.heap.size + 1, 0, none⟩ = some v0 ∧ w'.rangeAt xg (xo + o * 32) (D.map B)) (by kernel_rfl) (by rintro ⟨_, _, h⟩; exact h) (by kernel_rfl) ⟨c4, rD⟩ (fun hHeld => ?_)
      obtain ⟨V, hV⟩ : ∃ V, V = W.drew := ⟨_, rfl⟩
      have HAV : Seal (PvRel R i w Y.heap.size pre.length v0 V) := ⟨by rw [hV]; exact HA.out.grown (r := none) ⟨rfl, rfl, rfl, Nat.le_refl _, fun _ _ _ => rfl⟩ (fun b e => by cases e)⟩
      have HVW : Seal (V.heap = W.heap) := ⟨by rw [hV]; rfl⟩
      rw [← hV] at hHeld ⊢
      clear hV c4 rD
      refine take_t 0 ?_ rfl (by kernel_rfl) (by kernel_rfl) (by kernel_rfl) (by kernel_rfl) (fun _ _ _ h => h) (Or.inl ⟨by kernel_rfl, ?_⟩) (by assumption) ?_
      rotate_left
      · (intro w hSw; (try dsimp only at hSw); go_simp; try (with_reducible rfl))
      try simp only [Act.put, List.setIfInBounds_toArray, List.set_cons_zero, List.set_cons_succ]
      refine take_t 1 ?_ rfl (by kernel_rfl) (by kernel_rfl) (by kernel_rfl) (by kernel_rfl) (fun _ _ _ h => h) (Or.inl ⟨by kernel_rfl, ?_⟩) (by assumption) ?_
      rotate_left
      · (intro w hSw; (try dsimp only at hSw); go_simp; try (with_reducible rfl))
      try simp only [Act.put, List.setIfInBounds_toArray, List.set_cons_zero, List.set_cons_succ]
      refine take_t 2 ?_ rfl (by kernel_rfl) (by kernel_rfl) (by kernel_rfl) (by kernel_rfl) (fun _ _ _ h => h) (Or.inl ⟨by kernel_rfl, ?_⟩) (by assumption) ?_
      rotate_left
      · (intro w hSw; (try dsimp only at hSw); go_simp; try (with_reducible rfl))
      try simp only [Act.put, List.setIfInBounds_toArray, List.set_cons_zero, List.set_cons_succ]
      refine take_t 3 ?_ rfl (by kernel_rfl) (by kernel_rfl) (by kernel_rfl) (by kernel_rfl) (fun _ _ _ h => h) (Or.inl ⟨by kernel_rfl, ?_⟩) (by assumption) ?_
      rotate_left
      · (intro w hSw; (try dsimp only at hSw); go_simp; try (with_reducible rfl))
      try simp only [Act.put, List.setIfInBounds_toArray, List.set_cons_zero, List.set_cons_succ]
      refine take_t 4 _ rfl (by kernel_rfl) (by kernel_rfl) (by kernel_rfl) (by kernel_rfl) (fun _ _ _ h => h) (yieldsIf_load_mid (by kernel_rfl) 25 (.tmp 33) rfl xg (xo + o * 32) rfl (D.map B) _ (fun w hSw => hSw.2) uD rfl iD) (by assumption) ?_
      try simp only [Act.put, List.setIfInBounds_toArray, List.set_cons_zero, List.set_cons_succ]
      refine oper_t 5 (.slice (some ⟨V.heap.size, 0, none⟩) 1 1) (V.alloc (.cells (D.map B).toArray 25)) rfl (by kernel_rfl) (by kernel_rfl) (by go_simp; rw [fold_all (by simp [d32])]) ⟨cell_allocd hHeld.1 _, World.rangeAt_alloc hHeld.2 _⟩ (fun hHeld2 => ?_)
      clear hHeld
      try simp only [Act.put, List.setIfInBounds_toArray, List.set_cons_zero, List.set_cons_succ]
      have hbz := HAV.out.big
      have hYs := HY.out.2.1
      obtain ⟨v5, w5, hr5, hown5, hg5⟩ := run_app_dg (V.alloc (.cells (D.map B).toArray 25)) 51 Y.heap.size v0 (pathB R i pre.length).length (pathB R i pre.length) D V.heap.size (HAV.out.own.alloc _) (rangeAt_row (heap_alloc_new V _)) d32 (by omega) (by rw [size_alloc]; omega)
      have HR5 := Seal.mk (HAV.out.step1 (q := j / 2) (by omega) HP.out HJ.out.2.1 hown5 hg5)
      obtain ⟨x3, x4, _, _⟩ := HAV.out.heap5 (by omega) hg5
      rw [← HJ.out.1] at x3
      have y3 : w5.cell? ⟨w.heap.size, 0, none⟩ = some (.int .i64 (j : Int)) := by rw [cell_of_row _ _ _ _ _ _ x3]; rfl
      have y4 : w5.cell? ⟨w.heap.size + 1, 0, none⟩ = some v0 := by rw [cell_of_row _ _ _ _ _ _ x4]; rfl
      have g3 : w5.frozen? ⟨w.heap.size, 0, none⟩ = false := frozen_of_row _ _ _ _ _ x3
      have g4 : w5.frozen? ⟨w.heap.size + 1, 0, none⟩ = false := frozen_of_row _ _ _ _ _ x4
      have hne : v0.ownBlock ≠ some xg := fun e => by have := (vlt0 xg e).2; have := HZ.out.2.2.1; omega
      have rD5 : w5.rangeAt xg (xo + o * 32) (D.map B) := rangeAt_grown hHeld2.2 hg5 (fun e => hne e.symm)
      obtain ⟨a5, n5, q5', rfl⟩ := slice_form hown5
      refine oper_t 6 (.slice a5 n5 q5') w5 rfl (by kernel_rfl) (by kernel_rfl) (exec_append1 (.tmp 30) (.tmp 35) 51 51 51 rfl rfl _ _ _ rfl rfl hr5) ⟨y4, rD5⟩ (fun hHeld3 => ?_)
      clear hHeld2 hHeld3 hr5 hown5 hg5 x3 x4 rD5
      try simp only [Act.put, List.setIfInBounds_toArray, List.set_cons_zero, List.set_cons_succ]
      refine last_t (w5.setCell ⟨w.heap.size + 1, 0, none⟩ (.slice a5 n5 q5')) rfl (by kernel_rfl) (by kernel_rfl) (by kernel_rfl) (by go_simp) ?_
      have z3 : (w5.setCell ⟨w.heap.size + 1, 0, none⟩ (.slice a5 n5 q5')).cell? ⟨w.heap.size, 0, none⟩ = some (.int .i64 (j : Int)) := (World.cell?_of_block (w := w5) (Below.heap_setCell _ _ _ _ (by simp))).trans y3
      have u3 : (w5.setCell ⟨w.heap.size + 1, 0, none⟩ (.slice a5 n5 q5')).frozen? ⟨w.heap.size, 0, none⟩ = false := (World.frozen?_of_block (w := w5) (Below.heap_setCell _ _ _ _ (by simp))).trans g3
      clear y3 y4 g3 g4
      gi_wp2
      obtain ⟨r1, r2, r3, r4⟩ := HR5.out
      have hz := HZ.out
      rw [show ((j / 2 : Nat) : Int) = (j : Int) / 2 from by omega] at r1 r2 r3 r4
      refine ⟨⟨by rw [← HVW.out]; exact r2.size, fun k o' hk ho' => r2.same k o' (by rw [HVW.out]; exact hk) ho'⟩, fun r hr => (r3 r (by have := HGl.out r hr; omega) (fun e => by have := (HAV.out.own.lt r e).1; have := HGl.out r hr; omega) (by have := HGl.out r hr; omega) (by have := HGl.out r hr; omega)).trans (by rw [HVW.out]), ?_, ?_⟩
      · obtain ⟨e1, e2, e3, e4, e5, e6⟩ := HGR.out
        dsimp only at e4 e5
        have hsV : V.heap.size = W.heap.size := by rw [HVW.out]
        have hb : ((w5.setCell ⟨w.heap.size + 1, 0, none⟩ (.slice a5 n5 q5')).setCell ⟨w.heap.size, 0, none⟩ (.int .i64 ((j : Int) / 2))).heap[xg]? = W.heap[xg]? := (r3 xg (by omega) hne (by omega) (by omega)).trans (by rw [HVW.out])
        exact ⟨e1, e2, e3, e4, by dsimp only; omega, fun k u hu => (World.cell?_of_block (w := W) hb).trans (e6 k u hu)⟩
      · show ∃ v, PvRel R i w Y.heap.size (pre ++ [(xg, xo, xn, xc)]).length v _
        rw [List.length_append]
        exact ⟨_, r1⟩
    · have q5 : ¬ (o : Int) < (xn : Int) := by omega
      have HP : Seal (pathB R i (pre.length + 1) = pathB R i pre.length) := ⟨by
        show pathB R i pre.length ++ _ = _
        rw [← hj, ← ho, if_neg (by omega), List.append_nil]⟩
      clear hA0 hA hj hj2 ho hGR' e1 e2 e3 e4 e5 e6 hkeep hw1 hw2 c4
      have HR5 := Seal.mk (HA.out.step0 (q := j / 2) (by have := HY.out.2.1; omega) HP.out HJ.out.2.1)
      gi_wp2
      obtain ⟨r1, r2, r3⟩ := HR5.out
      have hYs := HY.out.2.1
      rw [show ((j / 2 : Nat) : Int) = (j : Int) / 2 from by omega] at r1 r2 r3
      have hz := HZ.out
      refine ⟨r2, fun r hr => r3 r (by have := HGl.out r hr; omega), ?_, ?_⟩
      · obtain ⟨e1, e2, e3, e4, e5, e6⟩ := HGR.out
        dsimp only at e4 e5
        exact ⟨e1, e2, e3, e4, Nat.lt_of_lt_of_le e5 r2.size, fun k u hu => (World.cell?_of_block (w := W) (r3 xg (by omega))).trans (e6 k u hu)⟩
      · show ∃ v, PvRel R i w Y.heap.size (pre ++ [(xg, xo, xn, xc)]).length v _
        rw [List.length_append]
        exact ⟨_, r1⟩
  case done =>
    rintro xs W ⟨K, hK1, hK2, hK3⟩ ⟨v, hA⟩ hw1 hD
    have hA0 : PvRel R i w Y.heap.size xs.length v W := hA
    rw [hK1] at hA0
    have c4 : W.cell? ⟨w.heap.size + 1, 0, none⟩ = some v := by rw [cell_of_row _ _ _ _ _ _ hA0.c4]; rfl
    have f4 : W.frozen? ⟨w.heap.size + 1, 0, none⟩ = false := frozen_of_row _ _ _ _ _ hA0.c4
    have HA := Seal.mk hA0
    have HK := Seal.mk (And.intro hK2 hK3)
    obtain ⟨a5, n5, q5, rfl⟩ := slice_form hA0.own
    have x4 := heap_setCell_row (cs := [.slice a5 n5 q5]) (i := 0) (.slice a5 n5 q5) hA0.c4
    have HX4 : Seal ((W.setCell ⟨w.heap.size + 1, 0, none⟩ (.slice a5 n5 q5)).heap[w.heap.size + 1]? = some (.cells #[.slice a5 n5 q5] 51 (0, 0))) := ⟨by simpa using x4⟩
    clear hA hA0 hK1 hK2 hK3 x4
    go_wp2
    have hYs := HY.out.2.1
    have hK' : (W.setCell ⟨w.heap.size + 1, 0, none⟩ (.slice a5 n5 q5)).heap[Y.heap.size]? = some (.deferred (some [])) := (Below.heap_setCell _ _ _ _ (by simp; omega)).trans hD
    refine ⟨by simp, .inl ⟨_, _, rfl, run_takeDeferred hK', ?_⟩⟩
    obtain ⟨Z, hZ⟩ : ∃ Z, Z = W.setCell ⟨w.heap.size + 1, 0, none⟩ (.slice a5 n5 q5) := ⟨_, rfl⟩
    have hZ4 := HX4.out
    rw [← hZ] at hK' hZ4 ⊢
    have hc5 : (Z.putObj Y.heap.size (.deferred none)).cell? ⟨w.heap.size + 1, 0, none⟩ = some (.slice a5 n5 q5) := by
      rw [cell_of_row _ _ _ _ _ _ ((World.putObj_heap_other (by omega)).trans hZ4)]; rfl
    obtain ⟨_, _, hown, hbel, hbig⟩ := HA.out
    have hZb : Below w.heap.size w Z := by rw [hZ]; exact hbel.setCell (p := ⟨w.heap.size + 1, 0, none⟩) (Nat.le_add_right _ _) _
    have hown2 : Z.ownsRow Y.heap.size 25 32 (.slice a5 n5 q5) (pathB R i (K + 1)).length (dcells (pathB R i (K + 1))) := by
      rw [hZ]
      exact hown.kept (grownBy_setCell' W (w.heap.size + 1) (.slice a5 n5 q5)) (by
        cases hv : (Value.slice a5 n5 q5).ownBlock with
        | none => exact .inl rfl
        | some b => exact .inr (fun e => by have := (hown.lt b hv).1; have := Option.some.inj e; omega))
    have hown3 : (Z.putObj Y.heap.size (.deferred none)).ownsRow Y.heap.size 25 32 (.slice a5 n5 q5) (pathB R i (K + 1)).length (dcells (pathB R i (K + 1))) := hown2.kept (grownBy_putObj' _ _ _) (by
      rcases hown2.2 with ⟨e, _⟩ | ⟨g, cap, cur, e, _, hgc, _⟩
      · rw [e]; exact .inl rfl
      · rw [e]; exact .inr (fun e' => by
          have := Option.some.inj e'
          simp [Value.ownBlock] at e'
          rw [← e'] at hK'
          rw [hK'] at hgc; cases hgc))
    refine ⟨.tuple #[.slice a5 n5 q5, .int .i64 0], by simp [results, Tryd.results27, go_sem, hc5], K, .slice a5 n5 q5, rfl, ⟨HK.out.1, HK.out.2, ?_, ?_⟩⟩
    · refine ⟨hown3.1, ?_⟩
      rcases hown3.2 with h | ⟨g, cap, cur, e, hge, h⟩
      · exact .inl h
      · exact .inr ⟨g, cap, cur, e, by omega, h⟩
    · exact hZb.trans (belowK_b (w := w) (Nat.le_refl _) _ Y.heap.size _ _ (by omega) hK' rfl rfl)
end

section
/-- as SeqCells, and what is yielded is known from what has been yielded -/
def SeqStep {α : Type} (F : Fence) (n : Nat) (P : Program) (g : Nat) (lb : Array Value) (encs : α → Array Value) (G : List α → α → Prop) (mine : Nat → Prop) (S : List α → Prop) (N : Nat) (w : World) : Prop :=
  ∀ (l : Nat) (J : List α → World → Prop) (W : World), Below w.heap.size w W →
    (∀ s A B row, J s A → A.grownBy B row → (∀ r, row = some r → mine r) → J s B) →
    (∀ pre x W1, J pre W1 → pre.length < N → G pre x → YieldAt F (n - 1) P l (encs x) W1 fun e W' =>
      e = .returned (.bool true) ∧ J (pre ++ [x]) W' ∧ ∀ r, mine r → W'.heap[r]? = W1.heap[r]?) →
    J [] W →
    CallsIn F n P g (#[.func (.yield l) #[] #[]] ++ lb) W fun e W' => (∃ v, e = .returned v) ∧ ∃ xs, S xs ∧ J xs W'

variable {F : Fence} {n : Nat} {P : Program}
theorem wpIn_rangeFunc_step {α : Type} {g : Operand} {ps : Array Tmp} {assign body : Code} {Q : Exit → Act → World → Prop} {a : Act} {w : World}
    (hro : F.round = none) (h1 : 1 ≤ n) {gf : Nat} {lb : Array Value} (hg : a.eval g = .func (.func gf) #[] lb) (hFg : F.fn gf) (eg : ∀ args w, (callFunc gf args).run P w = .ok (.enter gf args) w)
    {encs : α → Array Value} {G : List α → α → Prop} {mine : Nat → Prop} {S : List α → Prop} {N : Nat} (hseq : SeqStep F (n - 1) P gf lb encs G mine S N w) (hmine : ∀ r, mine r → r < w.heap.size) (hps : ∀ x, (encs x).size = ps.size)
    (I : List α → World → Prop)
    (hI : ∀ s A B row, I s A → A.grownBy B row → (∀ r, row = some r → mine r ∨ (w.heap.size ≤ r ∧ ∃ o : Obj, A.heap[r]? = some o ∧ o.isCells = false)) → I s B)
    (h0 : I [] w)
    (hround : ∀ (l : Nat) (pre : List α) (x : α) (W : World), I pre W → pre.length < N → G pre x → w.heap.size + 1 < W.heap.size →
      assign.wpIn (F.inRound l) (n - 1 - 1) P (Exit.then (fun b W' => KeepsOthers W W' ∧ (∀ r, mine r → W'.heap[r]? = W.heap[r]?) ∧
        ∀ (Wb : World), W'.grownBy Wb (some (w.heap.size + 1)) → Wb.heap.size = W'.heap.size → (∃ o : Obj, W'.heap[w.heap.size + 1]? = some o ∧ o.isCells = false) → body.wpIn (F.inRound l) (n - 1 - 1) P (cellsPost mine I (pre ++ [x]) Wb) b Wb) (fun _ _ _ => False))
        { tmps := (ps.zip (encs x)).foldl (fun t (p, v) => t.setIfInBounds p v) a.tmps, defers := [] } W)
    (hdone : ∀ (D : Nat) (xs : List α) (W : World), w.heap.size ≤ D → S xs → I xs W → W.heap[D]? = some (.deferred (some [])) → Q .normal { a with defers := { target := .collected D, args := #[] } :: a.defers } W) :
    (Code.rangeFunc g ps assign body).wpIn F n P Q a w := by
  refine wpIn_rangeFunc ?_
  intro fn hfn
  rw [hro]
  have hIp : ∀ {s : List α} {W : World} {l : Nat} {o : Obj} (o' : Obj), I s W → w.heap.size ≤ l → W.heap[l]? = some o → o.isCells = false → I s (W.putObj l o') :=
    fun {s W l o} o' hs hB hl ho => hI s W _ (some l) hs (grownBy_putObj' W l o') (fun r e => by cases e; exact .inr ⟨hB, o, hl, ho⟩)
  have hIa : ∀ {s : List α} {W : World} (o : Obj), I s W → I s (W.alloc o) :=
    fun {s W} o hs => hI s W _ none hs (World.grownBy_alloc W o none) (fun r e => by cases e)
  obtain ⟨rec, hrec⟩ : ∃ rec : LoopState → Option Code → Loop, rec = fun st pe => { state := st, pending := pe, fn, tmps := a.tmps, params := ps, assign, body, defers := w.heap.size } := ⟨_, rfl⟩
  obtain ⟨W1, hW1⟩ : ∃ W1, (w.alloc (.deferred (some []))).alloc (.loop (rec .ready none)) = W1 := ⟨_, rfl⟩
  have hL1 : W1.heap[w.heap.size + 1]? = some (.loop (rec .ready none)) := by
    rw [← hW1]; have := World.alloc_heap_new (w.alloc (.deferred (some []))) (.loop (rec .ready none)); rwa [World.size_alloc] at this
  have hK1 : W1.heap[w.heap.size]? = some (.deferred (some [])) := by
    rw [← hW1]; exact (Below.heap_alloc _ _ _ (by simp)).trans (World.alloc_heap_new w _)
  have hI1' : I [] W1 := by rw [← hW1]; exact hIa _ (hIa _ h0)
  have hb1 : Below w.heap.size w W1 := by
    rw [← hW1]; exact ((Below.refl _ w).alloc (Nat.le_refl _) _).alloc (by simp) _
  refine ⟨w.heap.size + 1, [{ target := .collected w.heap.size, args := #[] }], W1, { target := .fn (.func gf) lb, args := #[.func (.yield (w.heap.size + 1)) #[] #[]] }, W1, gf,
    #[.func (.yield (w.heap.size + 1)) #[] #[]] ++ lb, W1, ?_, ?_, ?_, ?_, fun _ => h1, ?_⟩
  · rw [← hW1, hrec]; exact run_enterLoop_outer _ _ _ _ _
  · simp only [resolve, hg]
    simp [go_sem]
  · intro f' hf'; simp [Target.leads] at hf'; subst hf'; exact hFg
  · simp [invoke, go_sem, eg]
  · refine (hseq (w.heap.size + 1)
      (fun pre W => I pre W ∧ W.heap[w.heap.size + 1]? = some (.loop (rec .ready none)) ∧ W.heap[w.heap.size]? = some (.deferred (some [])))
      W1 hb1 ?_ ?_ ⟨hI1', hL1, hK1⟩).mono ?_
    · rintro s A B row ⟨hs1, hs2, hs3⟩ hg' hr
      refine ⟨hI s A B row hs1 hg' (fun r e => .inl (hr r e)), (hg'.block _ (Array.getElem?_eq_some_iff.1 hs2).1 ?_).trans hs2, (hg'.block _ (Array.getElem?_eq_some_iff.1 hs3).1 ?_).trans hs3⟩
      · intro e; have := hmine _ (hr _ e.symm); omega
      · intro e; have := hmine _ (hr _ e.symm); omega
    · rintro pre x W ⟨hi, hl, hk⟩ hlen hgx
      have hy := run_yield (P := P) (args := encs x) hl (by rw [hrec]; exact hps x)
      rw [hrec] at hy
      refine ⟨fn, _, assign, body, hy, roundIn_of_wpIn hfn (wpIn_mono (hround _ pre x W hi hlen hgx (Array.getElem?_eq_some_iff.1 hl).1) ?_)⟩
      rintro e b Wa hp
      cases e with
      | normal =>
        obtain ⟨hka, hma, hB⟩ := hp
        have hla := hka.same _ _ hl rfl
        have hkk := hka.same _ _ hk rfl
        have hlt : w.heap.size + 1 < Wa.heap.size := (Array.getElem?_eq_some_iff.1 hla).1
        refine ⟨_, run_beginRound hla (by rw [hrec]), ?_⟩
        have hl2 : (Wa.putObj (w.heap.size + 1) (.loop { rec .ready none with state := .busy })).heap[w.heap.size + 1]? = some (.loop { rec .ready none with state := .busy }) := World.putObj_heap_same hlt
        have hk2 : (Wa.putObj (w.heap.size + 1) (.loop { rec .ready none with state := .busy })).heap[w.heap.size]? = some (.deferred (some [])) := (World.putObj_heap_other (by omega)).trans hkk
        refine wpIn_mono (hB _ (grownBy_putObj' Wa _ _) (by simp [World.putObj]) ⟨_, hla, rfl⟩) ?_
        rintro e a3 W3 hp
        cases e with
        | normal =>
          obtain ⟨hk3, hm3, hi3⟩ := hp
          have hl3 := hk3.same _ _ hl2 rfl
          have hr := run_endRound (P := P) none hl3
          rw [hrec] at hr hl3
          refine ⟨_, _, hr, rfl, ⟨hIp _ hi3 (by omega) hl3 rfl, ?_, (World.putObj_heap_other (by omega)).trans (hk3.same _ _ hk2 rfl)⟩, fun r h => ?_⟩
          · rw [hrec]; exact World.putObj_heap_same (Array.getElem?_eq_some_iff.1 hl3).1
          · have := hmine r h
            exact (World.putObj_heap_other (by omega)).trans ((hm3 r h).trans ((World.putObj_heap_other (by omega)).trans (hma r h)))
        | ret => exact hp.elim
        | exit id => exact hp.elim
        | goto t => exact hp.elim
        | panic ch => exact hp.elim
        | outgrown => exact hp.elim
      | ret => exact hp.elim
      | exit id => exact hp.elim
      | goto t => exact hp.elim
      | panic ch => exact hp.elim
      | outgrown => exact hp.elim
    · rintro e W2 ⟨⟨v, rfl⟩, xs, hS, hi, hl, hk⟩
      exact ⟨none, _, by have := run_endLoop (P := P) hl (by rw [hrec]; simp); rw [hrec] at this; exact this, hdone _ xs _ (Nat.le_refl _) hS (hIp _ hi (by omega) hl rfl) ((World.putObj_heap_other (by omega)).trans hk)⟩
end

section
variable {P : Program} {ops : Array Oper} {Q : Exit → Act → World → Prop} {md : Region.Mode} {S : World → Prop} {t : Nat} {dst : Option Tmp} {op : Op} {ty : TypeId} {pos : String} {after : Array Edge} {guard : Option (Nat × Bool)}
/-- a store that is not the last -/
theorem skip_t (i : Nat) {fuel : Nat} {listed : Array Bool} {a : Act} {w : World} (w' : World)
    (hi : ops[i]? = some { dst := dst, op := op, type := ty, pos := pos, after := after, guard := guard }) (hr : Region.ready md ops listed = [i])
    (hw : Region.wanted { dst := dst, op := op, type := ty, pos := pos, after := after, guard := guard } (yielded ops a.tmps) = true)
    (hrun : (execOp a.eval { dst := dst, op := op, type := ty, pos := pos, after := after, guard := guard }).run P w = .ok .skip w')
    (hS : S w') (hn : S w' → wpAnyT P md ops Q S t fuel (listed.setIfInBounds i true) (a.put dst undef) w') : wpAnyT P md ops Q S t (fuel + 1) listed a w :=
  readyT_one hr (wpOp_step hi (fun K hK => by
    rw [if_pos hw]
    unfold Oper.wp
    rw [hrun]
    exact hK _ _ ⟨fun _ => hS, hn hS⟩))
end

/-! ## the steps of a way -/
def nAt (n : Nat) : Nat → Nat
  | 0 => n
  | k + 1 => (nAt n k + 1) / 2
def stpE (n i : Nat) (k : Nat) : Array Value := #[.agg #[.bool (decide (nAt n k ≤ (i / 2 ^ k) ^^^ 1)), .bool ((i / 2 ^ k) % 2 == 0)]]
def stpS (n : Nat) (xs : List Nat) : Prop := nAt n xs.length ≤ 1 ∧ ∀ k, k < xs.length → 1 < nAt n k
def StRel (J : List Nat → World → Prop) (n i bn bi : Nat) (W : World) : Prop :=
  ∃ pre : List Nat, J pre W ∧ (∀ k, k < pre.length → 1 < nAt n k) ∧
    W.cell? ⟨bn, 0, none⟩ = some (.int .i64 (nAt n pre.length : Nat)) ∧ W.frozen? ⟨bn, 0, none⟩ = false ∧ W.cell? ⟨bi, 0, none⟩ = some (.int .i64 (i / 2 ^ pre.length : Nat)) ∧ W.frozen? ⟨bi, 0, none⟩ = false
theorem nAt_le (n : Nat) : ∀ k, 1 < n → nAt n k ≤ n
  | 0, _ => Nat.le_refl _
  | k + 1, h => by have := nAt_le n k h; show (nAt n k + 1) / 2 ≤ n; omega
theorem nAt_dec {n : Nat} : ∀ K, (∀ k, k < K → 1 < nAt n k) → nAt n K + K ≤ n
  | 0, _ => Nat.le_refl _
  | K + 1, h => by
    have h1 := nAt_dec K (fun k hk => h k (by omega))
    have h2 := h K (by omega)
    show (nAt n K + 1) / 2 + (K + 1) ≤ n
    omega

theorem StRel.next {J : List Nat → World → Prop} {n i bn bi : Nat} {W : World} (hne : bn ≠ bi) (hJ : ∀ (s : List Nat) (A B : World) (row : Option Nat), J s A → A.grownBy B row → (∀ (r : Nat), row = some r → r = bn ∨ r = bi) → J s B)
    {pre : List Nat} {x : Nat} (hall : ∀ k, k < (pre ++ [x]).length → 1 < nAt n k) (hJp : J (pre ++ [x]) W) {v u : Value}
    (hcn : W.cell? ⟨bn, 0, none⟩ = some v) (hfn : W.frozen? ⟨bn, 0, none⟩ = false) (hca : W.cell? ⟨bi, 0, none⟩ = some u) (hfa : W.frozen? ⟨bi, 0, none⟩ = false) :
    StRel J n i bn bi ((W.setCell ⟨bn, 0, none⟩ (.int .i64 (nAt n (pre ++ [x]).length : Nat))).setCell ⟨bi, 0, none⟩ (.int .i64 (i / 2 ^ (pre ++ [x]).length : Nat))) ∧
      ((W.setCell ⟨bn, 0, none⟩ (.int .i64 (nAt n (pre ++ [x]).length : Nat))).setCell ⟨bi, 0, none⟩ (.int .i64 (i / 2 ^ (pre ++ [x]).length : Nat))).cell? ⟨bn, 0, none⟩ = some (.int .i64 (nAt n (pre ++ [x]).length : Nat)) := by
  obtain ⟨N, hN⟩ : ∃ N : Int, N = (nAt n (pre ++ [x]).length : Nat) := ⟨_, rfl⟩
  obtain ⟨I, hI⟩ : ∃ I : Int, I = (i / 2 ^ (pre ++ [x]).length : Nat) := ⟨_, rfl⟩
  rw [← hN, ← hI]
  have g1 : W.grownBy (W.setCell ⟨bn, 0, none⟩ (.int .i64 N)) (some bn) := grown_setCell (grown_of_below (Below.refl _ W) _) _ _
  have g2 : (W.setCell ⟨bn, 0, none⟩ (.int .i64 N)).grownBy ((W.setCell ⟨bn, 0, none⟩ (.int .i64 N)).setCell ⟨bi, 0, none⟩ (.int .i64 I)) (some bi) := grown_setCell (grown_of_below (Below.refl _ _) _) _ _
  have c1 : (W.setCell ⟨bn, 0, none⟩ (.int .i64 N)).cell? ⟨bn, 0, none⟩ = some (.int .i64 N) := World.cell?_setCell_same' _ _ _ (by rw [hcn]; rfl)
  have c2 : (W.setCell ⟨bn, 0, none⟩ (.int .i64 N)).cell? ⟨bi, 0, none⟩ = some u := heap_of_cell_grown g1 hca (by intro e; cases e; exact hne rfl)
  have c3 : ((W.setCell ⟨bn, 0, none⟩ (.int .i64 N)).setCell ⟨bi, 0, none⟩ (.int .i64 I)).cell? ⟨bi, 0, none⟩ = some (.int .i64 I) := World.cell?_setCell_same' _ _ _ (by rw [c2]; rfl)
  have c4 : ((W.setCell ⟨bn, 0, none⟩ (.int .i64 N)).setCell ⟨bi, 0, none⟩ (.int .i64 I)).cell? ⟨bn, 0, none⟩ = some (.int .i64 N) := heap_of_cell_grown g2 c1 (by intro e; cases e; exact hne rfl)
  exact ⟨⟨pre ++ [x], hJ _ _ _ _ (hJ _ _ _ _ hJp g1 (fun r e => by cases e; exact .inl rfl)) g2 (fun r e => by cases e; exact .inr rfl), hall, by rw [c4, hN],
    by rw [World.frozen?_setCell, World.frozen?_setCell]; exact hfn, by rw [c3, hI], by rw [World.frozen?_setCell, World.frozen?_setCell]; exact hfa⟩, c4⟩

set_option maxHeartbeats 1000000 in
theorem steps_seq (m n i bn bi : Nat) (w : World) (hn : n ≤ 100) (hi : i < n) (hne : bn ≠ bi)
    (hcn : w.cell? ⟨bn, 0, none⟩ = some (.int .i64 n)) (hfn : w.frozen? ⟨bn, 0, none⟩ = false) (hci : w.cell? ⟨bi, 0, none⟩ = some (.int .i64 i)) (hfi : w.frozen? ⟨bi, 0, none⟩ = false) :
    SeqStep Fence.wide m Tryd.prog 126 #[.pointer (some ⟨bn, 0, none⟩), .pointer (some ⟨bi, 0, none⟩)] (stpE n i) (fun pre x => x = pre.length ∧ 1 < nAt n x ∧ ∀ k, k < pre.length → 1 < nAt n k) (fun r => r = bn ∨ r = bi) (stpS n) (n + 1) w := by
  intro l J W hW hJ hY h0
  refine callsIn_of_wp Tryd.func126 rfl trivial ?_ rfl
  simp only [Tryd.ntmps126, List.size_toArray, List.length_cons, List.length_nil, Nat.reduceAdd, Nat.reduceSub, Array.replicate_succ, Array.replicate_zero, List.push_toArray, List.append_toArray, List.nil_append, List.cons_append]
  have hlt := block_lt_of_cell hcn
  have hlt' := block_lt_of_cell hci
  have hY := Seal.mk hY
  have hJ := Seal.mk hJ
  have HN := Seal.mk (And.intro hn hi)
  have hR0 : Seal (StRel J n i bn bi W) := ⟨[], h0, fun k hk => (by simp at hk), (World.cell?_of_block (w := w) (hW.block bn hlt)).trans hcn,
    (World.frozen?_of_block (w := w) (hW.block bn hlt)).trans hfn, ((World.cell?_of_block (w := w) (hW.block bi hlt')).trans hci).trans (by simp), (World.frozen?_of_block (w := w) (hW.block bi hlt')).trans hfi⟩
  clear hlt hlt' hcn hfn hci hfi hn h0 hW hi
  gi_wp2
  gi_loopw [4] (fun _ wr => StRel J n i bn bi wr) (fun _ wr => (intOf ((wr.cell? ⟨bn, 0, none⟩).getD undef)).toNat)
  case atStart => exact hR0.out
  case round =>
    clear hR0
    obtain ⟨pre, hJp, hall, hcn, hfn, hci, hfi⟩ := hrel
    have hdec := nAt_dec pre.length hall
    have hid : i / 2 ^ pre.length ≤ i := Nat.div_le_self _ _
    have HN2 := HN.out
    obtain ⟨nk, hnk⟩ : ∃ x, x = nAt n pre.length := ⟨_, rfl⟩
    obtain ⟨ik, hik⟩ : ∃ x, x = i / 2 ^ pre.length := ⟨_, rfl⟩
    rw [← hnk] at hcn hdec
    rw [← hik] at hci hid
    have HK := Seal.mk (And.intro hnk (And.intro hik hall))
    have hnb : nk ≤ 100 := by omega
    have hib : ik ≤ 100 := by omega
    by_cases h0 : 1 < nk
    · obtain ⟨fn, tmps, assign, body, hy, hR⟩ := hY.out pre pre.length wr hJp (by omega) ⟨rfl, by rw [← hnk]; exact h0, hall⟩
      dsimp only [stpE] at hy
      rw [← hnk, ← hik] at hy
      have hR := Seal.mk hR
      have hxor := i64_xor1 ik (by omega)
      obtain ⟨o, ho⟩ : ∃ o, o = ik ^^^ 1 := ⟨_, rfl⟩
      rw [← ho] at hxor hy
      have hq2 : ((ik : Int) % 2 == 0) = (ik % 2 == 0) := by
        rw [Bool.eq_iff_iff]; simp; omega
      have q1 : (1 : Int) < (nk : Int) := by omega
      clear hnk hik hall hdec hid HN2 ho hJp
      gi_wp2
      refine ⟨fun h => (by cases h), ?_⟩
      refine hR.out.mono ?_
      rintro e W3 ⟨rfl, hJ3, hk3⟩
      have hcn3 := (cell_same (hk3 bn (.inl rfl))).trans hcn
      have hfn3 := (frozen_same (hk3 bn (.inl rfl))).trans hfn
      have hci3 := (cell_same (hk3 bi (.inr rfl))).trans hci
      have hfi3 := (frozen_same (hk3 bi (.inr rfl))).trans hfi
      have hc0 := Seal.mk hcn
      clear hk3 hcn hfn hci hfi hy hR hxor hY
      have hJ3 := Seal.mk hJ3
      have hne' : bi ≠ bn := fun e => hne e.symm
      gi_wp2
      have hall' : ∀ k, k < (pre ++ [pre.length]).length → 1 < nAt n k := by
        intro k hk
        rw [List.length_append] at hk
        simp only [List.length_cons, List.length_nil, Nat.zero_add] at hk
        by_cases h : k < pre.length
        · exact HK.out.2.2 k h
        · obtain rfl : k = pre.length := by omega
          rw [← HK.out.1]; exact h0
      obtain ⟨V, hV⟩ : ∃ V, V = W3.drew := ⟨_, rfl⟩
      have hJV : J (pre ++ [pre.length]) V := by rw [hV]; exact hJ.out _ _ _ none hJ3.out ⟨rfl, rfl, rfl, Nat.le_refl _, fun _ _ _ => rfl⟩ (fun r e => by cases e)
      have vcn : V.cell? ⟨bn, 0, none⟩ = some (.int .i64 nk) := by rw [hV]; exact hcn3
      have vfn : V.frozen? ⟨bn, 0, none⟩ = false := by rw [hV]; exact hfn3
      have vci : V.cell? ⟨bi, 0, none⟩ = some (.int .i64 ik) := by rw [hV]; exact hci3
      have vfi : V.frozen? ⟨bi, 0, none⟩ = false := by rw [hV]; exact hfi3
      have hN := StRel.next (i := i) hne hJ.out hall' hJV vcn vfn vci vfi
      rw [List.length_append] at hN
      have e1 : nAt n (pre.length + 1) = (nk + 1) / 2 := by show (nAt n pre.length + 1) / 2 = _; rw [← HK.out.1]
      have e2 : i / 2 ^ (pre.length + 1) = ik / 2 := by rw [HK.out.2.1, Nat.pow_succ, Nat.div_div_eq_div_mul]
      simp only [List.length_cons, List.length_nil, Nat.zero_add] at hN
      rw [e1, e2] at hN
      obtain ⟨n2, hn2⟩ : ∃ x, x = (nk + 1) / 2 := ⟨_, rfl⟩
      obtain ⟨i2, hi2⟩ : ∃ x, x = ik / 2 := ⟨_, rfl⟩
      have wn : ((nk : Int) + 1) / 2 = ((n2 : Nat) : Int) := by omega
      have wi : (ik : Int) / 2 = ((i2 : Nat) : Int) := by omega
      have wnn : IntKind.i64.wrap ((IntKind.i64.wrap ((nk : Int) + 1)).tdiv 2) = ((n2 : Nat) : Int) := by
        rw [IntWalk.i64_in ((nk : Int) + 1) (by omega), Int.tdiv_eq_ediv_of_nonneg (by omega), wn, IntWalk.i64_in ((n2 : Nat) : Int) (by omega)]
      have wii : IntKind.i64.wrap ((i2 : Nat) : Int) = ((i2 : Nat) : Int) := IntWalk.i64_in _ (by omega)
      rw [← hn2, ← hi2] at hN
      have HNN := Seal.mk hN
      have hn2' := Seal.mk hn2
      clear hN e1 e2 hn2 hi2 hJV
      refine wpIn_wide.2 (wp_region_heldT 6 (S := fun w' => w'.cell? ⟨bi, 0, none⟩ = some (.int .i64 ik)) (by kernel_rfl) hci3 (fun hHeld => ?_))
      rw [← hV] at hHeld ⊢
      clear hV hcn3 hfn3 hci3 hfi3
      refine take_t 3 ?_ rfl (by kernel_rfl) (by kernel_rfl) (by kernel_rfl) (by kernel_rfl) (fun _ _ _ h => h) (Or.inl ⟨by kernel_rfl, ?_⟩) (by assumption) ?_
      rotate_left
      · (intro w hSw; (try dsimp only at hSw); go_simp; try (with_reducible rfl))
      try simp only [Act.put, List.setIfInBounds_toArray, List.set_cons_zero, List.set_cons_succ]
      refine take_t 4 ?_ rfl (by kernel_rfl) (by kernel_rfl) (by kernel_rfl) (by kernel_rfl) (fun _ _ _ h => h) (Or.inl ⟨by kernel_rfl, ?_⟩) (by assumption) ?_
      rotate_left
      · (intro w hSw; (try dsimp only at hSw); go_simp; try (with_reducible rfl))
      try simp only [Act.put, List.setIfInBounds_toArray, List.set_cons_zero, List.set_cons_succ]
      refine oper_t 0 (.int .i64 nk) V rfl (by kernel_rfl) (by kernel_rfl) (by go_simp) hHeld (fun _ => ?_)
      try simp only [Act.put, List.setIfInBounds_toArray, List.set_cons_zero, List.set_cons_succ]
      refine take_t 1 ?_ rfl (by kernel_rfl) (by kernel_rfl) (by kernel_rfl) (by kernel_rfl) (fun _ _ _ h => h) (Or.inl ⟨by kernel_rfl, ?_⟩) (by assumption) ?_
      rotate_left
      · (intro w hSw; (try dsimp only at hSw); go_simp; try (with_reducible rfl))
      try simp only [Act.put, List.setIfInBounds_toArray, List.set_cons_zero, List.set_cons_succ]
      refine take_t 2 ?_ rfl (by kernel_rfl) (by kernel_rfl) (by kernel_rfl) (by kernel_rfl) (fun _ _ _ h => h) (Or.inl ⟨by kernel_rfl, ?_⟩) (by assumption) ?_
      rotate_left
      · (intro w hSw; (try dsimp only at hSw); go_simp; try (with_reducible rfl))
      try simp only [Act.put, List.setIfInBounds_toArray, List.set_cons_zero, List.set_cons_succ]
      refine skip_t 5 (V.setCell ⟨bn, 0, none⟩ (.int .i64 n2)) rfl (by kernel_rfl) (by kernel_rfl) (by go_simp; try rw [wnn]) ((World.cell?_of_block (w := V) (Below.heap_setCell _ _ _ _ (by simpa using hne'))).trans vci) (fun hHeld2 => ?_)
      have ufi : (V.setCell ⟨bn, 0, none⟩ (.int .i64 n2)).frozen? ⟨bi, 0, none⟩ = false := (World.frozen?_of_block (w := V) (Below.heap_setCell _ _ _ _ (by simpa using hne'))).trans vfi
      clear hHeld vcn vci vfn vfi
      refine last_t ((V.setCell ⟨bn, 0, none⟩ (.int .i64 n2)).setCell ⟨bi, 0, none⟩ (.int .i64 i2)) rfl (by kernel_rfl) (by kernel_rfl) (by kernel_rfl) (by go_simp; try rw [wii]) ?_
      try simp only [Act.put]
      clear hHeld2 ufi
      gi_wp2
      have hN := HNN.out
      refine ⟨hN.1, ?_⟩
      have hn2 := hn2'.out
      rw [hN.2, hc0.out]
      simp only [Option.getD_some, intOf]
      omega
    · have hz : Seal (stpS n pre) := ⟨by rw [← hnk]; omega, hall⟩
      have q1 : ¬ (1 : Int) < (nk : Int) := by omega
      clear hY hJ hnk hik hall hdec hid HN2
      gi_wp2
      go_end0
      exact ⟨⟨_, rfl⟩, pre, hz.out, hJp⟩

/-- the leaf's digest in the row k; its neighbour there, if it has one -/
def digA (R : List Bytes) (i k : Nat) : Bytes := (rowN R k).getD (i / 2 ^ k) []
def partB (R : List Bytes) (i k : Nat) : List Bytes := if (i / 2 ^ k) ^^^ 1 < (rowN R k).length then [(rowN R k).getD ((i / 2 ^ k) ^^^ 1) []] else []
def restB (R : List Bytes) (i : Nat) : Nat → Nat → List Bytes
  | _, 0 => []
  | k, m + 1 => partB R i k ++ restB R i (k + 1) m
theorem pathB_rest (R : List Bytes) (i : Nat) : ∀ m k, pathB R i (k + m) = pathB R i k ++ restB R i k m
  | 0, k => by simp [restB]
  | m + 1, k => by
    rw [show k + (m + 1) = (k + 1) + m from by omega, pathB_rest R i m (k + 1)]
    show (pathB R i k ++ partB R i k) ++ _ = _
    rw [List.append_assoc]; rfl
theorem restB_32 {R : List Bytes} (h : ∀ d ∈ R, d.length = 32) (i : Nat) : ∀ m k, ∀ d ∈ restB R i k m, d.length = 32
  | 0, k => by simp [restB]
  | m + 1, k => by
    intro d hd
    rcases List.mem_append.1 hd with hd | hd
    · unfold partB at hd
      split at hd
      · rename_i hlt
        rw [List.mem_singleton.1 hd]
        exact getD_len (rowN_32 h k) hlt
      · cases hd
    · exact restB_32 h i m (k + 1) d hd
theorem xor_even {j : Nat} (h : j ≤ 100) (he : j % 2 = 0) : j ^^^ 1 = j + 1 := by
  have : ∀ j : Fin 101, j.1 % 2 = 0 → j.1 ^^^ 1 = j.1 + 1 := by decide
  exact this ⟨j, by omega⟩ he
theorem xor_odd {j : Nat} (h : j ≤ 100) (he : j % 2 = 1) : j ^^^ 1 = j - 1 := by
  have : ∀ j : Fin 101, j.1 % 2 = 1 → j.1 ^^^ 1 = j.1 - 1 := by decide
  exact this ⟨j, by omega⟩ he
theorem upB_pair : ∀ (q : Nat) (r : List Bytes), 2 * q + 1 < r.length → (upB r).getD q [] = nodeD (r.getD (2 * q) []) (r.getD (2 * q + 1) [])
  | _, [], h => by simp at h
  | _, [_], h => by simp at h
  | 0, _ :: _ :: _, _ => rfl
  | q + 1, a :: b :: r, h => by
    simp only [List.length_cons] at h
    have := upB_pair q r (by omega)
    rw [show 2 * (q + 1) = 2 * q + 1 + 1 from by omega]
    simpa [upB, List.getD_cons_succ] using this
theorem upB_last : ∀ (q : Nat) (r : List Bytes), r.length = 2 * q + 1 → (upB r).getD q [] = r.getD (2 * q) []
  | _, [], h => by simp at h
  | 0, [_], _ => rfl
  | q + 1, [_], h => by simp at h
  | 0, _ :: _ :: r, h => by simp at h
  | q + 1, a :: b :: r, h => by
    simp only [List.length_cons] at h
    have := upB_last q r (by omega)
    rw [show 2 * (q + 1) = 2 * q + 1 + 1 from by omega]
    simpa [upB, List.getD_cons_succ] using this
theorem nAt_row (R : List Bytes) : ∀ k, nAt R.length k = (rowN R k).length
  | 0 => rfl
  | k + 1 => by show (nAt R.length k + 1) / 2 = (upB (rowN R k)).length; rw [upB_len, nAt_row R k]
theorem iAt_lt {R : List Bytes} {i : Nat} (h : i < R.length) : ∀ k, i / 2 ^ k < (rowN R k).length
  | 0 => by rw [Nat.pow_zero, Nat.div_one]; exact h
  | k + 1 => by
    have := iAt_lt h k
    show _ < (upB (rowN R k)).length
    rw [upB_len, Nat.pow_succ, ← Nat.div_div_eq_div_mul]; omega
theorem part_alone {R : List Bytes} {i k : Nat} (hm : R.length ≤ 100) (h : i < R.length) (ha : (rowN R k).length ≤ (i / 2 ^ k) ^^^ 1) : partB R i k = [] ∧ digA R i (k + 1) = digA R i k := by
  refine ⟨by unfold partB; rw [if_neg (by omega)], ?_⟩
  have hlt := iAt_lt h k
  have hb : i / 2 ^ k ≤ 100 := by have := Nat.div_le_self i (2 ^ k); omega
  unfold digA
  rw [Nat.pow_succ, ← Nat.div_div_eq_div_mul]
  obtain ⟨j, hj⟩ : ∃ j, j = i / 2 ^ k := ⟨_, rfl⟩
  rw [← hj] at ha hlt hb ⊢
  by_cases he : j % 2 = 0
  · rw [xor_even hb he] at ha
    have := upB_last (j / 2) (rowN R k) (by omega)
    rw [show 2 * (j / 2) = j from by omega] at this
    exact this
  · rw [xor_odd hb (by omega)] at ha; omega
theorem part_right {R : List Bytes} {i k : Nat} (hm : R.length ≤ 100) (h : i < R.length) (ha : (i / 2 ^ k) ^^^ 1 < (rowN R k).length) (he : (i / 2 ^ k) % 2 = 0) :
    ∃ o, partB R i k = [o] ∧ digA R i (k + 1) = nodeD (digA R i k) o := by
  refine ⟨_, by unfold partB; rw [if_pos ha], ?_⟩
  have hb : i / 2 ^ k ≤ 100 := by have := Nat.div_le_self i (2 ^ k); omega
  unfold digA
  rw [Nat.pow_succ, ← Nat.div_div_eq_div_mul]
  obtain ⟨j, hj⟩ : ∃ j, j = i / 2 ^ k := ⟨_, rfl⟩
  rw [← hj] at ha he hb ⊢
  rw [xor_even hb he] at ha ⊢
  have := upB_pair (j / 2) (rowN R k) (by omega)
  rw [show 2 * (j / 2) = j from by omega] at this
  exact this
theorem part_left {R : List Bytes} {i k : Nat} (hm : R.length ≤ 100) (h : i < R.length) (ha : (i / 2 ^ k) ^^^ 1 < (rowN R k).length) (he : (i / 2 ^ k) % 2 = 1) :
    ∃ o, partB R i k = [o] ∧ digA R i (k + 1) = nodeD o (digA R i k) := by
  refine ⟨_, by unfold partB; rw [if_pos ha], ?_⟩
  have hlt := iAt_lt h k
  have hb : i / 2 ^ k ≤ 100 := by have := Nat.div_le_self i (2 ^ k); omega
  unfold digA
  rw [Nat.pow_succ, ← Nat.div_div_eq_div_mul]
  obtain ⟨j, hj⟩ : ∃ j, j = i / 2 ^ k := ⟨_, rfl⟩
  rw [← hj] at ha he hb hlt ⊢
  rw [xor_odd hb he] at ha ⊢
  have := upB_pair (j / 2) (rowN R k) (by omega)
  rw [show 2 * (j / 2) = j - 1 from by omega, show j - 1 + 1 = j from by omega] at this
  exact this
theorem digA_32 {R : List Bytes} (h32 : ∀ d ∈ R, d.length = 32) {i : Nat} (h : i < R.length) (k : Nat) : (digA R i k).length = 32 := getD_len (rowN_32 h32 k) (iAt_lt h k)
theorem digA_last {R : List Bytes} {i K : Nat} (h : i < R.length) (hK : (rowN R K).length ≤ 1) : digA R i K = hdD (rowN R K) := by
  have := iAt_lt h K
  unfold digA hdD
  rw [show i / 2 ^ K = 0 from by generalize i / 2 ^ K = z at this; omega]
  cases rowN R K <;> rfl
theorem part_last {R : List Bytes} {i K : Nat} (h : i < R.length) (hK : (rowN R K).length ≤ 1) : partB R i K = [] := by
  have := iAt_lt h K
  unfold partB
  rw [show i / 2 ^ K = 0 from by generalize i / 2 ^ K = z at this; omega, if_neg (by show ¬ (0 ^^^ 1) < _; rw [show (0 : Nat) ^^^ 1 = 1 from rfl]; omega)]
def digL (R : List Bytes) (i : Nat) : Nat → List Bytes
  | 0 => [digA R i 0]
  | k + 1 => digL R i k ++ [digA R i (k + 1)]
theorem digL_len (R : List Bytes) (i : Nat) : ∀ k, (digL R i k).length = k + 1
  | 0 => rfl
  | k + 1 => by show (digL R i k ++ _).length = _; rw [List.length_append, digL_len R i k]; rfl
theorem digL_32 {R : List Bytes} (h32 : ∀ d ∈ R, d.length = 32) {i : Nat} (h : i < R.length) : ∀ k, ∀ d ∈ digL R i k, d.length = 32
  | 0 => by intro d hd; rw [List.mem_singleton.1 hd]; exact digA_32 h32 h 0
  | k + 1 => by
    intro d hd
    rcases List.mem_append.1 hd with hd | hd
    · exact digL_32 h32 h k d hd
    · rw [List.mem_singleton.1 hd]; exact digA_32 h32 h (k + 1)
theorem digL_last (R : List Bytes) (i : Nat) : ∀ k, (digL R i k).getD k [] = digA R i k
  | 0 => rfl
  | k + 1 => by
    show (digL R i k ++ [digA R i (k + 1)]).getD (k + 1) [] = _
    simp [List.getD, digL_len]

/-- a path as it lies in memory: its digests l -/
structure PathAt (w : World) (v : Value) (l : List Bytes) : Prop where
  at_ : ∃ (a : Option Addr) (cap : Nat), v = .slice a l.length cap ∧ l.length ≤ cap ∧ cap ≤ 9223372036854775807 ∧ (l = [] ∨ ∃ g off, a = some ⟨g, off, none⟩ ∧ g < w.heap.size ∧ w.rangeAt g off (dcells l))
theorem PathAt.later {w w' : World} {v : Value} {l : List Bytes} (h : PathAt w v l) (hb : Below w.heap.size w w') : PathAt w' v l := by
  obtain ⟨a, cap, h1, h2, h3, h4⟩ := h.at_
  refine ⟨a, cap, h1, h2, h3, h4.imp id ?_⟩
  rintro ⟨g, off, e, hg, hr⟩
  exact ⟨g, off, e, Nat.lt_of_lt_of_le hg hb.size, rangeAt_below' hr hb⟩
theorem PathAt.of_own {w : World} {base : Nat} {v : Value} {l : List Bytes} (h : w.ownsRow base 25 32 v l.length (dcells l)) : PathAt w v l := by
  by_cases h0 : 0 < l.length
  · obtain ⟨g, off, cap, rfl, h1, h2, _, hg, hr⟩ := rowAt_own h h0
    exact ⟨_, _, rfl, h1, h2, .inr ⟨g, off, rfl, hg, hr⟩⟩
  · have hl : l = [] := List.eq_nil_of_length_eq_zero (by omega)
    rcases h.2 with ⟨rfl, hz⟩ | ⟨g, cap, cur, rfl, hb, hg, hnc, hcm, hcs, htk⟩
    · exact ⟨none, 0, by rw [hz], by omega, by decide, .inl hl⟩
    · exact ⟨some ⟨g, 0, none⟩, cap, rfl, hnc, by unfold maxLen at hcm; omega, .inl hl⟩
theorem rangeAt_one {w : World} {g off : Nat} {x : Bytes} {r : List Bytes} (h : w.rangeAt g off (dcells (x :: r))) (hx : x.length = 32) : w.rangeAt g off (x.map B) ∧ w.rangeAt g (off + 32) (dcells r) := by
  have e : dcells (x :: r) = x.map B ++ dcells r := by unfold dcells; simp
  rw [e] at h
  have lx : (x.map B).length = 32 := by rw [List.length_map, hx]
  refine ⟨?_, ?_⟩
  · have := rangeAt_take h 32
    rwa [List.take_left' lx] at this
  · have := rangeAt_drop h 32
    rwa [List.drop_left' lx] at this

/-- a way: the struct's block bw holds c1, c2; the digests l lie behind v1, m texts behind v2 -/
structure WayAt (W : World) (bw base : Nat) (c1 c2 v1 v2 : Value) (l : List Bytes) (m : Nat) : Prop where
  cw : W.heap[bw]? = some (.cells #[c1, c2] 110 (0, 0))
  own1 : W.ownsRow base 25 32 v1 l.length (dcells l)
  own2 : ∃ xs, W.ownsRow base 47 1 v2 m xs ∧ (∀ x ∈ xs, ∃ a n c, x = Value.slice a n c) ∧ (m = 0 → v2.ownBlock = none)
  ne : ∀ r, v1.ownBlock = some r → v2.ownBlock ≠ some r
  lt : bw < base
  big : base ≤ W.heap.size
/-- what has changed in memory while a way grew -/
structure WayCh (W W' : World) (bw : Nat) (v1 v2 v1' v2' : Value) : Prop where
  os : W'.os = W.os
  tape : W'.tape = W.tape
  output : W'.output = W.output
  size : W.heap.size ≤ W'.heap.size
  blk : ∀ r, r < W.heap.size → r ≠ bw → v1.ownBlock ≠ some r → v2.ownBlock ≠ some r → W'.heap[r]? = W.heap[r]?
  n1 : v1'.ownBlock = v1.ownBlock ∨ ∃ r, v1'.ownBlock = some r ∧ W.heap.size ≤ r
  n2 : v2'.ownBlock = v2.ownBlock ∨ ∃ r, v2'.ownBlock = some r ∧ W.heap.size ≤ r
  keep : KeepsOthers W W'

theorem WayCh.trans {A B' C : World} {bw : Nat} {v1 v2 u1 u2 x1 x2 : Value} (h : WayCh A B' bw v1 v2 u1 u2) (h' : WayCh B' C bw u1 u2 x1 x2) : WayCh A C bw v1 v2 x1 x2 := by
  have s := h.size
  refine ⟨h'.os.trans h.os, h'.tape.trans h.tape, h'.output.trans h.output, Nat.le_trans s h'.size, fun r hr hb e1 e2 => ?_, ?_, ?_, h.keep.trans h'.keep⟩
  · refine (h'.blk r (by omega) hb ?_ ?_).trans (h.blk r hr hb e1 e2)
    · rcases h.n1 with e | ⟨k, e, hk⟩
      · rw [e]; exact e1
      · rw [e]; intro e'; have := Option.some.inj e'; omega
    · rcases h.n2 with e | ⟨k, e, hk⟩
      · rw [e]; exact e2
      · rw [e]; intro e'; have := Option.some.inj e'; omega
  · rcases h'.n1 with e | ⟨k, e, hk⟩
    · rw [e]; exact h.n1
    · exact .inr ⟨k, e, by omega⟩
  · rcases h'.n2 with e | ⟨k, e, hk⟩
    · rw [e]; exact h.n2
    · exact .inr ⟨k, e, by omega⟩

section
variable {W : World} {bw base m k1 j1 : Nat} {a1 : Option Addr} {c1 c2 v1 v2 : Value} {l : List Bytes}

theorem WayAt.lt1 (h : WayAt W bw base c1 c2 v1 v2 l m) : ∀ r, v1.ownBlock = some r → base ≤ r ∧ r < W.heap.size := h.own1.lt
theorem WayAt.lt2 (h : WayAt W bw base c1 c2 v1 v2 l m) : ∀ r, v2.ownBlock = some r → base ≤ r ∧ r < W.heap.size := h.own2.choose_spec.1.lt

theorem ownsRow_cells {w : World} {b : Nat} {e : TypeId} {size n : Nat} {v : Value} {xs : List Value} (h : w.ownsRow b e size v n xs) {r : Nat} (hr : v.ownBlock = some r) : ∃ cur, w.heap[r]? = some (.cells cur e (0, 0)) := by
  rcases h.2 with ⟨rfl, _⟩ | ⟨g, cap, cur, rfl, _, hg, _⟩
  · cases hr
  · cases hr; exact ⟨cur, hg⟩

theorem WayAt.grown {W' : World} {row : Option Nat} (h : WayAt W bw base c1 c2 v1 v2 l m) (hg : W.grownBy W' row) (hr : ∀ b, row = some b → b ≠ bw ∧ v1.ownBlock ≠ some b ∧ v2.ownBlock ≠ some b) : WayAt W' bw base c1 c2 v1 v2 l m := by
  have hl := h.lt
  have hb := h.big
  refine ⟨(hg.block _ (Array.getElem?_eq_some_iff.1 h.cw).1 (fun e => (hr _ e.symm).1 rfl)).trans h.cw, h.own1.kept hg ?_, ?_, h.ne, h.lt, Nat.le_trans h.big hg.size⟩
  · cases hv : v1.ownBlock with
    | none => exact .inl rfl
    | some b => exact .inr (fun e => (hr b e.symm).2.1 hv)
  · obtain ⟨xs, ho, hs, hz⟩ := h.own2
    exact ⟨xs, ho.kept hg (by
      cases hv : v2.ownBlock with
      | none => exact .inl rfl
      | some b => exact .inr (fun e => (hr b e.symm).2.2 hv)), hs, hz⟩

theorem WayAt.below {W' : World} (h : WayAt W bw base c1 c2 v1 v2 l m) (hb : Below W.heap.size W W') : WayAt W' bw base c1 c2 v1 v2 l m ∧ WayCh W W' bw v1 v2 v1 v2 := by
  have hg : W.grownBy W' none := ⟨hb.os, hb.tape, hb.output, hb.size, fun k hk _ => hb.block k hk⟩
  refine ⟨h.grown hg (fun b e => by cases e), ⟨hb.os, hb.tape, hb.output, hb.size, fun r hr _ _ _ => hb.block r hr, .inl rfl, .inl rfl, KeepsOthers.of_grownBy hg (fun j o e => by cases e)⟩⟩

theorem WayAt.app1 {w5 : World} {v5 : Value} {d : Bytes} (h : WayAt W bw base c1 c2 v1 v2 l m) (hown : w5.ownsRow base 25 32 v5 (l.length + 1) (dcells (l ++ [d]))) (hg : W.grownBy w5 v1.ownBlock) (hat : v5.ownBlock = v1.ownBlock ∨ v5.ownBlock = some W.heap.size) :
    WayAt w5 bw base c1 c2 v5 v2 (l ++ [d]) m ∧ WayCh W w5 bw v1 v2 v5 v2 := by
  have hb := h.big
  have hl := h.lt
  have l1 := h.lt1
  have l2 := h.lt2
  refine ⟨⟨(hg.block _ (Array.getElem?_eq_some_iff.1 h.cw).1 (fun e => by have := (l1 _ e.symm).1; omega)).trans h.cw, by rw [List.length_append]; exact hown, ?_, ?_, h.lt, Nat.le_trans h.big hg.size⟩,
    ⟨hg.os, hg.tape, hg.output, hg.size, fun r hr _ e1 _ => hg.block r hr (fun e => e1 e.symm), ?_, .inl rfl, KeepsOthers.of_grownBy hg (fun j o e ho => ?_)⟩⟩
  · obtain ⟨xs, ho, hs, hz⟩ := h.own2
    exact ⟨xs, ho.kept hg (by
      cases hv : v2.ownBlock with
      | none => exact .inl rfl
      | some b => exact .inr (fun e => h.ne b e.symm hv)), hs, hz⟩
  · intro r hr e
    rcases hat with e' | e'
    · exact h.ne r (e' ▸ hr) e
    · rw [e'] at hr; have := Option.some.inj hr; have := (l2 r e).2; omega
  · exact hat.imp id (fun e => ⟨_, e, Nat.le_refl _⟩)
  · obtain ⟨cur, hc⟩ := ownsRow_cells h.own1 e
    rw [hc] at ho; cases ho; rfl

theorem WayAt.app2 {w5 : World} {v5 : Value} {xs : List Value} (h : WayAt W bw base c1 c2 v1 v2 l m) (hsl : ∀ x ∈ xs, ∃ a n c, x = Value.slice a n c) (hown : w5.ownsRow base 47 1 v5 (m + 1) xs) (hg : W.grownBy w5 v2.ownBlock) (hat : v5.ownBlock = v2.ownBlock ∨ v5.ownBlock = some W.heap.size) :
    WayAt w5 bw base c1 c2 v1 v5 l (m + 1) ∧ WayCh W w5 bw v1 v2 v1 v5 := by
  have hb := h.big
  have hl := h.lt
  have l1 := h.lt1
  have l2 := h.lt2
  refine ⟨⟨(hg.block _ (Array.getElem?_eq_some_iff.1 h.cw).1 (fun e => by have := (l2 _ e.symm).1; omega)).trans h.cw, ?_, ⟨_, hown, hsl, fun h => (by omega)⟩, ?_, h.lt, Nat.le_trans h.big hg.size⟩,
    ⟨hg.os, hg.tape, hg.output, hg.size, fun r hr _ _ e2 => hg.block r hr (fun e => e2 e.symm), .inl rfl, ?_, KeepsOthers.of_grownBy hg (fun j o e ho => ?_)⟩⟩
  · exact h.own1.kept hg (by
      cases hv : v1.ownBlock with
      | none => exact .inl rfl
      | some b => exact .inr (fun e => h.ne b hv e.symm))
  · intro r hr e
    rcases hat with e' | e'
    · exact h.ne r hr (e' ▸ e)
    · rw [e'] at e; have := Option.some.inj e; have := (l1 r hr).2; omega
  · exact hat.imp id (fun e => ⟨_, e, Nat.le_refl _⟩)
  · obtain ⟨xs', h2, _⟩ := h.own2
    obtain ⟨cur, hc⟩ := ownsRow_cells h2 e
    rw [hc] at ho; cases ho; rfl

theorem WayAt.set {c1' c2' : Value} (j : Nat) (u : Value) (h : WayAt W bw base c1 c2 v1 v2 l m) (hc : (#[c1, c2] : Array Value).setIfInBounds j u = #[c1', c2']) :
    WayAt (W.setCell ⟨bw, j, none⟩ u) bw base c1' c2' v1 v2 l m ∧ WayCh W (W.setCell ⟨bw, j, none⟩ u) bw v1 v2 v1 v2 := by
  have hg : W.grownBy (W.setCell ⟨bw, j, none⟩ u) (some bw) := grown_setCell (grown_of_below (Below.refl _ W) _) _ _
  have hl := h.lt
  have l1 := h.lt1
  have l2 := h.lt2
  refine ⟨⟨?_, ?_, ?_, h.ne, h.lt, Nat.le_trans h.big hg.size⟩, ⟨hg.os, hg.tape, hg.output, hg.size, fun r hr hb _ _ => hg.block r hr (fun e => hb (Option.some.inj e)), .inl rfl, .inl rfl, KeepsOthers.setCell _ _ _⟩⟩
  · have := heap_setCell_row (cs := [c1, c2]) (i := j) u h.cw
    rw [this]
    have e : ([c1, c2].set j u).toArray = #[c1', c2'] := by rw [← hc]; simp
    rw [e]
  · exact h.own1.kept hg (by
      cases hv : v1.ownBlock with
      | none => exact .inl rfl
      | some b => exact .inr (fun e => by have := (l1 b hv).1; have := Option.some.inj e; omega))
  · obtain ⟨xs, ho, hs, hz⟩ := h.own2
    exact ⟨xs, ho.kept hg (by
      cases hv : v2.ownBlock with
      | none => exact .inl rfl
      | some b => exact .inr (fun e => by have := (l2 b hv).1; have := Option.some.inj e; omega)), hs, hz⟩
theorem WayAt.apart {g n c : Nat} {t : Bytes} (h : WayAt W bw base (.slice a1 k1 j1) c2 v1 v2 l m) (hi : IsB W (some ⟨g, 0, none⟩) n c t) (h0 : 0 < t.length) : g ≠ bw ∧ v2.ownBlock ≠ some g := by
  obtain ⟨x, hx⟩ := isB_cell hi h0
  constructor
  · rintro rfl
    rw [cell_of_row _ _ _ _ _ _ h.cw] at hx
    cases hx
  · intro e
    obtain ⟨xs, ho, hs, hz⟩ := h.own2
    have hm : 0 < m := Nat.pos_of_ne_zero (fun hm => by rw [hz hm] at e; cases e)
    have hlen := ho.1
    have hc := ho.cells (g := g) e 0 xs[0] (List.getElem?_eq_getElem (by omega))
    rw [Addr.add_lit, Nat.add_zero, hx] at hc
    obtain ⟨a, n, c, he⟩ := hs xs[0] (List.getElem_mem _)
    rw [he] at hc
    cases hc
theorem WayAt.cells (h : WayAt W bw base c1 c2 v1 v2 l m) : W.cell? ⟨bw, 0, none⟩ = some c1 ∧ W.cell? ⟨bw, 1, none⟩ = some c2 ∧ W.frozen? ⟨bw, 0, none⟩ = false ∧ W.frozen? ⟨bw, 1, none⟩ = false :=
  ⟨by rw [cell_of_row _ _ _ _ _ _ h.cw]; rfl, by rw [cell_of_row _ _ _ _ _ _ h.cw]; rfl, frozen_of_row _ _ _ _ _ h.cw, frozen_of_row _ _ _ _ _ h.cw⟩
end

theorem run_app_dg_at (w : World) (ty : TypeId) (base : Nat) (v : Value) (n : Nat) (l : List Bytes) (d : Bytes) (gd : Nat) (hown : w.ownsRow base 25 32 v n (dcells l)) (hd : w.rangeAt gd 0 (d.map B)) (h32 : d.length = 32) (hn : n ≤ 1000) (hb : base ≤ w.heap.size) :
    ∃ v' w', (Builtin.append_ #[51, 51] ty #[v, .slice (some ⟨gd, 0, none⟩) 1 1]).run Tryd.prog w = .ok v' w' ∧ w'.ownsRow base 25 32 v' (n + 1) (dcells (l ++ [d])) ∧ w.grownBy w' v.ownBlock ∧ (v'.ownBlock = v.ownBlock ∨ v'.ownBlock = some w.heap.size) := by
  obtain ⟨i0, hi, hz0, hz1, hz2⟩ := info_parts info_dgm
  obtain ⟨v', w', hr, h2, h3, _, h4⟩ := run_append_own_at (P := Tryd.prog) w base 51 ty 25 i0 _ 32 32 Tryd.underlying51 hi hz0 hz1 hz2 (by kernel_rfl) (by decide) v n (dcells l) hown ⟨gd, 0, none⟩ 1 1 (d.map B) (by rw [List.length_map, h32]) (fun j u hu => by rw [Addr.add_mid]; exact hd j u hu) (by simp [Value.oneCell']) (by unfold maxLen; omega) (by omega) hb
  rw [dcells_snoc]
  exact ⟨v', w', hr, h2, h3, h4⟩
theorem run_app_tx_at (w : World) (ty : TypeId) (base : Nat) (v : Value) (n : Nat) (xs : List Value) (x : Value) (hx : x.oneCell' = true) (gd : Nat) (hown : w.ownsRow base 47 1 v n xs) (hd : w.cell? ⟨gd, 0, none⟩ = some x) (hn : n ≤ 1000) (hb : base ≤ w.heap.size) :
    ∃ v' w', (Builtin.append_ #[54, 54] ty #[v, .slice (some ⟨gd, 0, none⟩) 1 1]).run Tryd.prog w = .ok v' w' ∧ w'.ownsRow base 47 1 v' (n + 1) (xs ++ [x]) ∧ w.grownBy w' v.ownBlock ∧ (v'.ownBlock = v.ownBlock ∨ v'.ownBlock = some w.heap.size) := by
  obtain ⟨i0, hi, hz0, hz1, hz2⟩ := info_parts (show (Tryd.prog.info? 47).map (fun i => (i.zero, i.size, i.bytes)) = some (some (.slice none 0 0), 1, 24) by kernel_rfl)
  obtain ⟨v', w', hr, h2, h3, _, h4⟩ := run_append_own_at (P := Tryd.prog) w base 54 ty 47 i0 _ 1 24 Tryd.underlying54 hi hz0 hz1 hz2 rfl (by decide) v n xs hown ⟨gd, 0, none⟩ 1 1 [x] rfl (fun j u hu => by
    match j, hu with
    | 0, hu => cases hu; exact hd) (by simpa using hx) (by unfold maxLen; omega) (by omega) hb
  exact ⟨v', w', hr, h2, h3, h4⟩

section
attribute [local go_sem] Oper.semAt_some
set_option maxHeartbeats 4000000 in
/-- a text is added -/
theorem madd_any (bw base g n c m : Nat) (v1 v2 : Value) (l : List Bytes) (t : Bytes) (w : World) (hG : Glob w) (hW : WayAt w bw base v1 v2 v1 v2 l m) (hI : IsB w (some ⟨g, 0, none⟩) n c t) (h0 : 0 < t.length) (_h1 : t.length ≤ 2000) (hl : l.length ≤ 200) (hm : m ≤ 200) (hgl : ∀ r, globB r → r < bw) :
    Calls Tryd.prog 101 #[.slice (some ⟨g, 0, none⟩) n c, .pointer (some ⟨bw, 0, none⟩)] w fun e w' => e = .returned (.tuple #[]) ∧ Seal (∃ u1 u2, WayAt w' bw base u1 u2 u1 u2 (l ++ [sha t]) (m + 1) ∧ WayCh w w' bw v1 v2 u1 u2) := by
  obtain ⟨X, hX⟩ : ∃ X : World, X = w.alloc (.cells #[.slice (some ⟨g, 0, none⟩) n c] 47) := ⟨_, rfl⟩
  have hXb : Below w.heap.size w X := by rw [hX]; exact below_alloc _ _
  have hXs : X.heap.size = w.heap.size + 1 := by rw [hX, size_alloc]
  obtain ⟨b1, m1, q1, rfl⟩ := slice_form hW.own1
  obtain ⟨hgw, hgv⟩ := hW.apart hI h0
  obtain ⟨a1, k1⟩ := hW.below hXb
  obtain ⟨xs, ho2, hs2, _⟩ := a1.own2
  obtain ⟨u2, w5, hr5, hown5, hg5, hat5⟩ := run_app_tx_at X 54 base v2 m xs (.slice (some ⟨g, 0, none⟩) n c) rfl w.heap.size ho2 (by rw [hX, cell_of_row _ _ _ _ _ _ (heap_alloc_new w _)]; rfl) (by omega) a1.big
  obtain ⟨a2, k2⟩ := a1.app2 (by intro x hx; rcases List.mem_append.1 hx with hx | hx; exact hs2 x hx; exact ⟨_, _, _, List.mem_singleton.1 hx⟩) hown5 hg5 hat5
  obtain ⟨a3, k3⟩ := a2.set (c1' := .slice b1 m1 q1) (c2' := u2) 1 u2 rfl
  obtain ⟨V, hV⟩ : ∃ V, V = w5.setCell ⟨bw, 1, none⟩ u2 := ⟨_, rfl⟩
  rw [← hV] at a3 k3
  have k := (k1.trans k2).trans k3
  have l2 := hW.lt2
  have l1 := hW.lt1
  have hbl := hW.lt
  have hIg : IsB V (some ⟨g, 0, none⟩) n c t := by
    have i1 := hI.later hXb
    have i2 := i1.grown' hg5 hgv
    rw [hV]
    exact i2.grown' (grown_setCell (grown_of_below (Below.refl _ w5) (some bw)) _ _) (by intro e; exact hgw (Option.some.inj e).symm)
  have hGV : Glob V := hG.of_mine (fun r hr => by
    have h1 := hgl r hr
    have h2 : r < w.heap.size := Nat.lt_trans h1 (Array.getElem?_eq_some_iff.1 hW.cw).1
    exact k.blk r h2 (by omega) (fun e => by have := (l1 r e).1; omega) (fun e => by have := (l2 r e).1; omega))
  obtain ⟨_, x1, _, x2⟩ := hW.cells
  have HA := Seal.mk a3
  have HK := Seal.mk k
  have HG := Seal.mk hGV
  rw [hX] at hr5
  have HR5 := Seal.mk hr5
  have HSum : Seal (Calls Tryd.prog 102 #[.slice (some ⟨g, 0, none⟩) n c] V.drew fun e w' => e = .returned (.agg ((sha t).map B).toArray) ∧ Below V.drew.heap.size V.drew w') := ⟨sum_isB (hGV.below (below_drewn V)) (hIg.later (below_drewn V)) h0⟩
  obtain ⟨y0, y1, f0, f1⟩ := a2.cells
  obtain ⟨a4, k4⟩ := a3.below (below_drewn V)
  have HA4 := Seal.mk (And.intro a4 k4)
  obtain ⟨z0, z1, g0, g1⟩ := a4.cells
  obtain ⟨xs0, ho0, _⟩ := hW.own2
  obtain ⟨b0, m0, q0, rfl⟩ := slice_form ho0
  obtain ⟨b2, m2, q2, rfl⟩ := slice_form hown5
  have d32 : (sha t).length = 32 := sha_length t
  obtain ⟨D, hD⟩ : ∃ D, D = sha t := ⟨_, rfl⟩
  rw [← hD] at HSum d32 ⊢
  have HN := Seal.mk (And.intro hl hm)
  clear hs2 ho0 hX hG hW hI hXb a1 k1 ho2 hr5 hown5 hg5 hat5 a2 k2 a3 k3 k l1 l2 hbl hIg hGV a4 k4 hD hl hm hgw hgv hgl
  go_enter Tryd.func101, Tryd.ntmps101
  go_wp2_with (at_builtin; refine wl_append1 rfl (.tmp 4) (.tmp 6) 54 54 54 rfl rfl _ _ _ rfl rfl HR5.out ?_)
  rw [← hV]
  clear hV HR5 y0 y1 f0 f1 x1 x2
  refine wp_region_heldT 7 (S := fun w' => w'.cell? ⟨bw, 0, none⟩ = some (.slice b1 m1 q1)) (by kernel_rfl) z0 (fun hHeld => ?_)
  obtain ⟨U, hU⟩ : ∃ U, U = V.drew := ⟨_, rfl⟩
  rw [← hU] at hHeld HA4 HSum ⊢
  clear hU z0 z1 g0 g1
  refine take_t 0 ?_ rfl (by kernel_rfl) (by kernel_rfl) (by kernel_rfl) (by kernel_rfl) (fun _ _ _ h => h) (Or.inl ⟨by kernel_rfl, ?_⟩) (by assumption) ?_
  rotate_left
  · (intro w hSw; (try dsimp only at hSw); go_simp; try (with_reducible rfl))
  try simp only [Act.put, List.setIfInBounds_toArray, List.set_cons_zero, List.set_cons_succ]
  refine take_t 1 ?_ rfl (by kernel_rfl) (by kernel_rfl) (by kernel_rfl) (by kernel_rfl) (fun _ _ _ h => h) (Or.inl ⟨by kernel_rfl, ?_⟩) (by assumption) ?_
  rotate_left
  · (intro w hSw; (try dsimp only at hSw); go_simp; try (with_reducible rfl))
  try simp only [Act.put, List.setIfInBounds_toArray, List.set_cons_zero, List.set_cons_succ]
  refine take_t 2 ?_ rfl (by kernel_rfl) (by kernel_rfl) (by kernel_rfl) (by kernel_rfl) (fun _ _ _ h => h) (Or.inl ⟨by kernel_rfl, ?_⟩) (by assumption) ?_
  rotate_left
  · (intro w hSw; (try dsimp only at hSw); go_simp; try (with_reducible rfl))
  try simp only [Act.put, List.setIfInBounds_toArray, List.set_cons_zero, List.set_cons_succ]
  refine call_t 3 rfl (by kernel_rfl) 102 #[.slice (some ⟨g, 0, none⟩) n c] (by kernel_rfl) (by go_simp) ?_
  refine HSum.out.mono ?_
  rintro e w6 ⟨rfl, hb6⟩
  obtain ⟨a6, k6⟩ := HA4.out.1.below hb6
  refine ⟨_, rfl, a6.cells.1, fun hHeld2 => ?_⟩
  clear hHeld HSum
  try simp only [Act.put, List.setIfInBounds_toArray, List.set_cons_zero, List.set_cons_succ]
  obtain ⟨a7, k7⟩ := a6.below (below_alloc w6 (.cells (D.map B).toArray 25))
  have rD : (w6.alloc (.cells (D.map B).toArray 25)).rangeAt w6.heap.size 0 (D.map B) := rangeAt_row (heap_alloc_new w6 _)
  refine oper_t 4 (.slice (some ⟨w6.heap.size, 0, none⟩) 1 1) (w6.alloc (.cells (D.map B).toArray 25)) rfl (by kernel_rfl) (by kernel_rfl) (by go_simp; rw [fold_all (by simp [d32])]) a7.cells.1 (fun hHeld3 => ?_)
  clear hHeld2
  try simp only [Act.put, List.setIfInBounds_toArray, List.set_cons_zero, List.set_cons_succ]
  obtain ⟨u1, w8, hr8, hown8, hg8, hat8⟩ := run_app_dg_at _ 51 base _ l.length l D w6.heap.size a7.own1 rD d32 (by have := HN.out; omega) a7.big
  obtain ⟨a8, k8⟩ := a7.app1 hown8 hg8 hat8
  obtain ⟨a9, k9⟩ := a8.set (c1' := u1) (c2' := .slice b2 m2 q2) 0 u1 rfl
  have HF := Seal.mk (And.intro a9 ((((HK.out.trans HA4.out.2).trans k6).trans k7).trans (k8.trans k9)))
  obtain ⟨c8, _, g8, _⟩ := a8.cells
  refine oper_t 5 u1 w8 rfl (by kernel_rfl) (by kernel_rfl) (exec_append1 (.tmp 10) (.tmp 13) 51 51 51 rfl rfl _ _ _ rfl rfl hr8) c8 (fun hHeld4 => ?_)
  obtain ⟨b8, m8, q8, rfl⟩ := slice_form hown8
  clear hHeld3 hHeld4 a6 k6 a7 k7 rD hr8 hown8 hg8 hat8 a8 k8 a9 k9
  try simp only [Act.put, List.setIfInBounds_toArray, List.set_cons_zero, List.set_cons_succ]
  refine take_t 6 ?_ rfl (by kernel_rfl) (by kernel_rfl) (by kernel_rfl) (by kernel_rfl) (fun _ _ _ h => h) (Or.inl ⟨by kernel_rfl, ?_⟩) (by assumption) ?_
  rotate_left
  · (intro w hSw; (try dsimp only at hSw); go_simp; try (with_reducible rfl))
  try simp only [Act.put, List.setIfInBounds_toArray, List.set_cons_zero, List.set_cons_succ]
  refine last_t (w8.setCell ⟨bw, 0, none⟩ (.slice b8 m8 q8)) rfl (by kernel_rfl) (by kernel_rfl) (by kernel_rfl) (by go_simp) ?_
  clear c8 g8
  try simp only [Act.put]
  go_wp2
  go_end0
  exact ⟨rfl, ⟨_, _, HF.out.1, HF.out.2⟩⟩
end

theorem steps_any (n i : Int) (w : World) :
    Calls Tryd.prog 104 #[.int .i64 n, .int .i64 i] w fun e w' => e = .returned (.func (.func 126) #[] #[.pointer (some ⟨w.heap.size, 0, none⟩), .pointer (some ⟨w.heap.size + 1, 0, none⟩)]) ∧
      (w.alloc (.cells #[.int .i64 n] 3)).alloc (.cells #[.int .i64 i] 3) = w' := by
  go_enter Tryd.func104, Tryd.ntmps104
  go_wp2
  go_ret
  exact ⟨rfl, rfl⟩

def NormQ (Q : Exit → Act → World → Prop) : Exit → Act → World → Prop
  | .normal, a, w => Q .normal a w
  | _, _, _ => False
theorem wp_norm {P : Program} {c : Code} {Q : Exit → Act → World → Prop} {a : Act} {w : World} (h : c.wp P (NormQ Q) a w) : c.wp P Q a w :=
  Code.wp_mono (fun e a W hq => by
    cases e with
    | normal => exact hq
    | _ => exact hq.elim) h

/-- how far climb has come -/
structure ClRel (R : List Bytes) (i : Nat) (w : World) (bn bi k : Nat) (pl : List Bytes) (pv v1 v2 : Value) (W : World) : Prop where
  c7 : W.heap[w.heap.size]? = some (.cells #[pv] 51 (0, 0))
  way : WayAt W (w.heap.size + 1) (w.heap.size + 4) v1 v2 v1 v2 (digL R i k) (k + 1)
  c9 : W.heap[w.heap.size + 1 + 1]? = some (.cells #[.bool false] 4 (0, 0))
  c10 : W.heap[w.heap.size + 1 + 1 + 1]? = some (.cells #[.func (.func 101) #[] #[.pointer (some ⟨w.heap.size + 1, 0, none⟩)]] 141 (0, 0))
  pth : PathAt w pv pl
  bel : Below w.heap.size w W
  nm1 : v1.ownBlock ≠ some bn ∧ v1.ownBlock ≠ some bi
  nm2 : v2.ownBlock ≠ some bn ∧ v2.ownBlock ≠ some bi

theorem ClRel.grown {R : List Bytes} {i : Nat} {w : World} {bn bi k : Nat} {pl : List Bytes} {pv v1 v2 : Value} {A B' : World} {row : Option Nat} (h : ClRel R i w bn bi k pl pv v1 v2 A) (hn : w.heap.size + 4 ≤ bn ∧ w.heap.size + 4 ≤ bi) (hg : A.grownBy B' row)
    (hr : ∀ b, row = some b → (b = bn ∨ b = bi) ∨ (w.heap.size ≤ b ∧ ∃ o : Obj, A.heap[b]? = some o ∧ o.isCells = false)) : ClRel R i w bn bi k pl pv v1 v2 B' := by
  have kp : ∀ x cs t, x < w.heap.size + 4 → A.heap[x]? = some (.cells cs t (0, 0)) → B'.heap[x]? = some (.cells cs t (0, 0)) := fun x cs t hx h => (hg.block x (Array.getElem?_eq_some_iff.1 h).1 (fun e => by
    rcases hr x e.symm with (e' | e') | ⟨_, ho⟩
    · omega
    · omega
    · exact cells_ne h ho rfl)).trans h
  refine ⟨kp _ _ _ (by omega) h.c7, h.way.grown hg (fun b e => ?_), kp _ _ _ (by omega) h.c9, kp _ _ _ (by omega) h.c10, h.pth, h.bel.grown hg h.bel.size (fun b e => ?_), h.nm1, h.nm2⟩
  · rcases hr b e with (rfl | rfl) | ⟨_, ho⟩
    · exact ⟨by omega, h.nm1.1, h.nm2.1⟩
    · exact ⟨by omega, h.nm1.2, h.nm2.2⟩
    · refine ⟨fun e' => by subst e'; exact cells_ne h.way.cw ho rfl, fun e' => ?_, fun e' => ?_⟩
      · obtain ⟨cur, hc⟩ := ownsRow_cells h.way.own1 e'
        exact cells_ne hc ho rfl
      · obtain ⟨xs, h2, _⟩ := h.way.own2
        obtain ⟨cur, hc⟩ := ownsRow_cells h2 e'
        exact cells_ne hc ho rfl
  · rcases hr b e with (rfl | rfl) | ⟨h', _⟩ <;> omega

theorem ClRel.next {R : List Bytes} {i : Nat} {w : World} {bn bi k : Nat} {pl : List Bytes} {pv v1 v2 u1 u2 : Value} {Z W' : World} (h : ClRel R i w bn bi k pl pv v1 v2 Z) (hn : w.heap.size + 4 ≤ bn ∧ w.heap.size + 4 ≤ bi) (hb : bn < Z.heap.size ∧ bi < Z.heap.size)
    (hc : WayCh Z W' (w.heap.size + 1) v1 v2 u1 u2) (ha : WayAt W' (w.heap.size + 1) (w.heap.size + 4) u1 u2 u1 u2 (digL R i (k + 1)) (k + 1 + 1)) :
    ClRel R i w bn bi (k + 1) pl pv u1 u2 W' ∧ KeepsOthers Z W' ∧ (∀ r, (r = bn ∨ r = bi) → W'.heap[r]? = Z.heap[r]?) ∧ Z.heap.size ≤ W'.heap.size := by
  have l1 := h.way.lt1
  have l2 := h.way.lt2
  have bg := h.way.big
  have kp : ∀ x, x < w.heap.size + 4 → x ≠ w.heap.size + 1 → W'.heap[x]? = Z.heap[x]? := fun x hx hne => hc.blk x (by omega) hne (fun e => by have := (l1 x e).1; omega) (fun e => by have := (l2 x e).1; omega)
  have nm : ∀ v u : Value, (u.ownBlock = v.ownBlock ∨ ∃ r, u.ownBlock = some r ∧ Z.heap.size ≤ r) → (v.ownBlock ≠ some bn ∧ v.ownBlock ≠ some bi) → (u.ownBlock ≠ some bn ∧ u.ownBlock ≠ some bi) := by
    rintro v u (e | ⟨r, e, hr⟩) hv
    · rw [e]; exact hv
    · rw [e]; exact ⟨fun e => by have := Option.some.inj e; omega, fun e => by have := Option.some.inj e; omega⟩
  refine ⟨⟨(kp _ (by omega) (by omega)).trans h.c7, ha, (kp _ (by omega) (by omega)).trans h.c9, (kp _ (by omega) (by omega)).trans h.c10, h.pth, ⟨hc.os.trans h.bel.os, hc.tape.trans h.bel.tape, hc.output.trans h.bel.output, Nat.le_trans h.bel.size hc.size, fun r hr => (kp r (by omega) (by omega)).trans (h.bel.block r hr)⟩, nm _ _ hc.n1 h.nm1, nm _ _ hc.n2 h.nm2⟩, hc.keep, ?_, hc.size⟩
  rintro r (rfl | rfl)
  · exact hc.blk _ hb.1 (by omega) h.nm1.1 h.nm2.1
  · exact hc.blk _ hb.2 (by omega) h.nm1.2 h.nm2.2

theorem ClRel.setPath {R : List Bytes} {i : Nat} {w : World} {bn bi k : Nat} {pl pl' : List Bytes} {pv pv' v1 v2 : Value} {Z : World} (h : ClRel R i w bn bi k pl pv v1 v2 Z) (hp : PathAt w pv' pl') :
    ClRel R i w bn bi k pl' pv' v1 v2 (Z.setCell ⟨w.heap.size, 0, none⟩ pv') := by
  have hg : Z.grownBy (Z.setCell ⟨w.heap.size, 0, none⟩ pv') (some w.heap.size) := grown_setCell (grown_of_below (Below.refl _ Z) _) _ _
  have l1 := h.way.lt1
  have l2 := h.way.lt2
  refine ⟨?_, h.way.grown hg (fun b e => ?_), (Below.heap_setCell _ _ _ _ (by simp; omega)).trans h.c9, (Below.heap_setCell _ _ _ _ (by simp; omega)).trans h.c10, hp, h.bel.setCell (p := ⟨w.heap.size, 0, none⟩) (Nat.le_refl _) _, h.nm1, h.nm2⟩
  · have := heap_setCell_row (cs := [pv]) (i := 0) pv' h.c7
    simpa using this
  · have := Option.some.inj e
    subst this
    exact ⟨by omega, fun e => by have := (l1 _ e).1; omega, fun e => by have := (l2 _ e).1; omega⟩

/-- while a leaf is left alone -/
structure A8 (Z : World) (bw base gd : Nat) (D : Bytes) (v1 v2 u1 u2 : Value) (l : List Bytes) (m : Nat) (W : World) : Prop where
  way : WayAt W bw base v1 v2 u1 u2 l m
  ch : WayCh Z W bw v1 v2 u1 u2
  rng : W.rangeAt gd 0 (D.map B)
  nd1 : u1.ownBlock ≠ some gd
  nd2 : u2.ownBlock ≠ some gd
  gd : gd < W.heap.size
section
variable {Z W : World} {bw base gd m : Nat} {D : Bytes} {v1 v2 u1 u2 : Value} {l : List Bytes}
theorem A8.alloc (h : A8 Z bw base gd D v1 v2 u1 u2 l m W) (o : Obj) : A8 Z bw base gd D v1 v2 u1 u2 l m (W.alloc o) := by
  obtain ⟨a, k⟩ := h.way.below (below_alloc W o)
  exact ⟨a, h.ch.trans k, World.rangeAt_alloc h.rng _, h.nd1, h.nd2, by rw [size_alloc]; have := h.gd; omega⟩
theorem A8.held (h : A8 Z bw base gd D v1 v2 u1 u2 l m W) : W.cell? ⟨bw, 0, none⟩ = some v1 ∧ W.cell? ⟨bw, 1, none⟩ = some v2 ∧ W.rangeAt gd 0 (D.map B) := ⟨h.way.cells.1, h.way.cells.2.1, h.rng⟩
theorem A8.app1 {w5 : World} {v5 : Value} {d : Bytes} (h : A8 Z bw base gd D v1 v2 u1 u2 l m W) (hown : w5.ownsRow base 25 32 v5 (l.length + 1) (dcells (l ++ [d]))) (hg : W.grownBy w5 u1.ownBlock) (hat : v5.ownBlock = u1.ownBlock ∨ v5.ownBlock = some W.heap.size) : A8 Z bw base gd D v1 v2 v5 u2 (l ++ [d]) m w5 := by
  obtain ⟨a, k⟩ := h.way.app1 hown hg hat
  have hgd := h.gd
  refine ⟨a, h.ch.trans k, rangeAt_grown h.rng hg (fun e => h.nd1 e.symm), ?_, h.nd2, Nat.lt_of_lt_of_le hgd hg.size⟩
  rcases hat with e | e
  · rw [e]; exact h.nd1
  · rw [e]; intro e'; have := Option.some.inj e'; omega
theorem A8.app2 {w5 : World} {v5 : Value} {xs : List Value} (h : A8 Z bw base gd D v1 v2 u1 u2 l m W) (hsl : ∀ x ∈ xs, ∃ a n c, x = Value.slice a n c) (hown : w5.ownsRow base 47 1 v5 (m + 1) xs) (hg : W.grownBy w5 u2.ownBlock) (hat : v5.ownBlock = u2.ownBlock ∨ v5.ownBlock = some W.heap.size) : A8 Z bw base gd D v1 v2 u1 v5 l (m + 1) w5 := by
  obtain ⟨a, k⟩ := h.way.app2 hsl hown hg hat
  have hgd := h.gd
  refine ⟨a, h.ch.trans k, rangeAt_grown h.rng hg (fun e => h.nd2 e.symm), h.nd1, ?_, Nat.lt_of_lt_of_le hgd hg.size⟩
  rcases hat with e | e
  · rw [e]; exact h.nd2
  · rw [e]; intro e'; have := Option.some.inj e'; omega
theorem A8.run1 (h : A8 Z bw base gd D v1 v2 u1 u2 l m W) {gx : Nat} (hx : W.rangeAt gx 0 (D.map B)) (h32 : D.length = 32) (hl : l.length ≤ 200) :
    ∃ b n q w5, (Builtin.append_ #[51, 51] 51 #[u1, .slice (some ⟨gx, 0, none⟩) 1 1]).run Tryd.prog W = .ok (.slice b n q) w5 ∧ A8 Z bw base gd D v1 v2 (.slice b n q) u2 (l ++ [D]) m w5 ∧ W.grownBy w5 u1.ownBlock := by
  obtain ⟨v5, w5, hr, hown, hg, hat⟩ := run_app_dg_at W 51 base u1 l.length l D gx h.way.own1 hx h32 (by omega) h.way.big
  have h' := h.app1 hown hg hat
  obtain ⟨b, n, q, rfl⟩ := slice_form hown
  exact ⟨b, n, q, w5, hr, h', hg⟩
theorem A8.run2 (h : A8 Z bw base gd D v1 v2 u1 u2 l m W) {gx : Nat} (hx : W.cell? ⟨gx, 0, none⟩ = some (.slice none 0 0)) (hm : m ≤ 200) :
    ∃ b n q w5, (Builtin.append_ #[54, 54] 54 #[u2, .slice (some ⟨gx, 0, none⟩) 1 1]).run Tryd.prog W = .ok (.slice b n q) w5 ∧ A8 Z bw base gd D v1 v2 u1 (.slice b n q) l (m + 1) w5 ∧ W.grownBy w5 u2.ownBlock := by
  obtain ⟨xs, ho, hs, _⟩ := h.way.own2
  obtain ⟨v5, w5, hr, hown, hg, hat⟩ := run_app_tx_at W 54 base u2 m xs (.slice none 0 0) rfl gx ho hx (by omega) h.way.big
  have h' := h.app2 (by intro x hx; rcases List.mem_append.1 hx with hx | hx; exact hs x hx; exact ⟨_, _, _, List.mem_singleton.1 hx⟩) hown hg hat
  obtain ⟨b, n, q, rfl⟩ := slice_form hown
  exact ⟨b, n, q, w5, hr, h', hg⟩
/-- both are stored -/
theorem A8.done (h : A8 Z bw base gd D v1 v2 u1 u2 l m W) : WayAt ((W.setCell ⟨bw, 1, none⟩ u2).setCell ⟨bw, 0, none⟩ u1) bw base u1 u2 u1 u2 l m ∧ WayCh Z ((W.setCell ⟨bw, 1, none⟩ u2).setCell ⟨bw, 0, none⟩ u1) bw v1 v2 u1 u2 := by
  obtain ⟨a1, k1⟩ := h.way.set (c1' := v1) (c2' := u2) 1 u2 rfl
  obtain ⟨a2, k2⟩ := a1.set (c1' := u1) (c2' := u2) 0 u1 rfl
  exact ⟨a2, (h.ch.trans k1).trans k2⟩
end

section
variable {P : Program} {md : Region.Mode} {ops : Array Oper} {Q : Exit → Act → World → Prop} {S : World → Prop} {t : Nat}
/-- what yields in whatever world may come first -/
theorem anyU_pure {i : Nat} {oi : Oper} {v : Value} (hi : ops[i]? = some oi) (hsel : ∀ (j : Nat) (o : Oper) cs b, ops[j]? = some o → o.op ≠ .select cs b)
    (hQ : ∀ c a w, Q (.panic c) (a.put oi.dst v) w → Q (.panic c) a w) (hit : i ≠ t) :
    ∀ (fuel : Nat) (listed : Array Bool) (a : Act) (w : World),
      (∀ j oj, ops[j]? = some oj → j ≠ i → listed.getD j true = false → (∀ e ∈ oj.after, Region.binds md e = true → e.on ≠ i) → oi.apart ops oj = true) →
      i ∈ Region.ready md ops listed → YieldsIf P ops (fun _ => True) oi v a → (listed.getD t true = false → S w) →
      wpAnyU P md ops Q S t fuel (listed.setIfInBounds i true) (a.put oi.dst v) w → wpAnyU P md ops Q S t (fuel + 1) listed a w := by
  intro fuel
  have hget : ∀ l : Array Bool, (l.setIfInBounds i true).getD t true = l.getD t true := fun l => getD_set_ne true hit
  induction fuel with
  | zero =>
    intro listed a w _ hr hy hS H
    refine ⟨fun h => (by rw [h] at hr; cases hr), fun j hj => ?_⟩
    by_cases hji : j = i
    · subst hji; exact hy.wpOp hi trivial ⟨fun h => hS (by rw [hget] at h; exact h), H⟩
    · have := ready_mono hj hji
      rw [H.1] at this
      cases this
  | succ fuel ih =>
    intro listed a w hfree hr hy hS H
    refine ⟨fun h => (by rw [h] at hr; cases hr), fun j hj => ?_⟩
    by_cases hji : j = i
    · subst hji; exact hy.wpOp hi trivial ⟨fun h => hS (by rw [hget] at h; exact h), H⟩
    · have h1 := H.2 j (ready_mono hj hji)
      obtain ⟨hjun, oj, hoj, hall⟩ := mem_ready.1 hj
      have hnot : ∀ e ∈ oj.after, Region.binds md e = true → e.on ≠ i := fun e he hb heq => by
        have h1 := hall e he hb
        have h0 := (mem_ready.1 hr).1
        rw [heq] at h1
        rcases Nat.lt_or_ge i listed.size with h' | h'
        · simp [h'] at h0 h1; rw [h0] at h1; cases h1
        · simp [Array.getElem?_eq_none h'] at h1
      have h2 := wpOp_putIf hoj (hfree j oj hoj hji hjun hnot) (fun cs b => hsel i oi cs b hi) (fun cs b => hsel j oj cs b hoj) hQ hy h1
      have hfree' : ∀ k ok, ops[k]? = some ok → k ≠ i → (listed.setIfInBounds j true).getD k true = false →
          (∀ e ∈ ok.after, Region.binds md e = true → e.on ≠ i) → oi.apart ops ok = true := fun k ok hk hki hun hno => by
        refine hfree k ok hk hki ?_ hno
        by_cases hjk : j = k
        · subst hjk; exact hjun
        · rw [getD_set_ne true hjk] at hun; exact hun
      have hcm : (listed.setIfInBounds i true).setIfInBounds j true = (listed.setIfInBounds j true).setIfInBounds i true := Array.setIfInBounds_comm _ _ (Ne.symm hji)
      refine wpOp_mono (fun a' w' h3 => ?_) h2
      have h4 := h3.2
      rw [hcm] at h4
      have hS' : (listed.setIfInBounds j true).getD t true = false → S w' := fun h => h4.1 (by rw [hget]; exact h)
      exact ⟨hS', ih (listed.setIfInBounds j true) a' w' hfree' (ready_mono hr (Ne.symm hji)) h3.1 hS' h4.2⟩

variable {dst : Option Tmp} {op : Op} {ty : TypeId} {pos : String} {after : Array Edge} {guard : Option (Nat × Bool)}
theorem take_p (i : Nat) (v : Value) {fuel : Nat} {listed : Array Bool} {a : Act} {w : World}
    (hi : ops[i]? = some { dst := dst, op := op, type := ty, pos := pos, after := after, guard := guard }) (hs : Region.noSelect ops = true) (hf : Region.free md ops listed i = true) (hr : (Region.ready md ops listed).contains i = true) (hit : decide (i = t) = false)
    (hQ : ∀ c a w, Q (.panic c) (a.put dst v) w → Q (.panic c) a w) (hy : YieldsIf P ops (fun _ => True) { dst := dst, op := op, type := ty, pos := pos, after := after, guard := guard } v a) (hS : listed.getD t true = false → S w)
    (h : wpAnyU P md ops Q S t fuel (listed.setIfInBounds i true) (a.put dst v) w) : wpAnyU P md ops Q S t (fuel + 1) listed a w :=
  anyU_pure hi (Region.noSelect_spec hs) hQ (of_decide_eq_false hit) fuel listed a w (Region.free_spec hi hf) (by simpa using hr) hy hS h

end

section
variable {P : Program} {md : Region.Mode} {ops : Array Oper} {Q : Exit → Act → World → Prop} {S : World → Prop} {t : Nat} {dst : Option Tmp} {op : Op} {ty : TypeId} {pos : String} {after : Array Edge} {guard : Option (Nat × Bool)}
theorem readyU_two {i j : Nat} {fuel : Nat} {listed : Array Bool} {a : Act} {w : World} (hr : Region.ready md ops listed = [i, j])
    (h1 : wpOp P ops Q i (fun a' w' => ((listed.setIfInBounds i true).getD t true = false → S w') ∧ wpAnyU P md ops Q S t fuel (listed.setIfInBounds i true) a' w') a w)
    (h2 : wpOp P ops Q j (fun a' w' => ((listed.setIfInBounds j true).getD t true = false → S w') ∧ wpAnyU P md ops Q S t fuel (listed.setIfInBounds j true) a' w') a w) : wpAnyU P md ops Q S t (fuel + 1) listed a w :=
  ⟨fun h0 => (by rw [hr] at h0; cases h0), fun k hk => by
    rw [hr] at hk
    have hk' : k = i ∨ k = j := by simpa using hk
    rcases hk' with rfl | rfl
    · exact h1
    · exact h2⟩
theorem oper_w (i : Nat) {fuel : Nat} {listed : Array Bool} {a : Act} {w : World} (v : Value) (w' : World)
    (hi : ops[i]? = some { dst := dst, op := op, type := ty, pos := pos, after := after, guard := guard })
    (hw : Region.wanted { dst := dst, op := op, type := ty, pos := pos, after := after, guard := guard } (yielded ops a.tmps) = true)
    (hrun : (execOp a.eval { dst := dst, op := op, type := ty, pos := pos, after := after, guard := guard }).run P w = .ok (.value v) w')
    (hS : S w') (hn : wpAnyU P md ops Q S t fuel (listed.setIfInBounds i true) (a.put dst v) w') :
    wpOp P ops Q i (fun a' w' => ((listed.setIfInBounds i true).getD t true = false → S w') ∧ wpAnyU P md ops Q S t fuel (listed.setIfInBounds i true) a' w') a w :=
  wpOp_step hi (fun K hK => by
    rw [if_pos hw]
    unfold Oper.wp
    rw [hrun]
    exact hK _ _ ⟨fun _ => hS, hn⟩)
theorem oper_x (i : Nat) {fuel : Nat} {listed : Array Bool} {a : Act} {w : World} (v : Value) (w' : World)
    (hi : ops[i]? = some { dst := dst, op := op, type := ty, pos := pos, after := after, guard := guard }) (hr : Region.ready md ops listed = [i])
    (hw : Region.wanted { dst := dst, op := op, type := ty, pos := pos, after := after, guard := guard } (yielded ops a.tmps) = true)
    (hrun : (execOp a.eval { dst := dst, op := op, type := ty, pos := pos, after := after, guard := guard }).run P w = .ok (.value v) w')
    (hS : S w') (hn : wpAnyU P md ops Q S t fuel (listed.setIfInBounds i true) (a.put dst v) w') : wpAnyU P md ops Q S t (fuel + 1) listed a w :=
  readyU_one hr (oper_w i v w' hi hw hrun hS hn)
theorem skip_x (i : Nat) {fuel : Nat} {listed : Array Bool} {a : Act} {w : World} (w' : World)
    (hi : ops[i]? = some { dst := dst, op := op, type := ty, pos := pos, after := after, guard := guard }) (hr : Region.ready md ops listed = [i]) (ht : (listed.setIfInBounds i true).getD t true = true)
    (hw : Region.wanted { dst := dst, op := op, type := ty, pos := pos, after := after, guard := guard } (yielded ops a.tmps) = true)
    (hrun : (execOp a.eval { dst := dst, op := op, type := ty, pos := pos, after := after, guard := guard }).run P w = .ok .skip w')
    (hn : wpAnyU P md ops Q S t fuel (listed.setIfInBounds i true) (a.put dst undef) w') : wpAnyU P md ops Q S t (fuel + 1) listed a w :=
  readyU_one hr (wpOp_step hi (fun K hK => by
    rw [if_pos hw]
    unfold Oper.wp
    rw [hrun]
    exact hK _ _ ⟨fun h => (by rw [ht] at h; cases h), hn⟩))
theorem oper_u' (i : Nat) {fuel : Nat} {listed : Array Bool} {a : Act} {w : World} (v : Value) (w' : World)
    (hi : ops[i]? = some { dst := dst, op := op, type := ty, pos := pos, after := after, guard := guard }) (hr : Region.ready md ops listed = [i]) (ht : (listed.setIfInBounds i true).getD t true = true)
    (hw : Region.wanted { dst := dst, op := op, type := ty, pos := pos, after := after, guard := guard } (yielded ops a.tmps) = true)
    (hrun : (execOp a.eval { dst := dst, op := op, type := ty, pos := pos, after := after, guard := guard }).run P w = .ok (.value v) w')
    (hn : wpAnyU P md ops Q S t fuel (listed.setIfInBounds i true) (a.put dst v) w') : wpAnyU P md ops Q S t (fuel + 1) listed a w :=
  readyU_one hr (wpOp_step hi (fun K hK => by
    rw [if_pos hw]
    unfold Oper.wp
    rw [hrun]
    exact hK _ _ ⟨fun h => (by rw [ht] at h; cases h), hn⟩))
theorem anyU_of_H' {S' : World → Prop} : ∀ (fuel : Nat) (listed : Array Bool) (a : Act) (w : World), listed.getD t true = true → wpAnyH P md ops Q S' fuel listed a w → wpAnyU P md ops Q S t fuel listed a w
  | 0, _, _, _, _, h => h
  | fuel + 1, listed, a, w, ht, h => ⟨h.1, fun i hi => wpOp_mono (fun a' w' h' => by
      have hs : (listed.setIfInBounds i true).getD t true = true := by
        by_cases hit : i = t
        · subst hit
          rcases Nat.lt_or_ge i listed.size with h1 | h1
          · simp [h1]
          · simp [h1]
        · rw [getD_set_ne true hit]; exact ht
      exact ⟨fun hf => (by rw [hs] at hf; cases hf), anyU_of_H' fuel _ a' w' hs h'.2⟩) (h.2 i hi)⟩
theorem wpIn_region_heldU (t : Nat) {l n id : Nat} {a : Act} {w : World} (hd : noDefer ops = true) (hQ : ¬ LetsOut Q) (hm : P.follows .mixedOrders = true) (hS : S w.drew)
    (h : S w.drew → wpAnyU P .any ops Q S t ops.size (Array.replicate ops.size false) a w.drew) : (Code.region id ops true).wpIn (Fence.wide.inRound l) n P Q a w :=
  wpIn_region_any hm (anyIn_of_any hd hQ _ _ _ _ (any_of_U _ _ _ _ (h hS)))
end

section
attribute [local go_sem] Oper.semAt_some
set_option maxHeartbeats 4000000 in
theorem mclimb_any (R : List Bytes) (n i K g nt ct : Nat) (pv : Value) (t : Bytes) (w : World) (hG : Glob w) (h32 : ∀ d ∈ R, d.length = 32) (hR : R.length = n) (hi : i < n) (hm : n ≤ 100) (hK1 : (rowN R K).length ≤ 1) (hK2 : ∀ k, k < K → 1 < (rowN R k).length)
    (hI : IsB w (some ⟨g, 0, none⟩) nt ct t) (h0 : 0 < t.length) (h1 : t.length ≤ 1000) (hD : digA R i 0 = leafD t) (hp : PathAt w pv (restB R i 0 K)) :
    Calls Tryd.prog 68 #[.int .i64 n, .int .i64 i, .slice (some ⟨g, 0, none⟩) nt ct, pv] w fun e w' => ∃ v1 b2 m2 q2, e = .returned (.tuple #[.agg #[v1, .slice b2 m2 q2], .bool true]) ∧ Seal (w'.ownsRow w.heap.size 25 32 v1 (K + 1) (dcells (digL R i K)) ∧ Below w.heap.size w w') := by
  obtain ⟨X, hX⟩ : ∃ X : World, X = (((w.alloc (.cells #[pv] 51)).alloc (.cells #[.slice none 0 0, .slice none 0 0] 110)).alloc (.cells #[.bool false] 4)).alloc (.cells #[.func (.func 101) #[] #[.pointer (some ⟨w.heap.size + 1, 0, none⟩)]] 141) := ⟨_, rfl⟩
  have hXb : Below w.heap.size w X := by rw [hX]; exact ((((Below.refl _ w).alloc (Nat.le_refl _) _).alloc (by simp) _).alloc (by simp; omega) _).alloc (by simp; omega) _
  have hXs : X.heap.size = w.heap.size + 4 := by rw [hX]; simp
  have X7 : X.heap[w.heap.size]? = some (.cells #[pv] 51 (0, 0)) := by
    rw [hX]; exact (Below.heap_alloc _ _ _ (by simp; omega)).trans ((Below.heap_alloc _ _ _ (by simp; omega)).trans ((Below.heap_alloc _ _ _ (by simp)).trans (heap_alloc_new w _)))
  have X8 : X.heap[w.heap.size + 1]? = some (.cells #[.slice none 0 0, .slice none 0 0] 110 (0, 0)) := by
    rw [hX]; refine (Below.heap_alloc _ _ _ (by simp)).trans ((Below.heap_alloc _ _ _ (by simp)).trans ?_)
    have := heap_alloc_new (w.alloc (.cells #[pv] 51)) (.cells #[.slice none 0 0, .slice none 0 0] 110)
    rwa [size_alloc] at this
  have X9 : X.heap[w.heap.size + 1 + 1]? = some (.cells #[.bool false] 4 (0, 0)) := by
    rw [hX]; refine (Below.heap_alloc _ _ _ (by simp)).trans ?_
    have := heap_alloc_new ((w.alloc (.cells #[pv] 51)).alloc (.cells #[.slice none 0 0, .slice none 0 0] 110)) (.cells #[.bool false] 4)
    rwa [size_alloc, size_alloc] at this
  have X10 : X.heap[w.heap.size + 1 + 1 + 1]? = some (.cells #[.func (.func 101) #[] #[.pointer (some ⟨w.heap.size + 1, 0, none⟩)]] 141 (0, 0)) := by
    rw [hX]
    have := heap_alloc_new (((w.alloc (.cells #[pv] 51)).alloc (.cells #[.slice none 0 0, .slice none 0 0] 110)).alloc (.cells #[.bool false] 4)) (.cells #[.func (.func 101) #[] #[.pointer (some ⟨w.heap.size + 1, 0, none⟩)]] 141)
    rwa [size_alloc, size_alloc, size_alloc] at this
  have hXd := X.drew
  have HGl : Seal (∀ r, globB r → r < w.heap.size) := ⟨fun r hr => by
    rcases hr with rfl | rfl
    · exact block_lt_of_cell (hG.start 0 _ (List.getElem?_eq_getElem (by decide)))
    · exact block_lt_of_cell (hG.nums 0 _ (List.getElem?_eq_getElem (by decide)))⟩
  have hDb : Below w.heap.size w X.drew := hXb.trans ((below_drewn X).mono hXb.size)
  have a0 : WayAt X (w.heap.size + 1) (w.heap.size + 4) (.slice none 0 0) (.slice none 0 0) (.slice none 0 0) (.slice none 0 0) [] 0 := ⟨X8, World.ownsRow_nil _ _ _ _, ⟨[], World.ownsRow_nil _ _ _ _, by simp, fun _ => rfl⟩, fun r e => (by cases e), by omega, by omega⟩
  obtain ⟨aD, kD⟩ := a0.below (below_drewn X)
  obtain ⟨V, hV⟩ : ∃ V, V = X.drew := ⟨_, rfl⟩
  rw [← hV] at aD hDb
  obtain ⟨hdr, hhdr⟩ : ∃ x : Value, x = .slice (some ⟨g, 0, none⟩) nt ct := ⟨_, rfl⟩
  obtain ⟨aE, _⟩ := aD.below (below_alloc V (.cells #[hdr] 47))
  have hEb : Below w.heap.size w (V.alloc (.cells #[hdr] 47)) := hDb.alloc hDb.size _
  have hlt := hI.llen
  have HT0 := mtext_core ⟨#[108, 101, 97, 102]⟩ (some ⟨V.heap.size, 0, none⟩) 1 1 t (V.alloc (.cells #[hdr] 47)) (hG.below hEb) (by decide) (by decide) (by omega) (by omega) (fun W hW => join_one V.heap.size 0 (some ⟨g, 0, none⟩) nt ct 1 t W
      ((hW.cell (p := ⟨V.heap.size, 0, none⟩) (by simp)).trans (by rw [cell_of_row _ _ _ _ _ _ (heap_alloc_new V _), hhdr]; rfl)) ((hI.later hEb).later hW) (by omega))
  have eT : (⟨#[108, 101, 97, 102]⟩ : ByteArray).data.toList = tgLeaf := rfl
  rw [eT] at HT0
  have HT := Seal.mk HT0
  have V10 : V.cell? ⟨w.heap.size + 1 + 1 + 1, 0, none⟩ = some (.func (.func 101) #[] #[.pointer (some ⟨w.heap.size + 1, 0, none⟩)]) := by rw [hV]; rw [show X.drew.cell? ⟨w.heap.size + 1 + 1 + 1, 0, none⟩ = X.cell? ⟨w.heap.size + 1 + 1 + 1, 0, none⟩ from rfl, cell_of_row _ _ _ _ _ _ X10]; rfl
  have E10 : (V.alloc (.cells #[hdr] 47)).cell? ⟨w.heap.size + 1 + 1 + 1, 0, none⟩ = some (.func (.func 101) #[] #[.pointer (some ⟨w.heap.size + 1, 0, none⟩)]) := cell_allocd V10 _
  have HE := Seal.mk (And.intro aE hEb)
  have HX := Seal.mk (And.intro hXb (And.intro X7 (And.intro X9 (And.intro X10 hXs))))
  have HVX : Seal (V.heap = X.heap) := ⟨by rw [hV]; rfl⟩
  have HGw := Seal.mk hG
  obtain ⟨pa, pc, rfl, hpc, hpm, hpp⟩ := hp.at_
  obtain ⟨pl, hpl⟩ : ∃ pl, pl = (restB R i 0 K).length := ⟨_, rfl⟩
  rw [← hpl] at hX X7 HX hp ⊢
  have HP := Seal.mk hp
  have HR := Seal.mk (And.intro h32 (And.intro hR (And.intro hi (And.intro hm (And.intro hK1 hK2)))))
  have HDt := Seal.mk hD
  have HIt := Seal.mk (And.intro hI (And.intro h0 h1))
  clear hXd hG h32 hR hm hi hK1 hK2 hI h0 h1 hD hp hpp hpc hpm hpl X7 X8 X9 X10 hXb a0 aD kD aE hEb hlt HT0 eT hDb
  refine (callsIn_wide (n := 3)).1 ?_
  refine callsIn_of_wp_marks Tryd.func68 rfl trivial ?_ rfl
  simp only [Tryd.ntmps68, List.size_toArray, List.length_cons, List.length_nil, Nat.reduceAdd, Nat.reduceSub, Array.replicate_succ, Array.replicate_zero, List.push_toArray, List.append_toArray, List.nil_append, List.cons_append]
  refine wpIn_wide.2 ?_
  go_upto_region 2 with (fail)
  rw [← hX]
  refine wp_norm (wp_region_held_drew (S := fun w' => w'.cell? ⟨w.heap.size + 1 + 1 + 1, 0, none⟩ = some (.func (.func 101) #[] #[.pointer (some ⟨w.heap.size + 1, 0, none⟩)])) (by kernel_rfl) (by rw [← hV]; exact V10) (fun hHeld => ?_))
  rw [← hV] at hHeld ⊢
  clear hX hV V10 hXs
  rw [← hhdr]
  refine take_h 0 ?_ rfl (by kernel_rfl) (by kernel_rfl) (by kernel_rfl) (fun _ _ _ h => h) (Or.inl ⟨by kernel_rfl, ?_⟩) (by assumption) ?_
  rotate_left
  · (intro w hSw; (try dsimp only at hSw); go_simp; try (with_reducible rfl))
  try simp only [Act.put, List.setIfInBounds_toArray, List.set_cons_zero, List.set_cons_succ]
  refine take_h 1 ?_ rfl (by kernel_rfl) (by kernel_rfl) (by kernel_rfl) (fun _ _ _ h => h) (Or.inl ⟨by kernel_rfl, ?_⟩) (by assumption) ?_
  rotate_left
  · (intro w hSw; (try dsimp only at hSw); go_simp; try (with_reducible rfl))
  try simp only [Act.put, List.setIfInBounds_toArray, List.set_cons_zero, List.set_cons_succ]
  refine oper_h 2 (.slice (some ⟨V.heap.size, 0, none⟩) 1 1) (V.alloc (.cells #[hdr] 47)) rfl (by kernel_rfl) (by kernel_rfl) (by go_simp) E10 (fun hHeld2 => ?_)
  clear hHeld
  try simp only [Act.put, List.setIfInBounds_toArray, List.set_cons_zero, List.set_cons_succ]
  refine call_h 3 rfl (by kernel_rfl) 103 #[.string ⟨#[108, 101, 97, 102]⟩, .slice (some ⟨V.heap.size, 0, none⟩) 1 1] (by kernel_rfl) (by go_simp) ?_
  refine HT.out.mono ?_
  intro e w3 hp3
  have h1 := HIt.out.2.2
  obtain ⟨g3, n3, c3, rfl, hI3, hb3⟩ := listPost_isB hp3 (by rw [List.length_append, sha_length]; omega)
  have w10 : w3.cell? ⟨w.heap.size + 1 + 1 + 1, 0, none⟩ = some (.func (.func 101) #[] #[.pointer (some ⟨w.heap.size + 1, 0, none⟩)]) := cell_later hb3 hHeld2
  refine ⟨_, rfl, w10, fun hHeld3 => ?_⟩
  clear hHeld2
  try simp only [Act.put, List.setIfInBounds_toArray, List.set_cons_zero, List.set_cons_succ]
  obtain ⟨a3, _⟩ := HE.out.1.below hb3
  have hB3 := HE.out.2.trans (hb3.mono HE.out.2.size)
  have HM := Seal.mk (madd_any (w.heap.size + 1) (w.heap.size + 4) g3 n3 c3 0 _ _ [] (sha tgLeaf ++ t) w3 (HGw.out.below hB3) a3 hI3 (by rw [List.length_append, sha_length]; omega) (by rw [List.length_append, sha_length]; omega) (by decide) (by decide) (fun r hr => by have := HGl.out r hr; omega))
  refine call_h 4 rfl (by kernel_rfl) 101 #[.slice (some ⟨g3, 0, none⟩) n3 c3, .pointer (some ⟨w.heap.size + 1, 0, none⟩)] (by kernel_rfl) (by go_simp) ?_
  refine HM.out.mono ?_
  rintro e w4 ⟨rfl, hs4⟩
  obtain ⟨u1, u2, a4, k4⟩ := hs4.out
  have w4c : ∀ r, r < w.heap.size + 4 → r ≠ w.heap.size + 1 → w4.heap[r]? = w3.heap[r]? := fun r hr hne => k4.blk r (by have := a3.big; omega) hne (fun e => by cases e) (fun e => by cases e)
  refine ⟨_, rfl, (World.cell?_of_block (w := w3) (w4c (w.heap.size + 1 + 1 + 1) (by omega) (by omega))).trans w10, fun hHeld4 => ?_⟩
  clear hHeld3 hHeld4
  try simp only [Act.put, List.setIfInBounds_toArray, List.set_cons_zero, List.set_cons_succ]
  refine wpAnyH_done (by kernel_rfl) ?_ _
  have hxs := HX.out.2.2.2.2
  have kp : ∀ r cs t, r < w.heap.size + 4 → r ≠ w.heap.size + 1 → X.heap[r]? = some (.cells cs t (0, 0)) → w4.heap[r]? = some (.cells cs t (0, 0)) := fun r cs t hr hne h =>
    (w4c r hr hne).trans ((hb3.block r (by rw [size_alloc, show V.heap.size = X.heap.size from by rw [HVX.out]]; omega)).trans ((Below.heap_alloc V _ r (by rw [HVX.out]; omega)).trans (by rw [HVX.out]; exact h)))
  have hB4 : Below w.heap.size w w4 := ⟨k4.os.trans hB3.os, k4.tape.trans hB3.tape, k4.output.trans hB3.output, by have := k4.size; have := hB3.size; omega, fun r hr => (w4c r (by omega) (by omega)).trans (hB3.block r hr)⟩
  obtain ⟨bn, hbn⟩ : ∃ x, x = w4.heap.size := ⟨_, rfl⟩
  have l1 := a4.lt1
  have l2 := a4.lt2
  obtain ⟨Y, hY⟩ : ∃ Y : World, Y = (w4.alloc (.cells #[.int .i64 n] 3)).alloc (.cells #[.int .i64 i] 3) := ⟨_, rfl⟩
  have hYg : Below w4.heap.size w4 Y := by rw [hY]; exact ((Below.refl _ w4).alloc (Nat.le_refl _) _).alloc (by simp) _
  obtain ⟨aY, _⟩ := a4.below hYg
  have big4 := a4.big
  have HY0 : Seal (ClRel R i w bn (bn + 1) 0 (restB R i 0 K) (.slice pa pl pc) u1 u2 Y) := ⟨⟨blk hYg (by omega) (kp _ _ _ (by omega) (by omega) HX.out.2.1), by
      have e : [] ++ [sha (sha tgLeaf ++ t)] = digL R i 0 := by show _ = [digA R i 0]; rw [HDt.out]; rfl
      rw [e] at aY
      exact aY, blk hYg (by omega) (kp _ _ _ (by omega) (by omega) HX.out.2.2.1), blk hYg (by omega) (kp _ _ _ (by omega) (by omega) HX.out.2.2.2.1), HP.out, hB4.trans (hYg.mono hB4.size),
      ⟨fun e => by have := (l1 _ e).2; omega, fun e => by have := (l1 _ e).2; omega⟩, ⟨fun e => by have := (l2 _ e).2; omega, fun e => by have := (l2 _ e).2; omega⟩⟩⟩
  have HSt : Seal (Calls Tryd.prog 104 #[.int .i64 n, .int .i64 i] w4 fun e w' => e = .returned (.func (.func 126) #[] #[.pointer (some ⟨bn, 0, none⟩), .pointer (some ⟨bn + 1, 0, none⟩)]) ∧ Y = w') := ⟨by rw [hbn, hY]; exact steps_any n i w4⟩
  have Ybn : Y.heap[bn]? = some (.cells #[.int .i64 n] 3 (0, 0)) := by rw [hY, hbn]; exact heap_alloc2_old w4 _ _
  have Ybi : Y.heap[bn + 1]? = some (.cells #[.int .i64 i] 3 (0, 0)) := by rw [hY, hbn]; exact heap_alloc2_new w4 _ _
  have HSq := Seal.mk (steps_seq 2 n i bn (bn + 1) Y HR.out.2.2.2.1 HR.out.2.2.1 (by omega) (by rw [cell_of_row _ _ _ _ _ _ Ybn]; rfl) (frozen_of_row _ _ _ _ _ Ybn) (by rw [cell_of_row _ _ _ _ _ _ Ybi]; rfl) (frozen_of_row _ _ _ _ _ Ybi))
  have HS := Seal.mk (show w.heap.size + 4 ≤ bn ∧ Y.heap.size = bn + 2 from ⟨by omega, by rw [hY, hbn]; simp⟩)
  clear hxs kp hB4 l1 l2 hYg aY big4 Ybn Ybi a4 k4 w4c hs4 HM a3 hB3 w10 hI3 hb3 hp3 h1 hbn hY HT HE HVX E10 hhdr
  unfold NormQ
  dsimp only
  go_wp2_with fail
  refine HSt.out.mono ?_
  rintro e w5 ⟨rfl, rfl⟩
  clear HSt
  go_wp2_with fail
  have hDR := nAt_row R
  rw [HR.out.2.1] at hDR
  have HDR := Seal.mk hDR
  clear hDR
  refine (wpIn_wide (n := 3)).1 ?_
  refine wpIn_rangeFunc_step rfl (by decide) (gf := 126) (lb := #[.pointer (some ⟨bn, 0, none⟩), .pointer (some ⟨bn + 1, 0, none⟩)]) rfl trivial (enters_of Tryd.func126 (by kernel_rfl) rfl)
    HSq.out (by rintro r (rfl | rfl) <;> have := HS.out <;> omega) (fun _ => rfl)
    (fun pre W => ∃ pv v1 v2, ClRel R i w bn (bn + 1) pre.length (restB R i pre.length (K - pre.length)) pv v1 v2 W)
    ?own ⟨_, _, _, HY0.out⟩ ?round ?done
  case own =>
    rintro pre A B' row ⟨pv, v1, v2, hA⟩ hg hr
    have hs := HS.out
    exact ⟨pv, v1, v2, hA.grown ⟨hs.1, by omega⟩ hg (fun b e => (hr b e).imp id (fun h => ⟨by omega, h.2⟩))⟩
  case round =>
    rintro l pre x W ⟨pv, v1, v2, hA⟩ hlen ⟨rfl, hx1, hx2⟩ hzl
    have hs := HS.out
    rw [HDR.out] at hx1
    have hkK : pre.length < K := by
      rcases Nat.lt_or_ge pre.length K with h | h
      · exact h
      · rcases Nat.eq_or_lt_of_le h with h' | h'
        · rw [← h'] at hx1; have := HR.out.2.2.2.2.1; omega
        · have := hx2 K h'; rw [HDR.out] at this; have := HR.out.2.2.2.2.1; omega
    unfold stpE
    rw [HDR.out]
    obtain ⟨al, hal⟩ : ∃ x, x = decide ((rowN R pre.length).length ≤ (i / 2 ^ pre.length) ^^^ 1) := ⟨_, rfl⟩
    obtain ⟨ri, hri⟩ : ∃ x, x = ((i / 2 ^ pre.length) % 2 == 0) := ⟨_, rfl⟩
    rw [← hal, ← hri]
    have HX1 := Seal.mk (And.intro hal (And.intro hri hkK))
    clear hal hri hkK hx1 hx2
    obtain ⟨b1, m1, q1, rfl⟩ := slice_form hA.way.own1
    obtain ⟨xs2, ho2, _⟩ := hA.way.own2
    obtain ⟨b2, m2, q2, rfl⟩ := slice_form ho2
    obtain ⟨pb, pq, rfl, _⟩ := hA.pth.at_
    obtain ⟨pm, hpm⟩ : ∃ x, x = (restB R i pre.length (K - pre.length)).length := ⟨_, rfl⟩
    rw [← hpm] at hA
    have HA := Seal.mk hA
    clear hA ho2
    gi_wp2
    refine ⟨KeepsOthers.alloc _ _, fun r hr => Below.heap_alloc _ _ _ (by rcases hr with rfl | rfl <;> omega), fun Wb hg hsz ho => ?_⟩
    have HB0 : ClRel R i w bn (bn + 1) pre.length (restB R i pre.length (K - pre.length)) (.slice pb pm pq) (.slice b1 m1 q1) (.slice b2 m2 q2) Wb :=
      (HA.out.grown ⟨hs.1, by omega⟩ (World.grownBy_alloc W _ none) (fun b e => by cases e)).grown ⟨hs.1, by omega⟩ hg (fun b e => .inr (by have := Option.some.inj e; subst this; exact ⟨by omega, ho⟩))
    obtain ⟨gs, hgs⟩ : ∃ x, x = W.heap.size := ⟨_, rfl⟩
    have S0 : Wb.heap[gs]? = some (.cells #[.bool al, .bool ri] 147 (0, 0)) := by
      rw [hgs]
      exact (hg.block _ (by rw [size_alloc]; omega) (fun e => by have := Option.some.inj e; omega)).trans (heap_alloc_new W _)
    have hgb : gs < Wb.heap.size := (Array.getElem?_eq_some_iff.1 S0).1
    have hYb : Y.heap.size < Wb.heap.size := by omega
    have hWW : Seal (W.heap.size ≤ Wb.heap.size ∧ (∀ r, (r = bn ∨ r = bn + 1) → r < Wb.heap.size)) := ⟨by rw [hsz, size_alloc]; omega, fun r hr => by rcases hr with rfl | rfl <;> omega⟩
    rw [← hgs]
    clear hg hsz ho hgs
    obtain ⟨g1, rfl, hm1, r1⟩ : ∃ g1, b1 = some ⟨g1, 0, none⟩ ∧ m1 = pre.length + 1 ∧ Wb.rangeAt g1 0 (dcells (digL R i pre.length)) := by
      have ho1 := HB0.way.own1
      rw [digL_len] at ho1
      rcases ho1.2 with ⟨e, hz⟩ | ⟨g, cap, cur, e, hb, hg, hnc, hcm, hcs, htk⟩
      · omega
      · cases e
        refine ⟨g, rfl, rfl, ?_⟩
        have hr := rangeAt_take (rangeAt_row (cs := cur.toList) (by simpa using hg)) ((pre.length + 1) * 32)
        rw [htk] at hr
        exact hr
    have rD := range_dg r1 (digL_32 HR.out.1 (by rw [HR.out.2.1]; exact HR.out.2.2.1) pre.length) (i := pre.length) (by rw [digL_len]; omega)
    rw [digL_last, Nat.zero_add] at rD
    have hkb : pre.length ≤ 100 := by have := HR.out.2.2.2.1; omega
    have d32 := digA_32 HR.out.1 (i := i) (by rw [HR.out.2.1]; exact HR.out.2.2.1) pre.length
    obtain ⟨D, hD⟩ : ∃ D, D = digA R i pre.length := ⟨_, rfl⟩
    rw [← hD] at rD d32
    have iD := dg_info D d32
    have uD := Tryd.underlying25
    obtain ⟨y0, y1, f0, f1⟩ := HB0.way.cells
    have hm1' := Seal.mk hm1
    have s0 : Wb.cell? ⟨gs, 0, none⟩ = some (.bool al) := by rw [cell_of_row _ _ _ _ _ _ S0]; rfl
    have s1 : Wb.cell? ⟨gs, 1, none⟩ = some (.bool ri) := by rw [cell_of_row _ _ _ _ _ _ S0]; rfl
    have HD := Seal.mk hD
    have HB := Seal.mk HB0
    have HR32 : Seal ((#[.int .u8 0, .int .u8 0, .int .u8 0, .int .u8 0, .int .u8 0, .int .u8 0, .int .u8 0, .int .u8 0, .int .u8 0, .int .u8 0, .int .u8 0, .int .u8 0, .int .u8 0, .int .u8 0, .int .u8 0, .int .u8 0, .int .u8 0, .int .u8 0, .int .u8 0, .int .u8 0, .int .u8 0, .int .u8 0, .int .u8 0, .int .u8 0, .int .u8 0, .int .u8 0, .int .u8 0, .int .u8 0, .int .u8 0, .int .u8 0, .int .u8 0, .int .u8 0] : Array Value).size = (D.map B).toArray.size ∧ (D.map B).toArray.all (·.oneCell') = true ∧ (Tryd.prog.info? 25).map (·.size) = some (D.map B).toArray.size) := ⟨by show 32 = _; rw [List.size_toArray, List.length_map, d32], by simp [Value.oneCell'], by rw [List.size_toArray]; exact iD⟩
    have HZ := Seal.mk (heap_alloc_new Wb (.cells #[.int .u8 0, .int .u8 0, .int .u8 0, .int .u8 0, .int .u8 0, .int .u8 0, .int .u8 0, .int .u8 0, .int .u8 0, .int .u8 0, .int .u8 0, .int .u8 0, .int .u8 0, .int .u8 0, .int .u8 0, .int .u8 0, .int .u8 0, .int .u8 0, .int .u8 0, .int .u8 0, .int .u8 0, .int .u8 0, .int .u8 0, .int .u8 0, .int .u8 0, .int .u8 0, .int .u8 0, .int .u8 0, .int .u8 0, .int .u8 0, .int .u8 0, .int .u8 0] 25))
    obtain ⟨Z, hZ⟩ : ∃ Z, Z = (Wb.alloc (.cells #[.int .u8 0, .int .u8 0, .int .u8 0, .int .u8 0, .int .u8 0, .int .u8 0, .int .u8 0, .int .u8 0, .int .u8 0, .int .u8 0, .int .u8 0, .int .u8 0, .int .u8 0, .int .u8 0, .int .u8 0, .int .u8 0, .int .u8 0, .int .u8 0, .int .u8 0, .int .u8 0, .int .u8 0, .int .u8 0, .int .u8 0, .int .u8 0, .int .u8 0, .int .u8 0, .int .u8 0, .int .u8 0, .int .u8 0, .int .u8 0, .int .u8 0, .int .u8 0] 25)).setRow Wb.heap.size (D.map B).toArray := ⟨_, rfl⟩
    have hZb : Below Wb.heap.size Wb Z := by rw [hZ]; exact below_row (below_alloc _ _) (Nat.le_refl _) _
    have hZg : Wb.grownBy Z none := ⟨hZb.os, hZb.tape, hZb.output, hZb.size, fun k hk _ => hZb.block k hk⟩
    have hZd : Z.heap[Wb.heap.size]? = some (.cells (D.map B).toArray 25 (0, 0)) := by rw [hZ]; exact setRow_heap _ _ _ _ _ _ HZ.out
    have HBZ := Seal.mk (HB0.grown ⟨hs.1, by omega⟩ hZg (fun b e => by cases e))
    have HZk : Seal (KeepsOthers Wb Z) := ⟨KeepsOthers.of_grownBy hZg (fun j o e => by cases e)⟩
    have z0 : Z.cell? ⟨gs, 0, none⟩ = some (.bool al) := cell_later hZb s0
    have z1 : Z.cell? ⟨gs, 1, none⟩ = some (.bool ri) := cell_later hZb s1
    have zD : Z.rangeAt Wb.heap.size 0 (D.map B) := rangeAt_row hZd
    obtain ⟨gd, hgd⟩ : ∃ x, x = Wb.heap.size := ⟨_, rfl⟩
    have HZB := Seal.mk hZb
    clear HB0 r1 hD S0 HA hpm hZb hZg hZd s0 s1
    subst hm1
    cases al
    · have hRn := HR.out.2.1
      have hRi := HR.out.2.2.1
      have hRm := HR.out.2.2.2.1
      have hkK := HX1.out.2.2
      have hlo : (i / 2 ^ pre.length) ^^^ 1 < (rowN R pre.length).length := Nat.lt_of_not_le (of_decide_eq_false HX1.out.1.symm)
      have hHD := HD.out
      cases ri
      · have he : (i / 2 ^ pre.length) % 2 = 1 := by have := HX1.out.2.1; simp at this; omega
        obtain ⟨o, hpo, hdg⟩ := part_left (R := R) (i := i) (k := pre.length) (by omega) (by omega) hlo he
        have hrest : restB R i pre.length (K - pre.length) = o :: restB R i (pre.length + 1) (K - (pre.length + 1)) := by
          rw [show K - pre.length = (K - (pre.length + 1)) + 1 from by omega]
          show partB R i pre.length ++ _ = _
          rw [hpo]; rfl
        have o32 : o.length = 32 := restB_32 HR.out.1 i (K - pre.length) pre.length o (by rw [hrest]; simp)
        have hpth := HBZ.out.pth
        rw [hrest] at hpth
        obtain ⟨pa', pc', epv, hpc, hpm, hpp⟩ := hpth.at_
        obtain ⟨pg, po, rfl, hpg, hpr⟩ : ∃ pg po, pa' = some ⟨pg, po, none⟩ ∧ pg < w.heap.size ∧ w.rangeAt pg po (dcells (o :: restB R i (pre.length + 1) (K - (pre.length + 1)))) := by
          rcases hpp with h | h
          · cases h
          · exact h
        cases epv
        obtain ⟨ro, rr⟩ := rangeAt_one hpr o32
        obtain ⟨rest, hrs⟩ : ∃ x, x = restB R i (pre.length + 1) (K - (pre.length + 1)) := ⟨_, rfl⟩
        rw [← hrs] at hrest hpc hpr rr
        simp only [List.length_cons] at hpc
        have hdl : digL R i (pre.length + 1) = digL R i pre.length ++ [sha (sha tgNode ++ (o ++ D))] := by show digL R i pre.length ++ [digA R i (pre.length + 1)] = _; rw [hdg, ← hHD]; rfl
        have HPL := Seal.mk (And.intro hrest hdl)
        have HPR := Seal.mk (And.intro rr (And.intro hpg (And.intro hrs hpc)))
        have iO := dg_info o o32
        obtain ⟨rl, hrl⟩ : ∃ x, x = rest.length := ⟨_, rfl⟩
        have HRL := Seal.mk hrl
        rw [← hrl] at hpc
        have hpl1 : (o :: restB R i (pre.length + 1) (K - (pre.length + 1))).length = rl + 1 := by rw [← hrs, List.length_cons, hrl]
        have hb9 := HBZ.out.bel
        have zo : Z.rangeAt pg po (o.map B) := rangeAt_below' ro hb9
        have z7 : Z.cell? ⟨w.heap.size, 0, none⟩ = some (.slice (some ⟨pg, po, none⟩) (rl + 1) pq) := by
          have := HBZ.out.c7
          rw [hpl1] at this
          rw [cell_of_row _ _ _ _ _ _ this]; rfl
        have z10 : Z.cell? ⟨w.heap.size + 1 + 1 + 1, 0, none⟩ = some (.func (.func 101) #[] #[.pointer (some ⟨w.heap.size + 1, 0, none⟩)]) := by rw [cell_of_row _ _ _ _ _ _ HBZ.out.c10]; rfl
        have hq0 : ¬ ((rl : Int) + 1 = 0) := by omega
        have HGZ : Seal (Glob Z) := ⟨HGw.out.below hb9⟩
        clear hpo hdg hrest hpth hpp hpr ro rr hrs hdl hb9 hpl1 hHD hrl
        gi_wp2_with (first | (refine wpListIn_load_mid rfl 25 (.tmp 29) rfl g1 (pre.length * 32) rfl (D.map B) _ rD uD rfl iD ?_) | (refine wpListIn_store_row rfl 25 (.tmp 12) (.tmp 30) rfl Wb.heap.size (D.map B).toArray rfl rfl 25 #[.int .u8 0, .int .u8 0, .int .u8 0, .int .u8 0, .int .u8 0, .int .u8 0, .int .u8 0, .int .u8 0, .int .u8 0, .int .u8 0, .int .u8 0, .int .u8 0, .int .u8 0, .int .u8 0, .int .u8 0, .int .u8 0, .int .u8 0, .int .u8 0, .int .u8 0, .int .u8 0, .int .u8 0, .int .u8 0, .int .u8 0, .int .u8 0, .int .u8 0, .int .u8 0, .int .u8 0, .int .u8 0, .int .u8 0, .int .u8 0, .int .u8 0, .int .u8 0] HZ.out HR32.out.2.2 HR32.out.1 HR32.out.2.1 ?_; rw [← hZ]; clear hZ HZ y0 y1 f0 f1))
        rw [← hgd] at zD ⊢
        have lw1 := HB.out.way.lt1
        have lw2 := HB.out.way.lt2
        have hZs := HZB.out.size
        have n1 : (Value.slice (some ⟨g1, 0, none⟩) (pre.length + 1) q1).ownBlock ≠ some gd := fun e => by have := (lw1 _ e).2; omega
        have n2 : (Value.slice b2 m2 q2).ownBlock ≠ some gd := fun e => by have := (lw2 _ e).2; omega
        have hgdZ : gd < Z.heap.size := by
          have := block_lt_of_cell (zD 0 _ (by rw [List.getElem?_map, List.getElem?_eq_getElem (show 0 < D.length by omega)]; rfl))
          simpa using this
        have hgdw : w.heap.size + 1 < gd := by have := HB.out.way.big; omega
        obtain ⟨aZ, kZ⟩ := HBZ.out.way.below (below_drewn Z)
        have HNO := Seal.mk (mnode_any o D Z.drew (HGZ.out.below (below_drewn Z)) o32 d32)
        obtain ⟨V9, hV9⟩ : ∃ v, v = Z.drew := ⟨_, rfl⟩
        refine wpIn_region_held (S := fun w' => w'.cell? ⟨w.heap.size + 1 + 1 + 1, 0, none⟩ = some (.func (.func 101) #[] #[.pointer (some ⟨w.heap.size + 1, 0, none⟩)]) ∧ w'.rangeAt gd 0 (D.map B) ∧ w'.cell? ⟨w.heap.size, 0, none⟩ = some (.slice (some ⟨pg, po, none⟩) (rl + 1) pq) ∧ w'.rangeAt pg po (o.map B)) (by kernel_rfl) (by rintro ⟨_, _, h⟩; exact h) (by kernel_rfl) ⟨z10, zD, z7, zo⟩ (fun hHeld => ?_)
        have HGV : Seal (Glob V9) := ⟨by rw [hV9]; exact HGZ.out.below (below_drewn Z)⟩
        rw [← hV9] at hHeld aZ kZ HNO ⊢
        clear hV9 z10 zD z7 zo z0 z1
        have q0 : (0 : Int) < (rl : Int) + 1 := by omega
        have q0' : 0 < rl + 1 := by omega
        refine take_h 0 ?_ rfl (by kernel_rfl) (by kernel_rfl) (by kernel_rfl) (fun _ _ _ h => h) (Or.inl ⟨by kernel_rfl, ?_⟩) (by assumption) ?_
        rotate_left
        · (intro w hSw; (try dsimp only at hSw); go_simp; try (with_reducible rfl))
        try simp only [Act.put, List.setIfInBounds_toArray, List.set_cons_zero, List.set_cons_succ]
        refine take_h 1 ?_ rfl (by kernel_rfl) (by kernel_rfl) (by kernel_rfl) (fun _ _ _ h => h) (Or.inl ⟨by kernel_rfl, ?_⟩) (by assumption) ?_
        rotate_left
        · (intro w hSw; (try dsimp only at hSw); go_simp; try (with_reducible rfl))
        try simp only [Act.put, List.setIfInBounds_toArray, List.set_cons_zero, List.set_cons_succ]
        refine take_h 2 ?_ rfl (by kernel_rfl) (by kernel_rfl) (by kernel_rfl) (fun _ _ _ h => h) (Or.inl ⟨by kernel_rfl, ?_⟩) (by assumption) ?_
        rotate_left
        · (intro w hSw; (try dsimp only at hSw); go_simp; try (with_reducible rfl))
        try simp only [Act.put, List.setIfInBounds_toArray, List.set_cons_zero, List.set_cons_succ]
        refine take_h 3 _ rfl (by kernel_rfl) (by kernel_rfl) (by kernel_rfl) (fun _ _ _ h => h) (yieldsIf_load_mid (by kernel_rfl) 25 (.tmp 33) rfl pg po rfl (o.map B) _ (fun w hSw => hSw.2.2.2) uD rfl iO) (by assumption) ?_
        try simp only [Act.put, List.setIfInBounds_toArray, List.set_cons_zero, List.set_cons_succ]
        refine take_h 4 _ rfl (by kernel_rfl) (by kernel_rfl) (by kernel_rfl) (fun _ _ _ h => h) (yieldsIf_load_mid (by kernel_rfl) 25 (.tmp 12) rfl gd 0 rfl (D.map B) _ (fun w hSw => hSw.2.1) uD rfl iD) (by assumption) ?_
        try simp only [Act.put, List.setIfInBounds_toArray, List.set_cons_zero, List.set_cons_succ]
        refine call_h 5 rfl (by kernel_rfl) 105 #[.agg (o.map B).toArray, .agg (D.map B).toArray] (by kernel_rfl) (by go_simp) ?_
        refine HNO.out.mono ?_
        intro e w5 hp5
        obtain ⟨g5, n5, c5, rfl, hI5, hb5⟩ := listPost_isB hp5 (by rw [List.length_append, sha_length, List.length_append, d32, o32]; decide)
        obtain ⟨a5, k5⟩ := aZ.below hb5
        refine ⟨_, rfl, ⟨cell_later hb5 hHeld.1, rangeAt_below' hHeld.2.1 hb5, cell_later hb5 hHeld.2.2.1, rangeAt_below' hHeld.2.2.2 hb5⟩, fun hHeld2 => ?_⟩
        clear hHeld HNO
        try simp only [Act.put, List.setIfInBounds_toArray, List.set_cons_zero, List.set_cons_succ]
        have HM := Seal.mk (madd_any (w.heap.size + 1) (w.heap.size + 4) g5 n5 c5 (pre.length + 1) _ _ (digL R i pre.length) (sha tgNode ++ (o ++ D)) w5 (HGV.out.below hb5) a5 hI5 (by rw [List.length_append, sha_length]; omega) (by rw [List.length_append, sha_length, List.length_append, d32, o32]; decide) (by rw [digL_len]; omega) (by omega) (fun r hr => by have := HGl.out r hr; omega))
        refine call_h 6 rfl (by kernel_rfl) 101 #[.slice (some ⟨g5, 0, none⟩) n5 c5, .pointer (some ⟨w.heap.size + 1, 0, none⟩)] (by kernel_rfl) (by go_simp) ?_
        refine HM.out.mono ?_
        rintro e w6 ⟨rfl, hs6⟩
        obtain ⟨u1, u2, a6, k6⟩ := hs6.out
        have l51 := a5.lt1
        have l52 := a5.lt2
        have hbg := a5.big
        have kp6 : ∀ r, r < w.heap.size + 4 → r ≠ w.heap.size + 1 → w6.heap[r]? = w5.heap[r]? := fun r hr hne => k6.blk r (by omega) hne (fun e => by have := (l51 r e).1; omega) (fun e => by have := (l52 r e).1; omega)
        have s10 : w6.cell? ⟨w.heap.size + 1 + 1 + 1, 0, none⟩ = some (.func (.func 101) #[] #[.pointer (some ⟨w.heap.size + 1, 0, none⟩)]) := (World.cell?_of_block (w := w5) (kp6 (w.heap.size + 1 + 1 + 1) (by omega) (by omega))).trans hHeld2.1
        have s7 : w6.cell? ⟨w.heap.size, 0, none⟩ = some (.slice (some ⟨pg, po, none⟩) (rl + 1) pq) := (World.cell?_of_block (w := w5) (kp6 w.heap.size (by omega) (by omega))).trans hHeld2.2.2.1
        have hV5 := hb5.size
        have hVZ := kZ.size
        have sD : w6.rangeAt gd 0 (D.map B) := fun j u hu => (World.cell?_of_block (w := w5) (k6.blk gd (by omega) (by omega) n1 n2)).trans (hHeld2.2.1 j u hu)
        have sO : w6.rangeAt pg po (o.map B) := fun j u hu => (World.cell?_of_block (w := w5) (kp6 pg (by have := HPR.out.2.1; omega) (by have := HPR.out.2.1; omega))).trans (hHeld2.2.2.2 j u hu)
        refine ⟨_, rfl, ⟨s10, sD, s7, sO⟩, fun hHeld3 => ?_⟩
        clear hHeld2 hHeld3
        try simp only [Act.put, List.setIfInBounds_toArray, List.set_cons_zero, List.set_cons_succ]
        refine wpAnyH_done (by kernel_rfl) ?_ _
        rw [← HPL.out.2] at a6
        obtain ⟨e1, e2, e3, e4⟩ := HBZ.out.next ⟨hs.1, by omega⟩ ⟨by have := hWW.out.2 bn (.inl rfl); omega, by have := hWW.out.2 (bn + 1) (.inr rfl); omega⟩ ((kZ.trans k5).trans k6) a6
        have HE1 := Seal.mk (And.intro e1 (And.intro e2 (And.intro e3 e4)))
        have f7 : w6.frozen? ⟨w.heap.size, 0, none⟩ = false := frozen_of_row _ _ _ _ _ e1.c7
        have hpc2 := hpc
        have q1 : (1 : Int) ≤ (rl : Int) + 1 := by omega
        have q2 : (rl : Int) + 1 ≤ (pq : Int) := by omega
        have q3 : (1 : Int) ≤ (pq : Int) := by omega
        have q5 : (rl : Int) + 1 - 1 = (rl : Int) := by omega
        clear s10 sD sO e1 e2 e3 e4 a6 k6 hs6 HM a5 k5 hI5 hb5 hp5 kp6 l51 l52 hbg hV5 hVZ aZ kZ n1 n2 lw1 lw2
        by_cases hpq : pq = 1
        · gi_wp2
          obtain ⟨e1, e2, e3, e4⟩ := HE1.out
          have hp' : PathAt w (.slice (some ⟨pg, po, none⟩) rl 0) rest := ⟨_, _, by rw [HRL.out], by rw [← HRL.out]; omega, by omega, (.inl (List.eq_nil_of_length_eq_zero (by rw [← HRL.out]; omega)))⟩
          have e5 := e1.setPath hp'
          refine ⟨HZk.out.trans (e2.trans (KeepsOthers.setCell _ _ _)), fun r hr => (Below.heap_setCell _ _ _ _ (by rcases hr with rfl | rfl <;> simp <;> omega)).trans ((e3 r hr).trans (HZB.out.block r (hWW.out.2 r hr))), ?_⟩
          dsimp only
          rw [HPR.out.2.2.1] at e5
          rw [List.length_append]
          exact ⟨_, _, _, e5⟩
        · gi_wp2
          obtain ⟨e1, e2, e3, e4⟩ := HE1.out
          have hp' : PathAt w (.slice (some ⟨pg, (po + 32), none⟩) rl (pq - 1)) rest := ⟨_, _, by rw [HRL.out], by rw [← HRL.out]; omega, by omega, (.inr ⟨pg, po + 32, rfl, HPR.out.2.1, HPR.out.1⟩)⟩
          have e5 := e1.setPath hp'
          refine ⟨HZk.out.trans (e2.trans (KeepsOthers.setCell _ _ _)), fun r hr => (Below.heap_setCell _ _ _ _ (by rcases hr with rfl | rfl <;> simp <;> omega)).trans ((e3 r hr).trans (HZB.out.block r (hWW.out.2 r hr))), ?_⟩
          dsimp only
          rw [HPR.out.2.2.1] at e5
          rw [List.length_append]
          exact ⟨_, _, _, e5⟩
      · have he : (i / 2 ^ pre.length) % 2 = 0 := by have := HX1.out.2.1; simp at this; omega
        obtain ⟨o, hpo, hdg⟩ := part_right (R := R) (i := i) (k := pre.length) (by omega) (by omega) hlo he
        have hrest : restB R i pre.length (K - pre.length) = o :: restB R i (pre.length + 1) (K - (pre.length + 1)) := by
          rw [show K - pre.length = (K - (pre.length + 1)) + 1 from by omega]
          show partB R i pre.length ++ _ = _
          rw [hpo]; rfl
        have o32 : o.length = 32 := restB_32 HR.out.1 i (K - pre.length) pre.length o (by rw [hrest]; simp)
        have hpth := HBZ.out.pth
        rw [hrest] at hpth
        obtain ⟨pa', pc', epv, hpc, hpm, hpp⟩ := hpth.at_
        obtain ⟨pg, po, rfl, hpg, hpr⟩ : ∃ pg po, pa' = some ⟨pg, po, none⟩ ∧ pg < w.heap.size ∧ w.rangeAt pg po (dcells (o :: restB R i (pre.length + 1) (K - (pre.length + 1)))) := by
          rcases hpp with h | h
          · cases h
          · exact h
        cases epv
        obtain ⟨ro, rr⟩ := rangeAt_one hpr o32
        obtain ⟨rest, hrs⟩ : ∃ x, x = restB R i (pre.length + 1) (K - (pre.length + 1)) := ⟨_, rfl⟩
        rw [← hrs] at hrest hpc hpr rr
        simp only [List.length_cons] at hpc
        have hdl : digL R i (pre.length + 1) = digL R i pre.length ++ [sha (sha tgNode ++ (D ++ o))] := by show digL R i pre.length ++ [digA R i (pre.length + 1)] = _; rw [hdg, ← hHD]; rfl
        have HPL := Seal.mk (And.intro hrest hdl)
        have HPR := Seal.mk (And.intro rr (And.intro hpg (And.intro hrs hpc)))
        have iO := dg_info o o32
        obtain ⟨rl, hrl⟩ : ∃ x, x = rest.length := ⟨_, rfl⟩
        have HRL := Seal.mk hrl
        rw [← hrl] at hpc
        have hpl1 : (o :: restB R i (pre.length + 1) (K - (pre.length + 1))).length = rl + 1 := by rw [← hrs, List.length_cons, hrl]
        have hb9 := HBZ.out.bel
        have zo : Z.rangeAt pg po (o.map B) := rangeAt_below' ro hb9
        have z7 : Z.cell? ⟨w.heap.size, 0, none⟩ = some (.slice (some ⟨pg, po, none⟩) (rl + 1) pq) := by
          have := HBZ.out.c7
          rw [hpl1] at this
          rw [cell_of_row _ _ _ _ _ _ this]; rfl
        have z10 : Z.cell? ⟨w.heap.size + 1 + 1 + 1, 0, none⟩ = some (.func (.func 101) #[] #[.pointer (some ⟨w.heap.size + 1, 0, none⟩)]) := by rw [cell_of_row _ _ _ _ _ _ HBZ.out.c10]; rfl
        have hq0 : ¬ ((rl : Int) + 1 = 0) := by omega
        have HGZ : Seal (Glob Z) := ⟨HGw.out.below hb9⟩
        clear hpo hdg hrest hpth hpp hpr ro rr hrs hdl hb9 hpl1 hHD hrl
        gi_wp2_with (first | (refine wpListIn_load_mid rfl 25 (.tmp 29) rfl g1 (pre.length * 32) rfl (D.map B) _ rD uD rfl iD ?_) | (refine wpListIn_store_row rfl 25 (.tmp 12) (.tmp 30) rfl Wb.heap.size (D.map B).toArray rfl rfl 25 #[.int .u8 0, .int .u8 0, .int .u8 0, .int .u8 0, .int .u8 0, .int .u8 0, .int .u8 0, .int .u8 0, .int .u8 0, .int .u8 0, .int .u8 0, .int .u8 0, .int .u8 0, .int .u8 0, .int .u8 0, .int .u8 0, .int .u8 0, .int .u8 0, .int .u8 0, .int .u8 0, .int .u8 0, .int .u8 0, .int .u8 0, .int .u8 0, .int .u8 0, .int .u8 0, .int .u8 0, .int .u8 0, .int .u8 0, .int .u8 0, .int .u8 0, .int .u8 0] HZ.out HR32.out.2.2 HR32.out.1 HR32.out.2.1 ?_; rw [← hZ]; clear hZ HZ y0 y1 f0 f1))
        rw [← hgd] at zD ⊢
        have lw1 := HB.out.way.lt1
        have lw2 := HB.out.way.lt2
        have hZs := HZB.out.size
        have n1 : (Value.slice (some ⟨g1, 0, none⟩) (pre.length + 1) q1).ownBlock ≠ some gd := fun e => by have := (lw1 _ e).2; omega
        have n2 : (Value.slice b2 m2 q2).ownBlock ≠ some gd := fun e => by have := (lw2 _ e).2; omega
        have hgdZ : gd < Z.heap.size := by
          have := block_lt_of_cell (zD 0 _ (by rw [List.getElem?_map, List.getElem?_eq_getElem (show 0 < D.length by omega)]; rfl))
          simpa using this
        have hgdw : w.heap.size + 1 < gd := by have := HB.out.way.big; omega
        obtain ⟨aZ, kZ⟩ := HBZ.out.way.below (below_drewn Z)
        have HNO := Seal.mk (mnode_any D o Z.drew (HGZ.out.below (below_drewn Z)) d32 o32)
        obtain ⟨V9, hV9⟩ : ∃ v, v = Z.drew := ⟨_, rfl⟩
        refine wpIn_region_held (S := fun w' => w'.cell? ⟨w.heap.size + 1 + 1 + 1, 0, none⟩ = some (.func (.func 101) #[] #[.pointer (some ⟨w.heap.size + 1, 0, none⟩)]) ∧ w'.rangeAt gd 0 (D.map B) ∧ w'.cell? ⟨w.heap.size, 0, none⟩ = some (.slice (some ⟨pg, po, none⟩) (rl + 1) pq) ∧ w'.rangeAt pg po (o.map B)) (by kernel_rfl) (by rintro ⟨_, _, h⟩; exact h) (by kernel_rfl) ⟨z10, zD, z7, zo⟩ (fun hHeld => ?_)
        have HGV : Seal (Glob V9) := ⟨by rw [hV9]; exact HGZ.out.below (below_drewn Z)⟩
        rw [← hV9] at hHeld aZ kZ HNO ⊢
        clear hV9 z10 zD z7 zo z0 z1
        have q0 : (0 : Int) < (rl : Int) + 1 := by omega
        have q0' : 0 < rl + 1 := by omega
        refine take_h 0 ?_ rfl (by kernel_rfl) (by kernel_rfl) (by kernel_rfl) (fun _ _ _ h => h) (Or.inl ⟨by kernel_rfl, ?_⟩) (by assumption) ?_
        rotate_left
        · (intro w hSw; (try dsimp only at hSw); go_simp; try (with_reducible rfl))
        try simp only [Act.put, List.setIfInBounds_toArray, List.set_cons_zero, List.set_cons_succ]
        refine take_h 1 _ rfl (by kernel_rfl) (by kernel_rfl) (by kernel_rfl) (fun _ _ _ h => h) (yieldsIf_load_mid (by kernel_rfl) 25 (.tmp 12) rfl gd 0 rfl (D.map B) _ (fun w hSw => hSw.2.1) uD rfl iD) (by assumption) ?_
        try simp only [Act.put, List.setIfInBounds_toArray, List.set_cons_zero, List.set_cons_succ]
        refine take_h 2 ?_ rfl (by kernel_rfl) (by kernel_rfl) (by kernel_rfl) (fun _ _ _ h => h) (Or.inl ⟨by kernel_rfl, ?_⟩) (by assumption) ?_
        rotate_left
        · (intro w hSw; (try dsimp only at hSw); go_simp; try (with_reducible rfl))
        try simp only [Act.put, List.setIfInBounds_toArray, List.set_cons_zero, List.set_cons_succ]
        refine take_h 3 ?_ rfl (by kernel_rfl) (by kernel_rfl) (by kernel_rfl) (fun _ _ _ h => h) (Or.inl ⟨by kernel_rfl, ?_⟩) (by assumption) ?_
        rotate_left
        · (intro w hSw; (try dsimp only at hSw); go_simp; try (with_reducible rfl))
        try simp only [Act.put, List.setIfInBounds_toArray, List.set_cons_zero, List.set_cons_succ]
        refine take_h 4 _ rfl (by kernel_rfl) (by kernel_rfl) (by kernel_rfl) (fun _ _ _ h => h) (yieldsIf_load_mid (by kernel_rfl) 25 (.tmp 63) rfl pg po rfl (o.map B) _ (fun w hSw => hSw.2.2.2) uD rfl iO) (by assumption) ?_
        try simp only [Act.put, List.setIfInBounds_toArray, List.set_cons_zero, List.set_cons_succ]
        refine call_h 5 rfl (by kernel_rfl) 105 #[.agg (D.map B).toArray, .agg (o.map B).toArray] (by kernel_rfl) (by go_simp) ?_
        refine HNO.out.mono ?_
        intro e w5 hp5
        obtain ⟨g5, n5, c5, rfl, hI5, hb5⟩ := listPost_isB hp5 (by rw [List.length_append, sha_length, List.length_append, d32, o32]; decide)
        obtain ⟨a5, k5⟩ := aZ.below hb5
        refine ⟨_, rfl, ⟨cell_later hb5 hHeld.1, rangeAt_below' hHeld.2.1 hb5, cell_later hb5 hHeld.2.2.1, rangeAt_below' hHeld.2.2.2 hb5⟩, fun hHeld2 => ?_⟩
        clear hHeld HNO
        try simp only [Act.put, List.setIfInBounds_toArray, List.set_cons_zero, List.set_cons_succ]
        have HM := Seal.mk (madd_any (w.heap.size + 1) (w.heap.size + 4) g5 n5 c5 (pre.length + 1) _ _ (digL R i pre.length) (sha tgNode ++ (D ++ o)) w5 (HGV.out.below hb5) a5 hI5 (by rw [List.length_append, sha_length]; omega) (by rw [List.length_append, sha_length, List.length_append, d32, o32]; decide) (by rw [digL_len]; omega) (by omega) (fun r hr => by have := HGl.out r hr; omega))
        refine call_h 6 rfl (by kernel_rfl) 101 #[.slice (some ⟨g5, 0, none⟩) n5 c5, .pointer (some ⟨w.heap.size + 1, 0, none⟩)] (by kernel_rfl) (by go_simp) ?_
        refine HM.out.mono ?_
        rintro e w6 ⟨rfl, hs6⟩
        obtain ⟨u1, u2, a6, k6⟩ := hs6.out
        have l51 := a5.lt1
        have l52 := a5.lt2
        have hbg := a5.big
        have kp6 : ∀ r, r < w.heap.size + 4 → r ≠ w.heap.size + 1 → w6.heap[r]? = w5.heap[r]? := fun r hr hne => k6.blk r (by omega) hne (fun e => by have := (l51 r e).1; omega) (fun e => by have := (l52 r e).1; omega)
        have s10 : w6.cell? ⟨w.heap.size + 1 + 1 + 1, 0, none⟩ = some (.func (.func 101) #[] #[.pointer (some ⟨w.heap.size + 1, 0, none⟩)]) := (World.cell?_of_block (w := w5) (kp6 (w.heap.size + 1 + 1 + 1) (by omega) (by omega))).trans hHeld2.1
        have s7 : w6.cell? ⟨w.heap.size, 0, none⟩ = some (.slice (some ⟨pg, po, none⟩) (rl + 1) pq) := (World.cell?_of_block (w := w5) (kp6 w.heap.size (by omega) (by omega))).trans hHeld2.2.2.1
        have hV5 := hb5.size
        have hVZ := kZ.size
        have sD : w6.rangeAt gd 0 (D.map B) := fun j u hu => (World.cell?_of_block (w := w5) (k6.blk gd (by omega) (by omega) n1 n2)).trans (hHeld2.2.1 j u hu)
        have sO : w6.rangeAt pg po (o.map B) := fun j u hu => (World.cell?_of_block (w := w5) (kp6 pg (by have := HPR.out.2.1; omega) (by have := HPR.out.2.1; omega))).trans (hHeld2.2.2.2 j u hu)
        refine ⟨_, rfl, ⟨s10, sD, s7, sO⟩, fun hHeld3 => ?_⟩
        clear hHeld2 hHeld3
        try simp only [Act.put, List.setIfInBounds_toArray, List.set_cons_zero, List.set_cons_succ]
        refine wpAnyH_done (by kernel_rfl) ?_ _
        rw [← HPL.out.2] at a6
        obtain ⟨e1, e2, e3, e4⟩ := HBZ.out.next ⟨hs.1, by omega⟩ ⟨by have := hWW.out.2 bn (.inl rfl); omega, by have := hWW.out.2 (bn + 1) (.inr rfl); omega⟩ ((kZ.trans k5).trans k6) a6
        have HE1 := Seal.mk (And.intro e1 (And.intro e2 (And.intro e3 e4)))
        have f7 : w6.frozen? ⟨w.heap.size, 0, none⟩ = false := frozen_of_row _ _ _ _ _ e1.c7
        have hpc2 := hpc
        have q1 : (1 : Int) ≤ (rl : Int) + 1 := by omega
        have q2 : (rl : Int) + 1 ≤ (pq : Int) := by omega
        have q3 : (1 : Int) ≤ (pq : Int) := by omega
        have q5 : (rl : Int) + 1 - 1 = (rl : Int) := by omega
        clear s10 sD sO e1 e2 e3 e4 a6 k6 hs6 HM a5 k5 hI5 hb5 hp5 kp6 l51 l52 hbg hV5 hVZ aZ kZ n1 n2 lw1 lw2
        by_cases hpq : pq = 1
        · gi_wp2
          obtain ⟨e1, e2, e3, e4⟩ := HE1.out
          have hp' : PathAt w (.slice (some ⟨pg, po, none⟩) rl 0) rest := ⟨_, _, by rw [HRL.out], by rw [← HRL.out]; omega, by omega, (.inl (List.eq_nil_of_length_eq_zero (by rw [← HRL.out]; omega)))⟩
          have e5 := e1.setPath hp'
          refine ⟨HZk.out.trans (e2.trans (KeepsOthers.setCell _ _ _)), fun r hr => (Below.heap_setCell _ _ _ _ (by rcases hr with rfl | rfl <;> simp <;> omega)).trans ((e3 r hr).trans (HZB.out.block r (hWW.out.2 r hr))), ?_⟩
          dsimp only
          rw [HPR.out.2.2.1] at e5
          rw [List.length_append]
          exact ⟨_, _, _, e5⟩
        · gi_wp2
          obtain ⟨e1, e2, e3, e4⟩ := HE1.out
          have hp' : PathAt w (.slice (some ⟨pg, (po + 32), none⟩) rl (pq - 1)) rest := ⟨_, _, by rw [HRL.out], by rw [← HRL.out]; omega, by omega, (.inr ⟨pg, po + 32, rfl, HPR.out.2.1, HPR.out.1⟩)⟩
          have e5 := e1.setPath hp'
          refine ⟨HZk.out.trans (e2.trans (KeepsOthers.setCell _ _ _)), fun r hr => (Below.heap_setCell _ _ _ _ (by rcases hr with rfl | rfl <;> simp <;> omega)).trans ((e3 r hr).trans (HZB.out.block r (hWW.out.2 r hr))), ?_⟩
          dsimp only
          rw [HPR.out.2.2.1] at e5
          rw [List.length_append]
          exact ⟨_, _, _, e5⟩
    · skip
      gi_wp2_with (first | (refine wpListIn_load_mid rfl 25 (.tmp 29) rfl g1 (pre.length * 32) rfl (D.map B) _ rD uD rfl iD ?_) | (refine wpListIn_store_row rfl 25 (.tmp 12) (.tmp 30) rfl Wb.heap.size (D.map B).toArray rfl rfl 25 #[.int .u8 0, .int .u8 0, .int .u8 0, .int .u8 0, .int .u8 0, .int .u8 0, .int .u8 0, .int .u8 0, .int .u8 0, .int .u8 0, .int .u8 0, .int .u8 0, .int .u8 0, .int .u8 0, .int .u8 0, .int .u8 0, .int .u8 0, .int .u8 0, .int .u8 0, .int .u8 0, .int .u8 0, .int .u8 0, .int .u8 0, .int .u8 0, .int .u8 0, .int .u8 0, .int .u8 0, .int .u8 0, .int .u8 0, .int .u8 0, .int .u8 0, .int .u8 0] HZ.out HR32.out.2.2 HR32.out.1 HR32.out.2.1 ?_; rw [← hZ]; clear hZ HZ y0 y1 f0 f1))
      rw [← hgd] at zD ⊢
      have HDD := HD.out
      have hRn := HR.out.2.1
      have hRi := HR.out.2.2.1
      have hRm := HR.out.2.2.2.1
      obtain ⟨hpt, hdg⟩ := part_alone (R := R) (i := i) (k := pre.length) (by omega) (by omega) (of_decide_eq_true HX1.out.1.symm)
      have hkK := HX1.out.2.2
      have hrest : restB R i pre.length (K - pre.length) = restB R i (pre.length + 1) (K - (pre.length + 1)) := by
        rw [show K - pre.length = (K - (pre.length + 1)) + 1 from by omega]
        show partB R i pre.length ++ _ = _
        rw [hpt]; rfl
      have hdl : digL R i (pre.length + 1) = digL R i pre.length ++ [D] := by show digL R i pre.length ++ [digA R i (pre.length + 1)] = _; rw [hdg, HDD]
      have HPL := Seal.mk (And.intro hrest hdl)
      have lw1 := HB.out.way.lt1
      have lw2 := HB.out.way.lt2
      have n1 : (Value.slice (some ⟨g1, 0, none⟩) (pre.length + 1) q1).ownBlock ≠ some gd := fun e => by have := (lw1 _ e).2; omega
      have n2 : (Value.slice b2 m2 q2).ownBlock ≠ some gd := fun e => by have := (lw2 _ e).2; omega
      have hZs := HZB.out.size
      have hgdZ : gd < Z.heap.size := by rw [hgd]; exact block_lt_of_cell (zD 0 _ (by rw [List.getElem?_map, List.getElem?_eq_getElem (show 0 < D.length by omega)]; rfl)) |> (fun h => by simpa [hgd] using h)
      obtain ⟨y0, y1, _, _⟩ := HBZ.out.way.cells
      obtain ⟨aZ, kZ⟩ := HBZ.out.way.below (below_drewn Z)
      obtain ⟨V8, hV8⟩ : ∃ v, v = Z.drew := ⟨_, rfl⟩
      have H8 : A8 Z (w.heap.size + 1) (w.heap.size + 4) gd D (.slice (some ⟨g1, 0, none⟩) (pre.length + 1) q1) (.slice b2 m2 q2) (.slice (some ⟨g1, 0, none⟩) (pre.length + 1) q1) (.slice b2 m2 q2) (digL R i pre.length) (pre.length + 1) V8 := by
        rw [hV8]; exact ⟨aZ, kZ, zD, n1, n2, hgdZ⟩
      refine wpIn_region_heldU 8 (S := fun w' => w'.cell? ⟨w.heap.size + 1, 0, none⟩ = some (.slice (some ⟨g1, 0, none⟩) (pre.length + 1) q1) ∧ w'.cell? ⟨w.heap.size + 1, 1, none⟩ = some (.slice b2 m2 q2) ∧ w'.rangeAt gd 0 (D.map B)) (by kernel_rfl) (by rintro ⟨_, _, h⟩; exact h) (by kernel_rfl) ⟨y0, y1, zD⟩ (fun hHeld => ?_)
      rw [← hV8] at hHeld ⊢
      clear hV8 y0 y1 zD aZ kZ n1 n2 lw1 lw2 hpt hdg hrest hdl HDD z0 z1
      refine take_p 0 ?_ rfl (by kernel_rfl) (by kernel_rfl) (by kernel_rfl) (by kernel_rfl) (fun _ _ _ h => h) (Or.inl ⟨by kernel_rfl, ?_⟩) (fun _ => by assumption) ?_
      rotate_left
      · (intro w _; go_simp; try (with_reducible rfl))
      try simp only [Act.put, List.setIfInBounds_toArray, List.set_cons_zero, List.set_cons_succ]
      refine take_u2 1 3 ?_ rfl (by kernel_rfl) (by kernel_rfl) (by kernel_rfl) (by kernel_rfl) (by kernel_rfl) (by kernel_rfl) (by kernel_rfl) (by kernel_rfl) (fun _ _ _ h => h) (Or.inl ⟨by kernel_rfl, ?_⟩) (by assumption) ?_
      rotate_left
      · (intro w hSw; (try dsimp only at hSw); go_simp; try (with_reducible rfl))
      try simp only [Act.put, List.setIfInBounds_toArray, List.set_cons_zero, List.set_cons_succ]
      refine take_p 4 ?_ rfl (by kernel_rfl) (by kernel_rfl) (by kernel_rfl) (by kernel_rfl) (fun _ _ _ h => h) (Or.inl ⟨by kernel_rfl, ?_⟩) (fun _ => by assumption) ?_
      rotate_left
      · (intro w _; go_simp; try (with_reducible rfl))
      try simp only [Act.put, List.setIfInBounds_toArray, List.set_cons_zero, List.set_cons_succ]
      refine take_u 5 ?_ rfl (by kernel_rfl) (by kernel_rfl) (by kernel_rfl) (by kernel_rfl) (by kernel_rfl) (fun _ _ _ h => h) (Or.inl ⟨by kernel_rfl, ?_⟩) (by assumption) ?_
      rotate_left
      · (intro w hSw; (try dsimp only at hSw); go_simp; try (with_reducible rfl))
      try simp only [Act.put, List.setIfInBounds_toArray, List.set_cons_zero, List.set_cons_succ]
      refine take_u2 6 7 _ rfl (by kernel_rfl) (by kernel_rfl) (by kernel_rfl) (by kernel_rfl) (by kernel_rfl) (by kernel_rfl) (by kernel_rfl) (by kernel_rfl) (fun _ _ _ h => h) (yieldsIf_load_mid (by kernel_rfl) 25 (.tmp 12) rfl gd 0 rfl (D.map B) _ (fun w hSw => hSw.2.2) uD rfl iD) (by assumption) ?_
      try simp only [Act.put, List.setIfInBounds_toArray, List.set_cons_zero, List.set_cons_succ]
      have g2 : ∀ {W : World}, V8.heap.size ≤ W.heap.size → (Value.slice b2 m2 q2).ownBlock ≠ some W.heap.size := fun h e => by have := (H8.way.lt2 _ e).2; omega
      refine readyU_two (by kernel_rfl) (oper_w 2 (.slice (some ⟨V8.heap.size, 0, none⟩) 1 1) (V8.alloc (.cells #[.slice none 0 0] 47)) rfl (by kernel_rfl) (by go_simp) (H8.alloc _).held ?_) (oper_w 7 (.slice (some ⟨V8.heap.size, 0, none⟩) 1 1) (V8.alloc (.cells (D.map B).toArray 25)) rfl (by kernel_rfl) (by go_simp; rw [fold_all (by simp [d32])]) (H8.alloc _).held ?_)
      · have X1 := H8.alloc (.cells #[.slice none 0 0] 47)
        have c1 : (V8.alloc (.cells #[.slice none 0 0] 47)).cell? ⟨V8.heap.size, 0, none⟩ = some (.slice none 0 0) := by rw [cell_of_row _ _ _ _ _ _ (heap_alloc_new V8 _)]; rfl
        try simp only [Act.put, List.setIfInBounds_toArray, List.set_cons_zero, List.set_cons_succ]
        obtain ⟨W2, hW2⟩ : ∃ x, x = V8.alloc (.cells #[.slice none 0 0] 47) := ⟨_, rfl⟩
        have z2 : W2.heap.size = V8.heap.size + 1 := by rw [hW2, size_alloc]
        rw [← hW2] at X1 c1 ⊢
        clear hW2
        obtain ⟨by', ny, qy, w3, hr3, X2, hg3⟩ := X1.run2 c1 (by omega)
        refine readyU_two (by kernel_rfl) (oper_w 3 (.slice by' ny qy) w3 rfl (by kernel_rfl) (exec_append1 (.tmp 42) (.tmp 43) 54 54 54 rfl rfl _ _ _ rfl rfl hr3) X2.held ?_) (oper_w 7 (.slice (some ⟨W2.heap.size, 0, none⟩) 1 1) (W2.alloc (.cells (D.map B).toArray 25)) rfl (by kernel_rfl) (by go_simp; rw [fold_all (by simp [d32])]) (X1.alloc _).held ?_)
        · try simp only [Act.put, List.setIfInBounds_toArray, List.set_cons_zero, List.set_cons_succ]
          have hHeld := X2.held
          refine take_p 9 ?_ rfl (by kernel_rfl) (by kernel_rfl) (by kernel_rfl) (by kernel_rfl) (fun _ _ _ h => h) (Or.inl ⟨by kernel_rfl, ?_⟩) (fun _ => by assumption) ?_
          rotate_left
          · (intro w _; go_simp; try (with_reducible rfl))
          try simp only [Act.put, List.setIfInBounds_toArray, List.set_cons_zero, List.set_cons_succ]
          have X3 := X2.alloc (.cells (D.map B).toArray 25)
          have r3 : (w3.alloc (.cells (D.map B).toArray 25)).rangeAt w3.heap.size 0 (D.map B) := rangeAt_row (heap_alloc_new w3 _)
          refine oper_x 7 (.slice (some ⟨w3.heap.size, 0, none⟩) 1 1) (w3.alloc (.cells (D.map B).toArray 25)) rfl (by kernel_rfl) (by kernel_rfl) (by go_simp; rw [fold_all (by simp [d32])]) X3.held ?_
          try simp only [Act.put, List.setIfInBounds_toArray, List.set_cons_zero, List.set_cons_succ]
          obtain ⟨bx, nx, qx, w8, hr8, H9, _⟩ := X3.run1 r3 d32 (by rw [digL_len]; omega)
          have HF := Seal.mk H9.done
          have HP9 := H9.way.cells
          obtain ⟨k0, k1, k2, k3⟩ := HP9
          obtain ⟨l0, l1, l2, l3⟩ := (H9.way.set (c1' := .slice (some ⟨g1, 0, none⟩) (pre.length + 1) q1) (c2' := .slice by' ny qy) 1 (.slice by' ny qy) rfl).1.cells
          refine oper_u' 8 (.slice bx nx qx) w8 rfl (by kernel_rfl) (by kernel_rfl) (by kernel_rfl) (exec_append1 (.tmp 46) (.tmp 48) 51 51 51 rfl rfl _ _ _ rfl rfl hr8) ?_
          try simp only [Act.put, List.setIfInBounds_toArray, List.set_cons_zero, List.set_cons_succ]
          refine anyU_of_H' (S' := fun _ => True) _ _ _ _ (by kernel_rfl) ?_
          refine skip_h 10 (w8.setCell ⟨w.heap.size + 1, 1, none⟩ (.slice by' ny qy)) rfl (by kernel_rfl) (by kernel_rfl) (by go_simp) trivial (fun _ => ?_)
          try simp only [Act.put]
          have hTrue : (fun _ : World => True) (w8.setCell ⟨w.heap.size + 1, 1, none⟩ (.slice by' ny qy)) := trivial
          refine take_h 11 ?_ rfl (by kernel_rfl) (by kernel_rfl) (by kernel_rfl) (fun _ _ _ h => h) (Or.inl ⟨by kernel_rfl, ?_⟩) (by assumption) ?_
          rotate_left
          · (intro w hSw; (try dsimp only at hSw); go_simp; try (with_reducible rfl))
          try simp only [Act.put, List.setIfInBounds_toArray, List.set_cons_zero, List.set_cons_succ]
          refine skip_h 12 ((w8.setCell ⟨w.heap.size + 1, 1, none⟩ (.slice by' ny qy)).setCell ⟨w.heap.size + 1, 0, none⟩ (.slice bx nx qx)) rfl (by kernel_rfl) (by kernel_rfl) (by go_simp) trivial (fun _ => ?_)
          try simp only [Act.put]
          refine wpAnyH_done (by kernel_rfl) ?_ _
          clear k0 k1 k2 k3 l0 l1 l2 l3
          gi_wp2
          obtain ⟨f1, f2⟩ := HF.out
          rw [← HPL.out.2] at f1
          obtain ⟨e1, e2, e3, e4⟩ := HBZ.out.next ⟨hs.1, by omega⟩ ⟨by have := hWW.out.2 bn (.inl rfl); omega, by have := hWW.out.2 (bn + 1) (.inr rfl); omega⟩ f2 f1
          rw [HPL.out.1] at e1
          refine ⟨HZk.out.trans e2, fun r hr => (e3 r hr).trans (HZB.out.block r (hWW.out.2 r hr)), ?_⟩
          dsimp only
          rw [List.length_append]
          exact ⟨_, _, _, e1⟩
        · try simp only [Act.put, List.setIfInBounds_toArray, List.set_cons_zero, List.set_cons_succ]
          clear hr3 X2 hg3
          have X3 := X1.alloc (.cells (D.map B).toArray 25)
          have r3 : (W2.alloc (.cells (D.map B).toArray 25)).rangeAt W2.heap.size 0 (D.map B) := rangeAt_row (heap_alloc_new W2 _)
          have c3 := cell_allocd c1 (.cells (D.map B).toArray 25)
          obtain ⟨by', ny, qy, w3, hr3, X4, hg3⟩ := X3.run2 c3 (by omega)
          have r4 := rangeAt_grown r3 hg3 (fun e => g2 (by omega) e.symm)
          refine oper_x 3 (.slice by' ny qy) w3 rfl (by kernel_rfl) (by kernel_rfl) (exec_append1 (.tmp 42) (.tmp 43) 54 54 54 rfl rfl _ _ _ rfl rfl hr3) X4.held ?_
          try simp only [Act.put, List.setIfInBounds_toArray, List.set_cons_zero, List.set_cons_succ]
          have hHeld := X4.held
          refine take_p 9 ?_ rfl (by kernel_rfl) (by kernel_rfl) (by kernel_rfl) (by kernel_rfl) (fun _ _ _ h => h) (Or.inl ⟨by kernel_rfl, ?_⟩) (fun _ => by assumption) ?_
          rotate_left
          · (intro w _; go_simp; try (with_reducible rfl))
          try simp only [Act.put, List.setIfInBounds_toArray, List.set_cons_zero, List.set_cons_succ]
          obtain ⟨bx, nx, qx, w8, hr8, H9, _⟩ := X4.run1 r4 d32 (by rw [digL_len]; omega)
          have HF := Seal.mk H9.done
          have HP9 := H9.way.cells
          obtain ⟨k0, k1, k2, k3⟩ := HP9
          obtain ⟨l0, l1, l2, l3⟩ := (H9.way.set (c1' := .slice (some ⟨g1, 0, none⟩) (pre.length + 1) q1) (c2' := .slice by' ny qy) 1 (.slice by' ny qy) rfl).1.cells
          refine oper_u' 8 (.slice bx nx qx) w8 rfl (by kernel_rfl) (by kernel_rfl) (by kernel_rfl) (exec_append1 (.tmp 46) (.tmp 48) 51 51 51 rfl rfl _ _ _ rfl rfl hr8) ?_
          try simp only [Act.put, List.setIfInBounds_toArray, List.set_cons_zero, List.set_cons_succ]
          refine anyU_of_H' (S' := fun _ => True) _ _ _ _ (by kernel_rfl) ?_
          refine skip_h 10 (w8.setCell ⟨w.heap.size + 1, 1, none⟩ (.slice by' ny qy)) rfl (by kernel_rfl) (by kernel_rfl) (by go_simp) trivial (fun _ => ?_)
          try simp only [Act.put]
          have hTrue : (fun _ : World => True) (w8.setCell ⟨w.heap.size + 1, 1, none⟩ (.slice by' ny qy)) := trivial
          refine take_h 11 ?_ rfl (by kernel_rfl) (by kernel_rfl) (by kernel_rfl) (fun _ _ _ h => h) (Or.inl ⟨by kernel_rfl, ?_⟩) (by assumption) ?_
          rotate_left
          · (intro w hSw; (try dsimp only at hSw); go_simp; try (with_reducible rfl))
          try simp only [Act.put, List.setIfInBounds_toArray, List.set_cons_zero, List.set_cons_succ]
          refine skip_h 12 ((w8.setCell ⟨w.heap.size + 1, 1, none⟩ (.slice by' ny qy)).setCell ⟨w.heap.size + 1, 0, none⟩ (.slice bx nx qx)) rfl (by kernel_rfl) (by kernel_rfl) (by go_simp) trivial (fun _ => ?_)
          try simp only [Act.put]
          refine wpAnyH_done (by kernel_rfl) ?_ _
          clear k0 k1 k2 k3 l0 l1 l2 l3
          gi_wp2
          obtain ⟨f1, f2⟩ := HF.out
          rw [← HPL.out.2] at f1
          obtain ⟨e1, e2, e3, e4⟩ := HBZ.out.next ⟨hs.1, by omega⟩ ⟨by have := hWW.out.2 bn (.inl rfl); omega, by have := hWW.out.2 (bn + 1) (.inr rfl); omega⟩ f2 f1
          rw [HPL.out.1] at e1
          refine ⟨HZk.out.trans e2, fun r hr => (e3 r hr).trans (HZB.out.block r (hWW.out.2 r hr)), ?_⟩
          dsimp only
          rw [List.length_append]
          exact ⟨_, _, _, e1⟩
      · have X1 := H8.alloc (.cells (D.map B).toArray 25)
        have r1 : (V8.alloc (.cells (D.map B).toArray 25)).rangeAt V8.heap.size 0 (D.map B) := rangeAt_row (heap_alloc_new V8 _)
        try simp only [Act.put, List.setIfInBounds_toArray, List.set_cons_zero, List.set_cons_succ]
        obtain ⟨W2, hW2⟩ : ∃ x, x = V8.alloc (.cells (D.map B).toArray 25) := ⟨_, rfl⟩
        rw [← hW2] at X1 r1 ⊢
        clear hW2
        have X3 := X1.alloc (.cells #[.slice none 0 0] 47)
        have r3 := World.rangeAt_alloc r1 (.cells #[.slice none 0 0] 47)
        have c3 : (W2.alloc (.cells #[.slice none 0 0] 47)).cell? ⟨W2.heap.size, 0, none⟩ = some (.slice none 0 0) := by rw [cell_of_row _ _ _ _ _ _ (heap_alloc_new W2 _)]; rfl
        refine oper_x 2 (.slice (some ⟨W2.heap.size, 0, none⟩) 1 1) (W2.alloc (.cells #[.slice none 0 0] 47)) rfl (by kernel_rfl) (by kernel_rfl) (by go_simp) X3.held ?_
        try simp only [Act.put, List.setIfInBounds_toArray, List.set_cons_zero, List.set_cons_succ]
        obtain ⟨by', ny, qy, w3, hr3, X4, hg3⟩ := X3.run2 c3 (by omega)
        have r4 := rangeAt_grown r3 hg3 (fun e => g2 (Nat.le_refl _) e.symm)
        refine oper_x 3 (.slice by' ny qy) w3 rfl (by kernel_rfl) (by kernel_rfl) (exec_append1 (.tmp 42) (.tmp 43) 54 54 54 rfl rfl _ _ _ rfl rfl hr3) X4.held ?_
        try simp only [Act.put, List.setIfInBounds_toArray, List.set_cons_zero, List.set_cons_succ]
        have hHeld := X4.held
        refine take_p 9 ?_ rfl (by kernel_rfl) (by kernel_rfl) (by kernel_rfl) (by kernel_rfl) (fun _ _ _ h => h) (Or.inl ⟨by kernel_rfl, ?_⟩) (fun _ => by assumption) ?_
        rotate_left
        · (intro w _; go_simp; try (with_reducible rfl))
        try simp only [Act.put, List.setIfInBounds_toArray, List.set_cons_zero, List.set_cons_succ]
        obtain ⟨bx, nx, qx, w8, hr8, H9, _⟩ := X4.run1 r4 d32 (by rw [digL_len]; omega)
        have HF := Seal.mk H9.done
        have HP9 := H9.way.cells
        obtain ⟨k0, k1, k2, k3⟩ := HP9
        obtain ⟨l0, l1, l2, l3⟩ := (H9.way.set (c1' := .slice (some ⟨g1, 0, none⟩) (pre.length + 1) q1) (c2' := .slice by' ny qy) 1 (.slice by' ny qy) rfl).1.cells
        refine oper_u' 8 (.slice bx nx qx) w8 rfl (by kernel_rfl) (by kernel_rfl) (by kernel_rfl) (exec_append1 (.tmp 46) (.tmp 48) 51 51 51 rfl rfl _ _ _ rfl rfl hr8) ?_
        try simp only [Act.put, List.setIfInBounds_toArray, List.set_cons_zero, List.set_cons_succ]
        refine anyU_of_H' (S' := fun _ => True) _ _ _ _ (by kernel_rfl) ?_
        refine skip_h 10 (w8.setCell ⟨w.heap.size + 1, 1, none⟩ (.slice by' ny qy)) rfl (by kernel_rfl) (by kernel_rfl) (by go_simp) trivial (fun _ => ?_)
        try simp only [Act.put]
        have hTrue : (fun _ : World => True) (w8.setCell ⟨w.heap.size + 1, 1, none⟩ (.slice by' ny qy)) := trivial
        refine take_h 11 ?_ rfl (by kernel_rfl) (by kernel_rfl) (by kernel_rfl) (fun _ _ _ h => h) (Or.inl ⟨by kernel_rfl, ?_⟩) (by assumption) ?_
        rotate_left
        · (intro w hSw; (try dsimp only at hSw); go_simp; try (with_reducible rfl))
        try simp only [Act.put, List.setIfInBounds_toArray, List.set_cons_zero, List.set_cons_succ]
        refine skip_h 12 ((w8.setCell ⟨w.heap.size + 1, 1, none⟩ (.slice by' ny qy)).setCell ⟨w.heap.size + 1, 0, none⟩ (.slice bx nx qx)) rfl (by kernel_rfl) (by kernel_rfl) (by go_simp) trivial (fun _ => ?_)
        try simp only [Act.put]
        refine wpAnyH_done (by kernel_rfl) ?_ _
        clear k0 k1 k2 k3 l0 l1 l2 l3
        gi_wp2
        obtain ⟨f1, f2⟩ := HF.out
        rw [← HPL.out.2] at f1
        obtain ⟨e1, e2, e3, e4⟩ := HBZ.out.next ⟨hs.1, by omega⟩ ⟨by have := hWW.out.2 bn (.inl rfl); omega, by have := hWW.out.2 (bn + 1) (.inr rfl); omega⟩ f2 f1
        rw [HPL.out.1] at e1
        refine ⟨HZk.out.trans e2, fun r hr => (e3 r hr).trans (HZB.out.block r (hWW.out.2 r hr)), ?_⟩
        dsimp only
        rw [List.length_append]
        exact ⟨_, _, _, e1⟩
  case done =>
    rintro Dd xs W hDd ⟨hS1, hS2⟩ ⟨pv, v1, v2, hA⟩ hK
    rw [HDR.out] at hS1
    have hxK : xs.length = K := by
      rcases Nat.lt_trichotomy xs.length K with h | h | h
      · have := HR.out.2.2.2.2.2 _ h; omega
      · exact h
      · have := hS2 K h; rw [HDR.out] at this; have := HR.out.2.2.2.2.1; omega
    rw [hxK, Nat.sub_self] at hA
    obtain ⟨pb, pq, rfl, _⟩ := hA.pth.at_
    have e0 : (restB R i K 0).length = 0 := rfl
    rw [e0] at hA
    obtain ⟨b1, m1, q1, rfl⟩ := slice_form hA.way.own1
    obtain ⟨xs2, ho2, _⟩ := hA.way.own2
    obtain ⟨b2, m2, q2, rfl⟩ := slice_form ho2
    have hs := HS.out
    obtain ⟨V9, hV9⟩ : ∃ v, v = W.drew := ⟨_, rfl⟩
    have hA9 := hA.grown (B' := V9) (row := none) ⟨hs.1, by omega⟩ (by rw [hV9]; exact ⟨rfl, rfl, rfl, Nat.le_refl _, fun _ _ _ => rfl⟩) (fun b e => by cases e)
    obtain ⟨y0, y1, f0, f1⟩ := hA9.way.cells
    have y7 : V9.cell? ⟨w.heap.size, 0, none⟩ = some (.slice pb 0 pq) := by rw [cell_of_row _ _ _ _ _ _ hA9.c7]; rfl
    obtain ⟨a1, k1⟩ := hA9.way.set (c1' := .slice b1 m1 q1) (c2' := .slice b2 m2 q2) 0 (.slice b1 m1 q1) rfl
    obtain ⟨a2, k2⟩ := a1.set (c1' := .slice b1 m1 q1) (c2' := .slice b2 m2 q2) 1 (.slice b2 m2 q2) rfl
    obtain ⟨p0, p1, g0, g1'⟩ := a1.cells
    obtain ⟨r0, r1, _, _⟩ := a2.cells
    obtain ⟨V10, hV10⟩ : ∃ v, v = ((V9.setCell ⟨w.heap.size + 1, 0, none⟩ (.slice b1 m1 q1)).setCell ⟨w.heap.size + 1, 1, none⟩ (.slice b2 m2 q2)) := ⟨_, rfl⟩
    have kk : ∀ x, x ≠ w.heap.size + 1 → V10.heap[x]? = V9.heap[x]? := fun x hx => by rw [hV10]; exact (Below.heap_setCell _ _ _ _ (by simpa using hx)).trans (Below.heap_setCell _ _ _ _ (by simpa using hx))
    have t7 : V10.cell? ⟨w.heap.size, 0, none⟩ = some (.slice pb 0 pq) := (World.cell?_of_block (w := V9) (kk w.heap.size (by omega))).trans y7
    have c9 : V10.heap[w.heap.size + 1 + 1]? = some (.cells #[.bool false] 4 (0, 0)) := (kk _ (by omega)).trans hA9.c9
    have t9 : V10.cell? ⟨w.heap.size + 1 + 1, 0, none⟩ = some (.bool false) := by rw [cell_of_row _ _ _ _ _ _ c9]; rfl
    have f9 : V10.frozen? ⟨w.heap.size + 1 + 1, 0, none⟩ = false := frozen_of_row _ _ _ _ _ c9
    rw [← hV10] at a2 k2 r0 r1
    have hB10 : Below w.heap.size w V10 := by rw [hV10]; exact (hA9.bel.setCell (p := ⟨w.heap.size + 1, 0, none⟩) (by simp) _).setCell (p := ⟨w.heap.size + 1, 1, none⟩) (by simp) _
    have hK10 : V10.heap[Dd]? = some (.deferred (some [])) := (kk Dd (by omega)).trans (by rw [hV9]; exact hK)
    have HF := Seal.mk (And.intro a2 (And.intro hB10 (And.intro hK10 c9)))
    have x0 : W.cell? ⟨w.heap.size + 1, 0, none⟩ = some (.slice b1 m1 q1) := hA.way.cells.1
    have x1 : W.cell? ⟨w.heap.size + 1, 1, none⟩ = some (.slice b2 m2 q2) := hA.way.cells.2.1
    have x7 : W.cell? ⟨w.heap.size, 0, none⟩ = some (.slice pb 0 pq) := by rw [cell_of_row _ _ _ _ _ _ hA.c7]; rfl
    clear hA hA9 a1 k1 a2 k2 kk c9 hB10 hK10 ho2 hS1 hS2
    go_wp2_with fail
    refine wp_norm (wp_region_heldT 5 (S := fun w' => w'.cell? ⟨w.heap.size + 1, 0, none⟩ = some (.slice b1 m1 q1) ∧ w'.cell? ⟨w.heap.size + 1, 1, none⟩ = some (.slice b2 m2 q2) ∧ w'.cell? ⟨w.heap.size, 0, none⟩ = some (.slice pb 0 pq)) (by kernel_rfl) ⟨x0, x1, x7⟩ (fun hHeld => ?_))
    rw [← hV9] at hHeld ⊢
    clear x0 x1 x7 hV9
    refine take_t 0 ?_ rfl (by kernel_rfl) (by kernel_rfl) (by kernel_rfl) (by kernel_rfl) (fun _ _ _ h => h) (Or.inl ⟨by kernel_rfl, ?_⟩) (by assumption) ?_
    rotate_left
    · (intro w hSw; (try dsimp only at hSw); go_simp; try (with_reducible rfl))
    try simp only [Act.put, List.setIfInBounds_toArray, List.set_cons_zero, List.set_cons_succ]
    refine take_t 1 ?_ rfl (by kernel_rfl) (by kernel_rfl) (by kernel_rfl) (by kernel_rfl) (fun _ _ _ h => h) (Or.inl ⟨by kernel_rfl, ?_⟩) (by assumption) ?_
    rotate_left
    · (intro w hSw; (try dsimp only at hSw); go_simp; try (with_reducible rfl))
    try simp only [Act.put, List.setIfInBounds_toArray, List.set_cons_zero, List.set_cons_succ]
    refine take_t 2 ?_ rfl (by kernel_rfl) (by kernel_rfl) (by kernel_rfl) (by kernel_rfl) (fun _ _ _ h => h) (Or.inl ⟨by kernel_rfl, ?_⟩) (by assumption) ?_
    rotate_left
    · (intro w hSw; (try dsimp only at hSw); go_simp; try (with_reducible rfl))
    try simp only [Act.put, List.setIfInBounds_toArray, List.set_cons_zero, List.set_cons_succ]
    refine take_t 3 ?_ rfl (by kernel_rfl) (by kernel_rfl) (by kernel_rfl) (by kernel_rfl) (fun _ _ _ h => h) (Or.inl ⟨by kernel_rfl, ?_⟩) (by assumption) ?_
    rotate_left
    · (intro w hSw; (try dsimp only at hSw); go_simp; try (with_reducible rfl))
    try simp only [Act.put, List.setIfInBounds_toArray, List.set_cons_zero, List.set_cons_succ]
    refine skip_t 4 V10 rfl (by kernel_rfl) (by kernel_rfl) (by go_simp) ⟨r0, r1, t7⟩ (fun hHeld2 => ?_)
    clear hHeld hV10 y0 y1 y7 f0 f1 p0 p1 g0 g1'
    try simp only [Act.put]
    refine last_t (V10.setCell ⟨w.heap.size + 1 + 1, 0, none⟩ (.bool true)) rfl (by kernel_rfl) (by kernel_rfl) (by kernel_rfl) (by go_simp) ?_
    clear hHeld2
    unfold NormQ
    dsimp only
    try simp only [Act.put]
    go_wp2
    obtain ⟨a2, hB10, hK10, c9⟩ := HF.out
    obtain ⟨Z, hZ⟩ : ∃ Z, Z = V10.setCell ⟨w.heap.size + 1 + 1, 0, none⟩ (.bool true) := ⟨_, rfl⟩
    have hDne : Dd ≠ w.heap.size + 1 + 1 := by omega
    have hKZ : Z.heap[Dd]? = some (.deferred (some [])) := by rw [hZ]; exact (Below.heap_setCell _ _ _ _ (by simpa using hDne)).trans hK10
    have c9Z : Z.heap[w.heap.size + 1 + 1]? = some (.cells #[.bool true] 4 (0, 0)) := by
      rw [hZ]
      have := heap_setCell_row (cs := [.bool false]) (i := 0) (.bool true) c9
      simpa using this
    have gZ : V10.grownBy Z (some (w.heap.size + 1 + 1)) := by rw [hZ]; exact grown_setCell (grown_of_below (Below.refl _ V10) _) _ _
    have wZ : WayAt Z (w.heap.size + 1) (w.heap.size + 4) (.slice b1 m1 q1) (.slice b2 m2 q2) (.slice b1 m1 q1) (.slice b2 m2 q2) (digL R i K) (K + 1) := by
      refine a2.grown gZ (fun b e => ?_)
      have e := Option.some.inj e
      exact ⟨by omega, fun e' => by have := (a2.lt1 _ e').1; omega, fun e' => by have := (a2.lt2 _ e').1; omega⟩
    have bZ : Below w.heap.size w Z := by rw [hZ]; exact hB10.setCell (p := ⟨w.heap.size + 1 + 1, 0, none⟩) (by simp; omega) _
    rw [← hZ]
    refine ⟨by simp, .inl ⟨_, _, rfl, run_takeDeferred hKZ, ?_⟩⟩
    have hDw : w.heap.size + 1 ≠ Dd := by omega
    have gP := grownBy_putObj' Z Dd (.deferred none)
    have wP : WayAt (Z.putObj Dd (.deferred none)) (w.heap.size + 1) (w.heap.size + 4) (.slice b1 m1 q1) (.slice b2 m2 q2) (.slice b1 m1 q1) (.slice b2 m2 q2) (digL R i K) (K + 1) := by
      refine wZ.grown gP (fun b e => ?_)
      have e := Option.some.inj e
      subst e
      refine ⟨fun e' => hDw e'.symm, fun e' => ?_, fun e' => ?_⟩
      · obtain ⟨cur, hc⟩ := ownsRow_cells wZ.own1 e'
        rw [hKZ] at hc; cases hc
      · obtain ⟨xs3, h2, _⟩ := wZ.own2
        obtain ⟨cur, hc⟩ := ownsRow_cells h2 e'
        rw [hKZ] at hc; cases hc
    have c9P : (Z.putObj Dd (.deferred none)).heap[w.heap.size + 1 + 1]? = some (.cells #[.bool true] 4 (0, 0)) := (World.putObj_heap_other (Ne.symm hDne)).trans c9Z
    refine ⟨.tuple #[.agg #[.slice b1 m1 q1, .slice b2 m2 q2], .bool true], ?_, .slice b1 m1 q1, b2, m2, q2, rfl, ⟨?_, ?_⟩⟩
    · have hc9 : (Z.putObj Dd (.deferred none)).cell? ⟨w.heap.size + 1 + 1, 0, none⟩ = some (.bool true) := by rw [cell_of_row _ _ _ _ _ _ c9P]; rfl
      obtain ⟨v0, v1, _, _⟩ := wP.cells
      simp [results, Tryd.results68, go_sem, hc9, v0, v1]
    · have ho := wP.own1
      rw [digL_len] at ho
      refine ⟨ho.1, ?_⟩
      rcases ho.2 with h | ⟨g, cap, cur, e, hge, h⟩
      · exact .inl h
      · exact .inr ⟨g, cap, cur, e, by omega, h⟩
    · exact bZ.trans (belowK_b (w := w) (Nat.le_refl _) _ Dd _ _ (by omega) hKZ rfl rfl)
end

set_option maxHeartbeats 2000000 in
theorem mClimb_any (R : List Bytes) (n i K g nt ct : Nat) (pv : Value) (t : Bytes) (w : World) (hG : Glob w) (h32 : ∀ d ∈ R, d.length = 32) (hR : R.length = n) (hi : i < n) (hm : n ≤ 100) (hK1 : (rowN R K).length ≤ 1) (hK2 : ∀ k, k < K → 1 < (rowN R k).length)
    (hI : IsB w (some ⟨g, 0, none⟩) nt ct t) (h0 : 0 < t.length) (h1 : t.length ≤ 1000) (hD : digA R i 0 = leafD t) (hp : PathAt w pv (restB R i 0 K)) :
    Calls Tryd.prog 29 #[.int .i64 n, .int .i64 i, .slice (some ⟨g, 0, none⟩) nt ct, pv] w fun e w' => e = .returned (.tuple #[.agg ((digA R i K).map B).toArray, .int .i64 0]) ∧ Below w.heap.size w w' := by
  obtain ⟨X, hX⟩ : ∃ X : World, X = w.alloc (.cells #[.int .u8 0, .int .u8 0, .int .u8 0, .int .u8 0, .int .u8 0, .int .u8 0, .int .u8 0, .int .u8 0, .int .u8 0, .int .u8 0, .int .u8 0, .int .u8 0, .int .u8 0, .int .u8 0, .int .u8 0, .int .u8 0, .int .u8 0, .int .u8 0, .int .u8 0, .int .u8 0, .int .u8 0, .int .u8 0, .int .u8 0, .int .u8 0, .int .u8 0, .int .u8 0, .int .u8 0, .int .u8 0, .int .u8 0, .int .u8 0, .int .u8 0, .int .u8 0] 25) := ⟨_, rfl⟩
  have hXb : Below w.heap.size w X := by rw [hX]; exact below_alloc _ _
  have hX1 : X.heap.size = w.heap.size + 1 := by rw [hX, size_alloc]
  have hXz : X.heap[w.heap.size]? = some (.cells #[.int .u8 0, .int .u8 0, .int .u8 0, .int .u8 0, .int .u8 0, .int .u8 0, .int .u8 0, .int .u8 0, .int .u8 0, .int .u8 0, .int .u8 0, .int .u8 0, .int .u8 0, .int .u8 0, .int .u8 0, .int .u8 0, .int .u8 0, .int .u8 0, .int .u8 0, .int .u8 0, .int .u8 0, .int .u8 0, .int .u8 0, .int .u8 0, .int .u8 0, .int .u8 0, .int .u8 0, .int .u8 0, .int .u8 0, .int .u8 0, .int .u8 0, .int .u8 0] 25 (0, 0)) := by rw [hX]; exact heap_alloc_new w _
  have HC := Seal.mk (mclimb_any R n i K g nt ct pv t X (hG.below hXb) h32 hR hi hm hK1 hK2 (hI.later hXb) h0 h1 hD (hp.later hXb))
  have d32 := digA_32 h32 (i := i) (by omega) K
  have l32 := digL_32 h32 (i := i) (by omega) K
  have llast := digL_last R i K
  obtain ⟨D, hDq⟩ : ∃ D, D = digA R i K := ⟨_, rfl⟩
  rw [← hDq] at d32 llast ⊢
  have hdec := rowN_dec K hK2
  have hKb : K ≤ 100 := by omega
  have HX := Seal.mk (And.intro hXb (And.intro hX1 hXz))
  have HL := Seal.mk (And.intro l32 llast)
  have q1 : ¬ (65536 : Int) < (n : Int) := by omega
  have q2 : ¬ (i : Int) < 0 := by omega
  have q3 : (i : Int) < (n : Int) := by omega
  have HD1 : Seal ((Tryd.prog.info? 25).map (·.size) = some (D.map B).toArray.size ∧ (#[.int .u8 0, .int .u8 0, .int .u8 0, .int .u8 0, .int .u8 0, .int .u8 0, .int .u8 0, .int .u8 0, .int .u8 0, .int .u8 0, .int .u8 0, .int .u8 0, .int .u8 0, .int .u8 0, .int .u8 0, .int .u8 0, .int .u8 0, .int .u8 0, .int .u8 0, .int .u8 0, .int .u8 0, .int .u8 0, .int .u8 0, .int .u8 0, .int .u8 0, .int .u8 0, .int .u8 0, .int .u8 0, .int .u8 0, .int .u8 0, .int .u8 0, .int .u8 0] : Array Value).size = (D.map B).toArray.size ∧ (D.map B).toArray.all (·.oneCell') = true) := ⟨by rw [List.size_toArray]; exact dg_info D d32, by show 32 = _; rw [List.size_toArray, List.length_map, d32], by simp [Value.oneCell']⟩
  have iD := dg_info D d32
  obtain ⟨pa, pc, rfl, hpc, hpm, hpp⟩ := hp.at_
  obtain ⟨pl, hpl⟩ : ∃ pl, pl = (restB R i 0 K).length := ⟨_, rfl⟩
  rw [← hpl] at HC ⊢
  clear hG h32 hR hi hm hK1 hK2 hI h0 h1 hD hp hpc hpm hpp hpl hXb hX1 hXz hDq hdec l32 llast
  go_enter Tryd.func29, Tryd.ntmps29
  go_upto_region 1 with (fail)
  rw [← hX]
  clear hX
  go_wp2_with fail
  refine HC.out.mono ?_
  rintro e w1 ⟨v1, b2, m2, q2, rfl, hs1⟩
  obtain ⟨ho, hb1⟩ := hs1.out
  obtain ⟨g1, c1, rfl, r1⟩ : ∃ g1 c1, v1 = .slice (some ⟨g1, 0, none⟩) (K + 1) c1 ∧ w1.rangeAt g1 0 (dcells (digL R i K)) := by
    rcases ho.2 with ⟨e, hz⟩ | ⟨g, cap, cur, e, hb, hg, hnc, hcm, hcs, htk⟩
    · omega
    · refine ⟨g, cap, e, ?_⟩
      have hr := rangeAt_take (rangeAt_row (cs := cur.toList) (by simpa using hg)) ((K + 1) * 32)
      rw [htk] at hr
      exact hr
  have rD := range_dg r1 HL.out.1 (i := K) (by rw [digL_len]; omega)
  rw [HL.out.2, Nat.zero_add] at rD
  have hxb := HX.out.1
  have hx1 := HX.out.2.1
  have z1 : w1.heap[w.heap.size]? = some (.cells #[.int .u8 0, .int .u8 0, .int .u8 0, .int .u8 0, .int .u8 0, .int .u8 0, .int .u8 0, .int .u8 0, .int .u8 0, .int .u8 0, .int .u8 0, .int .u8 0, .int .u8 0, .int .u8 0, .int .u8 0, .int .u8 0, .int .u8 0, .int .u8 0, .int .u8 0, .int .u8 0, .int .u8 0, .int .u8 0, .int .u8 0, .int .u8 0, .int .u8 0, .int .u8 0, .int .u8 0, .int .u8 0, .int .u8 0, .int .u8 0, .int .u8 0, .int .u8 0] 25 (0, 0)) := blk hb1 (by omega) HX.out.2.2
  have hB1 : Below w.heap.size w w1 := hxb.trans (hb1.mono hxb.size)
  obtain ⟨Y, hY⟩ : ∃ Y : World, Y = w1.alloc (.cells #[.slice (some ⟨g1, 0, none⟩) (K + 1) c1, .slice b2 m2 q2] 110) := ⟨_, rfl⟩
  have rY : Y.rangeAt g1 (K * 32) (D.map B) := by rw [hY]; exact World.rangeAt_alloc rD _
  have HZ : Seal (Y.heap[w.heap.size]? = some (.cells #[.int .u8 0, .int .u8 0, .int .u8 0, .int .u8 0, .int .u8 0, .int .u8 0, .int .u8 0, .int .u8 0, .int .u8 0, .int .u8 0, .int .u8 0, .int .u8 0, .int .u8 0, .int .u8 0, .int .u8 0, .int .u8 0, .int .u8 0, .int .u8 0, .int .u8 0, .int .u8 0, .int .u8 0, .int .u8 0, .int .u8 0, .int .u8 0, .int .u8 0, .int .u8 0, .int .u8 0, .int .u8 0, .int .u8 0, .int .u8 0, .int .u8 0, .int .u8 0] 25 (0, 0)) ∧ Below w.heap.size w Y) := ⟨by rw [hY]; exact (Below.heap_alloc w1 _ _ (by have := hB1.size; have := hb1.size; omega)).trans z1, by rw [hY]; exact hB1.alloc hB1.size _⟩
  have uD := Tryd.underlying25
  have y0 : Y.cell? ⟨w1.heap.size, 0, none⟩ = some (.slice (some ⟨g1, 0, none⟩) (K + 1) c1) := by rw [hY, cell_of_row _ _ _ _ _ _ (heap_alloc_new w1 _)]; rfl
  clear hs1 ho hb1 rD r1 z1 hB1 hxb hx1 HC
  go_upto_region 4 with (fail)
  rw [← hY]
  clear hY
  go_wp2_with (first | (refine wpList_load_mid rfl 25 (.tmp 41) rfl g1 (K * 32) rfl (D.map B) _ rY uD rfl iD ?_) | (refine wpList_store_row rfl 25 (.tmp 8) (.tmp 42) rfl w.heap.size (D.map B).toArray rfl rfl 25 #[.int .u8 0, .int .u8 0, .int .u8 0, .int .u8 0, .int .u8 0, .int .u8 0, .int .u8 0, .int .u8 0, .int .u8 0, .int .u8 0, .int .u8 0, .int .u8 0, .int .u8 0, .int .u8 0, .int .u8 0, .int .u8 0, .int .u8 0, .int .u8 0, .int .u8 0, .int .u8 0, .int .u8 0, .int .u8 0, .int .u8 0, .int .u8 0, .int .u8 0, .int .u8 0, .int .u8 0, .int .u8 0, .int .u8 0, .int .u8 0, .int .u8 0, .int .u8 0] HZ.out.1 HD1.out.1 HD1.out.2.1 HD1.out.2.2 ?_))
  exact bodyPost_ret (results_row_tmp (fn := Tryd.f29) rfl _ _ w.heap.size 25 (D.map B).toArray (0, 0) _ (.int .i64 0) rfl rfl (setRow_heap _ _ _ _ _ _ HZ.out.1) Tryd.underlying25 rfl HD1.out.1) rfl ⟨rfl, below_row HZ.out.2 (Nat.le_refl _) _⟩

/-! ## the length of a path -/
def lenN (n i : Nat) : Nat → Nat
  | 0 => 0
  | k + 1 => lenN n i k + (if (i / 2 ^ k) % 2 = 1 ∨ i / 2 ^ k + 1 < nAt n k then 1 else 0)
theorem lenN_le (n i : Nat) : ∀ k, lenN n i k ≤ k
  | 0 => Nat.le_refl _
  | k + 1 => by have := lenN_le n i k; show lenN n i k + (if _ then 1 else 0) ≤ _; split <;> omega
theorem lenN_path {R : List Bytes} {i : Nat} (hm : R.length ≤ 100) (h : i < R.length) : ∀ K, lenN R.length i K = (pathB R i K).length
  | 0 => rfl
  | K + 1 => by
    show lenN R.length i K + _ = (pathB R i K ++ partB R i K).length
    rw [List.length_append, lenN_path hm h K]
    congr 1
    have hlt := iAt_lt h K
    have hb : i / 2 ^ K ≤ 100 := by have := Nat.div_le_self i (2 ^ K); omega
    unfold partB
    rw [nAt_row]
    generalize i / 2 ^ K = j at hlt hb
    by_cases he : j % 2 = 1
    · rw [if_pos (.inl he), xor_odd hb he, if_pos (by omega)]; rfl
    · rw [xor_even hb (by omega)]
      by_cases hq : j + 1 < (rowN R K).length
      · rw [if_pos (.inr hq), if_pos hq]; rfl
      · rw [if_neg (by rintro (h | h); exact he h; exact hq h), if_neg hq]; rfl

set_option maxHeartbeats 2000000 in
theorem rlen_any (n i K : Nat) (w : World) (hn : n ≤ 100) (hi : i < n) (hK1 : nAt n K ≤ 1) (hK2 : ∀ k, k < K → 1 < nAt n k) :
    Calls Tryd.prog 31 #[.int .i64 n, .int .i64 i] w fun e w' => e = .returned (.int .i64 (lenN n i K : Nat)) ∧ w = w' := by
  have HK := Seal.mk (And.intro hn (And.intro hi (And.intro hK1 hK2)))
  clear hn hi hK1 hK2
  go_enter Tryd.func31, Tryd.ntmps31
  go_wp2
  go_loop [0, 1, 5] (fun a b c => ∃ k, k ≤ K ∧ a = .int .i64 (nAt n k : Nat) ∧ b = .int .i64 (i / 2 ^ k : Nat) ∧ c = .int .i64 (lenN n i k : Nat)) (fun a _ _ => (intOf a).toNat)
  case atStart => exact ⟨0, by omega, rfl, by simp, rfl⟩
  case round =>
    obtain ⟨k, hk, rfl, rfl, rfl⟩ := hrel
    have hall := HK.out.2.2.2
    have hdec := nAt_dec k (fun j hj => hall j (by omega))
    have hle := lenN_le n i k
    have hid : i / 2 ^ k ≤ i := Nat.div_le_self _ _
    have hn := HK.out.1
    have hi := HK.out.2.1
    have e1 : nAt n (k + 1) = (nAt n k + 1) / 2 := rfl
    have e2 : i / 2 ^ (k + 1) = (i / 2 ^ k) / 2 := by rw [Nat.pow_succ, Nat.div_div_eq_div_mul]
    have e3 : lenN n i (k + 1) = lenN n i k + (if (i / 2 ^ k) % 2 = 1 ∨ i / 2 ^ k + 1 < nAt n k then 1 else 0) := rfl
    by_cases h1 : 1 < nAt n k
    · have hkK : k < K := by
        rcases Nat.eq_or_lt_of_le hk with h | h
        · rw [h] at h1; have := HK.out.2.2.1; omega
        · exact h
      have HKK := Seal.mk hkK
      obtain ⟨nk, hnk⟩ : ∃ x, x = nAt n k := ⟨_, rfl⟩
      obtain ⟨ik, hik⟩ : ∃ x, x = i / 2 ^ k := ⟨_, rfl⟩
      obtain ⟨lk, hlk⟩ : ∃ x, x = lenN n i k := ⟨_, rfl⟩
      rw [← hnk] at h1 hdec e1 e3 ⊢
      rw [← hik] at hid e2 e3 ⊢
      rw [← hlk] at hle e3 ⊢
      have E := Seal.mk (And.intro e1 (And.intro e2 e3))
      clear hall e1 e2 e3 hnk hik hlk hkK
      have q1 : (1 : Int) < (nk : Int) := by omega
      by_cases ho : ik % 2 = 1
      · have q2 : (ik : Int) % 2 = 1 := by omega
        go_wp2
        go_round
        case rel =>
          have hc1 : ((nk : Int) + 1) / 2 = ((nAt n (k + 1) : Nat) : Int) := by rw [E.out.1]; omega
          have hc2 : (ik : Int) / 2 = ((i / 2 ^ (k + 1) : Nat) : Int) := by rw [E.out.2.1]; omega
          exact ⟨k + 1, by have := HKK.out; omega, by rw [← hc1], by rw [← hc2], by have e := E.out.2.2; rw [if_pos (.inl ho)] at e; exact congrArg (Value.int .i64) (by omega)⟩
        case measure => simp [intOf]; omega
      · have q2 : ¬ (ik : Int) % 2 = 1 := by omega
        by_cases hq : ik + 1 < nk
        · have q3 : (ik : Int) + 1 < (nk : Int) := by omega
          go_wp2
          go_round
          case rel =>
            have hc1 : ((nk : Int) + 1) / 2 = ((nAt n (k + 1) : Nat) : Int) := by rw [E.out.1]; omega
            have hc2 : (ik : Int) / 2 = ((i / 2 ^ (k + 1) : Nat) : Int) := by rw [E.out.2.1]; omega
            exact ⟨k + 1, by have := HKK.out; omega, by rw [← hc1], by rw [← hc2], by have e := E.out.2.2; rw [if_pos (.inr hq)] at e; exact congrArg (Value.int .i64) (by omega)⟩
          case measure => simp [intOf]; omega
        · have q3 : ¬ (ik : Int) + 1 < (nk : Int) := by omega
          go_wp2
          go_round
          case rel =>
            have hc1 : ((nk : Int) + 1) / 2 = ((nAt n (k + 1) : Nat) : Int) := by rw [E.out.1]; omega
            have hc2 : (ik : Int) / 2 = ((i / 2 ^ (k + 1) : Nat) : Int) := by rw [E.out.2.1]; omega
            exact ⟨k + 1, by have := HKK.out; omega, by rw [← hc1], by rw [← hc2], by have e := E.out.2.2; rw [if_neg (not_or.2 ⟨ho, hq⟩)] at e; exact congrArg (Value.int .i64) (by omega)⟩
          case measure => simp [intOf]; omega
    · have hkK : k = K := by
        rcases Nat.eq_or_lt_of_le hk with h | h
        · exact h
        · exact absurd (hall k h) h1
      subst hkK
      obtain ⟨nk, hnk⟩ : ∃ x, x = nAt n k := ⟨_, rfl⟩
      rw [← hnk] at h1 ⊢
      have q1 : ¬ (1 : Int) < (nk : Int) := by omega
      clear hnk hall e1 e2 e3
      go_wp2
      go_ret
      exact ⟨rfl, rfl⟩
end Frk
