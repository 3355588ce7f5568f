/- Parts of the proof, joined. -/
import Derived.Test.YtllbjakfjpjfnaaGreatDoorVxgSig
import Derived.Test.YtllbjakfjpjfnaaGreatDoorVxgGen
import Derived.Test.YtllbjakfjpjfnaaGreatDoorVxgCod
import Derived.Test.YtllbjakfjpjfnaaGreatDoorVxgEqd
import Derived.RangeFuncCalls
import Derived.RangeFuncBound
import Derived.RangeFuncNested
import Derived.RangeFuncLeaves
import Derived.Test.YtllbjakfjpjfnaaGreatDoorVxHab
import Derived.Test.YtllbjakfjpjfnaaGreatDoorVxgRsg
/- A range over a function whose iterator yields what it has made itself: the law for the caller. -/
namespace Frk
open Go Go.RowKit

/-- what an iterator promises that is never stopped: what it yields (G: the data of x, in blocks that it has made since the last round ended) it finds again behind the round; the blocks of mine are those that it reads -/
def SeqMem {α : Type} (F : Fence) (n : Nat) (P : Program) (g : Nat) (lb : Array Value) (encs : α → Array Value) (G : Nat → List α → α → World → Prop) (mine : Nat → Prop) (S : List α → Prop) (N : Nat) (w : World) : Prop :=
  ∀ (l : Nat) (J : List α → World → Prop) (W : World), Below w.heap.size w W →
    (∀ pre x W0 W1, J pre W0 → Below W0.heap.size W0 W1 → W.heap.size ≤ W0.heap.size → G W0.heap.size pre x W1 → pre.length < N → YieldAt F (n - 1) P l (encs x) W1 fun e W' =>
      e = .returned (.bool true) ∧ J (pre ++ [x]) W' ∧ G W0.heap.size pre x W' ∧ W1.heap.size ≤ W'.heap.size ∧ ∀ r, mine r → W'.heap[r]? = W1.heap[r]?) →
    J [] W →
    CallsIn F n P g (#[.func (.yield l) #[] #[]] ++ lb) W fun e W' => (∃ v, e = .returned v) ∧ ∃ xs W0, S xs ∧ J xs W0 ∧ Below W0.heap.size W0 W' ∧ W.heap.size ≤ W0.heap.size

/-- how a round's body is left -/
def memPost {α : Type} (mine : Nat → Prop) (I : List α → World → Prop) (G : World → Prop) (xs : List α) (W : World) : Exit → Act → World → Prop
  | .normal, _, W' => KeepsOthers W W' ∧ (∀ r, mine r → W'.heap[r]? = W.heap[r]?) ∧ G W' ∧ I xs W'
  | _, _, _ => False

variable {F : Fence} {n : Nat} {P : Program}

theorem wpIn_rangeFunc_mem {α : Type} {g : Operand} {ps : Array Tmp} {assign body : Code} {Q : Exit → Act → World → Prop} {a : Act} {w : World}
    (hro : F.round = none) (h1 : 1 ≤ n) {gf : Nat} {lb : Array Value} (hg : a.eval g = .func (.func gf) #[] lb) (hFg : F.fn gf) (eg : ∀ args w, (callFunc gf args).run P w = .ok (.enter gf args) w)
    {encs : α → Array Value} {G : Nat → List α → α → World → Prop} {mine : Nat → Prop} {S : List α → Prop} {N : Nat} (hseq : SeqMem F (n - 1) P gf lb encs G mine S N w) (hmine : ∀ r, mine r → r < w.heap.size) (hps : ∀ x, (encs x).size = ps.size)
    (hG : ∀ sz pre x A B, w.heap.size + 1 < sz → G sz pre x A → A.grownBy B (some (w.heap.size + 1)) → (∃ o : Obj, A.heap[w.heap.size + 1]? = some o ∧ o.isCells = false) → G sz pre x B)
    (I : List α → World → Prop)
    (hI : ∀ s A B, I s A → A.grownBy B (some (w.heap.size + 1)) → (∃ o : Obj, A.heap[w.heap.size + 1]? = some o ∧ o.isCells = false) → I s B)
    (hIn : ∀ s A B, I s A → A.grownBy B none → I s B)
    (h0 : I [] w) (a₁ : α → Act)
    (hassign : ∀ (l : Nat) (x : α) (W : World) (K : Act → World → Prop), K (a₁ x) W →
      assign.wpIn (F.inRound l) (n - 1 - 1) P (Exit.then K (fun _ _ _ => False)) { tmps := (ps.zip (encs x)).foldl (fun t (p, v) => t.setIfInBounds p v) a.tmps, defers := [] } W)
    (hbody : ∀ (l : Nat) (pre : List α) (x : α) (W0 W : World), I pre W0 → I pre W → w.heap.size + 1 < W0.heap.size → W0.heap.size ≤ W.heap.size →
      G W0.heap.size pre x W → pre.length < N → body.wpIn (F.inRound l) (n - 1 - 1) P (memPost mine I (G W0.heap.size pre x) (pre ++ [x]) W) (a₁ x) W)
    (hdone : ∀ (xs : List α) (W : World), S xs → I xs W → w.heap.size + 1 < W.heap.size → W.heap[w.heap.size]? = some (.deferred (some [])) → Q .normal { a with defers := { target := .collected w.heap.size, args := #[] } :: a.defers } W) :
    (Code.rangeFunc g ps assign body).wpIn F n P Q a w := by
  refine wpIn_rangeFunc ?_
  intro fn hfn
  rw [hro]
  obtain ⟨rec, hrec⟩ : ∃ rec : LoopState → Option Code → Loop, rec = fun st pe => { state := st, pending := pe, fn, tmps := a.tmps, params := ps, assign, body, defers := w.heap.size } := ⟨_, rfl⟩
  obtain ⟨W1, hW1⟩ : ∃ W1, (w.alloc (.deferred (some []))).alloc (.loop (rec .ready none)) = W1 := ⟨_, rfl⟩
  have hL1 : W1.heap[w.heap.size + 1]? = some (.loop (rec .ready none)) := by
    rw [← hW1]; have := World.alloc_heap_new (w.alloc (.deferred (some []))) (.loop (rec .ready none)); rwa [World.size_alloc] at this
  have hK1 : W1.heap[w.heap.size]? = some (.deferred (some [])) := by
    rw [← hW1]; exact (Below.heap_alloc _ _ _ (by simp)).trans (World.alloc_heap_new w _)
  have hI1 : I [] W1 := by rw [← hW1]; exact hIn _ _ _ (hIn _ _ _ h0 (World.grownBy_alloc w _ none)) (World.grownBy_alloc _ _ none)
  have hb1 : Below w.heap.size w W1 := by
    rw [← hW1]; exact ((Below.refl _ w).alloc (Nat.le_refl _) _).alloc (by simp) _
  have hz1 : W1.heap.size = w.heap.size + 2 := by rw [← hW1]; simp
  refine ⟨w.heap.size + 1, [{ target := .collected w.heap.size, args := #[] }], W1, { target := .fn (.func gf) lb, args := #[.func (.yield (w.heap.size + 1)) #[] #[]] }, W1, gf,
    #[.func (.yield (w.heap.size + 1)) #[] #[]] ++ lb, W1, ?_, ?_, ?_, ?_, fun _ => h1, ?_⟩
  · rw [← hW1, hrec]; exact run_enterLoop_outer _ _ _ _ _
  · simp only [resolve, hg]
    simp [go_sem]
  · intro f' hf'; simp [Target.leads] at hf'; subst hf'; exact hFg
  · simp [invoke, go_sem, eg]
  · refine (hseq (w.heap.size + 1)
      (fun pre W => I pre W ∧ W.heap[w.heap.size + 1]? = some (.loop (rec .ready none)) ∧ W.heap[w.heap.size]? = some (.deferred (some [])))
      W1 hb1 ?_ ⟨hI1, hL1, hK1⟩).mono ?_
    · rintro pre x W0 W ⟨hi, hl0, hk0⟩ hb hsz hg2 hlen
      have hl : W.heap[w.heap.size + 1]? = some (.loop (rec .ready none)) := (hb.block _ (Array.getElem?_eq_some_iff.1 hl0).1).trans hl0
      have hk : W.heap[w.heap.size]? = some (.deferred (some [])) := (hb.block _ (Array.getElem?_eq_some_iff.1 hk0).1).trans hk0
      have hlt : w.heap.size + 1 < W.heap.size := (Array.getElem?_eq_some_iff.1 hl).1
      have hlt0 : w.heap.size + 1 < W0.heap.size := (Array.getElem?_eq_some_iff.1 hl0).1
      have hy := run_yield (P := P) (args := encs x) hl (by rw [hrec]; exact hps x)
      rw [hrec] at hy
      refine ⟨fn, _, assign, body, hy, roundIn_of_wpIn hfn (hassign _ x W _ ⟨_, run_beginRound hl (by rw [hrec]), ?_⟩)⟩
      have hl2 : (W.putObj (w.heap.size + 1) (.loop { rec .ready none with state := .busy })).heap[w.heap.size + 1]? = some (.loop { rec .ready none with state := .busy }) := World.putObj_heap_same hlt
      have hk2 : (W.putObj (w.heap.size + 1) (.loop { rec .ready none with state := .busy })).heap[w.heap.size]? = some (.deferred (some [])) := (World.putObj_heap_other (by omega)).trans hk
      have hgp := grownBy_putObj' W (w.heap.size + 1) (.loop { rec .ready none with state := .busy })
      refine wpIn_mono (hbody _ pre x W0 _ hi (hI _ _ _ (hIn _ _ _ hi ⟨hb.os, hb.tape, hb.output, hb.size, fun k hk _ => hb.block k hk⟩) hgp ⟨_, hl, rfl⟩) hlt0 (by simpa [World.putObj] using hb.size) (hG _ _ _ _ _ hlt0 hg2 hgp ⟨_, hl, rfl⟩) hlen) ?_
      rintro e a3 W3 hp
      cases e with
      | normal =>
        obtain ⟨hk3, hm3, hg3, hi3⟩ := hp
        have hl3 := hk3.same _ _ hl2 rfl
        have hr := run_endRound (P := P) none hl3
        rw [hrec] at hr hl3
        have hs3 := hk3.size
        refine ⟨_, _, hr, rfl, ⟨hI _ _ _ hi3 (grownBy_putObj' _ _ _) ⟨_, hl3, rfl⟩, ?_, (World.putObj_heap_other (by omega)).trans (hk3.same _ _ hk2 rfl)⟩, hG _ _ _ _ _ hlt0 hg3 (grownBy_putObj' _ _ _) ⟨_, hl3, rfl⟩, ?_, fun r h => ?_⟩
        · rw [hrec]; exact World.putObj_heap_same (Array.getElem?_eq_some_iff.1 hl3).1
        · simpa [World.putObj] using hs3
        · have := hmine r h
          exact (World.putObj_heap_other (by omega)).trans ((hm3 r h).trans (World.putObj_heap_other (by omega)))
      | ret => exact hp.elim
      | exit id => exact hp.elim
      | goto t => exact hp.elim
      | panic ch => exact hp.elim
      | outgrown => exact hp.elim
    · rintro e W2 ⟨⟨v, rfl⟩, xs, W0, hS, ⟨hi, hl0, hk0⟩, hb, hsz⟩
      have hl : W2.heap[w.heap.size + 1]? = some (.loop (rec .ready none)) := (hb.block _ (Array.getElem?_eq_some_iff.1 hl0).1).trans hl0
      have hk : W2.heap[w.heap.size]? = some (.deferred (some [])) := (hb.block _ (Array.getElem?_eq_some_iff.1 hk0).1).trans hk0
      have hlt0 : w.heap.size + 1 < W0.heap.size := (Array.getElem?_eq_some_iff.1 hl0).1
      refine ⟨none, _, by have := run_endLoop (P := P) hl (by rw [hrec]; simp); rw [hrec] at this; exact this, ?_⟩
      exact hdone xs _ hS (hI _ _ _ (hIn _ _ _ hi ⟨hb.os, hb.tape, hb.output, hb.size, fun k hk _ => hb.block k hk⟩) (grownBy_putObj' W2 _ _) ⟨_, hl, rfl⟩) (by have := hb.size; simp [World.putObj]; omega) ((World.putObj_heap_other (by omega)).trans hk)
end Frk

/- A range over a function whose rounds begin by making variables: the law for the caller. -/
namespace Frk
open Go Go.RowKit

variable {F : Fence} {n : Nat} {P : Program}

end Frk

/- Tagged at no text. -/
namespace Frk
open Go Go.RowKit Go.Proofs
set_option maxRecDepth 100000

theorem run_app_nil8 (w : World) (ty : TypeId) (base n : Nat) (v : Value) (xs : List Value) (hown : w.ownsRow base 5 1 v n xs) : (Builtin.append_ #[52, 52] ty #[v, .slice none 0 0]).run Tryz.prog w = .ok v w := by
  obtain ⟨i0, hi, _, _, _⟩ := info_parts info_u8
  exact run_append_owned_none (P := Tryz.prog) (w := w) base 52 ty 5 i0 1 Tryz.underlying52 hi v n xs hown

set_option maxHeartbeats 1000000 in
theorem concat_nil (p q g1 o1 n1 c1 cp : Nat) (l1 : Bytes) (w : World) (hp : w.cell? ⟨p, q, none⟩ = some (.slice (some ⟨g1, o1, none⟩) n1 c1)) (hq : w.cell? ⟨p, q + 1, none⟩ = some (.slice none 0 0))
    (h1 : l1.length = n1) (h0 : 0 < n1) (hn : n1 ≤ 140737488355328) (r1 : w.rangeAt g1 o1 (l1.map B)) :
   Calls Tryz.prog 45 #[.slice (some ⟨p, q, none⟩) 2 cp] w (CatPost w l1) := by
  have H1 := Seal.mk h1
  have R1 := Seal.mk r1
  clear h1 r1
  go_enter Tryz.func45, Tryz.ntmps45
  go_wp2
  refine wp_loop_rounds 3 ?_
  rw [rounds_succ]
  go_wp2
  rw [rounds_succ]
  go_wp2
  rw [rounds_succ]
  go_wp2_with (go_at_call 76; refine (grow_int _ (by omega) (by omega) _).mono ?_; rintro e w1 ⟨cap, rfl, hb1, hown1⟩)
  have HB1 := Seal.mk hb1
  have HO1 := Seal.mk hown1
  have hp1 : w1.cell? ⟨p, q, none⟩ = some (.slice (some ⟨g1, o1, none⟩) n1 c1) := (hb1.cell (p := ⟨p, q, none⟩) (block_lt_of_cell hp)).trans hp
  have hq1 : w1.cell? ⟨p, q + 1, none⟩ = some (.slice none 0 0) := (hb1.cell (p := ⟨p, q + 1, none⟩) (block_lt_of_cell hq)).trans hq
  have hpl := block_lt_of_cell hp
  clear hb1 hown1
  obtain ⟨i0, hi, hz0, hz1, hz2⟩ := info_parts info_u8
  have HI := Seal.mk (And.intro hi (And.intro hz0 (And.intro hz1 hz2)))
  clear hi hz0 hz1 hz2 hp hq
  go_wp2
  refine wp_loop_rounds 3 ?_
  rw [rounds_succ]
  have A1 : Seal ((l1.map B).length = n1 * 1) := ⟨by rw [List.length_map, H1.out, Nat.mul_one]⟩
  have A2 : Seal (∀ j u, (l1.map B)[j]? = some u → w1.cell? ((⟨g1, o1, none⟩ : Addr).add j) = some u) := ⟨fun j u hu => by rw [Addr.add_mid]; exact rangeAt_below' R1.out HB1.out j u hu⟩
  have A3 : Seal (∀ u ∈ l1.map B, u.oneCell' = true) := ⟨by simp [Value.oneCell']⟩
  go_wp2_with (at_builtin; refine wpList_append_own _ rfl (.tmp 31) (.tmp 32) 52 rfl w.heap.size 5 i0 (.int .u8 0) 1 1 Tryz.underlying52 HI.out.1 HI.out.2.1 HI.out.2.2.1 HI.out.2.2.2 rfl (by decide) _ 0 [] rfl HO1.out ⟨g1, o1, none⟩ n1 c1 (l1.map B) rfl A1.out A2.out A3.out (by unfold maxLen; omega) (by omega) HB1.out.size ?_; intro v2 w2 hown2 hgrow2 _)
  have HG2 := Seal.mk hgrow2
  have HO2 := Seal.mk hown2
  have hpn : some p ≠ (Value.slice (some ⟨w.heap.size, 0, none⟩) 0 cap).ownBlock := by intro e; have := Option.some.inj e; simp at this; omega
  have hpz : p < w1.heap.size := block_lt_of_cell hq1
  have hq2 : w2.cell? ⟨p, q + 1, none⟩ = some (.slice none 0 0) := (World.cell?_of_block (w := w1) (hgrow2.block p hpz hpn)).trans hq1
  have HB2 : Seal (Below w.heap.size w w2) := ⟨HB1.out.trans (below_of_grown (g := w.heap.size) hgrow2 (Nat.le_refl _) HB1.out.size)⟩
  clear hgrow2 hown2 hp1 hq1 hpn
  rw [rounds_succ]
  go_wp2_with (at_builtin; refine wpList_append_run rfl (.tmp 31) (.tmp 32) 52 52 rfl v2 (.slice none 0 0) v2 rfl rfl (fun ty => run_app_nil8 w2 ty w.heap.size (0 + n1) v2 _ HO2.out) ?_)
  rw [rounds_succ]
  go_wp2
  go_ret
  obtain ⟨hlen, hh⟩ := HO2.out
  rcases hh with ⟨_, h0'⟩ | ⟨g, cap', cur, hv, hg, hheap, hle, hmax, hsize, htake⟩
  · omega
  · refine ⟨g, cap', ?_, by rw [H1.out]; omega, hmax, hg, (Array.getElem?_eq_some_iff.1 hheap).1, HB2.out, ?_⟩
    · rw [H1.out]
      show Ending.returned v2 = _
      rw [hv, Nat.zero_add]
    · have hr := rangeAt_take (rangeAt_row (cs := cur.toList) (by simpa using hheap)) ((0 + n1) * 1)
      rw [htake] at hr
      simpa using hr

set_option maxHeartbeats 1000000 in
theorem tagged_nil (tag : ByteArray) (w : World) (hG : Glob w) (ht : 0 < tag.size) (ht2 : tag.size ≤ 64) :
   Calls Tryz.prog 14 #[.string tag, .slice none 0 0] w fun e w' => e = .returned (.agg ((tagged tag.data.toList []).map B).toArray) ∧ Below w.heap.size w w' := by
  obtain ⟨ct, W1, hrun, hW1⟩ := conv_str (w.alloc (.cells #[.int .u8 0, .int .u8 0, .int .u8 0, .int .u8 0, .int .u8 0, .int .u8 0, .int .u8 0, .int .u8 0, .int .u8 0, .int .u8 0, .int .u8 0, .int .u8 0, .int .u8 0, .int .u8 0, .int .u8 0, .int .u8 0, .int .u8 0, .int .u8 0, .int .u8 0, .int .u8 0, .int .u8 0, .int .u8 0, .int .u8 0, .int .u8 0, .int .u8 0, .int .u8 0, .int .u8 0, .int .u8 0, .int .u8 0, .int .u8 0, .int .u8 0, .int .u8 0] 42)) tag (by omega)
  have HG := Seal.mk hG
  have hsz1 := hW1.out.2.2.2.2
  rw [size_alloc] at hrun hsz1
  have HS1 := Seal.mk hsz1
  have HG1 : Glob W1 := (hG.below (below_alloc w _)).below hW1.out.1
  have hr1 : W1.rangeAt (w.heap.size + 1) 0 (tag.data.toList.map B) := by have := hW1.out.2.1; rwa [size_alloc] at this
  have HC1 := Seal.mk (sum_some (w.heap.size + 1) 0 tag.size ct tag.data.toList W1 HG1 (by simp) hW1.out.2.2.1 (by omega) hW1.out.2.2.2.1 hr1 (by omega))
  clear hG hsz1 HG1 hr1
  go_enter Tryz.func14, Tryz.ntmps14
  have HD1 : Seal ((Tryz.prog.info? 42).map (·.size) = some ((sha tag.data.toList).map B).length) := ⟨sha_info _⟩
  have HD2 : Seal (((sha tag.data.toList).map B).length = 32) := ⟨by rw [List.length_map, sha_length]⟩
  have HD3 : Seal (∀ u ∈ (sha tag.data.toList).map B, u.oneCell' = true) := ⟨by simp [Value.oneCell']⟩
  obtain ⟨D, hD⟩ : ∃ D, Seal (D = (sha tag.data.toList).map B) := ⟨_, ⟨rfl⟩⟩
  rw [← hD.out] at HD1 HD2 HD3 HC1
  go_wp2_with (first | (go_at_call 44; refine HC1.out.mono ?_; rintro e w2 ⟨rfl, hb2⟩) | (refine wpList_store_new rfl 42 (.tmp 5) (.tmp 8) rfl [.int .u8 0, .int .u8 0, .int .u8 0, .int .u8 0, .int .u8 0, .int .u8 0, .int .u8 0, .int .u8 0, .int .u8 0, .int .u8 0, .int .u8 0, .int .u8 0, .int .u8 0, .int .u8 0, .int .u8 0, .int .u8 0, .int .u8 0, .int .u8 0, .int .u8 0, .int .u8 0, .int .u8 0, .int .u8 0, .int .u8 0, .int .u8 0, .int .u8 0, .int .u8 0, .int .u8 0, .int .u8 0, .int .u8 0, .int .u8 0, .int .u8 0, .int .u8 0] D 42 rfl rfl HD1.out HD2.out.symm HD3.out ?_))
  have hs1 := HS1.out
  have hb0 : Below w.heap.size w w2 := (below_alloc w _).trans ((hW1.out.1.mono (by rw [size_alloc]; omega)).trans (hb2.mono (by omega)))
  have HB0 := Seal.mk hb0
  have hz1 : W1.heap[w.heap.size]? = some (.cells #[.int .u8 0, .int .u8 0, .int .u8 0, .int .u8 0, .int .u8 0, .int .u8 0, .int .u8 0, .int .u8 0, .int .u8 0, .int .u8 0, .int .u8 0, .int .u8 0, .int .u8 0, .int .u8 0, .int .u8 0, .int .u8 0, .int .u8 0, .int .u8 0, .int .u8 0, .int .u8 0, .int .u8 0, .int .u8 0, .int .u8 0, .int .u8 0, .int .u8 0, .int .u8 0, .int .u8 0, .int .u8 0, .int .u8 0, .int .u8 0, .int .u8 0, .int .u8 0] 42 (0, 0)) := (hW1.out.1.block _ (by rw [size_alloc]; omega)).trans (heap_alloc_new w _)
  have hz2' : w2.heap[w.heap.size]? = some (.cells #[.int .u8 0, .int .u8 0, .int .u8 0, .int .u8 0, .int .u8 0, .int .u8 0, .int .u8 0, .int .u8 0, .int .u8 0, .int .u8 0, .int .u8 0, .int .u8 0, .int .u8 0, .int .u8 0, .int .u8 0, .int .u8 0, .int .u8 0, .int .u8 0, .int .u8 0, .int .u8 0, .int .u8 0, .int .u8 0, .int .u8 0, .int .u8 0, .int .u8 0, .int .u8 0, .int .u8 0, .int .u8 0, .int .u8 0, .int .u8 0, .int .u8 0, .int .u8 0] 42 (0, 0)) := (hb2.block _ (by omega)).trans hz1
  have hz2 : w.heap.size + 2 ≤ w2.heap.size := by have := hb2.size; omega
  have hX : Below w.heap.size w ((w2.alloc (.cells D.toArray 42)).alloc (.cells #[.slice (some ⟨w2.heap.size, 0, none⟩) 32 32, .slice none 0 0] 52)) :=
    (hb0.alloc hb0.size _).alloc (by rw [size_alloc]; have := hb0.size; omega) _
  have hrow : ((w2.alloc (.cells D.toArray 42)).alloc (.cells #[.slice (some ⟨w2.heap.size, 0, none⟩) 32 32, .slice none 0 0] 52)).heap[w2.heap.size + 1]? = some (.cells #[.slice (some ⟨w2.heap.size, 0, none⟩) 32 32, .slice none 0 0] 52) := heap_alloc2_new w2 _ _
  have hdr : ((w2.alloc (.cells D.toArray 42)).alloc (.cells #[.slice (some ⟨w2.heap.size, 0, none⟩) 32 32, .slice none 0 0] 52)).rangeAt w2.heap.size 0 ((sha tag.data.toList).map B) := by
    rw [← hD.out]; exact World.rangeAt_alloc (rangeAt_new w2 D _ _) _
  have HC2 := Seal.mk (concat_nil (w2.heap.size + 1) 0 w2.heap.size 0 32 32 2 (sha tag.data.toList) _ (cell_of_row _ _ _ _ _ _ hrow) (cell_of_row _ _ _ _ _ _ hrow) (sha_length _) (by decide) (by omega) hdr)
  have HX := Seal.mk hX
  have HDR := Seal.mk hdr
  have HZ : Seal (((w2.alloc (.cells D.toArray 42)).alloc (.cells #[.slice (some ⟨w2.heap.size, 0, none⟩) 32 32, .slice none 0 0] 52)).heap[w.heap.size]? = some (.cells #[.int .u8 0, .int .u8 0, .int .u8 0, .int .u8 0, .int .u8 0, .int .u8 0, .int .u8 0, .int .u8 0, .int .u8 0, .int .u8 0, .int .u8 0, .int .u8 0, .int .u8 0, .int .u8 0, .int .u8 0, .int .u8 0, .int .u8 0, .int .u8 0, .int .u8 0, .int .u8 0, .int .u8 0, .int .u8 0, .int .u8 0, .int .u8 0, .int .u8 0, .int .u8 0, .int .u8 0, .int .u8 0, .int .u8 0, .int .u8 0, .int .u8 0, .int .u8 0] 42 (0, 0))) :=
    ⟨by rw [Below.heap_alloc _ _ _ (by rw [size_alloc]; omega), Below.heap_alloc _ _ _ (by omega)]; exact hz2'⟩
  clear hz1 hz2'
  clear hb2 hb0 hX hrow hdr hrun HC1 hs1
  refine HC2.out.mono ?_
  rintro e w3 ⟨g3, c3, rfl, hc3, hc4, hg3, hg4, hb3, hr3⟩
  have HB3 := Seal.mk hb3
  have HR3 := Seal.mk hr3
  have hlen3 : (sha tag.data.toList).length = 32 := sha_length _
  have HC3 := Seal.mk (sum_some g3 0 32 c3 (sha tag.data.toList) w3 ((HG.out.below HX.out).below hb3) hlen3 (by rw [← hlen3]; exact hc3) (by omega) hc4 hr3 hg4)
  rw [hlen3]
  clear hb3 hr3 hc3 hlen3 HC2
  have HE1 : Seal ((Tryz.prog.info? 42).map (·.size) = some ((sha (sha tag.data.toList)).map B).toArray.size) := ⟨by rw [List.size_toArray]; exact sha_info _⟩
  have HE2 : Seal (((sha (sha tag.data.toList)).map B).toArray.size = 32) := ⟨by rw [List.size_toArray, List.length_map, sha_length]⟩
  have HE3 : Seal (((sha (sha tag.data.toList)).map B).toArray.all (·.oneCell') = true) := ⟨by simp [Value.oneCell']⟩
  obtain ⟨E, hE⟩ : ∃ E, Seal (E = ((sha (sha tag.data.toList)).map B).toArray) := ⟨_, ⟨rfl⟩⟩
  rw [← hE.out] at HE1 HE2 HE3 HC3
  have hZ3 : w3.heap[w.heap.size]? = some (.cells #[.int .u8 0, .int .u8 0, .int .u8 0, .int .u8 0, .int .u8 0, .int .u8 0, .int .u8 0, .int .u8 0, .int .u8 0, .int .u8 0, .int .u8 0, .int .u8 0, .int .u8 0, .int .u8 0, .int .u8 0, .int .u8 0, .int .u8 0, .int .u8 0, .int .u8 0, .int .u8 0, .int .u8 0, .int .u8 0, .int .u8 0, .int .u8 0, .int .u8 0, .int .u8 0, .int .u8 0, .int .u8 0, .int .u8 0, .int .u8 0, .int .u8 0, .int .u8 0] 42 (0, 0)) := (HB3.out.block _ (by have := HX.out.size; rw [size_alloc, size_alloc]; omega)).trans HZ.out
  have HZ3 := Seal.mk hZ3
  have h3z : w.heap.size < w3.heap.size := (Array.getElem?_eq_some_iff.1 hZ3).1
  have HB4 := Seal.mk ((HX.out.trans (HB3.out.mono HX.out.size)))
  clear hZ3
  go_wp2_with (first | (go_at_call 44; refine HC3.out.mono ?_; rintro e w4 ⟨rfl, hb4⟩; have HZ4 := Seal.mk ((hb4.block _ h3z).trans HZ3.out); have HB5 := Seal.mk (HB4.out.trans (hb4.mono (Nat.le_of_lt h3z))); clear hb4) | (refine wpList_store_row rfl 42 (.tmp 4) (.tmp 13) rfl w.heap.size E rfl rfl 42 _ HZ4.out HE1.out HE2.out.symm HE3.out ?_))
  refine bodyPost_ret (results_cell_row (fn := Tryz.f14) rfl _ _ w.heap.size 42 E (0, 0) _ rfl (setRow_heap _ _ _ _ _ _ HZ4.out) Tryz.underlying42 rfl HE1.out) rfl ⟨?_, below_row HB5.out (Nat.le_refl _) _⟩
  rw [hE.out]
  unfold tagged
  rw [List.append_nil]

section
attribute [local go_sem] Oper.semAt_some

def noneD : Bytes := tagged [110, 111, 110, 101] []
theorem noneD_len : noneD.length = 32 := sha_length _

def encE : Empty → Array Value := fun x => x.elim

theorem hleaves_any (a : Option Addr) (n c : Nat) (w : World) : Calls Tryz.prog 41 #[.slice a n c] w fun e w' => e = .returned (.func (.func 66) #[] #[.pointer (some ⟨w.heap.size, 0, none⟩)]) ∧ w.alloc (.cells #[.slice a n c] 27) = w' := by
  go_enter Tryz.func41, Tryz.ntmps41
  go_wp2
  go_ret
  exact ⟨rfl, rfl⟩

end

theorem Env.add {w W : World} {a : Option Addr} {len cap : Nat} {b : Bytes} {bs : List (Nat × Obj)} {g : Nat} {o : Obj} (h : Env w a len cap b bs) (hb : Below w.heap.size w W) (hr : W.heap[g]? = some o) : Env W a len cap b ((g, o) :: bs) :=
  ⟨(h.below hb).glob, (h.below hb).isb, fun p hp => by
    rcases List.mem_cons.1 hp with rfl | hp
    · exact hr
    · exact (h.below hb).keep p hp⟩

def nineD : Bytes := [9, 0, 0, 0, 0, 0, 0, 0, 0, 0, 0, 0, 0, 0, 0, 0, 0, 0, 0, 0, 0, 0, 0, 0, 0, 0, 0, 0, 0, 0, 0, 0]
/-- the example -/
def hd0 : Hd := ⟨2, 30, 90, 1, 3, 5, 7, nineD, 45, 0, 0⟩

end Frk

