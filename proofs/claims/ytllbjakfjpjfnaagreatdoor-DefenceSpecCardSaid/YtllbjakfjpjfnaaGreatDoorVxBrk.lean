/- A range over a function with a way out (break), whose loop variable lies in memory: the iterator's promise, and the law for the caller. -/
import Derived.Test.YtllbjakfjpjfnaaGreatDoorVxgHac
import Derived.RangeFuncCalls
namespace Frk
open Go Go.RowKit

/-- what an iterator promises that lays new blocks alone, and reads the blocks of mine: it yields, until a round says no more -/
def SeqBrk {α : Type} (F : Fence) (n : Nat) (P : Program) (g : Nat) (lb : Array Value) (encs : α → Array Value) (mine : Nat → Prop) (S Sp : List α → Prop) (w : World) : Prop :=
  ∀ (l : Nat) (J Jx : List α → World → Prop) (W : World), Below w.heap.size w W →
    (∀ s A B, W.heap.size ≤ A.heap.size → J s A → Below A.heap.size A B → J s B) →
    (∀ pre x W1, W.heap.size ≤ W1.heap.size → J pre W1 → YieldAt F (n - 1) P l (encs x) W1 fun e W' =>
      (e = .returned (.bool true) ∧ J (pre ++ [x]) W' ∧ W1.heap.size ≤ W'.heap.size ∧ ∀ r, mine r → W'.heap[r]? = W1.heap[r]?) ∨ (e = .returned (.bool false) ∧ Jx (pre ++ [x]) W')) →
    J [] W →
    CallsIn F n P g (#[.func (.yield l) #[] #[]] ++ lb) W fun e W' => (∃ v, e = .returned v) ∧ ((∃ xs, S xs ∧ J xs W') ∨ ∃ pre, Sp pre ∧ Jx pre W')

/-- how a round's body is left: the loop's own two blocks stand as they stood -/
def brkPost {α : Type} (L : Nat) (mine : Nat → Prop) (I : List α → World → Prop) (Ix : Nat → List α → World → Prop) (xs : List α) (W : World) : Exit → Act → World → Prop
  | .normal, _, W' => (W.heap.size ≤ W'.heap.size ∧ ∀ r, r = L ∨ r = L + 1 → W'.heap[r]? = W.heap[r]?) ∧ (∀ r, mine r → W'.heap[r]? = W.heap[r]?) ∧ I xs W'
  | .exit id, _, W' => (W.heap.size ≤ W'.heap.size ∧ ∀ r, r = L ∨ r = L + 1 → W'.heap[r]? = W.heap[r]?) ∧ Ix id xs W'
  | _, _, _ => False

variable {F : Fence} {n : Nat} {P : Program}
theorem wpIn_rangeFunc_brk {α : Type} {g : Operand} {ps : Array Tmp} {assign body : Code} {Q : Exit → Act → World → Prop} {a : Act} {w : World}
    (hro : F.round = none) (h1 : 1 ≤ n) {gf : Nat} {lb : Array Value} (hg : a.eval g = .func (.func gf) #[] lb) (hFg : F.fn gf) (eg : ∀ args w, (callFunc gf args).run P w = .ok (.enter gf args) w)
    {encs : α → Array Value} {mine : Nat → Prop} {S Sp : List α → Prop} (hseq : SeqBrk F (n - 1) P gf lb encs mine S Sp w) (hmine : ∀ r, mine r → r < w.heap.size) (hps : ∀ x, (encs x).size = ps.size)
    (I : List α → World → Prop) (Ix : Nat → List α → World → Prop)
    (hI : ∀ s A B, I s A → A.grownBy B (some (w.heap.size + 1)) → I s B) (hIn : ∀ s A B, I s A → A.grownBy B none → I s B)
    (hIx : ∀ c s A B, Ix c s A → A.grownBy B (some (w.heap.size + 1)) → Ix c s B)
    (h0 : I [] w) (a₁ : α → World → Act) (az : α → World → World) (has : ∀ x W, Below W.heap.size W (az x W))
    (hassign : ∀ (l : Nat) (x : α) (W : World) (K : Act → World → Prop), K (a₁ x W) (az x W) →
      assign.wpIn (F.inRound l) (n - 1 - 1) P (Exit.then K (fun _ _ _ => False)) { tmps := (ps.zip (encs x)).foldl (fun t (p, v) => t.setIfInBounds p v) a.tmps, defers := [] } W)
    (hbody : ∀ (l : Nat) (pre : List α) (x : α) (Wa W : World), I pre W → (∀ k, k ≠ w.heap.size + 1 → W.heap[k]? = (az x Wa).heap[k]?) → w.heap.size + 1 < Wa.heap.size → W.heap.size = (az x Wa).heap.size →
      body.wpIn (F.inRound l) (n - 1 - 1) P (brkPost w.heap.size mine I Ix (pre ++ [x]) W) (a₁ x Wa) W)
    (hdone : ∀ (xs : List α) (W : World), S xs → I xs W → w.heap.size + 1 < W.heap.size → W.heap[w.heap.size]? = some (.deferred (some [])) → Q .normal { a with defers := { target := .collected w.heap.size, args := #[] } :: a.defers } W)
    (hstop : ∀ (id : Nat) (pre : List α) (W : World), Sp pre → Ix id pre W → w.heap.size + 1 < W.heap.size → W.heap[w.heap.size]? = some (.deferred (some [])) → (Code.exit id).wpIn F n P Q { a with defers := { target := .collected w.heap.size, args := #[] } :: a.defers } W) :
    (Code.rangeFunc g ps assign body).wpIn F n P Q a w := by
  refine wpIn_rangeFunc ?_
  intro fn hfn
  rw [hro]
  obtain ⟨rec, hrec⟩ : ∃ rec : LoopState → Option Code → Loop, rec = fun st pe => { state := st, pending := pe, fn, tmps := a.tmps, params := ps, assign, body, defers := w.heap.size } := ⟨_, rfl⟩
  obtain ⟨W1, hW1⟩ : ∃ W1, (w.alloc (.deferred (some []))).alloc (.loop (rec .ready none)) = W1 := ⟨_, rfl⟩
  have hL1 : W1.heap[w.heap.size + 1]? = some (.loop (rec .ready none)) := by
    rw [← hW1]; have := World.alloc_heap_new (w.alloc (.deferred (some []))) (.loop (rec .ready none)); rwa [World.size_alloc] at this
  have hK1 : W1.heap[w.heap.size]? = some (.deferred (some [])) := by
    rw [← hW1]; exact (Below.heap_alloc _ _ _ (by simp)).trans (World.alloc_heap_new w _)
  have hI1 : I [] W1 := by rw [← hW1]; exact hIn _ _ _ (hIn _ _ _ h0 (World.grownBy_alloc w _ none)) (World.grownBy_alloc _ _ none)
  have hb1 : Below w.heap.size w W1 := by
    rw [← hW1]; exact ((Below.refl _ w).alloc (Nat.le_refl _) _).alloc (by simp) _
  have hz1 : W1.heap.size = w.heap.size + 2 := by rw [← hW1]; simp
  refine ⟨w.heap.size + 1, [{ target := .collected w.heap.size, args := #[] }], W1, { target := .fn (.func gf) lb, args := #[.func (.yield (w.heap.size + 1)) #[] #[]] }, W1, gf,
    #[.func (.yield (w.heap.size + 1)) #[] #[]] ++ lb, W1, ?_, ?_, ?_, ?_, fun _ => h1, ?_⟩
  · rw [← hW1, hrec]; exact run_enterLoop_outer _ _ _ _ _
  · simp only [resolve, hg]
    simp [go_sem]
  · intro f' hf'; simp [Target.leads] at hf'; subst hf'; exact hFg
  · simp [invoke, go_sem, eg]
  · refine (hseq (w.heap.size + 1)
      (fun pre W => I pre W ∧ W.heap[w.heap.size + 1]? = some (.loop (rec .ready none)) ∧ W.heap[w.heap.size]? = some (.deferred (some [])))
      (fun pre W => ∃ id, Ix id pre W ∧ W.heap[w.heap.size + 1]? = some (.loop (rec .done (some (.exit id)))) ∧ W.heap[w.heap.size]? = some (.deferred (some [])))
      W1 hb1 ?_ ?_ ⟨hI1, hL1, hK1⟩).mono ?_
    · rintro s A B hsz ⟨hi, hl, hk⟩ hb
      exact ⟨hIn _ _ _ hi ⟨hb.os, hb.tape, hb.output, hb.size, fun k hk _ => hb.block k hk⟩, (hb.block _ (Array.getElem?_eq_some_iff.1 hl).1).trans hl, (hb.block _ (Array.getElem?_eq_some_iff.1 hk).1).trans hk⟩
    · rintro pre x W hsz ⟨hi, hl, hk⟩
      have hlt : w.heap.size + 1 < W.heap.size := (Array.getElem?_eq_some_iff.1 hl).1
      have hy := run_yield (P := P) (args := encs x) hl (by rw [hrec]; exact hps x)
      rw [hrec] at hy
      have ha := has x W
      have hla : (az x W).heap[w.heap.size + 1]? = some (.loop (rec .ready none)) := (ha.block _ hlt).trans hl
      have hka : (az x W).heap[w.heap.size]? = some (.deferred (some [])) := (ha.block _ (by omega)).trans hk
      have hlta : w.heap.size + 1 < (az x W).heap.size := Nat.lt_of_lt_of_le hlt ha.size
      refine ⟨fn, _, assign, body, hy, roundIn_of_wpIn hfn (hassign _ x W _ ⟨_, run_beginRound hla (by rw [hrec]), ?_⟩)⟩
      have hl2 : ((az x W).putObj (w.heap.size + 1) (.loop { rec .ready none with state := .busy })).heap[w.heap.size + 1]? = some (.loop { rec .ready none with state := .busy }) := World.putObj_heap_same hlta
      have hk2 : ((az x W).putObj (w.heap.size + 1) (.loop { rec .ready none with state := .busy })).heap[w.heap.size]? = some (.deferred (some [])) := (World.putObj_heap_other (by omega)).trans hka
      have hgp := grownBy_putObj' (az x W) (w.heap.size + 1) (.loop { rec .ready none with state := .busy })
      have hiW : I pre (az x W) := hIn _ _ _ hi ⟨ha.os, ha.tape, ha.output, ha.size, fun k hk _ => ha.block k hk⟩
      refine wpIn_mono (hbody _ pre x W _ (hI _ _ _ hiW hgp) (fun k hk1 => World.putObj_heap_other hk1) hlt (by simp [World.putObj])) ?_
      rintro e a3 W3 hp
      cases e with
      | normal =>
        obtain ⟨⟨hs3, hk3⟩, hm3, hi3⟩ := hp
        have hl3 := (hk3 _ (.inr rfl)).trans hl2
        have hr := run_endRound (P := P) none hl3
        rw [hrec] at hr hl3
        have hs3' : (az x W).heap.size ≤ W3.heap.size := by simpa [World.putObj] using hs3
        refine ⟨_, _, hr, .inl ⟨rfl, ⟨hI _ _ _ hi3 (grownBy_putObj' _ _ _), ?_, (World.putObj_heap_other (by omega)).trans ((hk3 _ (.inl rfl)).trans hk2)⟩, ?_, fun r h => ?_⟩⟩
        · rw [hrec]; exact World.putObj_heap_same (Array.getElem?_eq_some_iff.1 hl3).1
        · have := ha.size; simp [World.putObj]; omega
        · have := hmine r h
          exact (World.putObj_heap_other (by omega)).trans ((hm3 r h).trans ((World.putObj_heap_other (by omega)).trans (ha.block r (by omega))))
      | exit id =>
        obtain ⟨⟨hs3, hk3⟩, hi3⟩ := hp
        have hl3 := (hk3 _ (.inr rfl)).trans hl2
        have hr := run_endRound (P := P) (some (.exit id)) hl3
        rw [hrec] at hr hl3
        refine ⟨_, _, hr, .inr ⟨rfl, id, hIx _ _ _ _ hi3 (grownBy_putObj' _ _ _), ?_, (World.putObj_heap_other (by omega)).trans ((hk3 _ (.inl rfl)).trans hk2)⟩⟩
        rw [hrec]; exact World.putObj_heap_same (Array.getElem?_eq_some_iff.1 hl3).1
      | ret => exact hp.elim
      | goto t => exact hp.elim
      | panic ch => exact hp.elim
      | outgrown => exact hp.elim
    · rintro e W2 ⟨⟨v, rfl⟩, (⟨xs, hS, hi, hl, hk⟩ | ⟨pre, hSp, id, hi, hl, hk⟩)⟩
      · have hlt := (Array.getElem?_eq_some_iff.1 hl).1
        refine ⟨none, _, by have := run_endLoop (P := P) hl (by rw [hrec]; simp); rw [hrec] at this; exact this, ?_⟩
        exact hdone xs _ hS (hI _ _ _ hi (grownBy_putObj' W2 _ _)) (by simp [World.putObj]; omega) ((World.putObj_heap_other (by omega)).trans hk)
      · have hlt := (Array.getElem?_eq_some_iff.1 hl).1
        refine ⟨some (.exit id), _, by have := run_endLoop (P := P) hl (by rw [hrec]; simp); rw [hrec] at this; exact this, ?_⟩
        exact hstop id pre _ hSp (hIx _ _ _ _ hi (grownBy_putObj' W2 _ _)) (by simp [World.putObj]; omega) ((World.putObj_heap_other (by omega)).trans hk)

/-- the same, where the loop variable q is laid anew in each round -/
theorem wpIn_rangeFunc_brk1 {α : Type} {g : Operand} {p q : Tmp} {assign body : Code} {Q : Exit → Act → World → Prop} {a : Act} {w : World}
    (hro : F.round = none) (h1 : 1 ≤ n) {gf : Nat} {lb : Array Value} (hg : a.eval g = .func (.func gf) #[] lb) (hFg : F.fn gf) (eg : ∀ args w, (callFunc gf args).run P w = .ok (.enter gf args) w)
    {enc : α → Value} {mine : Nat → Prop} {S Sp : List α → Prop} (hseq : SeqBrk F (n - 1) P gf lb (fun x => #[enc x]) mine S Sp w) (hmine : ∀ r, mine r → r < w.heap.size)
    (I : List α → World → Prop) (Ix : Nat → List α → World → Prop)
    (hI : ∀ s A B, I s A → A.grownBy B (some (w.heap.size + 1)) → I s B) (hIn : ∀ s A B, I s A → A.grownBy B none → I s B)
    (hIx : ∀ c s A B, Ix c s A → A.grownBy B (some (w.heap.size + 1)) → Ix c s B)
    (h0 : I [] w) (o : α → Obj)
    (hassign : ∀ (l : Nat) (x : α) (W : World) (K : Act → World → Prop), K { tmps := (a.tmps.setIfInBounds p (enc x)).setIfInBounds q (.pointer (some ⟨W.heap.size, 0, none⟩)), defers := [] } (W.alloc (o x)) →
      assign.wpIn (F.inRound l) (n - 1 - 1) P (Exit.then K (fun _ _ _ => False)) { tmps := a.tmps.setIfInBounds p (enc x), defers := [] } W)
    (hbody : ∀ (l : Nat) (pre : List α) (x : α) (gx : Nat) (W : World), I pre W → W.heap[gx]? = some (o x) → w.heap.size + 1 < gx → W.heap.size = gx + 1 →
      body.wpIn (F.inRound l) (n - 1 - 1) P (brkPost w.heap.size mine I Ix (pre ++ [x]) W) { tmps := (a.tmps.setIfInBounds p (enc x)).setIfInBounds q (.pointer (some ⟨gx, 0, none⟩)), defers := [] } W)
    (hdone : ∀ (xs : List α) (W : World), S xs → I xs W → w.heap.size + 1 < W.heap.size → W.heap[w.heap.size]? = some (.deferred (some [])) → Q .normal { a with defers := { target := .collected w.heap.size, args := #[] } :: a.defers } W)
    (hstop : ∀ (id : Nat) (pre : List α) (W : World), Sp pre → Ix id pre W → w.heap.size + 1 < W.heap.size → W.heap[w.heap.size]? = some (.deferred (some [])) → (Code.exit id).wpIn F n P Q { a with defers := { target := .collected w.heap.size, args := #[] } :: a.defers } W) :
    (Code.rangeFunc g #[p] assign body).wpIn F n P Q a w :=
  wpIn_rangeFunc_brk hro h1 hg hFg eg hseq hmine (fun _ => rfl) I Ix hI hIn hIx h0
    (fun x W => { tmps := (a.tmps.setIfInBounds p (enc x)).setIfInBounds q (.pointer (some ⟨W.heap.size, 0, none⟩)), defers := [] }) (fun x W => W.alloc (o x)) (fun x W => (Below.refl _ W).alloc (Nat.le_refl _) _)
    (fun l x W K hK => by have := hassign l x W K hK; simpa using this)
    (fun l pre x Wa W hi hk hs hz => hbody l pre x Wa.heap.size W hi ((hk _ (by omega)).trans (World.alloc_heap_new Wa _)) (by omega) (by rw [hz, World.size_alloc])) hdone hstop
end Frk
