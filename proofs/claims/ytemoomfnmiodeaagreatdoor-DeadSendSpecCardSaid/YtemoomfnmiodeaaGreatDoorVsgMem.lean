/- Parts of the proof, joined. -/
import Derived.Test.YtemoomfnmiodeaaGreatDoorVsgGen
import Derived.Test.YtemoomfnmiodeaaGreatDoorVsgHaa
import Derived.BigQuiet
import Derived.WalkSpells
import Derived.Test.YtemoomfnmiodeaaGreatDoorVsgRng
/- Hand-overs: between, formed, slotOf. -/
namespace Frk
open Go Go.RowKit Go.Proofs
set_option maxRecDepth 100000

/-- a hand-over -/
structure Hd where
  (L A R leg fr to mn : Int)
  T : Bytes
  (tm E S : Int)

/-- its cells -/
def Hd.C (h : Hd) : List Value := ([.int .i64 h.L, .int .i64 h.A, .int .i64 h.R, .int .i64 h.leg, .int .i64 h.fr, .int .i64 h.to, .int .i64 h.mn] ++ h.T.map B) ++ [.int .i64 h.tm, .int .i64 h.E, .int .i64 h.S]
structure Hd.ok (h : Hd) : Prop where
  t32 : h.T.length = 32
  iL : I64 h.L
  iA : I64 h.A
  iR : I64 h.R
  ileg : I64 h.leg
  ifr : I64 h.fr
  ito : I64 h.to
  imn : I64 h.mn
  itm : I64 h.tm

theorem Hd.C_len {h : Hd} (k : h.T.length = 32) : h.C.length = 42 := by simp [Hd.C, k]
theorem Hd.C_one (h : Hd) : ∀ u ∈ h.C, u.oneCell' = true := by
  intro u hu
  unfold Hd.C at hu
  simp only [List.mem_append, List.mem_cons, List.not_mem_nil, or_false, List.mem_map] at hu
  rcases hu with ((rfl | rfl | rfl | rfl | rfl | rfl | rfl) | ⟨b, _, rfl⟩) | (rfl | rfl | rfl) <;> rfl
/-- the cells of a hand-over that lies in a block -/
structure HdAt (w : World) (g : Nat) (h : Hd) : Prop where
  c0 : w.cell? ⟨g, 0, none⟩ = some (.int .i64 h.L)
  c1 : w.cell? ⟨g, 1, none⟩ = some (.int .i64 h.A)
  c2 : w.cell? ⟨g, 2, none⟩ = some (.int .i64 h.R)
  c3 : w.cell? ⟨g, 3, none⟩ = some (.int .i64 h.leg)
  c4 : w.cell? ⟨g, 4, none⟩ = some (.int .i64 h.fr)
  c5 : w.cell? ⟨g, 5, none⟩ = some (.int .i64 h.to)
  c6 : w.cell? ⟨g, 6, none⟩ = some (.int .i64 h.mn)
  c39 : w.cell? ⟨g, 39, none⟩ = some (.int .i64 h.tm)
  c40 : w.cell? ⟨g, 40, none⟩ = some (.int .i64 h.E)
  c41 : w.cell? ⟨g, 41, none⟩ = some (.int .i64 h.S)
  txt : w.rangeAt g 7 (h.T.map B)
def btB (x lo hi : Int) : Bool := decide (lo ≤ x) && decide (x ≤ hi)
/-- is a hand-over in form? -/
def Hd.fm (h : Hd) : Bool := ((btB h.A 0 2097151 && btB h.R 0 2097151 && btB h.tm 0 2097151) && (btB h.fr 0 23 && btB h.to (-1) 23 && (h.fr != h.to))) && (btB h.L 0 63 && btB h.leg 0 8 && btB h.mn 0 64)

theorem eqEnd_s {P : Program} (d : Nat) (xs ys : Array Value) (w : World) : (Op.eqFields d xs ys []).run P w = .ok true w := by rw [Op.eqFields]; rfl

/-- are two hand-overs equal? -/
def hdB (a b : Hd) : Bool := (a.L == b.L && (a.A == b.A && a.R == b.R)) && (a.leg == b.leg && (a.fr == b.fr && (a.to == b.to && (a.mn == b.mn && (a.T == b.T && (a.tm == b.tm && (a.E == b.E && a.S == b.S)))))))

/-- what Ints returns: a list that bears these leaves -/
def IntsPost (xs : List Lf) (k : Nat) (w : World) (e : Ending) (w' : World) : Prop :=
  ∃ g c, e = .returned (.agg #[.int .i64 3, .int .i64 0, .string ByteArray.empty, .slice (some ⟨g, 0, none⟩) k c]) ∧ Seal (k ≤ c ∧ g < w'.heap.size ∧ LeavesAt w' g 0 xs ∧ w'.ownsRow w.heap.size 111 4 (.slice (some ⟨g, 0, none⟩) k c) k (xs.flatMap Lf.cells)) ∧ Below w.heap.size w w'

/-- the text of a hand-over -/
def Hd.lf (h : Hd) : List Lf := [.i h.L, .i h.A, .i h.R, .i h.leg, .i h.fr, .i h.to, .i h.mn, .t h.T, .i h.tm]
def Hd.tx (h : Hd) : Bytes := encL h.lf
def Hd.ha (h : Hd) : List HA := [.r h.L h.A h.R, .i h.leg, .i h.fr, .i h.to, .i h.mn, .t h.T, .i h.tm]
/-- is a hand-over signed? -/
def chB (key : Int) (h : Hd) : Bool := h.fm && vrB key h.tx h.E h.S
def Hd.sg (h : Hd) (E S : Int) : Hd := { h with E := E, S := S }
def hz : Hd := ⟨0, 0, 0, 0, 0, 0, 0, zb32, 0, 0, 0⟩
/-- what Make returns -/
def mkF (x : Int) (h : Hd) : Hd × Int := if btB x 1 1073741788 = true then (if h.fm = true then (h.sg (sgE x h.tx) (sgS x h.tx), 0) else (hz, 480)) else (hz, 110)

/-! ## the reference -/
/-- the same slot -/
def slB (a b : Hd) : Bool := (a.L == b.L && (a.A == b.A && a.R == b.R)) && (a.leg == b.leg && a.fr == b.fr)
/-- do hand-overs contradict each other? -/
def clB (a b : Hd) : Bool := a.fm && (b.fm && (slB a b && !(hdB (a.sg 0 0) (b.sg 0 0))))

end Frk

/- A range over a function whose iterator yields what it has made itself: the law for the caller. -/
namespace Frk
open Go Go.RowKit

/-- what an iterator promises that is never stopped: what it yields (G: the data of x, in blocks that it has made since the last round ended) it finds again behind the round; the blocks of mine are those that it reads -/
def SeqMem {α : Type} (F : Fence) (n : Nat) (P : Program) (g : Nat) (lb : Array Value) (encs : α → Array Value) (G : Nat → List α → α → World → Prop) (mine : Nat → Prop) (S : List α → Prop) (N : Nat) (w : World) : Prop :=
  ∀ (l : Nat) (J : List α → World → Prop) (W : World), Below w.heap.size w W →
    (∀ pre x W0 W1, J pre W0 → Below W0.heap.size W0 W1 → W.heap.size ≤ W0.heap.size → G W0.heap.size pre x W1 → pre.length < N → YieldAt F (n - 1) P l (encs x) W1 fun e W' =>
      e = .returned (.bool true) ∧ J (pre ++ [x]) W' ∧ G W0.heap.size pre x W' ∧ W1.heap.size ≤ W'.heap.size ∧ ∀ r, mine r → W'.heap[r]? = W1.heap[r]?) →
    J [] W →
    CallsIn F n P g (#[.func (.yield l) #[] #[]] ++ lb) W fun e W' => (∃ v, e = .returned v) ∧ ∃ xs W0, S xs ∧ J xs W0 ∧ Below W0.heap.size W0 W' ∧ W.heap.size ≤ W0.heap.size

/-- how a round's body is left -/
def memPost {α : Type} (mine : Nat → Prop) (I : List α → World → Prop) (G : World → Prop) (xs : List α) (W : World) : Exit → Act → World → Prop
  | .normal, _, W' => KeepsOthers W W' ∧ (∀ r, mine r → W'.heap[r]? = W.heap[r]?) ∧ G W' ∧ I xs W'
  | _, _, _ => False

variable {F : Fence} {n : Nat} {P : Program}

theorem wpIn_rangeFunc_mem {α : Type} {g : Operand} {ps : Array Tmp} {assign body : Code} {Q : Exit → Act → World → Prop} {a : Act} {w : World}
    (hro : F.round = none) (h1 : 1 ≤ n) {gf : Nat} {lb : Array Value} (hg : a.eval g = .func (.func gf) #[] lb) (hFg : F.fn gf) (eg : ∀ args w, (callFunc gf args).run P w = .ok (.enter gf args) w)
    {encs : α → Array Value} {G : Nat → List α → α → World → Prop} {mine : Nat → Prop} {S : List α → Prop} {N : Nat} (hseq : SeqMem F (n - 1) P gf lb encs G mine S N w) (hmine : ∀ r, mine r → r < w.heap.size) (hps : ∀ x, (encs x).size = ps.size)
    (hG : ∀ sz pre x A B, w.heap.size + 1 < sz → G sz pre x A → A.grownBy B (some (w.heap.size + 1)) → (∃ o : Obj, A.heap[w.heap.size + 1]? = some o ∧ o.isCells = false) → G sz pre x B)
    (I : List α → World → Prop)
    (hI : ∀ s A B, I s A → A.grownBy B (some (w.heap.size + 1)) → (∃ o : Obj, A.heap[w.heap.size + 1]? = some o ∧ o.isCells = false) → I s B)
    (hIn : ∀ s A B, I s A → A.grownBy B none → I s B)
    (h0 : I [] w) (a₁ : α → Act)
    (hassign : ∀ (l : Nat) (x : α) (W : World) (K : Act → World → Prop), K (a₁ x) W →
      assign.wpIn (F.inRound l) (n - 1 - 1) P (Exit.then K (fun _ _ _ => False)) { tmps := (ps.zip (encs x)).foldl (fun t (p, v) => t.setIfInBounds p v) a.tmps, defers := [] } W)
    (hbody : ∀ (l : Nat) (pre : List α) (x : α) (W0 W : World), I pre W0 → I pre W → w.heap.size + 1 < W0.heap.size → W0.heap.size ≤ W.heap.size →
      G W0.heap.size pre x W → pre.length < N → body.wpIn (F.inRound l) (n - 1 - 1) P (memPost mine I (G W0.heap.size pre x) (pre ++ [x]) W) (a₁ x) W)
    (hdone : ∀ (xs : List α) (W : World), S xs → I xs W → w.heap.size + 1 < W.heap.size → W.heap[w.heap.size]? = some (.deferred (some [])) → Q .normal { a with defers := { target := .collected w.heap.size, args := #[] } :: a.defers } W) :
    (Code.rangeFunc g ps assign body).wpIn F n P Q a w := by
  refine wpIn_rangeFunc ?_
  intro fn hfn
  rw [hro]
  obtain ⟨rec, hrec⟩ : ∃ rec : LoopState → Option Code → Loop, rec = fun st pe => { state := st, pending := pe, fn, tmps := a.tmps, params := ps, assign, body, defers := w.heap.size } := ⟨_, rfl⟩
  obtain ⟨W1, hW1⟩ : ∃ W1, (w.alloc (.deferred (some []))).alloc (.loop (rec .ready none)) = W1 := ⟨_, rfl⟩
  have hL1 : W1.heap[w.heap.size + 1]? = some (.loop (rec .ready none)) := by
    rw [← hW1]; have := World.alloc_heap_new (w.alloc (.deferred (some []))) (.loop (rec .ready none)); rwa [World.size_alloc] at this
  have hK1 : W1.heap[w.heap.size]? = some (.deferred (some [])) := by
    rw [← hW1]; exact (Below.heap_alloc _ _ _ (by simp)).trans (World.alloc_heap_new w _)
  have hI1 : I [] W1 := by rw [← hW1]; exact hIn _ _ _ (hIn _ _ _ h0 (World.grownBy_alloc w _ none)) (World.grownBy_alloc _ _ none)
  have hb1 : Below w.heap.size w W1 := by
    rw [← hW1]; exact ((Below.refl _ w).alloc (Nat.le_refl _) _).alloc (by simp) _
  have hz1 : W1.heap.size = w.heap.size + 2 := by rw [← hW1]; simp
  refine ⟨w.heap.size + 1, [{ target := .collected w.heap.size, args := #[] }], W1, { target := .fn (.func gf) lb, args := #[.func (.yield (w.heap.size + 1)) #[] #[]] }, W1, gf,
    #[.func (.yield (w.heap.size + 1)) #[] #[]] ++ lb, W1, ?_, ?_, ?_, ?_, fun _ => h1, ?_⟩
  · rw [← hW1, hrec]; exact run_enterLoop_outer _ _ _ _ _
  · simp only [resolve, hg]
    simp [go_sem]
  · intro f' hf'; simp [Target.leads] at hf'; subst hf'; exact hFg
  · simp [invoke, go_sem, eg]
  · refine (hseq (w.heap.size + 1)
      (fun pre W => I pre W ∧ W.heap[w.heap.size + 1]? = some (.loop (rec .ready none)) ∧ W.heap[w.heap.size]? = some (.deferred (some [])))
      W1 hb1 ?_ ⟨hI1, hL1, hK1⟩).mono ?_
    · rintro pre x W0 W ⟨hi, hl0, hk0⟩ hb hsz hg2 hlen
      have hl : W.heap[w.heap.size + 1]? = some (.loop (rec .ready none)) := (hb.block _ (Array.getElem?_eq_some_iff.1 hl0).1).trans hl0
      have hk : W.heap[w.heap.size]? = some (.deferred (some [])) := (hb.block _ (Array.getElem?_eq_some_iff.1 hk0).1).trans hk0
      have hlt : w.heap.size + 1 < W.heap.size := (Array.getElem?_eq_some_iff.1 hl).1
      have hlt0 : w.heap.size + 1 < W0.heap.size := (Array.getElem?_eq_some_iff.1 hl0).1
      have hy := run_yield (P := P) (args := encs x) hl (by rw [hrec]; exact hps x)
      rw [hrec] at hy
      refine ⟨fn, _, assign, body, hy, roundIn_of_wpIn hfn (hassign _ x W _ ⟨_, run_beginRound hl (by rw [hrec]), ?_⟩)⟩
      have hl2 : (W.putObj (w.heap.size + 1) (.loop { rec .ready none with state := .busy })).heap[w.heap.size + 1]? = some (.loop { rec .ready none with state := .busy }) := World.putObj_heap_same hlt
      have hk2 : (W.putObj (w.heap.size + 1) (.loop { rec .ready none with state := .busy })).heap[w.heap.size]? = some (.deferred (some [])) := (World.putObj_heap_other (by omega)).trans hk
      have hgp := grownBy_putObj' W (w.heap.size + 1) (.loop { rec .ready none with state := .busy })
      refine wpIn_mono (hbody _ pre x W0 _ hi (hI _ _ _ (hIn _ _ _ hi ⟨hb.os, hb.tape, hb.output, hb.size, fun k hk _ => hb.block k hk⟩) hgp ⟨_, hl, rfl⟩) hlt0 (by simpa [World.putObj] using hb.size) (hG _ _ _ _ _ hlt0 hg2 hgp ⟨_, hl, rfl⟩) hlen) ?_
      rintro e a3 W3 hp
      cases e with
      | normal =>
        obtain ⟨hk3, hm3, hg3, hi3⟩ := hp
        have hl3 := hk3.same _ _ hl2 rfl
        have hr := run_endRound (P := P) none hl3
        rw [hrec] at hr hl3
        have hs3 := hk3.size
        refine ⟨_, _, hr, rfl, ⟨hI _ _ _ hi3 (grownBy_putObj' _ _ _) ⟨_, hl3, rfl⟩, ?_, (World.putObj_heap_other (by omega)).trans (hk3.same _ _ hk2 rfl)⟩, hG _ _ _ _ _ hlt0 hg3 (grownBy_putObj' _ _ _) ⟨_, hl3, rfl⟩, ?_, fun r h => ?_⟩
        · rw [hrec]; exact World.putObj_heap_same (Array.getElem?_eq_some_iff.1 hl3).1
        · simpa [World.putObj] using hs3
        · have := hmine r h
          exact (World.putObj_heap_other (by omega)).trans ((hm3 r h).trans (World.putObj_heap_other (by omega)))
      | ret => exact hp.elim
      | exit id => exact hp.elim
      | goto t => exact hp.elim
      | panic ch => exact hp.elim
      | outgrown => exact hp.elim
    · rintro e W2 ⟨⟨v, rfl⟩, xs, W0, hS, ⟨hi, hl0, hk0⟩, hb, hsz⟩
      have hl : W2.heap[w.heap.size + 1]? = some (.loop (rec .ready none)) := (hb.block _ (Array.getElem?_eq_some_iff.1 hl0).1).trans hl0
      have hk : W2.heap[w.heap.size]? = some (.deferred (some [])) := (hb.block _ (Array.getElem?_eq_some_iff.1 hk0).1).trans hk0
      have hlt0 : w.heap.size + 1 < W0.heap.size := (Array.getElem?_eq_some_iff.1 hl0).1
      refine ⟨none, _, by have := run_endLoop (P := P) hl (by rw [hrec]; simp); rw [hrec] at this; exact this, ?_⟩
      exact hdone xs _ hS (hI _ _ _ (hIn _ _ _ hi ⟨hb.os, hb.tape, hb.output, hb.size, fun k hk _ => hb.block k hk⟩) (grownBy_putObj' W2 _ _) ⟨_, hl, rfl⟩) (by have := hb.size; simp [World.putObj]; omega) ((World.putObj_heap_other (by omega)).trans hk)
end Frk

