/- Law 57: Admit's variables, its door, its marks and questions. -/
import Derived.Test.YtllbjakfjpjfnaaGreatDoorVxFcl
import Derived.Test.YtllbjakfjpjfnaaGreatDoorVxDin
namespace Frk
open Go Go.RowKit Go.Proofs
set_option maxRecDepth 100000

/-- Admit's variables -/
structure AdI (w : World) (g : Nat) (A : AdA) (W : World) : Prop where
  bel : Below w.heap.size w W
  c6 : W.heap[g]? = some (.cells #[.slice A.aE A.nE A.cE] 22 (0, 0))
  c7 : W.heap[g + 1]? = some (.cells #[.slice A.aO A.nO A.cO] 23 (0, 0))
  c8 : W.heap[g + 2]? = some (.cells #[.slice A.aP A.nP A.cP] 24 (0, 0))
  c9 : W.heap[g + 3]? = some (.cells A.x.C.toArray 35 (0, 0))
  c10 : W.heap[g + 4]? = some (.cells #[.int .i64 A.now] 3 (0, 0))
  c11 : W.heap[g + 5]? = some (.cells #[.int .i64 A.term] 3 (0, 0))
  c12 : W.heap[g + 6]? = some (.cells #[.slice none 0 0] 24 (0, 0))
  c13 : W.heap[g + 7]? = some (.cells #[.int .i64 0] 38 (0, 0))
theorem AdI.grown {w : World} {g : Nat} {A : AdA} {W W' : World} {row : Option Nat} (h : AdI w g A W) (hw : w.heap.size ≤ g) (hg : W.grownBy W' row) (hr : ∀ r, row = some r → g + 8 ≤ r) : AdI w g A W' := by
  have ne : ∀ i, i ≤ 7 → some (g + i) ≠ row := fun i hi e => by have := hr _ e.symm; omega
  have lt : ∀ {i : Nat} {o : Obj}, W.heap[i]? = some o → i < W.heap.size := fun h => (Array.getElem?_eq_some_iff.1 h).1
  exact ⟨h.bel.grown hg h.bel.size (fun r e => by have := hr r e; omega), (hg.block _ (lt h.c6) (ne 0 (by omega))).trans h.c6, (hg.block _ (lt h.c7) (ne 1 (by omega))).trans h.c7, (hg.block _ (lt h.c8) (ne 2 (by omega))).trans h.c8, (hg.block _ (lt h.c9) (ne 3 (by omega))).trans h.c9, (hg.block _ (lt h.c10) (ne 4 (by omega))).trans h.c10, (hg.block _ (lt h.c11) (ne 5 (by omega))).trans h.c11, (hg.block _ (lt h.c12) (ne 6 (by omega))).trans h.c12, (hg.block _ (lt h.c13) (ne 7 (by omega))).trans h.c13⟩
theorem AdI.later {w : World} {g : Nat} {A : AdA} {W W' : World} (h : AdI w g A W) (hw : w.heap.size ≤ g) (hb : Below W.heap.size W W') : AdI w g A W' :=
  h.grown hw ⟨hb.os, hb.tape, hb.output, hb.size, fun k hk _ => hb.block k hk⟩ (row := none) (fun r e => by cases e)
theorem AdI.new (w : World) (A : AdA) : AdI w w.heap.size A ((((((((w.alloc (.cells #[.slice A.aE A.nE A.cE] 22)).alloc (.cells #[.slice A.aO A.nO A.cO] 23)).alloc (.cells #[.slice A.aP A.nP A.cP] 24)).alloc (.cells A.x.C.toArray 35)).alloc (.cells #[.int .i64 A.now] 3)).alloc (.cells #[.int .i64 A.term] 3)).alloc (.cells #[.slice none 0 0] 24)).alloc (.cells #[.int .i64 0] 38)) := by
  have step : ∀ (W : World) (o : Obj) (i : Nat) (p : Obj), W.heap[i]? = some p → (W.alloc o).heap[i]? = some p := fun W o i p h => (Below.heap_alloc W o _ (Array.getElem?_eq_some_iff.1 h).1).trans h
  have new : ∀ (W : World) (o : Obj) (i : Nat), i = W.heap.size → (W.alloc o).heap[i]? = some o := fun W o i h => by rw [h]; exact World.alloc_heap_new W o
  have bel : ∀ (W : World) (o : Obj), Below w.heap.size w W → Below w.heap.size w (W.alloc o) := fun W o h => h.alloc h.size o
  refine ⟨bel _ _ (bel _ _ (bel _ _ (bel _ _ (bel _ _ (bel _ _ (bel _ _ (bel _ _ (Below.refl _ _)))))))), ?_, ?_, ?_, ?_, ?_, ?_, ?_, ?_⟩
  · exact step _ _ _ _ (step _ _ _ _ (step _ _ _ _ (step _ _ _ _ (step _ _ _ _ (step _ _ _ _ (step _ _ _ _ (new _ _ _ rfl)))))))
  · exact step _ _ _ _ (step _ _ _ _ (step _ _ _ _ (step _ _ _ _ (step _ _ _ _ (step _ _ _ _ (new _ _ _ (by simp)))))))
  · exact step _ _ _ _ (step _ _ _ _ (step _ _ _ _ (step _ _ _ _ (step _ _ _ _ (new _ _ _ (by simp))))))
  · exact step _ _ _ _ (step _ _ _ _ (step _ _ _ _ (step _ _ _ _ (new _ _ _ (by simp)))))
  · exact step _ _ _ _ (step _ _ _ _ (step _ _ _ _ (new _ _ _ (by simp))))
  · exact step _ _ _ _ (step _ _ _ _ (new _ _ _ (by simp)))
  · exact step _ _ _ _ (new _ _ _ (by simp))
  · exact new _ _ _ (by simp)
/-- what Admit answers -/
def FdPost (l : List Bytes) (x : Int) (w : World) (e : Ending) (w' : World) : Prop :=
  ∃ a n c, e = .returned (.tuple #[.slice a n c, .int .i64 x]) ∧ Seal (IsD w' a n c l ∧ (c = 0 ∨ ∃ g o, a = some ⟨g, o, none⟩)) ∧ Below w.heap.size w w'


/-! ## the door -/
theorem AdI.door {w : World} {g : Nat} {A : AdA} {W : World} (h : AdI w g A W) (hw : w.heap.size ≤ g) (a : Option Addr) (n c : Nat) (x : Int) :
    Below w.heap.size w ((W.setCell ⟨g + 6, 0, none⟩ (.slice a n c)).setCell ⟨g + 7, 0, none⟩ (.int .i64 x)) ∧ ((W.setCell ⟨g + 6, 0, none⟩ (.slice a n c)).setCell ⟨g + 7, 0, none⟩ (.int .i64 x)).cell? ⟨g + 6, 0, none⟩ = some (.slice a n c) ∧ ((W.setCell ⟨g + 6, 0, none⟩ (.slice a n c)).setCell ⟨g + 7, 0, none⟩ (.int .i64 x)).cell? ⟨g + 7, 0, none⟩ = some (.int .i64 x) := by
  have q6 : (W.setCell ⟨g + 6, 0, none⟩ (.slice a n c)).heap[g + 6]? = some (.cells #[.slice a n c] 24 (0, 0)) := by simpa using heap_setCell_row (cs := [.slice none 0 0]) (i := 0) (.slice a n c) h.c12
  have q7 : (W.setCell ⟨g + 6, 0, none⟩ (.slice a n c)).heap[g + 7]? = some (.cells #[.int .i64 0] 38 (0, 0)) := (Below.heap_setCell W ⟨g + 6, 0, none⟩ _ (g + 7) (by show g + 7 ≠ g + 6; omega)).trans h.c13
  have r6 := (Below.heap_setCell (W.setCell ⟨g + 6, 0, none⟩ (.slice a n c)) ⟨g + 7, 0, none⟩ (.int .i64 x) (g + 6) (by show g + 6 ≠ g + 7; omega)).trans q6
  have r7 : ((W.setCell ⟨g + 6, 0, none⟩ (.slice a n c)).setCell ⟨g + 7, 0, none⟩ (.int .i64 x)).heap[g + 7]? = some (.cells #[.int .i64 x] 38 (0, 0)) := by simpa using heap_setCell_row (cs := [.int .i64 0]) (i := 0) (.int .i64 x) q7
  exact ⟨(h.bel.setCell (p := ⟨g + 6, 0, none⟩) (by show _ ≤ g + 6; omega) _).setCell (p := ⟨g + 7, 0, none⟩) (by show _ ≤ g + 7; omega) _, by rw [cell_of_row _ _ _ _ _ _ r6]; rfl, by rw [cell_of_row _ _ _ _ _ _ r7]; rfl⟩
theorem isD_nilF (w : World) : IsD w none 0 0 [] := ⟨rfl, Nat.le_refl _, by decide, by decide, by simp, .inl rfl⟩
/-- a panic is caught: no list, and the error -/
theorem fdoor_panic {w : World} {g : Nat} {A : AdA} {W : World} (h : AdI w g A W) (hw : w.heap.size ≤ g) (x : Int) (tmps : Array Value) (h12 : tmps[12]? = some (.pointer (some ⟨g + 6, 0, none⟩))) (h13 : tmps[13]? = some (.pointer (some ⟨g + 7, 0, none⟩))) :
    Leaves Tryz.prog Tryz.f6 tmps (FdPost [] x w) [{ target := .fn (.func 15) #[.pointer (some ⟨g + 6, 0, none⟩), .pointer (some ⟨g + 7, 0, none⟩)], args := #[] }] (.panicking [{ v := .iface 38 (.int .i64 x), recovered := false }]) W := by
  obtain ⟨hB, k12, k13⟩ := h.door hw none 0 0 x
  have ne1 : ¬ g + 6 = g + 7 := by omega
  have ne2 : ¬ g + 7 = g + 6 := by omega
  have d12 : W.cell? ⟨g + 6, 0, none⟩ = some (.slice none 0 0) := by rw [cell_of_row _ _ _ _ _ _ h.c12]; rfl
  have d13 : W.cell? ⟨g + 7, 0, none⟩ = some (.int .i64 0) := by rw [cell_of_row _ _ _ _ _ _ h.c13]; rfl
  refine leaves_cons (f := 15) (args := #[.pointer (some ⟨g + 6, 0, none⟩), .pointer (some ⟨g + 7, 0, none⟩)]) (by simp) (by simp [go_sem]) ?_
  refine (fcatch_panicking (g + 6) (g + 7) _ _ x W d12 (frozen_of_row _ _ _ _ _ h.c12) d13 (frozen_of_row _ _ _ _ _ h.c13) ne1 ne2).mono ?_
  rintro e u' w'' ⟨rfl, rfl, rfl⟩
  obtain ⟨Z, hZ⟩ : ∃ Z, Z = (W.setCell ⟨g + 6, 0, none⟩ (.slice none 0 0)).setCell ⟨g + 7, 0, none⟩ (.int .i64 x) := ⟨_, rfl⟩
  rw [← hZ] at hB k12 k13 ⊢
  have hs : settle (.panicking [{ v := .iface 38 (.int .i64 x), recovered := true }]) = .returning := rfl
  show Leaves _ _ tmps (FdPost [] x w) [] (settle (.panicking [{ v := .iface 38 (.int .i64 x), recovered := true }])) Z
  rw [hs]
  exact ⟨.tuple #[.slice none 0 0, .int .i64 x], by simp [results, Tryz.results6, go_sem, h12, h13, k12, k13], none, 0, 0, rfl, ⟨isD_nilF _, .inl rfl⟩, hB⟩
/-- the way out without a panic -/
theorem fdoor_idle {w : World} {g : Nat} {l : List Bytes} {W : World} {a : Option Addr} {n c : Nat} {x : Int} (hB : Below w.heap.size w W) (k12 : W.cell? ⟨g + 6, 0, none⟩ = some (.slice a n c)) (k13 : W.cell? ⟨g + 7, 0, none⟩ = some (.int .i64 x)) (hD : IsD W a n c l) (ha : c = 0 ∨ ∃ g o, a = some ⟨g, o, none⟩)
    (tmps : Array Value) (h12 : tmps[12]? = some (.pointer (some ⟨g + 6, 0, none⟩))) (h13 : tmps[13]? = some (.pointer (some ⟨g + 7, 0, none⟩))) :
    Leaves Tryz.prog Tryz.f6 tmps (FdPost l x w) [{ target := .fn (.func 15) #[.pointer (some ⟨g + 6, 0, none⟩), .pointer (some ⟨g + 7, 0, none⟩)], args := #[] }] .returning W := by
  refine leaves_cons (f := 15) (args := #[.pointer (some ⟨g + 6, 0, none⟩), .pointer (some ⟨g + 7, 0, none⟩)]) (by simp) (by simp [go_sem]) ?_
  refine (fcatch_idle (g + 6) (g + 7) W).mono ?_
  rintro e u' w'' ⟨rfl, rfl, rfl⟩
  show Leaves _ _ tmps (FdPost l x w) [] (settle .returning) _
  rw [show settle .returning = .returning from rfl]
  exact ⟨.tuple #[.slice a n c, .int .i64 x], by simp [results, Tryz.results6, go_sem, h12, h13, k12, k13], a, n, c, rfl, ⟨hD, ha⟩, hB⟩

/-! ## the marks -/
theorem info_mk : (Tryz.prog.info? 61).map (fun i => (i.zero, i.size, i.bytes)) = some (some (.agg (zs 32).toArray), 32, 32) := by kernel_rfl
theorem size_mk (w : World) : (Go.sizeOf 61).run Tryz.prog w = .ok 32 w := by kernel_rfl
theorem zero_mk (w : World) : (zeroValue 61).run Tryz.prog w = .ok (.agg (zs 32).toArray) w := by kernel_rfl
theorem mk_form {W : World} {base n : Nat} {v : Value} {xs : List Value} (h : W.ownsRow base 61 32 v n xs) : ∃ a m c, v = .slice a m c := by
  rcases h.2 with ⟨rfl, _⟩ | ⟨g, c, _, rfl, _⟩
  · exact ⟨none, 0, 0, rfl⟩
  · exact ⟨_, n, c, rfl⟩
theorem dcells_take_succ {l : List Bytes} {k : Nat} {d : Bytes} (hd : l[k]? = some d) : dcells (l.take (k + 1)) = dcells (l.take k) ++ d.map B := by
  unfold dcells
  rw [List.take_add_one, hd]
  simp
/-- some of the past cases have become marks -/
structure MkI (w : World) (g : Nat) (A : AdA) (gm k : Nat) (v : Value) (W : World) : Prop where
  ad : AdI w g A W
  box : W.heap[gm]? = some (.cells #[v] 60 (0, 0))
  own : W.ownsRow (gm + 1) 61 32 v k (dcells (A.past.take k))
  lt : g + 8 ≤ gm
theorem MkI.later {w : World} {g : Nat} {A : AdA} {gm k : Nat} {v : Value} {W W' : World} (h : MkI w g A gm k v W) (hw : w.heap.size ≤ g) (hb : Below W.heap.size W W') : MkI w g A gm k v W' :=
  ⟨h.ad.later hw hb, (hb.block _ (Array.getElem?_eq_some_iff.1 h.box).1).trans h.box, ownsRow_below h.own hb, h.lt⟩
theorem MkI.cells {w : World} {g : Nat} {A : AdA} {gm k : Nat} {v : Value} {W : World} (h : MkI w g A gm k v W) : W.cell? ⟨gm, 0, none⟩ = some v ∧ W.frozen? ⟨gm, 0, none⟩ = false :=
  ⟨by rw [cell_of_row _ _ _ _ _ _ h.box]; rfl, frozen_of_row _ _ _ _ _ h.box⟩
theorem MkI.step {w : World} {g : Nat} {A : AdA} {gm k : Nat} {v v5 : Value} {V w5 : World} (h : MkI w g A gm k v V) (hw : w.heap.size ≤ g) {d : Bytes} (hd : A.past[k]? = some d)
    (hown : w5.ownsRow (gm + 1) 61 32 v5 (k + 1) (dcells (A.past.take k) ++ d.map B)) (hg : V.grownBy w5 v.ownBlock) :
    (w5.cell? ⟨gm, 0, none⟩ = some v ∧ w5.frozen? ⟨gm, 0, none⟩ = false) ∧ MkI w g A gm (k + 1) v5 (w5.setCell ⟨gm, 0, none⟩ v5) := by
  have hr : ∀ r, v.ownBlock = some r → gm + 1 ≤ r := fun r e => (h.own.lt r e).1
  have b5 : w5.heap[gm]? = some (.cells #[v] 60 (0, 0)) := (hg.block _ (Array.getElem?_eq_some_iff.1 h.box).1 (fun e => by have := hr _ e.symm; omega)).trans h.box
  have a5 : AdI w g A w5 := h.ad.grown hw hg (fun r e => by have := hr r e; have := h.lt; omega)
  have hs := grownBy_setCell' w5 gm v5
  refine ⟨⟨by rw [cell_of_row _ _ _ _ _ _ b5]; rfl, frozen_of_row _ _ _ _ _ b5⟩, a5.grown hw hs (fun r e => by have := Option.some.inj e; have := h.lt; omega), by simpa using heap_setCell_row (cs := [v]) (i := 0) v5 b5, ?_, h.lt⟩
  rw [dcells_take_succ hd]
  refine hown.kept hs ?_
  cases hb : v5.ownBlock with
  | none => exact .inl rfl
  | some b => exact .inr (fun e => by have := (hown.lt b hb).1; have := Option.some.inj e; omega)
theorem mk_isD {W : World} {base : Nat} {v : Value} {n : Nat} {l : List Bytes} (h : W.ownsRow base 61 32 v n (dcells l)) (hl : l.length = n) (he : ∀ d ∈ l, d.length = 32) (hn : n ≤ 1099511627776) : ∃ a c, v = .slice a n c ∧ IsD W a n c l := by
  rcases h.2 with ⟨rfl, rfl⟩ | ⟨g', cap, cur, rfl, hb, hg, hnc, hcm, hcs, htk⟩
  · exact ⟨none, 0, rfl, hl, Nat.le_refl _, by decide, by decide, he, .inl rfl⟩
  · unfold maxLen at hcm
    refine ⟨_, cap, rfl, hl, hnc, hn, by omega, he, .inr ⟨_, 0, rfl, ?_, (Array.getElem?_eq_some_iff.1 hg).1⟩⟩
    have := rangeAt_take (rangeAt_row (cs := cur.toList) (by simpa using hg)) (n * 32)
    rw [htk] at this
    exact this


def noP (Q : Exit → Act → World → Prop) : Exit → Act → World → Prop
  | .panic _, _, _ => False
  | e, a, w => Q e a w
theorem noP_le {Q : Exit → Act → World → Prop} : ∀ (e : Exit) (a : Act) (w : World), noP Q e a w → Q e a w := fun e a w h => by cases e <;> first | exact h | exact h.elim
theorem wp_noP {P : Program} {Q : Exit → Act → World → Prop} {c : Code} {a : Act} {w : World} (h : c.wp P (noP Q) a w) : c.wp P Q a w := wp_mono h noP_le
theorem noP_normal {Q : Exit → Act → World → Prop} {a : Act} {w : World} (h : Q .normal a w) : noP Q .normal a w := h

theorem adm_1 {l : List Ep} {off : List Int} {past : List Bytes} {c : Cas} {now term : Int} (h0 : epChk l = 0) (h : argB past now term = false) : admE l off past c now term = 1 := by unfold admE; rw [if_neg (by simp [h0]), if_pos h]
theorem adm_2 {l : List Ep} {off : List Int} {past : List Bytes} {c : Cas} {now term : Int} (h0 : epChk l = 0) (h1 : argB past now term = true) (h : formB off c = false) : admE l off past c now term = 560 := by unfold admE; rw [if_neg (by simp [h0]), if_neg (by simp [h1]), if_pos h]
theorem adm_3 {l : List Ep} {off : List Int} {past : List Bytes} {c : Cas} {now term : Int} (h0 : epChk l = 0) (h1 : argB past now term = true) (h2 : formB off c = true) (h : hasB past (caseD c) = true) : admE l off past c now term = 181 := by unfold admE; rw [if_neg (by simp [h0]), if_neg (by simp [h1]), if_neg (by simp [h2]), if_pos h]
theorem adm_4 {l : List Ep} {off : List Int} {past : List Bytes} {c : Cas} {now term : Int} (h0 : epChk l = 0) (h1 : argB past now term = true) (h2 : formB off c = true) (h3 : hasB past (caseD c) = false) (h : timeB l off c now term = false) : admE l off past c now term = 570 := by unfold admE; rw [if_neg (by simp [h0]), if_neg (by simp [h1]), if_neg (by simp [h2]), if_neg (by simp [h3]), if_pos h]
theorem adm_5 {l : List Ep} {off : List Int} {past : List Bytes} {c : Cas} {now term : Int} (h0 : epChk l = 0) (h1 : argB past now term = true) (h2 : formB off c = true) (h3 : hasB past (caseD c) = false) (h4 : timeB l off c now term = true) (h : 256 ≤ past.length) : admE l off past c now term = 2 := by unfold admE; rw [if_neg (by simp [h0]), if_neg (by simp [h1]), if_neg (by simp [h2]), if_neg (by simp [h3]), if_neg (by simp [h4]), if_pos h]
theorem adm_no {l : List Ep} {off : List Int} {past : List Bytes} {c : Cas} {now term e : Int} (h : admE l off past c now term = e) (he : e ≠ 0) : admL l off past c now term = [] := by unfold admL; rw [if_neg (by rw [h]; exact he)]
theorem adm_yes {l : List Ep} {off : List Int} {past : List Bytes} {c : Cas} {now term : Int} (h : admE l off past c now term = 0) : admL l off past c now term = putB past (caseD c) := by unfold admL; rw [if_pos h]

/-! ## the questions -/
/-- what lies when the questions are asked -/
structure StI (w : World) (g : Nat) (A : AdA) (gm gs : Nat) (am : Option Addr) (cm : Nat) (p : Int) (f : Bool) (W : World) : Prop where
  ad : AdI w g A W
  box : W.heap[gm]? = some (.cells #[.slice am A.nP cm] 60 (0, 0))
  mr : IsD W am A.nP cm A.past
  c18 : W.heap[gs]? = some (.cells #[.func (.func 17) #[] #[.pointer (some ⟨gm, 0, none⟩), .pointer (some ⟨g + 2, 0, none⟩)]] 36 (0, 0))
  c19 : W.heap[gs + 1]? = some (.cells #[.int .i64 p] 3 (0, 0))
  c20 : W.heap[gs + 2]? = some (.cells #[.bool f] 4 (0, 0))
  tab : W.rangeAt (gs + 3) 0 [.func (.func 19) #[] #[.pointer (some ⟨g + 4, 0, none⟩), .pointer (some ⟨g + 5, 0, none⟩), .pointer (some ⟨gs, 0, none⟩)], .int .i64 1, .func (.func 21) #[] #[.pointer (some ⟨g + 1, 0, none⟩), .pointer (some ⟨g + 3, 0, none⟩)], .int .i64 560, .func (.func 23) #[] #[.pointer (some ⟨gm, 0, none⟩), .pointer (some ⟨g + 3, 0, none⟩), .pointer (some ⟨gs + 1, 0, none⟩), .pointer (some ⟨gs + 2, 0, none⟩)], .int .i64 181, .func (.func 25) #[] #[.pointer (some ⟨g, 0, none⟩), .pointer (some ⟨g + 1, 0, none⟩), .pointer (some ⟨g + 3, 0, none⟩), .pointer (some ⟨g + 4, 0, none⟩), .pointer (some ⟨g + 5, 0, none⟩)], .int .i64 570, .func (.func 27) #[] #[.pointer (some ⟨g + 2, 0, none⟩)], .int .i64 2]
  lt : g + 8 ≤ gm ∧ gm < gs
  ml : ∀ b o, am = some ⟨b, o, none⟩ → b < gs
theorem StI.later {w : World} {g : Nat} {A : AdA} {gm gs : Nat} {am : Option Addr} {cm : Nat} {p : Int} {f : Bool} {W W' : World} (h : StI w g A gm gs am cm p f W) (hw : w.heap.size ≤ g) (hb : Below W.heap.size W W') : StI w g A gm gs am cm p f W' := by
  have k : ∀ {i : Nat} {o : Obj}, W.heap[i]? = some o → W'.heap[i]? = some o := fun h => (hb.block _ (Array.getElem?_eq_some_iff.1 h).1).trans h
  exact ⟨h.ad.later hw hb, k h.box, h.mr.of_heap hb, k h.c18, k h.c19, k h.c20, rangeAt_below' h.tab hb, h.lt, h.ml⟩
theorem StI.found {w : World} {g : Nat} {A : AdA} {gm gs : Nat} {am : Option Addr} {cm : Nat} {p : Int} {f : Bool} {W : World} (h : StI w g A gm gs am cm p f W) (hw : w.heap.size ≤ g) (p' : Int) (f' : Bool) : StI w g A gm gs am cm p' f' ((W.setCell ⟨gs + 1, 0, none⟩ (.int .i64 p')).setCell ⟨gs + 2, 0, none⟩ (.bool f')) := by
  obtain ⟨l1, l2⟩ := h.lt
  obtain ⟨Z, hZ⟩ : ∃ Z, Z = W.setCell ⟨gs + 1, 0, none⟩ (.int .i64 p') := ⟨_, rfl⟩
  obtain ⟨Y, hY⟩ : ∃ Y, Y = Z.setCell ⟨gs + 2, 0, none⟩ (.bool f') := ⟨_, rfl⟩
  have hoZ : ∀ k, k ≠ gs + 1 → Z.heap[k]? = W.heap[k]? := fun k hk => by rw [hZ]; exact Below.heap_setCell _ ⟨gs + 1, 0, none⟩ _ k hk
  have hoY : ∀ k, k ≠ gs + 2 → Y.heap[k]? = Z.heap[k]? := fun k hk => by rw [hY]; exact Below.heap_setCell _ ⟨gs + 2, 0, none⟩ _ k hk
  have ho : ∀ k, k ≠ gs + 1 → k ≠ gs + 2 → Y.heap[k]? = W.heap[k]? := fun k h1 h2 => (hoY k h2).trans (hoZ k h1)
  have z19 : Z.heap[gs + 1]? = some (.cells #[.int .i64 p'] 3 (0, 0)) := by rw [hZ]; simpa using heap_setCell_row (cs := [.int .i64 p]) (i := 0) (.int .i64 p') h.c19
  have y20 : Y.heap[gs + 2]? = some (.cells #[.bool f'] 4 (0, 0)) := by rw [hY]; simpa using heap_setCell_row (cs := [.bool f]) (i := 0) (.bool f') ((hoZ _ (by omega)).trans h.c20)
  have hsz : W.heap.size ≤ Y.heap.size := by rw [hY, hZ]; simp
  rw [← hZ, ← hY]
  refine ⟨?_, (ho _ (by omega) (by omega)).trans h.box, ?_, (ho _ (by omega) (by omega)).trans h.c18, (hoY _ (by omega)).trans z19, y20, fun j u hu => (World.cell?_of_block (w := W) (ho _ (by show gs + 3 ≠ _; omega) (by show gs + 3 ≠ _; omega))).trans (h.tab j u hu), h.lt, h.ml⟩
  · have a1 := h.ad.grown hw (grownBy_setCell' W (gs + 1) (.int .i64 p')) (fun r e => by have := Option.some.inj e; omega)
    have a2 := a1.grown hw (grownBy_setCell' (W.setCell ⟨gs + 1, 0, none⟩ (.int .i64 p')) (gs + 2) (.bool f')) (fun r e => by have := Option.some.inj e; omega)
    rw [hY, hZ]
    exact a2
  · refine ⟨h.mr.llen, h.mr.lcap, h.mr.lmax, h.mr.cmax, h.mr.each, ?_⟩
    rcases h.mr.at_ with h0 | ⟨b, o, e, hr, hb⟩
    · exact .inl h0
    · have := h.ml b o e
      exact .inr ⟨b, o, e, fun j u hu => (World.cell?_of_block (w := W) (ho b (by omega) (by omega))).trans (hr j u hu), by omega⟩
/-- what has been answered -/
def Asked (A : AdA) (k : Nat) (p : Int) : Prop := (1 ≤ k → argB A.past A.now A.term = true) ∧ (2 ≤ k → formB A.off A.x.c = true) ∧ (3 ≤ k → hasB A.past (caseD A.x.c) = false ∧ p = atB A.past (caseD A.x.c)) ∧ (4 ≤ k → timeB A.l A.off A.x.c A.now A.term = true) ∧ (5 ≤ k → A.nP < 256)
theorem size_dgF (w : World) : (Go.sizeOf 42).run Tryz.prog w = .ok 32 w := by kernel_rfl
theorem zero_dgF (w : World) : (zeroValue 42).run Tryz.prog w = .ok (.agg (zs 32).toArray) w := by kernel_rfl
theorem exec_bslice_dg {ρ : Operand → Value} {op : Oper} {x : Operand} (ho : op.op = .buildSlice 24 1 #[(0, x)]) (C : List Value) (hC : C.length = 32) (hx : ρ x = .agg C.toArray) (w : World) :
    (execOp ρ op).run Tryz.prog w = .ok (.value (.slice (some ⟨w.heap.size, 0, none⟩) 1 1)) (w.alloc (.cells C.toArray 42)) := by
  have h := exec_bslice (ρ := ρ) ho [C] Tryz.underlying24 w (size_dgF w) (zero_dgF w) rfl rfl (by intro D hD; rw [List.mem_singleton.1 hD]; exact hC) (by decide) (by decide) (by show [((0 : Nat), ρ x)] = _; rw [hx]; rfl)
  rwa [show [C].flatten = C from by simp] at h
theorem dg_isD {W : World} {base g c : Nat} {n : Nat} {l : List Bytes} (h : OwnD W base (.slice (some ⟨g, 0, none⟩) n c) n l) (hl : l.length = n) (he : ∀ d ∈ l, d.length = 32) (hn : n ≤ 1099511627776) : IsD W (some ⟨g, 0, none⟩) n c l ∧ base ≤ g := by
  rcases h.2 with ⟨e, _⟩ | ⟨g', cap, cur, e, hb, hg, hnc, hcm, hcs, htk⟩
  · cases e
  · cases e
    unfold maxLen at hcm
    refine ⟨⟨hl, hnc, hn, by omega, he, .inr ⟨_, 0, rfl, ?_, (Array.getElem?_eq_some_iff.1 hg).1⟩⟩, hb⟩
    have := rangeAt_take (rangeAt_row (cs := cur.toList) (by simpa using hg)) (n * 32)
    rw [htk] at this
    exact this

end Frk
