/- Law 57: Admit's closures. -/
import Derived.Test.YtllbjakfjpjfnaaGreatDoorVxgFct
import Derived.Test.YtllbjakfjpjfnaaGreatDoorVxFti
import Derived.Test.YtllbjakfjpjfnaaGreatDoorVxFmk
namespace Frk
open Go Go.RowKit Go.Proofs
set_option maxRecDepth 100000

/-- what Admit is called with -/
structure AdA where
  aE : Option Addr
  nE : Nat
  cE : Nat
  l : List Ep
  aO : Option Addr
  nO : Nat
  cO : Nat
  off : List Int
  aP : Option Addr
  nP : Nat
  cP : Nat
  past : List Bytes
  x : CaX
  now : Int
  term : Int
structure AdA.at (A : AdA) (W : World) : Prop where
  G : Glob W
  E : IsE W A.aE A.nE A.cE A.l
  O : IsIs W A.aO A.nO A.cO A.off
  P : IsD W A.aP A.nP A.cP A.past
  F : IsL W A.x.aF A.x.nF A.x.cF A.x.c.F
  K : IsIs W A.x.aK A.x.nK A.x.cK A.x.c.K
  F100 : A.x.nF ≤ 100
  P4 : A.nP ≤ 4000
  ok : A.x.ok
theorem AdA.at.below {A : AdA} {W W' : World} (h : A.at W) (hb : Below W.heap.size W W') : A.at W' :=
  ⟨h.G.below hb, h.E.below hb, h.O.below hb, h.P.of_heap hb, h.F.of_heap hb, h.K.below hb, h.F100, h.P4, h.ok⟩

theorem fc3_any (g10 g11 g18 gm gp : Nat) (a b : Option Addr) (n c np cp : Nat) (l : List Bytes) (now term : Int) (w : World)
    (c10 : w.cell? ⟨g10, 0, none⟩ = some (.int .i64 now)) (c11 : w.cell? ⟨g11, 0, none⟩ = some (.int .i64 term)) (c18 : w.cell? ⟨g18, 0, none⟩ = some (.func (.func 17) #[] #[.pointer (some ⟨gm, 0, none⟩), .pointer (some ⟨gp, 0, none⟩)]))
    (h0 : w.cell? ⟨gm, 0, none⟩ = some (.slice a n c)) (hd : IsD w a n c l) (h1 : w.cell? ⟨gp, 0, none⟩ = some (.slice b np cp)) (hn : n ≤ 5000) (hnp : l.length = np) :
    Calls Tryz.prog 19 #[.pointer (some ⟨g10, 0, none⟩), .pointer (some ⟨g11, 0, none⟩), .pointer (some ⟨g18, 0, none⟩)] w fun e w' => e = .returned (.bool (argB l now term)) ∧ Below w.heap.size w w' := by
  obtain ⟨b1, hb1⟩ : ∃ b, b = betw now 2097152 := ⟨_, rfl⟩
  obtain ⟨b2, hb2⟩ : ∃ b, b = betw term 2097152 := ⟨_, rfl⟩
  obtain ⟨b3, hb3⟩ : ∃ b, b = (usedB l && decide (np ≤ 256)) := ⟨_, rfl⟩
  have C1 : Seal (Calls Tryz.prog 20 #[.int .i64 now, .int .i64 2097152] w fun e w' => e = .returned (.bool b1) ∧ w = w') := ⟨by rw [hb1]; exact fbetween_any now _ w⟩
  have C2 : Seal (Calls Tryz.prog 20 #[.int .i64 term, .int .i64 2097152] w fun e w' => e = .returned (.bool b2) ∧ w = w') := ⟨by rw [hb2]; exact fbetween_any term _ w⟩
  have C3 : Seal (Calls Tryz.prog 17 #[.pointer (some ⟨gm, 0, none⟩), .pointer (some ⟨gp, 0, none⟩)] w fun e w' => e = .returned (.bool b3) ∧ Below w.heap.size w w') := ⟨by rw [hb3]; exact frising_any gm gp a b n c np cp l w h0 hd h1 hn⟩
  have HR : Seal (argB l now term = (b1 && (b2 && b3))) := ⟨by unfold argB; rw [hb1, hb2, hb3, hnp]⟩
  obtain ⟨R, hR⟩ : ∃ R, R = argB l now term := ⟨_, rfl⟩
  rw [← hR] at HR ⊢
  have HB : Seal (Below w.heap.size w w) := ⟨Below.refl _ _⟩
  clear hb1 hb2 hb3 hd h0 h1 hR
  go_enter Tryz.func19, Tryz.ntmps19
  go_wp2_with fail
  refine C1.out.mono ?_
  rintro e w1 ⟨rfl, rfl⟩
  clear C1
  cases b1 with
  | false =>
    go_wp2
    go_ret
    exact ⟨by rw [HR.out]; rfl, HB.out⟩
  | true =>
    go_wp2_with fail
    refine C2.out.mono ?_
    rintro e w1 ⟨rfl, rfl⟩
    clear C2
    cases b2 with
    | false =>
      go_wp2
      go_ret
      exact ⟨by rw [HR.out]; rfl, HB.out⟩
    | true =>
      go_wp2_with fail
      refine C3.out.mono ?_
      rintro e w1 ⟨rfl, hb⟩
      have HB1 := Seal.mk hb
      clear hb C3 c10 c11 c18
      cases b3 with
      | false =>
        go_wp2
        go_ret
        exact ⟨by rw [HR.out]; rfl, HB1.out⟩
      | true =>
        go_wp2
        go_ret
        exact ⟨by rw [HR.out]; rfl, HB1.out⟩

theorem fc4_any (g7 g9 : Nat) (A : AdA) (w : World) (hA : A.at w) (c7 : w.cell? ⟨g7, 0, none⟩ = some (.slice A.aO A.nO A.cO)) (c9 : w.rangeAt g9 0 A.x.C) :
    Calls Tryz.prog 21 #[.pointer (some ⟨g7, 0, none⟩), .pointer (some ⟨g9, 0, none⟩)] w fun e w' => e = .returned (.bool (formB A.off A.x.c)) ∧ Below w.heap.size w w' := by
  have HC := Seal.mk (fformed_any A.aO A.nO A.cO A.off A.x w hA.O hA.K hA.F.llen.symm)
  obtain ⟨C, hC⟩ : ∃ C, C = A.x.C := ⟨_, rfl⟩
  have iC : (Tryz.prog.info? 35).map (·.size) = some C.length := by rw [hC]; exact CaX.info _
  have uC := Tryz.underlying35
  rw [← hC] at HC c9
  clear hA hC
  go_enter Tryz.func21, Tryz.ntmps21
  go_wp2_with (refine wpList_load_mid_g (by kernel_rfl) 35 (.tmp 1) rfl g9 0 rfl C _ c9 uC rfl iC ?_; (try simp only [Act.put, List.setIfInBounds_toArray, List.set_cons_zero, List.set_cons_succ]))
  refine HC.out.mono ?_
  rintro e w1 ⟨rfl, hb⟩
  have HB := Seal.mk hb
  clear hb HC c9 c7 iC
  go_wp2
  go_ret
  exact ⟨rfl, HB.out⟩

theorem fc6_any (g6 g7 g9 g10 g11 : Nat) (A : AdA) (w : World) (hA : A.at w) (c6 : w.cell? ⟨g6, 0, none⟩ = some (.slice A.aE A.nE A.cE)) (c7 : w.cell? ⟨g7, 0, none⟩ = some (.slice A.aO A.nO A.cO)) (c9 : w.rangeAt g9 0 A.x.C)
    (c10 : w.cell? ⟨g10, 0, none⟩ = some (.int .i64 A.now)) (c11 : w.cell? ⟨g11, 0, none⟩ = some (.int .i64 A.term)) (hf : formB A.off A.x.c = true) (hg : argB A.past A.now A.term = true) :
    Calls Tryz.prog 25 #[.pointer (some ⟨g6, 0, none⟩), .pointer (some ⟨g7, 0, none⟩), .pointer (some ⟨g9, 0, none⟩), .pointer (some ⟨g10, 0, none⟩), .pointer (some ⟨g11, 0, none⟩)] w fun e w' => e = .returned (.bool (timeB A.l A.off A.x.c A.now A.term)) ∧ Below w.heap.size w w' := by
  obtain ⟨⟨f1, f2, f3⟩, _, ⟨_, _, f6⟩, _⟩ := formB_iff.1 hf
  have hnow : 0 ≤ A.now ∧ A.now < 2097152 := by
    unfold argB at hg
    simp only [Bool.and_eq_true] at hg
    exact betw_iff.1 hg.1
  have HC := Seal.mk (ftimely_any A.aE A.aO A.nE A.cE A.nO A.cO A.l A.off A.x A.now A.term w hA.E hA.O hA.K f3 (betw_iff.1 f6) hnow)
  obtain ⟨C, hC⟩ : ∃ C, C = A.x.C := ⟨_, rfl⟩
  have iC : (Tryz.prog.info? 35).map (·.size) = some C.length := by rw [hC]; exact CaX.info _
  have uC := Tryz.underlying35
  rw [← hC] at HC c9
  clear hA hC hf hg f1 f2 f3 f6 hnow
  go_enter Tryz.func25, Tryz.ntmps25
  go_wp2_with (refine wpList_load_mid_g (by kernel_rfl) 35 (.tmp 2) rfl g9 0 rfl C _ c9 uC rfl iC ?_; (try simp only [Act.put, List.setIfInBounds_toArray, List.set_cons_zero, List.set_cons_succ]))
  refine HC.out.mono ?_
  rintro e w1 ⟨rfl, hb⟩
  have HB := Seal.mk hb
  clear hb HC c9 c7 c6 c10 c11 iC
  go_wp2
  go_ret
  exact ⟨rfl, HB.out⟩

theorem fc7_any (g8 : Nat) (a : Option Addr) (n c : Nat) (w : World) (c8 : w.cell? ⟨g8, 0, none⟩ = some (.slice a n c)) :
    Calls Tryz.prog 27 #[.pointer (some ⟨g8, 0, none⟩)] w fun e w' => e = .returned (.bool (decide (n < 256))) ∧ Below w.heap.size w w' := by
  have HB : Seal (Below w.heap.size w w) := ⟨Below.refl _ _⟩
  obtain ⟨R, hR⟩ : ∃ R, R = decide (n < 256) := ⟨_, rfl⟩
  rw [← hR]
  by_cases h : n < 256
  · have q : (n : Int) < 256 := by omega
    have HR : Seal (R = true) := ⟨by rw [hR]; exact decide_eq_true h⟩
    clear hR
    go_enter Tryz.func27, Tryz.ntmps27
    go_wp2
    go_ret
    exact ⟨by rw [HR.out]; first | rfl | simp [q], HB.out⟩
  · have q : ¬ (n : Int) < 256 := by omega
    have HR : Seal (R = false) := ⟨by rw [hR]; exact decide_eq_false h⟩
    clear hR
    go_enter Tryz.func27, Tryz.ntmps27
    go_wp2
    go_ret
    exact ⟨by rw [HR.out]; first | rfl | simp [q], HB.out⟩

/-- what the third question leaves: the place, and whether it is there -/
def Fc5Post (g19 g20 : Nat) (p : Nat) (f : Bool) (w : World) (e : Ending) (w' : World) : Prop :=
  e = .returned (.bool (!f)) ∧ ∃ V, Below w.heap.size w V ∧ w' = (V.setCell ⟨g19, 0, none⟩ (.int .i64 p)).setCell ⟨g20, 0, none⟩ (.bool f)
set_option maxHeartbeats 4000000 in
theorem fc5_any (g15 g9 g19 g20 : Nat) (A : AdA) (a : Option Addr) (n c : Nat) (v19 v20 : Value) (w : World) (hA : A.at w) (c15 : w.cell? ⟨g15, 0, none⟩ = some (.slice a n c)) (hd : IsD w a n c A.past) (c9 : w.rangeAt g9 0 A.x.C)
    (c19 : w.heap[g19]? = some (.cells #[v19] 3 (0, 0))) (c20 : w.heap[g20]? = some (.cells #[v20] 4 (0, 0))) (hu : usedB A.past = true) (n1 : g15 ≠ g19) (n2 : g15 ≠ g20) (n3 : g9 ≠ g19) (n4 : g9 ≠ g20) (n5 : g19 ≠ g20) :
    Calls Tryz.prog 23 #[.pointer (some ⟨g15, 0, none⟩), .pointer (some ⟨g9, 0, none⟩), .pointer (some ⟨g19, 0, none⟩), .pointer (some ⟨g20, 0, none⟩)] w (Fc5Post g19 g20 (atB A.past (caseD A.x.c)) (hasB A.past (caseD A.x.c)) w) := by
  obtain ⟨p, hp⟩ : ∃ p, p = atB A.past (caseD A.x.c) := ⟨_, rfl⟩
  obtain ⟨f, hf⟩ : ∃ f, f = hasB A.past (caseD A.x.c) := ⟨_, rfl⟩
  obtain ⟨D, hD⟩ : ∃ D, D = (caseD A.x.c).map B := ⟨_, rfl⟩
  have C1 : Seal (∀ W, Below w.heap.size w W → Calls Tryz.prog 8 #[.agg A.x.C.toArray] W fun e w' => e = .returned (.agg D.toArray) ∧ Below W.heap.size W w') := ⟨fun W h => by rw [hD]; exact dcase_any A.x W (hA.below h).G hA.ok (hA.below h).F hA.F100⟩
  have C2 : Seal (∀ W, Below w.heap.size w W → Calls Tryz.prog 24 #[.slice a n c, .agg D.toArray, .func (.func 18) #[] #[]] W fun e w' => e = .returned (.tuple #[.int .i64 (p : Nat), .bool f]) ∧ Below W.heap.size W w') := ⟨fun W h => by rw [hD, hp, hf]; exact fbsearch_any a n c A.past _ W (hd.of_heap h) (caseD_len _) hu⟩
  obtain ⟨C, hC⟩ : ∃ C, C = A.x.C := ⟨_, rfl⟩
  have iC : (Tryz.prog.info? 35).map (·.size) = some C.length := by rw [hC]; exact CaX.info _
  have uC := Tryz.underlying35
  rw [← hC] at C1 c9
  rw [← hp, ← hf]
  have HB : Seal (Below w.heap.size w w.drew ∧ w.drew.heap[g19]? = some (.cells #[v19] 3 (0, 0)) ∧ w.drew.heap[g20]? = some (.cells #[v20] 4 (0, 0))) := ⟨below_drewn_f _, c19, c20⟩
  have m1 : ¬ g19 = g20 := n5
  have m2 : ¬ g20 = g19 := fun h => n5 h.symm
  clear hA hd hp hf hD hC hu c19 c20
  go_enter Tryz.func23, Tryz.ntmps23
  go_wp2_with fail
  refine wp_region_held_drew (S := fun W => W.cell? ⟨g15, 0, none⟩ = some (.slice a n c) ∧ W.rangeAt g9 0 C) (by kernel_rfl) ⟨c15, c9⟩ (fun hHeld => ?_)
  obtain ⟨V, hV⟩ : ∃ V, V = w.drew := ⟨_, rfl⟩
  rw [← hV] at hHeld HB ⊢
  clear hV c15 c9
  refine take_h 0 ?_ rfl (by kernel_rfl) (by kernel_rfl) (by kernel_rfl) (fun _ _ _ h => h) (Or.inl ⟨by kernel_rfl, ?_⟩) (by assumption) ?_
  rotate_left
  · (intro w hSw; (try dsimp only at hSw); go_simp; try (with_reducible rfl))
  try simp only [Act.put, List.setIfInBounds_toArray, List.set_cons_zero, List.set_cons_succ]
  refine take_h 1 _ rfl (by kernel_rfl) (by kernel_rfl) (by kernel_rfl) (fun _ _ _ h => h) (yieldsIf_load_mid (by kernel_rfl) 35 (.tmp 1) rfl g9 0 rfl C _ (fun w hSw => hSw.2) uC rfl iC) (by assumption) ?_
  try simp only [Act.put, List.setIfInBounds_toArray, List.set_cons_zero, List.set_cons_succ]
  refine call_h 2 rfl (by kernel_rfl) 8 #[.agg C.toArray] (by kernel_rfl) (by go_simp) ?_
  refine (C1.out V HB.out.1).mono ?_
  rintro e V1 ⟨rfl, hb⟩
  have HB2 : Seal (Below w.heap.size w V1 ∧ (V1).heap[g19]? = some (.cells #[v19] 3 (0, 0)) ∧ (V1).heap[g20]? = some (.cells #[v20] 4 (0, 0))) := ⟨HB.out.1.trans (hb.mono HB.out.1.size), (hb.block _ (Array.getElem?_eq_some_iff.1 HB.out.2.1).1).trans HB.out.2.1, (hb.block _ (Array.getElem?_eq_some_iff.1 HB.out.2.2).1).trans HB.out.2.2⟩
  refine ⟨_, rfl, ⟨cell_below' hb hHeld.1, rangeAt_below' hHeld.2 hb⟩, fun hHeld2 => ?_⟩
  clear HB hHeld hb
  have HB := HB2
  have hHeld := hHeld2
  clear HB2 hHeld2
  try simp only [Act.put, List.setIfInBounds_toArray, List.set_cons_zero, List.set_cons_succ]
  refine call_h 3 rfl (by kernel_rfl) 24 #[.slice a n c, .agg D.toArray, .func (.func 18) #[] #[]] (by kernel_rfl) (by go_simp) ?_
  refine (C2.out V1 HB.out.1).mono ?_
  rintro e V2 ⟨rfl, hb⟩
  have HB2 : Seal (Below w.heap.size w V2 ∧ (V2).heap[g19]? = some (.cells #[v19] 3 (0, 0)) ∧ (V2).heap[g20]? = some (.cells #[v20] 4 (0, 0))) := ⟨HB.out.1.trans (hb.mono HB.out.1.size), (hb.block _ (Array.getElem?_eq_some_iff.1 HB.out.2.1).1).trans HB.out.2.1, (hb.block _ (Array.getElem?_eq_some_iff.1 HB.out.2.2).1).trans HB.out.2.2⟩
  refine ⟨_, rfl, ⟨cell_below' hb hHeld.1, rangeAt_below' hHeld.2 hb⟩, fun hHeld2 => ?_⟩
  clear HB hHeld hb
  have HB := HB2
  have hHeld := hHeld2
  clear HB2 hHeld2
  try simp only [Act.put, List.setIfInBounds_toArray, List.set_cons_zero, List.set_cons_succ]
  refine take_h 4 ?_ rfl (by kernel_rfl) (by kernel_rfl) (by kernel_rfl) (fun _ _ _ h => h) (Or.inl ⟨by kernel_rfl, ?_⟩) (by assumption) ?_
  rotate_left
  · (intro w hSw; (try dsimp only at hSw); go_simp; try (with_reducible rfl))
  try simp only [Act.put, List.setIfInBounds_toArray, List.set_cons_zero, List.set_cons_succ]
  refine take_h 5 ?_ rfl (by kernel_rfl) (by kernel_rfl) (by kernel_rfl) (fun _ _ _ h => h) (Or.inl ⟨by kernel_rfl, ?_⟩) (by assumption) ?_
  rotate_left
  · (intro w hSw; (try dsimp only at hSw); go_simp; try (with_reducible rfl))
  try simp only [Act.put, List.setIfInBounds_toArray, List.set_cons_zero, List.set_cons_succ]
  refine take_h 6 ?_ rfl (by kernel_rfl) (by kernel_rfl) (by kernel_rfl) (fun _ _ _ h => h) (Or.inl ⟨by kernel_rfl, ?_⟩) (by assumption) ?_
  rotate_left
  · (intro w hSw; (try dsimp only at hSw); go_simp; try (with_reducible rfl))
  try simp only [Act.put, List.setIfInBounds_toArray, List.set_cons_zero, List.set_cons_succ]
  obtain ⟨Z, hZ⟩ : ∃ Z, Z = V2.setCell ⟨g19, 0, none⟩ (.int .i64 p) := ⟨_, rfl⟩
  obtain ⟨Y, hY⟩ : ∃ Y, Y = Z.setCell ⟨g20, 0, none⟩ (.bool f) := ⟨_, rfl⟩
  have hoZ : ∀ k, k ≠ g19 → Z.heap[k]? = V2.heap[k]? := fun k hk => by rw [hZ]; exact Below.heap_setCell _ ⟨g19, 0, none⟩ _ k hk
  have hoY : ∀ k, k ≠ g20 → Y.heap[k]? = Z.heap[k]? := fun k hk => by rw [hY]; exact Below.heap_setCell _ ⟨g20, 0, none⟩ _ k hk
  have hSZ : Z.cell? ⟨g15, 0, none⟩ = some (.slice a n c) ∧ Z.rangeAt g9 0 C := ⟨(World.cell?_of_block (w := V2) (hoZ g15 n1)).trans hHeld.1, fun j u hu => (World.cell?_of_block (w := V2) (hoZ g9 n3)).trans (hHeld.2 j u hu)⟩
  have hSY : Y.cell? ⟨g15, 0, none⟩ = some (.slice a n c) ∧ Y.rangeAt g9 0 C := ⟨(World.cell?_of_block (w := Z) (hoY g15 n2)).trans hSZ.1, fun j u hu => (World.cell?_of_block (w := Z) (hoY g9 n4)).trans (hSZ.2 j u hu)⟩
  have d20 : Z.heap[g20]? = some (.cells #[v20] 4 (0, 0)) := (hoZ g20 m2).trans HB.out.2.2
  have HZY : Seal (Below w.heap.size w V2 ∧ Y = (V2.setCell ⟨g19, 0, none⟩ (.int .i64 p)).setCell ⟨g20, 0, none⟩ (.bool f)) := ⟨HB.out.1, by rw [hY, hZ]⟩
  have y20 : Y.cell? ⟨g20, 0, none⟩ = some (.bool f) := by
    have h := heap_setCell_row (cs := [v20]) (i := 0) (.bool f) d20
    rw [hY, cell_of_row _ _ _ _ _ _ h]; rfl
  have e19 : V2.cell? ⟨g19, 0, none⟩ = some v19 := by rw [cell_of_row _ _ _ _ _ _ HB.out.2.1]; rfl
  have f19 : V2.frozen? ⟨g19, 0, none⟩ = false := frozen_of_row _ _ _ _ _ HB.out.2.1
  have e20 : Z.cell? ⟨g20, 0, none⟩ = some v20 := by rw [cell_of_row _ _ _ _ _ _ d20]; rfl
  have f20 : Z.frozen? ⟨g20, 0, none⟩ = false := frozen_of_row _ _ _ _ _ d20
  refine skip_h 7 Z rfl (by kernel_rfl) (by kernel_rfl) (by rw [hZ]; clear hSZ hSY y20 e20 f20 HZY hZ hY hoZ hoY; go_simp) hSZ (fun hHeld2 => ?_)
  clear hHeld e19 f19
  try simp only [Act.put]
  refine skip_h 8 Y rfl (by kernel_rfl) (by kernel_rfl) (by rw [hY]; clear hSZ hSY y20 HZY hZ hY hoZ hoY; go_simp) hSY (fun hHeld3 => ?_)
  clear hHeld2 e20 f20 hSZ hSY d20 hoZ hoY hZ hY
  try simp only [Act.put]
  refine wpAnyH_done (by kernel_rfl) ?_ _
  clear hHeld3
  go_wp2
  go_ret
  exact ⟨rfl, V2, HZY.out.1, HZY.out.2⟩
end Frk
