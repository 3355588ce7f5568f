/- Law 57: DefenceSpec. -/
import Derived.Test.YtllbjakfjpjfnaaGreatDoorVxgHop
import Derived.Test.YtllbjakfjpjfnaaGreatDoorVxRfa
namespace Frk
open Go Go.RowKit Go.Proofs
set_option maxRecDepth 100000

set_option maxHeartbeats 4000000 in
theorem law_defenceSpec (aE : Option Addr) (nE cE : Nat) (l : List Ep) (aO : Option Addr) (nO cO : Nat) (off : List Int) (aP : Option Addr) (nP cP : Nat) (past : List Bytes) (x : CaX) (now term : Int) (w : World) (hG : Glob w)
    (hE : nE ≤ 5000 → IsE w aE nE cE l) (hO : nO ≤ 5000 → IsIs w aO nO cO off) (hP : nP ≤ 5000 → IsD w aP nP cP past) (ha : cP = 0 ∨ ∃ g o, aP = some ⟨g, o, none⟩) (hx : CaIn w x) :
    Calls Tryz.prog 3 #[.slice aE nE cE, .slice aO nO cO, .slice aP nP cP, .agg x.C.toArray, .int .i64 now, .int .i64 term] w fun e w' => e = .returned (.bool true) ∧ Below w.heap.size w w' := by
  obtain ⟨X, hX⟩ : ∃ X : World, X = w.alloc (.cells x.C.toArray 35) := ⟨_, rfl⟩
  have b1 : Below w.heap.size w X := by rw [hX]; exact below_alloc _ _
  obtain ⟨gx, hgx⟩ : ∃ g, g = w.heap.size := ⟨_, rfl⟩
  have rX : X.rangeAt gx 0 x.C := by rw [hX, hgx]; exact rangeAt_row (heap_alloc_new w _)
  have HB : Seal (Below w.heap.size w X) := ⟨b1⟩
  have HG : Seal (∀ W, Below w.heap.size w W → Glob W) := ⟨fun W h => hG.below h⟩
  have HS : Seal (fewF nE nO nP x.nK x.nF = true → ∀ W, Below w.heap.size w W → AdA.at { aE := aE, nE := nE, cE := cE, l := l, aO := aO, nO := nO, cO := cO, off := off, aP := aP, nP := nP, cP := cP, past := past, x := x, now := now, term := term } W ∧ RAt W aE nE cE l aO nO cO off aP nP cP past x) := ⟨fun f1 W h => by
    obtain ⟨q1, q2, q3, q4, q5⟩ := fewF_iff.1 f1
    have hx' := hx.below h
    have e := (hE (by omega)).below h
    have o := (hO (by omega)).below h
    have p := (hP (by omega)).of_heap h
    have f := hx'.F (by omega)
    have k := hx'.K (by omega)
    exact ⟨⟨hG.below h, e, o, p, f, k, show x.nF ≤ 100 by omega, show nP ≤ 4000 by omega, hx'.ok⟩, ⟨e, o, p, ha, f, k, by omega, by omega, hx'.ok⟩⟩⟩
  obtain ⟨CX, hCX⟩ : ∃ C, C = x.C := ⟨_, rfl⟩
  have iX : (Tryz.prog.info? 35).map (·.size) = some CX.length := by rw [hCX]; exact CaX.info _
  have uC := Tryz.underlying35
  have HC : Seal (CX = x.C) := ⟨hCX⟩
  rw [← hCX] at hX rX ⊢
  obtain ⟨f1, hf1⟩ : ∃ f, f = fewF nE nO nP x.nK x.nF := ⟨_, rfl⟩
  have HF : Seal (f1 = fewF nE nO nP x.nK x.nF) := ⟨hf1⟩
  clear b1 hE hO hP ha hx hG hCX hf1
  go_enter Tryz.func3, Tryz.ntmps3
  go_upto_region 1 with (fail)
  rw [← hX, ← hgx]
  clear hX hgx
  go_wp2_with fail
  refine (fsane_any X (HG.out _ HB.out)).mono ?_
  rintro e w1 ⟨rfl, hb⟩
  have HB := Seal.mk (HB.out.trans (hb.mono HB.out.size))
  have rX := rangeAt_below' rX hb
  clear hb
  go_wp2_with (refine wpList_load_mid_g (by kernel_rfl) 35 (.tmp 9) rfl gx 0 rfl CX _ rX uC rfl iX ?_; (try simp only [Act.put, List.setIfInBounds_toArray, List.set_cons_zero, List.set_cons_succ]))
  rw [HC.out]
  refine (ffew_any aE aO aP nE cE nO cO nP cP x w1).mono ?_
  rintro e w2 ⟨rfl, hb⟩
  rw [← HC.out, ← HF.out]
  have HB := Seal.mk (HB.out.trans (hb.mono HB.out.size))
  have rX := rangeAt_below' rX hb
  clear hb
  cases f1 with
  | false =>
    go_wp2_with fail
    go_ret
    exact ⟨rfl, HB.out⟩
  | true =>
    have HA := Seal.mk (HS.out HF.out.symm)
    clear HS HF HG
    obtain ⟨e1, he1⟩ : ∃ e, e = admE l off past x.c now term := ⟨_, rfl⟩
    obtain ⟨l1, hl1⟩ : ∃ e, e = admL l off past x.c now term := ⟨_, rfl⟩
    go_wp2_with (refine wpList_load_mid_g (by kernel_rfl) 35 (.tmp 9) rfl gx 0 rfl CX _ rX uC rfl iX ?_; (try simp only [Act.put, List.setIfInBounds_toArray, List.set_cons_zero, List.set_cons_succ]))
    have hA : Calls Tryz.prog 6 #[.slice aE nE cE, .slice aO nO cO, .slice aP nP cP, .agg CX.toArray, .int .i64 now, .int .i64 term] w2 (FdPost l1 e1 w2) := by
      rw [HC.out, he1, hl1]
      exact fadmit_any _ w2 (HA.out w2 HB.out).1
    have HM : Seal (∀ W, Below w.heap.size w W → Calls Tryz.prog 7 #[.slice aE nE cE, .slice aO nO cO, .slice aP nP cP, .agg CX.toArray, .int .i64 now, .int .i64 term] W (RAPost l1 e1 W)) := ⟨fun W h => by
      rw [HC.out, he1, hl1]
      exact radmit57_any aE nE cE l aO nO cO off aP nP cP past x now term W (HA.out W h).2⟩
    clear he1 hl1
    refine hA.mono ?_
    rintro e w3 ⟨a1, n1, c1, rfl, hi, hb⟩
    have HB := Seal.mk (HB.out.trans (hb.mono HB.out.size))
    have rX := rangeAt_below' rX hb
    have HD1 := Seal.mk hi.out.1
    clear hA hi hb
    go_wp2_with (refine wpList_load_mid_g (by kernel_rfl) 35 (.tmp 9) rfl gx 0 rfl CX _ rX uC rfl iX ?_; (try simp only [Act.put, List.setIfInBounds_toArray, List.set_cons_zero, List.set_cons_succ]))
    refine (HM.out w3 HB.out).mono ?_
    rintro e w4 ⟨a2, n2, c2, rfl, hi, hb⟩
    have HB := Seal.mk (HB.out.trans (hb.mono HB.out.size))
    have rX := rangeAt_below' rX hb
    have HD1 := Seal.mk (HD1.out.of_heap hb)
    have HD2 := Seal.mk hi.out
    clear hi hb HM
    obtain ⟨D, hD⟩ : ∃ D, D = ((caseD x.c).map B).toArray := ⟨_, rfl⟩
    have heq : ∀ W, (Op.equalIn 10000 42 (.agg D) (.agg D)).run Tryz.prog W = .ok true W := fun W => by rw [hD, eqDig _ _ (caseD_len _) (caseD_len _) W]; simp
    have HDg : Seal (∀ W, Below w.heap.size w W → (Calls Tryz.prog 8 #[.agg CX.toArray] W fun e w' => e = .returned (.agg D) ∧ Below W.heap.size W w') ∧ (Calls Tryz.prog 9 #[.agg CX.toArray] W fun e w' => e = .returned (.agg D) ∧ Below W.heap.size W w')) := ⟨fun W h => by
      obtain ⟨h1, h2⟩ := HA.out W h
      rw [HC.out, hD]
      exact ⟨dcase_any x W h1.G h2.ok h2.F h2.F100, rdigest57_any x W h2.ok h2.F h2.F100⟩⟩
    clear hD
    go_wp2_with fail
    refine wp_region_held_drew (S := fun W => W.rangeAt gx 0 CX) (by kernel_rfl) rX (fun hHeld => ?_)
    obtain ⟨V, hV⟩ : ∃ V, V = w4.drew := ⟨_, rfl⟩
    have hb : Below w4.heap.size w4 V := by rw [hV]; exact below_drewn_f _
    have HB := Seal.mk (HB.out.trans (hb.mono HB.out.size))
    have HD1 := Seal.mk (HD1.out.of_heap hb)
    have HD2 := Seal.mk (HD2.out.of_heap hb)
    rw [← hV] at hHeld ⊢
    clear hV rX hb
    refine take_h 0 _ rfl (by kernel_rfl) (by kernel_rfl) (by kernel_rfl) (fun _ _ _ h => h) (yieldsIf_load_mid (by kernel_rfl) 35 (.tmp 9) rfl gx 0 rfl CX _ (fun w hSw => hSw) uC rfl iX) (by assumption) ?_
    try simp only [Act.put, List.setIfInBounds_toArray, List.set_cons_zero, List.set_cons_succ]
    refine take_h 2 _ rfl (by kernel_rfl) (by kernel_rfl) (by kernel_rfl) (fun _ _ _ h => h) (yieldsIf_load_mid (by kernel_rfl) 35 (.tmp 9) rfl gx 0 rfl CX _ (fun w hSw => hSw) uC rfl iX) (by assumption) ?_
    try simp only [Act.put, List.setIfInBounds_toArray, List.set_cons_zero, List.set_cons_succ]
    refine call_h 1 rfl (by kernel_rfl) 8 #[.agg CX.toArray] (by kernel_rfl) (by go_simp) ?_
    refine (HDg.out V HB.out).1.mono ?_
    rintro e V1 ⟨rfl, hb⟩
    have HB := Seal.mk (HB.out.trans (hb.mono HB.out.size))
    have HD1 := Seal.mk (HD1.out.of_heap hb)
    have HD2 := Seal.mk (HD2.out.of_heap hb)
    refine ⟨_, rfl, rangeAt_below' hHeld hb, fun hHeld2 => ?_⟩
    clear hHeld hb
    have hHeld := hHeld2
    clear hHeld2
    try simp only [Act.put, List.setIfInBounds_toArray, List.set_cons_zero, List.set_cons_succ]
    refine call_h 3 rfl (by kernel_rfl) 9 #[.agg CX.toArray] (by kernel_rfl) (by go_simp) ?_
    refine (HDg.out V1 HB.out).2.mono ?_
    rintro e V2 ⟨rfl, hb⟩
    have HB := Seal.mk (HB.out.trans (hb.mono HB.out.size))
    have HD1 := Seal.mk (HD1.out.of_heap hb)
    have HD2 := Seal.mk (HD2.out.of_heap hb)
    refine ⟨_, rfl, rangeAt_below' hHeld hb, fun hHeld2 => ?_⟩
    clear hHeld hb
    have hHeld := hHeld2
    clear hHeld2
    try simp only [Act.put, List.setIfInBounds_toArray, List.set_cons_zero, List.set_cons_succ]
    refine take_h 4 ?_ rfl (by kernel_rfl) (by kernel_rfl) (by kernel_rfl) (fun _ _ _ h => h) (Or.inl ⟨by kernel_rfl, ?_⟩) (by assumption) ?_
    rotate_left
    · (intro w hSw; (try dsimp only at hSw); go_simp; try (with_reducible rfl))
    try simp only [Act.put, List.setIfInBounds_toArray, List.set_cons_zero, List.set_cons_succ]
    refine take_h 5 ?_ rfl (by kernel_rfl) (by kernel_rfl) (by kernel_rfl) (fun _ _ _ h => h) (Or.inl ⟨by kernel_rfl, ?_⟩) (by assumption) ?_
    rotate_left
    · (intro w hSw; (try dsimp only at hSw); go_simp; try (with_reducible rfl))
    try simp only [Act.put, List.setIfInBounds_toArray, List.set_cons_zero, List.set_cons_succ]
    refine take_h 6 ?_ rfl (by kernel_rfl) (by kernel_rfl) (by kernel_rfl) (fun _ _ _ h => h) (Or.inl ⟨by kernel_rfl, ?_⟩) (by assumption) ?_
    rotate_left
    · (intro w hSw; (try dsimp only at hSw); go_simp; try (with_reducible rfl))
    try simp only [Act.put, List.setIfInBounds_toArray, List.set_cons_zero, List.set_cons_succ]
    refine take_h 7 ?_ rfl (by kernel_rfl) (by kernel_rfl) (by kernel_rfl) (fun _ _ _ h => h) (Or.inl ⟨by kernel_rfl, ?_⟩) (by assumption) ?_
    rotate_left
    · (intro w hSw; (try dsimp only at hSw); go_simp; try (with_reducible rfl))
    try simp only [Act.put, List.setIfInBounds_toArray, List.set_cons_zero, List.set_cons_succ]
    have hSm : Calls Tryz.prog 10 #[.slice a1 n1 c1, .slice a2 n2 c2] V2 fun e w' => e = .returned (.bool true) ∧ Below V2.heap.size V2 w' := by
      have h := rsame_any a1 a2 n1 c1 n2 c2 l1 l1 V2 HD1.out HD2.out
      rwa [show (l1 == l1) = true from by simp] at h
    refine call_h 8 rfl (by kernel_rfl) 10 #[.slice a1 n1 c1, .slice a2 n2 c2] (by kernel_rfl) (by go_simp) ?_
    refine hSm.mono ?_
    rintro e V3 ⟨rfl, hb⟩
    have HB := Seal.mk (HB.out.trans (hb.mono HB.out.size))
    have HD1 := Seal.mk (HD1.out.of_heap hb)
    have HD2 := Seal.mk (HD2.out.of_heap hb)
    refine ⟨_, rfl, rangeAt_below' hHeld hb, fun hHeld2 => ?_⟩
    clear hHeld hb
    have hHeld := hHeld2
    clear hHeld2
    try simp only [Act.put, List.setIfInBounds_toArray, List.set_cons_zero, List.set_cons_succ]
    refine take_h 9 ?_ rfl (by kernel_rfl) (by kernel_rfl) (by kernel_rfl) (fun _ _ _ h => h) (Or.inl ⟨by kernel_rfl, ?_⟩) (by assumption) ?_
    rotate_left
    · (intro w hSw; (try dsimp only at hSw); go_simp; try (with_reducible rfl))
    try simp only [Act.put, List.setIfInBounds_toArray, List.set_cons_zero, List.set_cons_succ]
    refine take_h 10 ?_ rfl (by kernel_rfl) (by kernel_rfl) (by kernel_rfl) (fun _ _ _ h => h) (Or.inl ⟨by kernel_rfl, ?_⟩) (by assumption) ?_
    rotate_left
    · (intro w hSw; (try dsimp only at hSw); go_simp; try (with_reducible rfl))
    try simp only [Act.put, List.setIfInBounds_toArray, List.set_cons_zero, List.set_cons_succ]
    refine take_h 11 ?_ rfl (by kernel_rfl) (by kernel_rfl) (by kernel_rfl) (fun _ _ _ h => h) (Or.inl ⟨by kernel_rfl, ?_⟩) (by assumption) ?_
    rotate_left
    · (intro w hSw; (try dsimp only at hSw); go_simp; try (with_reducible rfl))
    try simp only [Act.put, List.setIfInBounds_toArray, List.set_cons_zero, List.set_cons_succ]
    refine take_h 12 ?_ rfl (by kernel_rfl) (by kernel_rfl) (by kernel_rfl) (fun _ _ _ h => h) (Or.inl ⟨by kernel_rfl, ?_⟩) (by assumption) ?_
    rotate_left
    · (intro w hSw; (try dsimp only at hSw); go_simp; try (with_reducible rfl))
    try simp only [Act.put, List.setIfInBounds_toArray, List.set_cons_zero, List.set_cons_succ]
    refine take_h 13 ?_ rfl (by kernel_rfl) (by kernel_rfl) (by kernel_rfl) (fun _ _ _ h => h) (Or.inl ⟨by kernel_rfl, ?_⟩) (by assumption) ?_
    rotate_left
    · (intro w hSw; (try dsimp only at hSw); go_simp; try (with_reducible rfl))
    try simp only [Act.put, List.setIfInBounds_toArray, List.set_cons_zero, List.set_cons_succ]
    refine take_h 14 ?_ rfl (by kernel_rfl) (by kernel_rfl) (by kernel_rfl) (fun _ _ _ h => h) (Or.inl ⟨by kernel_rfl, ?_⟩) (by assumption) ?_
    rotate_left
    · (intro w hSw; (try dsimp only at hSw); go_simp; try (with_reducible rfl))
    try simp only [Act.put, List.setIfInBounds_toArray, List.set_cons_zero, List.set_cons_succ]
    refine take_h 15 ?_ rfl (by kernel_rfl) (by kernel_rfl) (by kernel_rfl) (fun _ _ _ h => h) (Or.inl ⟨by kernel_rfl, ?_⟩) (by assumption) ?_
    rotate_left
    · (intro w hSw; (try dsimp only at hSw); go_simp; try (with_reducible rfl))
    try simp only [Act.put, List.setIfInBounds_toArray, List.set_cons_zero, List.set_cons_succ]
    refine wpAnyH_done (by kernel_rfl) ?_ _
    clear hHeld hSm
    go_wp2
    go_ret
    exact ⟨by first | rfl | simp, HB.out⟩
end Frk
