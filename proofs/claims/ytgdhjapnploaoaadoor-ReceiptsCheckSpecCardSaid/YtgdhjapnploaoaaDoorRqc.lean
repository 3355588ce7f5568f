/- The statement ReceiptsCheckSpec of frankinglaw43 holds: for every input the law returns true, and each argument reads afterwards as it read before. Conditions: those of the row (the listed variables start as the program's text lays them; the card ties them). -/
import Derived.Test.YtgdhjapnploaoaaDoorRcz
import Derived.Test.YtgdhjapnploaoaaDoorRop
import Derived.Test.YtgdhjapnploaoaaDoorHol
namespace Frk
open Go Go.RowKit Go.Proofs
set_option maxRecDepth 100000

set_option maxHeartbeats 4000000 in
theorem receipts_check_spec (key a b c x y z : Int) (t : Bool) (C D : List Value) (w : World) (hG : Glob w)
    (hC : C = [.int .i64 a, .int .i64 b, .int .i64 c]) (hD : D = [.int .i64 x, .int .i64 y, .int .i64 z])
    (HC1 : Seal (∀ W, Glob W → Calls Tryd.prog 12 #[.int .i64 key, .agg C.toArray, .agg D.toArray] W fun e w' => e = .returned (.bool t) ∧ Below W.heap.size W w'))
    (HC2 : Seal (∀ W, Glob W → Calls Tryd.prog 13 #[.int .i64 key, .agg C.toArray, .agg D.toArray] W fun e w' => e = .returned (.bool t) ∧ Below W.heap.size W w')) :
    Calls Tryd.prog 4 #[.int .i64 key, .agg #[.int .i64 a, .int .i64 b, .int .i64 c], .agg #[.int .i64 x, .int .i64 y, .int .i64 z]] w fun e w' => e = .returned (.bool true) ∧ Below w.heap.size w w' := by
  have IC : Seal ((Tryd.prog.info? 23).map (·.size) = some C.length) := ⟨by rw [hC]; kernel_rfl⟩
  have ID : Seal ((Tryd.prog.info? 23).map (·.size) = some D.length) := ⟨by rw [hD]; kernel_rfl⟩
  have HE1 : Seal (Env ((w.alloc (.cells C.toArray 23)).alloc (.cells D.toArray 23)) none 0 0 [] [(w.heap.size + 1, .cells D.toArray 23), (w.heap.size, .cells C.toArray 23)]) := ⟨by
    have h1 := Env.push (bs := []) ⟨hG, isB_nil w, by intro p hp; cases hp⟩ (.cells C.toArray 23)
    have h2 := h1.push (.cells D.toArray 23)
    rw [size_alloc] at h2
    exact h2⟩
  have HB1 : Seal (Below w.heap.size w ((w.alloc (.cells C.toArray 23)).alloc (.cells D.toArray 23))) := ⟨((Below.refl _ w).alloc (Nat.le_refl _) _).alloc (by simp) _⟩
  rw [show (#[.int .i64 a, .int .i64 b, .int .i64 c] : Array Value) = C.toArray from by rw [hC], show (#[.int .i64 x, .int .i64 y, .int .i64 z] : Array Value) = D.toArray from by rw [hD]]
  clear hC hD hG
  go_enter Tryd.func4, Tryd.ntmps4
  go_wp2_with fail
  refine (rcsane_any _ HE1.out.glob).mono ?_
  rintro e Y ⟨rfl, hb⟩
  have HE2 := Seal.mk (HE1.out.below hb)
  have HB2 := Seal.mk (HB1.out.trans (hb.mono HB1.out.size))
  clear hb HE1 HB1
  go_upto_region 2 with (fail)
  have r1 : Y.rangeAt w.heap.size 0 C := rangeAt_row (HE2.out.keep (w.heap.size, .cells C.toArray 23) (by simp))
  have r2 : Y.rangeAt (w.heap.size + 1) 0 D := rangeAt_row (HE2.out.keep (w.heap.size + 1, .cells D.toArray 23) (by simp))
  have i1 := IC.out
  have i2 := ID.out
  have ut := Tryd.underlying23
  have HG : Seal (Glob Y) := ⟨HE2.out.glob⟩
  clear HE2 IC ID
  refine wp_region_held_drew (S := fun w' => w'.rangeAt w.heap.size 0 C ∧ w'.rangeAt (w.heap.size + 1) 0 D) (by kernel_rfl) ⟨r1, r2⟩ (fun hHeld => ?_)
  refine take_h 0 ?_ rfl (by kernel_rfl) (by kernel_rfl) (by kernel_rfl) (fun _ _ _ h => h) (Or.inl ⟨by kernel_rfl, ?_⟩) (by assumption) ?_
  rotate_left
  · (intro w hSw; (try dsimp only at hSw); go_simp; try (with_reducible rfl))
  try simp only [Act.put, List.setIfInBounds_toArray, List.set_cons_zero, List.set_cons_succ]
  refine take_h 1 _ rfl (by kernel_rfl) (by kernel_rfl) (by kernel_rfl) (fun _ _ _ h => h) (yieldsIf_load_mid (by kernel_rfl) 23 (.tmp 4) rfl w.heap.size 0 rfl C _ (fun w hSw => hSw.1) ut rfl i1) (by assumption) ?_
  try simp only [Act.put, List.setIfInBounds_toArray, List.set_cons_zero, List.set_cons_succ]
  refine take_h 2 _ rfl (by kernel_rfl) (by kernel_rfl) (by kernel_rfl) (fun _ _ _ h => h) (yieldsIf_load_mid (by kernel_rfl) 23 (.tmp 5) rfl (w.heap.size + 1) 0 rfl D _ (fun w hSw => hSw.2) ut rfl i2) (by assumption) ?_
  try simp only [Act.put, List.setIfInBounds_toArray, List.set_cons_zero, List.set_cons_succ]
  refine take_h 4 ?_ rfl (by kernel_rfl) (by kernel_rfl) (by kernel_rfl) (fun _ _ _ h => h) (Or.inl ⟨by kernel_rfl, ?_⟩) (by assumption) ?_
  rotate_left
  · (intro w hSw; (try dsimp only at hSw); go_simp; try (with_reducible rfl))
  try simp only [Act.put, List.setIfInBounds_toArray, List.set_cons_zero, List.set_cons_succ]
  refine take_h 5 _ rfl (by kernel_rfl) (by kernel_rfl) (by kernel_rfl) (fun _ _ _ h => h) (yieldsIf_load_mid (by kernel_rfl) 23 (.tmp 4) rfl w.heap.size 0 rfl C _ (fun w hSw => hSw.1) ut rfl i1) (by assumption) ?_
  try simp only [Act.put, List.setIfInBounds_toArray, List.set_cons_zero, List.set_cons_succ]
  refine take_h 6 _ rfl (by kernel_rfl) (by kernel_rfl) (by kernel_rfl) (fun _ _ _ h => h) (yieldsIf_load_mid (by kernel_rfl) 23 (.tmp 5) rfl (w.heap.size + 1) 0 rfl D _ (fun w hSw => hSw.2) ut rfl i2) (by assumption) ?_
  try simp only [Act.put, List.setIfInBounds_toArray, List.set_cons_zero, List.set_cons_succ]
  refine call_h 3 rfl (by kernel_rfl) 12 #[.int .i64 key, .agg C.toArray, .agg D.toArray] (by kernel_rfl) (by go_simp) ?_
  refine (HC1.out Y.drew ⟨HG.out.start, HG.out.nums⟩).mono ?_
  rintro e w5 ⟨rfl, hb⟩
  have hb2 : Below Y.heap.size Y w5 := ⟨hb.os, hb.tape, hb.output, hb.size, hb.block⟩
  have HB5 : Seal (Below w.heap.size w w5) := ⟨HB2.out.trans (hb2.mono HB2.out.size)⟩
  have HG5 : Seal (Glob w5) := ⟨HG.out.below hb2⟩
  refine ⟨_, rfl, ⟨rangeAt_below' r1 hb2, rangeAt_below' r2 hb2⟩, fun hHeld2 => ?_⟩
  clear hHeld hb hb2 r1 r2
  try simp only [Act.put, List.setIfInBounds_toArray, List.set_cons_zero, List.set_cons_succ]
  refine call_h 7 rfl (by kernel_rfl) 13 #[.int .i64 key, .agg C.toArray, .agg D.toArray] (by kernel_rfl) (by go_simp) ?_
  refine (HC2.out w5 HG5.out).mono ?_
  rintro e w6 ⟨rfl, hb⟩
  have HB6 : Seal (Below w.heap.size w w6) := ⟨HB5.out.trans (hb.mono HB5.out.size)⟩
  refine ⟨_, rfl, ⟨rangeAt_below' hHeld2.1 hb, rangeAt_below' hHeld2.2 hb⟩, fun hHeld3 => ?_⟩
  clear hHeld2 hb
  have htt : (t == t) = true := by simp
  try simp only [Act.put, List.setIfInBounds_toArray, List.set_cons_zero, List.set_cons_succ]
  refine take_h 8 (.bool true) rfl (by kernel_rfl) (by kernel_rfl) (by kernel_rfl) (fun _ _ _ h => h) (Or.inl ⟨by kernel_rfl, ?_⟩) (by assumption) ?_
  · intro w hSw
    go_simp
  try simp only [Act.put, List.setIfInBounds_toArray, List.set_cons_zero, List.set_cons_succ]
  refine take_h 9 ?_ rfl (by kernel_rfl) (by kernel_rfl) (by kernel_rfl) (fun _ _ _ h => h) (Or.inl ⟨by kernel_rfl, ?_⟩) (by assumption) ?_
  rotate_left
  · (intro w hSw; (try dsimp only at hSw); go_simp; try (with_reducible rfl))
  try simp only [Act.put, List.setIfInBounds_toArray, List.set_cons_zero, List.set_cons_succ]
  refine wpAnyH_done (by kernel_rfl) ?_ _
  clear hHeld3
  go_wp2
  go_ret
  exact ⟨rfl, HB6.out⟩

theorem law_receiptsCheckSpec (key a b c x y z : Int) (w : World) (hG : Glob w) (ha : I64 a) (hb : I64 b) (hc : I64 c) :
    Calls Tryd.prog 4 #[.int .i64 key, .agg #[.int .i64 a, .int .i64 b, .int .i64 c], .agg #[.int .i64 x, .int .i64 y, .int .i64 z]] w fun e w' => e = .returned (.bool true) ∧ Below w.heap.size w w' :=
  receipts_check_spec key a b c x y z (rcB key a b c y z) _ _ w hG rfl rfl ⟨fun W g => rccheck_any key a b c x y z W g ha hb hc⟩ ⟨fun W _ => rcheck43_any key a b c x y z W ha hb hc⟩
end Frk

namespace Go.Proofs.YtgdhjapnploaoaaDoor
open Go Go.RowKit Go.Proofs Go.ChangeShapes Go.WideShapes Go.ChangeAt Frk
set_option maxRecDepth 100000

theorem lifted (os : Os) (started : os.Started) (H : Type) (enc : TypeId × Value → H) :
    ReturnsInHanded {} Tryd.checked os 4 .any (fun w args => (Rows.receiptsCheckSpecSpec.pre enc Tryd.prog Tryd.f4 [] false w args ∧ laidMetH Tryd.prog laid w) ∧ sizedMet enc Tryd.prog Tryd.f4 (OpenSpec.ofChange Rows.receiptsCheckSpecSpec) false w args)
      (Rows.receiptsCheckSpecSpec.post enc Tryd.prog Tryd.f4 false true false false) := by
  refine returnsInHanded_of_change_and (C := Tryd.checked) (X := fun w _ => laidMetH Tryd.prog laid w) (fun _ _ _ hh h => h.of_heap hh) own started (by kernel_rfl) Tryd.func4
    (ChangeSpec.witness_shaped (enc := enc) (C := Tryd.checked) (os := os) (X := fun w _ => laidMetH Tryd.prog laid w) false (World.doorLaid Tryd.prog 400 os) #[.int .i64 0, .agg #[.int .i64 0, .int .i64 0, .int .i64 0], .agg #[.int .i64 0, .int .i64 0, .int .i64 0]] 8 rfl (World.shaped_of_RefB (by kernel_rfl) (by kernel_rfl)) (by kernel_rfl) (by kernel_rfl) (by kernel_rfl) (door_met os _)) ?_
  intro W base args ds gs before hval0 hW _ _ hL _
  have hval : ∀ (j : Nat) t v, Tryd.f4.params[j]? = some t → args[j]? = some v → Value.okWide Tryd.prog W .any base t v := hval0
  have hW' := hW
  obtain ⟨p, q, hA0, hV, rfl, hfz, hnd⟩ := hW
  have hA : DataW.TrodAll enc Tryd.prog W 0 (fun _ => true) true Tryd.f4.params.toList args.toList ds p := hA0
  rw [Tryd.params4] at hA hval
  obtain ⟨args⟩ := args
  obtain ⟨v0, vs0, d0, ds0, p0, q0, e0, rfl, rfl, h0, hr0⟩ := trodAll_cons hA
  obtain ⟨v1, vs1, d1, ds1, p1, q1, e1, rfl, rfl, h1, hr1⟩ := trodAll_cons hr0
  obtain ⟨v2, vs2, d2, ds2, p2, q2, e2, rfl, rfl, h2, hr2⟩ := trodAll_cons hr1
  obtain ⟨rfl, rfl, rfl⟩ := trodAll_nil hr2
  obtain rfl : args = [v0, v1, v2] := by simpa [e1, e2] using e0
  obtain ⟨x0, rfl, wx0⟩ := int_open (hval 0 3 v0 rfl rfl) h0
  obtain ⟨X1, Y1, Z1, rfl, rX1, rY1, rZ1⟩ := words_open (hval 1 23 v1 rfl rfl) h1
  obtain ⟨X2, Y2, Z2, rfl, rX2, rY2, rZ2⟩ := words_open (hval 2 23 v2 rfl rfl) h2
  obtain ⟨rfl, rfl⟩ := trodVars_none hV
  have hG := glob_of_laid hL
  refine (law_receiptsCheckSpec x0 X1 Y1 Z1 X2 Y2 Z2 W hG rX1 rY1 rZ1).mono fun e W' ⟨he, hb⟩ => ?_
  subst he
  exact ⟨_, rfl, law_fin (by rw [Tryd.params4]; simp only [List.mem_cons, List.not_mem_nil, or_false]; intro t ht; rcases ht with rfl | rfl | rfl <;> exact ⟨by kernel_rfl, of_decide_eq_true (by kernel_rfl)⟩) (by kernel_rfl) rfl rfl hW' hb⟩

theorem receiptsCheckSpec_row : Rows.ReceiptsCheckSpecSaid :=
  OpenClaim.holds_of_wide 4 Tryd.f4 rfl rfl rfl rfl rfl rfl rfl ⟨rfl, rfl, rfl, rfl, rfl⟩ rfl rfl rfl rfl rfl (by kernel_rfl) Tryd.func4 (by kernel_rfl)
    (of_decide_eq_true (by kernel_rfl)) (by unfold Func.isWrapper; first | (rw [if_pos (by decide +kernel)]; kernel_rfl) | (rw [if_neg (by decide +kernel)]; exact ⟨rfl, rfl⟩))
    (fun os started H enc _ => lifted os started H enc)

theorem receiptsCheckSpec_holds : Rows.ReceiptsCheckSpecCardSaid :=
  Claim7.holds_tied_plain_at .later [] [.data, .data] true Rows.receiptsCheckSpecCard.stood.harness true
    receiptsCheckSpec_row (fun _ h => by cases h) (by kernel_rfl) (fun _ h => by cases h) receiptsCheckSpec_row_tie rfl ⟨rfl, rfl⟩ (by kernel_rfl) rfl
    (fun f fn hf hfn => by
      obtain rfl : f = 4 := Option.some.inj ((show Tryd.prog.funcNamed "franking/frankinglaw43.ReceiptsCheckSpec" = some 4 by kernel_rfl).symm.trans hf) |>.symm
      obtain rfl : fn = Tryd.f4 := (Option.some.inj (Tryd.func4.symm.trans hfn)).symm
      exact ⟨by kernel_rfl, fun j t ht => by
        rw [Tryd.params4] at ht
        have hm : t ∈ [3, 23, 23] := by simpa using Array.mem_of_getElem? ht
        have hall : ([3, 23, 23].all fun u => !Tryd.prog.wantsStandIn u) = true := by kernel_rfl
        exact (show Tryd.prog.wantsStandIn t = false by simpa using List.all_eq_true.1 hall t hm)⟩)
    (by kernel_rfl)
#print axioms receiptsCheckSpec_holds
end Go.Proofs.YtgdhjapnploaoaaDoor
