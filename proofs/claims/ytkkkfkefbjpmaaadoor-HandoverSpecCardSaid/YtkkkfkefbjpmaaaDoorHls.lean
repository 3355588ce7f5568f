/- The law HandoverSpec, walked. -/
import Derived.Test.YtkkkfkefbjpmaaaDoorHac
namespace Frk
open Go Go.RowKit Go.Proofs
set_option maxRecDepth 100000

theorem mkF_len (x : Int) (h : Hd) (k : h.T.length = 32) : (mkF x h).1.T.length = 32 := by
  unfold mkF
  split
  · split
    · exact k
    · exact zb32_len
  · exact zb32_len

set_option maxHeartbeats 4000000 in
theorem handover_spec (x key e0 : Int) (t : Bool) (C M : List Value) (w : World) (hG : Glob w)
    (IC : Seal ((Tryd.prog.info? 29).map (·.size) = some C.length)) (IM : Seal ((Tryd.prog.info? 29).map (·.size) = some M.length)) (LM : Seal (((.int .i64 0 :: .int .i64 0 :: .int .i64 0 :: .int .i64 0 :: .int .i64 0 :: .int .i64 0 :: .int .i64 0 :: .int .u8 0 :: .int .u8 0 :: .int .u8 0 :: .int .u8 0 :: .int .u8 0 :: .int .u8 0 :: .int .u8 0 :: .int .u8 0 :: .int .u8 0 :: .int .u8 0 :: .int .u8 0 :: .int .u8 0 :: .int .u8 0 :: .int .u8 0 :: .int .u8 0 :: .int .u8 0 :: .int .u8 0 :: .int .u8 0 :: .int .u8 0 :: .int .u8 0 :: .int .u8 0 :: .int .u8 0 :: .int .u8 0 :: .int .u8 0 :: .int .u8 0 :: .int .u8 0 :: .int .u8 0 :: .int .u8 0 :: .int .u8 0 :: .int .u8 0 :: .int .u8 0 :: .int .u8 0 :: .int .i64 0 :: .int .i64 0 :: .int .i64 0 :: [] : List Value)).length = M.length)) (OM : Seal (∀ u ∈ M, u.oneCell' = true))
    (heq : ∀ W, (Op.equalIn 10000 29 (.agg M.toArray) (.agg M.toArray)).run Tryd.prog W = .ok true W)
    (HM1 : Seal (∀ W, Glob W → Calls Tryd.prog 13 #[.int .i64 x, .agg C.toArray] W fun e w' => e = .returned (.tuple #[.agg M.toArray, .int .i64 e0]) ∧ Below W.heap.size W w'))
    (HM2 : Seal (∀ W, Glob W → Calls Tryd.prog 14 #[.int .i64 x, .agg C.toArray] W fun e w' => e = .returned (.tuple #[.agg M.toArray, .int .i64 e0]) ∧ Below W.heap.size W w'))
    (HC1 : Seal (∀ W, Glob W → Calls Tryd.prog 15 #[.int .i64 key, .agg C.toArray] W fun e w' => e = .returned (.bool t) ∧ Below W.heap.size W w'))
    (HC2 : Seal (∀ W, Glob W → Calls Tryd.prog 16 #[.int .i64 key, .agg C.toArray] W fun e w' => e = .returned (.bool t) ∧ Below W.heap.size W w')) :
    Calls Tryd.prog 3 #[.int .i64 x, .int .i64 key, .agg C.toArray] w fun e w' => e = .returned (.bool true) ∧ Below w.heap.size w w' := by
  have HE1 : Seal (Env (w.alloc (.cells C.toArray 29)) none 0 0 [] [(w.heap.size, .cells C.toArray 29)]) := ⟨Env.push (bs := []) ⟨hG, isB_nil w, by intro p hp; cases hp⟩ _⟩
  have HB1 : Seal (Below w.heap.size w (w.alloc (.cells C.toArray 29))) := ⟨below_alloc _ _⟩
  have ICa : Seal ((Tryd.prog.info? 29).map (·.size) = some C.toArray.size) := ⟨IC.out⟩
  clear hG
  go_enter Tryd.func3, Tryd.ntmps3
  go_wp2_with fail
  refine (hsane_any _ HE1.out.glob).mono ?_
  rintro e w2 ⟨rfl, hb⟩
  have HE2 := Seal.mk (HE1.out.below hb)
  have HB2 := Seal.mk (HB1.out.trans (hb.mono HB1.out.size))
  clear hb HE1 HB1
  have RT := Seal.mk (HE2.out.keep (w.heap.size, .cells C.toArray 29) (by simp))
  go_wp2_with (refine wpList_load_row rfl 29 (.tmp 5) rfl w.heap.size rfl 29 C.toArray (0, 0) _ RT.out Tryd.underlying29 rfl ICa.out ?_)
  refine (HM1.out _ HE2.out.glob).mono ?_
  rintro e w3 ⟨rfl, hb⟩
  have HE3 := Seal.mk ((HE2.out.below hb).push (.cells M.toArray 29))
  have HB3 := Seal.mk ((HB2.out.trans (hb.mono HB2.out.size)).alloc (Nat.le_trans HB2.out.size hb.size) (.cells M.toArray 29))
  clear hb HE2 HB2 RT
  have RT := Seal.mk (HE3.out.keep (w.heap.size, .cells C.toArray 29) (by simp))
  go_wp2_with (first | (refine wpList_store_new rfl 29 (.tmp 7) (.tmp 17) rfl (.int .i64 0 :: .int .i64 0 :: .int .i64 0 :: .int .i64 0 :: .int .i64 0 :: .int .i64 0 :: .int .i64 0 :: .int .u8 0 :: .int .u8 0 :: .int .u8 0 :: .int .u8 0 :: .int .u8 0 :: .int .u8 0 :: .int .u8 0 :: .int .u8 0 :: .int .u8 0 :: .int .u8 0 :: .int .u8 0 :: .int .u8 0 :: .int .u8 0 :: .int .u8 0 :: .int .u8 0 :: .int .u8 0 :: .int .u8 0 :: .int .u8 0 :: .int .u8 0 :: .int .u8 0 :: .int .u8 0 :: .int .u8 0 :: .int .u8 0 :: .int .u8 0 :: .int .u8 0 :: .int .u8 0 :: .int .u8 0 :: .int .u8 0 :: .int .u8 0 :: .int .u8 0 :: .int .u8 0 :: .int .u8 0 :: .int .i64 0 :: .int .i64 0 :: .int .i64 0 :: [] : List Value) M 29 rfl rfl IM.out LM.out OM.out ?_) | (refine wpList_load_row rfl 29 (.tmp 5) rfl w.heap.size rfl 29 C.toArray (0, 0) _ RT.out Tryd.underlying29 rfl ICa.out ?_))
  refine (HM2.out _ HE3.out.glob).mono ?_
  rintro e w4 ⟨rfl, hb⟩
  have HE4 := Seal.mk ((HE3.out.below hb).push (.cells M.toArray 29))
  have HB4 := Seal.mk ((HB3.out.trans (hb.mono HB3.out.size)).alloc (Nat.le_trans HB3.out.size hb.size) (.cells M.toArray 29))
  clear hb HE3 HB3 RT
  go_upto_region 5 with (refine wpList_store_new rfl 29 (.tmp 9) (.tmp 23) rfl (.int .i64 0 :: .int .i64 0 :: .int .i64 0 :: .int .i64 0 :: .int .i64 0 :: .int .i64 0 :: .int .i64 0 :: .int .u8 0 :: .int .u8 0 :: .int .u8 0 :: .int .u8 0 :: .int .u8 0 :: .int .u8 0 :: .int .u8 0 :: .int .u8 0 :: .int .u8 0 :: .int .u8 0 :: .int .u8 0 :: .int .u8 0 :: .int .u8 0 :: .int .u8 0 :: .int .u8 0 :: .int .u8 0 :: .int .u8 0 :: .int .u8 0 :: .int .u8 0 :: .int .u8 0 :: .int .u8 0 :: .int .u8 0 :: .int .u8 0 :: .int .u8 0 :: .int .u8 0 :: .int .u8 0 :: .int .u8 0 :: .int .u8 0 :: .int .u8 0 :: .int .u8 0 :: .int .u8 0 :: .int .u8 0 :: .int .i64 0 :: .int .i64 0 :: .int .i64 0 :: [] : List Value) M 29 rfl rfl IM.out LM.out OM.out ?_)
  obtain ⟨Y, hY⟩ : ∃ Y, Y = w4.alloc (.cells M.toArray 29) := ⟨_, rfl⟩
  rw [← hY] at HE4 HB4 ⊢
  clear hY
  have r1 : Y.rangeAt w3.heap.size 0 M := rangeAt_row (HE4.out.keep (w3.heap.size, .cells M.toArray 29) (by simp))
  have r2 : Y.rangeAt w4.heap.size 0 M := rangeAt_row (HE4.out.keep (w4.heap.size, .cells M.toArray 29) (by simp))
  have r3 : Y.rangeAt w.heap.size 0 C := rangeAt_row (HE4.out.keep (w.heap.size, .cells C.toArray 29) (by simp))
  have i1 := IM.out
  have i2 := IC.out
  have ut := Tryd.underlying29
  have HG : Seal (Glob Y) := ⟨HE4.out.glob⟩
  clear HE4 IM IC ICa LM OM HM1 HM2
  refine wp_region_held_drew (S := fun w' => w'.rangeAt w3.heap.size 0 M ∧ w'.rangeAt w4.heap.size 0 M ∧ w'.rangeAt w.heap.size 0 C) (by kernel_rfl) ⟨r1, r2, r3⟩ (fun hHeld => ?_)
  refine take_h 0 _ rfl (by kernel_rfl) (by kernel_rfl) (by kernel_rfl) (fun _ _ _ h => h) (yieldsIf_load_mid (by kernel_rfl) 29 (.tmp 7) rfl w3.heap.size 0 rfl M _ (fun w hSw => hSw.1) ut rfl i1) (by assumption) ?_
  try simp only [Act.put, List.setIfInBounds_toArray, List.set_cons_zero, List.set_cons_succ]
  refine take_h 1 _ rfl (by kernel_rfl) (by kernel_rfl) (by kernel_rfl) (fun _ _ _ h => h) (yieldsIf_load_mid (by kernel_rfl) 29 (.tmp 9) rfl w4.heap.size 0 rfl M _ (fun w hSw => hSw.2.1) ut rfl i1) (by assumption) ?_
  try simp only [Act.put, List.setIfInBounds_toArray, List.set_cons_zero, List.set_cons_succ]
  refine take_h 2 (.bool true) rfl (by kernel_rfl) (by kernel_rfl) (by kernel_rfl) (fun _ _ _ h => h) (Or.inl ⟨by kernel_rfl, ?_⟩) (by assumption) ?_
  · intro w hSw
    go_simp
  try simp only [Act.put, List.setIfInBounds_toArray, List.set_cons_zero, List.set_cons_succ]
  refine take_h 3 ?_ rfl (by kernel_rfl) (by kernel_rfl) (by kernel_rfl) (fun _ _ _ h => h) (Or.inl ⟨by kernel_rfl, ?_⟩) (by assumption) ?_
  rotate_left
  · (intro w hSw; (try dsimp only at hSw); go_simp; try (with_reducible rfl))
  try simp only [Act.put, List.setIfInBounds_toArray, List.set_cons_zero, List.set_cons_succ]
  refine take_h 4 ?_ rfl (by kernel_rfl) (by kernel_rfl) (by kernel_rfl) (fun _ _ _ h => h) (Or.inl ⟨by kernel_rfl, ?_⟩) (by assumption) ?_
  rotate_left
  · (intro w hSw; (try dsimp only at hSw); go_simp; try (with_reducible rfl))
  try simp only [Act.put, List.setIfInBounds_toArray, List.set_cons_zero, List.set_cons_succ]
  refine take_h 5 ?_ rfl (by kernel_rfl) (by kernel_rfl) (by kernel_rfl) (fun _ _ _ h => h) (Or.inl ⟨by kernel_rfl, ?_⟩) (by assumption) ?_
  rotate_left
  · (intro w hSw; (try dsimp only at hSw); go_simp; try (with_reducible rfl))
  try simp only [Act.put, List.setIfInBounds_toArray, List.set_cons_zero, List.set_cons_succ]
  refine take_h 6 (.bool true) rfl (by kernel_rfl) (by kernel_rfl) (by kernel_rfl) (fun _ _ _ h => h) (Or.inl ⟨by kernel_rfl, ?_⟩) (by assumption) ?_
  · intro w hSw
    go_simp
  try simp only [Act.put, List.setIfInBounds_toArray, List.set_cons_zero, List.set_cons_succ]
  refine take_h 7 ?_ rfl (by kernel_rfl) (by kernel_rfl) (by kernel_rfl) (fun _ _ _ h => h) (Or.inl ⟨by kernel_rfl, ?_⟩) (by assumption) ?_
  rotate_left
  · (intro w hSw; (try dsimp only at hSw); go_simp; try (with_reducible rfl))
  try simp only [Act.put, List.setIfInBounds_toArray, List.set_cons_zero, List.set_cons_succ]
  refine take_h 8 ?_ rfl (by kernel_rfl) (by kernel_rfl) (by kernel_rfl) (fun _ _ _ h => h) (Or.inl ⟨by kernel_rfl, ?_⟩) (by assumption) ?_
  rotate_left
  · (intro w hSw; (try dsimp only at hSw); go_simp; try (with_reducible rfl))
  try simp only [Act.put, List.setIfInBounds_toArray, List.set_cons_zero, List.set_cons_succ]
  refine take_h 9 ?_ rfl (by kernel_rfl) (by kernel_rfl) (by kernel_rfl) (fun _ _ _ h => h) (Or.inl ⟨by kernel_rfl, ?_⟩) (by assumption) ?_
  rotate_left
  · (intro w hSw; (try dsimp only at hSw); go_simp; try (with_reducible rfl))
  try simp only [Act.put, List.setIfInBounds_toArray, List.set_cons_zero, List.set_cons_succ]
  refine take_h 10 _ rfl (by kernel_rfl) (by kernel_rfl) (by kernel_rfl) (fun _ _ _ h => h) (yieldsIf_load_mid (by kernel_rfl) 29 (.tmp 5) rfl w.heap.size 0 rfl C _ (fun w hSw => hSw.2.2) ut rfl i2) (by assumption) ?_
  try simp only [Act.put, List.setIfInBounds_toArray, List.set_cons_zero, List.set_cons_succ]
  refine take_h 12 ?_ rfl (by kernel_rfl) (by kernel_rfl) (by kernel_rfl) (fun _ _ _ h => h) (Or.inl ⟨by kernel_rfl, ?_⟩) (by assumption) ?_
  rotate_left
  · (intro w hSw; (try dsimp only at hSw); go_simp; try (with_reducible rfl))
  try simp only [Act.put, List.setIfInBounds_toArray, List.set_cons_zero, List.set_cons_succ]
  refine take_h 13 _ rfl (by kernel_rfl) (by kernel_rfl) (by kernel_rfl) (fun _ _ _ h => h) (yieldsIf_load_mid (by kernel_rfl) 29 (.tmp 5) rfl w.heap.size 0 rfl C _ (fun w hSw => hSw.2.2) ut rfl i2) (by assumption) ?_
  try simp only [Act.put, List.setIfInBounds_toArray, List.set_cons_zero, List.set_cons_succ]
  refine call_h 11 rfl (by kernel_rfl) 15 #[.int .i64 key, .agg C.toArray] (by kernel_rfl) (by go_simp) ?_
  refine (HC1.out Y.drew ⟨HG.out.start, HG.out.nums⟩).mono ?_
  rintro e w5 ⟨rfl, hb⟩
  have hb2 : Below Y.heap.size Y w5 := ⟨hb.os, hb.tape, hb.output, hb.size, hb.block⟩
  have HB5 : Seal (Below w.heap.size w w5) := ⟨HB4.out.trans (hb2.mono HB4.out.size)⟩
  have HG5 : Seal (Glob w5) := ⟨HG.out.below hb2⟩
  refine ⟨_, rfl, ⟨rangeAt_below' r1 hb2, rangeAt_below' r2 hb2, rangeAt_below' r3 hb2⟩, fun hHeld2 => ?_⟩
  clear hHeld hb hb2 r1 r2 r3
  try simp only [Act.put, List.setIfInBounds_toArray, List.set_cons_zero, List.set_cons_succ]
  refine call_h 14 rfl (by kernel_rfl) 16 #[.int .i64 key, .agg C.toArray] (by kernel_rfl) (by go_simp) ?_
  refine (HC2.out w5 HG5.out).mono ?_
  rintro e w6 ⟨rfl, hb⟩
  have HB6 : Seal (Below w.heap.size w w6) := ⟨HB5.out.trans (hb.mono HB5.out.size)⟩
  refine ⟨_, rfl, ⟨rangeAt_below' hHeld2.1 hb, rangeAt_below' hHeld2.2.1 hb, rangeAt_below' hHeld2.2.2 hb⟩, fun hHeld3 => ?_⟩
  clear hHeld2 hb
  have htt : (t == t) = true := by simp
  try simp only [Act.put, List.setIfInBounds_toArray, List.set_cons_zero, List.set_cons_succ]
  refine take_h 15 (.bool true) rfl (by kernel_rfl) (by kernel_rfl) (by kernel_rfl) (fun _ _ _ h => h) (Or.inl ⟨by kernel_rfl, ?_⟩) (by assumption) ?_
  · intro w hSw
    go_simp
  try simp only [Act.put, List.setIfInBounds_toArray, List.set_cons_zero, List.set_cons_succ]
  refine take_h 16 ?_ rfl (by kernel_rfl) (by kernel_rfl) (by kernel_rfl) (fun _ _ _ h => h) (Or.inl ⟨by kernel_rfl, ?_⟩) (by assumption) ?_
  rotate_left
  · (intro w hSw; (try dsimp only at hSw); go_simp; try (with_reducible rfl))
  try simp only [Act.put, List.setIfInBounds_toArray, List.set_cons_zero, List.set_cons_succ]
  refine take_h 17 ?_ rfl (by kernel_rfl) (by kernel_rfl) (by kernel_rfl) (fun _ _ _ h => h) (Or.inl ⟨by kernel_rfl, ?_⟩) (by assumption) ?_
  rotate_left
  · (intro w hSw; (try dsimp only at hSw); go_simp; try (with_reducible rfl))
  try simp only [Act.put, List.setIfInBounds_toArray, List.set_cons_zero, List.set_cons_succ]
  refine wpAnyH_done (by kernel_rfl) ?_ _
  clear hHeld3
  go_wp2
  go_ret
  exact ⟨rfl, HB6.out⟩

theorem law_handoverSpec (x key : Int) (h : Hd) (w : World) (hG : Glob w) (k : h.ok) :
    Calls Tryd.prog 3 #[.int .i64 x, .int .i64 key, .agg h.C.toArray] w fun e w' => e = .returned (.bool true) ∧ Below w.heap.size w w' := by
  have tM := mkF_len x h k.t32
  exact handover_spec x key (mkF x h).2 (chB key h) h.C (mkF x h).1.C w hG ⟨Hd.C_info k.t32⟩ ⟨Hd.C_info tM⟩ ⟨by rw [Hd.C_len tM]; rfl⟩ ⟨Hd.C_one _⟩
    (fun W => by rw [eqHand _ _ tM tM W, (hdB_iff _ _).2 rfl])
    ⟨fun W g => hmake_any x h W k g⟩ ⟨fun W _ => rmake48_any x h W k⟩ ⟨fun W g => hcheck_any key h W k g⟩ ⟨fun W g => rcheck48_any key h W k g⟩
end Frk
