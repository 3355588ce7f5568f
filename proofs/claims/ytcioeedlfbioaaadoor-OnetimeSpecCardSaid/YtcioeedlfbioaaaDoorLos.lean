/- The law OnetimeSpec, walked. -/
import Derived.Test.YtcioeedlfbioaaaDoorSao
import Derived.Test.YtcioeedlfbioaaaDoorRus
namespace Frk
open Go Go.RowKit Go.Proofs
set_option maxRecDepth 100000

theorem makeF_len (L K al r : Int) : (makeF L K al r).2.2.2.2.1.length = 32 := by
  unfold makeF
  split
  · exact zb32_len
  · split
    · split
      · exact sha_length _
      · exact zb32_len
    · exact zb32_len

set_option maxHeartbeats 4000000 in
theorem law_onetimeSpec (line key al r L K P Q : Int) (T : Bytes) (w : World) (hG : Glob w) (h1 : I64 line) (h2 : I64 key) (h4 : I64 r) (hL : I64 L) (hK : I64 K) (hP : I64 P) (hQ : I64 Q) (hT : T.length = 32) :
    Calls Tryd.prog 3 #[.int .i64 line, .int .i64 key, .int .i64 al, .int .i64 r, .agg (retC L K P Q T).toArray] w fun e w' => e = .returned (.bool true) ∧ Below w.heap.size w w' := by
  obtain ⟨C, hC⟩ : ∃ C, C = retC L K P Q T := ⟨_, rfl⟩
  obtain ⟨a, b, c, d, T', e', hM⟩ : ∃ a b c d T' e', makeF line key al r = (a, b, c, d, T', e') := ⟨_, _, _, _, _, _, rfl⟩
  have hT' : T'.length = 32 := by have := makeF_len line key al r; rw [hM] at this; exact this
  obtain ⟨M, hMM⟩ : ∃ M, M = retC a b c d T' := ⟨_, rfl⟩
  have ml : M.length = 36 := by rw [hMM]; exact retC_len hT'
  have cl : C.length = 36 := by rw [hC]; exact retC_len hT
  have ir : (Tryd.prog.info? 27).map (·.size) = some 36 := by kernel_rfl
  have HE1 : Seal (Env (w.alloc (.cells C.toArray 27)) none 0 0 [] [(w.heap.size, .cells C.toArray 27)]) := ⟨Env.push (bs := []) ⟨hG, isB_nil w, by intro p hp; cases hp⟩ _⟩
  have HB1 : Seal (Below w.heap.size w (w.alloc (.cells C.toArray 27))) := ⟨below_alloc _ _⟩
  have HM1 : Seal (∀ W, Glob W → Calls Tryd.prog 13 #[.int .i64 line, .int .i64 key, .int .i64 al, .int .i64 r] W fun e w' => e = .returned (.tuple #[.agg M.toArray, .int .i64 e']) ∧ Below W.heap.size W w') := ⟨fun W h => by rw [hMM]; exact omake_at line key al r a b c d e' T' W h h1 h2 h4.1 h4.2 ⟨hM⟩⟩
  have HM2 : Seal (∀ W, Glob W → Calls Tryd.prog 14 #[.int .i64 line, .int .i64 key, .int .i64 al, .int .i64 r] W fun e w' => e = .returned (.tuple #[.agg M.toArray, .int .i64 e']) ∧ Below W.heap.size W w') := ⟨fun W h => by rw [hMM]; exact rmake_at line key al r a b c d e' T' W h h1 h2 h4.1 h4.2 ⟨hM⟩⟩
  obtain ⟨t, ht⟩ : ∃ t, chkB L K P Q T = t := ⟨_, rfl⟩
  obtain ⟨x, hx⟩ : ∃ x : Int, x = (if t = true then 0 else 160) := ⟨_, rfl⟩
  have HC1 : Seal (∀ W, Glob W → Calls Tryd.prog 15 #[.agg C.toArray] W fun e w' => e = .returned (.int .i64 x) ∧ Below W.heap.size W w') := ⟨fun W h => by rw [hC, hx]; exact ocheck_any L K P Q T t W h hL hK hP hQ hT ht⟩
  have HC2 : Seal (∀ W, Glob W → Calls Tryd.prog 16 #[.agg C.toArray] W fun e w' => e = .returned (.int .i64 x) ∧ Below W.heap.size W w') := ⟨fun W h => by rw [hC, hx]; exact rocheck_any L K P Q T t W h hL hK hP hQ hT ht⟩
  have heq : ∀ W, (Op.equalIn 10000 27 (.agg M.toArray) (.agg M.toArray)).run Tryd.prog W = .ok true W := fun W => by rw [hMM, eqRet _ _ _ _ _ _ _ _ _ _ hT' hT' W]; simp
  have IM : Seal ((Tryd.prog.info? 27).map (·.size) = some M.length) := ⟨by rw [ml]; exact ir⟩
  have IC : Seal ((Tryd.prog.info? 27).map (·.size) = some C.length) := ⟨by rw [cl]; exact ir⟩
  have LM : Seal (((.int .i64 0 :: .int .i64 0 :: .int .i64 0 :: .int .i64 0 :: .int .u8 0 :: .int .u8 0 :: .int .u8 0 :: .int .u8 0 :: .int .u8 0 :: .int .u8 0 :: .int .u8 0 :: .int .u8 0 :: .int .u8 0 :: .int .u8 0 :: .int .u8 0 :: .int .u8 0 :: .int .u8 0 :: .int .u8 0 :: .int .u8 0 :: .int .u8 0 :: .int .u8 0 :: .int .u8 0 :: .int .u8 0 :: .int .u8 0 :: .int .u8 0 :: .int .u8 0 :: .int .u8 0 :: .int .u8 0 :: .int .u8 0 :: .int .u8 0 :: .int .u8 0 :: .int .u8 0 :: .int .u8 0 :: .int .u8 0 :: .int .u8 0 :: .int .u8 0 :: [] : List Value)).length = M.length) := ⟨by rw [ml]; rfl⟩
  have OM : Seal (∀ u ∈ M, u.oneCell' = true) := ⟨by rw [hMM]; exact retC_one _ _ _ _ _⟩
  rw [← hC]
  clear hG h1 h2 h4 hL hK hP hQ hT hC hM hT' hMM ml cl ir ht hx
  go_enter Tryd.func3, Tryd.ntmps3
  go_wp2_with fail
  refine (osane_any _ HE1.out.glob).mono ?_
  rintro e w2 ⟨rfl, hb⟩
  have HE2 := Seal.mk (HE1.out.below hb)
  have HB2 := Seal.mk (HB1.out.trans (hb.mono HB1.out.size))
  clear hb HE1 HB1
  go_wp2_with fail
  refine (HM1.out _ HE2.out.glob).mono ?_
  rintro e w3 ⟨rfl, hb⟩
  have HE3 := Seal.mk ((HE2.out.below hb).push (.cells M.toArray 27))
  have HB3 := Seal.mk ((HB2.out.trans (hb.mono HB2.out.size)).alloc (Nat.le_trans HB2.out.size hb.size) (.cells M.toArray 27))
  clear hb HE2 HB2
  go_wp2_with (refine wpList_store_new rfl 27 (.tmp 11) (.tmp 23) rfl (.int .i64 0 :: .int .i64 0 :: .int .i64 0 :: .int .i64 0 :: .int .u8 0 :: .int .u8 0 :: .int .u8 0 :: .int .u8 0 :: .int .u8 0 :: .int .u8 0 :: .int .u8 0 :: .int .u8 0 :: .int .u8 0 :: .int .u8 0 :: .int .u8 0 :: .int .u8 0 :: .int .u8 0 :: .int .u8 0 :: .int .u8 0 :: .int .u8 0 :: .int .u8 0 :: .int .u8 0 :: .int .u8 0 :: .int .u8 0 :: .int .u8 0 :: .int .u8 0 :: .int .u8 0 :: .int .u8 0 :: .int .u8 0 :: .int .u8 0 :: .int .u8 0 :: .int .u8 0 :: .int .u8 0 :: .int .u8 0 :: .int .u8 0 :: .int .u8 0 :: [] : List Value) M 27 rfl rfl IM.out LM.out OM.out ?_)
  refine (HM2.out _ HE3.out.glob).mono ?_
  rintro e w4 ⟨rfl, hb⟩
  have HE4 := Seal.mk ((HE3.out.below hb).push (.cells M.toArray 27))
  have HB4 := Seal.mk ((HB3.out.trans (hb.mono HB3.out.size)).alloc (Nat.le_trans HB3.out.size hb.size) (.cells M.toArray 27))
  clear hb HE3 HB3
  go_wp2_with (refine wpList_store_new rfl 27 (.tmp 13) (.tmp 31) rfl (.int .i64 0 :: .int .i64 0 :: .int .i64 0 :: .int .i64 0 :: .int .u8 0 :: .int .u8 0 :: .int .u8 0 :: .int .u8 0 :: .int .u8 0 :: .int .u8 0 :: .int .u8 0 :: .int .u8 0 :: .int .u8 0 :: .int .u8 0 :: .int .u8 0 :: .int .u8 0 :: .int .u8 0 :: .int .u8 0 :: .int .u8 0 :: .int .u8 0 :: .int .u8 0 :: .int .u8 0 :: .int .u8 0 :: .int .u8 0 :: .int .u8 0 :: .int .u8 0 :: .int .u8 0 :: .int .u8 0 :: .int .u8 0 :: .int .u8 0 :: .int .u8 0 :: .int .u8 0 :: .int .u8 0 :: .int .u8 0 :: .int .u8 0 :: .int .u8 0 :: [] : List Value) M 27 rfl rfl IM.out LM.out OM.out ?_)
  obtain ⟨Y, hY⟩ : ∃ Y, Y = w4.alloc (.cells M.toArray 27) := ⟨_, rfl⟩
  rw [← hY] at HE4 HB4 ⊢
  clear hY
  have r1 : Y.rangeAt w3.heap.size 0 M := rangeAt_row (HE4.out.keep (w3.heap.size, .cells M.toArray 27) (by simp))
  have r2 : Y.rangeAt w4.heap.size 0 M := rangeAt_row (HE4.out.keep (w4.heap.size, .cells M.toArray 27) (by simp))
  have r3 : Y.rangeAt w.heap.size 0 C := rangeAt_row (HE4.out.keep (w.heap.size, .cells C.toArray 27) (by simp))
  have i1 := IM.out
  have i2 := IC.out
  have ut := Tryd.underlying27
  have HG : Seal (Glob Y) := ⟨HE4.out.glob⟩
  clear HE4 IM IC LM OM HM1 HM2
  refine wp_region_held_drew (S := fun w' => w'.rangeAt w3.heap.size 0 M ∧ w'.rangeAt w4.heap.size 0 M ∧ w'.rangeAt w.heap.size 0 C) (by kernel_rfl) ⟨r1, r2, r3⟩ (fun hHeld => ?_)
  refine take_h 0 _ rfl (by kernel_rfl) (by kernel_rfl) (by kernel_rfl) (fun _ _ _ h => h) (yieldsIf_load_mid (by kernel_rfl) 27 (.tmp 11) rfl w3.heap.size 0 rfl M _ (fun w hSw => hSw.1) ut rfl i1) (by assumption) ?_
  try simp only [Act.put, List.setIfInBounds_toArray, List.set_cons_zero, List.set_cons_succ]
  refine take_h 1 _ rfl (by kernel_rfl) (by kernel_rfl) (by kernel_rfl) (fun _ _ _ h => h) (yieldsIf_load_mid (by kernel_rfl) 27 (.tmp 13) rfl w4.heap.size 0 rfl M _ (fun w hSw => hSw.2.1) ut rfl i1) (by assumption) ?_
  try simp only [Act.put, List.setIfInBounds_toArray, List.set_cons_zero, List.set_cons_succ]
  refine take_h 2 ?_ rfl (by kernel_rfl) (by kernel_rfl) (by kernel_rfl) (fun _ _ _ h => h) (Or.inl ⟨by kernel_rfl, ?_⟩) (by assumption) ?_
  rotate_left
  · (intro w hSw; (try dsimp only at hSw); go_simp; try (with_reducible rfl))
  try simp only [Act.put, List.setIfInBounds_toArray, List.set_cons_zero, List.set_cons_succ]
  refine take_h 3 ?_ rfl (by kernel_rfl) (by kernel_rfl) (by kernel_rfl) (fun _ _ _ h => h) (Or.inl ⟨by kernel_rfl, ?_⟩) (by assumption) ?_
  rotate_left
  · (intro w hSw; (try dsimp only at hSw); go_simp; try (with_reducible rfl))
  try simp only [Act.put, List.setIfInBounds_toArray, List.set_cons_zero, List.set_cons_succ]
  refine take_h 4 ?_ rfl (by kernel_rfl) (by kernel_rfl) (by kernel_rfl) (fun _ _ _ h => h) (Or.inl ⟨by kernel_rfl, ?_⟩) (by assumption) ?_
  rotate_left
  · (intro w hSw; (try dsimp only at hSw); go_simp; try (with_reducible rfl))
  try simp only [Act.put, List.setIfInBounds_toArray, List.set_cons_zero, List.set_cons_succ]
  refine take_h 5 ?_ rfl (by kernel_rfl) (by kernel_rfl) (by kernel_rfl) (fun _ _ _ h => h) (Or.inl ⟨by kernel_rfl, ?_⟩) (by assumption) ?_
  rotate_left
  · (intro w hSw; (try dsimp only at hSw); go_simp; try (with_reducible rfl))
  try simp only [Act.put, List.setIfInBounds_toArray, List.set_cons_zero, List.set_cons_succ]
  refine take_h 6 ?_ rfl (by kernel_rfl) (by kernel_rfl) (by kernel_rfl) (fun _ _ _ h => h) (Or.inl ⟨by kernel_rfl, ?_⟩) (by assumption) ?_
  rotate_left
  · (intro w hSw; (try dsimp only at hSw); go_simp; try (with_reducible rfl))
  try simp only [Act.put, List.setIfInBounds_toArray, List.set_cons_zero, List.set_cons_succ]
  refine take_h 7 ?_ rfl (by kernel_rfl) (by kernel_rfl) (by kernel_rfl) (fun _ _ _ h => h) (Or.inl ⟨by kernel_rfl, ?_⟩) (by assumption) ?_
  rotate_left
  · (intro w hSw; (try dsimp only at hSw); go_simp; try (with_reducible rfl))
  try simp only [Act.put, List.setIfInBounds_toArray, List.set_cons_zero, List.set_cons_succ]
  refine take_h 8 ?_ rfl (by kernel_rfl) (by kernel_rfl) (by kernel_rfl) (fun _ _ _ h => h) (Or.inl ⟨by kernel_rfl, ?_⟩) (by assumption) ?_
  rotate_left
  · (intro w hSw; (try dsimp only at hSw); go_simp; try (with_reducible rfl))
  try simp only [Act.put, List.setIfInBounds_toArray, List.set_cons_zero, List.set_cons_succ]
  refine take_h 9 _ rfl (by kernel_rfl) (by kernel_rfl) (by kernel_rfl) (fun _ _ _ h => h) (yieldsIf_load_mid (by kernel_rfl) 27 (.tmp 9) rfl w.heap.size 0 rfl C _ (fun w hSw => hSw.2.2) ut rfl i2) (by assumption) ?_
  try simp only [Act.put, List.setIfInBounds_toArray, List.set_cons_zero, List.set_cons_succ]
  refine take_h 11 _ rfl (by kernel_rfl) (by kernel_rfl) (by kernel_rfl) (fun _ _ _ h => h) (yieldsIf_load_mid (by kernel_rfl) 27 (.tmp 9) rfl w.heap.size 0 rfl C _ (fun w hSw => hSw.2.2) ut rfl i2) (by assumption) ?_
  try simp only [Act.put, List.setIfInBounds_toArray, List.set_cons_zero, List.set_cons_succ]
  refine call_h 10 rfl (by kernel_rfl) 15 #[.agg C.toArray] (by kernel_rfl) (by go_simp) ?_
  refine (HC1.out Y.drew ⟨HG.out.start, HG.out.nums⟩).mono ?_
  rintro e w5 ⟨rfl, hb⟩
  have hb2 : Below Y.heap.size Y w5 := ⟨hb.os, hb.tape, hb.output, hb.size, hb.block⟩
  have HB5 : Seal (Below w.heap.size w w5) := ⟨HB4.out.trans (hb2.mono HB4.out.size)⟩
  have HG5 : Seal (Glob w5) := ⟨HG.out.below hb2⟩
  refine ⟨_, rfl, ⟨rangeAt_below' r1 hb2, rangeAt_below' r2 hb2, rangeAt_below' r3 hb2⟩, fun hHeld2 => ?_⟩
  clear hHeld hb hb2 r1 r2 r3
  try simp only [Act.put, List.setIfInBounds_toArray, List.set_cons_zero, List.set_cons_succ]
  refine call_h 12 rfl (by kernel_rfl) 16 #[.agg C.toArray] (by kernel_rfl) (by go_simp) ?_
  refine (HC2.out w5 HG5.out).mono ?_
  rintro e w6 ⟨rfl, hb⟩
  have HB6 : Seal (Below w.heap.size w w6) := ⟨HB5.out.trans (hb.mono HB5.out.size)⟩
  refine ⟨_, rfl, ⟨rangeAt_below' hHeld2.1 hb, rangeAt_below' hHeld2.2.1 hb, rangeAt_below' hHeld2.2.2 hb⟩, fun hHeld3 => ?_⟩
  clear hHeld2 hb
  try simp only [Act.put, List.setIfInBounds_toArray, List.set_cons_zero, List.set_cons_succ]
  refine take_h 13 ?_ rfl (by kernel_rfl) (by kernel_rfl) (by kernel_rfl) (fun _ _ _ h => h) (Or.inl ⟨by kernel_rfl, ?_⟩) (by assumption) ?_
  rotate_left
  · (intro w hSw; (try dsimp only at hSw); go_simp; try (with_reducible rfl))
  try simp only [Act.put, List.setIfInBounds_toArray, List.set_cons_zero, List.set_cons_succ]
  refine take_h 14 ?_ rfl (by kernel_rfl) (by kernel_rfl) (by kernel_rfl) (fun _ _ _ h => h) (Or.inl ⟨by kernel_rfl, ?_⟩) (by assumption) ?_
  rotate_left
  · (intro w hSw; (try dsimp only at hSw); go_simp; try (with_reducible rfl))
  try simp only [Act.put, List.setIfInBounds_toArray, List.set_cons_zero, List.set_cons_succ]
  refine take_h 15 ?_ rfl (by kernel_rfl) (by kernel_rfl) (by kernel_rfl) (fun _ _ _ h => h) (Or.inl ⟨by kernel_rfl, ?_⟩) (by assumption) ?_
  rotate_left
  · (intro w hSw; (try dsimp only at hSw); go_simp; try (with_reducible rfl))
  try simp only [Act.put, List.setIfInBounds_toArray, List.set_cons_zero, List.set_cons_succ]
  refine wpAnyH_done (by kernel_rfl) ?_ _
  clear hHeld3
  go_wp2
  go_ret
  exact ⟨by simp, HB6.out⟩
end Frk
