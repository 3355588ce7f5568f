/- The law OnetimeReads, walked: the good case, and the plain part. -/
import Derived.Test.YtgdhjapnploaoaaDoorOrj
import Derived.Test.YtgdhjapnploaoaaDoorOrk
namespace Frk
open Go Go.RowKit Go.Proofs
set_option maxRecDepth 100000




set_option maxHeartbeats 16000000 in
theorem reads_full (line one two al r a b m0 m1 m2 d1 d2 J s0 s1 s2 s3 s4 s5 : Int) (Xl D1 D2 E1 E2 : List Value) (w : World) (hG : Glob w)
    (IX : Seal ((Tryd.prog.info? 29).map (·.size) = some Xl.length)) (LX : Seal ((.int .i64 0 :: .int .i64 0 :: .int .i64 0 :: .int .i64 0 :: .int .u8 0 :: .int .u8 0 :: .int .u8 0 :: .int .u8 0 :: .int .u8 0 :: .int .u8 0 :: .int .u8 0 :: .int .u8 0 :: .int .u8 0 :: .int .u8 0 :: .int .u8 0 :: .int .u8 0 :: .int .u8 0 :: .int .u8 0 :: .int .u8 0 :: .int .u8 0 :: .int .u8 0 :: .int .u8 0 :: .int .u8 0 :: .int .u8 0 :: .int .u8 0 :: .int .u8 0 :: .int .u8 0 :: .int .u8 0 :: .int .u8 0 :: .int .u8 0 :: .int .u8 0 :: .int .u8 0 :: .int .u8 0 :: .int .u8 0 :: .int .u8 0 :: .int .u8 0 :: [] : List Value).length = Xl.length)) (OX : Seal (∀ u ∈ Xl, u.oneCell' = true))
    (ID1 : Seal ((Tryd.prog.info? 32).map (·.size) = some D1.length)) (LD1 : Seal (([.int .i64 0, .int .i64 0, .int .i64 0, .int .i64 0, .int .i64 0, .int .i64 0] : List Value).length = D1.length)) (OD1 : Seal (∀ u ∈ D1, u.oneCell' = true))
    (ID2 : Seal ((Tryd.prog.info? 32).map (·.size) = some D2.length)) (LD2 : Seal (([.int .i64 0, .int .i64 0, .int .i64 0, .int .i64 0, .int .i64 0, .int .i64 0] : List Value).length = D2.length)) (OD2 : Seal (∀ u ∈ D2, u.oneCell' = true))
    (IE1 : Seal ((Tryd.prog.info? 32).map (·.size) = some E1.length)) (LE1 : Seal (([.int .i64 0, .int .i64 0, .int .i64 0, .int .i64 0, .int .i64 0, .int .i64 0] : List Value).length = E1.length)) (OE1 : Seal (∀ u ∈ E1, u.oneCell' = true))
    (IE2 : Seal ((Tryd.prog.info? 32).map (·.size) = some E2.length)) (LE2 : Seal (([.int .i64 0, .int .i64 0, .int .i64 0, .int .i64 0, .int .i64 0, .int .i64 0] : List Value).length = E2.length)) (OE2 : Seal (∀ u ∈ E2, u.oneCell' = true))
    (HP1 : Seal (∀ W, Calls Tryd.prog 19 #[.int .i64 one] W fun e w' => e = .returned (.tuple #[.int .i64 d1, .int .i64 0]) ∧ Below W.heap.size W w')) (HP2 : Seal (∀ W, Calls Tryd.prog 19 #[.int .i64 two] W fun e w' => e = .returned (.tuple #[.int .i64 d2, .int .i64 0]) ∧ Below W.heap.size W w')) (HJ : Seal (∀ W g, W.heap[g]? = some (.cells #[.int .i64 d1, .int .i64 d2] 3 (0, 0)) → Calls Tryd.prog 20 #[.slice (some ⟨g, 0, none⟩) 2 2] W fun e w' => e = .returned (.tuple #[.int .i64 J, .int .i64 0]) ∧ W = w')) (HM1 : Seal (∀ W, Glob W → Calls Tryd.prog 16 #[.int .i64 line, .int .i64 J, .int .i64 al, .int .i64 r] W fun e w' => e = .returned (.tuple #[.agg Xl.toArray, .int .i64 0]) ∧ Below W.heap.size W w')) (HU1 : Seal (∀ W, Glob W → Calls Tryd.prog 24 #[.agg Xl.toArray, .agg #[.int .i64 a, .int .i64 b], .agg #[.int .i64 m0, .int .i64 m1, .int .i64 m2]] W fun e w' => e = .returned (.tuple #[.agg #[.int .i64 s0, .int .i64 s1, .int .i64 s2, .int .i64 s3, .int .i64 s4, .int .i64 s5], .int .i64 0]) ∧ Below W.heap.size W w'))
    (HC1 : Seal (∀ W, Glob W → Calls Tryd.prog 25 #[.agg Xl.toArray] W fun e w' => e = .returned (.int .i64 0) ∧ Below W.heap.size W w')) (HC2 : Seal (∀ W, Calls Tryd.prog 26 #[.agg #[.int .i64 s0, .int .i64 s1, .int .i64 s2, .int .i64 s3, .int .i64 s4, .int .i64 s5]] W fun e w' => e = .returned (.int .i64 0) ∧ Below W.heap.size W w'))
    (HA1 : Seal (∀ W, Calls Tryd.prog 21 #[.int .i64 one, .agg #[.int .i64 s0, .int .i64 s1, .int .i64 s2, .int .i64 s3, .int .i64 s4, .int .i64 s5]] W fun e w' => e = .returned (.tuple #[.agg D1.toArray, .int .i64 0]) ∧ Below W.heap.size W w')) (HA2 : Seal (∀ W, Calls Tryd.prog 21 #[.int .i64 two, .agg D1.toArray] W fun e w' => e = .returned (.tuple #[.agg D2.toArray, .int .i64 0]) ∧ Below W.heap.size W w')) (HA3 : Seal (∀ W, Calls Tryd.prog 22 #[.agg D2.toArray] W fun e w' => e = .returned (.tuple #[.agg #[.int .i64 al, .int .i64 a, .int .i64 b], .int .i64 0]) ∧ Below W.heap.size W w'))
    (HF1 : Seal (∀ W, Calls Tryd.prog 21 #[.int .i64 two, .agg #[.int .i64 s0, .int .i64 s1, .int .i64 s2, .int .i64 s3, .int .i64 s4, .int .i64 s5]] W fun e w' => e = .returned (.tuple #[.agg E1.toArray, .int .i64 0]) ∧ Below W.heap.size W w')) (HF2 : Seal (∀ W, Calls Tryd.prog 21 #[.int .i64 one, .agg E1.toArray] W fun e w' => e = .returned (.tuple #[.agg E2.toArray, .int .i64 0]) ∧ Below W.heap.size W w')) (HF3 : Seal (∀ W, Calls Tryd.prog 22 #[.agg E2.toArray] W fun e w' => e = .returned (.tuple #[.agg #[.int .i64 al, .int .i64 a, .int .i64 b], .int .i64 0]) ∧ Below W.heap.size W w'))
    (HSe : Seal (∀ W, Calls Tryd.prog 18 #[.int .i64 J, .agg #[.int .i64 al, .int .i64 a, .int .i64 b], .agg #[.int .i64 ((wrap64 (r.tmod 1073741789 + m0.tmod 1073741789)).tmod 1073741789), .int .i64 m1, .int .i64 m2]] W fun e w' => e = .returned (.tuple #[.agg #[.int .i64 s0, .int .i64 s1, .int .i64 s2, .int .i64 s3, .int .i64 s4, .int .i64 s5], .int .i64 0]) ∧ Below W.heap.size W w')) :
    Calls Tryd.prog 8 #[.int .i64 line, .int .i64 one, .int .i64 two, .int .i64 al, .int .i64 r, .agg #[.int .i64 a, .int .i64 b], .agg #[.int .i64 m0, .int .i64 m1, .int .i64 m2]] w fun e w' => e = .returned (.bool true) ∧ Below w.heap.size w w' := by
  have IXa : Seal ((Tryd.prog.info? 29).map (·.size) = some Xl.toArray.size) := ⟨by rw [List.size_toArray]; exact IX.out⟩
  have JD1 : Seal ((Tryd.prog.info? 32).map (·.size) = some D1.toArray.size) := ⟨by rw [List.size_toArray]; exact ID1.out⟩
  have JD2 : Seal ((Tryd.prog.info? 32).map (·.size) = some D2.toArray.size) := ⟨by rw [List.size_toArray]; exact ID2.out⟩
  have JE1 : Seal ((Tryd.prog.info? 32).map (·.size) = some E1.toArray.size) := ⟨by rw [List.size_toArray]; exact IE1.out⟩
  have JE2 : Seal ((Tryd.prog.info? 32).map (·.size) = some E2.toArray.size) := ⟨by rw [List.size_toArray]; exact IE2.out⟩
  have I2 := Seal.mk (show (Tryd.prog.info? 62).map (·.size) = some 2 by kernel_rfl)
  have I3 := Seal.mk (show (Tryd.prog.info? 22).map (·.size) = some 3 by kernel_rfl)
  have I6 := Seal.mk (show (Tryd.prog.info? 32).map (·.size) = some 6 by kernel_rfl)
  have IW := Seal.mk (show (Tryd.prog.info? 23).map (·.size) = some 3 by kernel_rfl)
  have heq := fun W => eqSe s0 s1 s2 s3 s4 s5 W
  have heqw := fun W => eqWd al a b W
  have HE1 : Seal (Env ((w.alloc (.cells #[.int .i64 a, .int .i64 b] 62)).alloc (.cells #[.int .i64 m0, .int .i64 m1, .int .i64 m2] 22)) none 0 0 [] [(w.heap.size + 1, .cells #[.int .i64 m0, .int .i64 m1, .int .i64 m2] 22), (w.heap.size, .cells #[.int .i64 a, .int .i64 b] 62)]) := ⟨by
    have h1 := Env.push (bs := []) ⟨hG, isB_nil w, by intro p hp; cases hp⟩ (.cells #[.int .i64 a, .int .i64 b] 62)
    have h2 := h1.push (.cells #[.int .i64 m0, .int .i64 m1, .int .i64 m2] 22)
    rw [size_alloc] at h2
    exact h2⟩
  have HB1 : Seal (Below w.heap.size w ((w.alloc (.cells #[.int .i64 a, .int .i64 b] 62)).alloc (.cells #[.int .i64 m0, .int .i64 m1, .int .i64 m2] 22))) := ⟨((Below.refl _ w).alloc (Nat.le_refl _) _).alloc (by simp) _⟩
  clear hG
  go_enter Tryd.func8, Tryd.ntmps8
  go_wp2_with fail
  refine (osane_any _ HE1.out.glob).mono ?_
  rintro e w2 ⟨rfl, hbb⟩
  have HE2 := Seal.mk (HE1.out.below hbb)
  have HB2 := Seal.mk (HB1.out.trans (hbb.mono HB1.out.size))
  clear hbb HE1 HB1
  go_wp2_with fail
  refine (HP1.out _).mono ?_
  rintro e w3 ⟨rfl, hbb⟩
  have HE3 := Seal.mk (HE2.out.below hbb)
  have HB3 := Seal.mk (HB2.out.trans (hbb.mono HB2.out.size))
  clear hbb HE2 HB2
  go_wp2_with fail
  refine (HP2.out _).mono ?_
  rintro e w4 ⟨rfl, hbb⟩
  have HE4 := Seal.mk (HE3.out.below hbb)
  have HB4 := Seal.mk (HB3.out.trans (hbb.mono HB3.out.size))
  clear hbb HE3 HB3
  go_wp2_with fail
  refine (HJ.out (w4.alloc (.cells #[.int .i64 d1, .int .i64 d2] 3)) w4.heap.size (heap_alloc_new w4 _)).mono ?_
  rintro e w5 ⟨rfl, rfl⟩
  have HE5 := Seal.mk (HE4.out.push (.cells #[.int .i64 d1, .int .i64 d2] 3))
  have HB5 := Seal.mk (HB4.out.alloc HB4.out.size (.cells #[.int .i64 d1, .int .i64 d2] 3))
  clear HE4 HB4
  go_wp2_with fail
  refine (HM1.out _ HE5.out.glob).mono ?_
  rintro e w6 ⟨rfl, hbb⟩
  have HE6 := Seal.mk ((HE5.out.below hbb).push (.cells Xl.toArray 29))
  have HB6 := Seal.mk ((HB5.out.trans (hbb.mono HB5.out.size)).alloc (Nat.le_trans HB5.out.size hbb.size) (.cells Xl.toArray 29))
  clear hbb HE5 HB5
  go_wp2_with (first | (refine wpList_store_new rfl 29 (.tmp 21) (.tmp 69) rfl (.int .i64 0 :: .int .i64 0 :: .int .i64 0 :: .int .i64 0 :: .int .u8 0 :: .int .u8 0 :: .int .u8 0 :: .int .u8 0 :: .int .u8 0 :: .int .u8 0 :: .int .u8 0 :: .int .u8 0 :: .int .u8 0 :: .int .u8 0 :: .int .u8 0 :: .int .u8 0 :: .int .u8 0 :: .int .u8 0 :: .int .u8 0 :: .int .u8 0 :: .int .u8 0 :: .int .u8 0 :: .int .u8 0 :: .int .u8 0 :: .int .u8 0 :: .int .u8 0 :: .int .u8 0 :: .int .u8 0 :: .int .u8 0 :: .int .u8 0 :: .int .u8 0 :: .int .u8 0 :: .int .u8 0 :: .int .u8 0 :: .int .u8 0 :: .int .u8 0 :: [] : List Value) Xl 29 rfl rfl IX.out LX.out OX.out ?_) | (refine wpList_load_row rfl 62 (.tmp 12) rfl (w.heap.size) rfl 62 #[.int .i64 a, .int .i64 b] (0, 0) _ (HE6.out.keep (w.heap.size, .cells #[.int .i64 a, .int .i64 b] 62) (by simp)) Tryd.underlying62 rfl I2.out ?_) | (refine wpList_load_row rfl 29 (.tmp 21) rfl (w6.heap.size) rfl 29 Xl.toArray (0, 0) _ (HE6.out.keep (w6.heap.size, .cells Xl.toArray 29) (by simp)) Tryd.underlying29 rfl IXa.out ?_) | (refine wpList_load_row rfl 22 (.tmp 13) rfl (w.heap.size + 1) rfl 22 #[.int .i64 m0, .int .i64 m1, .int .i64 m2] (0, 0) _ (HE6.out.keep (w.heap.size + 1, .cells #[.int .i64 m0, .int .i64 m1, .int .i64 m2] 22) (by simp)) Tryd.underlying22 rfl I3.out ?_))
  refine (HU1.out _ HE6.out.glob).mono ?_
  rintro e w7 ⟨rfl, hbb⟩
  have HE7 := Seal.mk ((HE6.out.below hbb).push (.cells #[.int .i64 s0, .int .i64 s1, .int .i64 s2, .int .i64 s3, .int .i64 s4, .int .i64 s5] 32))
  have HB7 := Seal.mk ((HB6.out.trans (hbb.mono HB6.out.size)).alloc (Nat.le_trans HB6.out.size hbb.size) (.cells #[.int .i64 s0, .int .i64 s1, .int .i64 s2, .int .i64 s3, .int .i64 s4, .int .i64 s5] 32))
  clear hbb HE6 HB6
  have hs7 := Seal.mk (HE7.out.keep (w7.heap.size, .cells #[.int .i64 s0, .int .i64 s1, .int .i64 s2, .int .i64 s3, .int .i64 s4, .int .i64 s5] 32) (by simp))
  go_wp2_with (refine wpList_load_row rfl 29 (.tmp 21) rfl (w6.heap.size) rfl 29 Xl.toArray (0, 0) _ (HE7.out.keep (w6.heap.size, .cells Xl.toArray 29) (by simp)) Tryd.underlying29 rfl IXa.out ?_)
  refine (HC1.out _ HE7.out.glob).mono ?_
  rintro e w8 ⟨rfl, hbb⟩
  have HE8 := Seal.mk (HE7.out.below hbb)
  have HB8 := Seal.mk (HB7.out.trans (hbb.mono HB7.out.size))
  have hs8 := Seal.mk (HE8.out.keep (w7.heap.size, .cells #[.int .i64 s0, .int .i64 s1, .int .i64 s2, .int .i64 s3, .int .i64 s4, .int .i64 s5] 32) (by simp))
  clear hbb HE7 HB7 hs7
  go_wp2_with (refine wpList_load_row_g (by rfl) 32 (.tmp 23) rfl (w7.heap.size) rfl 32 #[.int .i64 s0, .int .i64 s1, .int .i64 s2, .int .i64 s3, .int .i64 s4, .int .i64 s5] (0, 0) _ hs8.out Tryd.underlying32 rfl I6.out ?_)
  refine (HC2.out _).mono ?_
  rintro e w9 ⟨rfl, hbb⟩
  have HE9 := Seal.mk ((HE8.out.below hbb).push (.cells #[.int .i64 one, .int .i64 two, .int .i64 two, .int .i64 one] 62))
  have HB9 := Seal.mk ((HB8.out.trans (hbb.mono HB8.out.size)).alloc (Nat.le_trans HB8.out.size hbb.size) (.cells #[.int .i64 one, .int .i64 two, .int .i64 two, .int .i64 one] 62))
  clear hbb HE8 HB8 hs8
  go_wp2_with fail
  obtain ⟨gO, hgO⟩ : ∃ g, g = w9.heap.size := ⟨_, rfl⟩
  obtain ⟨X, hX⟩ : ∃ X, X = w9.alloc (.cells #[.int .i64 one, .int .i64 two, .int .i64 two, .int .i64 one] 62) := ⟨_, rfl⟩
  rw [← hX, ← hgO] at HE9
  rw [← hX] at HB9
  rw [← hX, ← hgO]
  clear hX hgO
  refine wp_loop_rounds 3 ?_
  rw [rounds_succ]
  have rop := HE9.out.keep (gO, .cells #[.int .i64 one, .int .i64 two, .int .i64 two, .int .i64 one] 62) (by simp)
  have op0 := (cell_of_row _ _ 0 _ _ _ rop).trans (show _ = some (Value.int .i64 one) from rfl)
  have op1 := (cell_of_row _ _ 1 _ _ _ rop).trans (show _ = some (Value.int .i64 two) from rfl)
  dsimp only at op0 op1
  clear rop
  have HEap := Seal.mk (HE9.out.push (.cells #[.int .i64 one, .int .i64 two] 62))
  have HBap := Seal.mk (HB9.out.alloc HB9.out.size (.cells #[.int .i64 one, .int .i64 two] 62))
  clear HE9 HB9
  go_wp2_with (refine wpList_load_row rfl 32 (.tmp 23) rfl (w7.heap.size) rfl 32 #[.int .i64 s0, .int .i64 s1, .int .i64 s2, .int .i64 s3, .int .i64 s4, .int .i64 s5] (0, 0) _ (HEap.out.keep (w7.heap.size, .cells #[.int .i64 s0, .int .i64 s1, .int .i64 s2, .int .i64 s3, .int .i64 s4, .int .i64 s5] 32) (by simp)) Tryd.underlying32 rfl I6.out ?_)
  refine (HA1.out _).mono ?_
  rintro e wap ⟨rfl, hbb⟩
  have HEbp := Seal.mk ((HEap.out.below hbb).push (.cells D1.toArray 32))
  have HBbp := Seal.mk ((HBap.out.trans (hbb.mono HBap.out.size)).alloc (Nat.le_trans HBap.out.size hbb.size) (.cells D1.toArray 32))
  have rtp := HEbp.out.keep (X.heap.size, .cells #[.int .i64 one, .int .i64 two] 62) (by simp)
  have tp1 := (cell_of_row _ _ 1 _ _ _ rtp).trans (show _ = some (Value.int .i64 two) from rfl)
  dsimp only at tp1
  clear hbb HEap HBap rtp op0 op1
  go_wp2_with (first | (refine wpList_store_new rfl 32 (.tmp 27) (.tmp 157) rfl [.int .i64 0, .int .i64 0, .int .i64 0, .int .i64 0, .int .i64 0, .int .i64 0] D1 32 rfl rfl ID1.out LD1.out OD1.out ?_) | (refine wpList_load_row rfl 32 (.tmp 27) rfl (wap.heap.size) rfl 32 D1.toArray (0, 0) _ (HEbp.out.keep (wap.heap.size, .cells D1.toArray 32) (by simp)) Tryd.underlying32 rfl JD1.out ?_))
  refine (HA2.out _).mono ?_
  rintro e wbp ⟨rfl, hbb⟩
  have HEcp := Seal.mk ((HEbp.out.below hbb).push (.cells D2.toArray 32))
  have HBcp := Seal.mk ((HBbp.out.trans (hbb.mono HBbp.out.size)).alloc (Nat.le_trans HBbp.out.size hbb.size) (.cells D2.toArray 32))
  clear hbb HEbp HBbp tp1
  go_wp2_with (first | (refine wpList_store_new rfl 32 (.tmp 29) (.tmp 164) rfl [.int .i64 0, .int .i64 0, .int .i64 0, .int .i64 0, .int .i64 0, .int .i64 0] D2 32 rfl rfl ID2.out LD2.out OD2.out ?_) | (refine wpList_load_row rfl 32 (.tmp 29) rfl (wbp.heap.size) rfl 32 D2.toArray (0, 0) _ (HEcp.out.keep (wbp.heap.size, .cells D2.toArray 32) (by simp)) Tryd.underlying32 rfl JD2.out ?_))
  refine (HA3.out _).mono ?_
  rintro e wcp ⟨rfl, hbb⟩
  have HEdp := Seal.mk ((HEcp.out.below hbb).push (.cells #[.int .i64 al, .int .i64 a, .int .i64 b] 23))
  have HBdp := Seal.mk ((HBcp.out.trans (hbb.mono HBcp.out.size)).alloc (Nat.le_trans HBcp.out.size hbb.size) (.cells #[.int .i64 al, .int .i64 a, .int .i64 b] 23))
  have rup := HEdp.out.keep (w.heap.size, .cells #[.int .i64 a, .int .i64 b] 62) (by simp)
  have up0 := (cell_of_row _ _ 0 _ _ _ rup).trans (show _ = some (Value.int .i64 a) from rfl)
  have up1 := (cell_of_row _ _ 1 _ _ _ rup).trans (show _ = some (Value.int .i64 b) from rfl)
  dsimp only at up0 up1
  have rvp := Seal.mk (HEdp.out.keep (wcp.heap.size, .cells #[.int .i64 al, .int .i64 a, .int .i64 b] 23) (by simp))
  clear hbb HEcp HBcp rup
  go_wp2_with (refine wpList_load_row_g (by rfl) 23 (.tmp 31) rfl (wcp.heap.size) rfl 23 #[.int .i64 al, .int .i64 a, .int .i64 b] (0, 0) _ rvp.out Tryd.underlying23 rfl IW.out ?_)
  clear up0 up1 rvp
  obtain ⟨Y, hY⟩ : ∃ Y, Y = wcp.alloc (.cells #[.int .i64 al, .int .i64 a, .int .i64 b] 23) := ⟨_, rfl⟩
  rw [← hY] at HEdp HBdp
  rw [← hY]
  clear hY HA1 HA2 HA3
  rw [rounds_succ]
  have roq := HEdp.out.keep (gO, .cells #[.int .i64 one, .int .i64 two, .int .i64 two, .int .i64 one] 62) (by simp)
  have oq0 := (cell_of_row _ _ 2 _ _ _ roq).trans (show _ = some (Value.int .i64 two) from rfl)
  have oq1 := (cell_of_row _ _ 3 _ _ _ roq).trans (show _ = some (Value.int .i64 one) from rfl)
  dsimp only at oq0 oq1
  clear roq
  have HEaq := Seal.mk (HEdp.out.push (.cells #[.int .i64 two, .int .i64 one] 62))
  have HBaq := Seal.mk (HBdp.out.alloc HBdp.out.size (.cells #[.int .i64 two, .int .i64 one] 62))
  clear HEdp HBdp
  go_wp2_with (refine wpList_load_row rfl 32 (.tmp 23) rfl (w7.heap.size) rfl 32 #[.int .i64 s0, .int .i64 s1, .int .i64 s2, .int .i64 s3, .int .i64 s4, .int .i64 s5] (0, 0) _ (HEaq.out.keep (w7.heap.size, .cells #[.int .i64 s0, .int .i64 s1, .int .i64 s2, .int .i64 s3, .int .i64 s4, .int .i64 s5] 32) (by simp)) Tryd.underlying32 rfl I6.out ?_)
  refine (HF1.out _).mono ?_
  rintro e waq ⟨rfl, hbb⟩
  have HEbq := Seal.mk ((HEaq.out.below hbb).push (.cells E1.toArray 32))
  have HBbq := Seal.mk ((HBaq.out.trans (hbb.mono HBaq.out.size)).alloc (Nat.le_trans HBaq.out.size hbb.size) (.cells E1.toArray 32))
  have rtq := HEbq.out.keep (Y.heap.size, .cells #[.int .i64 two, .int .i64 one] 62) (by simp)
  have tq1 := (cell_of_row _ _ 1 _ _ _ rtq).trans (show _ = some (Value.int .i64 one) from rfl)
  dsimp only at tq1
  clear hbb HEaq HBaq rtq oq0 oq1
  go_wp2_with (first | (refine wpList_store_new rfl 32 (.tmp 27) (.tmp 157) rfl [.int .i64 0, .int .i64 0, .int .i64 0, .int .i64 0, .int .i64 0, .int .i64 0] E1 32 rfl rfl IE1.out LE1.out OE1.out ?_) | (refine wpList_load_row rfl 32 (.tmp 27) rfl (waq.heap.size) rfl 32 E1.toArray (0, 0) _ (HEbq.out.keep (waq.heap.size, .cells E1.toArray 32) (by simp)) Tryd.underlying32 rfl JE1.out ?_))
  refine (HF2.out _).mono ?_
  rintro e wbq ⟨rfl, hbb⟩
  have HEcq := Seal.mk ((HEbq.out.below hbb).push (.cells E2.toArray 32))
  have HBcq := Seal.mk ((HBbq.out.trans (hbb.mono HBbq.out.size)).alloc (Nat.le_trans HBbq.out.size hbb.size) (.cells E2.toArray 32))
  clear hbb HEbq HBbq tq1
  go_wp2_with (first | (refine wpList_store_new rfl 32 (.tmp 29) (.tmp 164) rfl [.int .i64 0, .int .i64 0, .int .i64 0, .int .i64 0, .int .i64 0, .int .i64 0] E2 32 rfl rfl IE2.out LE2.out OE2.out ?_) | (refine wpList_load_row rfl 32 (.tmp 29) rfl (wbq.heap.size) rfl 32 E2.toArray (0, 0) _ (HEcq.out.keep (wbq.heap.size, .cells E2.toArray 32) (by simp)) Tryd.underlying32 rfl JE2.out ?_))
  refine (HF3.out _).mono ?_
  rintro e wcq ⟨rfl, hbb⟩
  have HEdq := Seal.mk ((HEcq.out.below hbb).push (.cells #[.int .i64 al, .int .i64 a, .int .i64 b] 23))
  have HBdq := Seal.mk ((HBcq.out.trans (hbb.mono HBcq.out.size)).alloc (Nat.le_trans HBcq.out.size hbb.size) (.cells #[.int .i64 al, .int .i64 a, .int .i64 b] 23))
  have ruq := HEdq.out.keep (w.heap.size, .cells #[.int .i64 a, .int .i64 b] 62) (by simp)
  have uq0 := (cell_of_row _ _ 0 _ _ _ ruq).trans (show _ = some (Value.int .i64 a) from rfl)
  have uq1 := (cell_of_row _ _ 1 _ _ _ ruq).trans (show _ = some (Value.int .i64 b) from rfl)
  dsimp only at uq0 uq1
  have rvq := Seal.mk (HEdq.out.keep (wcq.heap.size, .cells #[.int .i64 al, .int .i64 a, .int .i64 b] 23) (by simp))
  clear hbb HEcq HBcq ruq
  go_wp2_with (refine wpList_load_row_g (by rfl) 23 (.tmp 31) rfl (wcq.heap.size) rfl 23 #[.int .i64 al, .int .i64 a, .int .i64 b] (0, 0) _ rvq.out Tryd.underlying23 rfl IW.out ?_)
  clear uq0 uq1 rvq
  clear HF1 HF2 HF3
  rw [rounds_succ]
  have rm := HEdq.out.keep (w.heap.size + 1, .cells #[.int .i64 m0, .int .i64 m1, .int .i64 m2] 22) (by simp)
  have b0 := (cell_of_row _ _ 0 _ _ _ rm).trans (show _ = some (Value.int .i64 m0) from rfl)
  have b1 := (cell_of_row _ _ 1 _ _ _ rm).trans (show _ = some (Value.int .i64 m1) from rfl)
  have b2 := (cell_of_row _ _ 2 _ _ _ rm).trans (show _ = some (Value.int .i64 m2) from rfl)
  dsimp only at b0 b1 b2
  have rn := HEdq.out.keep (w.heap.size, .cells #[.int .i64 a, .int .i64 b] 62) (by simp)
  have u0 := (cell_of_row _ _ 0 _ _ _ rn).trans (show _ = some (Value.int .i64 a) from rfl)
  have u1 := (cell_of_row _ _ 1 _ _ _ rn).trans (show _ = some (Value.int .i64 b) from rfl)
  dsimp only at u0 u1
  have v0 := cell_allocd u0 (.cells #[.int .i64 ((wrap64 (r.tmod 1073741789 + m0.tmod 1073741789)).tmod 1073741789), .int .i64 m1, .int .i64 m2] 22)
  have v1 := cell_allocd u1 (.cells #[.int .i64 ((wrap64 (r.tmod 1073741789 + m0.tmod 1073741789)).tmod 1073741789), .int .i64 m1, .int .i64 m2] 22)
  clear rm rn u0 u1
  go_wp2_with fail
  refine (HSe.out _).mono ?_
  rintro e wz ⟨rfl, hbb⟩
  have HEz := Seal.mk (((HEdq.out.push (.cells #[.int .i64 ((wrap64 (r.tmod 1073741789 + m0.tmod 1073741789)).tmod 1073741789), .int .i64 m1, .int .i64 m2] 22)).below hbb).push (.cells #[.int .i64 s0, .int .i64 s1, .int .i64 s2, .int .i64 s3, .int .i64 s4, .int .i64 s5] 32))
  have HBy := Seal.mk (HBdq.out.alloc HBdq.out.size (.cells #[.int .i64 ((wrap64 (r.tmod 1073741789 + m0.tmod 1073741789)).tmod 1073741789), .int .i64 m1, .int .i64 m2] 22))
  have HBz := Seal.mk ((HBy.out.trans (hbb.mono HBy.out.size)).alloc (Nat.le_trans HBy.out.size hbb.size) (.cells #[.int .i64 s0, .int .i64 s1, .int .i64 s2, .int .i64 s3, .int .i64 s4, .int .i64 s5] 32))
  have hs1 := Seal.mk (HEz.out.keep (w7.heap.size, .cells #[.int .i64 s0, .int .i64 s1, .int .i64 s2, .int .i64 s3, .int .i64 s4, .int .i64 s5] 32) (by simp))
  have hs2 := Seal.mk (HEz.out.keep (wz.heap.size, .cells #[.int .i64 s0, .int .i64 s1, .int .i64 s2, .int .i64 s3, .int .i64 s4, .int .i64 s5] 32) (by simp))
  clear hbb HEdq HBdq HBy b0 b1 b2 v0 v1 HSe
  go_wp2_with (first | (refine wpList_load_row_g (by rfl) 32 (.tmp 34) rfl (wz.heap.size) rfl 32 #[.int .i64 s0, .int .i64 s1, .int .i64 s2, .int .i64 s3, .int .i64 s4, .int .i64 s5] (0, 0) _ hs2.out Tryd.underlying32 rfl I6.out ?_) | (refine wpList_load_row_g (by rfl) 32 (.tmp 23) rfl (w7.heap.size) rfl 32 #[.int .i64 s0, .int .i64 s1, .int .i64 s2, .int .i64 s3, .int .i64 s4, .int .i64 s5] (0, 0) _ hs1.out Tryd.underlying32 rfl I6.out ?_))
  go_ret
  exact ⟨rfl, HBz.out⟩
end Frk

namespace Frk
open Go Go.RowKit Go.Proofs
set_option maxRecDepth 100000

theorem makeF_ok {L K al r a b c d : Int} {T : Bytes} (h : makeF L K al r = (a, b, c, d, T, 0)) :
    vd K = true ∧ (1 ≤ al ∧ al ≤ 1073741789) ∧ a = L ∧ b = K ∧ c = ((mp (1 : Int).toNat (pw 4 r) : Nat) : Int) ∧ d = ((mp (elB al).toNat (pw K.toNat r) : Nat) : Int) := by
  unfold makeF at h
  split at h
  · simp at h
  · split at h
    · rename_i hK
      split at h
      · rename_i ha
        simp only [Prod.mk.injEq] at h
        obtain ⟨h0, h1, h2, h3, h4, h5⟩ := h
        exact ⟨hK, ha, h0.symm, h1.symm, h2.symm, h3.symm⟩
      · simp at h
    · simp at h

theorem makeF_len' (L K al r : Int) : (makeF L K al r).2.2.2.2.1.length = 32 := by
  unfold makeF
  split
  · exact zb32_len
  · split
    · split
      · exact sha_length _
      · exact zb32_len
    · exact zb32_len

theorem i64_mp (a b : Nat) : I64 ((mp a b : Nat) : Int) := by
  have h := mp_lt a b
  have hP : P = 2147483579 := rfl
  exact ⟨by omega, by omega⟩

theorem makeF_chk {L K al r a b c d : Int} {T : Bytes} (h : makeF L K al r = (a, b, c, d, T, 0)) : chkB a b c d T = true := by
  have h0 := h
  unfold makeF at h
  split at h
  · simp at h
  · rename_i hL
    split at h
    · rename_i hK
      split at h
      · rename_i ha
        simp only [Prod.mk.injEq] at h
        obtain ⟨rfl, rfl, rfl, rfl, rfl, _⟩ := h
        obtain ⟨k, rfl, vk⟩ := vd_of_vd hK
        obtain ⟨e, he, ve, _⟩ := vd_cast (elB_vd ha.1 ha.2)
        have v1 : Vd 1 := (vd_iff _).1 (by decide +kernel)
        have w1 : vd ((mp (1 : Int).toNat (pw 4 r) : Nat) : Int) = true := (vd_iff _).2 (v1.mp (Vd.pw vd4 r))
        have w2 : vd ((mp (elB al).toNat (pw (k : Int).toNat r) : Nat) : Int) = true := by
          rw [he, Int.toNat_natCast, Int.toNat_natCast]; exact (vd_iff _).2 (ve.mp (vk.pw r))
        unfold chkB
        rw [decide_eq_true (by omega), decide_eq_true (by omega), hK, w1, w2]
        simp
      · simp at h
    · simp at h

/-- a word, sealed for a joint key -/
def sealP (J : Nat) (t v : Int) : Int × Int := (((pw 4 t : Nat) : Int), ((mp (elB v).toNat (pw J t) : Nat) : Int))
theorem sealP_ok {J : Nat} (hJ : Vd J) (t : Int) {v : Int} (h1 : 1 ≤ v) (h2 : v ≤ 1073741789) : vd (sealP J t v).1 = true ∧ vd (sealP J t v).2 = true := by
  obtain ⟨a, e, ha, _⟩ := vd_cast (elB_vd h1 h2)
  refine ⟨(vd_iff _).2 (Vd.pw vd4 t), ?_⟩
  show vd ((mp (elB v).toNat (pw J t) : Nat) : Int) = true
  rw [e, Int.toNat_natCast]
  exact (vd_iff _).2 (ha.mp (hJ.pw t))
theorem sealP_read (l : List Int) (t : Int) {v : Int} (h1 : 1 ≤ v) (h2 : v ≤ 1073741789) : nuB (offs l (sealP (jnF 1 l) t v)).2 = v := by
  obtain ⟨a, e, _, ha⟩ := vd_cast (elB_vd h1 h2)
  unfold sealP
  rw [show (elB v).toNat = a from by rw [e, Int.toNat_natCast], offs_seal t l a ha]
  show nuB (a : Int) = v
  rw [← e, nuB_elB h1 h2]
def lett3 (a b c : Int × Int) : Fin 3 → Int × Int
  | 0 => a
  | 1 => b
  | 2 => c


theorem makeF_err {L K al r a b c d e : Int} {T : Bytes} (hK : vd K = true) (h : makeF L K al r = (a, b, c, d, T, e)) (he : e ≠ 0) : e = 160 ∧ a = 0 ∧ b = 0 ∧ c = 0 ∧ d = 0 ∧ T = zb32 ∧ (L < 0 ∨ 64 ≤ L ∨ al < 1 ∨ 1073741789 < al) := by
  unfold makeF at h
  split at h
  · rename_i hL
    simp only [Prod.mk.injEq] at h
    obtain ⟨rfl, rfl, rfl, rfl, rfl, rfl⟩ := h
    exact ⟨rfl, rfl, rfl, rfl, rfl, rfl, by omega⟩
  · split at h
    · simp only [Prod.mk.injEq] at h; exact absurd h.2.2.2.2.2.symm he
    · simp only [Prod.mk.injEq] at h
      obtain ⟨rfl, rfl, rfl, rfl, rfl, rfl⟩ := h
      exact ⟨rfl, rfl, rfl, rfl, rfl, rfl, by omega⟩

theorem useF_cases {K P Q a b r0 r1 r2 s0 s1 s2 s3 s4 s5 f : Int} (h : useF true K P Q a b r0 r1 r2 = (s0, s1, s2, s3, s4, s5, f)) :
    (f = 100 ∧ s0 = 0 ∧ s1 = 0 ∧ s2 = 0 ∧ s3 = 0 ∧ s4 = 0 ∧ s5 = 0 ∧ (a < 1 ∨ 1073741789 < a ∨ b < 1 ∨ 1073741789 < b)) ∨
    (f = 0 ∧ (1 ≤ a ∧ a ≤ 1073741789) ∧ (1 ≤ b ∧ b ≤ 1073741789) ∧ s0 = ((mp P.toNat (pw 4 r0) : Nat) : Int) ∧ s1 = ((mp Q.toNat (pw K.toNat r0) : Nat) : Int) ∧ s2 = ((mp (1 : Int).toNat (pw 4 r1) : Nat) : Int) ∧ s3 = ((mp (elB a).toNat (pw K.toNat r1) : Nat) : Int) ∧
      s4 = ((mp (1 : Int).toNat (pw 4 r2) : Nat) : Int) ∧ s5 = ((mp (elB b).toNat (pw K.toNat r2) : Nat) : Int)) := by
  unfold useF at h
  rw [if_pos rfl] at h
  split at h
  · rename_i h1
    split at h
    · rename_i h2
      simp only [Prod.mk.injEq] at h
      obtain ⟨rfl, rfl, rfl, rfl, rfl, rfl, rfl⟩ := h
      exact .inr ⟨rfl, h1, h2, rfl, rfl, rfl, rfl, rfl, rfl⟩
    · simp only [Prod.mk.injEq] at h
      obtain ⟨rfl, rfl, rfl, rfl, rfl, rfl, rfl⟩ := h
      exact .inl ⟨rfl, rfl, rfl, rfl, rfl, rfl, rfl, by omega⟩
  · simp only [Prod.mk.injEq] at h
    obtain ⟨rfl, rfl, rfl, rfl, rfl, rfl, rfl⟩ := h
    exact .inl ⟨rfl, rfl, rfl, rfl, rfl, rfl, rfl, by omega⟩

theorem pw_T (a : Nat) (n r : Int) : pw a ((wrap64 (n.tmod 1073741789 + r.tmod 1073741789)).tmod 1073741789) = pw a (n + r) := by
  have h1 := Int.mul_tdiv_add_tmod n 1073741789
  have h2 := Int.mul_tdiv_add_tmod r 1073741789
  have b1 := Int.tmod_lt_of_pos n (show (0 : Int) < 1073741789 by decide)
  have b2 := Int.tmod_lt_of_pos r (show (0 : Int) < 1073741789 by decide)
  have c1 := Int.lt_tmod_of_pos n (show (0 : Int) < 1073741789 by decide)
  have c2 := Int.lt_tmod_of_pos r (show (0 : Int) < 1073741789 by decide)
  have hu : wrap64 (n.tmod 1073741789 + r.tmod 1073741789) = n.tmod 1073741789 + r.tmod 1073741789 := by unfold wrap64; omega
  have h3 := Int.mul_tdiv_add_tmod (n.tmod 1073741789 + r.tmod 1073741789) 1073741789
  have hQ : ((Q : Nat) : Int) = 1073741789 := rfl
  rw [hu]
  apply pw_congr
  rw [hQ]
  omega

theorem i64_T (n r : Int) : I64 ((wrap64 (n.tmod 1073741789 + r.tmod 1073741789)).tmod 1073741789) := by
  have b1 := Int.tmod_lt_of_pos (wrap64 (n.tmod 1073741789 + r.tmod 1073741789)) (show (0 : Int) < 1073741789 by decide)
  have c1 := Int.lt_tmod_of_pos (wrap64 (n.tmod 1073741789 + r.tmod 1073741789)) (show (0 : Int) < 1073741789 by decide)
  exact ⟨by omega, by omega⟩

theorem jn_comm (one two : Int) : jnF 1 [one, two] = jnF 1 [two, one] := by
  show mp (mp 1 (pw 4 one)) (pw 4 two) = mp (mp 1 (pw 4 two)) (pw 4 one)
  rw [mp_assoc, mp_assoc, mp_comm (pw 4 one)]

theorem onP_seal (J : Nat) (t v : Int) : onP (J : Nat) t (1, elB v) = sealP J t v := by
  unfold onP sealP
  simp only [Int.toNat_natCast]
  rw [show mp (1 : Int).toNat (pw 4 t) = pw 4 t from one_mp (pw_lt _ _)]

theorem rowL_all (L : Fin 3 → Int × Int) : ∀ u ∈ rowL L, u.oneCell' = true := by simp [rowL, Value.oneCell']

theorem law_onetimeReads (line one two al r a b m0 m1 m2 : Int) (w : World) (hG : Glob w) (hl : I64 line) (h1 : I64 one) (h2 : I64 two) (hr : I64 r) (i0 : I64 m0) (i1 : I64 m1) (i2 : I64 m2) :
    Calls Tryd.prog 8 #[.int .i64 line, .int .i64 one, .int .i64 two, .int .i64 al, .int .i64 r, .agg #[.int .i64 a, .int .i64 b], .agg #[.int .i64 m0, .int .i64 m1, .int .i64 m2]] w fun e w' => e = .returned (.bool true) ∧ Below w.heap.size w w' := by
  by_cases k1 : secB one = true
  · by_cases k2 : secB two = true
    · have p1 : pubF one = (((pw 4 one : Nat) : Int), 0) := by unfold pubF; rw [if_pos k1]
      have p2 : pubF two = (((pw 4 two : Nat) : Int), 0) := by unfold pubF; rw [if_pos k2]
      have b1 : 1 ≤ one ∧ one < 1073741789 := by unfold secB at k1; simp at k1; omega
      have b2 : 1 ≤ two ∧ two < 1073741789 := by unfold secB at k2; simp at k2; omega
      have HP1 := Seal.mk (fun W => public_at one _ 0 W ⟨p1⟩ h1.1 h1.2)
      have HP2 := Seal.mk (fun W => public_at two _ 0 W ⟨p2⟩ h2.1 h2.2)
      have vJ : Vd (jnF 1 [one, two]) := jnF_vd [one, two] ((vd_iff _).1 (by decide +kernel))
      have iJ : I64 ((jnF 1 [one, two] : Nat) : Int) := by
        have h := vJ.2.1
        have hP : P = 2147483579 := rfl
        exact ⟨by omega, by omega⟩
      have HJ : Seal (∀ (W : World) (g : Nat), W.heap[g]? = some (.cells #[.int .i64 (pw 4 one : Nat), .int .i64 (pw 4 two : Nat)] 3 (0, 0)) → Calls Tryd.prog 20 #[.slice (some ⟨g, 0, none⟩) 2 2] W fun e w' => e = .returned (.tuple #[.int .i64 (jnF 1 [one, two] : Nat), .int .i64 0]) ∧ W = w') :=
        ⟨fun W g hg => ejoin_any (some ⟨g, 0, none⟩) 2 2 [one, two] W ⟨rfl, Nat.le_refl _, by decide, by decide, keysOf_i64 _, .inr ⟨g, 0, rfl, rangeAt_row (cs := [.int .i64 (pw 4 one : Nat), .int .i64 (pw 4 two : Nat)]) hg, (Array.getElem?_eq_some_iff.1 hg).1⟩⟩⟩
      have vJi : vd ((jnF 1 [one, two] : Nat) : Int) = true := (vd_iff _).2 vJ
      obtain ⟨L', K', P', Q', T', e0, hM⟩ : ∃ a b c d T' e', makeF line (jnF 1 [one, two] : Nat) al r = (a, b, c, d, T', e') := ⟨_, _, _, _, _, _, rfl⟩
      have hT' : T'.length = 32 := by have := makeF_len' line (jnF 1 [one, two] : Nat) al r; rw [hM] at this; exact this
      have IX : Seal ((Tryd.prog.info? 29).map (·.size) = some (retC L' K' P' Q' T').length) := ⟨retC_info hT'⟩
      have LX : Seal ((.int .i64 0 :: .int .i64 0 :: .int .i64 0 :: .int .i64 0 :: .int .u8 0 :: .int .u8 0 :: .int .u8 0 :: .int .u8 0 :: .int .u8 0 :: .int .u8 0 :: .int .u8 0 :: .int .u8 0 :: .int .u8 0 :: .int .u8 0 :: .int .u8 0 :: .int .u8 0 :: .int .u8 0 :: .int .u8 0 :: .int .u8 0 :: .int .u8 0 :: .int .u8 0 :: .int .u8 0 :: .int .u8 0 :: .int .u8 0 :: .int .u8 0 :: .int .u8 0 :: .int .u8 0 :: .int .u8 0 :: .int .u8 0 :: .int .u8 0 :: .int .u8 0 :: .int .u8 0 :: .int .u8 0 :: .int .u8 0 :: .int .u8 0 :: .int .u8 0 :: [] : List Value).length = (retC L' K' P' Q' T').length) := ⟨by rw [retC_len hT']; rfl⟩
      have HM1 := Seal.mk (fun W (g : Glob W) => omake_at line (jnF 1 [one, two] : Nat) al r L' K' P' Q' e0 T' W g hl iJ hr.1 hr.2 ⟨hM⟩)
      by_cases he : e0 = 0
      · subst he
        have hchk := makeF_chk hM
        obtain ⟨_, hal, rfl, rfl, rfl, rfl⟩ := makeF_ok hM
        obtain ⟨s0, s1, s2, s3, s4, s5, f0, hU⟩ : ∃ x0 y0 x1 y1 x2 y2 e, useF (chkB L' ((jnF 1 [one, two] : Nat) : Int) ((mp (1 : Int).toNat (pw 4 r) : Nat) : Int) ((mp (elB al).toNat (pw ((jnF 1 [one, two] : Nat) : Int).toNat r) : Nat) : Int) T') ((jnF 1 [one, two] : Nat) : Int) ((mp (1 : Int).toNat (pw 4 r) : Nat) : Int) ((mp (elB al).toNat (pw ((jnF 1 [one, two] : Nat) : Int).toNat r) : Nat) : Int) a b m0 m1 m2 = (x0, y0, x1, y1, x2, y2, e) := ⟨_, _, _, _, _, _, _, rfl⟩
        have HU1 := Seal.mk (fun W (g : Glob W) => ouse_any L' _ _ _ a b m0 m1 m2 s0 s1 s2 s3 s4 s5 f0 T' W g hl iJ (i64_mp _ _) (i64_mp _ _) hT' i0 i1 i2 ⟨hU⟩)
        have hU2 := hU
        rw [hchk] at hU2
        rcases useF_cases hU2 with ⟨rfl, rfl, rfl, rfl, rfl, rfl, rfl, hab⟩ | ⟨rfl, ha, hb, q0, q1, q2, q3, q4, q5⟩
        · exact reads_use L' one two al r a b m0 m1 m2 _ _ _ _ w hG hab IX LX ⟨retC_one _ _ _ _ _⟩ HP1 HP2 HJ HM1 HU1
        · obtain ⟨M, hMd⟩ : ∃ M, M = lett3 (sealP (jnF 1 [one, two]) (r + m0) al) (sealP (jnF 1 [one, two]) m1 a) (sealP (jnF 1 [one, two]) m2 b) := ⟨_, rfl⟩
          have okM : okL M := by
            rw [hMd]
            intro j
            rcases fin3e j with rfl | rfl | rfl
            · exact sealP_ok vJ _ hal.1 hal.2
            · exact sealP_ok vJ _ ha.1 ha.2
            · exact sealP_ok vJ _ hb.1 hb.2
          have hrow : rowL M = [.int .i64 s0, .int .i64 s1, .int .i64 s2, .int .i64 s3, .int .i64 s4, .int .i64 s5] := by
            rw [q0, q1, q2, q3, q4, q5, hMd]
            have o1 : ∀ t, mp (1 : Int).toNat (pw 4 t) = pw 4 t := fun t => one_mp (pw_lt _ _)
            rw [o1 r, o1 m1, o1 m2, Int.toNat_natCast, Int.toNat_natCast, Int.toNat_natCast]
            have e1 : mp (pw 4 r) (pw 4 m0) = pw 4 (r + m0) := (pw_add vd4 r m0).symm
            have e2 : mp (mp (elB al).toNat (pw (jnF 1 [one, two]) r)) (pw (jnF 1 [one, two]) m0) = mp (elB al).toNat (pw (jnF 1 [one, two]) (r + m0)) := by
              rw [mp_assoc]; congr 1; exact (pw_add vJ r m0).symm
            rw [e1, e2]
            rfl
          have hsix : ((rowL M).toArray : Array Value) = #[.int .i64 s0, .int .i64 s1, .int .i64 s2, .int .i64 s3, .int .i64 s4, .int .i64 s5] := by rw [hrow]
          have vds : vd s0 = true ∧ vd s1 = true ∧ vd s2 = true ∧ vd s3 = true ∧ vd s4 = true ∧ vd s5 = true := by
            unfold rowL at hrow
            simp only [List.cons.injEq, Value.int.injEq, true_and, and_true] at hrow
            obtain ⟨z0, z1, z2, z3, z4, z5⟩ := hrow
            rw [← z0, ← z1, ← z2, ← z3, ← z4, ← z5]
            exact ⟨(okM 0).1, (okM 0).2, (okM 1).1, (okM 1).2, (okM 2).1, (okM 2).2⟩
          have ok1 : ∀ s, okL (fun j => offP s (M j)) := fun s j => offP_ok (okM j)
          have ok2 : ∀ s t, okL (fun j => offP t (offP s (M j))) := fun s t j => offP_ok (ok1 s j)
          have rdA : nuB (offP two (offP one (M 0))).2 = al ∧ nuB (offP two (offP one (M 1))).2 = a ∧ nuB (offP two (offP one (M 2))).2 = b := by
            rw [hMd]
            exact ⟨sealP_read [one, two] _ hal.1 hal.2, sealP_read [one, two] _ ha.1 ha.2, sealP_read [one, two] _ hb.1 hb.2⟩
          have rdB : nuB (offP one (offP two (M 0))).2 = al ∧ nuB (offP one (offP two (M 1))).2 = a ∧ nuB (offP one (offP two (M 2))).2 = b := by
            rw [hMd, jn_comm]
            exact ⟨sealP_read [two, one] _ hal.1 hal.2, sealP_read [two, one] _ ha.1 ha.2, sealP_read [two, one] _ hb.1 hb.2⟩
          refine reads_full L' one two al r a b m0 m1 m2 _ _ _ s0 s1 s2 s3 s4 s5 _ (rowL (fun j => offP one (M j))) (rowL (fun j => offP two (offP one (M j)))) (rowL (fun j => offP two (M j))) (rowL (fun j => offP one (offP two (M j)))) w hG IX LX ⟨retC_one _ _ _ _ _⟩
            ⟨by rw [← List.size_toArray]; exact rowL_info _⟩ ⟨rfl⟩ ⟨rowL_all _⟩ ⟨by rw [← List.size_toArray]; exact rowL_info _⟩ ⟨rfl⟩ ⟨rowL_all _⟩ ⟨by rw [← List.size_toArray]; exact rowL_info _⟩ ⟨rfl⟩ ⟨rowL_all _⟩ ⟨by rw [← List.size_toArray]; exact rowL_info _⟩ ⟨rfl⟩ ⟨rowL_all _⟩
            HP1 HP2 HJ HM1 HU1 ⟨fun W g => ?_⟩ ⟨fun W => recheck_yes s0 s1 s2 s3 s4 s5 W vds.1 vds.2.1 vds.2.2.1 vds.2.2.2.1 vds.2.2.2.2.1 vds.2.2.2.2.2⟩
            ⟨fun W => ?_⟩ ⟨fun W => estrip_yes two _ W (ok1 one) b2.1 b2.2⟩ ⟨fun W => ?_⟩ ⟨fun W => ?_⟩ ⟨fun W => estrip_yes one _ W (ok1 two) b1.1 b1.2⟩ ⟨fun W => ?_⟩ ⟨fun W => ?_⟩
          · have h := ocheck_any L' _ _ _ T' true W g hl iJ (i64_mp _ _) (i64_mp _ _) hT' hchk
            exact h
          · have h := estrip_yes one M W okM b1.1 b1.2
            rw [hsix] at h; exact h
          · refine (eread_any _ W (ok2 one two)).mono fun e w' h => ⟨h.1.trans ?_, h.2⟩
            rw [rdA.1, rdA.2.1, rdA.2.2]
          · have h := estrip_yes two M W okM b2.1 b2.2
            rw [hsix] at h; exact h
          · refine (eread_any _ W (ok2 two one)).mono fun e w' h => ⟨h.1.trans ?_, h.2⟩
            rw [rdB.1, rdB.2.1, rdB.2.2]
          · have h := eseal_yes ((jnF 1 [one, two] : Nat) : Int) al a b ((wrap64 (r.tmod 1073741789 + m0.tmod 1073741789)).tmod 1073741789) m1 m2 W vJi hal ha hb (i64_T _ _) i1 i2
            refine h.mono fun e w' h => ⟨h.1.trans ?_, h.2⟩
            rw [← hsix]
            congr 4
            rw [hMd]
            refine congrArg (fun L : Fin 3 → Int × Int => Value.agg (rowL L).toArray) ?_
            funext j
            rcases fin3e j with rfl | rfl | rfl
            · show onP _ _ (1, elB al) = sealP _ _ al
              rw [onP_seal]
              unfold sealP
              rw [pw_T, pw_T]
            · exact onP_seal _ _ _
            · exact onP_seal _ _ _
      · obtain ⟨rfl, rfl, rfl, rfl, rfl, rfl, hbad⟩ := makeF_err vJi hM he
        exact reads_make line one two al r a b m0 m1 m2 _ _ _ _ w hG hbad IX LX ⟨retC_one _ _ _ _ _⟩ (fun W => by rw [retC_zero, eqRet _ _ _ _ _ _ _ _ _ _ hT' hT' W]; simp) HP1 HP2 HJ HM1
    · have p1 : pubF one = (((pw 4 one : Nat) : Int), 0) := by unfold pubF; rw [if_pos k1]
      have p2 : pubF two = (0, 110) := by unfold pubF; rw [if_neg k2]
      exact reads_key line one two al r a b m0 m1 m2 _ _ _ _ w hG (.inr ⟨rfl, rfl⟩) ⟨fun W => public_at one _ 0 W ⟨p1⟩ h1.1 h1.2⟩ ⟨fun W => public_at two _ 110 W ⟨p2⟩ h2.1 h2.2⟩
  · have p1 : pubF one = (0, 110) := by unfold pubF; rw [if_neg k1]
    obtain ⟨d2, e2, p2⟩ : ∃ d e, pubF two = (d, e) := ⟨_, _, rfl⟩
    exact reads_key line one two al r a b m0 m1 m2 _ _ _ _ w hG (.inl rfl) ⟨fun W => public_at one _ 110 W ⟨p1⟩ h1.1 h1.2⟩ ⟨fun W => public_at two d2 e2 W ⟨p2⟩ h2.1 h2.2⟩
end Frk

