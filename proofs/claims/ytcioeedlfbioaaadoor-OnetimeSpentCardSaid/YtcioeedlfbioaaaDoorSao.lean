/- The examples of return addresses, reckoned. -/
import Derived.Test.YtcioeedlfbioaaaDoorOuf
namespace Frk
open Go Go.RowKit Go.Proofs
set_option maxRecDepth 100000

def tX : Bytes := rtag 0 4 4 16
def tY : Bytes := rtag 0 4 16 64
theorem tX_len : tX.length = 32 := sha_length _
theorem tY_len : tY.length = 32 := sha_length _
theorem vv4 : vd 4 = true := by decide +kernel
theorem vv16 : vd 16 = true := by decide +kernel
theorem vv2 : vd 2 = false := by decide +kernel
theorem vv0 : vd 0 = false := by decide +kernel
theorem pw40 : pw 4 0 = 1 := pw_zero 4
theorem pw41 : pw 4 1 = 4 := pw_one vd4
theorem pw42 : pw 4 2 = 16 := by rw [pw_q]; decide +kernel
theorem elB4 : elB 4 = 4 := by unfold elB; rw [if_pos vv4]

theorem mk1 : makeF 64 4 1 0 = (0, 0, 0, 0, zb32, 160) := by unfold makeF; rw [if_pos (by decide)]
theorem mk2 : makeF 0 2 1 0 = (0, 0, 0, 0, zb32, 90) := by unfold makeF; rw [if_neg (by decide), vv2, if_neg (by decide)]
theorem mk3 : makeF 0 4 0 0 = (0, 0, 0, 0, zb32, 160) := by unfold makeF; rw [if_neg (by decide), if_pos vv4, if_neg (by decide)]
theorem mk4 : makeF 0 4 4 1 = (0, 4, 4, 16, tX, 0) := by
  unfold makeF
  rw [if_neg (by decide), if_pos vv4, if_pos (by decide), elB4]
  show (0, 4, ((mp 1 (pw 4 1) : Nat) : Int), ((mp 4 (pw 4 1) : Nat) : Int), rtag 0 4 ((mp 1 (pw 4 1) : Nat) : Int) ((mp 4 (pw 4 1) : Nat) : Int), 0) = _
  rw [pw41, show mp 1 4 = 4 from by decide, show mp 4 4 = 16 from by decide]
  rfl
theorem mk5 : makeF 0 4 4 2 = (0, 4, 16, 64, tY, 0) := by
  unfold makeF
  rw [if_neg (by decide), if_pos vv4, if_pos (by decide), elB4]
  show (0, 4, ((mp 1 (pw 4 2) : Nat) : Int), ((mp 4 (pw 4 2) : Nat) : Int), rtag 0 4 ((mp 1 (pw 4 2) : Nat) : Int) ((mp 4 (pw 4 2) : Nat) : Int), 0) = _
  rw [pw42, show mp 1 16 = 16 from by decide, show mp 4 16 = 64 from by decide]
  rfl
theorem chkX : chkB 0 4 4 16 tX = true := by
  unfold chkB
  rw [vv4, vv16]
  simp [tX]
theorem chk0 : chkB 0 0 0 0 zb32 = false := by
  unfold chkB
  rw [vv0]
  simp
theorem sp1 : spendF (chkB 0 4 4 16 tX) [] tX 160 = ([tX], 0) := by rw [chkX]; rfl
theorem sp2 : spendF (chkB 0 4 4 16 tX) [tX] tX 160 = ([], 161) := by
  rw [chkX]
  unfold spendF
  rw [if_pos rfl, show usedB [tX] = true from rfl, if_pos rfl, if_pos (by simp [hasB])]
theorem us1 : useF (chkB 0 4 4 16 tX) 4 4 16 4 4 0 0 1 = (4, 16, 1, 4, 4, 16, 0) := by
  rw [chkX]
  unfold useF
  rw [if_pos rfl, if_pos (by decide), if_pos (by decide), elB4]
  show (((mp 4 (pw 4 0) : Nat) : Int), ((mp 16 (pw 4 0) : Nat) : Int), ((mp 1 (pw 4 0) : Nat) : Int), ((mp 4 (pw 4 0) : Nat) : Int), ((mp 1 (pw 4 1) : Nat) : Int), ((mp 4 (pw 4 1) : Nat) : Int), 0) = _
  rw [pw40, pw41]
  decide
theorem us2 : useF (chkB 0 0 0 0 zb32) 0 0 0 1 1 0 0 0 = (0, 0, 0, 0, 0, 0, 160) := by
  rw [chk0]
  unfold useF
  rw [if_neg (by decide)]
theorem us3 : useF (chkB 0 4 4 16 tX) 4 4 16 0 1 0 0 0 = (0, 0, 0, 0, 0, 0, 100) := by
  rw [chkX]
  unfold useF
  rw [if_pos rfl, if_neg (by decide)]

theorem i64d {n : Int} (h : decide (-9223372036854775808 ≤ n) && decide (n ≤ 9223372036854775807) = true) : I64 n := by
  simp only [Bool.and_eq_true, decide_eq_true_eq] at h
  exact h

theorem eqCi1 (w : World) : (Op.equalIn 10000 23 (.agg #[.int .i64 4, .int .i64 16]) (.agg #[.int .i64 4, .int .i64 16])).run Tryd.prog w = .ok true w := by kernel_rfl
theorem eqCi2 (w : World) : (Op.equalIn 10000 23 (.agg #[.int .i64 16, .int .i64 64]) (.agg #[.int .i64 16, .int .i64 64])).run Tryd.prog w = .ok true w := by kernel_rfl
theorem eqSe1 (w : World) : (Op.equalIn 10000 39 (.agg #[.int .i64 4, .int .i64 16, .int .i64 1, .int .i64 4, .int .i64 4, .int .i64 16]) (.agg #[.int .i64 4, .int .i64 16, .int .i64 1, .int .i64 4, .int .i64 4, .int .i64 16])).run Tryd.prog w = .ok true w := by kernel_rfl

set_option maxHeartbeats 8000000 in
theorem osane_any (w : World) (hG : Glob w) : Calls Tryd.prog 12 #[] w fun e w' => e = .returned (.bool true) ∧ Below w.heap.size w w' := by
  have HE0 : Seal (Env w none 0 0 [] []) := ⟨⟨hG, isB_nil w, by intro p hp; cases hp⟩⟩
  have HB0 : Seal (Below w.heap.size w w) := ⟨Below.refl _ _⟩
  obtain ⟨Zl, hZl⟩ : ∃ Zl, Zl = retC 0 0 0 0 zb32 := ⟨_, rfl⟩
  obtain ⟨Xl, hXl⟩ : ∃ Xl, Xl = retC 0 4 4 16 tX := ⟨_, rfl⟩
  obtain ⟨Yl, hYl⟩ : ∃ Yl, Yl = retC 0 4 16 64 tY := ⟨_, rfl⟩
  have zl : Zl.length = 36 := by rw [hZl]; exact retC_len zb32_len
  have xl : Xl.length = 36 := by rw [hXl]; exact retC_len tX_len
  have yl : Yl.length = 36 := by rw [hYl]; exact retC_len tY_len
  have ir : (Tryd.prog.info? 27).map (·.size) = some 36 := by kernel_rfl
  have HZ : Seal (Zl = retC 0 0 0 0 zb32 ∧ (List.toArray (.int .i64 0 :: .int .i64 0 :: .int .i64 0 :: .int .i64 0 :: .int .u8 0 :: .int .u8 0 :: .int .u8 0 :: .int .u8 0 :: .int .u8 0 :: .int .u8 0 :: .int .u8 0 :: .int .u8 0 :: .int .u8 0 :: .int .u8 0 :: .int .u8 0 :: .int .u8 0 :: .int .u8 0 :: .int .u8 0 :: .int .u8 0 :: .int .u8 0 :: .int .u8 0 :: .int .u8 0 :: .int .u8 0 :: .int .u8 0 :: .int .u8 0 :: .int .u8 0 :: .int .u8 0 :: .int .u8 0 :: .int .u8 0 :: .int .u8 0 :: .int .u8 0 :: .int .u8 0 :: .int .u8 0 :: .int .u8 0 :: .int .u8 0 :: .int .u8 0 :: []) : Array Value) = Zl.toArray) := ⟨hZl, by rw [hZl]; exact retC_zero⟩
  have HX : Seal (Xl = retC 0 4 4 16 tX) := ⟨hXl⟩
  have HY : Seal (Yl = retC 0 4 16 64 tY) := ⟨hYl⟩
  have IZ : Seal ((Tryd.prog.info? 27).map (·.size) = some Zl.length) := ⟨by rw [zl]; exact ir⟩
  have IX : Seal ((Tryd.prog.info? 27).map (·.size) = some Xl.length) := ⟨by rw [xl]; exact ir⟩
  have IY : Seal ((Tryd.prog.info? 27).map (·.size) = some Yl.length) := ⟨by rw [yl]; exact ir⟩
  have LZ : Seal ((.int .i64 0 :: .int .i64 0 :: .int .i64 0 :: .int .i64 0 :: .int .u8 0 :: .int .u8 0 :: .int .u8 0 :: .int .u8 0 :: .int .u8 0 :: .int .u8 0 :: .int .u8 0 :: .int .u8 0 :: .int .u8 0 :: .int .u8 0 :: .int .u8 0 :: .int .u8 0 :: .int .u8 0 :: .int .u8 0 :: .int .u8 0 :: .int .u8 0 :: .int .u8 0 :: .int .u8 0 :: .int .u8 0 :: .int .u8 0 :: .int .u8 0 :: .int .u8 0 :: .int .u8 0 :: .int .u8 0 :: .int .u8 0 :: .int .u8 0 :: .int .u8 0 :: .int .u8 0 :: .int .u8 0 :: .int .u8 0 :: .int .u8 0 :: .int .u8 0 :: [] : List Value).length = Zl.length) := ⟨by rw [zl]; rfl⟩
  have LX : Seal ((.int .i64 0 :: .int .i64 0 :: .int .i64 0 :: .int .i64 0 :: .int .u8 0 :: .int .u8 0 :: .int .u8 0 :: .int .u8 0 :: .int .u8 0 :: .int .u8 0 :: .int .u8 0 :: .int .u8 0 :: .int .u8 0 :: .int .u8 0 :: .int .u8 0 :: .int .u8 0 :: .int .u8 0 :: .int .u8 0 :: .int .u8 0 :: .int .u8 0 :: .int .u8 0 :: .int .u8 0 :: .int .u8 0 :: .int .u8 0 :: .int .u8 0 :: .int .u8 0 :: .int .u8 0 :: .int .u8 0 :: .int .u8 0 :: .int .u8 0 :: .int .u8 0 :: .int .u8 0 :: .int .u8 0 :: .int .u8 0 :: .int .u8 0 :: .int .u8 0 :: [] : List Value).length = Xl.length) := ⟨by rw [xl]; rfl⟩
  have LY : Seal ((.int .i64 0 :: .int .i64 0 :: .int .i64 0 :: .int .i64 0 :: .int .u8 0 :: .int .u8 0 :: .int .u8 0 :: .int .u8 0 :: .int .u8 0 :: .int .u8 0 :: .int .u8 0 :: .int .u8 0 :: .int .u8 0 :: .int .u8 0 :: .int .u8 0 :: .int .u8 0 :: .int .u8 0 :: .int .u8 0 :: .int .u8 0 :: .int .u8 0 :: .int .u8 0 :: .int .u8 0 :: .int .u8 0 :: .int .u8 0 :: .int .u8 0 :: .int .u8 0 :: .int .u8 0 :: .int .u8 0 :: .int .u8 0 :: .int .u8 0 :: .int .u8 0 :: .int .u8 0 :: .int .u8 0 :: .int .u8 0 :: .int .u8 0 :: .int .u8 0 :: [] : List Value).length = Yl.length) := ⟨by rw [yl]; rfl⟩
  have OZ : Seal (∀ u ∈ Zl, u.oneCell' = true) := ⟨by rw [hZl]; exact retC_one _ _ _ _ _⟩
  have OX : Seal (∀ u ∈ Xl, u.oneCell' = true) := ⟨by rw [hXl]; exact retC_one _ _ _ _ _⟩
  have OY : Seal (∀ u ∈ Yl, u.oneCell' = true) := ⟨by rw [hYl]; exact retC_one _ _ _ _ _⟩
  clear hG hZl hXl hYl zl xl yl ir
  go_enter Tryd.func12, Tryd.ntmps12
  go_wp2_with fail
  have HMK := omake_at 64 4 1 0 _ _ _ _ _ _ w HE0.out.glob (by decide) (by decide) (by decide) (by decide) ⟨mk1⟩
  rw [← HZ.out.1] at HMK
  refine HMK.mono ?_
  rintro e w1 ⟨rfl, hb⟩
  clear HMK
  have HE1 := Seal.mk ((HE0.out.below hb).push (.cells Zl.toArray 27))
  have HB1 := Seal.mk ((HB0.out.trans (hb.mono HB0.out.size)).alloc (Nat.le_trans HB0.out.size hb.size) (.cells Zl.toArray 27))
  clear hb HE0 HB0
  go_wp2_with (refine wpList_store_new rfl 27 (.tmp 1) (.tmp 24) rfl (.int .i64 0 :: .int .i64 0 :: .int .i64 0 :: .int .i64 0 :: .int .u8 0 :: .int .u8 0 :: .int .u8 0 :: .int .u8 0 :: .int .u8 0 :: .int .u8 0 :: .int .u8 0 :: .int .u8 0 :: .int .u8 0 :: .int .u8 0 :: .int .u8 0 :: .int .u8 0 :: .int .u8 0 :: .int .u8 0 :: .int .u8 0 :: .int .u8 0 :: .int .u8 0 :: .int .u8 0 :: .int .u8 0 :: .int .u8 0 :: .int .u8 0 :: .int .u8 0 :: .int .u8 0 :: .int .u8 0 :: .int .u8 0 :: .int .u8 0 :: .int .u8 0 :: .int .u8 0 :: .int .u8 0 :: .int .u8 0 :: .int .u8 0 :: .int .u8 0 :: [] : List Value) Zl 27 rfl rfl IZ.out LZ.out OZ.out ?_)
  have HMK := omake_at 0 2 1 0 _ _ _ _ _ _ _ HE1.out.glob (by decide) (by decide) (by decide) (by decide) ⟨mk2⟩
  rw [← HZ.out.1] at HMK
  refine HMK.mono ?_
  rintro e w2 ⟨rfl, hb⟩
  clear HMK
  have HE2 := Seal.mk ((HE1.out.below hb).push (.cells Zl.toArray 27))
  have HB2 := Seal.mk ((HB1.out.trans (hb.mono HB1.out.size)).alloc (Nat.le_trans HB1.out.size hb.size) (.cells Zl.toArray 27))
  clear hb HE1 HB1
  go_wp2_with (refine wpList_store_new rfl 27 (.tmp 3) (.tmp 28) rfl (.int .i64 0 :: .int .i64 0 :: .int .i64 0 :: .int .i64 0 :: .int .u8 0 :: .int .u8 0 :: .int .u8 0 :: .int .u8 0 :: .int .u8 0 :: .int .u8 0 :: .int .u8 0 :: .int .u8 0 :: .int .u8 0 :: .int .u8 0 :: .int .u8 0 :: .int .u8 0 :: .int .u8 0 :: .int .u8 0 :: .int .u8 0 :: .int .u8 0 :: .int .u8 0 :: .int .u8 0 :: .int .u8 0 :: .int .u8 0 :: .int .u8 0 :: .int .u8 0 :: .int .u8 0 :: .int .u8 0 :: .int .u8 0 :: .int .u8 0 :: .int .u8 0 :: .int .u8 0 :: .int .u8 0 :: .int .u8 0 :: .int .u8 0 :: .int .u8 0 :: [] : List Value) Zl 27 rfl rfl IZ.out LZ.out OZ.out ?_)
  have HMK := omake_at 0 4 0 0 _ _ _ _ _ _ _ HE2.out.glob (by decide) (by decide) (by decide) (by decide) ⟨mk3⟩
  rw [← HZ.out.1] at HMK
  refine HMK.mono ?_
  rintro e w3 ⟨rfl, hb⟩
  clear HMK
  have HE3 := Seal.mk ((HE2.out.below hb).push (.cells Zl.toArray 27))
  have HB3 := Seal.mk ((HB2.out.trans (hb.mono HB2.out.size)).alloc (Nat.le_trans HB2.out.size hb.size) (.cells Zl.toArray 27))
  clear hb HE2 HB2
  go_wp2_with (refine wpList_store_new rfl 27 (.tmp 5) (.tmp 32) rfl (.int .i64 0 :: .int .i64 0 :: .int .i64 0 :: .int .i64 0 :: .int .u8 0 :: .int .u8 0 :: .int .u8 0 :: .int .u8 0 :: .int .u8 0 :: .int .u8 0 :: .int .u8 0 :: .int .u8 0 :: .int .u8 0 :: .int .u8 0 :: .int .u8 0 :: .int .u8 0 :: .int .u8 0 :: .int .u8 0 :: .int .u8 0 :: .int .u8 0 :: .int .u8 0 :: .int .u8 0 :: .int .u8 0 :: .int .u8 0 :: .int .u8 0 :: .int .u8 0 :: .int .u8 0 :: .int .u8 0 :: .int .u8 0 :: .int .u8 0 :: .int .u8 0 :: .int .u8 0 :: .int .u8 0 :: .int .u8 0 :: .int .u8 0 :: .int .u8 0 :: [] : List Value) Zl 27 rfl rfl IZ.out LZ.out OZ.out ?_)
  have HMK := omake_at 0 4 4 1 _ _ _ _ _ _ _ HE3.out.glob (by decide) (by decide) (by decide) (by decide) ⟨mk4⟩
  rw [← HX.out] at HMK
  refine HMK.mono ?_
  rintro e w4 ⟨rfl, hb⟩
  clear HMK
  have HE4 := Seal.mk ((HE3.out.below hb).push (.cells Xl.toArray 27))
  have HB4 := Seal.mk ((HB3.out.trans (hb.mono HB3.out.size)).alloc (Nat.le_trans HB3.out.size hb.size) (.cells Xl.toArray 27))
  clear hb HE3 HB3
  go_wp2_with (refine wpList_store_new rfl 27 (.tmp 7) (.tmp 36) rfl (.int .i64 0 :: .int .i64 0 :: .int .i64 0 :: .int .i64 0 :: .int .u8 0 :: .int .u8 0 :: .int .u8 0 :: .int .u8 0 :: .int .u8 0 :: .int .u8 0 :: .int .u8 0 :: .int .u8 0 :: .int .u8 0 :: .int .u8 0 :: .int .u8 0 :: .int .u8 0 :: .int .u8 0 :: .int .u8 0 :: .int .u8 0 :: .int .u8 0 :: .int .u8 0 :: .int .u8 0 :: .int .u8 0 :: .int .u8 0 :: .int .u8 0 :: .int .u8 0 :: .int .u8 0 :: .int .u8 0 :: .int .u8 0 :: .int .u8 0 :: .int .u8 0 :: .int .u8 0 :: .int .u8 0 :: .int .u8 0 :: .int .u8 0 :: .int .u8 0 :: [] : List Value) Xl 27 rfl rfl IX.out LX.out OX.out ?_)
  have HMK := omake_at 0 4 4 2 _ _ _ _ _ _ _ HE4.out.glob (by decide) (by decide) (by decide) (by decide) ⟨mk5⟩
  rw [← HY.out] at HMK
  refine HMK.mono ?_
  rintro e w5 ⟨rfl, hb⟩
  clear HMK
  have HE5 := Seal.mk ((HE4.out.below hb).push (.cells Yl.toArray 27))
  have HB5 := Seal.mk ((HB4.out.trans (hb.mono HB4.out.size)).alloc (Nat.le_trans HB4.out.size hb.size) (.cells Yl.toArray 27))
  clear hb HE4 HB4
  have IXa : Seal ((Tryd.prog.info? 27).map (·.size) = some Xl.toArray.size) := ⟨by rw [List.size_toArray]; exact IX.out⟩
  have RX5 := Seal.mk (HE5.out.keep (w4.heap.size, .cells Xl.toArray 27) (by simp))
  go_wp2_with (first | (refine wpList_store_new rfl 27 (.tmp 9) (.tmp 40) rfl (.int .i64 0 :: .int .i64 0 :: .int .i64 0 :: .int .i64 0 :: .int .u8 0 :: .int .u8 0 :: .int .u8 0 :: .int .u8 0 :: .int .u8 0 :: .int .u8 0 :: .int .u8 0 :: .int .u8 0 :: .int .u8 0 :: .int .u8 0 :: .int .u8 0 :: .int .u8 0 :: .int .u8 0 :: .int .u8 0 :: .int .u8 0 :: .int .u8 0 :: .int .u8 0 :: .int .u8 0 :: .int .u8 0 :: .int .u8 0 :: .int .u8 0 :: .int .u8 0 :: .int .u8 0 :: .int .u8 0 :: .int .u8 0 :: .int .u8 0 :: .int .u8 0 :: .int .u8 0 :: .int .u8 0 :: .int .u8 0 :: .int .u8 0 :: .int .u8 0 :: [] : List Value) Yl 27 rfl rfl IY.out LY.out OY.out ?_) | (refine wpList_load_row rfl 27 (.tmp 7) rfl w4.heap.size rfl 27 Xl.toArray (0, 0) _ RX5.out Tryd.underlying27 rfl IXa.out ?_))
  have HMK := ospend_any none 0 0 [] [tX] 0 4 4 16 0 tX _ HE5.out.glob (isD_nil _) (i64d rfl) (i64d rfl) (i64d rfl) (i64d rfl) tX_len ⟨sp1⟩
  rw [← HX.out] at HMK
  refine HMK.mono ?_
  clear HMK
  rintro e w6 ⟨ua, ul, uc, rfl, hU, hb⟩
  have HE6 := Seal.mk (HE5.out.below hb)
  have HB6 := Seal.mk (HB5.out.trans (hb.mono HB5.out.size))
  have RX6 := Seal.mk (HE6.out.keep (w4.heap.size, .cells Xl.toArray 27) (by simp))
  clear hb HE5 HB5 RX5
  go_wp2_with (refine wpList_load_row rfl 27 (.tmp 7) rfl w4.heap.size rfl 27 Xl.toArray (0, 0) _ RX6.out Tryd.underlying27 rfl IXa.out ?_)
  have HMK := ospend_any ua ul uc [tX] [] 0 4 4 16 161 tX _ HE6.out.glob hU.out (i64d rfl) (i64d rfl) (i64d rfl) (i64d rfl) tX_len ⟨sp2⟩
  rw [← HX.out] at HMK
  refine HMK.mono ?_
  clear HMK
  rintro e w7 ⟨va, vl, vc, rfl, hV, hb⟩
  have HE7 := Seal.mk (HE6.out.below hb)
  have HB7 := Seal.mk (HB6.out.trans (hb.mono HB6.out.size))
  have RX7 := Seal.mk (HE7.out.keep (w4.heap.size, .cells Xl.toArray 27) (by simp))
  have hU7 := Seal.mk (hU.out.of_heap hb)
  clear hb hU hV HE6 HB6 RX6
  go_wp2_with (refine wpList_load_row rfl 27 (.tmp 7) rfl w4.heap.size rfl 27 Xl.toArray (0, 0) _ RX7.out Tryd.underlying27 rfl IXa.out ?_)
  have HMK := ouse_any 0 4 4 16 4 4 0 0 1 4 16 1 4 4 16 0 tX _ HE7.out.glob (i64d rfl) (i64d rfl) (i64d rfl) (i64d rfl) tX_len (i64d rfl) (i64d rfl) (i64d rfl) ⟨us1⟩
  rw [← HX.out] at HMK
  refine HMK.mono ?_
  clear HMK
  rintro e w8 ⟨rfl, hb⟩
  have HE8 := Seal.mk ((HE7.out.below hb).push (.cells #[.int .i64 4, .int .i64 16, .int .i64 1, .int .i64 4, .int .i64 4, .int .i64 16] 39))
  have HB8 := Seal.mk ((HB7.out.trans (hb.mono HB7.out.size)).alloc (Nat.le_trans HB7.out.size hb.size) (.cells #[.int .i64 4, .int .i64 16, .int .i64 1, .int .i64 4, .int .i64 4, .int .i64 16] 39))
  have RX8 := Seal.mk (HE8.out.keep (w4.heap.size, .cells Xl.toArray 27) (by simp))
  have hU8 := Seal.mk ((hU7.out.of_heap hb).of_heap (below_alloc _ (.cells #[.int .i64 4, .int .i64 16, .int .i64 1, .int .i64 4, .int .i64 4, .int .i64 16] 39)))
  clear hb HE7 HB7 RX7 hU7
  go_wp2_with fail
  have HMK := ouse_any 0 0 0 0 1 1 0 0 0 0 0 0 0 0 0 160 zb32 _ HE8.out.glob (i64d rfl) (i64d rfl) (i64d rfl) (i64d rfl) zb32_len (i64d rfl) (i64d rfl) (i64d rfl) ⟨us2⟩
  rw [← retC_zero] at HMK
  refine HMK.mono ?_
  clear HMK
  rintro e w9 ⟨rfl, hb⟩
  have HE9 := Seal.mk ((HE8.out.below hb).push (.cells #[.int .i64 0, .int .i64 0, .int .i64 0, .int .i64 0, .int .i64 0, .int .i64 0] 39))
  have HB9 := Seal.mk ((HB8.out.trans (hb.mono HB8.out.size)).alloc (Nat.le_trans HB8.out.size hb.size) (.cells #[.int .i64 0, .int .i64 0, .int .i64 0, .int .i64 0, .int .i64 0, .int .i64 0] 39))
  have RX9 := Seal.mk (HE9.out.keep (w4.heap.size, .cells Xl.toArray 27) (by simp))
  have hU9 := Seal.mk ((hU8.out.of_heap hb).of_heap (below_alloc _ (.cells #[.int .i64 0, .int .i64 0, .int .i64 0, .int .i64 0, .int .i64 0, .int .i64 0] 39)))
  clear hb HE8 HB8 RX8 hU8
  go_wp2_with (refine wpList_load_row rfl 27 (.tmp 7) rfl w4.heap.size rfl 27 Xl.toArray (0, 0) _ RX9.out Tryd.underlying27 rfl IXa.out ?_)
  have HMK := ouse_any 0 4 4 16 0 1 0 0 0 0 0 0 0 0 0 100 tX _ HE9.out.glob (i64d rfl) (i64d rfl) (i64d rfl) (i64d rfl) tX_len (i64d rfl) (i64d rfl) (i64d rfl) ⟨us3⟩
  rw [← HX.out] at HMK
  refine HMK.mono ?_
  clear HMK
  rintro e w10 ⟨rfl, hb⟩
  have HE10 := Seal.mk ((HE9.out.below hb).push (.cells #[.int .i64 0, .int .i64 0, .int .i64 0, .int .i64 0, .int .i64 0, .int .i64 0] 39))
  have HB10 := Seal.mk ((HB9.out.trans (hb.mono HB9.out.size)).alloc (Nat.le_trans HB9.out.size hb.size) (.cells #[.int .i64 0, .int .i64 0, .int .i64 0, .int .i64 0, .int .i64 0, .int .i64 0] 39))
  have RX10 := Seal.mk (HE10.out.keep (w4.heap.size, .cells Xl.toArray 27) (by simp))
  have hU10 := Seal.mk ((hU9.out.of_heap hb).of_heap (below_alloc _ (.cells #[.int .i64 0, .int .i64 0, .int .i64 0, .int .i64 0, .int .i64 0, .int .i64 0] 39)))
  clear hb HE9 HB9 RX9 hU9
  go_wp2_with fail
  obtain ⟨Y, hY⟩ : ∃ Y, Y = w10.alloc (.cells #[.int .i64 0, .int .i64 0, .int .i64 0, .int .i64 0, .int .i64 0, .int .i64 0] 39) := ⟨_, rfl⟩
  rw [← hY] at HE10 HB10 RX10 hU10 ⊢
  clear hY
  have RY := Seal.mk (HE10.out.keep (w5.heap.size, .cells Yl.toArray 27) (by simp))
  have RS := Seal.mk (HE10.out.keep (w8.heap.size, .cells #[.int .i64 4, .int .i64 16, .int .i64 1, .int .i64 4, .int .i64 4, .int .i64 16] 39) (by simp))
  obtain rfl : 1 = ul := by have := hU10.out.llen; simpa using this
  rcases hU10.out.at_ with h0 | ⟨gu, ou, rfl, hru, hgu⟩
  · omega
  rw [show dcells [tX] = tX.map B from by simp [dcells]] at hru
  have x2 : Y.cell? ⟨w4.heap.size, 2, none⟩ = some (.int .i64 4) := by rw [cell_of_row _ _ _ _ _ _ RX10.out, HX.out]; rfl
  have x3 : Y.cell? ⟨w4.heap.size, 3, none⟩ = some (.int .i64 16) := by rw [cell_of_row _ _ _ _ _ _ RX10.out, HX.out]; rfl
  have y2 : Y.cell? ⟨w5.heap.size, 2, none⟩ = some (.int .i64 16) := by rw [cell_of_row _ _ _ _ _ _ RY.out, HY.out]; rfl
  have y3 : Y.cell? ⟨w5.heap.size, 3, none⟩ = some (.int .i64 64) := by rw [cell_of_row _ _ _ _ _ _ RY.out, HY.out]; rfl
  have rx : Y.rangeAt w4.heap.size 0 Xl := rangeAt_row RX10.out
  have rd : Y.rangeAt w4.heap.size 4 (tX.map B) := by
    have := rangeAt_drop rx 4
    rw [HX.out] at this
    simpa [retC] using this
  have rs : Y.rangeAt w8.heap.size 0 [.int .i64 4, .int .i64 16, .int .i64 1, .int .i64 4, .int .i64 4, .int .i64 16] := rangeAt_row (cs := [.int .i64 4, .int .i64 16, .int .i64 1, .int .i64 4, .int .i64 4, .int .i64 16]) RS.out
  have heq : ∀ W, (Op.equalIn 10000 25 (.agg (tX.map B).toArray) (.agg (tX.map B).toArray)).run Tryd.prog W = .ok true W := fun W => by rw [eqDig _ _ tX_len tX_len W]; simp
  have e1 := fun W => eqCi1 W
  have e2 := fun W => eqCi2 W
  have e3 := fun W => eqSe1 W
  have HC1 : Seal (∀ W, Glob W → Calls Tryd.prog 15 #[.agg Xl.toArray] W fun e w' => e = .returned (.int .i64 0) ∧ Below W.heap.size W w') := ⟨fun W h => by rw [HX.out]; exact ocheck_any 0 4 4 16 tX true W h (i64d rfl) (i64d rfl) (i64d rfl) (i64d rfl) tX_len chkX⟩
  have HC2 : Seal (∀ W, Glob W → Calls Tryd.prog 15 #[.agg (List.toArray (.int .i64 0 :: .int .i64 0 :: .int .i64 0 :: .int .i64 0 :: .int .u8 0 :: .int .u8 0 :: .int .u8 0 :: .int .u8 0 :: .int .u8 0 :: .int .u8 0 :: .int .u8 0 :: .int .u8 0 :: .int .u8 0 :: .int .u8 0 :: .int .u8 0 :: .int .u8 0 :: .int .u8 0 :: .int .u8 0 :: .int .u8 0 :: .int .u8 0 :: .int .u8 0 :: .int .u8 0 :: .int .u8 0 :: .int .u8 0 :: .int .u8 0 :: .int .u8 0 :: .int .u8 0 :: .int .u8 0 :: .int .u8 0 :: .int .u8 0 :: .int .u8 0 :: .int .u8 0 :: .int .u8 0 :: .int .u8 0 :: .int .u8 0 :: .int .u8 0 :: []) : Array Value)] W fun e w' => e = .returned (.int .i64 160) ∧ Below W.heap.size W w') := ⟨fun W h => by rw [retC_zero]; exact ocheck_any 0 0 0 0 zb32 false W h (i64d rfl) (i64d rfl) (i64d rfl) (i64d rfl) zb32_len chk0⟩
  have i1 := dg_info tX tX_len
  have i2 := IX.out
  have i3 : (Tryd.prog.info? 39).map (·.size) = some ([.int .i64 4, .int .i64 16, .int .i64 1, .int .i64 4, .int .i64 4, .int .i64 16] : List Value).length := by kernel_rfl
  have ut := Tryd.underlying25
  have u2 := Tryd.underlying27
  have u3 := Tryd.underlying39
  have HG : Seal (Glob Y) := ⟨HE10.out.glob⟩
  clear IZ IX IY LZ LX LY OZ OX OY HZ HX HY IXa RX10 RY RS hU10 HE10
  refine wp_region_held_drew (S := fun w' => w'.cell? ⟨w4.heap.size, 2, none⟩ = some (.int .i64 4) ∧ w'.cell? ⟨w4.heap.size, 3, none⟩ = some (.int .i64 16) ∧ w'.cell? ⟨w5.heap.size, 2, none⟩ = some (.int .i64 16) ∧ w'.cell? ⟨w5.heap.size, 3, none⟩ = some (.int .i64 64) ∧ w'.rangeAt gu ou (tX.map B) ∧ w'.rangeAt w4.heap.size 4 (tX.map B) ∧ w'.rangeAt w8.heap.size 0 [.int .i64 4, .int .i64 16, .int .i64 1, .int .i64 4, .int .i64 4, .int .i64 16] ∧ w'.rangeAt w4.heap.size 0 Xl) (by kernel_rfl) ⟨x2, x3, y2, y3, hru, rd, rs, rx⟩ (fun hHeld => ?_)
  refine take_h 0 ?_ rfl (by kernel_rfl) (by kernel_rfl) (by kernel_rfl) (fun _ _ _ h => h) (Or.inl ⟨by kernel_rfl, ?_⟩) (by assumption) ?_
  rotate_left
  · (intro w hSw; (try dsimp only at hSw); go_simp; try (with_reducible rfl))
  try simp only [Act.put, List.setIfInBounds_toArray, List.set_cons_zero, List.set_cons_succ]
  refine take_h 1 ?_ rfl (by kernel_rfl) (by kernel_rfl) (by kernel_rfl) (fun _ _ _ h => h) (Or.inl ⟨by kernel_rfl, ?_⟩) (by assumption) ?_
  rotate_left
  · (intro w hSw; (try dsimp only at hSw); go_simp; try (with_reducible rfl))
  try simp only [Act.put, List.setIfInBounds_toArray, List.set_cons_zero, List.set_cons_succ]
  refine take_h 2 ?_ rfl (by kernel_rfl) (by kernel_rfl) (by kernel_rfl) (fun _ _ _ h => h) (Or.inl ⟨by kernel_rfl, ?_⟩) (by assumption) ?_
  rotate_left
  · (intro w hSw; (try dsimp only at hSw); go_simp; try (with_reducible rfl))
  try simp only [Act.put, List.setIfInBounds_toArray, List.set_cons_zero, List.set_cons_succ]
  refine take_h 3 ?_ rfl (by kernel_rfl) (by kernel_rfl) (by kernel_rfl) (fun _ _ _ h => h) (Or.inl ⟨by kernel_rfl, ?_⟩) (by assumption) ?_
  rotate_left
  · (intro w hSw; (try dsimp only at hSw); go_simp; try (with_reducible rfl))
  try simp only [Act.put, List.setIfInBounds_toArray, List.set_cons_zero, List.set_cons_succ]
  refine take_h 4 ?_ rfl (by kernel_rfl) (by kernel_rfl) (by kernel_rfl) (fun _ _ _ h => h) (Or.inl ⟨by kernel_rfl, ?_⟩) (by assumption) ?_
  rotate_left
  · (intro w hSw; (try dsimp only at hSw); go_simp; try (with_reducible rfl))
  try simp only [Act.put, List.setIfInBounds_toArray, List.set_cons_zero, List.set_cons_succ]
  refine take_h 5 ?_ rfl (by kernel_rfl) (by kernel_rfl) (by kernel_rfl) (fun _ _ _ h => h) (Or.inl ⟨by kernel_rfl, ?_⟩) (by assumption) ?_
  rotate_left
  · (intro w hSw; (try dsimp only at hSw); go_simp; try (with_reducible rfl))
  try simp only [Act.put, List.setIfInBounds_toArray, List.set_cons_zero, List.set_cons_succ]
  refine take_h 6 ?_ rfl (by kernel_rfl) (by kernel_rfl) (by kernel_rfl) (fun _ _ _ h => h) (Or.inl ⟨by kernel_rfl, ?_⟩) (by assumption) ?_
  rotate_left
  · (intro w hSw; (try dsimp only at hSw); go_simp; try (with_reducible rfl))
  try simp only [Act.put, List.setIfInBounds_toArray, List.set_cons_zero, List.set_cons_succ]
  refine take_h 7 ?_ rfl (by kernel_rfl) (by kernel_rfl) (by kernel_rfl) (fun _ _ _ h => h) (Or.inl ⟨by kernel_rfl, ?_⟩) (by assumption) ?_
  rotate_left
  · (intro w hSw; (try dsimp only at hSw); go_simp; try (with_reducible rfl))
  try simp only [Act.put, List.setIfInBounds_toArray, List.set_cons_zero, List.set_cons_succ]
  refine take_h 8 ?_ rfl (by kernel_rfl) (by kernel_rfl) (by kernel_rfl) (fun _ _ _ h => h) (Or.inl ⟨by kernel_rfl, ?_⟩) (by assumption) ?_
  rotate_left
  · (intro w hSw; (try dsimp only at hSw); go_simp; try (with_reducible rfl))
  try simp only [Act.put, List.setIfInBounds_toArray, List.set_cons_zero, List.set_cons_succ]
  refine take_h 9 ?_ rfl (by kernel_rfl) (by kernel_rfl) (by kernel_rfl) (fun _ _ _ h => h) (Or.inl ⟨by kernel_rfl, ?_⟩) (by assumption) ?_
  rotate_left
  · (intro w hSw; (try dsimp only at hSw); go_simp; try (with_reducible rfl))
  try simp only [Act.put, List.setIfInBounds_toArray, List.set_cons_zero, List.set_cons_succ]
  refine take_h 10 ?_ rfl (by kernel_rfl) (by kernel_rfl) (by kernel_rfl) (fun _ _ _ h => h) (Or.inl ⟨by kernel_rfl, ?_⟩) (by assumption) ?_
  rotate_left
  · (intro w hSw; (try dsimp only at hSw); go_simp; try (with_reducible rfl))
  try simp only [Act.put, List.setIfInBounds_toArray, List.set_cons_zero, List.set_cons_succ]
  refine take_h 11 ?_ rfl (by kernel_rfl) (by kernel_rfl) (by kernel_rfl) (fun _ _ _ h => h) (Or.inl ⟨by kernel_rfl, ?_⟩) (by assumption) ?_
  rotate_left
  · (intro w hSw; (try dsimp only at hSw); go_simp; try (with_reducible rfl))
  try simp only [Act.put, List.setIfInBounds_toArray, List.set_cons_zero, List.set_cons_succ]
  refine take_h 12 ?_ rfl (by kernel_rfl) (by kernel_rfl) (by kernel_rfl) (fun _ _ _ h => h) (Or.inl ⟨by kernel_rfl, ?_⟩) (by assumption) ?_
  rotate_left
  · (intro w hSw; (try dsimp only at hSw); go_simp; try (with_reducible rfl))
  try simp only [Act.put, List.setIfInBounds_toArray, List.set_cons_zero, List.set_cons_succ]
  refine take_h 13 ?_ rfl (by kernel_rfl) (by kernel_rfl) (by kernel_rfl) (fun _ _ _ h => h) (Or.inl ⟨by kernel_rfl, ?_⟩) (by assumption) ?_
  rotate_left
  · (intro w hSw; (try dsimp only at hSw); go_simp; try (with_reducible rfl))
  try simp only [Act.put, List.setIfInBounds_toArray, List.set_cons_zero, List.set_cons_succ]
  refine take_h 14 ?_ rfl (by kernel_rfl) (by kernel_rfl) (by kernel_rfl) (fun _ _ _ h => h) (Or.inl ⟨by kernel_rfl, ?_⟩) (by assumption) ?_
  rotate_left
  · (intro w hSw; (try dsimp only at hSw); go_simp; try (with_reducible rfl))
  try simp only [Act.put, List.setIfInBounds_toArray, List.set_cons_zero, List.set_cons_succ]
  refine take_h 15 ?_ rfl (by kernel_rfl) (by kernel_rfl) (by kernel_rfl) (fun _ _ _ h => h) (Or.inl ⟨by kernel_rfl, ?_⟩) (by assumption) ?_
  rotate_left
  · (intro w hSw; (try dsimp only at hSw); go_simp; try (with_reducible rfl))
  try simp only [Act.put, List.setIfInBounds_toArray, List.set_cons_zero, List.set_cons_succ]
  refine take_h 16 ?_ rfl (by kernel_rfl) (by kernel_rfl) (by kernel_rfl) (fun _ _ _ h => h) (Or.inl ⟨by kernel_rfl, ?_⟩) (by assumption) ?_
  rotate_left
  · (intro w hSw; (try dsimp only at hSw); go_simp; try (with_reducible rfl))
  try simp only [Act.put, List.setIfInBounds_toArray, List.set_cons_zero, List.set_cons_succ]
  refine take_h 17 ?_ rfl (by kernel_rfl) (by kernel_rfl) (by kernel_rfl) (fun _ _ _ h => h) (Or.inl ⟨by kernel_rfl, ?_⟩) (by assumption) ?_
  rotate_left
  · (intro w hSw; (try dsimp only at hSw); go_simp; try (with_reducible rfl))
  try simp only [Act.put, List.setIfInBounds_toArray, List.set_cons_zero, List.set_cons_succ]
  refine take_h 18 ?_ rfl (by kernel_rfl) (by kernel_rfl) (by kernel_rfl) (fun _ _ _ h => h) (Or.inl ⟨by kernel_rfl, ?_⟩) (by assumption) ?_
  rotate_left
  · (intro w hSw; (try dsimp only at hSw); go_simp; try (with_reducible rfl))
  try simp only [Act.put, List.setIfInBounds_toArray, List.set_cons_zero, List.set_cons_succ]
  refine take_h 19 ?_ rfl (by kernel_rfl) (by kernel_rfl) (by kernel_rfl) (fun _ _ _ h => h) (Or.inl ⟨by kernel_rfl, ?_⟩) (by assumption) ?_
  rotate_left
  · (intro w hSw; (try dsimp only at hSw); go_simp; try (with_reducible rfl))
  try simp only [Act.put, List.setIfInBounds_toArray, List.set_cons_zero, List.set_cons_succ]
  refine take_h 20 ?_ rfl (by kernel_rfl) (by kernel_rfl) (by kernel_rfl) (fun _ _ _ h => h) (Or.inl ⟨by kernel_rfl, ?_⟩) (by assumption) ?_
  rotate_left
  · (intro w hSw; (try dsimp only at hSw); go_simp; try (with_reducible rfl))
  try simp only [Act.put, List.setIfInBounds_toArray, List.set_cons_zero, List.set_cons_succ]
  refine take_h 21 _ rfl (by kernel_rfl) (by kernel_rfl) (by kernel_rfl) (fun _ _ _ h => h) (yieldsIf_load_mid (by kernel_rfl) 25 (.tmp 132) rfl gu ou rfl (tX.map B) _ (fun w hSw => hSw.2.2.2.2.1) ut rfl i1) (by assumption) ?_
  try simp only [Act.put, List.setIfInBounds_toArray, List.set_cons_zero, List.set_cons_succ]
  refine take_h 22 ?_ rfl (by kernel_rfl) (by kernel_rfl) (by kernel_rfl) (fun _ _ _ h => h) (Or.inl ⟨by kernel_rfl, ?_⟩) (by assumption) ?_
  rotate_left
  · (intro w hSw; (try dsimp only at hSw); go_simp; try (with_reducible rfl))
  try simp only [Act.put, List.setIfInBounds_toArray, List.set_cons_zero, List.set_cons_succ]
  refine take_h 23 _ rfl (by kernel_rfl) (by kernel_rfl) (by kernel_rfl) (fun _ _ _ h => h) (yieldsIf_load_mid (by kernel_rfl) 25 (.tmp 134) rfl w4.heap.size 4 rfl (tX.map B) _ (fun w hSw => hSw.2.2.2.2.2.1) ut rfl i1) (by assumption) ?_
  try simp only [Act.put, List.setIfInBounds_toArray, List.set_cons_zero, List.set_cons_succ]
  refine take_h 24 ?_ rfl (by kernel_rfl) (by kernel_rfl) (by kernel_rfl) (fun _ _ _ h => h) (Or.inl ⟨by kernel_rfl, ?_⟩) (by assumption) ?_
  rotate_left
  · (intro w hSw; (try dsimp only at hSw); go_simp; try (with_reducible rfl))
  try simp only [Act.put, List.setIfInBounds_toArray, List.set_cons_zero, List.set_cons_succ]
  refine take_h 25 ?_ rfl (by kernel_rfl) (by kernel_rfl) (by kernel_rfl) (fun _ _ _ h => h) (Or.inl ⟨by kernel_rfl, ?_⟩) (by assumption) ?_
  rotate_left
  · (intro w hSw; (try dsimp only at hSw); go_simp; try (with_reducible rfl))
  try simp only [Act.put, List.setIfInBounds_toArray, List.set_cons_zero, List.set_cons_succ]
  refine take_h 26 ?_ rfl (by kernel_rfl) (by kernel_rfl) (by kernel_rfl) (fun _ _ _ h => h) (Or.inl ⟨by kernel_rfl, ?_⟩) (by assumption) ?_
  rotate_left
  · (intro w hSw; (try dsimp only at hSw); go_simp; try (with_reducible rfl))
  try simp only [Act.put, List.setIfInBounds_toArray, List.set_cons_zero, List.set_cons_succ]
  refine take_h 27 _ rfl (by kernel_rfl) (by kernel_rfl) (by kernel_rfl) (fun _ _ _ h => h) (yieldsIf_load_mid (by kernel_rfl) 39 (.tmp 15) rfl w8.heap.size 0 rfl [.int .i64 4, .int .i64 16, .int .i64 1, .int .i64 4, .int .i64 4, .int .i64 16] _ (fun w hSw => hSw.2.2.2.2.2.2.1) u3 rfl i3) (by assumption) ?_
  try simp only [Act.put, List.setIfInBounds_toArray, List.set_cons_zero, List.set_cons_succ]
  refine take_h 28 ?_ rfl (by kernel_rfl) (by kernel_rfl) (by kernel_rfl) (fun _ _ _ h => h) (Or.inl ⟨by kernel_rfl, ?_⟩) (by assumption) ?_
  rotate_left
  · (intro w hSw; (try dsimp only at hSw); go_simp; try (with_reducible rfl))
  try simp only [Act.put, List.setIfInBounds_toArray, List.set_cons_zero, List.set_cons_succ]
  refine take_h 29 ?_ rfl (by kernel_rfl) (by kernel_rfl) (by kernel_rfl) (fun _ _ _ h => h) (Or.inl ⟨by kernel_rfl, ?_⟩) (by assumption) ?_
  rotate_left
  · (intro w hSw; (try dsimp only at hSw); go_simp; try (with_reducible rfl))
  try simp only [Act.put, List.setIfInBounds_toArray, List.set_cons_zero, List.set_cons_succ]
  refine take_h 30 ?_ rfl (by kernel_rfl) (by kernel_rfl) (by kernel_rfl) (fun _ _ _ h => h) (Or.inl ⟨by kernel_rfl, ?_⟩) (by assumption) ?_
  rotate_left
  · (intro w hSw; (try dsimp only at hSw); go_simp; try (with_reducible rfl))
  try simp only [Act.put, List.setIfInBounds_toArray, List.set_cons_zero, List.set_cons_succ]
  refine take_h 31 ?_ rfl (by kernel_rfl) (by kernel_rfl) (by kernel_rfl) (fun _ _ _ h => h) (Or.inl ⟨by kernel_rfl, ?_⟩) (by assumption) ?_
  rotate_left
  · (intro w hSw; (try dsimp only at hSw); go_simp; try (with_reducible rfl))
  try simp only [Act.put, List.setIfInBounds_toArray, List.set_cons_zero, List.set_cons_succ]
  refine take_h 32 ?_ rfl (by kernel_rfl) (by kernel_rfl) (by kernel_rfl) (fun _ _ _ h => h) (Or.inl ⟨by kernel_rfl, ?_⟩) (by assumption) ?_
  rotate_left
  · (intro w hSw; (try dsimp only at hSw); go_simp; try (with_reducible rfl))
  try simp only [Act.put, List.setIfInBounds_toArray, List.set_cons_zero, List.set_cons_succ]
  refine take_h 33 ?_ rfl (by kernel_rfl) (by kernel_rfl) (by kernel_rfl) (fun _ _ _ h => h) (Or.inl ⟨by kernel_rfl, ?_⟩) (by assumption) ?_
  rotate_left
  · (intro w hSw; (try dsimp only at hSw); go_simp; try (with_reducible rfl))
  try simp only [Act.put, List.setIfInBounds_toArray, List.set_cons_zero, List.set_cons_succ]
  refine take_h 34 ?_ rfl (by kernel_rfl) (by kernel_rfl) (by kernel_rfl) (fun _ _ _ h => h) (Or.inl ⟨by kernel_rfl, ?_⟩) (by assumption) ?_
  rotate_left
  · (intro w hSw; (try dsimp only at hSw); go_simp; try (with_reducible rfl))
  try simp only [Act.put, List.setIfInBounds_toArray, List.set_cons_zero, List.set_cons_succ]
  refine take_h 35 _ rfl (by kernel_rfl) (by kernel_rfl) (by kernel_rfl) (fun _ _ _ h => h) (yieldsIf_load_mid (by kernel_rfl) 27 (.tmp 7) rfl w4.heap.size 0 rfl Xl _ (fun w hSw => hSw.2.2.2.2.2.2.2) u2 rfl i2) (by assumption) ?_
  try simp only [Act.put, List.setIfInBounds_toArray, List.set_cons_zero, List.set_cons_succ]
  refine call_h 36 rfl (by kernel_rfl) 15 #[.agg Xl.toArray] (by kernel_rfl) (by go_simp) ?_
  refine (HC1.out Y.drew ⟨HG.out.start, HG.out.nums⟩).mono ?_
  rintro e w11 ⟨rfl, hb⟩
  have hb2 : Below Y.heap.size Y w11 := ⟨hb.os, hb.tape, hb.output, hb.size, hb.block⟩
  have HB11 : Seal (Below w.heap.size w w11) := ⟨HB10.out.trans (hb2.mono HB10.out.size)⟩
  have HG11 : Seal (Glob w11) := ⟨HG.out.below hb2⟩
  refine ⟨_, rfl, ⟨cell_later hb2 x2, cell_later hb2 x3, cell_later hb2 y2, cell_later hb2 y3, rangeAt_below' hru hb2, rangeAt_below' rd hb2, rangeAt_below' rs hb2, rangeAt_below' rx hb2⟩, fun hHeld2 => ?_⟩
  clear hHeld hb hb2 x2 x3 y2 y3 hru rd rs rx
  try simp only [Act.put, List.setIfInBounds_toArray, List.set_cons_zero, List.set_cons_succ]
  refine take_h 37 ?_ rfl (by kernel_rfl) (by kernel_rfl) (by kernel_rfl) (fun _ _ _ h => h) (Or.inl ⟨by kernel_rfl, ?_⟩) (by assumption) ?_
  rotate_left
  · (intro w hSw; (try dsimp only at hSw); go_simp; try (with_reducible rfl))
  try simp only [Act.put, List.setIfInBounds_toArray, List.set_cons_zero, List.set_cons_succ]
  refine take_h 38 ?_ rfl (by kernel_rfl) (by kernel_rfl) (by kernel_rfl) (fun _ _ _ h => h) (Or.inl ⟨by kernel_rfl, ?_⟩) (by assumption) ?_
  rotate_left
  · (intro w hSw; (try dsimp only at hSw); go_simp; try (with_reducible rfl))
  try simp only [Act.put, List.setIfInBounds_toArray, List.set_cons_zero, List.set_cons_succ]
  refine take_h 39 ?_ rfl (by kernel_rfl) (by kernel_rfl) (by kernel_rfl) (fun _ _ _ h => h) (Or.inl ⟨by kernel_rfl, ?_⟩) (by assumption) ?_
  rotate_left
  · (intro w hSw; (try dsimp only at hSw); go_simp; try (with_reducible rfl))
  try simp only [Act.put, List.setIfInBounds_toArray, List.set_cons_zero, List.set_cons_succ]
  refine take_h 40 ?_ rfl (by kernel_rfl) (by kernel_rfl) (by kernel_rfl) (fun _ _ _ h => h) (Or.inl ⟨by kernel_rfl, ?_⟩) (by assumption) ?_
  rotate_left
  · (intro w hSw; (try dsimp only at hSw); go_simp; try (with_reducible rfl))
  try simp only [Act.put, List.setIfInBounds_toArray, List.set_cons_zero, List.set_cons_succ]
  refine call_h 41 rfl (by kernel_rfl) 15 #[.agg (List.toArray (.int .i64 0 :: .int .i64 0 :: .int .i64 0 :: .int .i64 0 :: .int .u8 0 :: .int .u8 0 :: .int .u8 0 :: .int .u8 0 :: .int .u8 0 :: .int .u8 0 :: .int .u8 0 :: .int .u8 0 :: .int .u8 0 :: .int .u8 0 :: .int .u8 0 :: .int .u8 0 :: .int .u8 0 :: .int .u8 0 :: .int .u8 0 :: .int .u8 0 :: .int .u8 0 :: .int .u8 0 :: .int .u8 0 :: .int .u8 0 :: .int .u8 0 :: .int .u8 0 :: .int .u8 0 :: .int .u8 0 :: .int .u8 0 :: .int .u8 0 :: .int .u8 0 :: .int .u8 0 :: .int .u8 0 :: .int .u8 0 :: .int .u8 0 :: .int .u8 0 :: []) : Array Value)] (by kernel_rfl) (by go_simp) ?_
  refine (HC2.out w11 HG11.out).mono ?_
  rintro e w12 ⟨rfl, hb⟩
  have HB12 : Seal (Below w.heap.size w w12) := ⟨HB11.out.trans (hb.mono HB11.out.size)⟩
  refine ⟨_, rfl, ⟨cell_later hb hHeld2.1, cell_later hb hHeld2.2.1, cell_later hb hHeld2.2.2.1, cell_later hb hHeld2.2.2.2.1, rangeAt_below' hHeld2.2.2.2.2.1 hb, rangeAt_below' hHeld2.2.2.2.2.2.1 hb, rangeAt_below' hHeld2.2.2.2.2.2.2.1 hb, rangeAt_below' hHeld2.2.2.2.2.2.2.2 hb⟩, fun hHeld3 => ?_⟩
  clear hHeld2 hb
  try simp only [Act.put, List.setIfInBounds_toArray, List.set_cons_zero, List.set_cons_succ]
  refine take_h 42 ?_ rfl (by kernel_rfl) (by kernel_rfl) (by kernel_rfl) (fun _ _ _ h => h) (Or.inl ⟨by kernel_rfl, ?_⟩) (by assumption) ?_
  rotate_left
  · (intro w hSw; (try dsimp only at hSw); go_simp; try (with_reducible rfl))
  try simp only [Act.put, List.setIfInBounds_toArray, List.set_cons_zero, List.set_cons_succ]
  refine take_h 43 ?_ rfl (by kernel_rfl) (by kernel_rfl) (by kernel_rfl) (fun _ _ _ h => h) (Or.inl ⟨by kernel_rfl, ?_⟩) (by assumption) ?_
  rotate_left
  · (intro w hSw; (try dsimp only at hSw); go_simp; try (with_reducible rfl))
  try simp only [Act.put, List.setIfInBounds_toArray, List.set_cons_zero, List.set_cons_succ]
  refine take_h 44 ?_ rfl (by kernel_rfl) (by kernel_rfl) (by kernel_rfl) (fun _ _ _ h => h) (Or.inl ⟨by kernel_rfl, ?_⟩) (by assumption) ?_
  rotate_left
  · (intro w hSw; (try dsimp only at hSw); go_simp; try (with_reducible rfl))
  try simp only [Act.put, List.setIfInBounds_toArray, List.set_cons_zero, List.set_cons_succ]
  refine wpAnyH_done (by kernel_rfl) ?_ _
  clear hHeld3
  go_wp2
  go_ret
  exact ⟨rfl, HB12.out⟩

theorem eqAt_u8' (d : Nat) : EqAt Tryd.prog (d + 1) 5 := run_equalIn_deep d 1 5 (by kernel_rfl)

theorem eqDig_at (dd : Nat) (a b : Bytes) (ha : a.length = 32) (hb : b.length = 32) (w : World) :
    (Op.equalIn (dd + 1 + 1) 25 (.agg (a.map B).toArray) (.agg (b.map B).toArray)).run Tryd.prog w = .ok (a == b) w := by
  obtain ⟨i0, hi, _⟩ := info_parts info_u8
  rw [run_equalIn_array w (dd + 1) _ _ Tryd.underlying25 hi]
  obtain ⟨r, hr, hiff⟩ := run_eqItems_deep w (dd + 1) (eqAt_u8' dd) (a.map B).toArray (b.map B).toArray (List.range 32) _ _ (lits_u8 a 32 ha) (lits_u8 b 32 hb)
  rw [hr]
  congr 1
  have key : (((List.range 32).map fun i => [Lit.int .u8 ((a.getD i 0).toNat : Int)]).flatten = ((List.range 32).map fun i => [Lit.int .u8 ((b.getD i 0).toNat : Int)]).flatten) ↔ a = b := by
    constructor
    · intro h
      apply bytes_ext (by rw [ha, hb])
      intro j hj
      have e : ∀ c : Bytes, ((List.range 32).map fun i => [Lit.int .u8 ((c.getD i 0).toNat : Int)]).flatten = (List.range 32).map fun i => Lit.int .u8 ((c.getD i 0).toNat : Int) := by
        intro c
        exact flatten_one _ _
      rw [e, e] at h
      have h2 := congrArg (·[j]?) h
      simp only [List.getElem?_map, List.getElem?_range (show j < 32 by omega), Option.map_some, Option.some.injEq, Lit.int.injEq, true_and] at h2
      exact UInt8.toNat_inj.1 (by omega)
    · intro h; rw [h]
  cases r with
  | true => exact (beq_iff_eq.2 (key.1 (hiff.1 rfl))).symm
  | false =>
    symm
    rw [beq_eq_false_iff_ne]
    intro e
    have := hiff.2 (key.2 e)
    cases this

theorem eqFields_step {P : Program} (d : Nat) (xs ys : Array Value) (f : Field) (fs : List Field) (w : World) (a b : Value) (r : Bool) (hn : f.name ≠ "_") (ha : (part f.type xs f.offset).run P w = .ok a w) (hb : (part f.type ys f.offset).run P w = .ok b w) (hr : (Op.equalIn d f.type a b).run P w = .ok r w) :
    (Op.eqFields d xs ys (f :: fs)).run P w = if r = true then (Op.eqFields d xs ys fs).run P w else .ok false w := by
  rw [Op.eqFields, if_pos hn]
  simp only [Sem.run_bind, ha, hb, hr, Result.andThen_ok]
  cases r <;> rfl

theorem eqCi_at (d : Nat) (a b c e : Int) (w : World) : (Op.equalIn (d + 1 + 1) 23 (.agg #[.int .i64 a, .int .i64 b]) (.agg #[.int .i64 c, .int .i64 e])).run Tryd.prog w = .ok (a == c && b == e) w := by
  have u3 := Tryd.underlying3
  have a3 := Tryd.isAgg3
  have z3 := Tryd.sizeOf3
  have hS : Tryd.prog.underlying 23 = some (.struct (Tryd.prog.fieldsOf 23)) := by kernel_rfl
  have hp : Tryd.prog.stoodInHeld 23 = false := by kernel_rfl
  rw [run_equalIn_agg w (d + 1) 23 _ _ hS hp]
  simp only [Program.fieldsOf, Tryd.underlying23]
  go_simp
  by_cases h1 : a = c <;> by_cases h2 : b = e <;> simp [h1, h2]

theorem eqInt_at (d : Nat) (a b : Int) (w : World) : (Op.equalIn (d + 1) 3 (.int .i64 a) (.int .i64 b)).run Tryd.prog w = .ok (a == b) w := by
  have u3 := Tryd.underlying3
  go_simp

set_option maxHeartbeats 1000000 in
theorem eqRet (L K P Q L' K' P' Q' : Int) (T T' : Bytes) (hT : T.length = 32) (hT' : T'.length = 32) (w : World) :
    (Op.equalIn 10000 27 (.agg (retC L K P Q T).toArray) (.agg (retC L' K' P' Q' T').toArray)).run Tryd.prog w = .ok (L == L' && (K == K' && ((P == P' && Q == Q') && T == T'))) w := by
  have a3 := Tryd.isAgg3
  have aC := Tryd.isAgg23
  have aD := Tryd.isAgg25
  have zC := Tryd.sizeOf23
  have zD := Tryd.sizeOf25
  have hS : Tryd.prog.underlying 27 = some (.struct (Tryd.prog.fieldsOf 27)) := by kernel_rfl
  have hp : Tryd.prog.stoodInHeld 27 = false := by kernel_rfl
  have p0 : ∀ (L K P Q : Int) (T : Bytes), (part 3 (retC L K P Q T).toArray 0).run Tryd.prog w = .ok (.int .i64 L) w := fun L K P Q T => by simp [part, a3, retC]
  have p1 : ∀ (L K P Q : Int) (T : Bytes), (part 3 (retC L K P Q T).toArray 1).run Tryd.prog w = .ok (.int .i64 K) w := fun L K P Q T => by simp [part, a3, retC]
  have p2 : ∀ (L K P Q : Int) (T : Bytes), (part 23 (retC L K P Q T).toArray 2).run Tryd.prog w = .ok (.agg #[.int .i64 P, .int .i64 Q]) w := fun L K P Q T => by simp [part, aC, zC, retC]
  have p4 : ∀ (L K P Q : Int) (T : Bytes), T.length = 32 → (part 25 (retC L K P Q T).toArray 4).run Tryd.prog w = .ok (.agg (T.map B).toArray) w := fun L K P Q T h => by
    simp [part, aD, zD, retC]
    exact List.take_of_length_le (by rw [List.length_map, h]; exact Nat.le_refl _)
  rw [show (10000 : Nat) = 9999 + 1 from rfl, run_equalIn_agg w 9999 27 _ _ hS hp]
  simp only [Program.fieldsOf, Tryd.underlying27]
  rw [eqFields_step _ _ _ _ _ _ _ _ _ (by decide) (p0 L K P Q T) (p0 L' K' P' Q' T') (eqInt_at 9998 L L' w),
    eqFields_step _ _ _ _ _ _ _ _ _ (by decide) (p1 L K P Q T) (p1 L' K' P' Q' T') (eqInt_at 9998 K K' w),
    eqFields_step _ _ _ _ _ _ _ _ _ (by decide) (p2 L K P Q T) (p2 L' K' P' Q' T') (eqCi_at 9997 P Q P' Q' w),
    eqFields_step _ _ _ _ _ _ _ _ _ (by decide) (p4 L K P Q T hT) (p4 L' K' P' Q' T' hT') (eqDig_at 9997 T T' hT hT' w)]
  have he : (Op.eqFields 9999 (retC L K P Q T).toArray (retC L' K' P' Q' T').toArray []).run Tryd.prog w = .ok true w := by rw [Op.eqFields]; rfl
  rw [he]
  generalize (L == L') = b1
  generalize (K == K') = b2
  generalize (P == P' && Q == Q') = b3
  generalize (T == T') = b4
  clear he p0 p1 p2 p4
  cases b1 <;> cases b2 <;> cases b3 <;> cases b4 <;> rfl
end Frk
