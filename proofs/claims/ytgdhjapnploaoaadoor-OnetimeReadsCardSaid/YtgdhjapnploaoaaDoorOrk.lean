/- The law OnetimeReads, walked: the bad cases. -/
import Derived.Test.YtgdhjapnploaoaaDoorOrj
namespace Frk
open Go Go.RowKit Go.Proofs
set_option maxRecDepth 100000


set_option maxHeartbeats 4000000 in
theorem reads_key (line one two al r a b m0 m1 m2 d1 e1 d2 e2 : Int) (w : World) (hG : Glob w) (he : e1 = 110 ∨ e1 = 0 ∧ e2 = 110) (HP1 : Seal (∀ W, Calls Tryd.prog 19 #[.int .i64 one] W fun e w' => e = .returned (.tuple #[.int .i64 d1, .int .i64 e1]) ∧ Below W.heap.size W w')) (HP2 : Seal (∀ W, Calls Tryd.prog 19 #[.int .i64 two] W fun e w' => e = .returned (.tuple #[.int .i64 d2, .int .i64 e2]) ∧ Below W.heap.size W w')) :
    Calls Tryd.prog 8 #[.int .i64 line, .int .i64 one, .int .i64 two, .int .i64 al, .int .i64 r, .agg #[.int .i64 a, .int .i64 b], .agg #[.int .i64 m0, .int .i64 m1, .int .i64 m2]] w fun e w' => e = .returned (.bool true) ∧ Below w.heap.size w w' := by
  rcases he with rfl | ⟨rfl, rfl⟩
  · skip
    have HE1 : Seal (Env ((w.alloc (.cells #[.int .i64 a, .int .i64 b] 62)).alloc (.cells #[.int .i64 m0, .int .i64 m1, .int .i64 m2] 22)) none 0 0 [] [(w.heap.size + 1, .cells #[.int .i64 m0, .int .i64 m1, .int .i64 m2] 22), (w.heap.size, .cells #[.int .i64 a, .int .i64 b] 62)]) := ⟨by
      have h1 := Env.push (bs := []) ⟨hG, isB_nil w, by intro p hp; cases hp⟩ (.cells #[.int .i64 a, .int .i64 b] 62)
      have h2 := h1.push (.cells #[.int .i64 m0, .int .i64 m1, .int .i64 m2] 22)
      rw [size_alloc] at h2
      exact h2⟩
    have HB1 : Seal (Below w.heap.size w ((w.alloc (.cells #[.int .i64 a, .int .i64 b] 62)).alloc (.cells #[.int .i64 m0, .int .i64 m1, .int .i64 m2] 22))) := ⟨((Below.refl _ w).alloc (Nat.le_refl _) _).alloc (by simp) _⟩
    clear hG
    go_enter Tryd.func8, Tryd.ntmps8
    go_wp2_with fail
    refine (osane_any _ HE1.out.glob).mono ?_
    rintro e w2 ⟨rfl, hbb⟩
    have HE2 := Seal.mk (HE1.out.below hbb)
    have HB2 := Seal.mk (HB1.out.trans (hbb.mono HB1.out.size))
    clear hbb HE1 HB1
    go_wp2_with fail
    refine (HP1.out _).mono ?_
    rintro e w3 ⟨rfl, hbb⟩
    have HE3 := Seal.mk (HE2.out.below hbb)
    have HB3 := Seal.mk (HB2.out.trans (hbb.mono HB2.out.size))
    clear hbb HE2 HB2
    go_wp2_with fail
    refine (HP2.out _).mono ?_
    rintro e w4 ⟨rfl, hbb⟩
    have HE4 := Seal.mk (HE3.out.below hbb)
    have HB4 := Seal.mk (HB3.out.trans (hbb.mono HB3.out.size))
    clear hbb HE3 HB3
    go_wp2_with fail
    go_ret
    exact ⟨rfl, HB4.out⟩
  · skip
    have HE1 : Seal (Env ((w.alloc (.cells #[.int .i64 a, .int .i64 b] 62)).alloc (.cells #[.int .i64 m0, .int .i64 m1, .int .i64 m2] 22)) none 0 0 [] [(w.heap.size + 1, .cells #[.int .i64 m0, .int .i64 m1, .int .i64 m2] 22), (w.heap.size, .cells #[.int .i64 a, .int .i64 b] 62)]) := ⟨by
      have h1 := Env.push (bs := []) ⟨hG, isB_nil w, by intro p hp; cases hp⟩ (.cells #[.int .i64 a, .int .i64 b] 62)
      have h2 := h1.push (.cells #[.int .i64 m0, .int .i64 m1, .int .i64 m2] 22)
      rw [size_alloc] at h2
      exact h2⟩
    have HB1 : Seal (Below w.heap.size w ((w.alloc (.cells #[.int .i64 a, .int .i64 b] 62)).alloc (.cells #[.int .i64 m0, .int .i64 m1, .int .i64 m2] 22))) := ⟨((Below.refl _ w).alloc (Nat.le_refl _) _).alloc (by simp) _⟩
    clear hG
    go_enter Tryd.func8, Tryd.ntmps8
    go_wp2_with fail
    refine (osane_any _ HE1.out.glob).mono ?_
    rintro e w2 ⟨rfl, hbb⟩
    have HE2 := Seal.mk (HE1.out.below hbb)
    have HB2 := Seal.mk (HB1.out.trans (hbb.mono HB1.out.size))
    clear hbb HE1 HB1
    go_wp2_with fail
    refine (HP1.out _).mono ?_
    rintro e w3 ⟨rfl, hbb⟩
    have HE3 := Seal.mk (HE2.out.below hbb)
    have HB3 := Seal.mk (HB2.out.trans (hbb.mono HB2.out.size))
    clear hbb HE2 HB2
    go_wp2_with fail
    refine (HP2.out _).mono ?_
    rintro e w4 ⟨rfl, hbb⟩
    have HE4 := Seal.mk (HE3.out.below hbb)
    have HB4 := Seal.mk (HB3.out.trans (hbb.mono HB3.out.size))
    clear hbb HE3 HB3
    go_wp2_with fail
    go_ret
    exact ⟨rfl, HB4.out⟩


theorem decide_t {p : Prop} [Decidable p] (h : p) : decide p = true := decide_eq_true h

set_option maxHeartbeats 8000000 in
theorem reads_make (line one two al r a b m0 m1 m2 d1 d2 J : Int) (Xl : List Value) (w : World) (hG : Glob w) (hl : line < 0 ∨ 64 ≤ line ∨ al < 1 ∨ 1073741789 < al)
    (IX : Seal ((Tryd.prog.info? 29).map (·.size) = some Xl.length)) (LX : Seal ((.int .i64 0 :: .int .i64 0 :: .int .i64 0 :: .int .i64 0 :: .int .u8 0 :: .int .u8 0 :: .int .u8 0 :: .int .u8 0 :: .int .u8 0 :: .int .u8 0 :: .int .u8 0 :: .int .u8 0 :: .int .u8 0 :: .int .u8 0 :: .int .u8 0 :: .int .u8 0 :: .int .u8 0 :: .int .u8 0 :: .int .u8 0 :: .int .u8 0 :: .int .u8 0 :: .int .u8 0 :: .int .u8 0 :: .int .u8 0 :: .int .u8 0 :: .int .u8 0 :: .int .u8 0 :: .int .u8 0 :: .int .u8 0 :: .int .u8 0 :: .int .u8 0 :: .int .u8 0 :: .int .u8 0 :: .int .u8 0 :: .int .u8 0 :: .int .u8 0 :: [] : List Value).length = Xl.length)) (OX : Seal (∀ u ∈ Xl, u.oneCell' = true))
    (heq : ∀ W, (Op.equalIn 10000 29 (.agg Xl.toArray) (.agg (List.toArray (.int .i64 0 :: .int .i64 0 :: .int .i64 0 :: .int .i64 0 :: .int .u8 0 :: .int .u8 0 :: .int .u8 0 :: .int .u8 0 :: .int .u8 0 :: .int .u8 0 :: .int .u8 0 :: .int .u8 0 :: .int .u8 0 :: .int .u8 0 :: .int .u8 0 :: .int .u8 0 :: .int .u8 0 :: .int .u8 0 :: .int .u8 0 :: .int .u8 0 :: .int .u8 0 :: .int .u8 0 :: .int .u8 0 :: .int .u8 0 :: .int .u8 0 :: .int .u8 0 :: .int .u8 0 :: .int .u8 0 :: .int .u8 0 :: .int .u8 0 :: .int .u8 0 :: .int .u8 0 :: .int .u8 0 :: .int .u8 0 :: .int .u8 0 :: .int .u8 0 :: []) : Array Value))).run Tryd.prog W = .ok true W)
    (HP1 : Seal (∀ W, Calls Tryd.prog 19 #[.int .i64 one] W fun e w' => e = .returned (.tuple #[.int .i64 d1, .int .i64 0]) ∧ Below W.heap.size W w')) (HP2 : Seal (∀ W, Calls Tryd.prog 19 #[.int .i64 two] W fun e w' => e = .returned (.tuple #[.int .i64 d2, .int .i64 0]) ∧ Below W.heap.size W w')) (HJ : Seal (∀ W g, W.heap[g]? = some (.cells #[.int .i64 d1, .int .i64 d2] 3 (0, 0)) → Calls Tryd.prog 20 #[.slice (some ⟨g, 0, none⟩) 2 2] W fun e w' => e = .returned (.tuple #[.int .i64 J, .int .i64 0]) ∧ W = w')) (HM1 : Seal (∀ W, Glob W → Calls Tryd.prog 16 #[.int .i64 line, .int .i64 J, .int .i64 al, .int .i64 r] W fun e w' => e = .returned (.tuple #[.agg Xl.toArray, .int .i64 160]) ∧ Below W.heap.size W w')) :
    Calls Tryd.prog 8 #[.int .i64 line, .int .i64 one, .int .i64 two, .int .i64 al, .int .i64 r, .agg #[.int .i64 a, .int .i64 b], .agg #[.int .i64 m0, .int .i64 m1, .int .i64 m2]] w fun e w' => e = .returned (.bool true) ∧ Below w.heap.size w w' := by
  have IXa : Seal ((Tryd.prog.info? 29).map (·.size) = some Xl.toArray.size) := ⟨by rw [List.size_toArray]; exact IX.out⟩
  have HE1 : Seal (Env ((w.alloc (.cells #[.int .i64 a, .int .i64 b] 62)).alloc (.cells #[.int .i64 m0, .int .i64 m1, .int .i64 m2] 22)) none 0 0 [] [(w.heap.size + 1, .cells #[.int .i64 m0, .int .i64 m1, .int .i64 m2] 22), (w.heap.size, .cells #[.int .i64 a, .int .i64 b] 62)]) := ⟨by
    have h1 := Env.push (bs := []) ⟨hG, isB_nil w, by intro p hp; cases hp⟩ (.cells #[.int .i64 a, .int .i64 b] 62)
    have h2 := h1.push (.cells #[.int .i64 m0, .int .i64 m1, .int .i64 m2] 22)
    rw [size_alloc] at h2
    exact h2⟩
  have HB1 : Seal (Below w.heap.size w ((w.alloc (.cells #[.int .i64 a, .int .i64 b] 62)).alloc (.cells #[.int .i64 m0, .int .i64 m1, .int .i64 m2] 22))) := ⟨((Below.refl _ w).alloc (Nat.le_refl _) _).alloc (by simp) _⟩
  clear hG
  go_enter Tryd.func8, Tryd.ntmps8
  go_wp2_with fail
  refine (osane_any _ HE1.out.glob).mono ?_
  rintro e w2 ⟨rfl, hbb⟩
  have HE2 := Seal.mk (HE1.out.below hbb)
  have HB2 := Seal.mk (HB1.out.trans (hbb.mono HB1.out.size))
  clear hbb HE1 HB1
  go_wp2_with fail
  refine (HP1.out _).mono ?_
  rintro e w3 ⟨rfl, hbb⟩
  have HE3 := Seal.mk (HE2.out.below hbb)
  have HB3 := Seal.mk (HB2.out.trans (hbb.mono HB2.out.size))
  clear hbb HE2 HB2
  go_wp2_with fail
  refine (HP2.out _).mono ?_
  rintro e w4 ⟨rfl, hbb⟩
  have HE4 := Seal.mk (HE3.out.below hbb)
  have HB4 := Seal.mk (HB3.out.trans (hbb.mono HB3.out.size))
  clear hbb HE3 HB3
  go_wp2_with fail
  refine (HJ.out (w4.alloc (.cells #[.int .i64 d1, .int .i64 d2] 3)) w4.heap.size (heap_alloc_new w4 _)).mono ?_
  rintro e w5 ⟨rfl, rfl⟩
  have HE5 := Seal.mk (HE4.out.push (.cells #[.int .i64 d1, .int .i64 d2] 3))
  have HB5 := Seal.mk (HB4.out.alloc HB4.out.size (.cells #[.int .i64 d1, .int .i64 d2] 3))
  clear HE4 HB4
  go_wp2_with fail
  refine (HM1.out _ HE5.out.glob).mono ?_
  rintro e w6 ⟨rfl, hbb⟩
  have HE6 := Seal.mk ((HE5.out.below hbb).push (.cells Xl.toArray 29))
  have HB6 := Seal.mk ((HB5.out.trans (hbb.mono HB5.out.size)).alloc (Nat.le_trans HB5.out.size hbb.size) (.cells Xl.toArray 29))
  clear hbb HE5 HB5
  have HXr := Seal.mk (HE6.out.keep (w6.heap.size, .cells Xl.toArray 29) (by simp))
  by_cases q1 : line < 0
  · skip
    go_wp2_with (first | (refine wpList_store_new rfl 29 (.tmp 21) (.tmp 69) rfl (.int .i64 0 :: .int .i64 0 :: .int .i64 0 :: .int .i64 0 :: .int .u8 0 :: .int .u8 0 :: .int .u8 0 :: .int .u8 0 :: .int .u8 0 :: .int .u8 0 :: .int .u8 0 :: .int .u8 0 :: .int .u8 0 :: .int .u8 0 :: .int .u8 0 :: .int .u8 0 :: .int .u8 0 :: .int .u8 0 :: .int .u8 0 :: .int .u8 0 :: .int .u8 0 :: .int .u8 0 :: .int .u8 0 :: .int .u8 0 :: .int .u8 0 :: .int .u8 0 :: .int .u8 0 :: .int .u8 0 :: .int .u8 0 :: .int .u8 0 :: .int .u8 0 :: .int .u8 0 :: .int .u8 0 :: .int .u8 0 :: .int .u8 0 :: .int .u8 0 :: [] : List Value) Xl 29 rfl rfl IX.out LX.out OX.out ?_) | (refine wpList_load_row_g (by rfl) 29 (.tmp 21) rfl (w6.heap.size) rfl 29 Xl.toArray (0, 0) _ HXr.out Tryd.underlying29 rfl IXa.out ?_))
    go_ret
    exact ⟨rfl, HB6.out⟩
  · by_cases q2 : 64 ≤ line
    · skip
      go_wp2_with (first | (refine wpList_store_new rfl 29 (.tmp 21) (.tmp 69) rfl (.int .i64 0 :: .int .i64 0 :: .int .i64 0 :: .int .i64 0 :: .int .u8 0 :: .int .u8 0 :: .int .u8 0 :: .int .u8 0 :: .int .u8 0 :: .int .u8 0 :: .int .u8 0 :: .int .u8 0 :: .int .u8 0 :: .int .u8 0 :: .int .u8 0 :: .int .u8 0 :: .int .u8 0 :: .int .u8 0 :: .int .u8 0 :: .int .u8 0 :: .int .u8 0 :: .int .u8 0 :: .int .u8 0 :: .int .u8 0 :: .int .u8 0 :: .int .u8 0 :: .int .u8 0 :: .int .u8 0 :: .int .u8 0 :: .int .u8 0 :: .int .u8 0 :: .int .u8 0 :: .int .u8 0 :: .int .u8 0 :: .int .u8 0 :: .int .u8 0 :: [] : List Value) Xl 29 rfl rfl IX.out LX.out OX.out ?_) | (refine wpList_load_row_g (by rfl) 29 (.tmp 21) rfl (w6.heap.size) rfl 29 Xl.toArray (0, 0) _ HXr.out Tryd.underlying29 rfl IXa.out ?_))
      go_ret
      exact ⟨rfl, HB6.out⟩
    · by_cases q3 : al < 1
      · skip
        go_wp2_with (first | (refine wpList_store_new rfl 29 (.tmp 21) (.tmp 69) rfl (.int .i64 0 :: .int .i64 0 :: .int .i64 0 :: .int .i64 0 :: .int .u8 0 :: .int .u8 0 :: .int .u8 0 :: .int .u8 0 :: .int .u8 0 :: .int .u8 0 :: .int .u8 0 :: .int .u8 0 :: .int .u8 0 :: .int .u8 0 :: .int .u8 0 :: .int .u8 0 :: .int .u8 0 :: .int .u8 0 :: .int .u8 0 :: .int .u8 0 :: .int .u8 0 :: .int .u8 0 :: .int .u8 0 :: .int .u8 0 :: .int .u8 0 :: .int .u8 0 :: .int .u8 0 :: .int .u8 0 :: .int .u8 0 :: .int .u8 0 :: .int .u8 0 :: .int .u8 0 :: .int .u8 0 :: .int .u8 0 :: .int .u8 0 :: .int .u8 0 :: [] : List Value) Xl 29 rfl rfl IX.out LX.out OX.out ?_) | (refine wpList_load_row_g (by rfl) 29 (.tmp 21) rfl (w6.heap.size) rfl 29 Xl.toArray (0, 0) _ HXr.out Tryd.underlying29 rfl IXa.out ?_))
        go_ret
        exact ⟨rfl, HB6.out⟩
      · have q4 : 1073741789 < al := by omega
        go_wp2_with (first | (refine wpList_store_new rfl 29 (.tmp 21) (.tmp 69) rfl (.int .i64 0 :: .int .i64 0 :: .int .i64 0 :: .int .i64 0 :: .int .u8 0 :: .int .u8 0 :: .int .u8 0 :: .int .u8 0 :: .int .u8 0 :: .int .u8 0 :: .int .u8 0 :: .int .u8 0 :: .int .u8 0 :: .int .u8 0 :: .int .u8 0 :: .int .u8 0 :: .int .u8 0 :: .int .u8 0 :: .int .u8 0 :: .int .u8 0 :: .int .u8 0 :: .int .u8 0 :: .int .u8 0 :: .int .u8 0 :: .int .u8 0 :: .int .u8 0 :: .int .u8 0 :: .int .u8 0 :: .int .u8 0 :: .int .u8 0 :: .int .u8 0 :: .int .u8 0 :: .int .u8 0 :: .int .u8 0 :: .int .u8 0 :: .int .u8 0 :: [] : List Value) Xl 29 rfl rfl IX.out LX.out OX.out ?_) | (refine wpList_load_row_g (by rfl) 29 (.tmp 21) rfl (w6.heap.size) rfl 29 Xl.toArray (0, 0) _ HXr.out Tryd.underlying29 rfl IXa.out ?_))
        go_ret
        exact ⟨rfl, HB6.out⟩


set_option maxHeartbeats 8000000 in
theorem reads_use (line one two al r a b m0 m1 m2 d1 d2 J : Int) (Xl : List Value) (w : World) (hG : Glob w) (hl : a < 1 ∨ 1073741789 < a ∨ b < 1 ∨ 1073741789 < b)
    (IX : Seal ((Tryd.prog.info? 29).map (·.size) = some Xl.length)) (LX : Seal ((.int .i64 0 :: .int .i64 0 :: .int .i64 0 :: .int .i64 0 :: .int .u8 0 :: .int .u8 0 :: .int .u8 0 :: .int .u8 0 :: .int .u8 0 :: .int .u8 0 :: .int .u8 0 :: .int .u8 0 :: .int .u8 0 :: .int .u8 0 :: .int .u8 0 :: .int .u8 0 :: .int .u8 0 :: .int .u8 0 :: .int .u8 0 :: .int .u8 0 :: .int .u8 0 :: .int .u8 0 :: .int .u8 0 :: .int .u8 0 :: .int .u8 0 :: .int .u8 0 :: .int .u8 0 :: .int .u8 0 :: .int .u8 0 :: .int .u8 0 :: .int .u8 0 :: .int .u8 0 :: .int .u8 0 :: .int .u8 0 :: .int .u8 0 :: .int .u8 0 :: [] : List Value).length = Xl.length)) (OX : Seal (∀ u ∈ Xl, u.oneCell' = true))
    (HP1 : Seal (∀ W, Calls Tryd.prog 19 #[.int .i64 one] W fun e w' => e = .returned (.tuple #[.int .i64 d1, .int .i64 0]) ∧ Below W.heap.size W w')) (HP2 : Seal (∀ W, Calls Tryd.prog 19 #[.int .i64 two] W fun e w' => e = .returned (.tuple #[.int .i64 d2, .int .i64 0]) ∧ Below W.heap.size W w')) (HJ : Seal (∀ W g, W.heap[g]? = some (.cells #[.int .i64 d1, .int .i64 d2] 3 (0, 0)) → Calls Tryd.prog 20 #[.slice (some ⟨g, 0, none⟩) 2 2] W fun e w' => e = .returned (.tuple #[.int .i64 J, .int .i64 0]) ∧ W = w')) (HM1 : Seal (∀ W, Glob W → Calls Tryd.prog 16 #[.int .i64 line, .int .i64 J, .int .i64 al, .int .i64 r] W fun e w' => e = .returned (.tuple #[.agg Xl.toArray, .int .i64 0]) ∧ Below W.heap.size W w')) (HU1 : Seal (∀ W, Glob W → Calls Tryd.prog 24 #[.agg Xl.toArray, .agg #[.int .i64 a, .int .i64 b], .agg #[.int .i64 m0, .int .i64 m1, .int .i64 m2]] W fun e w' => e = .returned (.tuple #[.agg #[.int .i64 0, .int .i64 0, .int .i64 0, .int .i64 0, .int .i64 0, .int .i64 0], .int .i64 100]) ∧ Below W.heap.size W w')) :
    Calls Tryd.prog 8 #[.int .i64 line, .int .i64 one, .int .i64 two, .int .i64 al, .int .i64 r, .agg #[.int .i64 a, .int .i64 b], .agg #[.int .i64 m0, .int .i64 m1, .int .i64 m2]] w fun e w' => e = .returned (.bool true) ∧ Below w.heap.size w w' := by
  have IXa : Seal ((Tryd.prog.info? 29).map (·.size) = some Xl.toArray.size) := ⟨by rw [List.size_toArray]; exact IX.out⟩
  have I2 := Seal.mk (show (Tryd.prog.info? 62).map (·.size) = some 2 by kernel_rfl)
  have I3 := Seal.mk (show (Tryd.prog.info? 22).map (·.size) = some 3 by kernel_rfl)
  have heq := fun W => eqSe 0 0 0 0 0 0 W
  have HE1 : Seal (Env ((w.alloc (.cells #[.int .i64 a, .int .i64 b] 62)).alloc (.cells #[.int .i64 m0, .int .i64 m1, .int .i64 m2] 22)) none 0 0 [] [(w.heap.size + 1, .cells #[.int .i64 m0, .int .i64 m1, .int .i64 m2] 22), (w.heap.size, .cells #[.int .i64 a, .int .i64 b] 62)]) := ⟨by
    have h1 := Env.push (bs := []) ⟨hG, isB_nil w, by intro p hp; cases hp⟩ (.cells #[.int .i64 a, .int .i64 b] 62)
    have h2 := h1.push (.cells #[.int .i64 m0, .int .i64 m1, .int .i64 m2] 22)
    rw [size_alloc] at h2
    exact h2⟩
  have HB1 : Seal (Below w.heap.size w ((w.alloc (.cells #[.int .i64 a, .int .i64 b] 62)).alloc (.cells #[.int .i64 m0, .int .i64 m1, .int .i64 m2] 22))) := ⟨((Below.refl _ w).alloc (Nat.le_refl _) _).alloc (by simp) _⟩
  clear hG
  go_enter Tryd.func8, Tryd.ntmps8
  go_wp2_with fail
  refine (osane_any _ HE1.out.glob).mono ?_
  rintro e w2 ⟨rfl, hbb⟩
  have HE2 := Seal.mk (HE1.out.below hbb)
  have HB2 := Seal.mk (HB1.out.trans (hbb.mono HB1.out.size))
  clear hbb HE1 HB1
  go_wp2_with fail
  refine (HP1.out _).mono ?_
  rintro e w3 ⟨rfl, hbb⟩
  have HE3 := Seal.mk (HE2.out.below hbb)
  have HB3 := Seal.mk (HB2.out.trans (hbb.mono HB2.out.size))
  clear hbb HE2 HB2
  go_wp2_with fail
  refine (HP2.out _).mono ?_
  rintro e w4 ⟨rfl, hbb⟩
  have HE4 := Seal.mk (HE3.out.below hbb)
  have HB4 := Seal.mk (HB3.out.trans (hbb.mono HB3.out.size))
  clear hbb HE3 HB3
  go_wp2_with fail
  refine (HJ.out (w4.alloc (.cells #[.int .i64 d1, .int .i64 d2] 3)) w4.heap.size (heap_alloc_new w4 _)).mono ?_
  rintro e w5 ⟨rfl, rfl⟩
  have HE5 := Seal.mk (HE4.out.push (.cells #[.int .i64 d1, .int .i64 d2] 3))
  have HB5 := Seal.mk (HB4.out.alloc HB4.out.size (.cells #[.int .i64 d1, .int .i64 d2] 3))
  clear HE4 HB4
  go_wp2_with fail
  refine (HM1.out _ HE5.out.glob).mono ?_
  rintro e w6 ⟨rfl, hbb⟩
  have HE6 := Seal.mk ((HE5.out.below hbb).push (.cells Xl.toArray 29))
  have HB6 := Seal.mk ((HB5.out.trans (hbb.mono HB5.out.size)).alloc (Nat.le_trans HB5.out.size hbb.size) (.cells Xl.toArray 29))
  clear hbb HE5 HB5
  go_wp2_with (first | (refine wpList_store_new rfl 29 (.tmp 21) (.tmp 69) rfl (.int .i64 0 :: .int .i64 0 :: .int .i64 0 :: .int .i64 0 :: .int .u8 0 :: .int .u8 0 :: .int .u8 0 :: .int .u8 0 :: .int .u8 0 :: .int .u8 0 :: .int .u8 0 :: .int .u8 0 :: .int .u8 0 :: .int .u8 0 :: .int .u8 0 :: .int .u8 0 :: .int .u8 0 :: .int .u8 0 :: .int .u8 0 :: .int .u8 0 :: .int .u8 0 :: .int .u8 0 :: .int .u8 0 :: .int .u8 0 :: .int .u8 0 :: .int .u8 0 :: .int .u8 0 :: .int .u8 0 :: .int .u8 0 :: .int .u8 0 :: .int .u8 0 :: .int .u8 0 :: .int .u8 0 :: .int .u8 0 :: .int .u8 0 :: .int .u8 0 :: [] : List Value) Xl 29 rfl rfl IX.out LX.out OX.out ?_) | (refine wpList_load_row rfl 62 (.tmp 12) rfl (w.heap.size) rfl 62 #[.int .i64 a, .int .i64 b] (0, 0) _ (HE6.out.keep (w.heap.size, .cells #[.int .i64 a, .int .i64 b] 62) (by simp)) Tryd.underlying62 rfl I2.out ?_) | (refine wpList_load_row rfl 29 (.tmp 21) rfl (w6.heap.size) rfl 29 Xl.toArray (0, 0) _ (HE6.out.keep (w6.heap.size, .cells Xl.toArray 29) (by simp)) Tryd.underlying29 rfl IXa.out ?_) | (refine wpList_load_row rfl 22 (.tmp 13) rfl (w.heap.size + 1) rfl 22 #[.int .i64 m0, .int .i64 m1, .int .i64 m2] (0, 0) _ (HE6.out.keep (w.heap.size + 1, .cells #[.int .i64 m0, .int .i64 m1, .int .i64 m2] 22) (by simp)) Tryd.underlying22 rfl I3.out ?_))
  refine (HU1.out _ HE6.out.glob).mono ?_
  rintro e w7 ⟨rfl, hbb⟩
  have HE7 := Seal.mk ((HE6.out.below hbb).push (.cells #[.int .i64 0, .int .i64 0, .int .i64 0, .int .i64 0, .int .i64 0, .int .i64 0] 32))
  have HB7 := Seal.mk ((HB6.out.trans (hbb.mono HB6.out.size)).alloc (Nat.le_trans HB6.out.size hbb.size) (.cells #[.int .i64 0, .int .i64 0, .int .i64 0, .int .i64 0, .int .i64 0, .int .i64 0] 32))
  clear hbb HE6 HB6
  have rw_ := HE7.out.keep (w.heap.size, .cells #[.int .i64 a, .int .i64 b] 62) (by simp)
  have a0 := (cell_of_row _ _ 0 _ _ _ rw_).trans (show _ = some (Value.int .i64 a) from rfl)
  have a1 := (cell_of_row _ _ 1 _ _ _ rw_).trans (show _ = some (Value.int .i64 b) from rfl)
  dsimp only at a0 a1
  clear rw_
  by_cases q1 : a < 1
  · skip
    go_wp2_with fail
    go_ret
    exact ⟨rfl, HB7.out⟩
  · by_cases q2 : 1073741789 < a
    · skip
      go_wp2_with fail
      go_ret
      exact ⟨rfl, HB7.out⟩
    · by_cases q3 : b < 1
      · skip
        go_wp2_with fail
        go_ret
        exact ⟨rfl, HB7.out⟩
      · have q4 : 1073741789 < b := by omega
        go_wp2_with fail
        go_ret
        exact ⟨rfl, HB7.out⟩
end Frk

