/- The statement ReceiptsLike of frankinglaw43 holds: for every input the law returns true, and each argument reads afterwards as it read before. Conditions: those of the row (the listed variables start as the program's text lays them; the card ties them). -/
import Derived.Test.YtgdhjapnploaoaaDoorRcz
import Derived.Test.YtgdhjapnploaoaaDoorUms
import Derived.Test.YtgdhjapnploaoaaDoorRop
import Derived.Test.YtgdhjapnploaoaaDoorHol
namespace Frk
open Go Go.RowKit Go.Proofs
set_option maxRecDepth 100000

theorem eqCi_at (d : Nat) (a b c e : Int) (w : World) : (Op.equalIn (d + 1 + 1) 25 (.agg #[.int .i64 a, .int .i64 b]) (.agg #[.int .i64 c, .int .i64 e])).run Tryd.prog w = .ok (a == c && b == e) w := by
  have u3 := Tryd.underlying3
  have a3 := Tryd.isAgg3
  have z3 := Tryd.sizeOf3
  have hS : Tryd.prog.underlying 25 = some (.struct (Tryd.prog.fieldsOf 25)) := by kernel_rfl
  have hp : Tryd.prog.stoodInHeld 25 = false := by kernel_rfl
  rw [run_equalIn_agg w (d + 1) 25 _ _ hS hp]
  simp only [Program.fieldsOf, Tryd.underlying25]
  go_simp
  by_cases h1 : a = c <;> by_cases h2 : b = e <;> simp [h1, h2]

theorem eqItems_step {P : Program} (d : Nat) (e : TypeId) (c : Nat) (xs ys : Array Value) (i : Nat) (is : List Nat) (w : World) (a b : Value) (ha : (part e xs (i * c)).run P w = .ok a w) (hb : (part e ys (i * c)).run P w = .ok b w) (hr : (Op.equalIn d e a b).run P w = .ok true w) :
    (Op.eqItems d e c xs ys (i :: is)).run P w = (Op.eqItems d e c xs ys is).run P w := by
  rw [Op.eqItems]
  simp only [Sem.run_bind, ha, hb, hr, Result.andThen_ok]
  rfl

theorem eqSe (x0 x1 x2 x3 x4 x5 : Int) (w : World) : (Op.equalIn 10000 32 (.agg #[.int .i64 x0, .int .i64 x1, .int .i64 x2, .int .i64 x3, .int .i64 x4, .int .i64 x5]) (.agg #[.int .i64 x0, .int .i64 x1, .int .i64 x2, .int .i64 x3, .int .i64 x4, .int .i64 x5])).run Tryd.prog w = .ok true w := by
  have aC := Tryd.isAgg25
  have zC := Tryd.sizeOf25
  have c2 : Tryd.prog.cellsOf 25 = 2 := by kernel_rfl
  obtain ⟨i0, hi⟩ : ∃ i, Tryd.prog.info? 25 = some i := by
    cases h : Tryd.prog.info? 25 with
    | none => have : (Tryd.prog.info? 25).isSome = true := by kernel_rfl
              rw [h] at this; cases this
    | some i => exact ⟨i, rfl⟩
  have e : ∀ a b : Int, (Op.equalIn 9999 25 (.agg #[.int .i64 a, .int .i64 b]) (.agg #[.int .i64 a, .int .i64 b])).run Tryd.prog w = .ok true w := fun a b => by
    rw [show (9999 : Nat) = 9997 + 1 + 1 from rfl, eqCi_at 9997 a b a b w]; simp
  have p0 : (part 25 #[.int .i64 x0, .int .i64 x1, .int .i64 x2, .int .i64 x3, .int .i64 x4, .int .i64 x5] (0 * 2)).run Tryd.prog w = .ok (.agg #[.int .i64 x0, .int .i64 x1]) w := by simp [part, aC, zC]
  have p1 : (part 25 #[.int .i64 x0, .int .i64 x1, .int .i64 x2, .int .i64 x3, .int .i64 x4, .int .i64 x5] (1 * 2)).run Tryd.prog w = .ok (.agg #[.int .i64 x2, .int .i64 x3]) w := by simp [part, aC, zC]
  have p2 : (part 25 #[.int .i64 x0, .int .i64 x1, .int .i64 x2, .int .i64 x3, .int .i64 x4, .int .i64 x5] (2 * 2)).run Tryd.prog w = .ok (.agg #[.int .i64 x4, .int .i64 x5]) w := by simp [part, aC, zC]
  rw [show (10000 : Nat) = 9999 + 1 from rfl, run_equalIn_array w 9999 _ _ Tryd.underlying32 hi, show List.range 3 = [0, 1, 2] from rfl, c2,
    eqItems_step _ _ _ _ _ _ _ _ _ _ p0 p0 (e _ _), eqItems_step _ _ _ _ _ _ _ _ _ _ p1 p1 (e _ _), eqItems_step _ _ _ _ _ _ _ _ _ _ p2 p2 (e _ _)]
  rw [Op.eqItems]
  rfl

theorem leaves3 (a b c : Int) (w : World) : LeavesAt (w.alloc (.cells #[.int .i64 1, .int .i64 a, .string ⟨#[]⟩, .slice none 0 0, .int .i64 1, .int .i64 b, .string ⟨#[]⟩, .slice none 0 0, .int .i64 1, .int .i64 c, .string ⟨#[]⟩, .slice none 0 0] 43)) w.heap.size 0 (lfs [a, b, c]) := by
  intro k x hx j v hv
  rw [cell_of_row _ _ _ _ _ _ (heap_alloc_new w _)]
  match k, hx with
  | 0, hx => 
    simp [lfs] at hx
    subst hx
    match j, hv with
    | 0, hv => exact hv
    | 1, hv => exact hv
    | 2, hv => exact hv
    | 3, hv => exact hv
    | j + 4, hv => simp [Lf.cells] at hv
  | 1, hx =>
    simp [lfs] at hx
    subst hx
    match j, hv with
    | 0, hv => exact hv
    | 1, hv => exact hv
    | 2, hv => exact hv
    | 3, hv => exact hv
    | j + 4, hv => simp [Lf.cells] at hv
  | 2, hx =>
    simp [lfs] at hx
    subst hx
    match j, hv with
    | 0, hv => exact hv
    | 1, hv => exact hv
    | 2, hv => exact hv
    | 3, hv => exact hv
    | j + 4, hv => simp [Lf.cells] at hv
  | k + 3, hx => simp [lfs] at hx

/-- codec.Encode of a list of three integers, as a law spells it -/
theorem encode3_any (a b c : Int) (w : World) (ha : I64 a) (hb : I64 b) (hc : I64 c) :
    Calls Tryd.prog 14 #[.agg #[.int .i64 3, .int .i64 0, .string ⟨#[]⟩, .slice (some ⟨w.heap.size, 0, none⟩) 3 3]] (w.alloc (.cells #[.int .i64 1, .int .i64 a, .string ⟨#[]⟩, .slice none 0 0, .int .i64 1, .int .i64 b, .string ⟨#[]⟩, .slice none 0 0, .int .i64 1, .int .i64 c, .string ⟨#[]⟩, .slice none 0 0] 43)) fun e w' => ∃ g n cap, e = .returned (.tuple #[.slice (some ⟨g, 0, none⟩) n cap, .int .i64 0]) ∧ IsB w' (some ⟨g, 0, none⟩) n cap (rcT a b c) ∧ n ≤ 1099511627776 ∧ Below w.heap.size w w' := by
  have hL := rcT_len a b c
  refine (encode_any w.heap.size 0 3 3 (lfs [a, b, c]) (w.alloc (.cells #[.int .i64 1, .int .i64 a, .string ⟨#[]⟩, .slice none 0 0, .int .i64 1, .int .i64 b, .string ⟨#[]⟩, .slice none 0 0, .int .i64 1, .int .i64 c, .string ⟨#[]⟩, .slice none 0 0] 43)) rfl (Nat.le_refl _) (by rw [wgts_lfs]; simp) (by decide) (leaves3 a b c w) (by simp) (fun y hy => ?_)).mono ?_
  · simp only [lfs, List.map_cons, List.map_nil, List.mem_cons, List.not_mem_nil, or_false] at hy
    rcases hy with rfl | rfl | rfl <;> assumption
  · rintro e w' ⟨g', n', c', hn, rfl, hf⟩
    have e1 : (encL (lfs [a, b, c])) = rcT a b c := rfl
    rw [e1] at hn hf
    refine ⟨g', n', c', rfl, ⟨hn.out, hf.out.1, by have := hn.out; omega, hf.out.2.1, .inr ⟨g', 0, rfl, hf.out.2.2.2.1, hf.out.2.2.1⟩⟩, by have := hn.out; omega, (below_alloc w _).trans (hf.out.2.2.2.2.mono (by simp))⟩


set_option maxHeartbeats 8000000 in
theorem like_no (x a b c line key al n r0 r1 r2 e0 f0 : Int) (Xl : List Value) (w : World) (hG : Glob w) (hf : ¬ f0 = 0) (IX : Seal ((Tryd.prog.info? 29).map (·.size) = some Xl.length)) (LX : Seal ((.int .i64 0 :: .int .i64 0 :: .int .i64 0 :: .int .i64 0 :: .int .u8 0 :: .int .u8 0 :: .int .u8 0 :: .int .u8 0 :: .int .u8 0 :: .int .u8 0 :: .int .u8 0 :: .int .u8 0 :: .int .u8 0 :: .int .u8 0 :: .int .u8 0 :: .int .u8 0 :: .int .u8 0 :: .int .u8 0 :: .int .u8 0 :: .int .u8 0 :: .int .u8 0 :: .int .u8 0 :: .int .u8 0 :: .int .u8 0 :: .int .u8 0 :: .int .u8 0 :: .int .u8 0 :: .int .u8 0 :: .int .u8 0 :: .int .u8 0 :: .int .u8 0 :: .int .u8 0 :: .int .u8 0 :: .int .u8 0 :: .int .u8 0 :: .int .u8 0 :: [] : List Value).length = Xl.length)) (OX : Seal (∀ u ∈ Xl, u.oneCell' = true))
    (HM1 : Seal (∀ W, Glob W → Calls Tryd.prog 16 #[.int .i64 line, .int .i64 key, .int .i64 al, .int .i64 n] W fun e w' => e = .returned (.tuple #[.agg Xl.toArray, .int .i64 e0]) ∧ Below W.heap.size W w'))
    (HM2 : Seal (∀ W, Glob W → Calls Tryd.prog 10 #[.int .i64 x, .agg #[.int .i64 a, .int .i64 b, .int .i64 c], .agg Xl.toArray, .agg #[.int .i64 r0, .int .i64 r1, .int .i64 r2]] W fun e w' => e = .returned (.tuple #[.agg #[.int .i64 0, .int .i64 0, .int .i64 0, .int .i64 0, .int .i64 0, .int .i64 0], .int .i64 f0]) ∧ Below W.heap.size W w')) :
    Calls Tryd.prog 6 #[.int .i64 x, .agg #[.int .i64 a, .int .i64 b, .int .i64 c], .int .i64 line, .int .i64 key, .int .i64 al, .int .i64 n, .agg #[.int .i64 r0, .int .i64 r1, .int .i64 r2]] w fun e w' => e = .returned (.bool true) ∧ Below w.heap.size w w' := by
  have heq := fun W => eqSe 0 0 0 0 0 0 W
  by_cases he : e0 = 0
  · subst he
    have IW := Seal.mk (show (Tryd.prog.info? 23).map (·.size) = some 3 by kernel_rfl)
    have I3 := Seal.mk (show (Tryd.prog.info? 22).map (·.size) = some 3 by kernel_rfl)
    have IXa : Seal ((Tryd.prog.info? 29).map (·.size) = some Xl.toArray.size) := ⟨by rw [List.size_toArray]; exact IX.out⟩
    have HE1 : Seal (Env ((w.alloc (.cells #[.int .i64 a, .int .i64 b, .int .i64 c] 23)).alloc (.cells #[.int .i64 r0, .int .i64 r1, .int .i64 r2] 22)) none 0 0 [] [(w.heap.size + 1, .cells #[.int .i64 r0, .int .i64 r1, .int .i64 r2] 22), (w.heap.size, .cells #[.int .i64 a, .int .i64 b, .int .i64 c] 23)]) := ⟨by
      have h1 := Env.push (bs := []) ⟨hG, isB_nil w, by intro p hp; cases hp⟩ (.cells #[.int .i64 a, .int .i64 b, .int .i64 c] 23)
      have h2 := h1.push (.cells #[.int .i64 r0, .int .i64 r1, .int .i64 r2] 22)
      rw [size_alloc] at h2
      exact h2⟩
    have HB1 : Seal (Below w.heap.size w ((w.alloc (.cells #[.int .i64 a, .int .i64 b, .int .i64 c] 23)).alloc (.cells #[.int .i64 r0, .int .i64 r1, .int .i64 r2] 22))) := ⟨((Below.refl _ w).alloc (Nat.le_refl _) _).alloc (by simp) _⟩
    clear hG
    go_enter Tryd.func6, Tryd.ntmps6
    go_wp2_with fail
    refine (rcsane_any _ HE1.out.glob).mono ?_
    rintro e w2 ⟨rfl, hbb⟩
    have HE2 := Seal.mk (HE1.out.below hbb)
    have HB2 := Seal.mk (HB1.out.trans (hbb.mono HB1.out.size))
    clear hbb HE1 HB1
    go_wp2_with fail
    refine (HM1.out _ HE2.out.glob).mono ?_
    rintro e w3 ⟨rfl, hbb⟩
    have HE3 := Seal.mk ((HE2.out.below hbb).push (.cells Xl.toArray 29))
    have HB3 := Seal.mk ((HB2.out.trans (hbb.mono HB2.out.size)).alloc (Nat.le_trans HB2.out.size hbb.size) (.cells Xl.toArray 29))
    clear hbb HE2 HB2
    go_wp2_with (first | (refine wpList_store_new rfl 29 (.tmp 15) (.tmp 33) rfl (.int .i64 0 :: .int .i64 0 :: .int .i64 0 :: .int .i64 0 :: .int .u8 0 :: .int .u8 0 :: .int .u8 0 :: .int .u8 0 :: .int .u8 0 :: .int .u8 0 :: .int .u8 0 :: .int .u8 0 :: .int .u8 0 :: .int .u8 0 :: .int .u8 0 :: .int .u8 0 :: .int .u8 0 :: .int .u8 0 :: .int .u8 0 :: .int .u8 0 :: .int .u8 0 :: .int .u8 0 :: .int .u8 0 :: .int .u8 0 :: .int .u8 0 :: .int .u8 0 :: .int .u8 0 :: .int .u8 0 :: .int .u8 0 :: .int .u8 0 :: .int .u8 0 :: .int .u8 0 :: .int .u8 0 :: .int .u8 0 :: .int .u8 0 :: .int .u8 0 :: [] : List Value) Xl 29 rfl rfl IX.out LX.out OX.out ?_) | (refine wpList_load_row rfl 23 (.tmp 8) rfl (w.heap.size) rfl 23 #[.int .i64 a, .int .i64 b, .int .i64 c] (0, 0) _ (HE3.out.keep (w.heap.size, .cells #[.int .i64 a, .int .i64 b, .int .i64 c] 23) (by simp)) Tryd.underlying23 rfl IW.out ?_) | (refine wpList_load_row rfl 29 (.tmp 15) rfl (w3.heap.size) rfl 29 Xl.toArray (0, 0) _ (HE3.out.keep (w3.heap.size, .cells Xl.toArray 29) (by simp)) Tryd.underlying29 rfl IXa.out ?_) | (refine wpList_load_row rfl 22 (.tmp 13) rfl (w.heap.size + 1) rfl 22 #[.int .i64 r0, .int .i64 r1, .int .i64 r2] (0, 0) _ (HE3.out.keep (w.heap.size + 1, .cells #[.int .i64 r0, .int .i64 r1, .int .i64 r2] 22) (by simp)) Tryd.underlying22 rfl I3.out ?_))
    refine (HM2.out _ HE3.out.glob).mono ?_
    rintro e w4 ⟨rfl, hbb⟩
    have HE4 := Seal.mk ((HE3.out.below hbb).push (.cells #[.int .i64 0, .int .i64 0, .int .i64 0, .int .i64 0, .int .i64 0, .int .i64 0] 32))
    have HB4 := Seal.mk ((HB3.out.trans (hbb.mono HB3.out.size)).alloc (Nat.le_trans HB3.out.size hbb.size) (.cells #[.int .i64 0, .int .i64 0, .int .i64 0, .int .i64 0, .int .i64 0, .int .i64 0] 32))
    clear hbb HE3 HB3
    go_wp2_with fail
    go_ret
    exact ⟨rfl, HB4.out⟩
  · skip
    have IW := Seal.mk (show (Tryd.prog.info? 23).map (·.size) = some 3 by kernel_rfl)
    have I3 := Seal.mk (show (Tryd.prog.info? 22).map (·.size) = some 3 by kernel_rfl)
    have IXa : Seal ((Tryd.prog.info? 29).map (·.size) = some Xl.toArray.size) := ⟨by rw [List.size_toArray]; exact IX.out⟩
    have HE1 : Seal (Env ((w.alloc (.cells #[.int .i64 a, .int .i64 b, .int .i64 c] 23)).alloc (.cells #[.int .i64 r0, .int .i64 r1, .int .i64 r2] 22)) none 0 0 [] [(w.heap.size + 1, .cells #[.int .i64 r0, .int .i64 r1, .int .i64 r2] 22), (w.heap.size, .cells #[.int .i64 a, .int .i64 b, .int .i64 c] 23)]) := ⟨by
      have h1 := Env.push (bs := []) ⟨hG, isB_nil w, by intro p hp; cases hp⟩ (.cells #[.int .i64 a, .int .i64 b, .int .i64 c] 23)
      have h2 := h1.push (.cells #[.int .i64 r0, .int .i64 r1, .int .i64 r2] 22)
      rw [size_alloc] at h2
      exact h2⟩
    have HB1 : Seal (Below w.heap.size w ((w.alloc (.cells #[.int .i64 a, .int .i64 b, .int .i64 c] 23)).alloc (.cells #[.int .i64 r0, .int .i64 r1, .int .i64 r2] 22))) := ⟨((Below.refl _ w).alloc (Nat.le_refl _) _).alloc (by simp) _⟩
    clear hG
    go_enter Tryd.func6, Tryd.ntmps6
    go_wp2_with fail
    refine (rcsane_any _ HE1.out.glob).mono ?_
    rintro e w2 ⟨rfl, hbb⟩
    have HE2 := Seal.mk (HE1.out.below hbb)
    have HB2 := Seal.mk (HB1.out.trans (hbb.mono HB1.out.size))
    clear hbb HE1 HB1
    go_wp2_with fail
    refine (HM1.out _ HE2.out.glob).mono ?_
    rintro e w3 ⟨rfl, hbb⟩
    have HE3 := Seal.mk ((HE2.out.below hbb).push (.cells Xl.toArray 29))
    have HB3 := Seal.mk ((HB2.out.trans (hbb.mono HB2.out.size)).alloc (Nat.le_trans HB2.out.size hbb.size) (.cells Xl.toArray 29))
    clear hbb HE2 HB2
    go_wp2_with (first | (refine wpList_store_new rfl 29 (.tmp 15) (.tmp 33) rfl (.int .i64 0 :: .int .i64 0 :: .int .i64 0 :: .int .i64 0 :: .int .u8 0 :: .int .u8 0 :: .int .u8 0 :: .int .u8 0 :: .int .u8 0 :: .int .u8 0 :: .int .u8 0 :: .int .u8 0 :: .int .u8 0 :: .int .u8 0 :: .int .u8 0 :: .int .u8 0 :: .int .u8 0 :: .int .u8 0 :: .int .u8 0 :: .int .u8 0 :: .int .u8 0 :: .int .u8 0 :: .int .u8 0 :: .int .u8 0 :: .int .u8 0 :: .int .u8 0 :: .int .u8 0 :: .int .u8 0 :: .int .u8 0 :: .int .u8 0 :: .int .u8 0 :: .int .u8 0 :: .int .u8 0 :: .int .u8 0 :: .int .u8 0 :: .int .u8 0 :: [] : List Value) Xl 29 rfl rfl IX.out LX.out OX.out ?_) | (refine wpList_load_row rfl 23 (.tmp 8) rfl (w.heap.size) rfl 23 #[.int .i64 a, .int .i64 b, .int .i64 c] (0, 0) _ (HE3.out.keep (w.heap.size, .cells #[.int .i64 a, .int .i64 b, .int .i64 c] 23) (by simp)) Tryd.underlying23 rfl IW.out ?_) | (refine wpList_load_row rfl 29 (.tmp 15) rfl (w3.heap.size) rfl 29 Xl.toArray (0, 0) _ (HE3.out.keep (w3.heap.size, .cells Xl.toArray 29) (by simp)) Tryd.underlying29 rfl IXa.out ?_) | (refine wpList_load_row rfl 22 (.tmp 13) rfl (w.heap.size + 1) rfl 22 #[.int .i64 r0, .int .i64 r1, .int .i64 r2] (0, 0) _ (HE3.out.keep (w.heap.size + 1, .cells #[.int .i64 r0, .int .i64 r1, .int .i64 r2] 22) (by simp)) Tryd.underlying22 rfl I3.out ?_))
    refine (HM2.out _ HE3.out.glob).mono ?_
    rintro e w4 ⟨rfl, hbb⟩
    have HE4 := Seal.mk ((HE3.out.below hbb).push (.cells #[.int .i64 0, .int .i64 0, .int .i64 0, .int .i64 0, .int .i64 0, .int .i64 0] 32))
    have HB4 := Seal.mk ((HB3.out.trans (hbb.mono HB3.out.size)).alloc (Nat.le_trans HB3.out.size hbb.size) (.cells #[.int .i64 0, .int .i64 0, .int .i64 0, .int .i64 0, .int .i64 0, .int .i64 0] 32))
    clear hbb HE3 HB3
    go_wp2_with fail
    go_ret
    exact ⟨ret_bool (by simp [hf]), HB4.out⟩

set_option maxHeartbeats 8000000 in
theorem like_yes (x a b c line key al n r0 r1 r2 E S s0 s1 s2 s3 s4 s5 : Int) (Xl : List Value) (w : World) (hG : Glob w) (ha : Seal (I64 a)) (hb : Seal (I64 b)) (hc : Seal (I64 c)) (HES : 0 ≤ E ∧ E < 1073741789 ∧ 0 ≤ S ∧ S < 1073741789) (IX : Seal ((Tryd.prog.info? 29).map (·.size) = some Xl.length)) (LX : Seal ((.int .i64 0 :: .int .i64 0 :: .int .i64 0 :: .int .i64 0 :: .int .u8 0 :: .int .u8 0 :: .int .u8 0 :: .int .u8 0 :: .int .u8 0 :: .int .u8 0 :: .int .u8 0 :: .int .u8 0 :: .int .u8 0 :: .int .u8 0 :: .int .u8 0 :: .int .u8 0 :: .int .u8 0 :: .int .u8 0 :: .int .u8 0 :: .int .u8 0 :: .int .u8 0 :: .int .u8 0 :: .int .u8 0 :: .int .u8 0 :: .int .u8 0 :: .int .u8 0 :: .int .u8 0 :: .int .u8 0 :: .int .u8 0 :: .int .u8 0 :: .int .u8 0 :: .int .u8 0 :: .int .u8 0 :: .int .u8 0 :: .int .u8 0 :: .int .u8 0 :: [] : List Value).length = Xl.length)) (OX : Seal (∀ u ∈ Xl, u.oneCell' = true))
    (HM1 : Seal (∀ W, Glob W → Calls Tryd.prog 16 #[.int .i64 line, .int .i64 key, .int .i64 al, .int .i64 n] W fun e w' => e = .returned (.tuple #[.agg Xl.toArray, .int .i64 0]) ∧ Below W.heap.size W w'))
    (HM2 : Seal (∀ W, Glob W → Calls Tryd.prog 10 #[.int .i64 x, .agg #[.int .i64 a, .int .i64 b, .int .i64 c], .agg Xl.toArray, .agg #[.int .i64 r0, .int .i64 r1, .int .i64 r2]] W fun e w' => e = .returned (.tuple #[.agg #[.int .i64 s0, .int .i64 s1, .int .i64 s2, .int .i64 s3, .int .i64 s4, .int .i64 s5], .int .i64 0]) ∧ Below W.heap.size W w'))
    (HSg : Seal (∀ W g n cap, Glob W → IsB W g n cap (rcT a b c) → n ≤ 1099511627776 → Calls Tryd.prog 17 #[.int .i64 x, .slice g n cap] W fun e w' => e = .returned (.tuple #[.agg #[.int .i64 E, .int .i64 S], .int .i64 0]) ∧ Below W.heap.size W w'))
    (HSe : Seal (∀ W, Calls Tryd.prog 18 #[.int .i64 key, .agg #[.int .i64 al, .int .i64 (E + 1), .int .i64 (S + 1)], .agg #[.int .i64 (wrap64 (n.tmod 1073741789 + r0.tmod 1073741789)), .int .i64 r1, .int .i64 r2]] W fun e w' => e = .returned (.tuple #[.agg #[.int .i64 s0, .int .i64 s1, .int .i64 s2, .int .i64 s3, .int .i64 s4, .int .i64 s5], .int .i64 0]) ∧ Below W.heap.size W w')) :
    Calls Tryd.prog 6 #[.int .i64 x, .agg #[.int .i64 a, .int .i64 b, .int .i64 c], .int .i64 line, .int .i64 key, .int .i64 al, .int .i64 n, .agg #[.int .i64 r0, .int .i64 r1, .int .i64 r2]] w fun e w' => e = .returned (.bool true) ∧ Below w.heap.size w w' := by
  have heq := fun W => eqSe s0 s1 s2 s3 s4 s5 W
  have HES' := Seal.mk HES
  clear HES
  have IW := Seal.mk (show (Tryd.prog.info? 23).map (·.size) = some 3 by kernel_rfl)
  have I3 := Seal.mk (show (Tryd.prog.info? 22).map (·.size) = some 3 by kernel_rfl)
  have IXa : Seal ((Tryd.prog.info? 29).map (·.size) = some Xl.toArray.size) := ⟨by rw [List.size_toArray]; exact IX.out⟩
  have HE1 : Seal (Env ((w.alloc (.cells #[.int .i64 a, .int .i64 b, .int .i64 c] 23)).alloc (.cells #[.int .i64 r0, .int .i64 r1, .int .i64 r2] 22)) none 0 0 [] [(w.heap.size + 1, .cells #[.int .i64 r0, .int .i64 r1, .int .i64 r2] 22), (w.heap.size, .cells #[.int .i64 a, .int .i64 b, .int .i64 c] 23)]) := ⟨by
    have h1 := Env.push (bs := []) ⟨hG, isB_nil w, by intro p hp; cases hp⟩ (.cells #[.int .i64 a, .int .i64 b, .int .i64 c] 23)
    have h2 := h1.push (.cells #[.int .i64 r0, .int .i64 r1, .int .i64 r2] 22)
    rw [size_alloc] at h2
    exact h2⟩
  have HB1 : Seal (Below w.heap.size w ((w.alloc (.cells #[.int .i64 a, .int .i64 b, .int .i64 c] 23)).alloc (.cells #[.int .i64 r0, .int .i64 r1, .int .i64 r2] 22))) := ⟨((Below.refl _ w).alloc (Nat.le_refl _) _).alloc (by simp) _⟩
  clear hG
  go_enter Tryd.func6, Tryd.ntmps6
  go_wp2_with fail
  refine (rcsane_any _ HE1.out.glob).mono ?_
  rintro e w2 ⟨rfl, hbb⟩
  have HE2 := Seal.mk (HE1.out.below hbb)
  have HB2 := Seal.mk (HB1.out.trans (hbb.mono HB1.out.size))
  clear hbb HE1 HB1
  go_wp2_with fail
  refine (HM1.out _ HE2.out.glob).mono ?_
  rintro e w3 ⟨rfl, hbb⟩
  have HE3 := Seal.mk ((HE2.out.below hbb).push (.cells Xl.toArray 29))
  have HB3 := Seal.mk ((HB2.out.trans (hbb.mono HB2.out.size)).alloc (Nat.le_trans HB2.out.size hbb.size) (.cells Xl.toArray 29))
  clear hbb HE2 HB2
  go_wp2_with (first | (refine wpList_store_new rfl 29 (.tmp 15) (.tmp 33) rfl (.int .i64 0 :: .int .i64 0 :: .int .i64 0 :: .int .i64 0 :: .int .u8 0 :: .int .u8 0 :: .int .u8 0 :: .int .u8 0 :: .int .u8 0 :: .int .u8 0 :: .int .u8 0 :: .int .u8 0 :: .int .u8 0 :: .int .u8 0 :: .int .u8 0 :: .int .u8 0 :: .int .u8 0 :: .int .u8 0 :: .int .u8 0 :: .int .u8 0 :: .int .u8 0 :: .int .u8 0 :: .int .u8 0 :: .int .u8 0 :: .int .u8 0 :: .int .u8 0 :: .int .u8 0 :: .int .u8 0 :: .int .u8 0 :: .int .u8 0 :: .int .u8 0 :: .int .u8 0 :: .int .u8 0 :: .int .u8 0 :: .int .u8 0 :: .int .u8 0 :: [] : List Value) Xl 29 rfl rfl IX.out LX.out OX.out ?_) | (refine wpList_load_row rfl 23 (.tmp 8) rfl (w.heap.size) rfl 23 #[.int .i64 a, .int .i64 b, .int .i64 c] (0, 0) _ (HE3.out.keep (w.heap.size, .cells #[.int .i64 a, .int .i64 b, .int .i64 c] 23) (by simp)) Tryd.underlying23 rfl IW.out ?_) | (refine wpList_load_row rfl 29 (.tmp 15) rfl (w3.heap.size) rfl 29 Xl.toArray (0, 0) _ (HE3.out.keep (w3.heap.size, .cells Xl.toArray 29) (by simp)) Tryd.underlying29 rfl IXa.out ?_) | (refine wpList_load_row rfl 22 (.tmp 13) rfl (w.heap.size + 1) rfl 22 #[.int .i64 r0, .int .i64 r1, .int .i64 r2] (0, 0) _ (HE3.out.keep (w.heap.size + 1, .cells #[.int .i64 r0, .int .i64 r1, .int .i64 r2] 22) (by simp)) Tryd.underlying22 rfl I3.out ?_))
  refine (HM2.out _ HE3.out.glob).mono ?_
  rintro e w4 ⟨rfl, hbb⟩
  have HE4 := Seal.mk ((HE3.out.below hbb).push (.cells #[.int .i64 s0, .int .i64 s1, .int .i64 s2, .int .i64 s3, .int .i64 s4, .int .i64 s5] 32))
  have HB4 := Seal.mk ((HB3.out.trans (hbb.mono HB3.out.size)).alloc (Nat.le_trans HB3.out.size hbb.size) (.cells #[.int .i64 s0, .int .i64 s1, .int .i64 s2, .int .i64 s3, .int .i64 s4, .int .i64 s5] 32))
  clear hbb HE3 HB3
  have HN := Seal.mk (encode3_any a b c (w4.alloc (.cells #[.int .i64 s0, .int .i64 s1, .int .i64 s2, .int .i64 s3, .int .i64 s4, .int .i64 s5] 32)) ha.out hb.out hc.out)
  rw [size_alloc] at HN
  clear ha hb hc
  have ra := HE4.out.keep (w.heap.size, .cells #[.int .i64 a, .int .i64 b, .int .i64 c] 23) (by simp)
  have a0 := (cell_of_row _ _ 0 _ _ _ ra).trans (show _ = some (Value.int .i64 a) from rfl)
  have a1 := (cell_of_row _ _ 1 _ _ _ ra).trans (show _ = some (Value.int .i64 b) from rfl)
  have a2 := (cell_of_row _ _ 2 _ _ _ ra).trans (show _ = some (Value.int .i64 c) from rfl)
  dsimp only at a0 a1 a2
  clear ra
  go_wp2_with fail
  refine HN.out.mono ?_
  rintro e w5 ⟨g', n', c', rfl, hI, hn, hb0⟩
  have hbb : Below (w4.alloc (.cells #[.int .i64 s0, .int .i64 s1, .int .i64 s2, .int .i64 s3, .int .i64 s4, .int .i64 s5] 32)).heap.size (w4.alloc (.cells #[.int .i64 s0, .int .i64 s1, .int .i64 s2, .int .i64 s3, .int .i64 s4, .int .i64 s5] 32)) w5 := by rw [size_alloc]; exact hb0
  have HE5 := Seal.mk (HE4.out.below hbb)
  have HB5 := Seal.mk (HB4.out.trans (hbb.mono HB4.out.size))
  have HSg5 := Seal.mk (HSg.out w5 (some ⟨g', 0, none⟩) n' c' HE5.out.glob hI hn)
  clear hbb hb0 hI hn HN a0 a1 a2 HE4 HB4
  go_wp2_with fail
  refine HSg5.out.mono ?_
  rintro e w6 ⟨rfl, hbb⟩
  have HE6 := Seal.mk ((HE5.out.below hbb).push (.cells #[.int .i64 E, .int .i64 S] 46))
  have HB6 := Seal.mk ((HB5.out.trans (hbb.mono HB5.out.size)).alloc (Nat.le_trans HB5.out.size hbb.size) (.cells #[.int .i64 E, .int .i64 S] 46))
  clear hbb HE5 HB5 HSg5
  have rr := HE6.out.keep (w.heap.size + 1, .cells #[.int .i64 r0, .int .i64 r1, .int .i64 r2] 22) (by simp)
  have b0 := (cell_of_row _ _ 0 _ _ _ rr).trans (show _ = some (Value.int .i64 r0) from rfl)
  have b1 := (cell_of_row _ _ 1 _ _ _ rr).trans (show _ = some (Value.int .i64 r1) from rfl)
  have b2 := (cell_of_row _ _ 2 _ _ _ rr).trans (show _ = some (Value.int .i64 r2) from rfl)
  dsimp only at b0 b1 b2
  clear rr
  have ⟨e1, e2, e3, e4⟩ := HES'.out
  go_wp2_with fail
  refine (HSe.out _).mono ?_
  rintro e w7 ⟨rfl, hbb⟩
  have HE7 := Seal.mk ((HE6.out.below hbb).push (.cells #[.int .i64 s0, .int .i64 s1, .int .i64 s2, .int .i64 s3, .int .i64 s4, .int .i64 s5] 32))
  have HB7 := Seal.mk ((HB6.out.trans (hbb.mono HB6.out.size)).alloc (Nat.le_trans HB6.out.size hbb.size) (.cells #[.int .i64 s0, .int .i64 s1, .int .i64 s2, .int .i64 s3, .int .i64 s4, .int .i64 s5] 32))
  clear hbb HE6 HB6 b0 b1 b2 e1 e2 e3 e4 HES' HSg HSe HM1 HM2
  have rp := HE7.out.keep (w4.heap.size, .cells #[.int .i64 s0, .int .i64 s1, .int .i64 s2, .int .i64 s3, .int .i64 s4, .int .i64 s5] 32) (by simp)
  have p0 := (cell_of_row _ _ 0 _ _ _ rp).trans (show _ = some (Value.int .i64 s0) from rfl)
  have p1 := (cell_of_row _ _ 1 _ _ _ rp).trans (show _ = some (Value.int .i64 s1) from rfl)
  have p2 := (cell_of_row _ _ 2 _ _ _ rp).trans (show _ = some (Value.int .i64 s2) from rfl)
  have p3 := (cell_of_row _ _ 3 _ _ _ rp).trans (show _ = some (Value.int .i64 s3) from rfl)
  have p4 := (cell_of_row _ _ 4 _ _ _ rp).trans (show _ = some (Value.int .i64 s4) from rfl)
  have p5 := (cell_of_row _ _ 5 _ _ _ rp).trans (show _ = some (Value.int .i64 s5) from rfl)
  dsimp only at p0 p1 p2 p3 p4 p5
  clear rp
  have rq := HE7.out.keep (w7.heap.size, .cells #[.int .i64 s0, .int .i64 s1, .int .i64 s2, .int .i64 s3, .int .i64 s4, .int .i64 s5] 32) (by simp)
  have q0 := (cell_of_row _ _ 0 _ _ _ rq).trans (show _ = some (Value.int .i64 s0) from rfl)
  have q1 := (cell_of_row _ _ 1 _ _ _ rq).trans (show _ = some (Value.int .i64 s1) from rfl)
  have q2 := (cell_of_row _ _ 2 _ _ _ rq).trans (show _ = some (Value.int .i64 s2) from rfl)
  have q3 := (cell_of_row _ _ 3 _ _ _ rq).trans (show _ = some (Value.int .i64 s3) from rfl)
  have q4 := (cell_of_row _ _ 4 _ _ _ rq).trans (show _ = some (Value.int .i64 s4) from rfl)
  have q5 := (cell_of_row _ _ 5 _ _ _ rq).trans (show _ = some (Value.int .i64 s5) from rfl)
  dsimp only at q0 q1 q2 q3 q4 q5
  clear rq
  go_wp2_with fail
  go_ret
  exact ⟨rfl, HB7.out⟩
end Frk

namespace Frk
open Go Go.RowKit Go.Proofs
set_option maxRecDepth 100000

theorem rcF_zero {x a b c K P Q r0 r1 r2 s0 s1 s2 s3 s4 s5 f : Int} {t : Bool} (h : rcF x a b c t K P Q r0 r1 r2 = (s0, s1, s2, s3, s4, s5, f)) (hf : f ≠ 0) : s0 = 0 ∧ s1 = 0 ∧ s2 = 0 ∧ s3 = 0 ∧ s4 = 0 ∧ s5 = 0 := by
  unfold rcF useF at h
  split at h
  · split at h
    · split at h
      · split at h
        · split at h
          · simp only [Prod.mk.injEq] at h; exact absurd h.2.2.2.2.2.2.symm hf
          · simp only [Prod.mk.injEq] at h; obtain ⟨rfl, rfl, rfl, rfl, rfl, rfl, _⟩ := h; simp
        · simp only [Prod.mk.injEq] at h; obtain ⟨rfl, rfl, rfl, rfl, rfl, rfl, _⟩ := h; simp
      · simp only [Prod.mk.injEq] at h; obtain ⟨rfl, rfl, rfl, rfl, rfl, rfl, _⟩ := h; simp
    · simp only [Prod.mk.injEq] at h; obtain ⟨rfl, rfl, rfl, rfl, rfl, rfl, _⟩ := h; simp
  · simp only [Prod.mk.injEq] at h; obtain ⟨rfl, rfl, rfl, rfl, rfl, rfl, _⟩ := h; simp

theorem rcF_ok {x a b c K P Q r0 r1 r2 s0 s1 s2 s3 s4 s5 : Int} {t : Bool} (h : rcF x a b c t K P Q r0 r1 r2 = (s0, s1, s2, s3, s4, s5, 0)) :
    (1 ≤ x ∧ x < 1073741789) ∧ t = true ∧ s0 = ((mp P.toNat (pw 4 r0) : Nat) : Int) ∧ s1 = ((mp Q.toNat (pw K.toNat r0) : Nat) : Int) ∧ s2 = ((mp (1 : Int).toNat (pw 4 r1) : Nat) : Int) ∧ s3 = ((mp (elB ((sgE x (rcT a b c) : Nat) + 1)).toNat (pw K.toNat r1) : Nat) : Int) ∧
      s4 = ((mp (1 : Int).toNat (pw 4 r2) : Nat) : Int) ∧ s5 = ((mp (elB (sgS x (rcT a b c) + 1)).toNat (pw K.toNat r2) : Nat) : Int) := by
  unfold rcF useF at h
  split at h
  · rename_i hx
    split at h
    · split at h
      · rename_i ht
        split at h
        · split at h
          · simp only [Prod.mk.injEq] at h
            obtain ⟨h0, h1, h2, h3, h4, h5, _⟩ := h
            exact ⟨hx, ht, h0.symm, h1.symm, h2.symm, h3.symm, h4.symm, h5.symm⟩
          · simp at h
        · simp at h
      · simp at h
    · simp at h
  · simp at h

theorem makeF_ok {L K al r a b c d : Int} {T : Bytes} (h : makeF L K al r = (a, b, c, d, T, 0)) :
    vd K = true ∧ (1 ≤ al ∧ al ≤ 1073741789) ∧ a = L ∧ b = K ∧ c = ((mp (1 : Int).toNat (pw 4 r) : Nat) : Int) ∧ d = ((mp (elB al).toNat (pw K.toNat r) : Nat) : Int) := by
  unfold makeF at h
  split at h
  · simp at h
  · split at h
    · rename_i hK
      split at h
      · rename_i ha
        simp only [Prod.mk.injEq] at h
        obtain ⟨h0, h1, h2, h3, h4, h5⟩ := h
        exact ⟨hK, ha, h0.symm, h1.symm, h2.symm, h3.symm⟩
      · simp at h
    · simp at h

theorem makeF_no {L K al r a b c d e : Int} {T : Bytes} (h : makeF L K al r = (a, b, c, d, T, e)) (he : e ≠ 0) : chkB a b c d T = false := by
  unfold makeF at h
  have z : chkB 0 0 0 0 zb32 = false := rcchk0
  split at h
  · simp only [Prod.mk.injEq] at h; obtain ⟨rfl, rfl, rfl, rfl, rfl, _⟩ := h; exact z
  · split at h
    · split at h
      · simp only [Prod.mk.injEq] at h; exact absurd h.2.2.2.2.2.symm he
      · simp only [Prod.mk.injEq] at h; obtain ⟨rfl, rfl, rfl, rfl, rfl, _⟩ := h; exact z
    · simp only [Prod.mk.injEq] at h; obtain ⟨rfl, rfl, rfl, rfl, rfl, _⟩ := h; exact z

theorem makeF_len' (L K al r : Int) : (makeF L K al r).2.2.2.2.1.length = 32 := by
  unfold makeF
  split
  · exact zb32_len
  · split
    · split
      · exact sha_length _
      · exact zb32_len
    · exact zb32_len

theorem pw_sum {a : Nat} (ha : Vd a) {e : Nat} (n r : Int) : mp (mp e (pw a n)) (pw a r) = mp e (pw a (wrap64 (n.tmod 1073741789 + r.tmod 1073741789))) := by
  have h1 := Int.mul_tdiv_add_tmod n 1073741789
  have h2 := Int.mul_tdiv_add_tmod r 1073741789
  have b1 := Int.tmod_lt_of_pos n (show (0 : Int) < 1073741789 by decide)
  have b2 := Int.tmod_lt_of_pos r (show (0 : Int) < 1073741789 by decide)
  have c1 := Int.lt_tmod_of_pos n (show (0 : Int) < 1073741789 by decide)
  have c2 := Int.lt_tmod_of_pos r (show (0 : Int) < 1073741789 by decide)
  have hu : wrap64 (n.tmod 1073741789 + r.tmod 1073741789) = n.tmod 1073741789 + r.tmod 1073741789 := by unfold wrap64; omega
  have hQ : ((Q : Nat) : Int) = 1073741789 := rfl
  rw [hu, mp_assoc, show mp (pw a n) (pw a r) = pw a (n + r) from (pw_add ha n r).symm]
  congr 1
  apply pw_congr
  rw [hQ]
  omega

theorem i64_mp (a b : Nat) : I64 ((mp a b : Nat) : Int) := by
  have h := mp_lt a b
  have hP : P = 2147483579 := rfl
  exact ⟨by omega, by omega⟩

theorem law_receiptsLike (x a b c line key al n r0 r1 r2 : Int) (w : World) (hG : Glob w) (ha : I64 a) (hb : I64 b) (hc : I64 c) (hl : I64 line) (hk : I64 key) (hn : I64 n) (hr0 : I64 r0) (hr1 : I64 r1) (hr2 : I64 r2) :
    Calls Tryd.prog 6 #[.int .i64 x, .agg #[.int .i64 a, .int .i64 b, .int .i64 c], .int .i64 line, .int .i64 key, .int .i64 al, .int .i64 n, .agg #[.int .i64 r0, .int .i64 r1, .int .i64 r2]] w fun e w' => e = .returned (.bool true) ∧ Below w.heap.size w w' := by
  obtain ⟨L', K', P', Q', T', e0, hM⟩ : ∃ a b c d T' e', makeF line key al n = (a, b, c, d, T', e') := ⟨_, _, _, _, _, _, rfl⟩
  have hT' : T'.length = 32 := by have := makeF_len' line key al n; rw [hM] at this; exact this
  obtain ⟨s0, s1, s2, s3, s4, s5, f0, hU⟩ : ∃ x0 y0 x1 y1 x2 y2 e, rcF x a b c (chkB L' K' P' Q' T') K' P' Q' r0 r1 r2 = (x0, y0, x1, y1, x2, y2, e) := ⟨_, _, _, _, _, _, _, rfl⟩
  have z0 : I64 0 := ⟨by decide, by decide⟩
  have hi : I64 L' ∧ I64 K' ∧ I64 P' ∧ I64 Q' := by
    by_cases he : e0 = 0
    · subst he
      obtain ⟨_, _, rfl, rfl, rfl, rfl⟩ := makeF_ok hM
      exact ⟨hl, hk, i64_mp _ _, i64_mp _ _⟩
    · unfold makeF at hM
      split at hM
      · simp only [Prod.mk.injEq] at hM; obtain ⟨rfl, rfl, rfl, rfl, _⟩ := hM; exact ⟨z0, z0, z0, z0⟩
      · split at hM
        · split at hM
          · simp only [Prod.mk.injEq] at hM; exact absurd hM.2.2.2.2.2.symm he
          · simp only [Prod.mk.injEq] at hM; obtain ⟨rfl, rfl, rfl, rfl, _⟩ := hM; exact ⟨z0, z0, z0, z0⟩
        · simp only [Prod.mk.injEq] at hM; obtain ⟨rfl, rfl, rfl, rfl, _⟩ := hM; exact ⟨z0, z0, z0, z0⟩
  have IX : Seal ((Tryd.prog.info? 29).map (·.size) = some (retC L' K' P' Q' T').length) := ⟨retC_info hT'⟩
  have LX : Seal ((.int .i64 0 :: .int .i64 0 :: .int .i64 0 :: .int .i64 0 :: .int .u8 0 :: .int .u8 0 :: .int .u8 0 :: .int .u8 0 :: .int .u8 0 :: .int .u8 0 :: .int .u8 0 :: .int .u8 0 :: .int .u8 0 :: .int .u8 0 :: .int .u8 0 :: .int .u8 0 :: .int .u8 0 :: .int .u8 0 :: .int .u8 0 :: .int .u8 0 :: .int .u8 0 :: .int .u8 0 :: .int .u8 0 :: .int .u8 0 :: .int .u8 0 :: .int .u8 0 :: .int .u8 0 :: .int .u8 0 :: .int .u8 0 :: .int .u8 0 :: .int .u8 0 :: .int .u8 0 :: .int .u8 0 :: .int .u8 0 :: .int .u8 0 :: .int .u8 0 :: [] : List Value).length = (retC L' K' P' Q' T').length) := ⟨by rw [retC_len hT']; rfl⟩
  have HM1 := Seal.mk (fun W (g : Glob W) => omake_at line key al n L' K' P' Q' e0 T' W g hl hk hn.1 hn.2 ⟨hM⟩)
  have HM2 := Seal.mk (fun W (g : Glob W) => rcmake_at x a b c L' K' P' Q' r0 r1 r2 s0 s1 s2 s3 s4 s5 f0 T' W g ha hb hc hi.1 hi.2.1 hi.2.2.1 hi.2.2.2 hT' hr0 hr1 hr2 ⟨hU⟩)
  by_cases hf : f0 = 0
  · subst hf
    obtain ⟨hx, ht, rfl, rfl, rfl, rfl, rfl, rfl⟩ := rcF_ok hU
    have he : e0 = 0 := by
      by_cases he : e0 = 0
      · exact he
      · rw [makeF_no hM he] at ht; cases ht
    subst he
    obtain ⟨vK, hal, rfl, rfl, rfl, rfl⟩ := makeF_ok hM
    obtain ⟨k, hkk, vk⟩ := vd_of_vd vK
    have hes := sgES_rng x (rcT a b c)
    refine like_yes x a b c _ _ al n r0 r1 r2 _ _ _ _ _ _ _ _ _ w hG ⟨ha⟩ ⟨hb⟩ ⟨hc⟩ hes IX LX ⟨retC_one _ _ _ _ _⟩ HM1 HM2
      ⟨fun W g n cap g1 h1 h2 => sign_yes x g n cap (rcT a b c) W hx.1 hx.2 h1 h2 g1⟩ ⟨fun W => ?_⟩
    have hs := eseal_yes K' al ((sgE x (rcT a b c) : Nat) + 1) (sgS x (rcT a b c) + 1) (wrap64 (n.tmod 1073741789 + r0.tmod 1073741789)) r1 r2 W vK hal (by omega) (by omega) (by unfold I64 wrap64; omega) hr1 hr2
    refine hs.mono fun e w' h => ⟨h.1.trans ?_, h.2⟩
    congr 4
    show Value.agg (#[.int .i64 (onP K' (wrap64 (n.tmod 1073741789 + r0.tmod 1073741789)) (1, elB al)).1, .int .i64 (onP K' (wrap64 (n.tmod 1073741789 + r0.tmod 1073741789)) (1, elB al)).2, _, _, _, _] : Array Value) = _
    have e1 : (onP K' (wrap64 (n.tmod 1073741789 + r0.tmod 1073741789)) (1, elB al)).1 = ((mp (((mp (1 : Int).toNat (pw 4 n) : Nat) : Int)).toNat (pw 4 r0) : Nat) : Int) := by
      rw [Int.toNat_natCast, pw_sum vd4]; rfl
    have e2 : (onP K' (wrap64 (n.tmod 1073741789 + r0.tmod 1073741789)) (1, elB al)).2 = ((mp (((mp (elB al).toNat (pw K'.toNat n) : Nat) : Int)).toNat (pw K'.toNat r0) : Nat) : Int) := by
      rw [Int.toNat_natCast, hkk, Int.toNat_natCast, pw_sum vk]; rfl
    rw [e1, e2]
    rfl
  · obtain ⟨rfl, rfl, rfl, rfl, rfl, rfl⟩ := rcF_zero hU hf
    exact like_no x a b c line key al n r0 r1 r2 e0 f0 _ w hG hf IX LX ⟨retC_one _ _ _ _ _⟩ HM1 HM2
end Frk

namespace Go.Proofs.YtgdhjapnploaoaaDoor
open Go Go.RowKit Go.Proofs Go.ChangeShapes Go.WideShapes Go.ChangeAt Frk
set_option maxRecDepth 100000

theorem lifted (os : Os) (started : os.Started) (H : Type) (enc : TypeId × Value → H) :
    ReturnsInHanded {} Tryd.checked os 6 .any (fun w args => (Rows.receiptsLikeSpec.pre enc Tryd.prog Tryd.f6 [] false w args ∧ laidMetH Tryd.prog laid w) ∧ sizedMet enc Tryd.prog Tryd.f6 (OpenSpec.ofChange Rows.receiptsLikeSpec) false w args)
      (Rows.receiptsLikeSpec.post enc Tryd.prog Tryd.f6 false true false false) := by
  refine returnsInHanded_of_change_and (C := Tryd.checked) (X := fun w _ => laidMetH Tryd.prog laid w) (fun _ _ _ hh h => h.of_heap hh) own started (by kernel_rfl) Tryd.func6
    (ChangeSpec.witness_shaped (enc := enc) (C := Tryd.checked) (os := os) (X := fun w _ => laidMetH Tryd.prog laid w) false (World.doorLaid Tryd.prog 400 os) #[.int .i64 0, .agg #[.int .i64 0, .int .i64 0, .int .i64 0], .int .i64 0, .int .i64 0, .int .i64 0, .int .i64 0, .agg #[.int .i64 0, .int .i64 0, .int .i64 0]] 8 rfl (World.shaped_of_RefB (by kernel_rfl) (by kernel_rfl)) (by kernel_rfl) (by kernel_rfl) (by kernel_rfl) (door_met os _)) ?_
  intro W base args ds gs before hval0 hW _ _ hL _
  have hval : ∀ (j : Nat) t v, Tryd.f6.params[j]? = some t → args[j]? = some v → Value.okWide Tryd.prog W .any base t v := hval0
  have hW' := hW
  obtain ⟨p, q, hA0, hV, rfl, hfz, hnd⟩ := hW
  have hA : DataW.TrodAll enc Tryd.prog W 0 (fun _ => true) true Tryd.f6.params.toList args.toList ds p := hA0
  rw [Tryd.params6] at hA hval
  obtain ⟨args⟩ := args
  obtain ⟨v0, vs0, d0, ds0, p0, q0, e0, rfl, rfl, h0, hr0⟩ := trodAll_cons hA
  obtain ⟨v1, vs1, d1, ds1, p1, q1, e1, rfl, rfl, h1, hr1⟩ := trodAll_cons hr0
  obtain ⟨v2, vs2, d2, ds2, p2, q2, e2, rfl, rfl, h2, hr2⟩ := trodAll_cons hr1
  obtain ⟨v3, vs3, d3, ds3, p3, q3, e3, rfl, rfl, h3, hr3⟩ := trodAll_cons hr2
  obtain ⟨v4, vs4, d4, ds4, p4, q4, e4, rfl, rfl, h4, hr4⟩ := trodAll_cons hr3
  obtain ⟨v5, vs5, d5, ds5, p5, q5, e5, rfl, rfl, h5, hr5⟩ := trodAll_cons hr4
  obtain ⟨v6, vs6, d6, ds6, p6, q6, e6, rfl, rfl, h6, hr6⟩ := trodAll_cons hr5
  obtain ⟨rfl, rfl, rfl⟩ := trodAll_nil hr6
  obtain rfl : args = [v0, v1, v2, v3, v4, v5, v6] := by simpa [e1, e2, e3, e4, e5, e6] using e0
  obtain ⟨x0, rfl, wx0⟩ := int_open (hval 0 3 v0 rfl rfl) h0
  obtain ⟨X1, Y1, Z1, rfl, rX1, rY1, rZ1⟩ := words_open (hval 1 23 v1 rfl rfl) h1
  obtain ⟨x2, rfl, wx2⟩ := int_open (hval 2 3 v2 rfl rfl) h2
  obtain ⟨x3, rfl, wx3⟩ := int_open (hval 3 3 v3 rfl rfl) h3
  obtain ⟨x4, rfl, wx4⟩ := int_open (hval 4 3 v4 rfl rfl) h4
  obtain ⟨x5, rfl, wx5⟩ := int_open (hval 5 3 v5 rfl rfl) h5
  obtain ⟨X6, Y6, Z6, rfl, rX6, rY6, rZ6⟩ := three_open (hval 6 22 v6 rfl rfl) h6
  obtain ⟨rfl, rfl⟩ := trodVars_none hV
  have hG := glob_of_laid hL
  refine (law_receiptsLike x0 X1 Y1 Z1 x2 x3 x4 x5 X6 Y6 Z6 W hG rX1 rY1 rZ1 wx2 wx3 wx5 rX6 rY6 rZ6).mono fun e W' ⟨he, hb⟩ => ?_
  subst he
  exact ⟨_, rfl, law_fin (by rw [Tryd.params6]; simp only [List.mem_cons, List.not_mem_nil, or_false]; intro t ht; rcases ht with rfl | rfl | rfl | rfl | rfl | rfl | rfl <;> exact ⟨by kernel_rfl, of_decide_eq_true (by kernel_rfl)⟩) (by kernel_rfl) rfl rfl hW' hb⟩

theorem receiptsLike_row : Rows.ReceiptsLikeSaid :=
  OpenClaim.holds_of_wide 6 Tryd.f6 rfl rfl rfl rfl rfl rfl rfl ⟨rfl, rfl, rfl, rfl, rfl⟩ rfl rfl rfl rfl rfl (by kernel_rfl) Tryd.func6 (by kernel_rfl)
    (of_decide_eq_true (by kernel_rfl)) (by unfold Func.isWrapper; first | (rw [if_pos (by decide +kernel)]; kernel_rfl) | (rw [if_neg (by decide +kernel)]; exact ⟨rfl, rfl⟩))
    (fun os started H enc _ => lifted os started H enc)

theorem receiptsLike_holds : Rows.ReceiptsLikeCardSaid :=
  Claim7.holds_tied_plain_at .later [] [.data, .data] true Rows.receiptsLikeCard.stood.harness true
    receiptsLike_row (fun _ h => by cases h) (by kernel_rfl) (fun _ h => by cases h) receiptsLike_row_tie rfl ⟨rfl, rfl⟩ (by kernel_rfl) rfl
    (fun f fn hf hfn => by
      obtain rfl : f = 6 := Option.some.inj ((show Tryd.prog.funcNamed "franking/frankinglaw43.ReceiptsLike" = some 6 by kernel_rfl).symm.trans hf) |>.symm
      obtain rfl : fn = Tryd.f6 := (Option.some.inj (Tryd.func6.symm.trans hfn)).symm
      exact ⟨by kernel_rfl, fun j t ht => by
        rw [Tryd.params6] at ht
        have hm : t ∈ [3, 23, 3, 3, 3, 3, 22] := by simpa using Array.mem_of_getElem? ht
        have hall : ([3, 23, 3, 3, 3, 3, 22].all fun u => !Tryd.prog.wantsStandIn u) = true := by kernel_rfl
        exact (show Tryd.prog.wantsStandIn t = false by simpa using List.all_eq_true.1 hall t hm)⟩)
    (by kernel_rfl)
#print axioms receiptsLike_holds
end Go.Proofs.YtgdhjapnploaoaaDoor
