/- The statement ReceiptsSpec of frankinglaw43 holds: for every input the law returns true, and each argument reads afterwards as it read before. Conditions: those of the row (the listed variables start as the program's text lays them; the card ties them). -/
import Derived.Test.YtgdhjapnploaoaaDoorRcz
import Derived.Test.YtgdhjapnploaoaaDoorRop
import Derived.Test.YtgdhjapnploaoaaDoorHol
namespace Frk
open Go Go.RowKit Go.Proofs
set_option maxRecDepth 100000

theorem eqCi_at (d : Nat) (a b c e : Int) (w : World) : (Op.equalIn (d + 1 + 1) 25 (.agg #[.int .i64 a, .int .i64 b]) (.agg #[.int .i64 c, .int .i64 e])).run Tryd.prog w = .ok (a == c && b == e) w := by
  have u3 := Tryd.underlying3
  have a3 := Tryd.isAgg3
  have z3 := Tryd.sizeOf3
  have hS : Tryd.prog.underlying 25 = some (.struct (Tryd.prog.fieldsOf 25)) := by kernel_rfl
  have hp : Tryd.prog.stoodInHeld 25 = false := by kernel_rfl
  rw [run_equalIn_agg w (d + 1) 25 _ _ hS hp]
  simp only [Program.fieldsOf, Tryd.underlying25]
  go_simp
  by_cases h1 : a = c <;> by_cases h2 : b = e <;> simp [h1, h2]

theorem eqItems_step {P : Program} (d : Nat) (e : TypeId) (c : Nat) (xs ys : Array Value) (i : Nat) (is : List Nat) (w : World) (a b : Value) (ha : (part e xs (i * c)).run P w = .ok a w) (hb : (part e ys (i * c)).run P w = .ok b w) (hr : (Op.equalIn d e a b).run P w = .ok true w) :
    (Op.eqItems d e c xs ys (i :: is)).run P w = (Op.eqItems d e c xs ys is).run P w := by
  rw [Op.eqItems]
  simp only [Sem.run_bind, ha, hb, hr, Result.andThen_ok]
  rfl

theorem eqSe (x0 x1 x2 x3 x4 x5 : Int) (w : World) : (Op.equalIn 10000 32 (.agg #[.int .i64 x0, .int .i64 x1, .int .i64 x2, .int .i64 x3, .int .i64 x4, .int .i64 x5]) (.agg #[.int .i64 x0, .int .i64 x1, .int .i64 x2, .int .i64 x3, .int .i64 x4, .int .i64 x5])).run Tryd.prog w = .ok true w := by
  have aC := Tryd.isAgg25
  have zC := Tryd.sizeOf25
  have c2 : Tryd.prog.cellsOf 25 = 2 := by kernel_rfl
  obtain ⟨i0, hi⟩ : ∃ i, Tryd.prog.info? 25 = some i := by
    cases h : Tryd.prog.info? 25 with
    | none => have : (Tryd.prog.info? 25).isSome = true := by kernel_rfl
              rw [h] at this; cases this
    | some i => exact ⟨i, rfl⟩
  have e : ∀ a b : Int, (Op.equalIn 9999 25 (.agg #[.int .i64 a, .int .i64 b]) (.agg #[.int .i64 a, .int .i64 b])).run Tryd.prog w = .ok true w := fun a b => by
    rw [show (9999 : Nat) = 9997 + 1 + 1 from rfl, eqCi_at 9997 a b a b w]; simp
  have p0 : (part 25 #[.int .i64 x0, .int .i64 x1, .int .i64 x2, .int .i64 x3, .int .i64 x4, .int .i64 x5] (0 * 2)).run Tryd.prog w = .ok (.agg #[.int .i64 x0, .int .i64 x1]) w := by simp [part, aC, zC]
  have p1 : (part 25 #[.int .i64 x0, .int .i64 x1, .int .i64 x2, .int .i64 x3, .int .i64 x4, .int .i64 x5] (1 * 2)).run Tryd.prog w = .ok (.agg #[.int .i64 x2, .int .i64 x3]) w := by simp [part, aC, zC]
  have p2 : (part 25 #[.int .i64 x0, .int .i64 x1, .int .i64 x2, .int .i64 x3, .int .i64 x4, .int .i64 x5] (2 * 2)).run Tryd.prog w = .ok (.agg #[.int .i64 x4, .int .i64 x5]) w := by simp [part, aC, zC]
  rw [show (10000 : Nat) = 9999 + 1 from rfl, run_equalIn_array w 9999 _ _ Tryd.underlying32 hi, show List.range 3 = [0, 1, 2] from rfl, c2,
    eqItems_step _ _ _ _ _ _ _ _ _ _ p0 p0 (e _ _), eqItems_step _ _ _ _ _ _ _ _ _ _ p1 p1 (e _ _), eqItems_step _ _ _ _ _ _ _ _ _ _ p2 p2 (e _ _)]
  rw [Op.eqItems]
  rfl

set_option maxHeartbeats 8000000 in
theorem receipts_spec (x e0 : Int) (A C R M : Array Value) (w : World) (hG : Glob w)
    (IA : Seal ((Tryd.prog.info? 23).map (·.size) = some A.size)) (IC : Seal ((Tryd.prog.info? 29).map (·.size) = some C.size)) (IR : Seal ((Tryd.prog.info? 22).map (·.size) = some R.size))
    (IM : Seal ((Tryd.prog.info? 32).map (·.size) = some M.size)) (HM : ∃ x0 y0 x1 y1 x2 y2 : Int, M = #[.int .i64 x0, .int .i64 y0, .int .i64 x1, .int .i64 y1, .int .i64 x2, .int .i64 y2])
    (HM1 : Seal (∀ W, Glob W → Calls Tryd.prog 10 #[.int .i64 x, .agg A, .agg C, .agg R] W fun e w' => e = .returned (.tuple #[.agg M, .int .i64 e0]) ∧ Below W.heap.size W w'))
    (HM2 : Seal (∀ W, Glob W → Calls Tryd.prog 11 #[.int .i64 x, .agg A, .agg C, .agg R] W fun e w' => e = .returned (.tuple #[.agg M, .int .i64 e0]) ∧ Below W.heap.size W w')) :
    Calls Tryd.prog 3 #[.int .i64 x, .agg A, .agg C, .agg R] w fun e w' => e = .returned (.bool true) ∧ Below w.heap.size w w' := by
  obtain ⟨x0, y0, x1, y1, x2, y2, rfl⟩ := HM
  have HE1 : Seal (Env (((w.alloc (.cells A 23)).alloc (.cells C 29)).alloc (.cells R 22)) none 0 0 [] [(w.heap.size + 1 + 1, .cells R 22), (w.heap.size + 1, .cells C 29), (w.heap.size, .cells A 23)]) := ⟨by
    have h1 := Env.push (bs := []) ⟨hG, isB_nil w, by intro p hp; cases hp⟩ (.cells A 23)
    have h2 := h1.push (.cells C 29)
    have h3 := h2.push (.cells R 22)
    rw [size_alloc] at h3 h2
    rw [size_alloc] at h3
    exact h3⟩
  have HB1 : Seal (Below w.heap.size w (((w.alloc (.cells A 23)).alloc (.cells C 29)).alloc (.cells R 22))) := ⟨(((Below.refl _ w).alloc (Nat.le_refl _) _).alloc (by simp) _).alloc (by simp; omega) _⟩
  have heq := fun W => eqSe x0 y0 x1 y1 x2 y2 W
  have htt : (e0 == e0) = true := by simp
  clear hG
  go_enter Tryd.func3, Tryd.ntmps3
  go_wp2_with fail
  refine (rcsane_any _ HE1.out.glob).mono ?_
  rintro e Y ⟨rfl, hb⟩
  have HE2 := Seal.mk (HE1.out.below hb)
  have HB2 := Seal.mk (HB1.out.trans (hb.mono HB1.out.size))
  clear hb HE1 HB1
  go_wp2_with (first | (refine wpList_load_row rfl 23 (.tmp 5) rfl (w.heap.size) rfl 23 A (0, 0) _ (HE2.out.keep (w.heap.size, .cells A 23) (by simp)) Tryd.underlying23 rfl IA.out ?_) | (refine wpList_load_row rfl 29 (.tmp 6) rfl (w.heap.size + 1) rfl 29 C (0, 0) _ (HE2.out.keep (w.heap.size + 1, .cells C 29) (by simp)) Tryd.underlying29 rfl IC.out ?_) | (refine wpList_load_row rfl 22 (.tmp 7) rfl (w.heap.size + 1 + 1) rfl 22 R (0, 0) _ (HE2.out.keep (w.heap.size + 1 + 1, .cells R 22) (by simp)) Tryd.underlying22 rfl IR.out ?_))
  refine (HM1.out _ HE2.out.glob).mono ?_
  rintro e w3 ⟨rfl, hb⟩
  have HE3 := Seal.mk ((HE2.out.below hb).push (.cells #[.int .i64 x0, .int .i64 y0, .int .i64 x1, .int .i64 y1, .int .i64 x2, .int .i64 y2] 32))
  have HB3 := Seal.mk ((HB2.out.trans (hb.mono HB2.out.size)).alloc (Nat.le_trans HB2.out.size hb.size) (.cells #[.int .i64 x0, .int .i64 y0, .int .i64 x1, .int .i64 y1, .int .i64 x2, .int .i64 y2] 32))
  clear hb HE2 HB2
  go_wp2_with (first | (refine wpList_load_row rfl 23 (.tmp 5) rfl (w.heap.size) rfl 23 A (0, 0) _ (HE3.out.keep (w.heap.size, .cells A 23) (by simp)) Tryd.underlying23 rfl IA.out ?_) | (refine wpList_load_row rfl 29 (.tmp 6) rfl (w.heap.size + 1) rfl 29 C (0, 0) _ (HE3.out.keep (w.heap.size + 1, .cells C 29) (by simp)) Tryd.underlying29 rfl IC.out ?_) | (refine wpList_load_row rfl 22 (.tmp 7) rfl (w.heap.size + 1 + 1) rfl 22 R (0, 0) _ (HE3.out.keep (w.heap.size + 1 + 1, .cells R 22) (by simp)) Tryd.underlying22 rfl IR.out ?_))
  refine (HM2.out _ HE3.out.glob).mono ?_
  rintro e w4 ⟨rfl, hb⟩
  have HE4 := Seal.mk ((HE3.out.below hb).push (.cells #[.int .i64 x0, .int .i64 y0, .int .i64 x1, .int .i64 y1, .int .i64 x2, .int .i64 y2] 32))
  have HB4 := Seal.mk ((HB3.out.trans (hb.mono HB3.out.size)).alloc (Nat.le_trans HB3.out.size hb.size) (.cells #[.int .i64 x0, .int .i64 y0, .int .i64 x1, .int .i64 y1, .int .i64 x2, .int .i64 y2] 32))
  clear hb HE3 HB3
  go_wp2_with (first | (refine wpList_load_row rfl 32 (.tmp 9) rfl (w3.heap.size) rfl 32 #[.int .i64 x0, .int .i64 y0, .int .i64 x1, .int .i64 y1, .int .i64 x2, .int .i64 y2] (0, 0) _ (HE4.out.keep (w3.heap.size, .cells #[.int .i64 x0, .int .i64 y0, .int .i64 x1, .int .i64 y1, .int .i64 x2, .int .i64 y2] 32) (by simp)) Tryd.underlying32 rfl IM.out ?_) | (refine wpList_load_row rfl 32 (.tmp 11) rfl (w4.heap.size) rfl 32 #[.int .i64 x0, .int .i64 y0, .int .i64 x1, .int .i64 y1, .int .i64 x2, .int .i64 y2] (0, 0) _ (HE4.out.keep (w4.heap.size, .cells #[.int .i64 x0, .int .i64 y0, .int .i64 x1, .int .i64 y1, .int .i64 x2, .int .i64 y2] 32) (by simp)) Tryd.underlying32 rfl IM.out ?_))
  go_ret
  exact ⟨rfl, HB4.out⟩

theorem law_receiptsSpec (x a b c L K P Q r0 r1 r2 : Int) (T : Bytes) (w : World) (hG : Glob w) (ha : I64 a) (hb : I64 b) (hc : I64 c) (hL : I64 L) (hK : I64 K) (hP : I64 P) (hQ : I64 Q) (hT : T.length = 32) (hr0 : I64 r0) (hr1 : I64 r1) (hr2 : I64 r2) :
    Calls Tryd.prog 3 #[.int .i64 x, .agg #[.int .i64 a, .int .i64 b, .int .i64 c], .agg (retC L K P Q T).toArray, .agg #[.int .i64 r0, .int .i64 r1, .int .i64 r2]] w fun e w' => e = .returned (.bool true) ∧ Below w.heap.size w w' := by
  obtain ⟨x0, y0, x1, y1, x2, y2, e, hU⟩ : ∃ x0 y0 x1 y1 x2 y2 e, rcF x a b c (chkB L K P Q T) K P Q r0 r1 r2 = (x0, y0, x1, y1, x2, y2, e) := ⟨_, _, _, _, _, _, _, rfl⟩
  exact receipts_spec x e _ _ _ _ w hG ⟨by kernel_rfl⟩ ⟨by rw [List.size_toArray]; exact retC_info hT⟩ ⟨by kernel_rfl⟩ ⟨by kernel_rfl⟩ ⟨x0, y0, x1, y1, x2, y2, rfl⟩
    ⟨fun W g => rcmake_at x a b c L K P Q r0 r1 r2 x0 y0 x1 y1 x2 y2 e T W g ha hb hc hL hK hP hQ hT hr0 hr1 hr2 ⟨hU⟩⟩
    ⟨fun W g => rmake43_at x a b c L K P Q r0 r1 r2 x0 y0 x1 y1 x2 y2 e T W g ha hb hc hL hK hP hQ hT hr0 hr1 hr2 ⟨hU⟩⟩
end Frk

namespace Go.Proofs.YtgdhjapnploaoaaDoor
open Go Go.RowKit Go.Proofs Go.ChangeShapes Go.WideShapes Go.ChangeAt Frk
set_option maxRecDepth 100000

theorem lifted (os : Os) (started : os.Started) (H : Type) (enc : TypeId × Value → H) :
    ReturnsInHanded {} Tryd.checked os 3 .any (fun w args => (Rows.receiptsSpecSpec.pre enc Tryd.prog Tryd.f3 [] false w args ∧ laidMetH Tryd.prog laid w) ∧ sizedMet enc Tryd.prog Tryd.f3 (OpenSpec.ofChange Rows.receiptsSpecSpec) false w args)
      (Rows.receiptsSpecSpec.post enc Tryd.prog Tryd.f3 false true false false) := by
  refine returnsInHanded_of_change_and (C := Tryd.checked) (X := fun w _ => laidMetH Tryd.prog laid w) (fun _ _ _ hh h => h.of_heap hh) own started (by kernel_rfl) Tryd.func3
    (ChangeSpec.witness_shaped (enc := enc) (C := Tryd.checked) (os := os) (X := fun w _ => laidMetH Tryd.prog laid w) false (World.doorLaid Tryd.prog 400 os) #[.int .i64 0, .agg #[.int .i64 0, .int .i64 0, .int .i64 0], .agg (List.toArray (.int .i64 0 :: .int .i64 0 :: .int .i64 0 :: .int .i64 0 :: .int .u8 0 :: .int .u8 0 :: .int .u8 0 :: .int .u8 0 :: .int .u8 0 :: .int .u8 0 :: .int .u8 0 :: .int .u8 0 :: .int .u8 0 :: .int .u8 0 :: .int .u8 0 :: .int .u8 0 :: .int .u8 0 :: .int .u8 0 :: .int .u8 0 :: .int .u8 0 :: .int .u8 0 :: .int .u8 0 :: .int .u8 0 :: .int .u8 0 :: .int .u8 0 :: .int .u8 0 :: .int .u8 0 :: .int .u8 0 :: .int .u8 0 :: .int .u8 0 :: .int .u8 0 :: .int .u8 0 :: .int .u8 0 :: .int .u8 0 :: .int .u8 0 :: .int .u8 0 :: []) : Array Value), .agg #[.int .i64 0, .int .i64 0, .int .i64 0]] 8 rfl (World.shaped_of_RefB (by kernel_rfl) (by kernel_rfl)) (by kernel_rfl) (by kernel_rfl) (by kernel_rfl) (door_met os _)) ?_
  intro W base args ds gs before hval0 hW _ _ hL _
  have hval : ∀ (j : Nat) t v, Tryd.f3.params[j]? = some t → args[j]? = some v → Value.okWide Tryd.prog W .any base t v := hval0
  have hW' := hW
  obtain ⟨p, q, hA0, hV, rfl, hfz, hnd⟩ := hW
  have hA : DataW.TrodAll enc Tryd.prog W 0 (fun _ => true) true Tryd.f3.params.toList args.toList ds p := hA0
  rw [Tryd.params3] at hA hval
  obtain ⟨args⟩ := args
  obtain ⟨v0, vs0, d0, ds0, p0, q0, e0, rfl, rfl, h0, hr0⟩ := trodAll_cons hA
  obtain ⟨v1, vs1, d1, ds1, p1, q1, e1, rfl, rfl, h1, hr1⟩ := trodAll_cons hr0
  obtain ⟨v2, vs2, d2, ds2, p2, q2, e2, rfl, rfl, h2, hr2⟩ := trodAll_cons hr1
  obtain ⟨v3, vs3, d3, ds3, p3, q3, e3, rfl, rfl, h3, hr3⟩ := trodAll_cons hr2
  obtain ⟨rfl, rfl, rfl⟩ := trodAll_nil hr3
  obtain rfl : args = [v0, v1, v2, v3] := by simpa [e1, e2, e3] using e0
  obtain ⟨x0, rfl, wx0⟩ := int_open (hval 0 3 v0 rfl rfl) h0
  obtain ⟨X1, Y1, Z1, rfl, rX1, rY1, rZ1⟩ := words_open (hval 1 23 v1 rfl rfl) h1
  obtain ⟨L2, K2, P2, Q2, T2, rfl, rL2, rK2, rP2, rQ2, rT2⟩ := ret_open (hval 2 29 v2 rfl rfl) h2
  obtain ⟨X3, Y3, Z3, rfl, rX3, rY3, rZ3⟩ := three_open (hval 3 22 v3 rfl rfl) h3
  obtain ⟨rfl, rfl⟩ := trodVars_none hV
  have hG := glob_of_laid hL
  refine (law_receiptsSpec x0 X1 Y1 Z1 L2 K2 P2 Q2 X3 Y3 Z3 T2 W hG rX1 rY1 rZ1 rL2 rK2 rP2 rQ2 rT2 rX3 rY3 rZ3).mono fun e W' ⟨he, hb⟩ => ?_
  subst he
  exact ⟨_, rfl, law_fin (by rw [Tryd.params3]; simp only [List.mem_cons, List.not_mem_nil, or_false]; intro t ht; rcases ht with rfl | rfl | rfl | rfl <;> exact ⟨by kernel_rfl, of_decide_eq_true (by kernel_rfl)⟩) (by kernel_rfl) rfl rfl hW' hb⟩

theorem receiptsSpec_row : Rows.ReceiptsSpecSaid :=
  OpenClaim.holds_of_wide 3 Tryd.f3 rfl rfl rfl rfl rfl rfl rfl ⟨rfl, rfl, rfl, rfl, rfl⟩ rfl rfl rfl rfl rfl (by kernel_rfl) Tryd.func3 (by kernel_rfl)
    (of_decide_eq_true (by kernel_rfl)) (by unfold Func.isWrapper; first | (rw [if_pos (by decide +kernel)]; kernel_rfl) | (rw [if_neg (by decide +kernel)]; exact ⟨rfl, rfl⟩))
    (fun os started H enc _ => lifted os started H enc)

theorem receiptsSpec_holds : Rows.ReceiptsSpecCardSaid :=
  Claim7.holds_tied_plain_at .later [] [.data, .data] true Rows.receiptsSpecCard.stood.harness true
    receiptsSpec_row (fun _ h => by cases h) (by kernel_rfl) (fun _ h => by cases h) receiptsSpec_row_tie rfl ⟨rfl, rfl⟩ (by kernel_rfl) rfl
    (fun f fn hf hfn => by
      obtain rfl : f = 3 := Option.some.inj ((show Tryd.prog.funcNamed "franking/frankinglaw43.ReceiptsSpec" = some 3 by kernel_rfl).symm.trans hf) |>.symm
      obtain rfl : fn = Tryd.f3 := (Option.some.inj (Tryd.func3.symm.trans hfn)).symm
      exact ⟨by kernel_rfl, fun j t ht => by
        rw [Tryd.params3] at ht
        have hm : t ∈ [3, 23, 29, 22] := by simpa using Array.mem_of_getElem? ht
        have hall : ([3, 23, 29, 22].all fun u => !Tryd.prog.wantsStandIn u) = true := by kernel_rfl
        exact (show Tryd.prog.wantsStandIn t = false by simpa using List.all_eq_true.1 hall t hm)⟩)
    (by kernel_rfl)
#print axioms receiptsSpec_holds
end Go.Proofs.YtgdhjapnploaoaaDoor
