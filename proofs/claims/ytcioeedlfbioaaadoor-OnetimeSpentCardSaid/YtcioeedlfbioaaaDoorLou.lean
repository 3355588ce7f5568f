/- Two sealed texts held against each other. -/
import Derived.Test.YtcioeedlfbioaaaDoorSao
import Derived.Test.YtcioeedlfbioaaaDoorRus
import Derived.Test.YtcioeedlfbioaaaDoorRpu
import Derived.Test.YtcioeedlfbioaaaDoorHor
import Derived.Test.YtcioeedlfbioaaaDoorDin
namespace Frk
open Go Go.RowKit Go.Proofs
set_option maxRecDepth 100000

theorem eqItems_step {P : Program} (d : Nat) (e : TypeId) (c : Nat) (xs ys : Array Value) (i : Nat) (is : List Nat) (w : World) (a b : Value) (ha : (part e xs (i * c)).run P w = .ok a w) (hb : (part e ys (i * c)).run P w = .ok b w) (hr : (Op.equalIn d e a b).run P w = .ok true w) :
    (Op.eqItems d e c xs ys (i :: is)).run P w = (Op.eqItems d e c xs ys is).run P w := by
  rw [Op.eqItems]
  simp only [Sem.run_bind, ha, hb, hr, Result.andThen_ok]
  rfl

theorem eqSe (x0 x1 x2 x3 x4 x5 : Int) (w : World) : (Op.equalIn 10000 39 (.agg #[.int .i64 x0, .int .i64 x1, .int .i64 x2, .int .i64 x3, .int .i64 x4, .int .i64 x5]) (.agg #[.int .i64 x0, .int .i64 x1, .int .i64 x2, .int .i64 x3, .int .i64 x4, .int .i64 x5])).run Tryd.prog w = .ok true w := by
  have aC := Tryd.isAgg23
  have zC := Tryd.sizeOf23
  have c2 : Tryd.prog.cellsOf 23 = 2 := by kernel_rfl
  obtain ⟨i0, hi⟩ : ∃ i, Tryd.prog.info? 23 = some i := by
    cases h : Tryd.prog.info? 23 with
    | none => have : (Tryd.prog.info? 23).isSome = true := by kernel_rfl
              rw [h] at this; cases this
    | some i => exact ⟨i, rfl⟩
  have e : ∀ a b : Int, (Op.equalIn 9999 23 (.agg #[.int .i64 a, .int .i64 b]) (.agg #[.int .i64 a, .int .i64 b])).run Tryd.prog w = .ok true w := fun a b => by
    rw [show (9999 : Nat) = 9997 + 1 + 1 from rfl, eqCi_at 9997 a b a b w]; simp
  have p0 : (part 23 #[.int .i64 x0, .int .i64 x1, .int .i64 x2, .int .i64 x3, .int .i64 x4, .int .i64 x5] (0 * 2)).run Tryd.prog w = .ok (.agg #[.int .i64 x0, .int .i64 x1]) w := by simp [part, aC, zC]
  have p1 : (part 23 #[.int .i64 x0, .int .i64 x1, .int .i64 x2, .int .i64 x3, .int .i64 x4, .int .i64 x5] (1 * 2)).run Tryd.prog w = .ok (.agg #[.int .i64 x2, .int .i64 x3]) w := by simp [part, aC, zC]
  have p2 : (part 23 #[.int .i64 x0, .int .i64 x1, .int .i64 x2, .int .i64 x3, .int .i64 x4, .int .i64 x5] (2 * 2)).run Tryd.prog w = .ok (.agg #[.int .i64 x4, .int .i64 x5]) w := by simp [part, aC, zC]
  rw [show (10000 : Nat) = 9999 + 1 from rfl, run_equalIn_array w 9999 _ _ Tryd.underlying39 hi, show List.range 3 = [0, 1, 2] from rfl, c2,
    eqItems_step _ _ _ _ _ _ _ _ _ _ p0 p0 (e _ _), eqItems_step _ _ _ _ _ _ _ _ _ _ p1 p1 (e _ _), eqItems_step _ _ _ _ _ _ _ _ _ _ p2 p2 (e _ _)]
  rw [Op.eqItems]
  rfl

theorem law_use_many (A B2 B3 : Array Value) (s : Option Addr) (len cap : Nat) (w : World) (hG : Glob w) (hm : (len : Int) ≤ 9223372036854775807) (hx : ¬ (len : Int) ≤ 40) :
    Calls Tryd.prog 4 #[.agg A, .agg B2, .agg B3, .slice s len cap] w fun e w' => e = .returned (.bool true) ∧ Below w.heap.size w w' := by
  obtain ⟨X, hX⟩ : ∃ X : World, X = ((w.alloc (.cells A 27)).alloc (.cells B2 34)).alloc (.cells B3 35) := ⟨_, rfl⟩
  have HB1 : Seal (Below w.heap.size w X) := ⟨by rw [hX]; exact (((Below.refl _ w).alloc (Nat.le_refl _) _).alloc (by simp) _).alloc (by simp; omega) _⟩
  have HG : Seal (Glob X) := ⟨hG.below HB1.out⟩
  have ht : decide ((len : Int) ≤ 40) = false := decide_eq_false hx
  go_enter Tryd.func4, Tryd.ntmps4
  go_wp2_with fail
  rw [← hX]
  clear hX
  refine (osane_any _ HG.out).mono ?_
  rintro e w2 ⟨rfl, hb⟩
  have HB2 := Seal.mk (HB1.out.trans (hb.mono HB1.out.size))
  clear hb
  go_wp2_with fail
  refine (rfew_any s len cap false w2 hm ht).mono ?_
  rintro e w3 ⟨rfl, rfl⟩
  go_wp2
  go_ret
  exact ⟨rfl, HB2.out⟩

set_option maxHeartbeats 4000000 in
theorem law_use_core (C A2 A3 M : List Value) (e x : Int) (l r : List Bytes) (s : Option Addr) (len cap : Nat) (w : World) (hG : Glob w) (hd : Seal (IsD w s len cap l)) (hx : (len : Int) ≤ 40)
    (IC : Seal ((Tryd.prog.info? 27).map (·.size) = some C.toArray.size)) (I2 : Seal ((Tryd.prog.info? 34).map (·.size) = some A2.toArray.size)) (I3 : Seal ((Tryd.prog.info? 35).map (·.size) = some A3.toArray.size)) (IM : Seal ((Tryd.prog.info? 39).map (·.size) = some M.length)) (IMa : Seal ((Tryd.prog.info? 39).map (·.size) = some M.toArray.size))
    (LM : Seal ([Value.int .i64 0, .int .i64 0, .int .i64 0, .int .i64 0, .int .i64 0, .int .i64 0].length = M.length)) (OM : Seal (∀ u ∈ M, u.oneCell' = true))
    (heq : ∀ W, (Op.equalIn 10000 39 (.agg M.toArray) (.agg M.toArray)).run Tryd.prog W = .ok true W)
    (HU1 : Seal (∀ W, Glob W → Calls Tryd.prog 18 #[.agg C.toArray, .agg A2.toArray, .agg A3.toArray] W fun e' w' => e' = .returned (.tuple #[.agg M.toArray, .int .i64 e]) ∧ Below W.heap.size W w'))
    (HU2 : Seal (∀ W, Glob W → Calls Tryd.prog 19 #[.agg C.toArray, .agg A2.toArray, .agg A3.toArray] W fun e' w' => e' = .returned (.tuple #[.agg M.toArray, .int .i64 e]) ∧ Below W.heap.size W w'))
    (HS1 : Seal (∀ W, Glob W → IsD W s len cap l → Calls Tryd.prog 20 #[.slice s len cap, .agg C.toArray] W (DigPost r x W)))
    (HS2 : Seal (∀ W, Glob W → IsD W s len cap l → Calls Tryd.prog 21 #[.slice s len cap, .agg C.toArray] W (DigPost r x W))) :
    Calls Tryd.prog 4 #[.agg C.toArray, .agg A2.toArray, .agg A3.toArray, .slice s len cap] w fun e w' => e = .returned (.bool true) ∧ Below w.heap.size w w' := by
  have HE0 : Seal (Env (((w.alloc (.cells C.toArray 27)).alloc (.cells A2.toArray 34)).alloc (.cells A3.toArray 35)) none 0 0 [] [(w.heap.size + 1 + 1, .cells A3.toArray 35), (w.heap.size + 1, .cells A2.toArray 34), (w.heap.size, .cells C.toArray 27)]) := ⟨by
    have h := Env.push (Env.push (Env.push (bs := []) ⟨hG, isB_nil w, by intro p hp; cases hp⟩ (.cells C.toArray 27)) (.cells A2.toArray 34)) (.cells A3.toArray 35)
    simp only [size_alloc] at h
    exact h⟩
  have HB1 : Seal (Below w.heap.size w (((w.alloc (.cells C.toArray 27)).alloc (.cells A2.toArray 34)).alloc (.cells A3.toArray 35))) := ⟨(((Below.refl _ w).alloc (Nat.le_refl _) _).alloc (by simp) _).alloc (by simp; omega) _⟩
  have ht : decide ((len : Int) ≤ 40) = true := decide_eq_true hx
  clear hG
  go_enter Tryd.func4, Tryd.ntmps4
  go_wp2_with fail
  refine (osane_any _ HE0.out.glob).mono ?_
  rintro e1 w2 ⟨rfl, hb⟩
  have HE := Seal.mk (HE0.out.below hb)
  have HB2 := Seal.mk (HB1.out.trans (hb.mono HB1.out.size))
  clear hb HE0 HB1
  go_wp2_with fail
  refine (rfew_any s len cap true w2 (by omega) ht).mono ?_
  rintro e1 w3 ⟨rfl, rfl⟩
  have R1 := Seal.mk (HE.out.keep (w.heap.size, .cells C.toArray 27) (by simp))
  have R2 := Seal.mk (HE.out.keep (w.heap.size + 1, .cells A2.toArray 34) (by simp))
  have R3 := Seal.mk (HE.out.keep (w.heap.size + 1 + 1, .cells A3.toArray 35) (by simp))
  go_wp2_with (first | (refine wpList_load_row rfl 27 (.tmp 4) rfl (w.heap.size) rfl 27 C.toArray (0, 0) _ R1.out Tryd.underlying27 rfl IC.out ?_) | (refine wpList_load_row rfl 34 (.tmp 5) rfl (w.heap.size + 1) rfl 34 A2.toArray (0, 0) _ R2.out Tryd.underlying34 rfl I2.out ?_) | (refine wpList_load_row rfl 35 (.tmp 6) rfl (w.heap.size + 1 + 1) rfl 35 A3.toArray (0, 0) _ R3.out Tryd.underlying35 rfl I3.out ?_))
  refine (HU1.out _ HE.out.glob).mono ?_
  rintro e1 w4 ⟨rfl, hb⟩
  have HE4 := Seal.mk ((HE.out.below hb).push (.cells M.toArray 39))
  have HB4 := Seal.mk ((HB2.out.trans (hb.mono HB2.out.size)).alloc (Nat.le_trans HB2.out.size hb.size) (.cells M.toArray 39))
  clear hb HE HB2 R1 R2 R3
  have R1 := Seal.mk (HE4.out.keep (w.heap.size, .cells C.toArray 27) (by simp))
  have R2 := Seal.mk (HE4.out.keep (w.heap.size + 1, .cells A2.toArray 34) (by simp))
  have R3 := Seal.mk (HE4.out.keep (w.heap.size + 1 + 1, .cells A3.toArray 35) (by simp))
  go_wp2_with (first | (refine wpList_store_new rfl 39 (.tmp 9) (.tmp 27) rfl [.int .i64 0, .int .i64 0, .int .i64 0, .int .i64 0, .int .i64 0, .int .i64 0] M 39 rfl rfl IM.out LM.out OM.out ?_) | (refine wpList_load_row rfl 27 (.tmp 4) rfl (w.heap.size) rfl 27 C.toArray (0, 0) _ R1.out Tryd.underlying27 rfl IC.out ?_) | (refine wpList_load_row rfl 34 (.tmp 5) rfl (w.heap.size + 1) rfl 34 A2.toArray (0, 0) _ R2.out Tryd.underlying34 rfl I2.out ?_) | (refine wpList_load_row rfl 35 (.tmp 6) rfl (w.heap.size + 1 + 1) rfl 35 A3.toArray (0, 0) _ R3.out Tryd.underlying35 rfl I3.out ?_))
  refine (HU2.out _ HE4.out.glob).mono ?_
  rintro e1 w5 ⟨rfl, hb⟩
  have HE5 := Seal.mk ((HE4.out.below hb).push (.cells M.toArray 39))
  have HB5 := Seal.mk ((HB4.out.trans (hb.mono HB4.out.size)).alloc (Nat.le_trans HB4.out.size hb.size) (.cells M.toArray 39))
  clear hb HE4 HB4 R1 R2 R3
  have R1 := Seal.mk (HE5.out.keep (w.heap.size, .cells C.toArray 27) (by simp))
  go_wp2_with (first | (refine wpList_store_new rfl 39 (.tmp 11) (.tmp 34) rfl [.int .i64 0, .int .i64 0, .int .i64 0, .int .i64 0, .int .i64 0, .int .i64 0] M 39 rfl rfl IM.out LM.out OM.out ?_) | (refine wpList_load_row rfl 27 (.tmp 4) rfl (w.heap.size) rfl 27 C.toArray (0, 0) _ R1.out Tryd.underlying27 rfl IC.out ?_))
  refine (HS1.out _ HE5.out.glob (hd.out.of_heap HB5.out)).mono ?_
  rintro e1 w6 ⟨a1, n1, c1, rfl, D1, hb⟩
  have HE6 := Seal.mk (HE5.out.below hb)
  have HB6 := Seal.mk (HB5.out.trans (hb.mono HB5.out.size))
  clear hb HE5 HB5 R1
  have R1 := Seal.mk (HE6.out.keep (w.heap.size, .cells C.toArray 27) (by simp))
  go_wp2_with (refine wpList_load_row rfl 27 (.tmp 4) rfl (w.heap.size) rfl 27 C.toArray (0, 0) _ R1.out Tryd.underlying27 rfl IC.out ?_)
  refine (HS2.out _ HE6.out.glob (hd.out.of_heap HB6.out)).mono ?_
  rintro e1 w7 ⟨a2, n2, c2, rfl, D2, hb⟩
  have HE7 := Seal.mk (HE6.out.below hb)
  have HB7 := Seal.mk (HB6.out.trans (hb.mono HB6.out.size))
  have D1' := Seal.mk (D1.out.of_heap hb)
  clear hb HE6 HB6 R1 D1
  have R1 := Seal.mk (HE7.out.keep (w4.heap.size, .cells M.toArray 39) (by simp))
  have R2 := Seal.mk (HE7.out.keep (w5.heap.size, .cells M.toArray 39) (by simp))
  clear HE7
  go_wp2_with (first | (refine wpList_load_row rfl 39 (.tmp 9) rfl (w4.heap.size) rfl 39 M.toArray (0, 0) _ R1.out Tryd.underlying39 rfl IMa.out ?_) | (refine wpList_load_row rfl 39 (.tmp 11) rfl (w5.heap.size) rfl 39 M.toArray (0, 0) _ R2.out Tryd.underlying39 rfl IMa.out ?_))
  refine (rsame_any a1 a2 n1 c1 n2 c2 r r w7 D1'.out D2.out).mono ?_
  rintro e1 w8 ⟨rfl, hb⟩
  have HB8 := Seal.mk (HB7.out.trans (hb.mono HB7.out.size))
  rw [show (r == r) = true from by simp]
  clear hb
  go_wp2
  go_ret
  exact ⟨by simp, HB8.out⟩

theorem law_onetimeUse (L K P Q a b r0 r1 r2 : Int) (T : Bytes) (s : Option Addr) (len cap : Nat) (l : List Bytes) (w : World) (hG : Glob w) (hL : I64 L) (hK : I64 K) (hP : I64 P) (hQ : I64 Q) (hT : T.length = 32) (hr0 : I64 r0) (hr1 : I64 r1) (hr2 : I64 r2)
    (hm : (len : Int) ≤ 9223372036854775807) (hd : len ≤ 1099511627776 → IsD w s len cap l) (ha : cap = 0 ∨ ∃ g off, s = some ⟨g, off, none⟩) :
    Calls Tryd.prog 4 #[.agg (retC L K P Q T).toArray, .agg #[.int .i64 a, .int .i64 b], .agg #[.int .i64 r0, .int .i64 r1, .int .i64 r2], .slice s len cap] w fun e w' => e = .returned (.bool true) ∧ Below w.heap.size w w' := by
  by_cases hx : (len : Int) ≤ 40
  · have hD := hd (by omega)
    obtain ⟨x0, y0, x1, y1, x2, y2, e, hU⟩ : ∃ x0 y0 x1 y1 x2 y2 e, useF (chkB L K P Q T) K P Q a b r0 r1 r2 = (x0, y0, x1, y1, x2, y2, e) := ⟨_, _, _, _, _, _, _, rfl⟩
    obtain ⟨r, x, hS⟩ : ∃ r x, spendF (chkB L K P Q T) l T 160 = (r, x) := ⟨_, _, rfl⟩
    have i2 : (Tryd.prog.info? 34).map (·.size) = some 2 := by kernel_rfl
    have i3 : (Tryd.prog.info? 35).map (·.size) = some 3 := by kernel_rfl
    have i6 : (Tryd.prog.info? 39).map (·.size) = some 6 := by kernel_rfl
    exact law_use_core (retC L K P Q T) [.int .i64 a, .int .i64 b] [.int .i64 r0, .int .i64 r1, .int .i64 r2] [.int .i64 x0, .int .i64 y0, .int .i64 x1, .int .i64 y1, .int .i64 x2, .int .i64 y2] e x l r s len cap w hG ⟨hD⟩ hx
      ⟨by rw [List.size_toArray]; exact retC_info hT⟩ ⟨i2⟩ ⟨i3⟩ ⟨i6⟩ ⟨i6⟩ ⟨rfl⟩ ⟨fun u hu => by simp at hu; rcases hu with rfl | rfl | rfl | rfl | rfl | rfl <;> rfl⟩
      (fun W => eqSe x0 y0 x1 y1 x2 y2 W)
      ⟨fun W h => ouse_any L K P Q a b r0 r1 r2 x0 y0 x1 y1 x2 y2 e T W h hL hK hP hQ hT hr0 hr1 hr2 ⟨hU⟩⟩
      ⟨fun W h => ruse_any L K P Q a b r0 r1 r2 x0 y0 x1 y1 x2 y2 e T W h hL hK hP hQ hT hr0 hr1 hr2 ⟨hU⟩⟩
      ⟨fun W h hi => ospend_any s len cap l r L K P Q x T W h hi hL hK hP hQ hT ⟨hS⟩⟩
      ⟨fun W h hi => rspend_any s len cap l r L K P Q x T W h hi ⟨ha⟩ hL hK hP hQ hT ⟨hS⟩⟩
  · exact law_use_many (retC L K P Q T).toArray _ _ s len cap w hG hm hx

open Go Go.RowKit Go.Proofs Go.ChangeShapes Go.WideShapes Go.ChangeAt
set_option maxRecDepth 100000

theorem dcells_snoc (l : List Bytes) (T : Bytes) : dcells (l ++ [T]) = dcells l ++ T.map B := by
  unfold dcells; simp

/-- a slice of digests that came in -/
theorem digests_open {H : Type} {enc : TypeId × Value → H} {W : World} {base : Nat} {v : Value} {d : DataW H} {p : List MemPlace} (hval : Value.okWide Tryd.prog W .any base 36 v) (h1 : DataW.Trod enc Tryd.prog W 0 (fun _ => true) true 36 v d p) :
    ∃ a len cap l, v = .slice a len cap ∧ (len : Int) ≤ 9223372036854775807 ∧ (len ≤ 1099511627776 → IsD W a len cap l) ∧ (cap = 0 ∨ ∃ g off, a = some ⟨g, off, none⟩) := by
  obtain ⟨a1, len, cap, rfl⟩ := okWide_slice Tryd.underlying36 hval
  obtain ⟨fuel, hf⟩ := h1
  have c1 : Tryd.prog.cellsOf 25 = 32 := by kernel_rfl
  rcases DataW.trod_slice Tryd.underlying36 hf with ⟨hcs, hx⟩ | ⟨a, len', cap', elems, rest, n, hn, hcs, hx, hb, hl, hm, hel, hat, hsp, _⟩
  · simp [Value.cells] at hcs
    obtain ⟨rfl, rfl, rfl⟩ := hcs
    exact ⟨none, 0, 0, [], rfl, by decide, fun _ => isD_nil W, .inl rfl⟩
  · simp [Value.cells] at hcs
    obtain ⟨rfl, rfl, rfl⟩ := hcs
    rw [c1] at hat hsp
    obtain ⟨hrl, hrest⟩ := hsp rfl
    unfold maxLen at hm
    have hall : ∀ i, i < cap → ∃ T : Bytes, T.length = 32 ∧ W.cells? 0 (a.add (i * 32)) 32 = some (T.map B) := fun i hi => by
      have key : ∃ e, (W.cells? 0 (a.add (i * 32)) 32).bind (DataW.trod enc Tryd.prog W 0 (fun _ => true) true n 25) = some e := by
        by_cases h : i < len
        · exact ⟨_, (hat i h).trans (List.getElem?_eq_getElem (by omega))⟩
        · have := hrest (i - len) (by omega)
          rw [show len + (i - len) = i from by omega] at this
          exact ⟨_, this.trans (List.getElem?_eq_getElem (by omega))⟩
      obtain ⟨e, he⟩ := key
      obtain ⟨cs, h1, h2⟩ := Option.bind_eq_some_iff.1 he
      obtain ⟨T, hT, rfl⟩ := cells_digest h2
      exact ⟨T, hT, h1⟩
    have hrow : ∀ m, m ≤ len → ∃ l : List Bytes, l.length = m ∧ (∀ d ∈ l, d.length = 32) ∧ ∀ j u, (dcells l)[j]? = some u → W.cell? (a.add j) = some u := by
      intro m
      induction m with
      | zero => exact fun _ => ⟨[], rfl, by simp, fun j u h => by simp [dcells] at h⟩
      | succ m ih =>
        intro hm'
        obtain ⟨l, h1, h2, h3⟩ := ih (by omega)
        obtain ⟨T, hT, hc⟩ := hall m (by omega)
        refine ⟨l ++ [T], by simp [h1], ?_, fun j u hj => ?_⟩
        · intro d hd
          rcases List.mem_append.1 hd with h | h
          · exact h2 d h
          · rw [List.mem_singleton.1 h]; exact hT
        · rw [dcells_snoc] at hj
          have hdl := dcells_length l h2
          by_cases hjl : j < m * 32
          · rw [List.getElem?_append_left (by omega)] at hj
            exact h3 j u hj
          · rw [List.getElem?_append_right (by omega), hdl, h1] at hj
            have hj32 : j - m * 32 < 32 := by have := (List.getElem?_eq_some_iff.1 hj).1; rwa [List.length_map, hT] at this
            have := (World.cells?_some hc).2.2 (j - m * 32) hj32
            rw [hj] at this
            rw [Addr.add_add, show m * 32 + (j - m * 32) = j from by omega] at this
            exact this
    obtain ⟨l, hl1, hl2, hl3⟩ := hrow len (Nat.le_refl _)
    have hspot : 0 < cap → a = ⟨a.block, a.off, none⟩ := fun h => by
      obtain ⟨T, hT, hc⟩ := hall 0 h
      have h0 := (World.cells?_some hc).2.2 0 (by decide)
      rw [List.getElem?_eq_getElem (show 0 < (T.map B).length by rw [List.length_map, hT]; decide)] at h0
      obtain ⟨ab, ao, spot⟩ := a
      have hspot : spot = none := by simpa [Addr.add] using World.cell?_spot h0
      rw [hspot]
    refine ⟨some a, len, cap, l, rfl, by omega, fun h40 => ⟨hl1, hl, h40, by omega, hl2, ?_⟩, ?_⟩
    · rcases Nat.eq_zero_or_pos len with h0 | h0
      · exact .inl h0
      · right
        have ea := hspot (by omega)
        obtain ⟨T, hT, hc⟩ := hall 0 (by omega)
        refine ⟨a.block, a.off, by rw [← ea], fun j u hu => ?_, ?_⟩
        · have := hl3 j u hu
          rw [ea, Addr.add_mid] at this
          exact this
        · have h0 := (World.cells?_some hc).2.2 0 (by decide)
          rw [List.getElem?_eq_getElem (show 0 < (T.map B).length by rw [List.length_map, hT]; decide), ea, Addr.add_add, Addr.add_mid] at h0
          have := block_lt_of_cell h0
          exact this
    · rcases Nat.eq_zero_or_pos cap with h0 | h0
      · exact .inl h0
      · exact .inr ⟨a.block, a.off, by rw [← hspot h0]⟩

theorem okWide_array' {w : World} {r : Reach} {base n : Nat} {t e : TypeId} {v : Value} (ht : Tryd.prog.underlying t = some (.array n e)) (h : Value.okWide Tryd.prog w r base t v) : ∃ cs, v = .agg cs ∧ cs.size = Tryd.prog.cellsOf t := by
  simp only [Value.okWide, ht] at h
  obtain ⟨cs, h1, h2, _⟩ := h
  exact ⟨cs, h1, h2⟩

theorem two_open {H : Type} {enc : TypeId × Value → H} {W : World} {base : Nat} {v : Value} {d : DataW H} {p : List MemPlace} (hval : Value.okWide Tryd.prog W .any base 34 v) (h1 : DataW.Trod enc Tryd.prog W 0 (fun _ => true) true 34 v d p) :
    ∃ x y, v = .agg #[.int .i64 x, .int .i64 y] ∧ I64 x ∧ I64 y := by
  obtain ⟨cs, rfl, hsz⟩ := okWide_array' Tryd.underlying34 hval
  obtain ⟨fuel, hf⟩ := h1
  obtain ⟨zs, hl, e, hw⟩ := cells_ints Tryd.underlying34 Tryd.underlying3 (by kernel_rfl) (by kernel_rfl) hf
  match zs, hl with
  | [x, y], _ =>
    have e' : cs.toList = [.int .i64 x, .int .i64 y] := e
    exact ⟨x, y, by rw [← e'], i64_wf (hw x (by simp)), i64_wf (hw y (by simp))⟩

theorem three_open {H : Type} {enc : TypeId × Value → H} {W : World} {base : Nat} {v : Value} {d : DataW H} {p : List MemPlace} (hval : Value.okWide Tryd.prog W .any base 35 v) (h1 : DataW.Trod enc Tryd.prog W 0 (fun _ => true) true 35 v d p) :
    ∃ x y z, v = .agg #[.int .i64 x, .int .i64 y, .int .i64 z] ∧ I64 x ∧ I64 y ∧ I64 z := by
  obtain ⟨cs, rfl, hsz⟩ := okWide_array' Tryd.underlying35 hval
  obtain ⟨fuel, hf⟩ := h1
  obtain ⟨zs, hl, e, hw⟩ := cells_ints Tryd.underlying35 Tryd.underlying3 (by kernel_rfl) (by kernel_rfl) hf
  match zs, hl with
  | [x, y, z], _ =>
    have e' : cs.toList = [.int .i64 x, .int .i64 y, .int .i64 z] := e
    exact ⟨x, y, z, by rw [← e'], i64_wf (hw x (by simp)), i64_wf (hw y (by simp)), i64_wf (hw z (by simp))⟩
end Frk
