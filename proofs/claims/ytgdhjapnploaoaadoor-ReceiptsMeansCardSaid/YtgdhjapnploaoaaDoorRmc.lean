/- The statement ReceiptsMeans of frankinglaw43 holds: for every input the law returns true, and each argument reads afterwards as it read before. Conditions: those of the row (the listed variables start as the program's text lays them; the card ties them). -/
import Derived.Test.YtgdhjapnploaoaaDoorRcz
import Derived.Test.YtgdhjapnploaoaaDoorRop
import Derived.Test.YtgdhjapnploaoaaDoorHol
namespace Frk
open Go Go.RowKit Go.Proofs
set_option maxRecDepth 100000

theorem leaves3 (a b c : Int) (w : World) : LeavesAt (w.alloc (.cells #[.int .i64 1, .int .i64 a, .string ⟨#[]⟩, .slice none 0 0, .int .i64 1, .int .i64 b, .string ⟨#[]⟩, .slice none 0 0, .int .i64 1, .int .i64 c, .string ⟨#[]⟩, .slice none 0 0] 43)) w.heap.size 0 (lfs [a, b, c]) := by
  intro k x hx j v hv
  rw [cell_of_row _ _ _ _ _ _ (heap_alloc_new w _)]
  match k, hx with
  | 0, hx => 
    simp [lfs] at hx
    subst hx
    match j, hv with
    | 0, hv => exact hv
    | 1, hv => exact hv
    | 2, hv => exact hv
    | 3, hv => exact hv
    | j + 4, hv => simp [Lf.cells] at hv
  | 1, hx =>
    simp [lfs] at hx
    subst hx
    match j, hv with
    | 0, hv => exact hv
    | 1, hv => exact hv
    | 2, hv => exact hv
    | 3, hv => exact hv
    | j + 4, hv => simp [Lf.cells] at hv
  | 2, hx =>
    simp [lfs] at hx
    subst hx
    match j, hv with
    | 0, hv => exact hv
    | 1, hv => exact hv
    | 2, hv => exact hv
    | 3, hv => exact hv
    | j + 4, hv => simp [Lf.cells] at hv
  | k + 3, hx => simp [lfs] at hx

/-- codec.Encode of a list of three integers, as a law spells it -/
theorem encode3_any (a b c : Int) (w : World) (ha : I64 a) (hb : I64 b) (hc : I64 c) :
    Calls Tryd.prog 14 #[.agg #[.int .i64 3, .int .i64 0, .string ⟨#[]⟩, .slice (some ⟨w.heap.size, 0, none⟩) 3 3]] (w.alloc (.cells #[.int .i64 1, .int .i64 a, .string ⟨#[]⟩, .slice none 0 0, .int .i64 1, .int .i64 b, .string ⟨#[]⟩, .slice none 0 0, .int .i64 1, .int .i64 c, .string ⟨#[]⟩, .slice none 0 0] 43)) fun e w' => ∃ g n cap, e = .returned (.tuple #[.slice (some ⟨g, 0, none⟩) n cap, .int .i64 0]) ∧ IsB w' (some ⟨g, 0, none⟩) n cap (rcT a b c) ∧ n ≤ 1099511627776 ∧ Below w.heap.size w w' := by
  have hL := rcT_len a b c
  refine (encode_any w.heap.size 0 3 3 (lfs [a, b, c]) (w.alloc (.cells #[.int .i64 1, .int .i64 a, .string ⟨#[]⟩, .slice none 0 0, .int .i64 1, .int .i64 b, .string ⟨#[]⟩, .slice none 0 0, .int .i64 1, .int .i64 c, .string ⟨#[]⟩, .slice none 0 0] 43)) rfl (Nat.le_refl _) (by rw [wgts_lfs]; simp) (by decide) (leaves3 a b c w) (by simp) (fun y hy => ?_)).mono ?_
  · simp only [lfs, List.map_cons, List.map_nil, List.mem_cons, List.not_mem_nil, or_false] at hy
    rcases hy with rfl | rfl | rfl <;> assumption
  · rintro e w' ⟨g', n', c', hn, rfl, hf⟩
    have e1 : (encL (lfs [a, b, c])) = rcT a b c := rfl
    rw [e1] at hn hf
    refine ⟨g', n', c', rfl, ⟨hn.out, hf.out.1, by have := hn.out; omega, hf.out.2.1, .inr ⟨g', 0, rfl, hf.out.2.2.2.1, hf.out.2.2.1⟩⟩, by have := hn.out; omega, (below_alloc w _).trans (hf.out.2.2.2.2.mono (by simp))⟩


set_option maxHeartbeats 8000000 in
theorem means_in (key a b c x y z o : Int) (t : Bool) (w : World) (hG : Glob w) (y1 : 1 ≤ y) (y2 : y ≤ 1073741789) (z1 : 1 ≤ z) (z2 : z ≤ 1073741789) (ha : Seal (I64 a)) (hb : Seal (I64 b)) (hc : Seal (I64 c))
    (HC1 : Seal (∀ W, Glob W → Calls Tryd.prog 12 #[.int .i64 key, .agg #[.int .i64 a, .int .i64 b, .int .i64 c], .agg #[.int .i64 x, .int .i64 y, .int .i64 z]] W fun e w' => e = .returned (.bool t) ∧ Below W.heap.size W w'))
    (HC2 : Seal (∀ W, Glob W → Calls Tryd.prog 12 #[.int .i64 key, .agg #[.int .i64 a, .int .i64 b, .int .i64 c], .agg #[.int .i64 o, .int .i64 y, .int .i64 z]] W fun e w' => e = .returned (.bool t) ∧ Below W.heap.size W w'))
    (HC3 : Seal (∀ W g n cap, Glob W → IsB W g n cap (rcT a b c) → n ≤ 1099511627776 → Calls Tryd.prog 15 #[.int .i64 key, .slice g n cap, .agg #[.int .i64 (y - 1), .int .i64 (z - 1)]] W fun e w' => e = .returned (.bool t) ∧ Below W.heap.size W w')) :
    Calls Tryd.prog 5 #[.int .i64 key, .agg #[.int .i64 a, .int .i64 b, .int .i64 c], .agg #[.int .i64 x, .int .i64 y, .int .i64 z], .int .i64 o] w fun e w' => e = .returned (.bool true) ∧ Below w.heap.size w w' := by
  have IW := Seal.mk (show (Tryd.prog.info? 23).map (·.size) = some 3 by kernel_rfl)
  have HE1 : Seal (Env ((w.alloc (.cells #[.int .i64 a, .int .i64 b, .int .i64 c] 23)).alloc (.cells #[.int .i64 x, .int .i64 y, .int .i64 z] 23)) none 0 0 [] [(w.heap.size + 1, .cells #[.int .i64 x, .int .i64 y, .int .i64 z] 23), (w.heap.size, .cells #[.int .i64 a, .int .i64 b, .int .i64 c] 23)]) := ⟨by
    have h1 := Env.push (bs := []) ⟨hG, isB_nil w, by intro p hp; cases hp⟩ (.cells #[.int .i64 a, .int .i64 b, .int .i64 c] 23)
    have h2 := h1.push (.cells #[.int .i64 x, .int .i64 y, .int .i64 z] 23)
    rw [size_alloc] at h2
    exact h2⟩
  have HB1 : Seal (Below w.heap.size w ((w.alloc (.cells #[.int .i64 a, .int .i64 b, .int .i64 c] 23)).alloc (.cells #[.int .i64 x, .int .i64 y, .int .i64 z] 23))) := ⟨((Below.refl _ w).alloc (Nat.le_refl _) _).alloc (by simp) _⟩
  clear hG
  go_enter Tryd.func5, Tryd.ntmps5
  go_wp2_with fail
  refine (rcsane_any _ HE1.out.glob).mono ?_
  rintro e w2 ⟨rfl, hbb⟩
  have HE2 := Seal.mk (HE1.out.below hbb)
  have HB2 := Seal.mk (HB1.out.trans (hbb.mono HB1.out.size))
  clear hbb HE1 HB1
  go_wp2_with (first | (refine wpList_load_row rfl 23 (.tmp 5) rfl (w.heap.size) rfl 23 #[.int .i64 a, .int .i64 b, .int .i64 c] (0, 0) _ (HE2.out.keep (w.heap.size, .cells #[.int .i64 a, .int .i64 b, .int .i64 c] 23) (by simp)) Tryd.underlying23 rfl IW.out ?_) | (refine wpList_load_row rfl 23 (.tmp 6) rfl (w.heap.size + 1) rfl 23 #[.int .i64 x, .int .i64 y, .int .i64 z] (0, 0) _ (HE2.out.keep (w.heap.size + 1, .cells #[.int .i64 x, .int .i64 y, .int .i64 z] 23) (by simp)) Tryd.underlying23 rfl IW.out ?_))
  refine (HC1.out _ HE2.out.glob).mono ?_
  rintro e w3 ⟨rfl, hbb⟩
  have HE3 := Seal.mk (((HE2.out.below hbb).push (.cells #[.int .i64 o, .int .i64 y, .int .i64 z] 23)))
  have HE3' := Seal.mk (HE2.out.below hbb)
  have HB3 := Seal.mk ((HB2.out.trans (hbb.mono HB2.out.size)).alloc (Nat.le_trans HB2.out.size hbb.size) (.cells #[.int .i64 o, .int .i64 y, .int .i64 z] 23))
  clear hbb HE2 HB2
  go_wp2_with (first | (refine wpList_load_row rfl 23 (.tmp 5) rfl (w.heap.size) rfl 23 #[.int .i64 a, .int .i64 b, .int .i64 c] (0, 0) _ (HE3.out.keep (w.heap.size, .cells #[.int .i64 a, .int .i64 b, .int .i64 c] 23) (by simp)) Tryd.underlying23 rfl IW.out ?_) | (refine wpList_load_row rfl 23 (.tmp 6) rfl (w.heap.size + 1) rfl 23 #[.int .i64 x, .int .i64 y, .int .i64 z] (0, 0) _ (HE3.out.keep (w.heap.size + 1, .cells #[.int .i64 x, .int .i64 y, .int .i64 z] 23) (by simp)) Tryd.underlying23 rfl IW.out ?_) | (refine wpList_load_row rfl 23 (.tmp 5) rfl (w.heap.size) rfl 23 #[.int .i64 a, .int .i64 b, .int .i64 c] (0, 0) _ (HE3'.out.keep (w.heap.size, .cells #[.int .i64 a, .int .i64 b, .int .i64 c] 23) (by simp)) Tryd.underlying23 rfl IW.out ?_) | (refine wpList_load_row rfl 23 (.tmp 6) rfl (w.heap.size + 1) rfl 23 #[.int .i64 x, .int .i64 y, .int .i64 z] (0, 0) _ (HE3'.out.keep (w.heap.size + 1, .cells #[.int .i64 x, .int .i64 y, .int .i64 z] 23) (by simp)) Tryd.underlying23 rfl IW.out ?_))
  refine (HC2.out _ HE3.out.glob).mono ?_
  rintro e Y ⟨rfl, hbb⟩
  have HE4 := Seal.mk (HE3.out.below hbb)
  have HB4 := Seal.mk (HB3.out.trans (hbb.mono HB3.out.size))
  have ra := HE4.out.keep (w.heap.size, .cells #[.int .i64 a, .int .i64 b, .int .i64 c] 23) (by simp)
  have rd := HE4.out.keep (w.heap.size + 1, .cells #[.int .i64 x, .int .i64 y, .int .i64 z] 23) (by simp)
  have a0 := (cell_of_row _ _ 0 _ _ _ ra).trans (show _ = some (Value.int .i64 a) from rfl)
  have a1 := (cell_of_row _ _ 1 _ _ _ ra).trans (show _ = some (Value.int .i64 b) from rfl)
  have a2 := (cell_of_row _ _ 2 _ _ _ ra).trans (show _ = some (Value.int .i64 c) from rfl)
  have d1 := (cell_of_row _ _ 1 _ _ _ rd).trans (show _ = some (Value.int .i64 y) from rfl)
  have d2 := (cell_of_row _ _ 2 _ _ _ rd).trans (show _ = some (Value.int .i64 z) from rfl)
  dsimp only at a0 a1 a2 d1 d2
  clear hbb HE3 HE3' HB3 ra rd
  have HN := Seal.mk (encode3_any a b c Y ha.out hb.out hc.out)
  clear ha hb hc
  cases t
  ·
    go_wp2_with fail
    refine HN.out.mono ?_
    rintro e w5 ⟨g', n', c', rfl, hI, hn, hb⟩
    have HB5 := Seal.mk (HB4.out.trans (hb.mono HB4.out.size))
    have HV := Seal.mk (HC3.out w5 (some ⟨g', 0, none⟩) n' c' (HE4.out.glob.below hb) hI hn)
    have a1 := cell_later hb d1
    have a2 := cell_later hb d2
    clear hb hI hn d1 d2 HN a0
    go_wp2_with fail
    refine HV.out.mono ?_
    rintro e w6 ⟨rfl, hb⟩
    have HB6 := Seal.mk (HB5.out.trans (hb.mono HB5.out.size))
    clear hb HV
    go_wp2
    go_ret
    exact ⟨rfl, HB6.out⟩
  ·
    go_wp2_with fail
    refine HN.out.mono ?_
    rintro e w5 ⟨g', n', c', rfl, hI, hn, hb⟩
    have HB5 := Seal.mk (HB4.out.trans (hb.mono HB4.out.size))
    have HV := Seal.mk (HC3.out w5 (some ⟨g', 0, none⟩) n' c' (HE4.out.glob.below hb) hI hn)
    have a1 := cell_later hb d1
    have a2 := cell_later hb d2
    clear hb hI hn d1 d2 HN a0
    go_wp2_with fail
    refine HV.out.mono ?_
    rintro e w6 ⟨rfl, hb⟩
    have HB6 := Seal.mk (HB5.out.trans (hb.mono HB5.out.size))
    clear hb HV
    go_wp2
    go_ret
    exact ⟨rfl, HB6.out⟩

set_option maxHeartbeats 8000000 in
theorem means_out (key a b c x y z o : Int) (w : World) (hG : Glob w) (hyz : y < 1 ∨ 1073741789 < y ∨ z < 1 ∨ 1073741789 < z)
    (HC1 : Seal (∀ W, Glob W → Calls Tryd.prog 12 #[.int .i64 key, .agg #[.int .i64 a, .int .i64 b, .int .i64 c], .agg #[.int .i64 x, .int .i64 y, .int .i64 z]] W fun e w' => e = .returned (.bool false) ∧ Below W.heap.size W w'))
    (HC2 : Seal (∀ W, Glob W → Calls Tryd.prog 12 #[.int .i64 key, .agg #[.int .i64 a, .int .i64 b, .int .i64 c], .agg #[.int .i64 o, .int .i64 y, .int .i64 z]] W fun e w' => e = .returned (.bool false) ∧ Below W.heap.size W w')) :
    Calls Tryd.prog 5 #[.int .i64 key, .agg #[.int .i64 a, .int .i64 b, .int .i64 c], .agg #[.int .i64 x, .int .i64 y, .int .i64 z], .int .i64 o] w fun e w' => e = .returned (.bool true) ∧ Below w.heap.size w w' := by
  by_cases y1 : y < 1
  · clear hyz
    have IW := Seal.mk (show (Tryd.prog.info? 23).map (·.size) = some 3 by kernel_rfl)
    have HE1 : Seal (Env ((w.alloc (.cells #[.int .i64 a, .int .i64 b, .int .i64 c] 23)).alloc (.cells #[.int .i64 x, .int .i64 y, .int .i64 z] 23)) none 0 0 [] [(w.heap.size + 1, .cells #[.int .i64 x, .int .i64 y, .int .i64 z] 23), (w.heap.size, .cells #[.int .i64 a, .int .i64 b, .int .i64 c] 23)]) := ⟨by
      have h1 := Env.push (bs := []) ⟨hG, isB_nil w, by intro p hp; cases hp⟩ (.cells #[.int .i64 a, .int .i64 b, .int .i64 c] 23)
      have h2 := h1.push (.cells #[.int .i64 x, .int .i64 y, .int .i64 z] 23)
      rw [size_alloc] at h2
      exact h2⟩
    have HB1 : Seal (Below w.heap.size w ((w.alloc (.cells #[.int .i64 a, .int .i64 b, .int .i64 c] 23)).alloc (.cells #[.int .i64 x, .int .i64 y, .int .i64 z] 23))) := ⟨((Below.refl _ w).alloc (Nat.le_refl _) _).alloc (by simp) _⟩
    clear hG
    go_enter Tryd.func5, Tryd.ntmps5
    go_wp2_with fail
    refine (rcsane_any _ HE1.out.glob).mono ?_
    rintro e w2 ⟨rfl, hbb⟩
    have HE2 := Seal.mk (HE1.out.below hbb)
    have HB2 := Seal.mk (HB1.out.trans (hbb.mono HB1.out.size))
    clear hbb HE1 HB1
    go_wp2_with (first | (refine wpList_load_row rfl 23 (.tmp 5) rfl (w.heap.size) rfl 23 #[.int .i64 a, .int .i64 b, .int .i64 c] (0, 0) _ (HE2.out.keep (w.heap.size, .cells #[.int .i64 a, .int .i64 b, .int .i64 c] 23) (by simp)) Tryd.underlying23 rfl IW.out ?_) | (refine wpList_load_row rfl 23 (.tmp 6) rfl (w.heap.size + 1) rfl 23 #[.int .i64 x, .int .i64 y, .int .i64 z] (0, 0) _ (HE2.out.keep (w.heap.size + 1, .cells #[.int .i64 x, .int .i64 y, .int .i64 z] 23) (by simp)) Tryd.underlying23 rfl IW.out ?_))
    refine (HC1.out _ HE2.out.glob).mono ?_
    rintro e w3 ⟨rfl, hbb⟩
    have HE3 := Seal.mk (((HE2.out.below hbb).push (.cells #[.int .i64 o, .int .i64 y, .int .i64 z] 23)))
    have HE3' := Seal.mk (HE2.out.below hbb)
    have HB3 := Seal.mk ((HB2.out.trans (hbb.mono HB2.out.size)).alloc (Nat.le_trans HB2.out.size hbb.size) (.cells #[.int .i64 o, .int .i64 y, .int .i64 z] 23))
    clear hbb HE2 HB2
    go_wp2_with (first | (refine wpList_load_row rfl 23 (.tmp 5) rfl (w.heap.size) rfl 23 #[.int .i64 a, .int .i64 b, .int .i64 c] (0, 0) _ (HE3.out.keep (w.heap.size, .cells #[.int .i64 a, .int .i64 b, .int .i64 c] 23) (by simp)) Tryd.underlying23 rfl IW.out ?_) | (refine wpList_load_row rfl 23 (.tmp 6) rfl (w.heap.size + 1) rfl 23 #[.int .i64 x, .int .i64 y, .int .i64 z] (0, 0) _ (HE3.out.keep (w.heap.size + 1, .cells #[.int .i64 x, .int .i64 y, .int .i64 z] 23) (by simp)) Tryd.underlying23 rfl IW.out ?_) | (refine wpList_load_row rfl 23 (.tmp 5) rfl (w.heap.size) rfl 23 #[.int .i64 a, .int .i64 b, .int .i64 c] (0, 0) _ (HE3'.out.keep (w.heap.size, .cells #[.int .i64 a, .int .i64 b, .int .i64 c] 23) (by simp)) Tryd.underlying23 rfl IW.out ?_) | (refine wpList_load_row rfl 23 (.tmp 6) rfl (w.heap.size + 1) rfl 23 #[.int .i64 x, .int .i64 y, .int .i64 z] (0, 0) _ (HE3'.out.keep (w.heap.size + 1, .cells #[.int .i64 x, .int .i64 y, .int .i64 z] 23) (by simp)) Tryd.underlying23 rfl IW.out ?_))
    refine (HC2.out _ HE3.out.glob).mono ?_
    rintro e Y ⟨rfl, hbb⟩
    have HE4 := Seal.mk (HE3.out.below hbb)
    have HB4 := Seal.mk (HB3.out.trans (hbb.mono HB3.out.size))
    have ra := HE4.out.keep (w.heap.size, .cells #[.int .i64 a, .int .i64 b, .int .i64 c] 23) (by simp)
    have rd := HE4.out.keep (w.heap.size + 1, .cells #[.int .i64 x, .int .i64 y, .int .i64 z] 23) (by simp)
    have a0 := (cell_of_row _ _ 0 _ _ _ ra).trans (show _ = some (Value.int .i64 a) from rfl)
    have a1 := (cell_of_row _ _ 1 _ _ _ ra).trans (show _ = some (Value.int .i64 b) from rfl)
    have a2 := (cell_of_row _ _ 2 _ _ _ ra).trans (show _ = some (Value.int .i64 c) from rfl)
    have d1 := (cell_of_row _ _ 1 _ _ _ rd).trans (show _ = some (Value.int .i64 y) from rfl)
    have d2 := (cell_of_row _ _ 2 _ _ _ rd).trans (show _ = some (Value.int .i64 z) from rfl)
    dsimp only at a0 a1 a2 d1 d2
    clear hbb HE3 HE3' HB3 ra rd
    clear a0 a1 a2
    go_wp2
    go_ret
    exact ⟨rfl, HB4.out⟩
  · by_cases y2 : 1073741789 < y
    · clear hyz
      have IW := Seal.mk (show (Tryd.prog.info? 23).map (·.size) = some 3 by kernel_rfl)
      have HE1 : Seal (Env ((w.alloc (.cells #[.int .i64 a, .int .i64 b, .int .i64 c] 23)).alloc (.cells #[.int .i64 x, .int .i64 y, .int .i64 z] 23)) none 0 0 [] [(w.heap.size + 1, .cells #[.int .i64 x, .int .i64 y, .int .i64 z] 23), (w.heap.size, .cells #[.int .i64 a, .int .i64 b, .int .i64 c] 23)]) := ⟨by
        have h1 := Env.push (bs := []) ⟨hG, isB_nil w, by intro p hp; cases hp⟩ (.cells #[.int .i64 a, .int .i64 b, .int .i64 c] 23)
        have h2 := h1.push (.cells #[.int .i64 x, .int .i64 y, .int .i64 z] 23)
        rw [size_alloc] at h2
        exact h2⟩
      have HB1 : Seal (Below w.heap.size w ((w.alloc (.cells #[.int .i64 a, .int .i64 b, .int .i64 c] 23)).alloc (.cells #[.int .i64 x, .int .i64 y, .int .i64 z] 23))) := ⟨((Below.refl _ w).alloc (Nat.le_refl _) _).alloc (by simp) _⟩
      clear hG
      go_enter Tryd.func5, Tryd.ntmps5
      go_wp2_with fail
      refine (rcsane_any _ HE1.out.glob).mono ?_
      rintro e w2 ⟨rfl, hbb⟩
      have HE2 := Seal.mk (HE1.out.below hbb)
      have HB2 := Seal.mk (HB1.out.trans (hbb.mono HB1.out.size))
      clear hbb HE1 HB1
      go_wp2_with (first | (refine wpList_load_row rfl 23 (.tmp 5) rfl (w.heap.size) rfl 23 #[.int .i64 a, .int .i64 b, .int .i64 c] (0, 0) _ (HE2.out.keep (w.heap.size, .cells #[.int .i64 a, .int .i64 b, .int .i64 c] 23) (by simp)) Tryd.underlying23 rfl IW.out ?_) | (refine wpList_load_row rfl 23 (.tmp 6) rfl (w.heap.size + 1) rfl 23 #[.int .i64 x, .int .i64 y, .int .i64 z] (0, 0) _ (HE2.out.keep (w.heap.size + 1, .cells #[.int .i64 x, .int .i64 y, .int .i64 z] 23) (by simp)) Tryd.underlying23 rfl IW.out ?_))
      refine (HC1.out _ HE2.out.glob).mono ?_
      rintro e w3 ⟨rfl, hbb⟩
      have HE3 := Seal.mk (((HE2.out.below hbb).push (.cells #[.int .i64 o, .int .i64 y, .int .i64 z] 23)))
      have HE3' := Seal.mk (HE2.out.below hbb)
      have HB3 := Seal.mk ((HB2.out.trans (hbb.mono HB2.out.size)).alloc (Nat.le_trans HB2.out.size hbb.size) (.cells #[.int .i64 o, .int .i64 y, .int .i64 z] 23))
      clear hbb HE2 HB2
      go_wp2_with (first | (refine wpList_load_row rfl 23 (.tmp 5) rfl (w.heap.size) rfl 23 #[.int .i64 a, .int .i64 b, .int .i64 c] (0, 0) _ (HE3.out.keep (w.heap.size, .cells #[.int .i64 a, .int .i64 b, .int .i64 c] 23) (by simp)) Tryd.underlying23 rfl IW.out ?_) | (refine wpList_load_row rfl 23 (.tmp 6) rfl (w.heap.size + 1) rfl 23 #[.int .i64 x, .int .i64 y, .int .i64 z] (0, 0) _ (HE3.out.keep (w.heap.size + 1, .cells #[.int .i64 x, .int .i64 y, .int .i64 z] 23) (by simp)) Tryd.underlying23 rfl IW.out ?_) | (refine wpList_load_row rfl 23 (.tmp 5) rfl (w.heap.size) rfl 23 #[.int .i64 a, .int .i64 b, .int .i64 c] (0, 0) _ (HE3'.out.keep (w.heap.size, .cells #[.int .i64 a, .int .i64 b, .int .i64 c] 23) (by simp)) Tryd.underlying23 rfl IW.out ?_) | (refine wpList_load_row rfl 23 (.tmp 6) rfl (w.heap.size + 1) rfl 23 #[.int .i64 x, .int .i64 y, .int .i64 z] (0, 0) _ (HE3'.out.keep (w.heap.size + 1, .cells #[.int .i64 x, .int .i64 y, .int .i64 z] 23) (by simp)) Tryd.underlying23 rfl IW.out ?_))
      refine (HC2.out _ HE3.out.glob).mono ?_
      rintro e Y ⟨rfl, hbb⟩
      have HE4 := Seal.mk (HE3.out.below hbb)
      have HB4 := Seal.mk (HB3.out.trans (hbb.mono HB3.out.size))
      have ra := HE4.out.keep (w.heap.size, .cells #[.int .i64 a, .int .i64 b, .int .i64 c] 23) (by simp)
      have rd := HE4.out.keep (w.heap.size + 1, .cells #[.int .i64 x, .int .i64 y, .int .i64 z] 23) (by simp)
      have a0 := (cell_of_row _ _ 0 _ _ _ ra).trans (show _ = some (Value.int .i64 a) from rfl)
      have a1 := (cell_of_row _ _ 1 _ _ _ ra).trans (show _ = some (Value.int .i64 b) from rfl)
      have a2 := (cell_of_row _ _ 2 _ _ _ ra).trans (show _ = some (Value.int .i64 c) from rfl)
      have d1 := (cell_of_row _ _ 1 _ _ _ rd).trans (show _ = some (Value.int .i64 y) from rfl)
      have d2 := (cell_of_row _ _ 2 _ _ _ rd).trans (show _ = some (Value.int .i64 z) from rfl)
      dsimp only at a0 a1 a2 d1 d2
      clear hbb HE3 HE3' HB3 ra rd
      clear a0 a1 a2
      go_wp2
      go_ret
      exact ⟨rfl, HB4.out⟩
    · by_cases z1 : z < 1
      · clear hyz
        have IW := Seal.mk (show (Tryd.prog.info? 23).map (·.size) = some 3 by kernel_rfl)
        have HE1 : Seal (Env ((w.alloc (.cells #[.int .i64 a, .int .i64 b, .int .i64 c] 23)).alloc (.cells #[.int .i64 x, .int .i64 y, .int .i64 z] 23)) none 0 0 [] [(w.heap.size + 1, .cells #[.int .i64 x, .int .i64 y, .int .i64 z] 23), (w.heap.size, .cells #[.int .i64 a, .int .i64 b, .int .i64 c] 23)]) := ⟨by
          have h1 := Env.push (bs := []) ⟨hG, isB_nil w, by intro p hp; cases hp⟩ (.cells #[.int .i64 a, .int .i64 b, .int .i64 c] 23)
          have h2 := h1.push (.cells #[.int .i64 x, .int .i64 y, .int .i64 z] 23)
          rw [size_alloc] at h2
          exact h2⟩
        have HB1 : Seal (Below w.heap.size w ((w.alloc (.cells #[.int .i64 a, .int .i64 b, .int .i64 c] 23)).alloc (.cells #[.int .i64 x, .int .i64 y, .int .i64 z] 23))) := ⟨((Below.refl _ w).alloc (Nat.le_refl _) _).alloc (by simp) _⟩
        clear hG
        go_enter Tryd.func5, Tryd.ntmps5
        go_wp2_with fail
        refine (rcsane_any _ HE1.out.glob).mono ?_
        rintro e w2 ⟨rfl, hbb⟩
        have HE2 := Seal.mk (HE1.out.below hbb)
        have HB2 := Seal.mk (HB1.out.trans (hbb.mono HB1.out.size))
        clear hbb HE1 HB1
        go_wp2_with (first | (refine wpList_load_row rfl 23 (.tmp 5) rfl (w.heap.size) rfl 23 #[.int .i64 a, .int .i64 b, .int .i64 c] (0, 0) _ (HE2.out.keep (w.heap.size, .cells #[.int .i64 a, .int .i64 b, .int .i64 c] 23) (by simp)) Tryd.underlying23 rfl IW.out ?_) | (refine wpList_load_row rfl 23 (.tmp 6) rfl (w.heap.size + 1) rfl 23 #[.int .i64 x, .int .i64 y, .int .i64 z] (0, 0) _ (HE2.out.keep (w.heap.size + 1, .cells #[.int .i64 x, .int .i64 y, .int .i64 z] 23) (by simp)) Tryd.underlying23 rfl IW.out ?_))
        refine (HC1.out _ HE2.out.glob).mono ?_
        rintro e w3 ⟨rfl, hbb⟩
        have HE3 := Seal.mk (((HE2.out.below hbb).push (.cells #[.int .i64 o, .int .i64 y, .int .i64 z] 23)))
        have HE3' := Seal.mk (HE2.out.below hbb)
        have HB3 := Seal.mk ((HB2.out.trans (hbb.mono HB2.out.size)).alloc (Nat.le_trans HB2.out.size hbb.size) (.cells #[.int .i64 o, .int .i64 y, .int .i64 z] 23))
        clear hbb HE2 HB2
        go_wp2_with (first | (refine wpList_load_row rfl 23 (.tmp 5) rfl (w.heap.size) rfl 23 #[.int .i64 a, .int .i64 b, .int .i64 c] (0, 0) _ (HE3.out.keep (w.heap.size, .cells #[.int .i64 a, .int .i64 b, .int .i64 c] 23) (by simp)) Tryd.underlying23 rfl IW.out ?_) | (refine wpList_load_row rfl 23 (.tmp 6) rfl (w.heap.size + 1) rfl 23 #[.int .i64 x, .int .i64 y, .int .i64 z] (0, 0) _ (HE3.out.keep (w.heap.size + 1, .cells #[.int .i64 x, .int .i64 y, .int .i64 z] 23) (by simp)) Tryd.underlying23 rfl IW.out ?_) | (refine wpList_load_row rfl 23 (.tmp 5) rfl (w.heap.size) rfl 23 #[.int .i64 a, .int .i64 b, .int .i64 c] (0, 0) _ (HE3'.out.keep (w.heap.size, .cells #[.int .i64 a, .int .i64 b, .int .i64 c] 23) (by simp)) Tryd.underlying23 rfl IW.out ?_) | (refine wpList_load_row rfl 23 (.tmp 6) rfl (w.heap.size + 1) rfl 23 #[.int .i64 x, .int .i64 y, .int .i64 z] (0, 0) _ (HE3'.out.keep (w.heap.size + 1, .cells #[.int .i64 x, .int .i64 y, .int .i64 z] 23) (by simp)) Tryd.underlying23 rfl IW.out ?_))
        refine (HC2.out _ HE3.out.glob).mono ?_
        rintro e Y ⟨rfl, hbb⟩
        have HE4 := Seal.mk (HE3.out.below hbb)
        have HB4 := Seal.mk (HB3.out.trans (hbb.mono HB3.out.size))
        have ra := HE4.out.keep (w.heap.size, .cells #[.int .i64 a, .int .i64 b, .int .i64 c] 23) (by simp)
        have rd := HE4.out.keep (w.heap.size + 1, .cells #[.int .i64 x, .int .i64 y, .int .i64 z] 23) (by simp)
        have a0 := (cell_of_row _ _ 0 _ _ _ ra).trans (show _ = some (Value.int .i64 a) from rfl)
        have a1 := (cell_of_row _ _ 1 _ _ _ ra).trans (show _ = some (Value.int .i64 b) from rfl)
        have a2 := (cell_of_row _ _ 2 _ _ _ ra).trans (show _ = some (Value.int .i64 c) from rfl)
        have d1 := (cell_of_row _ _ 1 _ _ _ rd).trans (show _ = some (Value.int .i64 y) from rfl)
        have d2 := (cell_of_row _ _ 2 _ _ _ rd).trans (show _ = some (Value.int .i64 z) from rfl)
        dsimp only at a0 a1 a2 d1 d2
        clear hbb HE3 HE3' HB3 ra rd
        clear a0 a1 a2
        go_wp2
        go_ret
        exact ⟨rfl, HB4.out⟩
      · have z2 : 1073741789 < z := by omega
        clear hyz
        have IW := Seal.mk (show (Tryd.prog.info? 23).map (·.size) = some 3 by kernel_rfl)
        have HE1 : Seal (Env ((w.alloc (.cells #[.int .i64 a, .int .i64 b, .int .i64 c] 23)).alloc (.cells #[.int .i64 x, .int .i64 y, .int .i64 z] 23)) none 0 0 [] [(w.heap.size + 1, .cells #[.int .i64 x, .int .i64 y, .int .i64 z] 23), (w.heap.size, .cells #[.int .i64 a, .int .i64 b, .int .i64 c] 23)]) := ⟨by
          have h1 := Env.push (bs := []) ⟨hG, isB_nil w, by intro p hp; cases hp⟩ (.cells #[.int .i64 a, .int .i64 b, .int .i64 c] 23)
          have h2 := h1.push (.cells #[.int .i64 x, .int .i64 y, .int .i64 z] 23)
          rw [size_alloc] at h2
          exact h2⟩
        have HB1 : Seal (Below w.heap.size w ((w.alloc (.cells #[.int .i64 a, .int .i64 b, .int .i64 c] 23)).alloc (.cells #[.int .i64 x, .int .i64 y, .int .i64 z] 23))) := ⟨((Below.refl _ w).alloc (Nat.le_refl _) _).alloc (by simp) _⟩
        clear hG
        go_enter Tryd.func5, Tryd.ntmps5
        go_wp2_with fail
        refine (rcsane_any _ HE1.out.glob).mono ?_
        rintro e w2 ⟨rfl, hbb⟩
        have HE2 := Seal.mk (HE1.out.below hbb)
        have HB2 := Seal.mk (HB1.out.trans (hbb.mono HB1.out.size))
        clear hbb HE1 HB1
        go_wp2_with (first | (refine wpList_load_row rfl 23 (.tmp 5) rfl (w.heap.size) rfl 23 #[.int .i64 a, .int .i64 b, .int .i64 c] (0, 0) _ (HE2.out.keep (w.heap.size, .cells #[.int .i64 a, .int .i64 b, .int .i64 c] 23) (by simp)) Tryd.underlying23 rfl IW.out ?_) | (refine wpList_load_row rfl 23 (.tmp 6) rfl (w.heap.size + 1) rfl 23 #[.int .i64 x, .int .i64 y, .int .i64 z] (0, 0) _ (HE2.out.keep (w.heap.size + 1, .cells #[.int .i64 x, .int .i64 y, .int .i64 z] 23) (by simp)) Tryd.underlying23 rfl IW.out ?_))
        refine (HC1.out _ HE2.out.glob).mono ?_
        rintro e w3 ⟨rfl, hbb⟩
        have HE3 := Seal.mk (((HE2.out.below hbb).push (.cells #[.int .i64 o, .int .i64 y, .int .i64 z] 23)))
        have HE3' := Seal.mk (HE2.out.below hbb)
        have HB3 := Seal.mk ((HB2.out.trans (hbb.mono HB2.out.size)).alloc (Nat.le_trans HB2.out.size hbb.size) (.cells #[.int .i64 o, .int .i64 y, .int .i64 z] 23))
        clear hbb HE2 HB2
        go_wp2_with (first | (refine wpList_load_row rfl 23 (.tmp 5) rfl (w.heap.size) rfl 23 #[.int .i64 a, .int .i64 b, .int .i64 c] (0, 0) _ (HE3.out.keep (w.heap.size, .cells #[.int .i64 a, .int .i64 b, .int .i64 c] 23) (by simp)) Tryd.underlying23 rfl IW.out ?_) | (refine wpList_load_row rfl 23 (.tmp 6) rfl (w.heap.size + 1) rfl 23 #[.int .i64 x, .int .i64 y, .int .i64 z] (0, 0) _ (HE3.out.keep (w.heap.size + 1, .cells #[.int .i64 x, .int .i64 y, .int .i64 z] 23) (by simp)) Tryd.underlying23 rfl IW.out ?_) | (refine wpList_load_row rfl 23 (.tmp 5) rfl (w.heap.size) rfl 23 #[.int .i64 a, .int .i64 b, .int .i64 c] (0, 0) _ (HE3'.out.keep (w.heap.size, .cells #[.int .i64 a, .int .i64 b, .int .i64 c] 23) (by simp)) Tryd.underlying23 rfl IW.out ?_) | (refine wpList_load_row rfl 23 (.tmp 6) rfl (w.heap.size + 1) rfl 23 #[.int .i64 x, .int .i64 y, .int .i64 z] (0, 0) _ (HE3'.out.keep (w.heap.size + 1, .cells #[.int .i64 x, .int .i64 y, .int .i64 z] 23) (by simp)) Tryd.underlying23 rfl IW.out ?_))
        refine (HC2.out _ HE3.out.glob).mono ?_
        rintro e Y ⟨rfl, hbb⟩
        have HE4 := Seal.mk (HE3.out.below hbb)
        have HB4 := Seal.mk (HB3.out.trans (hbb.mono HB3.out.size))
        have ra := HE4.out.keep (w.heap.size, .cells #[.int .i64 a, .int .i64 b, .int .i64 c] 23) (by simp)
        have rd := HE4.out.keep (w.heap.size + 1, .cells #[.int .i64 x, .int .i64 y, .int .i64 z] 23) (by simp)
        have a0 := (cell_of_row _ _ 0 _ _ _ ra).trans (show _ = some (Value.int .i64 a) from rfl)
        have a1 := (cell_of_row _ _ 1 _ _ _ ra).trans (show _ = some (Value.int .i64 b) from rfl)
        have a2 := (cell_of_row _ _ 2 _ _ _ ra).trans (show _ = some (Value.int .i64 c) from rfl)
        have d1 := (cell_of_row _ _ 1 _ _ _ rd).trans (show _ = some (Value.int .i64 y) from rfl)
        have d2 := (cell_of_row _ _ 2 _ _ _ rd).trans (show _ = some (Value.int .i64 z) from rfl)
        dsimp only at a0 a1 a2 d1 d2
        clear hbb HE3 HE3' HB3 ra rd
        clear a0 a1 a2
        go_wp2
        go_ret
        exact ⟨rfl, HB4.out⟩

theorem law_receiptsMeans (key a b c x y z o : Int) (w : World) (hG : Glob w) (ha : I64 a) (hb : I64 b) (hc : I64 c) :
    Calls Tryd.prog 5 #[.int .i64 key, .agg #[.int .i64 a, .int .i64 b, .int .i64 c], .agg #[.int .i64 x, .int .i64 y, .int .i64 z], .int .i64 o] w fun e w' => e = .returned (.bool true) ∧ Below w.heap.size w w' := by
  by_cases h : 1 ≤ y ∧ y ≤ 1073741789 ∧ 1 ≤ z ∧ z ≤ 1073741789
  · have e : rcB key a b c y z = vrB key (rcT a b c) (y - 1) (z - 1) := by
      unfold rcB
      rw [(wdB_iff y).2 (by omega), (wdB_iff z).2 (by omega)]
      rfl
    exact means_in key a b c x y z o (rcB key a b c y z) w hG h.1 h.2.1 h.2.2.1 h.2.2.2 ⟨ha⟩ ⟨hb⟩ ⟨hc⟩ ⟨fun W g => rccheck_any key a b c x y z W g ha hb hc⟩ ⟨fun W g => rccheck_any key a b c o y z W g ha hb hc⟩
      ⟨fun W g n cap g1 h1 h2 => by rw [e]; exact verify_any key (y - 1) (z - 1) g n cap (rcT a b c) W h1 h2 g1⟩
  · have e : rcB key a b c y z = false := by
      unfold rcB
      cases h1 : wdB y with
      | false => rfl
      | true =>
        cases h2 : wdB z with
        | false => rfl
        | true =>
          have g1 := (wdB_iff y).1 h1
          have g2 := (wdB_iff z).1 h2
          omega
    refine means_out key a b c x y z o w hG (by omega) ⟨fun W g => ?_⟩ ⟨fun W g => ?_⟩
    · rw [← e]; exact rccheck_any key a b c x y z W g ha hb hc
    · rw [← e]; exact rccheck_any key a b c o y z W g ha hb hc
end Frk

namespace Go.Proofs.YtgdhjapnploaoaaDoor
open Go Go.RowKit Go.Proofs Go.ChangeShapes Go.WideShapes Go.ChangeAt Frk
set_option maxRecDepth 100000

theorem lifted (os : Os) (started : os.Started) (H : Type) (enc : TypeId × Value → H) :
    ReturnsInHanded {} Tryd.checked os 5 .any (fun w args => (Rows.receiptsMeansSpec.pre enc Tryd.prog Tryd.f5 [] false w args ∧ laidMetH Tryd.prog laid w) ∧ sizedMet enc Tryd.prog Tryd.f5 (OpenSpec.ofChange Rows.receiptsMeansSpec) false w args)
      (Rows.receiptsMeansSpec.post enc Tryd.prog Tryd.f5 false true false false) := by
  refine returnsInHanded_of_change_and (C := Tryd.checked) (X := fun w _ => laidMetH Tryd.prog laid w) (fun _ _ _ hh h => h.of_heap hh) own started (by kernel_rfl) Tryd.func5
    (ChangeSpec.witness_shaped (enc := enc) (C := Tryd.checked) (os := os) (X := fun w _ => laidMetH Tryd.prog laid w) false (World.doorLaid Tryd.prog 400 os) #[.int .i64 0, .agg #[.int .i64 0, .int .i64 0, .int .i64 0], .agg #[.int .i64 0, .int .i64 0, .int .i64 0], .int .i64 0] 8 rfl (World.shaped_of_RefB (by kernel_rfl) (by kernel_rfl)) (by kernel_rfl) (by kernel_rfl) (by kernel_rfl) (door_met os _)) ?_
  intro W base args ds gs before hval0 hW _ _ hL _
  have hval : ∀ (j : Nat) t v, Tryd.f5.params[j]? = some t → args[j]? = some v → Value.okWide Tryd.prog W .any base t v := hval0
  have hW' := hW
  obtain ⟨p, q, hA0, hV, rfl, hfz, hnd⟩ := hW
  have hA : DataW.TrodAll enc Tryd.prog W 0 (fun _ => true) true Tryd.f5.params.toList args.toList ds p := hA0
  rw [Tryd.params5] at hA hval
  obtain ⟨args⟩ := args
  obtain ⟨v0, vs0, d0, ds0, p0, q0, e0, rfl, rfl, h0, hr0⟩ := trodAll_cons hA
  obtain ⟨v1, vs1, d1, ds1, p1, q1, e1, rfl, rfl, h1, hr1⟩ := trodAll_cons hr0
  obtain ⟨v2, vs2, d2, ds2, p2, q2, e2, rfl, rfl, h2, hr2⟩ := trodAll_cons hr1
  obtain ⟨v3, vs3, d3, ds3, p3, q3, e3, rfl, rfl, h3, hr3⟩ := trodAll_cons hr2
  obtain ⟨rfl, rfl, rfl⟩ := trodAll_nil hr3
  obtain rfl : args = [v0, v1, v2, v3] := by simpa [e1, e2, e3] using e0
  obtain ⟨x0, rfl, wx0⟩ := int_open (hval 0 3 v0 rfl rfl) h0
  obtain ⟨X1, Y1, Z1, rfl, rX1, rY1, rZ1⟩ := words_open (hval 1 23 v1 rfl rfl) h1
  obtain ⟨X2, Y2, Z2, rfl, rX2, rY2, rZ2⟩ := words_open (hval 2 23 v2 rfl rfl) h2
  obtain ⟨x3, rfl, wx3⟩ := int_open (hval 3 3 v3 rfl rfl) h3
  obtain ⟨rfl, rfl⟩ := trodVars_none hV
  have hG := glob_of_laid hL
  refine (law_receiptsMeans x0 X1 Y1 Z1 X2 Y2 Z2 x3 W hG rX1 rY1 rZ1).mono fun e W' ⟨he, hb⟩ => ?_
  subst he
  exact ⟨_, rfl, law_fin (by rw [Tryd.params5]; simp only [List.mem_cons, List.not_mem_nil, or_false]; intro t ht; rcases ht with rfl | rfl | rfl | rfl <;> exact ⟨by kernel_rfl, of_decide_eq_true (by kernel_rfl)⟩) (by kernel_rfl) rfl rfl hW' hb⟩

theorem receiptsMeans_row : Rows.ReceiptsMeansSaid :=
  OpenClaim.holds_of_wide 5 Tryd.f5 rfl rfl rfl rfl rfl rfl rfl ⟨rfl, rfl, rfl, rfl, rfl⟩ rfl rfl rfl rfl rfl (by kernel_rfl) Tryd.func5 (by kernel_rfl)
    (of_decide_eq_true (by kernel_rfl)) (by unfold Func.isWrapper; first | (rw [if_pos (by decide +kernel)]; kernel_rfl) | (rw [if_neg (by decide +kernel)]; exact ⟨rfl, rfl⟩))
    (fun os started H enc _ => lifted os started H enc)

theorem receiptsMeans_holds : Rows.ReceiptsMeansCardSaid :=
  Claim7.holds_tied_plain_at .later [] [.data, .data] true Rows.receiptsMeansCard.stood.harness true
    receiptsMeans_row (fun _ h => by cases h) (by kernel_rfl) (fun _ h => by cases h) receiptsMeans_row_tie rfl ⟨rfl, rfl⟩ (by kernel_rfl) rfl
    (fun f fn hf hfn => by
      obtain rfl : f = 5 := Option.some.inj ((show Tryd.prog.funcNamed "franking/frankinglaw43.ReceiptsMeans" = some 5 by kernel_rfl).symm.trans hf) |>.symm
      obtain rfl : fn = Tryd.f5 := (Option.some.inj (Tryd.func5.symm.trans hfn)).symm
      exact ⟨by kernel_rfl, fun j t ht => by
        rw [Tryd.params5] at ht
        have hm : t ∈ [3, 23, 23, 3] := by simpa using Array.mem_of_getElem? ht
        have hall : ([3, 23, 23, 3].all fun u => !Tryd.prog.wantsStandIn u) = true := by kernel_rfl
        exact (show Tryd.prog.wantsStandIn t = false by simpa using List.all_eq_true.1 hall t hm)⟩)
    (by kernel_rfl)
#print axioms receiptsMeans_holds
end Go.Proofs.YtgdhjapnploaoaaDoor
