/- Law 45's reference: Root. -/
import Derived.Test.YtemoomfnmiodeaaGreatDoorVtRlf
import Derived.Test.YtemoomfnmiodeaaGreatDoorVtgKvr
namespace Frk
open Go Go.RowKit Go.Proofs
set_option maxRecDepth 100000

set_option maxHeartbeats 2000000 in
theorem rroot45_any (a : Option Addr) (n c : Nat) (l : List Ltr) (w : World) (hG : Glob w) (hd : IsC Ltr.C 38 w a n c l) (hok : ∀ x ∈ l, x.ok) (hn : n ≤ 100) :
    Calls Tryz.prog 9 #[.slice a n c] w fun e w' => e = .returned (.tuple #[.agg ((rootF45 l).map B).toArray, .int .i64 (chkL l)]) ∧ Below w.heap.size w w' := by
  obtain ⟨X, hX⟩ : ∃ X : World, X = w.alloc (.cells #[.int .u8 0, .int .u8 0, .int .u8 0, .int .u8 0, .int .u8 0, .int .u8 0, .int .u8 0, .int .u8 0, .int .u8 0, .int .u8 0, .int .u8 0, .int .u8 0, .int .u8 0, .int .u8 0, .int .u8 0, .int .u8 0, .int .u8 0, .int .u8 0, .int .u8 0, .int .u8 0, .int .u8 0, .int .u8 0, .int .u8 0, .int .u8 0, .int .u8 0, .int .u8 0, .int .u8 0, .int .u8 0, .int .u8 0, .int .u8 0, .int .u8 0, .int .u8 0] 26) := ⟨_, rfl⟩
  have HX : Seal (Below w.heap.size w X ∧ X.heap[w.heap.size]? = some (.cells #[.int .u8 0, .int .u8 0, .int .u8 0, .int .u8 0, .int .u8 0, .int .u8 0, .int .u8 0, .int .u8 0, .int .u8 0, .int .u8 0, .int .u8 0, .int .u8 0, .int .u8 0, .int .u8 0, .int .u8 0, .int .u8 0, .int .u8 0, .int .u8 0, .int .u8 0, .int .u8 0, .int .u8 0, .int .u8 0, .int .u8 0, .int .u8 0, .int .u8 0, .int .u8 0, .int .u8 0, .int .u8 0, .int .u8 0, .int .u8 0, .int .u8 0, .int .u8 0] 26 (0, 0)) ∧ w.heap.size < X.heap.size) := ⟨by rw [hX]; exact ⟨below_alloc _ _, heap_alloc_new w _, by rw [size_alloc]; omega⟩⟩
  have HC1 := Seal.mk (rcheck45_any a n c l X (hG.below HX.out.1) (hd.below HX.out.1) hok)
  have HLv : Seal (∀ W, Below w.heap.size w W → Calls Tryz.prog 28 #[.slice a n c] W fun e w' => ∃ a' c', e = .returned (.slice a' n c') ∧ Seal (IsBs w' a' n c' (l.map txK) ∧ Below W.heap.size W w')) := ⟨fun W h => rleaves45_any a n c l W (hd.below h) hok (by omega)⟩
  have HRt : Seal (∀ (W : World) a' c', IsBs W a' n c' (l.map txK) → Calls Tryz.prog 27 #[.slice a' n c'] W fun e w' => e = .returned (.agg ((rootB (l.map txK)).map B).toArray) ∧ Below W.heap.size W w') := ⟨fun W a' c' hl => rroot07_any a' n c' (l.map txK) W hl hn (by
    intro t ht
    obtain ⟨s, hs, rfl⟩ := List.mem_map.1 ht
    exact ⟨(txK_len (hok s hs).t32).1, Nat.le_trans (txK_len (hok s hs).t32).2 (by decide)⟩)⟩
  obtain ⟨e0, he0⟩ : ∃ e, e = chkL l := ⟨_, rfl⟩
  obtain ⟨R, hR⟩ : ∃ R, R = rootF45 l := ⟨_, rfl⟩
  rw [← he0] at HC1 ⊢
  rw [← hR]
  have hl := rootB_len (l.map txK)
  by_cases hz : e0 = 0
  · have hRe : R = rootB (l.map txK) := by rw [hR]; unfold rootF45; rw [← he0, if_pos hz]
    rw [← hRe] at HRt hl
    obtain ⟨D, hD⟩ : ∃ D, D = (R.map B).toArray := ⟨_, rfl⟩
    have ID : Seal ((Tryz.prog.info? 26).map (·.size) = some D.size ∧ (#[.int .u8 0, .int .u8 0, .int .u8 0, .int .u8 0, .int .u8 0, .int .u8 0, .int .u8 0, .int .u8 0, .int .u8 0, .int .u8 0, .int .u8 0, .int .u8 0, .int .u8 0, .int .u8 0, .int .u8 0, .int .u8 0, .int .u8 0, .int .u8 0, .int .u8 0, .int .u8 0, .int .u8 0, .int .u8 0, .int .u8 0, .int .u8 0, .int .u8 0, .int .u8 0, .int .u8 0, .int .u8 0, .int .u8 0, .int .u8 0, .int .u8 0, .int .u8 0] : Array Value).size = D.size ∧ D.all (·.oneCell') = true) := ⟨by rw [hD, List.size_toArray]; exact dg_info _ hl, by show 32 = D.size; rw [hD, List.size_toArray, List.length_map, hl], by rw [hD]; simp [Value.oneCell']⟩
    rw [← hD] at HRt ⊢
    clear hG hd hok hn he0 hR hl hRe hD
    subst hz
    go_enter Tryz.func9, Tryz.ntmps9
    go_upto_region 1 with (fail)
    rw [← hX]
    clear hX
    go_wp2_with fail
    refine HC1.out.mono ?_
    rintro e w1 ⟨rfl, hb⟩
    have HX1 : Seal (Below w.heap.size w w1 ∧ w1.heap[w.heap.size]? = some (.cells #[.int .u8 0, .int .u8 0, .int .u8 0, .int .u8 0, .int .u8 0, .int .u8 0, .int .u8 0, .int .u8 0, .int .u8 0, .int .u8 0, .int .u8 0, .int .u8 0, .int .u8 0, .int .u8 0, .int .u8 0, .int .u8 0, .int .u8 0, .int .u8 0, .int .u8 0, .int .u8 0, .int .u8 0, .int .u8 0, .int .u8 0, .int .u8 0, .int .u8 0, .int .u8 0, .int .u8 0, .int .u8 0, .int .u8 0, .int .u8 0, .int .u8 0, .int .u8 0] 26 (0, 0)) ∧ w.heap.size < w1.heap.size) := ⟨HX.out.1.trans (hb.mono HX.out.1.size), (hb.block _ HX.out.2.2).trans HX.out.2.1, Nat.lt_of_lt_of_le HX.out.2.2 hb.size⟩
    clear hb HC1 HX
    go_wp2_with fail
    refine (HLv.out w1 HX1.out.1).mono ?_
    rintro e w2 ⟨a2, c2, rfl, hp⟩
    have hb := hp.out.2
    have HX2 : Seal (Below w.heap.size w w2 ∧ w2.heap[w.heap.size]? = some (.cells #[.int .u8 0, .int .u8 0, .int .u8 0, .int .u8 0, .int .u8 0, .int .u8 0, .int .u8 0, .int .u8 0, .int .u8 0, .int .u8 0, .int .u8 0, .int .u8 0, .int .u8 0, .int .u8 0, .int .u8 0, .int .u8 0, .int .u8 0, .int .u8 0, .int .u8 0, .int .u8 0, .int .u8 0, .int .u8 0, .int .u8 0, .int .u8 0, .int .u8 0, .int .u8 0, .int .u8 0, .int .u8 0, .int .u8 0, .int .u8 0, .int .u8 0, .int .u8 0] 26 (0, 0)) ∧ w.heap.size < w2.heap.size) := ⟨HX1.out.1.trans (hb.mono HX1.out.1.size), (hb.block _ HX1.out.2.2).trans HX1.out.2.1, Nat.lt_of_lt_of_le HX1.out.2.2 hb.size⟩
    have HI2 := Seal.mk hp.out.1
    clear hb HX1 HLv hp
    go_wp2_with fail
    refine (HRt.out w2 a2 c2 HI2.out).mono ?_
    rintro e w3 ⟨rfl, hb⟩
    have HX3 : Seal (Below w.heap.size w w3 ∧ w3.heap[w.heap.size]? = some (.cells #[.int .u8 0, .int .u8 0, .int .u8 0, .int .u8 0, .int .u8 0, .int .u8 0, .int .u8 0, .int .u8 0, .int .u8 0, .int .u8 0, .int .u8 0, .int .u8 0, .int .u8 0, .int .u8 0, .int .u8 0, .int .u8 0, .int .u8 0, .int .u8 0, .int .u8 0, .int .u8 0, .int .u8 0, .int .u8 0, .int .u8 0, .int .u8 0, .int .u8 0, .int .u8 0, .int .u8 0, .int .u8 0, .int .u8 0, .int .u8 0, .int .u8 0, .int .u8 0] 26 (0, 0))) := ⟨HX2.out.1.trans (hb.mono HX2.out.1.size), (hb.block _ HX2.out.2.2).trans HX2.out.2.1⟩
    clear hb HX2 HRt HI2
    go_wp2_with (refine wpList_store_row rfl 26 (.tmp 2) (.tmp 13) rfl w.heap.size D rfl rfl 26 #[.int .u8 0, .int .u8 0, .int .u8 0, .int .u8 0, .int .u8 0, .int .u8 0, .int .u8 0, .int .u8 0, .int .u8 0, .int .u8 0, .int .u8 0, .int .u8 0, .int .u8 0, .int .u8 0, .int .u8 0, .int .u8 0, .int .u8 0, .int .u8 0, .int .u8 0, .int .u8 0, .int .u8 0, .int .u8 0, .int .u8 0, .int .u8 0, .int .u8 0, .int .u8 0, .int .u8 0, .int .u8 0, .int .u8 0, .int .u8 0, .int .u8 0, .int .u8 0] HX3.out.2 ID.out.1 ID.out.2.1 ID.out.2.2 ?_)
    refine bodyPost_ret (results_row_tmp (fn := Tryz.f9) rfl _ _ w.heap.size 26 D (0, 0) _ _ rfl rfl (setRow_heap _ _ _ _ _ _ HX3.out.2) Tryz.underlying26 rfl ID.out.1) rfl ?_
    exact ⟨rfl, below_row HX3.out.1 (Nat.le_refl _) _⟩
  · have hRe : R = zb32 := by rw [hR]; unfold rootF45; rw [← he0, if_neg hz]
    have ID : Seal ((Tryz.prog.info? 26).map (·.size) = some (#[.int .u8 0, .int .u8 0, .int .u8 0, .int .u8 0, .int .u8 0, .int .u8 0, .int .u8 0, .int .u8 0, .int .u8 0, .int .u8 0, .int .u8 0, .int .u8 0, .int .u8 0, .int .u8 0, .int .u8 0, .int .u8 0, .int .u8 0, .int .u8 0, .int .u8 0, .int .u8 0, .int .u8 0, .int .u8 0, .int .u8 0, .int .u8 0, .int .u8 0, .int .u8 0, .int .u8 0, .int .u8 0, .int .u8 0, .int .u8 0, .int .u8 0, .int .u8 0] : Array Value).size ∧ (#[.int .u8 0, .int .u8 0, .int .u8 0, .int .u8 0, .int .u8 0, .int .u8 0, .int .u8 0, .int .u8 0, .int .u8 0, .int .u8 0, .int .u8 0, .int .u8 0, .int .u8 0, .int .u8 0, .int .u8 0, .int .u8 0, .int .u8 0, .int .u8 0, .int .u8 0, .int .u8 0, .int .u8 0, .int .u8 0, .int .u8 0, .int .u8 0, .int .u8 0, .int .u8 0, .int .u8 0, .int .u8 0, .int .u8 0, .int .u8 0, .int .u8 0, .int .u8 0] : Array Value).all (·.oneCell') = true ∧ (R.map B).toArray = #[.int .u8 0, .int .u8 0, .int .u8 0, .int .u8 0, .int .u8 0, .int .u8 0, .int .u8 0, .int .u8 0, .int .u8 0, .int .u8 0, .int .u8 0, .int .u8 0, .int .u8 0, .int .u8 0, .int .u8 0, .int .u8 0, .int .u8 0, .int .u8 0, .int .u8 0, .int .u8 0, .int .u8 0, .int .u8 0, .int .u8 0, .int .u8 0, .int .u8 0, .int .u8 0, .int .u8 0, .int .u8 0, .int .u8 0, .int .u8 0, .int .u8 0, .int .u8 0]) := ⟨by kernel_rfl, by kernel_rfl, by rw [hRe]; kernel_rfl⟩
    rw [ID.out.2.2]
    clear hG hd hok hn he0 hR hl hRe HRt HLv
    go_enter Tryz.func9, Tryz.ntmps9
    go_upto_region 1 with (fail)
    rw [← hX]
    clear hX
    go_wp2_with fail
    refine HC1.out.mono ?_
    rintro e w1 ⟨rfl, hb⟩
    have HX1 : Seal (Below w.heap.size w w1 ∧ w1.heap[w.heap.size]? = some (.cells #[.int .u8 0, .int .u8 0, .int .u8 0, .int .u8 0, .int .u8 0, .int .u8 0, .int .u8 0, .int .u8 0, .int .u8 0, .int .u8 0, .int .u8 0, .int .u8 0, .int .u8 0, .int .u8 0, .int .u8 0, .int .u8 0, .int .u8 0, .int .u8 0, .int .u8 0, .int .u8 0, .int .u8 0, .int .u8 0, .int .u8 0, .int .u8 0, .int .u8 0, .int .u8 0, .int .u8 0, .int .u8 0, .int .u8 0, .int .u8 0, .int .u8 0, .int .u8 0] 26 (0, 0))) := ⟨HX.out.1.trans (hb.mono HX.out.1.size), (hb.block _ HX.out.2.2).trans HX.out.2.1⟩
    clear hb HC1 HX
    go_wp2_with (refine wpList_store_row rfl 26 (.tmp 2) (.tmp 9) rfl w.heap.size #[.int .u8 0, .int .u8 0, .int .u8 0, .int .u8 0, .int .u8 0, .int .u8 0, .int .u8 0, .int .u8 0, .int .u8 0, .int .u8 0, .int .u8 0, .int .u8 0, .int .u8 0, .int .u8 0, .int .u8 0, .int .u8 0, .int .u8 0, .int .u8 0, .int .u8 0, .int .u8 0, .int .u8 0, .int .u8 0, .int .u8 0, .int .u8 0, .int .u8 0, .int .u8 0, .int .u8 0, .int .u8 0, .int .u8 0, .int .u8 0, .int .u8 0, .int .u8 0] rfl rfl 26 #[.int .u8 0, .int .u8 0, .int .u8 0, .int .u8 0, .int .u8 0, .int .u8 0, .int .u8 0, .int .u8 0, .int .u8 0, .int .u8 0, .int .u8 0, .int .u8 0, .int .u8 0, .int .u8 0, .int .u8 0, .int .u8 0, .int .u8 0, .int .u8 0, .int .u8 0, .int .u8 0, .int .u8 0, .int .u8 0, .int .u8 0, .int .u8 0, .int .u8 0, .int .u8 0, .int .u8 0, .int .u8 0, .int .u8 0, .int .u8 0, .int .u8 0, .int .u8 0] HX1.out.2 ID.out.1 rfl ID.out.2.1 ?_)
    refine bodyPost_ret (results_row_tmp (fn := Tryz.f9) rfl _ _ w.heap.size 26 #[.int .u8 0, .int .u8 0, .int .u8 0, .int .u8 0, .int .u8 0, .int .u8 0, .int .u8 0, .int .u8 0, .int .u8 0, .int .u8 0, .int .u8 0, .int .u8 0, .int .u8 0, .int .u8 0, .int .u8 0, .int .u8 0, .int .u8 0, .int .u8 0, .int .u8 0, .int .u8 0, .int .u8 0, .int .u8 0, .int .u8 0, .int .u8 0, .int .u8 0, .int .u8 0, .int .u8 0, .int .u8 0, .int .u8 0, .int .u8 0, .int .u8 0, .int .u8 0] (0, 0) _ _ rfl rfl (setRow_heap _ _ _ _ _ _ HX1.out.2) Tryz.underlying26 rfl ID.out.1) rfl ?_
    exact ⟨rfl, below_row HX1.out.1 (Nat.le_refl _) _⟩
end Frk
