/- Law 45: the proof of burning compared; Few, Root, Verify. -/
import Derived.Test.YtemoomfnmiodeaaGreatDoorVuKeq
namespace Frk
open Go Go.RowKit Go.Proofs
set_option maxRecDepth 100000

/-- what holds from here on -/
def Ko (w : World) (Φ : World → Prop) : Prop := ∀ W, Below w.heap.size w W → Φ W
theorem Ko.step {w w' : World} {Φ : World → Prop} (h : Ko w Φ) (hb : Below w.heap.size w w') : Ko w' Φ := fun W hW => h W (hb.trans (hW.mono hb.size))
theorem Ko.at {w : World} {Φ : World → Prop} (h : Ko w Φ) : Φ w := h w (Below.refl _ _)
theorem Ko.mono {w : World} {Φ Ψ : World → Prop} (h : Ko w Φ) (hi : ∀ W, Φ W → Ψ W) : Ko w Ψ := fun W hW => hi W (h W hW)

/-- where a proof lies -/
structure BrAt (W : World) (g : Nat) (b : Brn) (v : Value) : Prop where
  rB : W.rangeAt g 0 (b.B.map B)
  rA : W.rangeAt g 32 (b.A.map B)
  cG : W.cell? ⟨g, 64, none⟩ = some v
  all : W.rangeAt g 0 (brC b v)
theorem BrAt.below {W W' : World} {g : Nat} {b : Brn} {v : Value} (h : BrAt W g b v) (hb : Below W.heap.size W W') : BrAt W' g b v :=
  ⟨rangeAt_below' h.rB hb, rangeAt_below' h.rA hb, cell_below' hb h.cG, rangeAt_below' h.all hb⟩
structure Brn.ok (b : Brn) : Prop where
  b32 : b.B.length = 32
  a32 : b.A.length = 32
  ints : ∀ x ∈ b.G, I64 x
theorem brAt_row {W : World} {g : Nat} {b : Brn} {v : Value} (h1 : b.B.length = 32) (h2 : b.A.length = 32) {t : TypeId} {fr : Nat × Nat} (hg : W.heap[g]? = some (.cells (brC b v).toArray t fr)) : BrAt W g b v := by
  have hr := rangeAt_row hg
  have e0 : (brC b v).take 32 = b.B.map B := by unfold brC; exact List.take_left' (by rw [List.length_map, h1])
  have e1 : (brC b v).drop 32 = b.A.map B ++ [v] := by unfold brC; exact List.drop_left' (by rw [List.length_map, h1])
  have r0 := rangeAt_take hr 32
  rw [e0] at r0
  have r1 := rangeAt_drop hr 32
  rw [e1, Nat.zero_add] at r1
  have r2 := rangeAt_take r1 32
  rw [List.take_left' (by rw [List.length_map, h2])] at r2
  refine ⟨r0, r2, ?_, hr⟩
  have := r1 32 v (by rw [List.getElem?_append_right (by rw [List.length_map, h2]; exact Nat.le_refl _), List.length_map, h2]; rfl)
  simpa using this
theorem brC_info {b : Brn} (h1 : b.B.length = 32) (h2 : b.A.length = 32) (v : Value) : (Tryz.prog.info? 50).map (·.size) = some (brC b v).length := by rw [len_brC h1 h2]; kernel_rfl
theorem eqDg (a b : Bytes) (ha : a.length = 32) (hb : b.length = 32) (w : World) : (Op.equalIn 10000 26 (.agg (a.map B).toArray) (.agg (b.map B).toArray)).run Tryz.prog w = .ok (a == b) w := by
  rw [show (10000 : Nat) = 9998 + 1 + 1 from rfl, eqDig_s 9998 a b ha hb]
theorem burnB_len (l : List Ltr) (t : Int) : (burnB l t).B.length = 32 ∧ (burnB l t).A.length = 32 := by
  unfold burnB
  split
  · exact ⟨rootB_len _, rootB_len _⟩
  · exact ⟨rfl, rfl⟩

theorem kfew_any (a : Option Addr) (n c : Nat) (w : World) : Calls Tryz.prog 7 #[.slice a n c] w fun e w' => e = .returned (.bool (decide (n ≤ 12))) ∧ w = w' := by
  by_cases h : n ≤ 12
  · have q1 : (n : Int) ≤ 12 := by omega
    go_enter Tryz.func7, Tryz.ntmps7
    go_wp2
    go_ret
    exact ⟨by first | rfl | (rw [decide_eq_true h]; rfl), rfl⟩
  · have q1 : ¬ (n : Int) ≤ 12 := by omega
    go_enter Tryz.func7, Tryz.ntmps7
    go_wp2
    go_ret
    exact ⟨by first | rfl | (rw [decide_eq_false h]; rfl), rfl⟩

def rootF45 (l : List Ltr) : Bytes := if chkL l = 0 then rootB (l.map txK) else zb32
set_option maxHeartbeats 2000000 in
theorem kroot_any (a : Option Addr) (n c : Nat) (l : List Ltr) (w : World) (hG : Glob w) (hd : IsC Ltr.C 38 w a n c l) (hok : ∀ x ∈ l, x.ok) (hn : n ≤ 100) :
    Calls Tryz.prog 8 #[.slice a n c] w fun e w' => e = .returned (.tuple #[.agg ((rootF45 l).map B).toArray, .int .i64 (chkL l)]) ∧ Below w.heap.size w w' := by
  obtain ⟨X, hX⟩ : ∃ X : World, X = w.alloc (.cells #[.int .u8 0, .int .u8 0, .int .u8 0, .int .u8 0, .int .u8 0, .int .u8 0, .int .u8 0, .int .u8 0, .int .u8 0, .int .u8 0, .int .u8 0, .int .u8 0, .int .u8 0, .int .u8 0, .int .u8 0, .int .u8 0, .int .u8 0, .int .u8 0, .int .u8 0, .int .u8 0, .int .u8 0, .int .u8 0, .int .u8 0, .int .u8 0, .int .u8 0, .int .u8 0, .int .u8 0, .int .u8 0, .int .u8 0, .int .u8 0, .int .u8 0, .int .u8 0] 26) := ⟨_, rfl⟩
  have HX : Seal (Below w.heap.size w X ∧ X.heap[w.heap.size]? = some (.cells #[.int .u8 0, .int .u8 0, .int .u8 0, .int .u8 0, .int .u8 0, .int .u8 0, .int .u8 0, .int .u8 0, .int .u8 0, .int .u8 0, .int .u8 0, .int .u8 0, .int .u8 0, .int .u8 0, .int .u8 0, .int .u8 0, .int .u8 0, .int .u8 0, .int .u8 0, .int .u8 0, .int .u8 0, .int .u8 0, .int .u8 0, .int .u8 0, .int .u8 0, .int .u8 0, .int .u8 0, .int .u8 0, .int .u8 0, .int .u8 0, .int .u8 0, .int .u8 0] 26 (0, 0)) ∧ w.heap.size < X.heap.size) := ⟨by rw [hX]; exact ⟨below_alloc _ _, heap_alloc_new w _, by rw [size_alloc]; omega⟩⟩
  have HC1 := Seal.mk (kchk_any a n c l X (hG.below HX.out.1) (hd.below HX.out.1) hok)
  have HRt : Seal (∀ W, Below w.heap.size w W → Calls Tryz.prog 26 #[.slice a n c] W fun e w' => e = .returned (.agg ((rootB (l.map txK)).map B).toArray) ∧ Below W.heap.size W w') := ⟨fun W h => droot_any a n c l W (hG.below h) (hd.below h) hok hn⟩
  obtain ⟨e0, he0⟩ : ∃ e, e = chkL l := ⟨_, rfl⟩
  obtain ⟨R, hR⟩ : ∃ R, R = rootF45 l := ⟨_, rfl⟩
  rw [← he0] at HC1 ⊢
  rw [← hR]
  have hl := rootB_len (l.map txK)
  by_cases hz : e0 = 0
  · have hRe : R = rootB (l.map txK) := by rw [hR]; unfold rootF45; rw [← he0, if_pos hz]
    rw [← hRe] at HRt hl
    obtain ⟨D, hD⟩ : ∃ D, D = (R.map B).toArray := ⟨_, rfl⟩
    have ID : Seal ((Tryz.prog.info? 26).map (·.size) = some D.size ∧ (#[.int .u8 0, .int .u8 0, .int .u8 0, .int .u8 0, .int .u8 0, .int .u8 0, .int .u8 0, .int .u8 0, .int .u8 0, .int .u8 0, .int .u8 0, .int .u8 0, .int .u8 0, .int .u8 0, .int .u8 0, .int .u8 0, .int .u8 0, .int .u8 0, .int .u8 0, .int .u8 0, .int .u8 0, .int .u8 0, .int .u8 0, .int .u8 0, .int .u8 0, .int .u8 0, .int .u8 0, .int .u8 0, .int .u8 0, .int .u8 0, .int .u8 0, .int .u8 0] : Array Value).size = D.size ∧ D.all (·.oneCell') = true) := ⟨by rw [hD, List.size_toArray]; exact dg_info _ hl, by show 32 = D.size; rw [hD, List.size_toArray, List.length_map, hl], by rw [hD]; simp [Value.oneCell']⟩
    rw [← hD] at HRt ⊢
    clear hG hd hok hn he0 hR hl hRe hD
    subst hz
    go_enter Tryz.func8, Tryz.ntmps8
    go_upto_region 1 with (fail)
    rw [← hX]
    clear hX
    go_wp2_with fail
    refine HC1.out.mono ?_
    rintro e w1 ⟨rfl, hb⟩
    have HX1 : Seal (Below w.heap.size w w1 ∧ w1.heap[w.heap.size]? = some (.cells #[.int .u8 0, .int .u8 0, .int .u8 0, .int .u8 0, .int .u8 0, .int .u8 0, .int .u8 0, .int .u8 0, .int .u8 0, .int .u8 0, .int .u8 0, .int .u8 0, .int .u8 0, .int .u8 0, .int .u8 0, .int .u8 0, .int .u8 0, .int .u8 0, .int .u8 0, .int .u8 0, .int .u8 0, .int .u8 0, .int .u8 0, .int .u8 0, .int .u8 0, .int .u8 0, .int .u8 0, .int .u8 0, .int .u8 0, .int .u8 0, .int .u8 0, .int .u8 0] 26 (0, 0)) ∧ w.heap.size < w1.heap.size) := ⟨HX.out.1.trans (hb.mono HX.out.1.size), (hb.block _ HX.out.2.2).trans HX.out.2.1, Nat.lt_of_lt_of_le HX.out.2.2 hb.size⟩
    clear hb HC1 HX
    go_wp2_with fail
    refine (HRt.out w1 HX1.out.1).mono ?_
    rintro e w2 ⟨rfl, hb⟩
    have HX2 : Seal (Below w.heap.size w w2 ∧ w2.heap[w.heap.size]? = some (.cells #[.int .u8 0, .int .u8 0, .int .u8 0, .int .u8 0, .int .u8 0, .int .u8 0, .int .u8 0, .int .u8 0, .int .u8 0, .int .u8 0, .int .u8 0, .int .u8 0, .int .u8 0, .int .u8 0, .int .u8 0, .int .u8 0, .int .u8 0, .int .u8 0, .int .u8 0, .int .u8 0, .int .u8 0, .int .u8 0, .int .u8 0, .int .u8 0, .int .u8 0, .int .u8 0, .int .u8 0, .int .u8 0, .int .u8 0, .int .u8 0, .int .u8 0, .int .u8 0] 26 (0, 0))) := ⟨HX1.out.1.trans (hb.mono HX1.out.1.size), (hb.block _ HX1.out.2.2).trans HX1.out.2.1⟩
    clear hb HX1 HRt
    go_wp2_with (refine wpList_store_row rfl 26 (.tmp 2) (.tmp 12) rfl w.heap.size D rfl rfl 26 #[.int .u8 0, .int .u8 0, .int .u8 0, .int .u8 0, .int .u8 0, .int .u8 0, .int .u8 0, .int .u8 0, .int .u8 0, .int .u8 0, .int .u8 0, .int .u8 0, .int .u8 0, .int .u8 0, .int .u8 0, .int .u8 0, .int .u8 0, .int .u8 0, .int .u8 0, .int .u8 0, .int .u8 0, .int .u8 0, .int .u8 0, .int .u8 0, .int .u8 0, .int .u8 0, .int .u8 0, .int .u8 0, .int .u8 0, .int .u8 0, .int .u8 0, .int .u8 0] HX2.out.2 ID.out.1 ID.out.2.1 ID.out.2.2 ?_)
    refine bodyPost_ret (results_row_tmp (fn := Tryz.f8) rfl _ _ w.heap.size 26 D (0, 0) _ _ rfl rfl (setRow_heap _ _ _ _ _ _ HX2.out.2) Tryz.underlying26 rfl ID.out.1) rfl ?_
    exact ⟨rfl, below_row HX2.out.1 (Nat.le_refl _) _⟩
  · have hRe : R = zb32 := by rw [hR]; unfold rootF45; rw [← he0, if_neg hz]
    have ID : Seal ((Tryz.prog.info? 26).map (·.size) = some (#[.int .u8 0, .int .u8 0, .int .u8 0, .int .u8 0, .int .u8 0, .int .u8 0, .int .u8 0, .int .u8 0, .int .u8 0, .int .u8 0, .int .u8 0, .int .u8 0, .int .u8 0, .int .u8 0, .int .u8 0, .int .u8 0, .int .u8 0, .int .u8 0, .int .u8 0, .int .u8 0, .int .u8 0, .int .u8 0, .int .u8 0, .int .u8 0, .int .u8 0, .int .u8 0, .int .u8 0, .int .u8 0, .int .u8 0, .int .u8 0, .int .u8 0, .int .u8 0] : Array Value).size ∧ (#[.int .u8 0, .int .u8 0, .int .u8 0, .int .u8 0, .int .u8 0, .int .u8 0, .int .u8 0, .int .u8 0, .int .u8 0, .int .u8 0, .int .u8 0, .int .u8 0, .int .u8 0, .int .u8 0, .int .u8 0, .int .u8 0, .int .u8 0, .int .u8 0, .int .u8 0, .int .u8 0, .int .u8 0, .int .u8 0, .int .u8 0, .int .u8 0, .int .u8 0, .int .u8 0, .int .u8 0, .int .u8 0, .int .u8 0, .int .u8 0, .int .u8 0, .int .u8 0] : Array Value).all (·.oneCell') = true ∧ (R.map B).toArray = #[.int .u8 0, .int .u8 0, .int .u8 0, .int .u8 0, .int .u8 0, .int .u8 0, .int .u8 0, .int .u8 0, .int .u8 0, .int .u8 0, .int .u8 0, .int .u8 0, .int .u8 0, .int .u8 0, .int .u8 0, .int .u8 0, .int .u8 0, .int .u8 0, .int .u8 0, .int .u8 0, .int .u8 0, .int .u8 0, .int .u8 0, .int .u8 0, .int .u8 0, .int .u8 0, .int .u8 0, .int .u8 0, .int .u8 0, .int .u8 0, .int .u8 0, .int .u8 0]) := ⟨by kernel_rfl, by kernel_rfl, by rw [hRe]; kernel_rfl⟩
    rw [ID.out.2.2]
    clear hG hd hok hn he0 hR hl hRe HRt
    go_enter Tryz.func8, Tryz.ntmps8
    go_upto_region 1 with (fail)
    rw [← hX]
    clear hX
    go_wp2_with fail
    refine HC1.out.mono ?_
    rintro e w1 ⟨rfl, hb⟩
    have HX1 : Seal (Below w.heap.size w w1 ∧ w1.heap[w.heap.size]? = some (.cells #[.int .u8 0, .int .u8 0, .int .u8 0, .int .u8 0, .int .u8 0, .int .u8 0, .int .u8 0, .int .u8 0, .int .u8 0, .int .u8 0, .int .u8 0, .int .u8 0, .int .u8 0, .int .u8 0, .int .u8 0, .int .u8 0, .int .u8 0, .int .u8 0, .int .u8 0, .int .u8 0, .int .u8 0, .int .u8 0, .int .u8 0, .int .u8 0, .int .u8 0, .int .u8 0, .int .u8 0, .int .u8 0, .int .u8 0, .int .u8 0, .int .u8 0, .int .u8 0] 26 (0, 0))) := ⟨HX.out.1.trans (hb.mono HX.out.1.size), (hb.block _ HX.out.2.2).trans HX.out.2.1⟩
    clear hb HC1 HX
    go_wp2_with (refine wpList_store_row rfl 26 (.tmp 2) (.tmp 9) rfl w.heap.size #[.int .u8 0, .int .u8 0, .int .u8 0, .int .u8 0, .int .u8 0, .int .u8 0, .int .u8 0, .int .u8 0, .int .u8 0, .int .u8 0, .int .u8 0, .int .u8 0, .int .u8 0, .int .u8 0, .int .u8 0, .int .u8 0, .int .u8 0, .int .u8 0, .int .u8 0, .int .u8 0, .int .u8 0, .int .u8 0, .int .u8 0, .int .u8 0, .int .u8 0, .int .u8 0, .int .u8 0, .int .u8 0, .int .u8 0, .int .u8 0, .int .u8 0, .int .u8 0] rfl rfl 26 #[.int .u8 0, .int .u8 0, .int .u8 0, .int .u8 0, .int .u8 0, .int .u8 0, .int .u8 0, .int .u8 0, .int .u8 0, .int .u8 0, .int .u8 0, .int .u8 0, .int .u8 0, .int .u8 0, .int .u8 0, .int .u8 0, .int .u8 0, .int .u8 0, .int .u8 0, .int .u8 0, .int .u8 0, .int .u8 0, .int .u8 0, .int .u8 0, .int .u8 0, .int .u8 0, .int .u8 0, .int .u8 0, .int .u8 0, .int .u8 0, .int .u8 0, .int .u8 0] HX1.out.2 ID.out.1 rfl ID.out.2.1 ?_)
    refine bodyPost_ret (results_row_tmp (fn := Tryz.f8) rfl _ _ w.heap.size 26 #[.int .u8 0, .int .u8 0, .int .u8 0, .int .u8 0, .int .u8 0, .int .u8 0, .int .u8 0, .int .u8 0, .int .u8 0, .int .u8 0, .int .u8 0, .int .u8 0, .int .u8 0, .int .u8 0, .int .u8 0, .int .u8 0, .int .u8 0, .int .u8 0, .int .u8 0, .int .u8 0, .int .u8 0, .int .u8 0, .int .u8 0, .int .u8 0, .int .u8 0, .int .u8 0, .int .u8 0, .int .u8 0, .int .u8 0, .int .u8 0, .int .u8 0, .int .u8 0] (0, 0) _ _ rfl rfl (setRow_heap _ _ _ _ _ _ HX1.out.2) Tryz.underlying26 rfl ID.out.1) rfl ?_
    exact ⟨rfl, below_row HX1.out.1 (Nat.le_refl _) _⟩
end Frk
