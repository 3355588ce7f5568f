/- Parts of the proof, joined. -/
import Derived.Test.YtemoomfnmiodeaaGreatDoorVtKeq
/- Law 45: the proof of burning compared; Few, Root, Verify. -/
namespace Frk
open Go Go.RowKit Go.Proofs
set_option maxRecDepth 100000

/-- what holds from here on -/
def Ko (w : World) (Φ : World → Prop) : Prop := ∀ W, Below w.heap.size w W → Φ W
theorem Ko.step {w w' : World} {Φ : World → Prop} (h : Ko w Φ) (hb : Below w.heap.size w w') : Ko w' Φ := fun W hW => h W (hb.trans (hW.mono hb.size))
theorem Ko.at {w : World} {Φ : World → Prop} (h : Ko w Φ) : Φ w := h w (Below.refl _ _)
theorem Ko.mono {w : World} {Φ Ψ : World → Prop} (h : Ko w Φ) (hi : ∀ W, Φ W → Ψ W) : Ko w Ψ := fun W hW => hi W (h W hW)

/-- where a proof lies -/
structure BrAt (W : World) (g : Nat) (b : Brn) (v : Value) : Prop where
  rB : W.rangeAt g 0 (b.B.map B)
  rA : W.rangeAt g 32 (b.A.map B)
  cG : W.cell? ⟨g, 64, none⟩ = some v
  all : W.rangeAt g 0 (brC b v)
theorem BrAt.below {W W' : World} {g : Nat} {b : Brn} {v : Value} (h : BrAt W g b v) (hb : Below W.heap.size W W') : BrAt W' g b v :=
  ⟨rangeAt_below' h.rB hb, rangeAt_below' h.rA hb, cell_below' hb h.cG, rangeAt_below' h.all hb⟩
structure Brn.ok (b : Brn) : Prop where
  b32 : b.B.length = 32
  a32 : b.A.length = 32
  ints : ∀ x ∈ b.G, I64 x
theorem brAt_row {W : World} {g : Nat} {b : Brn} {v : Value} (h1 : b.B.length = 32) (h2 : b.A.length = 32) {t : TypeId} {fr : Nat × Nat} (hg : W.heap[g]? = some (.cells (brC b v).toArray t fr)) : BrAt W g b v := by
  have hr := rangeAt_row hg
  have e0 : (brC b v).take 32 = b.B.map B := by unfold brC; exact List.take_left' (by rw [List.length_map, h1])
  have e1 : (brC b v).drop 32 = b.A.map B ++ [v] := by unfold brC; exact List.drop_left' (by rw [List.length_map, h1])
  have r0 := rangeAt_take hr 32
  rw [e0] at r0
  have r1 := rangeAt_drop hr 32
  rw [e1, Nat.zero_add] at r1
  have r2 := rangeAt_take r1 32
  rw [List.take_left' (by rw [List.length_map, h2])] at r2
  refine ⟨r0, r2, ?_, hr⟩
  have := r1 32 v (by rw [List.getElem?_append_right (by rw [List.length_map, h2]; exact Nat.le_refl _), List.length_map, h2]; rfl)
  simpa using this
theorem brC_info {b : Brn} (h1 : b.B.length = 32) (h2 : b.A.length = 32) (v : Value) : (Tryz.prog.info? 50).map (·.size) = some (brC b v).length := by rw [len_brC h1 h2]; kernel_rfl
theorem eqDg (a b : Bytes) (ha : a.length = 32) (hb : b.length = 32) (w : World) : (Op.equalIn 10000 26 (.agg (a.map B).toArray) (.agg (b.map B).toArray)).run Tryz.prog w = .ok (a == b) w := by
  rw [show (10000 : Nat) = 9998 + 1 + 1 from rfl, eqDig_s 9998 a b ha hb]
theorem burnB_len (l : List Ltr) (t : Int) : (burnB l t).B.length = 32 ∧ (burnB l t).A.length = 32 := by
  unfold burnB
  split
  · exact ⟨rootB_len _, rootB_len _⟩
  · exact ⟨rfl, rfl⟩

theorem kfew_any (a : Option Addr) (n c : Nat) (w : World) : Calls Tryz.prog 7 #[.slice a n c] w fun e w' => e = .returned (.bool (decide (n ≤ 12))) ∧ w = w' := by
  by_cases h : n ≤ 12
  · have q1 : (n : Int) ≤ 12 := by omega
    go_enter Tryz.func7, Tryz.ntmps7
    go_wp2
    go_ret
    exact ⟨by first | rfl | (rw [decide_eq_true h]; rfl), rfl⟩
  · have q1 : ¬ (n : Int) ≤ 12 := by omega
    go_enter Tryz.func7, Tryz.ntmps7
    go_wp2
    go_ret
    exact ⟨by first | rfl | (rw [decide_eq_false h]; rfl), rfl⟩

def rootF45 (l : List Ltr) : Bytes := if chkL l = 0 then rootB (l.map txK) else zb32
theorem rootF45_len (l : List Ltr) : (rootF45 l).length = 32 := by
  unfold rootF45
  split
  · exact rootB_len _
  · rfl
set_option maxHeartbeats 2000000 in
theorem kroot_any (a : Option Addr) (n c : Nat) (l : List Ltr) (w : World) (hG : Glob w) (hd : IsC Ltr.C 38 w a n c l) (hok : ∀ x ∈ l, x.ok) (hn : n ≤ 100) :
    Calls Tryz.prog 8 #[.slice a n c] w fun e w' => e = .returned (.tuple #[.agg ((rootF45 l).map B).toArray, .int .i64 (chkL l)]) ∧ Below w.heap.size w w' := by
  obtain ⟨X, hX⟩ : ∃ X : World, X = w.alloc (.cells #[.int .u8 0, .int .u8 0, .int .u8 0, .int .u8 0, .int .u8 0, .int .u8 0, .int .u8 0, .int .u8 0, .int .u8 0, .int .u8 0, .int .u8 0, .int .u8 0, .int .u8 0, .int .u8 0, .int .u8 0, .int .u8 0, .int .u8 0, .int .u8 0, .int .u8 0, .int .u8 0, .int .u8 0, .int .u8 0, .int .u8 0, .int .u8 0, .int .u8 0, .int .u8 0, .int .u8 0, .int .u8 0, .int .u8 0, .int .u8 0, .int .u8 0, .int .u8 0] 26) := ⟨_, rfl⟩
  have HX : Seal (Below w.heap.size w X ∧ X.heap[w.heap.size]? = some (.cells #[.int .u8 0, .int .u8 0, .int .u8 0, .int .u8 0, .int .u8 0, .int .u8 0, .int .u8 0, .int .u8 0, .int .u8 0, .int .u8 0, .int .u8 0, .int .u8 0, .int .u8 0, .int .u8 0, .int .u8 0, .int .u8 0, .int .u8 0, .int .u8 0, .int .u8 0, .int .u8 0, .int .u8 0, .int .u8 0, .int .u8 0, .int .u8 0, .int .u8 0, .int .u8 0, .int .u8 0, .int .u8 0, .int .u8 0, .int .u8 0, .int .u8 0, .int .u8 0] 26 (0, 0)) ∧ w.heap.size < X.heap.size) := ⟨by rw [hX]; exact ⟨below_alloc _ _, heap_alloc_new w _, by rw [size_alloc]; omega⟩⟩
  have HC1 := Seal.mk (kchk_any a n c l X (hG.below HX.out.1) (hd.below HX.out.1) hok)
  have HRt : Seal (∀ W, Below w.heap.size w W → Calls Tryz.prog 26 #[.slice a n c] W fun e w' => e = .returned (.agg ((rootB (l.map txK)).map B).toArray) ∧ Below W.heap.size W w') := ⟨fun W h => droot_any a n c l W (hG.below h) (hd.below h) hok hn⟩
  obtain ⟨e0, he0⟩ : ∃ e, e = chkL l := ⟨_, rfl⟩
  obtain ⟨R, hR⟩ : ∃ R, R = rootF45 l := ⟨_, rfl⟩
  rw [← he0] at HC1 ⊢
  rw [← hR]
  have hl := rootB_len (l.map txK)
  by_cases hz : e0 = 0
  · have hRe : R = rootB (l.map txK) := by rw [hR]; unfold rootF45; rw [← he0, if_pos hz]
    rw [← hRe] at HRt hl
    obtain ⟨D, hD⟩ : ∃ D, D = (R.map B).toArray := ⟨_, rfl⟩
    have ID : Seal ((Tryz.prog.info? 26).map (·.size) = some D.size ∧ (#[.int .u8 0, .int .u8 0, .int .u8 0, .int .u8 0, .int .u8 0, .int .u8 0, .int .u8 0, .int .u8 0, .int .u8 0, .int .u8 0, .int .u8 0, .int .u8 0, .int .u8 0, .int .u8 0, .int .u8 0, .int .u8 0, .int .u8 0, .int .u8 0, .int .u8 0, .int .u8 0, .int .u8 0, .int .u8 0, .int .u8 0, .int .u8 0, .int .u8 0, .int .u8 0, .int .u8 0, .int .u8 0, .int .u8 0, .int .u8 0, .int .u8 0, .int .u8 0] : Array Value).size = D.size ∧ D.all (·.oneCell') = true) := ⟨by rw [hD, List.size_toArray]; exact dg_info _ hl, by show 32 = D.size; rw [hD, List.size_toArray, List.length_map, hl], by rw [hD]; simp [Value.oneCell']⟩
    rw [← hD] at HRt ⊢
    clear hG hd hok hn he0 hR hl hRe hD
    subst hz
    go_enter Tryz.func8, Tryz.ntmps8
    go_upto_region 1 with (fail)
    rw [← hX]
    clear hX
    go_wp2_with fail
    refine HC1.out.mono ?_
    rintro e w1 ⟨rfl, hb⟩
    have HX1 : Seal (Below w.heap.size w w1 ∧ w1.heap[w.heap.size]? = some (.cells #[.int .u8 0, .int .u8 0, .int .u8 0, .int .u8 0, .int .u8 0, .int .u8 0, .int .u8 0, .int .u8 0, .int .u8 0, .int .u8 0, .int .u8 0, .int .u8 0, .int .u8 0, .int .u8 0, .int .u8 0, .int .u8 0, .int .u8 0, .int .u8 0, .int .u8 0, .int .u8 0, .int .u8 0, .int .u8 0, .int .u8 0, .int .u8 0, .int .u8 0, .int .u8 0, .int .u8 0, .int .u8 0, .int .u8 0, .int .u8 0, .int .u8 0, .int .u8 0] 26 (0, 0)) ∧ w.heap.size < w1.heap.size) := ⟨HX.out.1.trans (hb.mono HX.out.1.size), (hb.block _ HX.out.2.2).trans HX.out.2.1, Nat.lt_of_lt_of_le HX.out.2.2 hb.size⟩
    clear hb HC1 HX
    go_wp2_with fail
    refine (HRt.out w1 HX1.out.1).mono ?_
    rintro e w2 ⟨rfl, hb⟩
    have HX2 : Seal (Below w.heap.size w w2 ∧ w2.heap[w.heap.size]? = some (.cells #[.int .u8 0, .int .u8 0, .int .u8 0, .int .u8 0, .int .u8 0, .int .u8 0, .int .u8 0, .int .u8 0, .int .u8 0, .int .u8 0, .int .u8 0, .int .u8 0, .int .u8 0, .int .u8 0, .int .u8 0, .int .u8 0, .int .u8 0, .int .u8 0, .int .u8 0, .int .u8 0, .int .u8 0, .int .u8 0, .int .u8 0, .int .u8 0, .int .u8 0, .int .u8 0, .int .u8 0, .int .u8 0, .int .u8 0, .int .u8 0, .int .u8 0, .int .u8 0] 26 (0, 0))) := ⟨HX1.out.1.trans (hb.mono HX1.out.1.size), (hb.block _ HX1.out.2.2).trans HX1.out.2.1⟩
    clear hb HX1 HRt
    go_wp2_with (refine wpList_store_row rfl 26 (.tmp 2) (.tmp 12) rfl w.heap.size D rfl rfl 26 #[.int .u8 0, .int .u8 0, .int .u8 0, .int .u8 0, .int .u8 0, .int .u8 0, .int .u8 0, .int .u8 0, .int .u8 0, .int .u8 0, .int .u8 0, .int .u8 0, .int .u8 0, .int .u8 0, .int .u8 0, .int .u8 0, .int .u8 0, .int .u8 0, .int .u8 0, .int .u8 0, .int .u8 0, .int .u8 0, .int .u8 0, .int .u8 0, .int .u8 0, .int .u8 0, .int .u8 0, .int .u8 0, .int .u8 0, .int .u8 0, .int .u8 0, .int .u8 0] HX2.out.2 ID.out.1 ID.out.2.1 ID.out.2.2 ?_)
    refine bodyPost_ret (results_row_tmp (fn := Tryz.f8) rfl _ _ w.heap.size 26 D (0, 0) _ _ rfl rfl (setRow_heap _ _ _ _ _ _ HX2.out.2) Tryz.underlying26 rfl ID.out.1) rfl ?_
    exact ⟨rfl, below_row HX2.out.1 (Nat.le_refl _) _⟩
  · have hRe : R = zb32 := by rw [hR]; unfold rootF45; rw [← he0, if_neg hz]
    have ID : Seal ((Tryz.prog.info? 26).map (·.size) = some (#[.int .u8 0, .int .u8 0, .int .u8 0, .int .u8 0, .int .u8 0, .int .u8 0, .int .u8 0, .int .u8 0, .int .u8 0, .int .u8 0, .int .u8 0, .int .u8 0, .int .u8 0, .int .u8 0, .int .u8 0, .int .u8 0, .int .u8 0, .int .u8 0, .int .u8 0, .int .u8 0, .int .u8 0, .int .u8 0, .int .u8 0, .int .u8 0, .int .u8 0, .int .u8 0, .int .u8 0, .int .u8 0, .int .u8 0, .int .u8 0, .int .u8 0, .int .u8 0] : Array Value).size ∧ (#[.int .u8 0, .int .u8 0, .int .u8 0, .int .u8 0, .int .u8 0, .int .u8 0, .int .u8 0, .int .u8 0, .int .u8 0, .int .u8 0, .int .u8 0, .int .u8 0, .int .u8 0, .int .u8 0, .int .u8 0, .int .u8 0, .int .u8 0, .int .u8 0, .int .u8 0, .int .u8 0, .int .u8 0, .int .u8 0, .int .u8 0, .int .u8 0, .int .u8 0, .int .u8 0, .int .u8 0, .int .u8 0, .int .u8 0, .int .u8 0, .int .u8 0, .int .u8 0] : Array Value).all (·.oneCell') = true ∧ (R.map B).toArray = #[.int .u8 0, .int .u8 0, .int .u8 0, .int .u8 0, .int .u8 0, .int .u8 0, .int .u8 0, .int .u8 0, .int .u8 0, .int .u8 0, .int .u8 0, .int .u8 0, .int .u8 0, .int .u8 0, .int .u8 0, .int .u8 0, .int .u8 0, .int .u8 0, .int .u8 0, .int .u8 0, .int .u8 0, .int .u8 0, .int .u8 0, .int .u8 0, .int .u8 0, .int .u8 0, .int .u8 0, .int .u8 0, .int .u8 0, .int .u8 0, .int .u8 0, .int .u8 0]) := ⟨by kernel_rfl, by kernel_rfl, by rw [hRe]; kernel_rfl⟩
    rw [ID.out.2.2]
    clear hG hd hok hn he0 hR hl hRe HRt
    go_enter Tryz.func8, Tryz.ntmps8
    go_upto_region 1 with (fail)
    rw [← hX]
    clear hX
    go_wp2_with fail
    refine HC1.out.mono ?_
    rintro e w1 ⟨rfl, hb⟩
    have HX1 : Seal (Below w.heap.size w w1 ∧ w1.heap[w.heap.size]? = some (.cells #[.int .u8 0, .int .u8 0, .int .u8 0, .int .u8 0, .int .u8 0, .int .u8 0, .int .u8 0, .int .u8 0, .int .u8 0, .int .u8 0, .int .u8 0, .int .u8 0, .int .u8 0, .int .u8 0, .int .u8 0, .int .u8 0, .int .u8 0, .int .u8 0, .int .u8 0, .int .u8 0, .int .u8 0, .int .u8 0, .int .u8 0, .int .u8 0, .int .u8 0, .int .u8 0, .int .u8 0, .int .u8 0, .int .u8 0, .int .u8 0, .int .u8 0, .int .u8 0] 26 (0, 0))) := ⟨HX.out.1.trans (hb.mono HX.out.1.size), (hb.block _ HX.out.2.2).trans HX.out.2.1⟩
    clear hb HC1 HX
    go_wp2_with (refine wpList_store_row rfl 26 (.tmp 2) (.tmp 9) rfl w.heap.size #[.int .u8 0, .int .u8 0, .int .u8 0, .int .u8 0, .int .u8 0, .int .u8 0, .int .u8 0, .int .u8 0, .int .u8 0, .int .u8 0, .int .u8 0, .int .u8 0, .int .u8 0, .int .u8 0, .int .u8 0, .int .u8 0, .int .u8 0, .int .u8 0, .int .u8 0, .int .u8 0, .int .u8 0, .int .u8 0, .int .u8 0, .int .u8 0, .int .u8 0, .int .u8 0, .int .u8 0, .int .u8 0, .int .u8 0, .int .u8 0, .int .u8 0, .int .u8 0] rfl rfl 26 #[.int .u8 0, .int .u8 0, .int .u8 0, .int .u8 0, .int .u8 0, .int .u8 0, .int .u8 0, .int .u8 0, .int .u8 0, .int .u8 0, .int .u8 0, .int .u8 0, .int .u8 0, .int .u8 0, .int .u8 0, .int .u8 0, .int .u8 0, .int .u8 0, .int .u8 0, .int .u8 0, .int .u8 0, .int .u8 0, .int .u8 0, .int .u8 0, .int .u8 0, .int .u8 0, .int .u8 0, .int .u8 0, .int .u8 0, .int .u8 0, .int .u8 0, .int .u8 0] HX1.out.2 ID.out.1 rfl ID.out.2.1 ?_)
    refine bodyPost_ret (results_row_tmp (fn := Tryz.f8) rfl _ _ w.heap.size 26 #[.int .u8 0, .int .u8 0, .int .u8 0, .int .u8 0, .int .u8 0, .int .u8 0, .int .u8 0, .int .u8 0, .int .u8 0, .int .u8 0, .int .u8 0, .int .u8 0, .int .u8 0, .int .u8 0, .int .u8 0, .int .u8 0, .int .u8 0, .int .u8 0, .int .u8 0, .int .u8 0, .int .u8 0, .int .u8 0, .int .u8 0, .int .u8 0, .int .u8 0, .int .u8 0, .int .u8 0, .int .u8 0, .int .u8 0, .int .u8 0, .int .u8 0, .int .u8 0] (0, 0) _ _ rfl rfl (setRow_heap _ _ _ _ _ _ HX1.out.2) Tryz.underlying26 rfl ID.out.1) rfl ?_
    exact ⟨rfl, below_row HX1.out.1 (Nat.le_refl _) _⟩
end Frk

/- Law 45: SameBurnt, Verify. -/
namespace Frk
open Go Go.RowKit Go.Proofs
set_option maxRecDepth 100000

def brnB (b c : Brn) : Bool := (b.B == c.B) && ((b.A == c.A) && decide (b.G = c.G))
/-- is a proof right? -/
def verB (l m : List Ltr) (t : Int) (b : Brn) : Bool := decide (burnE l t = 0) && (decide (chkL m = 0) && (decide (burnL l t = m) && brnB b (burnB l t)))

set_option maxHeartbeats 8000000 in
theorem kverify_any (a am : Option Addr) (n c nm cm : Nat) (l m : List Ltr) (t : Int) (b : Brn) (v : Value) (w : World) (hG : Glob w) (hd : IsC Ltr.C 38 w a n c l) (hok : ∀ x ∈ l, x.ok) (hn : n ≤ 100) (hm : IsC Ltr.C 38 w am nm cm m) (hmok : ∀ x ∈ m, x.ok)
    (hb1 : b.B.length = 32) (hb2 : b.A.length = 32) (hv : GoneAt w v b.G) :
    Calls Tryz.prog 20 #[.slice a n c, .slice am nm cm, .int .i64 t, .agg (brC b v).toArray] w fun e w' => e = .returned (.bool (verB l m t b)) ∧ Below w.heap.size w w' := by
  obtain ⟨X, hX⟩ : ∃ X : World, X = w.alloc (.cells (brC b v).toArray 50) := ⟨_, rfl⟩
  have HB : Seal (Below w.heap.size w X) := ⟨by rw [hX]; exact below_alloc _ _⟩
  have HA1 : Seal (BrAt X w.heap.size b v) := ⟨brAt_row hb1 hb2 (by rw [hX]; exact heap_alloc_new w _)⟩
  have HBurn := Seal.mk (kburn_any a n c l t X (hG.below HB.out) (hd.below HB.out) hok hn)
  have HM : Seal (∀ W, Below w.heap.size w W → Glob W ∧ IsC Ltr.C 38 W am nm cm m ∧ GoneAt W v b.G) := ⟨fun W h => ⟨hG.below h, hm.below h, hv.below h⟩⟩
  have HMok := Seal.mk hmok
  obtain ⟨e0, he0⟩ : ∃ e, e = burnE l t := ⟨_, rfl⟩
  obtain ⟨BL, hBL⟩ : ∃ e, e = burnL l t := ⟨_, rfl⟩
  obtain ⟨BB, hBB⟩ : ∃ e, e = burnB l t := ⟨_, rfl⟩
  have hBl := burnB_len l t
  have HBLok : Seal (∀ x ∈ BL, x.ok) := ⟨fun x hx => by
    rw [hBL] at hx
    unfold burnL at hx
    split at hx
    · exact hok x (List.mem_filter.1 hx).1
    · cases hx⟩
  obtain ⟨k0, hk0⟩ : ∃ e, e = chkL m := ⟨_, rfl⟩
  obtain ⟨t0, ht0⟩ : ∃ e, e = decide (BL = m) := ⟨_, rfl⟩
  rw [← hBL, ← hBB, ← he0] at HBurn
  rw [← hBB] at hBl
  obtain ⟨t1, ht1⟩ : ∃ e, e = (b.B == BB.B) := ⟨_, rfl⟩
  obtain ⟨t2, ht2⟩ : ∃ e, e = (b.A == BB.A) := ⟨_, rfl⟩
  obtain ⟨t3, ht3⟩ : ∃ e, e = decide (b.G = BB.G) := ⟨_, rfl⟩
  have HR : Seal (verB l m t b = (decide (e0 = 0) && (decide (k0 = 0) && (t0 && (t1 && (t2 && t3)))))) := ⟨by unfold verB brnB; rw [ht0, ht1, ht2, ht3, hk0, he0, hBL, hBB]⟩
  have HL : Seal (b.B.length = 32 ∧ b.A.length = 32 ∧ BB.B.length = 32 ∧ BB.A.length = 32) := ⟨hb1, hb2, hBl.1, hBl.2⟩
  obtain ⟨CB, hCB⟩ : ∃ L, L = (brC b v).toArray := ⟨_, rfl⟩
  have HT := Seal.mk (And.intro ht0 (And.intro ht1 (And.intro ht2 (And.intro ht3 hk0))))
  have ud := Tryz.underlying26
  obtain ⟨RV, hRV⟩ : ∃ r, r = verB l m t b := ⟨_, rfl⟩
  rw [← hRV] at HR ⊢
  rw [← hCB] at hX ⊢
  clear hG hd hok hn hm hmok hb1 hb2 hv he0 hBL hBB hBl hk0 ht0 ht1 ht2 ht3 hCB hRV
  go_enter Tryz.func20, Tryz.ntmps20
  go_upto_region 1 with (fail)
  rw [← hX]
  clear hX
  obtain ⟨gx, hgx⟩ : ∃ g, g = w.heap.size := ⟨_, rfl⟩
  rw [← hgx] at HA1 ⊢
  clear hgx
  go_wp2_with fail
  refine HBurn.out.mono ?_
  rintro e w1 ⟨a1, c1, v1, rfl, hi1, hbw⟩
  obtain ⟨C1, hC1⟩ : ∃ L, L = brC BB v1 := ⟨_, rfl⟩
  obtain ⟨V, hV⟩ : ∃ V, V = w1.alloc (.cells C1.toArray 50) := ⟨_, rfl⟩
  have hVz : (w1.alloc (.cells Tryz.zeroCells50 50)).setRow w1.heap.size C1.toArray = V := by rw [hV, brz_zs]; exact setRow_new w1 _ C1 _
  have hn5 := heap_alloc_new w1 (.cells Tryz.zeroCells50 50)
  have hbv : Below w1.heap.size w1 V := by rw [hV]; exact below_alloc _ _
  have HA2 : Seal (BrAt V w1.heap.size BB v1) := ⟨brAt_row HL.out.2.2.1 HL.out.2.2.2 (by rw [hV, hC1]; exact heap_alloc_new w1 _)⟩
  have HA1 : Seal (BrAt V gx b v) := ⟨(HA1.out.below hbw).below hbv⟩
  have HV : Seal (Below w.heap.size w V ∧ IsC Ltr.C 38 V a1 BL.length c1 BL ∧ GoneAt V v1 BB.G) := ⟨(HB.out.trans (hbw.mono HB.out.size)).trans (hbv.mono (Nat.le_trans HB.out.size hbw.size)), hi1.out.1.below hbv, hi1.out.2.below hbv⟩
  have IC : Seal ((Tryz.prog.info? 50).map (·.size) = some C1.toArray.size ∧ Tryz.zeroCells50.size = C1.toArray.size ∧ C1.toArray.all (·.oneCell') = true) := ⟨by
    have hv1 : v1.oneCell' = true := by obtain ⟨_, _, e, _⟩ := hi1.out.2; rw [e]; rfl
    rw [hC1]
    exact ⟨by rw [List.size_toArray]; exact brC_info HL.out.2.2.1 HL.out.2.2.2 v1, by rw [brz_zs, List.size_toArray, List.size_toArray, len_brC HL.out.2.2.1 HL.out.2.2.2]; rfl, all_oneCell_toArray (brC_one _ hv1)⟩⟩
  rw [← hC1]
  obtain ⟨gy, hgy⟩ : ∃ g, g = w1.heap.size := ⟨_, rfl⟩
  have hgyn := hgy.symm
  rw [hgyn] at HA2 hVz hn5
  clear hi1 hbw hC1 hV hbv HBurn HB hgy
  have HCk : Seal (Calls Tryz.prog 12 #[.slice am nm cm] V fun e w' => e = .returned (.int .i64 k0) ∧ Below V.heap.size V w') := ⟨by rw [HT.out.2.2.2.2]; exact kchk_any am nm cm m V (HM.out V HV.out.1).1 (HM.out V HV.out.1).2.1 HMok.out⟩
  have HEq : Seal (∀ W, Below V.heap.size V W → Calls Tryz.prog 41 #[.slice a1 BL.length c1, .slice am nm cm] W fun e w' => e = .returned (.bool t0) ∧ Below W.heap.size W w') := ⟨fun W h => by rw [HT.out.1]; exact keq_any a1 am _ c1 nm cm BL m W (HV.out.2.1.below h) ((HM.out V HV.out.1).2.1.below h) (fun x hx => (HBLok.out x hx).t32) (fun x hx => (HMok.out x hx).t32)⟩
  have HIq : Seal (∀ W, Below V.heap.size V W → Calls Tryz.prog 42 #[v, v1] W fun e w' => e = .returned (.bool t3) ∧ Below W.heap.size W w') := ⟨fun W h => by
    rw [HT.out.2.2.2.1]
    obtain ⟨p1, p2, ep, hp⟩ := (HM.out V HV.out.1).2.2
    obtain ⟨s1, s2, es, hs⟩ := HV.out.2.2
    rw [ep, es]
    exact ieq_any p1 s1 _ p2 _ s2 b.G BB.G W (hp.below h) (hs.below h)⟩
  obtain ⟨L1, hL1⟩ : ∃ L, L = b.B.map B := ⟨_, rfl⟩
  obtain ⟨L2, hL2⟩ : ∃ L, L = b.A.map B := ⟨_, rfl⟩
  obtain ⟨M1, hM1⟩ : ∃ L, L = BB.B.map B := ⟨_, rfl⟩
  obtain ⟨M2, hM2⟩ : ∃ L, L = BB.A.map B := ⟨_, rfl⟩
  have qe1 : ∀ w, (Op.equalIn 10000 26 (.agg L1.toArray) (.agg M1.toArray)).run Tryz.prog w = .ok t1 w := fun w => by rw [hL1, hM1, HT.out.2.1]; exact eqDg _ _ HL.out.1 HL.out.2.2.1 w
  have qe2 : ∀ w, (Op.equalIn 10000 26 (.agg L2.toArray) (.agg M2.toArray)).run Tryz.prog w = .ok t2 w := fun w => by rw [hL2, hM2, HT.out.2.2.1]; exact eqDg _ _ HL.out.2.1 HL.out.2.2.2 w
  have i1 : (Tryz.prog.info? 26).map (·.size) = some L1.length := by rw [hL1]; exact dg_info _ HL.out.1
  have i2 : (Tryz.prog.info? 26).map (·.size) = some L2.length := by rw [hL2]; exact dg_info _ HL.out.2.1
  have i3 : (Tryz.prog.info? 26).map (·.size) = some M1.length := by rw [hM1]; exact dg_info _ HL.out.2.2.1
  have i4 : (Tryz.prog.info? 26).map (·.size) = some M2.length := by rw [hM2]; exact dg_info _ HL.out.2.2.2
  have KA : Seal (Ko V fun W => W.rangeAt gx 0 L1 ∧ W.rangeAt gx 32 L2 ∧ W.rangeAt gy 0 M1 ∧ W.rangeAt gy 32 M2 ∧ W.cell? ⟨gx, 64, none⟩ = some v ∧ W.cell? ⟨gy, 64, none⟩ = some v1) := ⟨fun W h => by
    have h1 := HA1.out.below h
    have h2 := HA2.out.below h
    rw [hL1, hL2, hM1, hM2]
    exact ⟨h1.rB, h1.rA, h2.rB, h2.rA, h1.cG, h2.cG⟩⟩
  clear hL1 hL2 hM1 hM2 HA1 HA2
  have HE : Seal (Below w.heap.size w V) := ⟨HV.out.1⟩
  by_cases hz : e0 = 0
  · subst hz
    go_wp2_with ((try rw [hgyn]); refine wpList_store_row rfl 50 (.tmp 10) (.tmp 17) rfl gy C1.toArray rfl rfl 50 _ hn5 IC.out.1 IC.out.2.1 IC.out.2.2 ?_; rw [hVz]; clear hVz hn5 hgyn; (try simp only [Act.put]))
    refine HCk.out.mono ?_
    rintro e w2 ⟨rfl, hb⟩
    have HE : Seal (Below w.heap.size w w2) := ⟨HV.out.1.trans (hb.mono HV.out.1.size)⟩
    have HV2 := Seal.mk hb
    clear hb HCk
    by_cases hk : k0 = 0
    · subst hk
      go_wp2_with fail
      refine (HEq.out w2 HV2.out).mono ?_
      rintro e w3 ⟨rfl, hb⟩
      have HE : Seal (Below w.heap.size w w3) := ⟨HE.out.trans (hb.mono HE.out.size)⟩
      have HV3 := Seal.mk (HV2.out.trans (hb.mono HV2.out.size))
      have KV := KA.out w3 HV3.out
      have c1 := KV.2.2.2.2.1
      have c2 := KV.2.2.2.2.2
      clear hb HEq HV2
      cases t0 with
      | false =>
        go_wp2
        go_ret
        exact ⟨by rw [HR.out]; simp, HE.out⟩
      | true =>
        cases t1 with
        | false =>
          go_wp2_with
            (first
              | (refine wpList_load_mid_g (by kernel_rfl) 26 (.tmp 32) rfl gx 0 rfl L1 _ KV.1 ud rfl i1 ?_; (try simp only [Act.put, List.setIfInBounds_toArray, List.set_cons_zero, List.set_cons_succ]))
              | (refine wpList_load_mid_g (by kernel_rfl) 26 (.tmp 34) rfl gy 0 rfl M1 _ KV.2.2.1 ud rfl i3 ?_; (try simp only [Act.put, List.setIfInBounds_toArray, List.set_cons_zero, List.set_cons_succ]))
              | (refine wpList_load_mid_g (by kernel_rfl) 26 (.tmp 39) rfl gx 32 rfl L2 _ KV.2.1 ud rfl i2 ?_; (try simp only [Act.put, List.setIfInBounds_toArray, List.set_cons_zero, List.set_cons_succ]))
              | (refine wpList_load_mid_g (by kernel_rfl) 26 (.tmp 41) rfl gy 32 rfl M2 _ KV.2.2.2.1 ud rfl i4 ?_; (try simp only [Act.put, List.setIfInBounds_toArray, List.set_cons_zero, List.set_cons_succ])))
          go_ret
          exact ⟨by rw [HR.out]; simp, HE.out⟩
        | true =>
          cases t2 with
          | false =>
            go_wp2_with
              (first
                | (refine wpList_load_mid_g (by kernel_rfl) 26 (.tmp 32) rfl gx 0 rfl L1 _ KV.1 ud rfl i1 ?_; (try simp only [Act.put, List.setIfInBounds_toArray, List.set_cons_zero, List.set_cons_succ]))
                | (refine wpList_load_mid_g (by kernel_rfl) 26 (.tmp 34) rfl gy 0 rfl M1 _ KV.2.2.1 ud rfl i3 ?_; (try simp only [Act.put, List.setIfInBounds_toArray, List.set_cons_zero, List.set_cons_succ]))
                | (refine wpList_load_mid_g (by kernel_rfl) 26 (.tmp 39) rfl gx 32 rfl L2 _ KV.2.1 ud rfl i2 ?_; (try simp only [Act.put, List.setIfInBounds_toArray, List.set_cons_zero, List.set_cons_succ]))
                | (refine wpList_load_mid_g (by kernel_rfl) 26 (.tmp 41) rfl gy 32 rfl M2 _ KV.2.2.2.1 ud rfl i4 ?_; (try simp only [Act.put, List.setIfInBounds_toArray, List.set_cons_zero, List.set_cons_succ])))
            go_ret
            exact ⟨by rw [HR.out]; simp, HE.out⟩
          | true =>
            go_wp2_with
              (first
                | (refine wpList_load_mid_g (by kernel_rfl) 26 (.tmp 32) rfl gx 0 rfl L1 _ KV.1 ud rfl i1 ?_; (try simp only [Act.put, List.setIfInBounds_toArray, List.set_cons_zero, List.set_cons_succ]))
                | (refine wpList_load_mid_g (by kernel_rfl) 26 (.tmp 34) rfl gy 0 rfl M1 _ KV.2.2.1 ud rfl i3 ?_; (try simp only [Act.put, List.setIfInBounds_toArray, List.set_cons_zero, List.set_cons_succ]))
                | (refine wpList_load_mid_g (by kernel_rfl) 26 (.tmp 39) rfl gx 32 rfl L2 _ KV.2.1 ud rfl i2 ?_; (try simp only [Act.put, List.setIfInBounds_toArray, List.set_cons_zero, List.set_cons_succ]))
                | (refine wpList_load_mid_g (by kernel_rfl) 26 (.tmp 41) rfl gy 32 rfl M2 _ KV.2.2.2.1 ud rfl i4 ?_; (try simp only [Act.put, List.setIfInBounds_toArray, List.set_cons_zero, List.set_cons_succ])))
            refine (HIq.out w3 HV3.out).mono ?_
            rintro e w4 ⟨rfl, hb⟩
            have HE : Seal (Below w.heap.size w w4) := ⟨HE.out.trans (hb.mono HE.out.size)⟩
            clear hb HIq KV c1 c2
            go_wp2
            go_ret
            exact ⟨by rw [HR.out]; simp, HE.out⟩
    · have hk2 : decide (k0 = 0) = false := decide_eq_false hk
      have hk3 : (k0 == 0) = false := by rw [beq_eq_false_iff_ne]; exact hk
      go_wp2
      go_ret
      exact ⟨by rw [HR.out, hk2]; simp, HE.out⟩
  · have hz2 : decide (e0 = 0) = false := decide_eq_false hz
    have hz3 : (e0 == 0) = false := by rw [beq_eq_false_iff_ne]; exact hz
    go_wp2_with ((try rw [hgyn]); refine wpList_store_row rfl 50 (.tmp 10) (.tmp 17) rfl gy C1.toArray rfl rfl 50 _ hn5 IC.out.1 IC.out.2.1 IC.out.2.2 ?_; rw [hVz]; clear hVz hn5 hgyn; (try simp only [Act.put]))
    go_ret
    exact ⟨by rw [HR.out, hz2]; rfl, HE.out⟩
end Frk

