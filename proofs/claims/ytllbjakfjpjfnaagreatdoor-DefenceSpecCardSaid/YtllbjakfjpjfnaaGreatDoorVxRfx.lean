/- ref57.Text. -/
import Derived.Test.YtllbjakfjpjfnaaGreatDoorVxFdg
import Derived.Test.YtllbjakfjpjfnaaGreatDoorVxgHop
import Derived.Test.YtllbjakfjpjfnaaGreatDoorVxMkb
namespace Frk
open Go Go.RowKit Go.Proofs
set_option maxRecDepth 100000

theorem size_valF (w : World) : (Go.sizeOf 51).run Tryz.prog w = .ok 4 w := by kernel_rfl
theorem zero_valF (w : World) : (zeroValue 51).run Tryz.prog w = .ok (.agg #[.int .i64 0, .int .i64 0, .string ByteArray.empty, .slice none 0 0]) w := by kernel_rfl
def lc4 (n : Int) : List Value := [.int .i64 1, .int .i64 n, .string ByteArray.empty, .slice none 0 0]
/-- the words behind which the loop stands -/
def wdsC (c : Cas) : List Lf := [.i c.W1, .i c.W2, .i c.W3]
def hdC (c : Cas) : List Lf := [.i c.L, .i c.A, .i c.R, .i c.P]
def TxRel (B : Nat) (w0 : World) (c : Cas) (s i : Value) (w : World) : Prop :=
  ∃ (k : Nat) (v : Value), k ≤ 3 ∧ v = s ∧ i = .int .i64 k ∧ Seal (w.ownsRow B 51 4 v (4 + k) (lcs (hdC c ++ (wdsC c).take k)) ∧ Below B w0 w ∧ B ≤ w.heap.size)
set_option maxHeartbeats 4000000 in
theorem rtext57_any (x : CaX) (w : World) (hl : IsL w x.aF x.nF x.cF x.c.F) (hm : x.nF ≤ 100) :
    Calls Tryz.prog 38 #[.agg x.C.toArray] w fun e w' => ∃ g cap, e = .returned (.agg #[.int .i64 3, .int .i64 0, .string ByteArray.empty, .slice (some ⟨g, 0, none⟩) 8 cap]) ∧
      Seal (LeavesAt w' g 0 (lfC x.c (rootB (x.c.F.map txL))) ∧ 8 ≤ cap ∧ g < w'.heap.size ∧ Below w.heap.size w w') := by
  obtain ⟨X1, hX1⟩ : ∃ X : World, X = w.alloc (.cells x.C.toArray 35) := ⟨_, rfl⟩
  obtain ⟨X, hX⟩ : ∃ X : World, X = X1.alloc (.cells #[.int .i64 0, .int .i64 0, .string ⟨#[]⟩, .slice none 0 0] 51) := ⟨_, rfl⟩
  have b1 : Below w.heap.size w X1 := by rw [hX1]; exact below_alloc _ _
  have b2 : Below X1.heap.size X1 X := by rw [hX]; exact below_alloc _ _
  have s1 : X1.heap.size = w.heap.size + 1 := by rw [hX1, size_alloc]
  obtain ⟨gx, hgx⟩ : ∃ g, g = w.heap.size := ⟨_, rfl⟩
  obtain ⟨g2, hg2⟩ : ∃ g, g = w.heap.size + 1 := ⟨_, rfl⟩
  have hcx := (caAt_of (W := X1) (g := gx) (x := x) (by rw [hX1, hgx]; exact rangeAt_row (heap_alloc_new w _))).below b2
  have h2 : X.heap[g2]? = some (.cells #[.int .i64 0, .int .i64 0, .string ⟨#[]⟩, .slice none 0 0] 51 (0, 0)) := by rw [hg2, ← s1, hX]; exact heap_alloc_new X1 _
  have sX : X.heap.size = w.heap.size + 2 := by rw [hX, size_alloc, s1]
  have HB : Seal (Below w.heap.size w X ∧ X.heap.size = w.heap.size + 2) := ⟨b1.trans (b2.mono b1.size), sX⟩
  have H2 := Seal.mk h2
  have HG := Seal.mk (And.intro hgx hg2)
  obtain ⟨cc, hcc⟩ : ∃ c, c = x.c := ⟨_, rfl⟩
  obtain ⟨vF, hvF⟩ : ∃ v, v = Value.slice x.aF x.nF x.cF := ⟨_, rfl⟩
  obtain ⟨xL, hxL⟩ : ∃ z, z = cc.L := ⟨_, rfl⟩
  obtain ⟨xA, hxA⟩ : ∃ z, z = cc.A := ⟨_, rfl⟩
  obtain ⟨xR, hxR⟩ : ∃ z, z = cc.R := ⟨_, rfl⟩
  obtain ⟨xP, hxP⟩ : ∃ z, z = cc.P := ⟨_, rfl⟩
  have kL := hcx.L
  have kA := hcx.A
  have kR := hcx.R
  have kP := hcx.P
  have kF := hcx.F
  have kW := hcx.words
  rw [← hcc, ← hxL] at kL
  rw [← hcc, ← hxA] at kA
  rw [← hcc, ← hxR] at kR
  rw [← hcc, ← hxP] at kP
  rw [← hcc] at kW
  rw [← hvF] at kF
  have HRoot : Seal (∀ W, Below w.heap.size w W → Calls Tryz.prog 63 #[vF] W fun e w' => e = .returned (.agg ((rootB (cc.F.map txL)).map B).toArray) ∧ Below W.heap.size W w') := ⟨fun W h => by rw [hvF, hcc]; exact rroot48_any x.aF x.nF x.cF x.c.F W (hl.of_heap h) hm⟩
  have HW : Seal (∀ W, Below X.heap.size X W → W.cell? ⟨gx, 3, none⟩ = some vF ∧ W.rangeAt gx 7 [.int .i64 cc.W1, .int .i64 cc.W2, .int .i64 cc.W3] ∧ W.heap[g2]? = some (.cells #[.int .i64 0, .int .i64 0, .string ⟨#[]⟩, .slice none 0 0] 51 (0, 0))) := ⟨fun W h => ⟨cell_below' h kF, rangeAt_below' kW h, (h.block _ (Array.getElem?_eq_some_iff.1 h2).1).trans h2⟩⟩
  have hXX : X = (w.alloc (.cells x.C.toArray 35)).alloc (.cells #[.int .i64 0, .int .i64 0, .string ⟨#[]⟩, .slice none 0 0] 51) := by rw [hX, hX1]
  have H4 : Seal (hdC cc = [.i xL, .i xA, .i xR, .i xP]) := ⟨by rw [hxL, hxA, hxR, hxP]; rfl⟩
  obtain ⟨CX, hCX⟩ : ∃ C, C = x.C.toArray := ⟨_, rfl⟩
  rw [← hCX] at hXX ⊢
  obtain ⟨i0, hi, hz0, hz1, hz2⟩ := info_parts info_val
  have HI := Seal.mk (And.intro hi (And.intro hz0 (And.intro hz1 hz2)))
  rw [← hcc]
  clear hX hX1 b1 b2 s1 hcx h2 sX hcc hvF hxL hxA hxR hxP kW hCX hl hm hi hz0 hz1 hz2
  go_enter Tryz.func38, Tryz.ntmps38
  go_upto_region 1 with (fail)
  rw [← hXX, ← hg2, ← hgx]
  clear hXX hg2 hgx
  refine wp_region_held_drew (S := fun W => W.cell? ⟨gx, 0, none⟩ = some (.int .i64 xL) ∧ W.cell? ⟨gx, 1, none⟩ = some (.int .i64 xA) ∧ W.cell? ⟨gx, 2, none⟩ = some (.int .i64 xR) ∧ W.cell? ⟨gx, 6, none⟩ = some (.int .i64 xP)) (by kernel_rfl) ⟨kL, kA, kR, kP⟩ (fun hHeld => ?_)
  obtain ⟨V, hV⟩ : ∃ V, V = X.drew := ⟨_, rfl⟩
  have HV : Seal (Below X.heap.size X V) := ⟨by rw [hV]; exact below_drewn_f _⟩
  rw [← hV] at hHeld ⊢
  clear hV kL kA kR kP kF
  refine take_h 0 ?_ rfl (by kernel_rfl) (by kernel_rfl) (by kernel_rfl) (fun _ _ _ h => h) (Or.inl ⟨by kernel_rfl, ?_⟩) (by assumption) ?_
  rotate_left
  · (intro w hSw; (try dsimp only at hSw); go_simp; try (with_reducible rfl))
  try simp only [Act.put, List.setIfInBounds_toArray, List.set_cons_zero, List.set_cons_succ]
  refine take_h 1 ?_ rfl (by kernel_rfl) (by kernel_rfl) (by kernel_rfl) (fun _ _ _ h => h) (Or.inl ⟨by kernel_rfl, ?_⟩) (by assumption) ?_
  rotate_left
  · (intro w hSw; (try dsimp only at hSw); go_simp; try (with_reducible rfl))
  try simp only [Act.put, List.setIfInBounds_toArray, List.set_cons_zero, List.set_cons_succ]
  refine take_h 2 ?_ rfl (by kernel_rfl) (by kernel_rfl) (by kernel_rfl) (fun _ _ _ h => h) (Or.inl ⟨by kernel_rfl, ?_⟩) (by assumption) ?_
  rotate_left
  · (intro w hSw; (try dsimp only at hSw); go_simp; try (with_reducible rfl))
  try simp only [Act.put, List.setIfInBounds_toArray, List.set_cons_zero, List.set_cons_succ]
  refine take_h 4 ?_ rfl (by kernel_rfl) (by kernel_rfl) (by kernel_rfl) (fun _ _ _ h => h) (Or.inl ⟨by kernel_rfl, ?_⟩) (by assumption) ?_
  rotate_left
  · (intro w hSw; (try dsimp only at hSw); go_simp; try (with_reducible rfl))
  try simp only [Act.put, List.setIfInBounds_toArray, List.set_cons_zero, List.set_cons_succ]
  refine take_h 5 ?_ rfl (by kernel_rfl) (by kernel_rfl) (by kernel_rfl) (fun _ _ _ h => h) (Or.inl ⟨by kernel_rfl, ?_⟩) (by assumption) ?_
  rotate_left
  · (intro w hSw; (try dsimp only at hSw); go_simp; try (with_reducible rfl))
  try simp only [Act.put, List.setIfInBounds_toArray, List.set_cons_zero, List.set_cons_succ]
  refine take_h 6 ?_ rfl (by kernel_rfl) (by kernel_rfl) (by kernel_rfl) (fun _ _ _ h => h) (Or.inl ⟨by kernel_rfl, ?_⟩) (by assumption) ?_
  rotate_left
  · (intro w hSw; (try dsimp only at hSw); go_simp; try (with_reducible rfl))
  try simp only [Act.put, List.setIfInBounds_toArray, List.set_cons_zero, List.set_cons_succ]
  refine take_h 8 ?_ rfl (by kernel_rfl) (by kernel_rfl) (by kernel_rfl) (fun _ _ _ h => h) (Or.inl ⟨by kernel_rfl, ?_⟩) (by assumption) ?_
  rotate_left
  · (intro w hSw; (try dsimp only at hSw); go_simp; try (with_reducible rfl))
  try simp only [Act.put, List.setIfInBounds_toArray, List.set_cons_zero, List.set_cons_succ]
  refine take_h 9 ?_ rfl (by kernel_rfl) (by kernel_rfl) (by kernel_rfl) (fun _ _ _ h => h) (Or.inl ⟨by kernel_rfl, ?_⟩) (by assumption) ?_
  rotate_left
  · (intro w hSw; (try dsimp only at hSw); go_simp; try (with_reducible rfl))
  try simp only [Act.put, List.setIfInBounds_toArray, List.set_cons_zero, List.set_cons_succ]
  refine take_h 10 ?_ rfl (by kernel_rfl) (by kernel_rfl) (by kernel_rfl) (fun _ _ _ h => h) (Or.inl ⟨by kernel_rfl, ?_⟩) (by assumption) ?_
  rotate_left
  · (intro w hSw; (try dsimp only at hSw); go_simp; try (with_reducible rfl))
  try simp only [Act.put, List.setIfInBounds_toArray, List.set_cons_zero, List.set_cons_succ]
  refine take_h 12 ?_ rfl (by kernel_rfl) (by kernel_rfl) (by kernel_rfl) (fun _ _ _ h => h) (Or.inl ⟨by kernel_rfl, ?_⟩) (by assumption) ?_
  rotate_left
  · (intro w hSw; (try dsimp only at hSw); go_simp; try (with_reducible rfl))
  try simp only [Act.put, List.setIfInBounds_toArray, List.set_cons_zero, List.set_cons_succ]
  refine take_h 13 ?_ rfl (by kernel_rfl) (by kernel_rfl) (by kernel_rfl) (fun _ _ _ h => h) (Or.inl ⟨by kernel_rfl, ?_⟩) (by assumption) ?_
  rotate_left
  · (intro w hSw; (try dsimp only at hSw); go_simp; try (with_reducible rfl))
  try simp only [Act.put, List.setIfInBounds_toArray, List.set_cons_zero, List.set_cons_succ]
  refine take_h 14 ?_ rfl (by kernel_rfl) (by kernel_rfl) (by kernel_rfl) (fun _ _ _ h => h) (Or.inl ⟨by kernel_rfl, ?_⟩) (by assumption) ?_
  rotate_left
  · (intro w hSw; (try dsimp only at hSw); go_simp; try (with_reducible rfl))
  try simp only [Act.put, List.setIfInBounds_toArray, List.set_cons_zero, List.set_cons_succ]
  refine call_h 3 rfl (by kernel_rfl) 60 #[.int .i64 xL] (by kernel_rfl) (by go_simp) ?_
  refine (rnumber13_any xL V).mono ?_
  rintro e V1 ⟨rfl, hb⟩
  refine ⟨_, rfl, ⟨cell_below' hb hHeld.1, cell_below' hb hHeld.2.1, cell_below' hb hHeld.2.2.1, cell_below' hb hHeld.2.2.2⟩, fun hHeld2 => ?_⟩
  have HV := Seal.mk (HV.out.trans (hb.mono HV.out.size))
  clear hHeld hb
  have hHeld := hHeld2
  clear hHeld2
  try simp only [Act.put, List.setIfInBounds_toArray, List.set_cons_zero, List.set_cons_succ]
  refine call_h 7 rfl (by kernel_rfl) 60 #[.int .i64 xA] (by kernel_rfl) (by go_simp) ?_
  refine (rnumber13_any xA V1).mono ?_
  rintro e V2 ⟨rfl, hb⟩
  refine ⟨_, rfl, ⟨cell_below' hb hHeld.1, cell_below' hb hHeld.2.1, cell_below' hb hHeld.2.2.1, cell_below' hb hHeld.2.2.2⟩, fun hHeld2 => ?_⟩
  have HV := Seal.mk (HV.out.trans (hb.mono HV.out.size))
  clear hHeld hb
  have hHeld := hHeld2
  clear hHeld2
  try simp only [Act.put, List.setIfInBounds_toArray, List.set_cons_zero, List.set_cons_succ]
  refine call_h 11 rfl (by kernel_rfl) 60 #[.int .i64 xR] (by kernel_rfl) (by go_simp) ?_
  refine (rnumber13_any xR V2).mono ?_
  rintro e V3 ⟨rfl, hb⟩
  refine ⟨_, rfl, ⟨cell_below' hb hHeld.1, cell_below' hb hHeld.2.1, cell_below' hb hHeld.2.2.1, cell_below' hb hHeld.2.2.2⟩, fun hHeld2 => ?_⟩
  have HV := Seal.mk (HV.out.trans (hb.mono HV.out.size))
  clear hHeld hb
  have hHeld := hHeld2
  clear hHeld2
  try simp only [Act.put, List.setIfInBounds_toArray, List.set_cons_zero, List.set_cons_succ]
  refine call_h 15 rfl (by kernel_rfl) 60 #[.int .i64 xP] (by kernel_rfl) (by go_simp) ?_
  refine (rnumber13_any xP V3).mono ?_
  rintro e V4 ⟨rfl, hb⟩
  refine ⟨_, rfl, ⟨cell_below' hb hHeld.1, cell_below' hb hHeld.2.1, cell_below' hb hHeld.2.2.1, cell_below' hb hHeld.2.2.2⟩, fun hHeld2 => ?_⟩
  have HV := Seal.mk (HV.out.trans (hb.mono HV.out.size))
  clear hHeld hb
  have hHeld := hHeld2
  clear hHeld2
  try simp only [Act.put, List.setIfInBounds_toArray, List.set_cons_zero, List.set_cons_succ]
  obtain ⟨gB, hgB⟩ : ∃ g, g = V4.heap.size := ⟨_, rfl⟩
  obtain ⟨V5, hV5⟩ : ∃ Z, Z = V4.alloc (.cells [lc4 xL, lc4 xA, lc4 xR, lc4 xP].flatten.toArray 51) := ⟨_, rfl⟩
  have hb := below_alloc V4 (.cells [lc4 xL, lc4 xA, lc4 xR, lc4 xP].flatten.toArray 51)
  rw [← hV5] at hb
  have HO : Seal (V5.ownsRow gB 51 4 (.slice (some ⟨gB, 0, none⟩) 4 4) 4 (lcs (hdC cc)) ∧ Below gB V4 V5 ∧ gB ≤ V5.heap.size) := ⟨by
    refine ⟨⟨rfl, .inr ⟨gB, 4, [lc4 xL, lc4 xA, lc4 xR, lc4 xP].flatten.toArray, rfl, Nat.le_refl _, by rw [hV5, hgB]; exact heap_alloc_new V4 _, Nat.le_refl _, by decide, rfl, ?_⟩⟩, by rw [hgB]; exact hb, by rw [hgB]; exact hb.size⟩
    rw [H4.out]; rfl⟩
  have HB4 : Seal (Below X.heap.size X V4 ∧ gB = V4.heap.size) := ⟨HV.out, hgB⟩
  refine oper_h 16 (.slice (some ⟨gB, 0, none⟩) 4 4) V5 rfl (by kernel_rfl) (by kernel_rfl) (by rw [hV5, hgB]; exact exec_bslice rfl [lc4 xL, lc4 xA, lc4 xR, lc4 xP] Tryz.underlying49 V4 (size_valF V4) (zero_valF V4) rfl rfl (by intro D hD; simp only [List.mem_cons, List.not_mem_nil, or_false] at hD; rcases hD with rfl | rfl | rfl | rfl <;> rfl) (by decide) (by decide) rfl) ⟨cell_below' hb hHeld.1, cell_below' hb hHeld.2.1, cell_below' hb hHeld.2.2.1, cell_below' hb hHeld.2.2.2⟩ (fun hHeld2 => ?_)
  clear hgB
  try simp only [Act.put, List.setIfInBounds_toArray, List.set_cons_zero, List.set_cons_succ]
  refine take_h 17 ?_ rfl (by kernel_rfl) (by kernel_rfl) (by kernel_rfl) (fun _ _ _ h => h) (Or.inl ⟨by kernel_rfl, ?_⟩) (by assumption) ?_
  rotate_left
  · (intro w hSw; (try dsimp only at hSw); go_simp; try (with_reducible rfl))
  try simp only [Act.put, List.setIfInBounds_toArray, List.set_cons_zero, List.set_cons_succ]
  refine wpAnyH_done (by kernel_rfl) ?_ _
  clear hHeld hHeld2 hb hV5 HV H4
  go_wp2
  go_loopw [3, 4] (fun s i wr => TxRel gB V4 cc s i wr) (fun _ i _ => 3 - (intOf i).toNat)
  case atStart => exact ⟨0, _, Nat.zero_le _, rfl, rfl, ⟨by simpa using HO.out⟩⟩
  case round =>
    obtain ⟨k, v, hk, rfl, rfl, HR⟩ := hrel
    have hbX : Below X.heap.size X wr := HB4.out.1.trans ((by have := HB4.out.2; rw [← this]; exact HR.out.2.1 : Below V4.heap.size V4 wr).mono HB4.out.1.size)
    have HbX := Seal.mk hbX
    clear hbX
    by_cases hlt : k < 3
    · have p1 : (k : Int) < 3 := by omega
      have p2 : (0 : Int) ≤ (k : Int) := by omega
      obtain ⟨n, hn⟩ : ∃ n, ([cc.W1, cc.W2, cc.W3] : List Int)[k]? = some n := ⟨_, List.getElem?_eq_getElem hlt⟩
      have cw : wr.cell? ⟨gx, 7 + k, none⟩ = some (.int .i64 n) := (HW.out wr HbX.out).2.1 k _ (by
        rw [show ([.int .i64 cc.W1, .int .i64 cc.W2, .int .i64 cc.W3] : List Value) = ([cc.W1, cc.W2, cc.W3] : List Int).map (Value.int .i64) from rfl, List.getElem?_map, hn]; rfl)
      have HT : Seal ((wdsC cc).take (k + 1) = (wdsC cc).take k ++ [.i n]) := ⟨by
        rw [List.take_add_one, show wdsC cc = ([cc.W1, cc.W2, cc.W3] : List Int).map Lf.i from rfl, List.getElem?_map, hn]; rfl⟩
      clear hn
      go_wp2_with fail
      refine (rnumber13_any n wr).mono ?_
      rintro e w1 ⟨rfl, hb⟩
      have HO1 : Seal (w1.ownsRow gB 51 4 v (4 + k) (lcs (hdC cc ++ (wdsC cc).take k)) ∧ Below gB V4 w1 ∧ gB ≤ w1.heap.size) := ⟨ownsRow_below HR.out.1 hb, HR.out.2.1.trans (hb.mono HR.out.2.2), Nat.le_trans HR.out.2.2 hb.size⟩
      obtain ⟨a0, c0, rfl⟩ : ∃ a0 c0, v = .slice a0 (4 + k) c0 := by
        obtain ⟨g', c', e, _⟩ := HR.out.1.form (by omega)
        exact ⟨_, _, e⟩
      clear hb cw HR
      go_wp2_with (at_builtin; refine wpList_append_lies _ rfl (.tmp 26) (.tmp 33) 49 rfl gB 51 i0 _ 4 56 Tryz.underlying49 HI.out.1 HI.out.2.1 HI.out.2.2.1 HI.out.2.2.2 rfl (by decide) (.slice a0 (4 + k) c0) (4 + k) (lcs (hdC cc ++ (wdsC cc).take k)) rfl (HO1.out.1.alloc _) ⟨w1.heap.size, 0, none⟩ 1 1 (lc4 n) rfl rfl (World.news_of_block (heap_alloc_new w1 _)) (by simp [lc4, Value.oneCell']) (by decide) (by unfold maxLen; omega) (by omega) (by rw [size_alloc]; have := HO1.out.2.2; omega) _ rfl ?_; intro g1 cap1 w2 hown2 hgrow2 hat2 hlt2; have HG2 := Seal.mk (And.intro hown2 hgrow2); clear hown2 hgrow2 hat2 hlt2)
      refine ⟨⟨k + 1, _, by omega, rfl, by go_num, ⟨?_, ?_, ?_⟩⟩, by simp only [intOf]; omega⟩
      · rw [HT.out, ← List.append_assoc]
        have e : lcs (hdC cc ++ (wdsC cc).take k ++ [.i n]) = lcs (hdC cc ++ (wdsC cc).take k) ++ lc4 n := by unfold lcs; simp [Lf.cells, lc4]
        rw [e]; exact HG2.out.1
      · exact (HO1.out.2.1.alloc HO1.out.2.2 _).grown HG2.out.2 (by rw [size_alloc]; have := HO1.out.2.2; omega) (fun q e => (HO1.out.1.lt q e).1)
      · have := HG2.out.2.size; rw [size_alloc] at this; have := HO1.out.2.2; omega
    · obtain rfl : k = 3 := by omega
      rw [show (wdsC cc).take 3 = wdsC cc from rfl] at HR
      obtain ⟨kF, _, _⟩ := HW.out wr HbX.out
      obtain ⟨a0, c0, rfl⟩ : ∃ a0 c0, v = .slice a0 7 c0 := by
        obtain ⟨g', c', e, _⟩ := HR.out.1.form (by omega)
        exact ⟨_, _, e⟩
      have HbW : Seal (∀ W, Below wr.heap.size wr W → Below w.heap.size w W) := ⟨fun W h => HB.out.1.trans ((HbX.out.trans (h.mono HbX.out.size)).mono HB.out.1.size)⟩
      go_wp2_with fail
      refine (HRoot.out wr (HbW.out wr (Below.refl _ _))).mono ?_
      rintro e w1 ⟨rfl, hb1⟩
      obtain ⟨RT, hRT⟩ : ∃ R, R = rootB (cc.F.map txL) := ⟨_, rfl⟩
      rw [← hRT]
      have h32 : RT.length = 32 := by rw [hRT]; exact rootB_len _
      obtain ⟨TC, hTC⟩ : ∃ C, C = (RT.map B).toArray := ⟨_, rfl⟩
      have hTx := rtext13_any RT w1 h32
      rw [← hTC] at hTx ⊢
      have HRT := Seal.mk hRT
      clear kF hRT hTC h32
      go_wp2_with fail
      refine hTx.mono ?_
      rintro e w2 ⟨rfl, hb2⟩
      have hb := hb1.trans (hb2.mono hb1.size)
      have HO2 : Seal (w2.ownsRow gB 51 4 (.slice a0 7 c0) 7 (lcs (hdC cc ++ wdsC cc)) ∧ Below gB V4 w2 ∧ gB ≤ w2.heap.size) := ⟨ownsRow_below HR.out.1 hb, HR.out.2.1.trans (hb.mono HR.out.2.2), Nat.le_trans HR.out.2.2 hb.size⟩
      clear hTx hb1 hb2 hb HR
      go_wp2_with (at_builtin; refine wpList_append_lies _ rfl (.tmp 35) (.tmp 40) 49 rfl gB 51 i0 _ 4 56 Tryz.underlying49 HI.out.1 HI.out.2.1 HI.out.2.2.1 HI.out.2.2.2 rfl (by decide) (.slice a0 7 c0) 7 (lcs (hdC cc ++ wdsC cc)) rfl (HO2.out.1.alloc _) ⟨w2.heap.size, 0, none⟩ 1 1 [.int .i64 2, .int .i64 0, .string ⟨RT.toArray⟩, .slice none 0 0] rfl rfl (World.news_of_block (heap_alloc_new w2 _)) (by simp [Value.oneCell']) (by decide) (by unfold maxLen; omega) (by omega) (by rw [size_alloc]; have := HO2.out.2.2; omega) _ rfl ?_; intro g1 cap1 w3 hown3 hgrow3 hat3 hlt3; have HG3 := Seal.mk (And.intro hown3 hgrow3); clear hown3 hgrow3 hat3 hlt3)
      have HO3 : Seal (w3.ownsRow gB 51 4 (.slice (some ⟨g1, 0, none⟩) 8 cap1) 8 (lcs (lfC cc RT)) ∧ Below gB V4 w3 ∧ gB ≤ w3.heap.size) := ⟨by
        refine ⟨?_, (HO2.out.2.1.alloc HO2.out.2.2 _).grown HG3.out.2 (by rw [size_alloc]; have := HO2.out.2.2; omega) (fun q e => (HO2.out.1.lt q e).1), ?_⟩
        · have e : lcs (lfC cc RT) = lcs (hdC cc ++ wdsC cc) ++ [.int .i64 2, .int .i64 0, .string ⟨RT.toArray⟩, .slice none 0 0] := rfl
          rw [e]; exact HG3.out.1
        · have := HG3.out.2.size; rw [size_alloc] at this; have := HO2.out.2.2; omega⟩
      clear HO2 HG3
      refine (rlist13_any (some ⟨g1, 0, none⟩) 8 cap1 w3).mono ?_
      rintro e w4 ⟨rfl, hb⟩
      have HO4 : Seal (w4.ownsRow gB 51 4 (.slice (some ⟨g1, 0, none⟩) 8 cap1) 8 (lcs (lfC cc RT)) ∧ Below gB V4 w4 ∧ gB ≤ w4.heap.size) := ⟨ownsRow_below HO3.out.1 hb, HO3.out.2.1.trans (hb.mono HO3.out.2.2), Nat.le_trans HO3.out.2.2 hb.size⟩
      clear HO3 hb
      have hX4 : Below X.heap.size X w4 := HB4.out.1.trans ((by have := HB4.out.2; rw [← this]; exact HO4.out.2.1 : Below V4.heap.size V4 w4).mono HB4.out.1.size)
      have H2 := Seal.mk (HW.out w4 hX4).2.2
      have HbZ := Seal.mk (HB.out.1.trans (hX4.mono HB.out.1.size))
      have hgB2 : g2 < gB := by have := HG.out; have := HB.out.2; have := HB4.out; have := HB4.out.1.size; omega
      have i4 : (Tryz.prog.info? 51).map (·.size) = some (#[Value.int .i64 3, .int .i64 0, .string ByteArray.empty, .slice (some ⟨g1, 0, none⟩) 8 cap1]).size := by kernel_rfl
      have HL2 := Seal.mk (And.intro hgB2 (show w.heap.size ≤ g2 by have := HG.out; omega))
      clear hX4 hgB2
      go_wp2_with (refine wpList_store_row rfl 51 (.tmp 2) (.tmp 42) rfl g2 #[.int .i64 3, .int .i64 0, .string ByteArray.empty, .slice (some ⟨g1, 0, none⟩) 8 cap1] rfl rfl 51 #[.int .i64 0, .int .i64 0, .string ⟨#[]⟩, .slice none 0 0] H2.out i4 rfl (by simp [Value.oneCell']) ?_)
      refine bodyPost_ret (results_cell_row (fn := Tryz.f38) rfl _ _ g2 51 #[.int .i64 3, .int .i64 0, .string ByteArray.empty, .slice (some ⟨g1, 0, none⟩) 8 cap1] (0, 0) _ rfl (setRow_heap _ _ _ _ _ _ H2.out) Tryz.underlying51 rfl i4) rfl ⟨g1, cap1, rfl, ?_⟩
      obtain ⟨W', hW'⟩ : ∃ W', W' = w4.setRow g2 #[.int .i64 3, .int .i64 0, .string ByteArray.empty, .slice (some ⟨g1, 0, none⟩) 8 cap1] := ⟨_, rfl⟩
      have hg1 : gB ≤ g1 := (HO4.out.1.lt g1 rfl).1
      have hne : g1 ≠ g2 := by have := HL2.out; omega
      have ho : W'.heap[g1]? = w4.heap[g1]? := by rw [hW']; exact setRow_other _ _ _ _ hne
      have hcap : 8 ≤ cap1 := by
        rcases HO4.out.1.2 with ⟨e, _⟩ | ⟨_, _, _, hv, _, _, hle, _⟩
        · cases e
        · cases hv; exact hle
      have hlt : g1 < w4.heap.size := by obtain ⟨g', c', e, _, h⟩ := HO4.out.1.form (by omega); cases e; exact h
      have hLA : LeavesAt W' g1 0 (lfC cc RT) := fun q y hy r c hrc => by
        have h2 := HO4.out.1.cells (g := g1) rfl (q * 4 + r) c (lcs_at _ q y hy r c hrc)
        rw [Addr.add_mid] at h2
        rw [Nat.add_assoc]
        exact (World.cell?_of_block (w := w4) ho).trans h2
      have hbf : Below w.heap.size w W' := by rw [hW']; exact below_row HbZ.out HL2.out.2 _
      rw [← HRT.out, ← hW']
      exact ⟨hLA, hcap, by rw [Array.getElem?_eq_getElem hlt] at ho; exact (Array.getElem?_eq_some_iff.1 ho).1, hbf⟩
end Frk
