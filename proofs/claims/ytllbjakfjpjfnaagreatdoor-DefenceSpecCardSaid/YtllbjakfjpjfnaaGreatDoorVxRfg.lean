/- ref13.Tagged, ref57.Digest. -/
import Derived.Test.YtllbjakfjpjfnaaGreatDoorVxRfx
namespace Frk
open Go Go.RowKit Go.Proofs
set_option maxRecDepth 100000

theorem dg_ones (T : Bytes) (h : T.length = 32) : (Tryz.prog.info? 42).map (·.size) = some ((T.map B).toArray).size ∧ (#[.int .u8 0, .int .u8 0, .int .u8 0, .int .u8 0, .int .u8 0, .int .u8 0, .int .u8 0, .int .u8 0, .int .u8 0, .int .u8 0, .int .u8 0, .int .u8 0, .int .u8 0, .int .u8 0, .int .u8 0, .int .u8 0, .int .u8 0, .int .u8 0, .int .u8 0, .int .u8 0, .int .u8 0, .int .u8 0, .int .u8 0, .int .u8 0, .int .u8 0, .int .u8 0, .int .u8 0, .int .u8 0, .int .u8 0, .int .u8 0, .int .u8 0, .int .u8 0] : Array Value).size = ((T.map B).toArray).size ∧ ((T.map B).toArray).all (·.oneCell') = true := by
  refine ⟨by rw [List.size_toArray]; exact dg_info _ h, ?_, by simp [Value.oneCell']⟩
  show 32 = _
  rw [List.size_toArray, List.length_map, h]
set_option maxHeartbeats 2000000 in
theorem rtagged13_any (tag : ByteArray) (g off k cap : Nat) (xs : List Lf) (w : World) (ht : tag.size ≤ 64) (hk : xs.length = k) (hkc : k ≤ cap) (hl : wgts xs + 300 ≤ 140737488355328) (hL : LeavesAt w g off xs) (hg : g < w.heap.size) (hf : ∀ y ∈ xs, y.fits) :
    Calls Tryz.prog 37 #[.string tag, .agg #[.int .i64 3, .int .i64 0, .string ByteArray.empty, .slice (some ⟨g, off, none⟩) k cap]] w fun e w' => e = .returned (.agg ((tagged tag.data.toList (encL xs)).map B).toArray) ∧ Below w.heap.size w w' := by
  obtain ⟨X1, hX1⟩ : ∃ X : World, X = w.alloc (.cells #[.int .i64 3, .int .i64 0, .string ByteArray.empty, .slice (some ⟨g, off, none⟩) k cap] 51) := ⟨_, rfl⟩
  obtain ⟨X, hX⟩ : ∃ X : World, X = X1.alloc (.cells #[.int .u8 0, .int .u8 0, .int .u8 0, .int .u8 0, .int .u8 0, .int .u8 0, .int .u8 0, .int .u8 0, .int .u8 0, .int .u8 0, .int .u8 0, .int .u8 0, .int .u8 0, .int .u8 0, .int .u8 0, .int .u8 0, .int .u8 0, .int .u8 0, .int .u8 0, .int .u8 0, .int .u8 0, .int .u8 0, .int .u8 0, .int .u8 0, .int .u8 0, .int .u8 0, .int .u8 0, .int .u8 0, .int .u8 0, .int .u8 0, .int .u8 0, .int .u8 0] 42) := ⟨_, rfl⟩
  have b1 : Below w.heap.size w X1 := by rw [hX1]; exact below_alloc _ _
  have b2 : Below X1.heap.size X1 X := by rw [hX]; exact below_alloc _ _
  have s1 : X1.heap.size = w.heap.size + 1 := by rw [hX1, size_alloc]
  obtain ⟨g4, hg4⟩ : ∃ g, g = w.heap.size + 1 := ⟨_, rfl⟩
  obtain ⟨g3, hg3⟩ : ∃ g, g = w.heap.size := ⟨_, rfl⟩
  have h3 : X.heap[g3]? = some (.cells #[.int .i64 3, .int .i64 0, .string ByteArray.empty, .slice (some ⟨g, off, none⟩) k cap] 51 (0, 0)) := by rw [hg3]; exact (b2.block _ (by omega)).trans (by rw [hX1]; exact heap_alloc_new w _)
  have h4 : X.heap[g4]? = some (.cells #[.int .u8 0, .int .u8 0, .int .u8 0, .int .u8 0, .int .u8 0, .int .u8 0, .int .u8 0, .int .u8 0, .int .u8 0, .int .u8 0, .int .u8 0, .int .u8 0, .int .u8 0, .int .u8 0, .int .u8 0, .int .u8 0, .int .u8 0, .int .u8 0, .int .u8 0, .int .u8 0, .int .u8 0, .int .u8 0, .int .u8 0, .int .u8 0, .int .u8 0, .int .u8 0, .int .u8 0, .int .u8 0, .int .u8 0, .int .u8 0, .int .u8 0, .int .u8 0] 42 (0, 0)) := by rw [hg4, ← s1, hX]; exact heap_alloc_new X1 _
  have b12 := b1.trans (b2.mono b1.size)
  have HB : Seal (Below w.heap.size w X) := ⟨b12⟩
  have H4 := Seal.mk h4
  have c0 : X.cell? ⟨g3, 0, none⟩ = some (.int .i64 3) := by rw [cell_of_row _ _ _ _ _ _ h3]; rfl
  have c1 : X.cell? ⟨g3, 1, none⟩ = some (.int .i64 0) := by rw [cell_of_row _ _ _ _ _ _ h3]; rfl
  have c2 : X.cell? ⟨g3, 2, none⟩ = some (.string ByteArray.empty) := by rw [cell_of_row _ _ _ _ _ _ h3]; rfl
  have c3 : X.cell? ⟨g3, 3, none⟩ = some (.slice (some ⟨g, off, none⟩) k cap) := by rw [cell_of_row _ _ _ _ _ _ h3]; rfl
  have HE : Seal _ := ⟨rencode_any g off k cap xs X hk hkc (by omega) (hL.below b12 hg) (Nat.lt_of_lt_of_le hg b12.size) hf⟩
  have hlen := encL_length xs
  obtain ⟨TX, hTX⟩ : ∃ T, T = encL xs := ⟨_, rfl⟩
  rw [← hTX] at HE hlen ⊢
  obtain ⟨D, hD⟩ : ∃ D, D = ((tagged tag.data.toList TX).map B).toArray := ⟨_, rfl⟩
  have HD := Seal.mk hD
  have HO : Seal ((Tryz.prog.info? 42).map (·.size) = some D.size ∧ (#[.int .u8 0, .int .u8 0, .int .u8 0, .int .u8 0, .int .u8 0, .int .u8 0, .int .u8 0, .int .u8 0, .int .u8 0, .int .u8 0, .int .u8 0, .int .u8 0, .int .u8 0, .int .u8 0, .int .u8 0, .int .u8 0, .int .u8 0, .int .u8 0, .int .u8 0, .int .u8 0, .int .u8 0, .int .u8 0, .int .u8 0, .int .u8 0, .int .u8 0, .int .u8 0, .int .u8 0, .int .u8 0, .int .u8 0, .int .u8 0, .int .u8 0, .int .u8 0] : Array Value).size = D.size ∧ D.all (·.oneCell') = true) := ⟨by rw [hD]; exact dg_ones _ (by unfold tagged; exact sha_length _)⟩
  have HTl : Seal (TX.length + 200 ≤ 140737488355328) := ⟨by omega⟩
  have hXX : X = (w.alloc (.cells #[.int .i64 3, .int .i64 0, .string ByteArray.empty, .slice (some ⟨g, off, none⟩) k cap] 51)).alloc (.cells #[.int .u8 0, .int .u8 0, .int .u8 0, .int .u8 0, .int .u8 0, .int .u8 0, .int .u8 0, .int .u8 0, .int .u8 0, .int .u8 0, .int .u8 0, .int .u8 0, .int .u8 0, .int .u8 0, .int .u8 0, .int .u8 0, .int .u8 0, .int .u8 0, .int .u8 0, .int .u8 0, .int .u8 0, .int .u8 0, .int .u8 0, .int .u8 0, .int .u8 0, .int .u8 0, .int .u8 0, .int .u8 0, .int .u8 0, .int .u8 0, .int .u8 0, .int .u8 0] 42) := by rw [hX, hX1]
  rw [← hD]
  have Ht := Seal.mk ht
  have HG := Seal.mk (And.intro hg3 hg4)
  clear hX hX1 b1 b2 s1 h3 h4 b12 hk hkc hl hL hg hf hlen hTX hD ht
  go_enter Tryz.func37, Tryz.ntmps37
  go_upto_region 1 with (fail)
  rw [← hXX, ← hg4, ← hg3]
  clear hXX hg4 hg3
  go_wp2_with fail
  refine HE.out.mono ?_
  rintro e w2 ⟨g', n, c, rfl, hS⟩
  have hb := hS.out.bel
  have HIs : Seal (IsB w2 (some ⟨g', 0, none⟩) n c TX) := ⟨hS.out.isB (by have := HTl.out; have := hS.out.len; omega)⟩
  have HB := Seal.mk (HB.out.trans (hb.mono HB.out.size))
  have H4 := Seal.mk ((hb.block _ (Array.getElem?_eq_some_iff.1 H4.out).1).trans H4.out)
  clear HE hS hb c0 c1 c2 c3
  go_wp2_with fail
  have hT := rtagged_any tag (some ⟨g', 0, none⟩) n c TX w2 HIs.out Ht.out (by have := HTl.out; have := HIs.out.llen; omega)
  rw [← HD.out] at hT
  refine hT.mono ?_
  rintro e w3 ⟨rfl, hb⟩
  have HB := Seal.mk (HB.out.trans (hb.mono HB.out.size))
  have H4 := Seal.mk ((hb.block _ (Array.getElem?_eq_some_iff.1 H4.out).1).trans H4.out)
  clear hT hb HIs
  go_wp2_with (refine wpList_store_row rfl 42 (.tmp 4) (.tmp 14) rfl g4 D rfl rfl 42 _ H4.out HO.out.1 HO.out.2.1 HO.out.2.2 ?_)
  exact bodyPost_ret (results_cell_row (fn := Tryz.f37) rfl _ _ g4 42 D (0, 0) _ rfl (setRow_heap _ _ _ _ _ _ H4.out) Tryz.underlying42 rfl HO.out.1) rfl ⟨rfl, below_row HB.out (by have := HG.out; omega) _⟩

set_option maxHeartbeats 2000000 in
theorem rdigest57_any (x : CaX) (w : World) (ok : x.ok) (hl : IsL w x.aF x.nF x.cF x.c.F) (hm : x.nF ≤ 100) :
    Calls Tryz.prog 9 #[.agg x.C.toArray] w fun e w' => e = .returned (.agg ((caseD x.c).map B).toArray) ∧ Below w.heap.size w w' := by
  obtain ⟨X1, hX1⟩ : ∃ X : World, X = w.alloc (.cells x.C.toArray 35) := ⟨_, rfl⟩
  obtain ⟨X, hX⟩ : ∃ X : World, X = X1.alloc (.cells #[.int .u8 0, .int .u8 0, .int .u8 0, .int .u8 0, .int .u8 0, .int .u8 0, .int .u8 0, .int .u8 0, .int .u8 0, .int .u8 0, .int .u8 0, .int .u8 0, .int .u8 0, .int .u8 0, .int .u8 0, .int .u8 0, .int .u8 0, .int .u8 0, .int .u8 0, .int .u8 0, .int .u8 0, .int .u8 0, .int .u8 0, .int .u8 0, .int .u8 0, .int .u8 0, .int .u8 0, .int .u8 0, .int .u8 0, .int .u8 0, .int .u8 0, .int .u8 0] 42) := ⟨_, rfl⟩
  have b1 : Below w.heap.size w X1 := by rw [hX1]; exact below_alloc _ _
  have b2 : Below X1.heap.size X1 X := by rw [hX]; exact below_alloc _ _
  have s1 : X1.heap.size = w.heap.size + 1 := by rw [hX1, size_alloc]
  obtain ⟨g2, hg2⟩ : ∃ g, g = w.heap.size + 1 := ⟨_, rfl⟩
  obtain ⟨gx, hgx⟩ : ∃ g, g = w.heap.size := ⟨_, rfl⟩
  have h2 : X.heap[g2]? = some (.cells #[.int .u8 0, .int .u8 0, .int .u8 0, .int .u8 0, .int .u8 0, .int .u8 0, .int .u8 0, .int .u8 0, .int .u8 0, .int .u8 0, .int .u8 0, .int .u8 0, .int .u8 0, .int .u8 0, .int .u8 0, .int .u8 0, .int .u8 0, .int .u8 0, .int .u8 0, .int .u8 0, .int .u8 0, .int .u8 0, .int .u8 0, .int .u8 0, .int .u8 0, .int .u8 0, .int .u8 0, .int .u8 0, .int .u8 0, .int .u8 0, .int .u8 0, .int .u8 0] 42 (0, 0)) := by rw [hg2, ← s1, hX]; exact heap_alloc_new X1 _
  have rX : X.rangeAt gx 0 x.C := rangeAt_below' (by rw [hX1, hgx]; exact rangeAt_row (heap_alloc_new w _)) b2
  have HB : Seal (Below w.heap.size w X) := ⟨b1.trans (b2.mono b1.size)⟩
  have H2 := Seal.mk h2
  have HTx : Seal _ := ⟨rtext57_any x X (hl.of_heap HB.out) hm⟩
  have hr32 : (rootB (x.c.F.map txL)).length = 32 := rootB_len _
  obtain ⟨RT, hRT⟩ : ∃ R, R = rootB (x.c.F.map txL) := ⟨_, rfl⟩
  rw [← hRT] at HTx hr32
  obtain ⟨D, hD⟩ : ∃ D, D = ((caseD x.c).map B).toArray := ⟨_, rfl⟩
  have hD2 : D = ((tagged tCase (encL (lfC x.c RT))).map B).toArray := by rw [hD, hRT]; rfl
  have HO : Seal ((Tryz.prog.info? 42).map (·.size) = some D.size ∧ (#[.int .u8 0, .int .u8 0, .int .u8 0, .int .u8 0, .int .u8 0, .int .u8 0, .int .u8 0, .int .u8 0, .int .u8 0, .int .u8 0, .int .u8 0, .int .u8 0, .int .u8 0, .int .u8 0, .int .u8 0, .int .u8 0, .int .u8 0, .int .u8 0, .int .u8 0, .int .u8 0, .int .u8 0, .int .u8 0, .int .u8 0, .int .u8 0, .int .u8 0, .int .u8 0, .int .u8 0, .int .u8 0, .int .u8 0, .int .u8 0, .int .u8 0, .int .u8 0] : Array Value).size = D.size ∧ D.all (·.oneCell') = true) := ⟨by rw [hD]; exact dg_ones _ (caseD_len _)⟩
  have HTg : Seal (∀ W g cap, LeavesAt W g 0 (lfC x.c RT) → 8 ≤ cap → g < W.heap.size → Calls Tryz.prog 37 #[.string ⟨#[99, 97, 115, 101]⟩, .agg #[.int .i64 3, .int .i64 0, .string ByteArray.empty, .slice (some ⟨g, 0, none⟩) 8 cap]] W fun e w' => e = .returned (.agg D) ∧ Below W.heap.size W w') := ⟨fun W g cap h1 h2 h3 => by
    rw [hD2]
    have hw : wgts (lfC x.c RT) ≤ 160 := by simp [lfC, wgts, Lf.wgt, hr32]
    refine rtagged13_any ⟨#[99, 97, 115, 101]⟩ g 0 8 cap (lfC x.c RT) W (by decide) rfl h2 (by omega) h1 h3 ?_
    intro y hy
    simp only [lfC, List.mem_cons, List.not_mem_nil, or_false] at hy
    rcases hy with rfl | rfl | rfl | rfl | rfl | rfl | rfl | rfl
    · exact ok.l
    · exact ok.a
    · exact ok.r
    · exact ok.p
    · exact ok.w1
    · exact ok.w2
    · exact ok.w3
    · show RT.length < 2 ^ 63
      rw [hr32]; decide⟩
  obtain ⟨CX, hCX⟩ : ∃ C, C = x.C := ⟨_, rfl⟩
  have iX : (Tryz.prog.info? 35).map (·.size) = some CX.length := by rw [hCX]; exact CaX.info _
  have uC := Tryz.underlying35
  have hXX : X = (w.alloc (.cells CX.toArray 35)).alloc (.cells #[.int .u8 0, .int .u8 0, .int .u8 0, .int .u8 0, .int .u8 0, .int .u8 0, .int .u8 0, .int .u8 0, .int .u8 0, .int .u8 0, .int .u8 0, .int .u8 0, .int .u8 0, .int .u8 0, .int .u8 0, .int .u8 0, .int .u8 0, .int .u8 0, .int .u8 0, .int .u8 0, .int .u8 0, .int .u8 0, .int .u8 0, .int .u8 0, .int .u8 0, .int .u8 0, .int .u8 0, .int .u8 0, .int .u8 0, .int .u8 0, .int .u8 0, .int .u8 0] 42) := by rw [hX, hX1, hCX]
  rw [← hCX] at rX HTx ⊢
  rw [← hD]
  have HG := Seal.mk (And.intro hgx hg2)
  clear hX hX1 b1 b2 s1 h2 hr32 hRT hD hD2 hCX ok hl hm
  go_enter Tryz.func9, Tryz.ntmps9
  go_upto_region 1 with (fail)
  rw [← hXX, ← hg2, ← hgx]
  clear hXX hg2 hgx
  go_wp2_with (refine wpList_load_mid_g (by kernel_rfl) 35 (.tmp 1) rfl gx 0 rfl CX _ rX uC rfl iX ?_; (try simp only [Act.put, List.setIfInBounds_toArray, List.set_cons_zero, List.set_cons_succ]))
  refine HTx.out.mono ?_
  rintro e w2 ⟨g, cap, rfl, hf⟩
  have hb := hf.out.2.2.2
  have HB := Seal.mk (HB.out.trans (hb.mono HB.out.size))
  have H2 := Seal.mk ((hb.block _ (Array.getElem?_eq_some_iff.1 H2.out).1).trans H2.out)
  have hT := HTg.out w2 g cap hf.out.1 hf.out.2.1 hf.out.2.2.1
  clear HTx hf hb rX
  go_wp2_with fail
  refine hT.mono ?_
  rintro e w3 ⟨rfl, hb⟩
  have HB := Seal.mk (HB.out.trans (hb.mono HB.out.size))
  have H2 := Seal.mk ((hb.block _ (Array.getElem?_eq_some_iff.1 H2.out).1).trans H2.out)
  clear hT hb
  go_wp2_with (refine wpList_store_row rfl 42 (.tmp 2) (.tmp 5) rfl g2 D rfl rfl 42 _ H2.out HO.out.1 HO.out.2.1 HO.out.2.2 ?_)
  exact bodyPost_ret (results_cell_row (fn := Tryz.f9) rfl _ _ g2 42 D (0, 0) _ rfl (setRow_heap _ _ _ _ _ _ H2.out) Tryz.underlying42 rfl HO.out.1) rfl ⟨rfl, below_row HB.out (by have := HG.out; omega) _⟩
end Frk
