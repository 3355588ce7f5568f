/- Tagged at no text. -/
import Derived.Test.YtkkkfkefbjpmaaaDoorGen
import Derived.Test.YtkkkfkefbjpmaaaDoorTag
import Derived.Test.YtkkkfkefbjpmaaaDoorPow
import Derived.Test.YtkkkfkefbjpmaaaDoorEnv
import Derived.Test.YtkkkfkefbjpmaaaDoorRnb
import Derived.RangeFuncCalls
import Derived.RangeFuncBound
import Derived.RangeFuncNested
import Derived.RangeFuncLeaves
import Derived.Test.YtkkkfkefbjpmaaaDoorHab
import Derived.Test.YtkkkfkefbjpmaaaDoorLawA
namespace Frk
open Go Go.RowKit Go.Proofs
set_option maxRecDepth 100000

theorem run_app_nil8 (w : World) (ty : TypeId) (base n : Nat) (v : Value) (xs : List Value) (hown : w.ownsRow base 5 1 v n xs) : (Builtin.append_ #[47, 47] ty #[v, .slice none 0 0]).run Tryd.prog w = .ok v w := by
  obtain ⟨i0, hi, _, _, _⟩ := info_parts info_u8
  exact run_append_owned_none (P := Tryd.prog) (w := w) base 47 ty 5 i0 1 Tryd.underlying47 hi v n xs hown

set_option maxHeartbeats 1000000 in
theorem concat_nil (p q g1 o1 n1 c1 cp : Nat) (l1 : Bytes) (w : World) (hp : w.cell? ⟨p, q, none⟩ = some (.slice (some ⟨g1, o1, none⟩) n1 c1)) (hq : w.cell? ⟨p, q + 1, none⟩ = some (.slice none 0 0))
    (h1 : l1.length = n1) (h0 : 0 < n1) (hn : n1 ≤ 140737488355328) (r1 : w.rangeAt g1 o1 (l1.map B)) :
   Calls Tryd.prog 111 #[.slice (some ⟨p, q, none⟩) 2 cp] w (CatPost w l1) := by
  have H1 := Seal.mk h1
  have R1 := Seal.mk r1
  clear h1 r1
  go_enter Tryd.func111, Tryd.ntmps111
  go_wp2
  refine wp_loop_rounds 3 ?_
  rw [rounds_succ]
  go_wp2
  rw [rounds_succ]
  go_wp2
  rw [rounds_succ]
  go_wp2_with (go_at_call 129; refine (grow_int _ (by omega) (by omega) _).mono ?_; rintro e w1 ⟨cap, rfl, hb1, hown1⟩)
  have HB1 := Seal.mk hb1
  have HO1 := Seal.mk hown1
  have hp1 : w1.cell? ⟨p, q, none⟩ = some (.slice (some ⟨g1, o1, none⟩) n1 c1) := (hb1.cell (p := ⟨p, q, none⟩) (block_lt_of_cell hp)).trans hp
  have hq1 : w1.cell? ⟨p, q + 1, none⟩ = some (.slice none 0 0) := (hb1.cell (p := ⟨p, q + 1, none⟩) (block_lt_of_cell hq)).trans hq
  have hpl := block_lt_of_cell hp
  clear hb1 hown1
  obtain ⟨i0, hi, hz0, hz1, hz2⟩ := info_parts info_u8
  have HI := Seal.mk (And.intro hi (And.intro hz0 (And.intro hz1 hz2)))
  clear hi hz0 hz1 hz2 hp hq
  go_wp2
  refine wp_loop_rounds 3 ?_
  rw [rounds_succ]
  have A1 : Seal ((l1.map B).length = n1 * 1) := ⟨by rw [List.length_map, H1.out, Nat.mul_one]⟩
  have A2 : Seal (∀ j u, (l1.map B)[j]? = some u → w1.cell? ((⟨g1, o1, none⟩ : Addr).add j) = some u) := ⟨fun j u hu => by rw [Addr.add_mid]; exact rangeAt_below' R1.out HB1.out j u hu⟩
  have A3 : Seal (∀ u ∈ l1.map B, u.oneCell' = true) := ⟨by simp [Value.oneCell']⟩
  go_wp2_with (at_builtin; refine wpList_append_own _ rfl (.tmp 31) (.tmp 32) 47 rfl w.heap.size 5 i0 (.int .u8 0) 1 1 Tryd.underlying47 HI.out.1 HI.out.2.1 HI.out.2.2.1 HI.out.2.2.2 rfl (by decide) _ 0 [] rfl HO1.out ⟨g1, o1, none⟩ n1 c1 (l1.map B) rfl A1.out A2.out A3.out (by unfold maxLen; omega) (by omega) HB1.out.size ?_; intro v2 w2 hown2 hgrow2 _)
  have HG2 := Seal.mk hgrow2
  have HO2 := Seal.mk hown2
  have hpn : some p ≠ (Value.slice (some ⟨w.heap.size, 0, none⟩) 0 cap).ownBlock := by intro e; have := Option.some.inj e; simp at this; omega
  have hpz : p < w1.heap.size := block_lt_of_cell hq1
  have hq2 : w2.cell? ⟨p, q + 1, none⟩ = some (.slice none 0 0) := (World.cell?_of_block (w := w1) (hgrow2.block p hpz hpn)).trans hq1
  have HB2 : Seal (Below w.heap.size w w2) := ⟨HB1.out.trans (below_of_grown (g := w.heap.size) hgrow2 (Nat.le_refl _) HB1.out.size)⟩
  clear hgrow2 hown2 hp1 hq1 hpn
  rw [rounds_succ]
  go_wp2_with (at_builtin; refine wpList_append_run rfl (.tmp 31) (.tmp 32) 47 47 rfl v2 (.slice none 0 0) v2 rfl rfl (fun ty => run_app_nil8 w2 ty w.heap.size (0 + n1) v2 _ HO2.out) ?_)
  rw [rounds_succ]
  go_wp2
  go_ret
  obtain ⟨hlen, hh⟩ := HO2.out
  rcases hh with ⟨_, h0'⟩ | ⟨g, cap', cur, hv, hg, hheap, hle, hmax, hsize, htake⟩
  · omega
  · refine ⟨g, cap', ?_, by rw [H1.out]; omega, hmax, hg, (Array.getElem?_eq_some_iff.1 hheap).1, HB2.out, ?_⟩
    · rw [H1.out]
      show Ending.returned v2 = _
      rw [hv, Nat.zero_add]
    · have hr := rangeAt_take (rangeAt_row (cs := cur.toList) (by simpa using hheap)) ((0 + n1) * 1)
      rw [htake] at hr
      simpa using hr

set_option maxHeartbeats 1000000 in
theorem tagged_nil (tag : ByteArray) (w : World) (hG : Glob w) (ht : 0 < tag.size) (ht2 : tag.size ≤ 64) :
   Calls Tryd.prog 76 #[.string tag, .slice none 0 0] w fun e w' => e = .returned (.agg ((tagged tag.data.toList []).map B).toArray) ∧ Below w.heap.size w w' := by
  obtain ⟨ct, W1, hrun, hW1⟩ := conv_str (w.alloc (.cells #[.int .u8 0, .int .u8 0, .int .u8 0, .int .u8 0, .int .u8 0, .int .u8 0, .int .u8 0, .int .u8 0, .int .u8 0, .int .u8 0, .int .u8 0, .int .u8 0, .int .u8 0, .int .u8 0, .int .u8 0, .int .u8 0, .int .u8 0, .int .u8 0, .int .u8 0, .int .u8 0, .int .u8 0, .int .u8 0, .int .u8 0, .int .u8 0, .int .u8 0, .int .u8 0, .int .u8 0, .int .u8 0, .int .u8 0, .int .u8 0, .int .u8 0, .int .u8 0] 25)) tag (by omega)
  have HG := Seal.mk hG
  have hsz1 := hW1.out.2.2.2.2
  rw [size_alloc] at hrun hsz1
  have HS1 := Seal.mk hsz1
  have HG1 : Glob W1 := (hG.below (below_alloc w _)).below hW1.out.1
  have hr1 : W1.rangeAt (w.heap.size + 1) 0 (tag.data.toList.map B) := by have := hW1.out.2.1; rwa [size_alloc] at this
  have HC1 := Seal.mk (sum_some (w.heap.size + 1) 0 tag.size ct tag.data.toList W1 HG1 (by simp) hW1.out.2.2.1 (by omega) hW1.out.2.2.2.1 hr1 (by omega))
  clear hG hsz1 HG1 hr1
  go_enter Tryd.func76, Tryd.ntmps76
  have HD1 : Seal ((Tryd.prog.info? 25).map (·.size) = some ((sha tag.data.toList).map B).length) := ⟨sha_info _⟩
  have HD2 : Seal (((sha tag.data.toList).map B).length = 32) := ⟨by rw [List.length_map, sha_length]⟩
  have HD3 : Seal (∀ u ∈ (sha tag.data.toList).map B, u.oneCell' = true) := ⟨by simp [Value.oneCell']⟩
  obtain ⟨D, hD⟩ : ∃ D, Seal (D = (sha tag.data.toList).map B) := ⟨_, ⟨rfl⟩⟩
  rw [← hD.out] at HD1 HD2 HD3 HC1
  go_wp2_with (first | (go_at_call 102; refine HC1.out.mono ?_; rintro e w2 ⟨rfl, hb2⟩) | (refine wpList_store_new rfl 25 (.tmp 5) (.tmp 8) rfl [.int .u8 0, .int .u8 0, .int .u8 0, .int .u8 0, .int .u8 0, .int .u8 0, .int .u8 0, .int .u8 0, .int .u8 0, .int .u8 0, .int .u8 0, .int .u8 0, .int .u8 0, .int .u8 0, .int .u8 0, .int .u8 0, .int .u8 0, .int .u8 0, .int .u8 0, .int .u8 0, .int .u8 0, .int .u8 0, .int .u8 0, .int .u8 0, .int .u8 0, .int .u8 0, .int .u8 0, .int .u8 0, .int .u8 0, .int .u8 0, .int .u8 0, .int .u8 0] D 25 rfl rfl HD1.out HD2.out.symm HD3.out ?_))
  have hs1 := HS1.out
  have hb0 : Below w.heap.size w w2 := (below_alloc w _).trans ((hW1.out.1.mono (by rw [size_alloc]; omega)).trans (hb2.mono (by omega)))
  have HB0 := Seal.mk hb0
  have hz1 : W1.heap[w.heap.size]? = some (.cells #[.int .u8 0, .int .u8 0, .int .u8 0, .int .u8 0, .int .u8 0, .int .u8 0, .int .u8 0, .int .u8 0, .int .u8 0, .int .u8 0, .int .u8 0, .int .u8 0, .int .u8 0, .int .u8 0, .int .u8 0, .int .u8 0, .int .u8 0, .int .u8 0, .int .u8 0, .int .u8 0, .int .u8 0, .int .u8 0, .int .u8 0, .int .u8 0, .int .u8 0, .int .u8 0, .int .u8 0, .int .u8 0, .int .u8 0, .int .u8 0, .int .u8 0, .int .u8 0] 25 (0, 0)) := (hW1.out.1.block _ (by rw [size_alloc]; omega)).trans (heap_alloc_new w _)
  have hz2' : w2.heap[w.heap.size]? = some (.cells #[.int .u8 0, .int .u8 0, .int .u8 0, .int .u8 0, .int .u8 0, .int .u8 0, .int .u8 0, .int .u8 0, .int .u8 0, .int .u8 0, .int .u8 0, .int .u8 0, .int .u8 0, .int .u8 0, .int .u8 0, .int .u8 0, .int .u8 0, .int .u8 0, .int .u8 0, .int .u8 0, .int .u8 0, .int .u8 0, .int .u8 0, .int .u8 0, .int .u8 0, .int .u8 0, .int .u8 0, .int .u8 0, .int .u8 0, .int .u8 0, .int .u8 0, .int .u8 0] 25 (0, 0)) := (hb2.block _ (by omega)).trans hz1
  have hz2 : w.heap.size + 2 ≤ w2.heap.size := by have := hb2.size; omega
  have hX : Below w.heap.size w ((w2.alloc (.cells D.toArray 25)).alloc (.cells #[.slice (some ⟨w2.heap.size, 0, none⟩) 32 32, .slice none 0 0] 47)) :=
    (hb0.alloc hb0.size _).alloc (by rw [size_alloc]; have := hb0.size; omega) _
  have hrow : ((w2.alloc (.cells D.toArray 25)).alloc (.cells #[.slice (some ⟨w2.heap.size, 0, none⟩) 32 32, .slice none 0 0] 47)).heap[w2.heap.size + 1]? = some (.cells #[.slice (some ⟨w2.heap.size, 0, none⟩) 32 32, .slice none 0 0] 47) := heap_alloc2_new w2 _ _
  have hdr : ((w2.alloc (.cells D.toArray 25)).alloc (.cells #[.slice (some ⟨w2.heap.size, 0, none⟩) 32 32, .slice none 0 0] 47)).rangeAt w2.heap.size 0 ((sha tag.data.toList).map B) := by
    rw [← hD.out]; exact World.rangeAt_alloc (rangeAt_new w2 D _ _) _
  have HC2 := Seal.mk (concat_nil (w2.heap.size + 1) 0 w2.heap.size 0 32 32 2 (sha tag.data.toList) _ (cell_of_row _ _ _ _ _ _ hrow) (cell_of_row _ _ _ _ _ _ hrow) (sha_length _) (by decide) (by omega) hdr)
  have HX := Seal.mk hX
  have HDR := Seal.mk hdr
  have HZ : Seal (((w2.alloc (.cells D.toArray 25)).alloc (.cells #[.slice (some ⟨w2.heap.size, 0, none⟩) 32 32, .slice none 0 0] 47)).heap[w.heap.size]? = some (.cells #[.int .u8 0, .int .u8 0, .int .u8 0, .int .u8 0, .int .u8 0, .int .u8 0, .int .u8 0, .int .u8 0, .int .u8 0, .int .u8 0, .int .u8 0, .int .u8 0, .int .u8 0, .int .u8 0, .int .u8 0, .int .u8 0, .int .u8 0, .int .u8 0, .int .u8 0, .int .u8 0, .int .u8 0, .int .u8 0, .int .u8 0, .int .u8 0, .int .u8 0, .int .u8 0, .int .u8 0, .int .u8 0, .int .u8 0, .int .u8 0, .int .u8 0, .int .u8 0] 25 (0, 0))) :=
    ⟨by rw [Below.heap_alloc _ _ _ (by rw [size_alloc]; omega), Below.heap_alloc _ _ _ (by omega)]; exact hz2'⟩
  clear hz1 hz2'
  clear hb2 hb0 hX hrow hdr hrun HC1 hs1
  refine HC2.out.mono ?_
  rintro e w3 ⟨g3, c3, rfl, hc3, hc4, hg3, hg4, hb3, hr3⟩
  have HB3 := Seal.mk hb3
  have HR3 := Seal.mk hr3
  have hlen3 : (sha tag.data.toList).length = 32 := sha_length _
  have HC3 := Seal.mk (sum_some g3 0 32 c3 (sha tag.data.toList) w3 ((HG.out.below HX.out).below hb3) hlen3 (by rw [← hlen3]; exact hc3) (by omega) hc4 hr3 hg4)
  rw [hlen3]
  clear hb3 hr3 hc3 hlen3 HC2
  have HE1 : Seal ((Tryd.prog.info? 25).map (·.size) = some ((sha (sha tag.data.toList)).map B).toArray.size) := ⟨by rw [List.size_toArray]; exact sha_info _⟩
  have HE2 : Seal (((sha (sha tag.data.toList)).map B).toArray.size = 32) := ⟨by rw [List.size_toArray, List.length_map, sha_length]⟩
  have HE3 : Seal (((sha (sha tag.data.toList)).map B).toArray.all (·.oneCell') = true) := ⟨by simp [Value.oneCell']⟩
  obtain ⟨E, hE⟩ : ∃ E, Seal (E = ((sha (sha tag.data.toList)).map B).toArray) := ⟨_, ⟨rfl⟩⟩
  rw [← hE.out] at HE1 HE2 HE3 HC3
  have hZ3 : w3.heap[w.heap.size]? = some (.cells #[.int .u8 0, .int .u8 0, .int .u8 0, .int .u8 0, .int .u8 0, .int .u8 0, .int .u8 0, .int .u8 0, .int .u8 0, .int .u8 0, .int .u8 0, .int .u8 0, .int .u8 0, .int .u8 0, .int .u8 0, .int .u8 0, .int .u8 0, .int .u8 0, .int .u8 0, .int .u8 0, .int .u8 0, .int .u8 0, .int .u8 0, .int .u8 0, .int .u8 0, .int .u8 0, .int .u8 0, .int .u8 0, .int .u8 0, .int .u8 0, .int .u8 0, .int .u8 0] 25 (0, 0)) := (HB3.out.block _ (by have := HX.out.size; rw [size_alloc, size_alloc]; omega)).trans HZ.out
  have HZ3 := Seal.mk hZ3
  have h3z : w.heap.size < w3.heap.size := (Array.getElem?_eq_some_iff.1 hZ3).1
  have HB4 := Seal.mk ((HX.out.trans (HB3.out.mono HX.out.size)))
  clear hZ3
  go_wp2_with (first | (go_at_call 102; refine HC3.out.mono ?_; rintro e w4 ⟨rfl, hb4⟩; have HZ4 := Seal.mk ((hb4.block _ h3z).trans HZ3.out); have HB5 := Seal.mk (HB4.out.trans (hb4.mono (Nat.le_of_lt h3z))); clear hb4) | (refine wpList_store_row rfl 25 (.tmp 4) (.tmp 13) rfl w.heap.size E rfl rfl 25 _ HZ4.out HE1.out HE2.out.symm HE3.out ?_))
  refine bodyPost_ret (results_cell_row (fn := Tryd.f76) rfl _ _ w.heap.size 25 E (0, 0) _ rfl (setRow_heap _ _ _ _ _ _ HZ4.out) Tryd.underlying25 rfl HE1.out) rfl ⟨?_, below_row HB5.out (Nat.le_refl _) _⟩
  rw [hE.out]
  unfold tagged
  rw [List.append_nil]

section
attribute [local go_sem] Oper.semAt_some

def noneD : Bytes := tagged [110, 111, 110, 101] []
theorem noneD_len : noneD.length = 32 := sha_length _

set_option maxHeartbeats 1000000 in
theorem mroot_nil (w : World) (hG : Glob w) : Calls Tryd.prog 44 #[.slice none 0 0] w fun e w' => e = .returned (.agg (noneD.map B).toArray) ∧ Below w.heap.size w w' := by
  obtain ⟨X, hX⟩ : ∃ X : World, X = w.alloc (.cells #[.int .u8 0, .int .u8 0, .int .u8 0, .int .u8 0, .int .u8 0, .int .u8 0, .int .u8 0, .int .u8 0, .int .u8 0, .int .u8 0, .int .u8 0, .int .u8 0, .int .u8 0, .int .u8 0, .int .u8 0, .int .u8 0, .int .u8 0, .int .u8 0, .int .u8 0, .int .u8 0, .int .u8 0, .int .u8 0, .int .u8 0, .int .u8 0, .int .u8 0, .int .u8 0, .int .u8 0, .int .u8 0, .int .u8 0, .int .u8 0, .int .u8 0, .int .u8 0] 25) := ⟨_, rfl⟩
  have hXb : Seal (Below w.heap.size w X) := ⟨by rw [hX]; exact below_alloc _ _⟩
  have hXz : Seal (X.heap[w.heap.size]? = some (.cells #[.int .u8 0, .int .u8 0, .int .u8 0, .int .u8 0, .int .u8 0, .int .u8 0, .int .u8 0, .int .u8 0, .int .u8 0, .int .u8 0, .int .u8 0, .int .u8 0, .int .u8 0, .int .u8 0, .int .u8 0, .int .u8 0, .int .u8 0, .int .u8 0, .int .u8 0, .int .u8 0, .int .u8 0, .int .u8 0, .int .u8 0, .int .u8 0, .int .u8 0, .int .u8 0, .int .u8 0, .int .u8 0, .int .u8 0, .int .u8 0, .int .u8 0, .int .u8 0] 25 (0, 0))) := ⟨by rw [hX]; exact heap_alloc_new w _⟩
  have HT : Seal (Calls Tryd.prog 76 #[.string ⟨#[110, 111, 110, 101]⟩, .slice none 0 0] X fun e w' => e = .returned (.agg (noneD.map B).toArray) ∧ Below X.heap.size X w') := ⟨tagged_nil ⟨#[110, 111, 110, 101]⟩ X (hG.below hXb.out) (by decide) (by decide)⟩
  obtain ⟨D, hD⟩ : ∃ D, D = (noneD.map B).toArray := ⟨_, rfl⟩
  have ID : Seal ((Tryd.prog.info? 25).map (·.size) = some D.size) := ⟨by rw [hD, List.size_toArray]; exact dg_info noneD noneD_len⟩
  have SD : Seal ((#[.int .u8 0, .int .u8 0, .int .u8 0, .int .u8 0, .int .u8 0, .int .u8 0, .int .u8 0, .int .u8 0, .int .u8 0, .int .u8 0, .int .u8 0, .int .u8 0, .int .u8 0, .int .u8 0, .int .u8 0, .int .u8 0, .int .u8 0, .int .u8 0, .int .u8 0, .int .u8 0, .int .u8 0, .int .u8 0, .int .u8 0, .int .u8 0, .int .u8 0, .int .u8 0, .int .u8 0, .int .u8 0, .int .u8 0, .int .u8 0, .int .u8 0, .int .u8 0] : Array Value).size = D.size) := ⟨by show 32 = D.size; rw [hD, List.size_toArray, List.length_map, noneD_len]⟩
  have AD : Seal (D.all (·.oneCell') = true) := ⟨by rw [hD]; simp [Value.oneCell']⟩
  rw [← hD] at HT ⊢
  clear hG hD
  go_enter Tryd.func44, Tryd.ntmps44
  go_upto_region 1 with (fail)
  rw [← hX]
  clear hX
  go_wp2_with fail
  refine HT.out.mono ?_
  rintro e w1 ⟨rfl, hb1⟩
  have HZ1 : Seal (w1.heap[w.heap.size]? = some (.cells #[.int .u8 0, .int .u8 0, .int .u8 0, .int .u8 0, .int .u8 0, .int .u8 0, .int .u8 0, .int .u8 0, .int .u8 0, .int .u8 0, .int .u8 0, .int .u8 0, .int .u8 0, .int .u8 0, .int .u8 0, .int .u8 0, .int .u8 0, .int .u8 0, .int .u8 0, .int .u8 0, .int .u8 0, .int .u8 0, .int .u8 0, .int .u8 0, .int .u8 0, .int .u8 0, .int .u8 0, .int .u8 0, .int .u8 0, .int .u8 0, .int .u8 0, .int .u8 0] 25 (0, 0))) := ⟨blk hb1 (Array.getElem?_eq_some_iff.1 hXz.out).1 hXz.out⟩
  have HB1 : Seal (Below w.heap.size w w1) := ⟨hXb.out.trans (hb1.mono hXb.out.size)⟩
  clear hb1
  go_wp2_with (refine wpList_store_row rfl 25 (.tmp 2) (.tmp 7) rfl w.heap.size D rfl rfl 25 #[.int .u8 0, .int .u8 0, .int .u8 0, .int .u8 0, .int .u8 0, .int .u8 0, .int .u8 0, .int .u8 0, .int .u8 0, .int .u8 0, .int .u8 0, .int .u8 0, .int .u8 0, .int .u8 0, .int .u8 0, .int .u8 0, .int .u8 0, .int .u8 0, .int .u8 0, .int .u8 0, .int .u8 0, .int .u8 0, .int .u8 0, .int .u8 0, .int .u8 0, .int .u8 0, .int .u8 0, .int .u8 0, .int .u8 0, .int .u8 0, .int .u8 0, .int .u8 0] HZ1.out ID.out SD.out AD.out ?_)
  refine bodyPost_ret (results_cell_row (fn := Tryd.f44) rfl _ _ w.heap.size 25 D (0, 0) _ rfl (setRow_heap _ _ _ _ _ _ HZ1.out) Tryd.underlying25 rfl ID.out) rfl ⟨rfl, below_row HB1.out (Nat.le_refl _) _⟩

def encE : Empty → Array Value := fun x => x.elim

set_option maxHeartbeats 1000000 in
theorem leaves_seq_nil (m b : Nat) (w : World) (h0 : w.cell? ⟨b, 0, none⟩ = some (.slice none 0 0)) :
    SeqCells Fence.wide m Tryd.prog 88 #[.pointer (some ⟨b, 0, none⟩)] encE (fun _ => False) (fun xs => xs = []) 1 w := by
  intro l J W hW hJ hY h0'
  refine callsIn_of_wp Tryd.func88 rfl trivial ?_ rfl
  simp only [Tryd.ntmps88, List.size_toArray, List.length_cons, List.length_nil, Nat.reduceAdd, Nat.reduceSub, Array.replicate_succ, Array.replicate_zero, List.push_toArray, List.append_toArray, List.nil_append, List.cons_append]
  have c0 : W.cell? ⟨b, 0, none⟩ = some (.slice none 0 0) := (hW.cell (p := ⟨b, 0, none⟩) (block_lt_of_cell h0)).trans h0
  clear hY hW
  gi_wp2
  refine wpIn_loop_rounds 1 ?_
  rw [roundsIn_succ]
  gi_wp2
  go_end0
  exact ⟨⟨_, rfl⟩, _, rfl, h0'⟩

theorem hleaves_any (a : Option Addr) (n c : Nat) (w : World) : Calls Tryd.prog 53 #[.slice a n c] w fun e w' => e = .returned (.func (.func 88) #[] #[.pointer (some ⟨w.heap.size, 0, none⟩)]) ∧ w.alloc (.cells #[.slice a n c] 36) = w' := by
  go_enter Tryd.func53, Tryd.ntmps53
  go_wp2
  go_ret
  exact ⟨rfl, rfl⟩

set_option maxHeartbeats 2000000 in
theorem appendseq_nil (b : Nat) (w : World) (h0 : w.heap[b]? = some (.cells #[.slice none 0 0] 36 (0, 0))) :
    Calls Tryd.prog 87 #[.slice none 0 0, .func (.func 88) #[] #[.pointer (some ⟨b, 0, none⟩)]] w fun e w' => e = .returned (.slice none 0 0) ∧ Below w.heap.size w w' := by
  have hbl := (Array.getElem?_eq_some_iff.1 h0).1
  obtain ⟨X, hX⟩ : ∃ X : World, X = w.alloc (.cells #[.slice none 0 0] 54) := ⟨_, rfl⟩
  have hXb : Below w.heap.size w X := by rw [hX]; exact below_alloc _ _
  have hXs : X.heap.size = w.heap.size + 1 := by rw [hX, size_alloc]
  have hXn : X.heap[w.heap.size]? = some (.cells #[.slice none 0 0] 54 (0, 0)) := by rw [hX]; exact heap_alloc_new w _
  have hX0 : X.heap[b]? = some (.cells #[.slice none 0 0] 36 (0, 0)) := (hXb.block b hbl).trans h0
  have HX := Seal.mk (And.intro hXb (And.intro hXs (And.intro hXn (And.intro hX0 hbl))))
  clear h0 hXb hXs hXn hX0 hbl
  refine (callsIn_wide (n := 3)).1 ?_
  refine callsIn_of_wp_marks Tryd.func87 rfl trivial ?_ rfl
  simp only [Tryd.ntmps87, List.size_toArray, List.length_cons, List.length_nil, Nat.reduceAdd, Nat.reduceSub, Array.replicate_succ, Array.replicate_zero, List.push_toArray, List.append_toArray, List.nil_append, List.cons_append]
  refine wpIn_wide.2 ?_
  go_upto_region 1 with (fail)
  rw [← hX]
  clear hX
  go_wp2_with fail
  refine (wpIn_wide (n := 3)).1 ?_
  refine wpIn_rangeFunc_round rfl (by decide) (gf := 88) (lb := #[.pointer (some ⟨b, 0, none⟩)]) rfl trivial (enters_of Tryd.func88 (by kernel_rfl) rfl)
    (leaves_seq_nil 2 b X (by rw [cell_of_row _ _ _ _ _ _ HX.out.2.2.2.1]; rfl))
    (fun r h => h.elim) (fun x => x.elim)
    (fun pre W => W.heap[w.heap.size]? = some (.cells #[.slice none 0 0] 54 (0, 0)) ∧ Below w.heap.size w W ∧ X.heap.size ≤ W.heap.size)
    ?own ⟨HX.out.2.2.1, HX.out.1, Nat.le_refl _⟩ ?round ?done
  case own =>
    rintro t A B' row ⟨h0, hb, hz⟩ hg hr
    have hrow : ∀ r, row = some r → w.heap.size + 1 ≤ r := by
      intro r e
      have h2 := HX.out.2.1
      rcases hr r e with h | ⟨h, _⟩
      · exact h.elim
      · omega
    exact ⟨(hg.block _ (Array.getElem?_eq_some_iff.1 h0).1 (fun e => by have := hrow _ e.symm; omega)).trans h0, hb.grown hg hb.size (fun k e => by have := hrow k e; omega), Nat.le_trans hz hg.size⟩
  case round =>
    rintro l pre x W
    exact x.elim
  case done =>
    rintro D xs W hD rfl ⟨h0, hb, hz⟩ hK
    have c0 : W.cell? ⟨w.heap.size, 0, none⟩ = some (.slice none 0 0) := by rw [cell_of_row _ _ _ _ _ _ h0]; rfl
    have HB := Seal.mk hb
    clear h0 hb
    have hsz := HX.out.2.1
    go_wp2
    refine ⟨by simp, .inl ⟨_, _, rfl, run_takeDeferred hK, ?_⟩⟩
    refine ⟨_, by simp [results, Tryd.results87, go_sem], rfl, ?_⟩
    exact HB.out.trans (belowK_b (w := w) (Nat.le_refl _) _ D _ _ (by omega) hK rfl rfl)

theorem hcollect_nil (b : Nat) (w : World) (h0 : w.heap[b]? = some (.cells #[.slice none 0 0] 36 (0, 0))) :
    Calls Tryd.prog 52 #[.func (.func 88) #[] #[.pointer (some ⟨b, 0, none⟩)]] w fun e w' => e = .returned (.slice none 0 0) ∧ Below w.heap.size w w' := by
  go_enter Tryd.func52, Tryd.ntmps52
  go_wp2_with fail
  refine (appendseq_nil b w h0).mono ?_
  rintro e w1 ⟨rfl, hb⟩
  have HB := Seal.mk hb
  clear hb
  go_wp2
  go_ret
  exact ⟨rfl, HB.out⟩

set_option maxHeartbeats 1000000 in
theorem hroot_nil (w : World) (hG : Glob w) : Calls Tryd.prog 18 #[.slice none 0 0] w fun e w' => e = .returned (.agg (noneD.map B).toArray) ∧ Below w.heap.size w w' := by
  obtain ⟨X, hX⟩ : ∃ X : World, X = w.alloc (.cells #[.int .u8 0, .int .u8 0, .int .u8 0, .int .u8 0, .int .u8 0, .int .u8 0, .int .u8 0, .int .u8 0, .int .u8 0, .int .u8 0, .int .u8 0, .int .u8 0, .int .u8 0, .int .u8 0, .int .u8 0, .int .u8 0, .int .u8 0, .int .u8 0, .int .u8 0, .int .u8 0, .int .u8 0, .int .u8 0, .int .u8 0, .int .u8 0, .int .u8 0, .int .u8 0, .int .u8 0, .int .u8 0, .int .u8 0, .int .u8 0, .int .u8 0, .int .u8 0] 25) := ⟨_, rfl⟩
  have hXb : Seal (Below w.heap.size w X) := ⟨by rw [hX]; exact below_alloc _ _⟩
  have hXz : Seal (X.heap[w.heap.size]? = some (.cells #[.int .u8 0, .int .u8 0, .int .u8 0, .int .u8 0, .int .u8 0, .int .u8 0, .int .u8 0, .int .u8 0, .int .u8 0, .int .u8 0, .int .u8 0, .int .u8 0, .int .u8 0, .int .u8 0, .int .u8 0, .int .u8 0, .int .u8 0, .int .u8 0, .int .u8 0, .int .u8 0, .int .u8 0, .int .u8 0, .int .u8 0, .int .u8 0, .int .u8 0, .int .u8 0, .int .u8 0, .int .u8 0, .int .u8 0, .int .u8 0, .int .u8 0, .int .u8 0] 25 (0, 0))) := ⟨by rw [hX]; exact heap_alloc_new w _⟩
  have HM : Seal (∀ W, Glob W → Calls Tryd.prog 44 #[.slice none 0 0] W fun e w' => e = .returned (.agg (noneD.map B).toArray) ∧ Below W.heap.size W w') := ⟨fun W h => mroot_nil W h⟩
  obtain ⟨D, hD⟩ : ∃ D, D = (noneD.map B).toArray := ⟨_, rfl⟩
  have ID : Seal ((Tryd.prog.info? 25).map (·.size) = some D.size) := ⟨by rw [hD, List.size_toArray]; exact dg_info noneD noneD_len⟩
  have SD : Seal ((#[.int .u8 0, .int .u8 0, .int .u8 0, .int .u8 0, .int .u8 0, .int .u8 0, .int .u8 0, .int .u8 0, .int .u8 0, .int .u8 0, .int .u8 0, .int .u8 0, .int .u8 0, .int .u8 0, .int .u8 0, .int .u8 0, .int .u8 0, .int .u8 0, .int .u8 0, .int .u8 0, .int .u8 0, .int .u8 0, .int .u8 0, .int .u8 0, .int .u8 0, .int .u8 0, .int .u8 0, .int .u8 0, .int .u8 0, .int .u8 0, .int .u8 0, .int .u8 0] : Array Value).size = D.size) := ⟨by show 32 = D.size; rw [hD, List.size_toArray, List.length_map, noneD_len]⟩
  have AD : Seal (D.all (·.oneCell') = true) := ⟨by rw [hD]; simp [Value.oneCell']⟩
  have HG : Seal (Glob w) := ⟨hG⟩
  rw [← hD] at HM ⊢
  clear hG hD
  go_enter Tryd.func18, Tryd.ntmps18
  go_upto_region 1 with (fail)
  rw [← hX]
  clear hX
  go_wp2_with fail
  refine (hleaves_any none 0 0 X).mono ?_
  rintro e w1 ⟨rfl, hw1⟩
  have h1 : w1.heap[X.heap.size]? = some (.cells #[.slice none 0 0] 36 (0, 0)) := by rw [← hw1]; exact heap_alloc_new X _
  have HC := Seal.mk (hcollect_nil X.heap.size w1 h1)
  have hb1 : Below X.heap.size X w1 := by rw [← hw1]; exact below_alloc _ _
  have HB1 : Seal (Below w.heap.size w w1) := ⟨hXb.out.trans (hb1.mono hXb.out.size)⟩
  have HZ1 : Seal (w1.heap[w.heap.size]? = some (.cells #[.int .u8 0, .int .u8 0, .int .u8 0, .int .u8 0, .int .u8 0, .int .u8 0, .int .u8 0, .int .u8 0, .int .u8 0, .int .u8 0, .int .u8 0, .int .u8 0, .int .u8 0, .int .u8 0, .int .u8 0, .int .u8 0, .int .u8 0, .int .u8 0, .int .u8 0, .int .u8 0, .int .u8 0, .int .u8 0, .int .u8 0, .int .u8 0, .int .u8 0, .int .u8 0, .int .u8 0, .int .u8 0, .int .u8 0, .int .u8 0, .int .u8 0, .int .u8 0] 25 (0, 0))) := ⟨blk hb1 (Array.getElem?_eq_some_iff.1 hXz.out).1 hXz.out⟩
  clear hw1 h1 hb1
  go_wp2_with fail
  refine HC.out.mono ?_
  rintro e w2 ⟨rfl, hb2⟩
  have HB2 : Seal (Below w.heap.size w w2) := ⟨HB1.out.trans (hb2.mono HB1.out.size)⟩
  have HZ2 : Seal (w2.heap[w.heap.size]? = some (.cells #[.int .u8 0, .int .u8 0, .int .u8 0, .int .u8 0, .int .u8 0, .int .u8 0, .int .u8 0, .int .u8 0, .int .u8 0, .int .u8 0, .int .u8 0, .int .u8 0, .int .u8 0, .int .u8 0, .int .u8 0, .int .u8 0, .int .u8 0, .int .u8 0, .int .u8 0, .int .u8 0, .int .u8 0, .int .u8 0, .int .u8 0, .int .u8 0, .int .u8 0, .int .u8 0, .int .u8 0, .int .u8 0, .int .u8 0, .int .u8 0, .int .u8 0, .int .u8 0] 25 (0, 0))) := ⟨blk hb2 (Array.getElem?_eq_some_iff.1 HZ1.out).1 HZ1.out⟩
  clear hb2
  go_wp2_with fail
  refine (HM.out w2 (HG.out.below HB2.out)).mono ?_
  rintro e w3 ⟨rfl, hb3⟩
  have HB3 : Seal (Below w.heap.size w w3) := ⟨HB2.out.trans (hb3.mono HB2.out.size)⟩
  have HZ3 : Seal (w3.heap[w.heap.size]? = some (.cells #[.int .u8 0, .int .u8 0, .int .u8 0, .int .u8 0, .int .u8 0, .int .u8 0, .int .u8 0, .int .u8 0, .int .u8 0, .int .u8 0, .int .u8 0, .int .u8 0, .int .u8 0, .int .u8 0, .int .u8 0, .int .u8 0, .int .u8 0, .int .u8 0, .int .u8 0, .int .u8 0, .int .u8 0, .int .u8 0, .int .u8 0, .int .u8 0, .int .u8 0, .int .u8 0, .int .u8 0, .int .u8 0, .int .u8 0, .int .u8 0, .int .u8 0, .int .u8 0] 25 (0, 0))) := ⟨blk hb3 (Array.getElem?_eq_some_iff.1 HZ2.out).1 HZ2.out⟩
  clear hb3
  go_wp2_with (refine wpList_store_row rfl 25 (.tmp 2) (.tmp 6) rfl w.heap.size D rfl rfl 25 #[.int .u8 0, .int .u8 0, .int .u8 0, .int .u8 0, .int .u8 0, .int .u8 0, .int .u8 0, .int .u8 0, .int .u8 0, .int .u8 0, .int .u8 0, .int .u8 0, .int .u8 0, .int .u8 0, .int .u8 0, .int .u8 0, .int .u8 0, .int .u8 0, .int .u8 0, .int .u8 0, .int .u8 0, .int .u8 0, .int .u8 0, .int .u8 0, .int .u8 0, .int .u8 0, .int .u8 0, .int .u8 0, .int .u8 0, .int .u8 0, .int .u8 0, .int .u8 0] HZ3.out ID.out SD.out AD.out ?_)
  refine bodyPost_ret (results_cell_row (fn := Tryd.f18) rfl _ _ w.heap.size 25 D (0, 0) _ rfl (setRow_heap _ _ _ _ _ _ HZ3.out) Tryd.underlying25 rfl ID.out) rfl ⟨rfl, below_row HB3.out (Nat.le_refl _) _⟩
end

theorem Env.add {w W : World} {a : Option Addr} {len cap : Nat} {b : Bytes} {bs : List (Nat × Obj)} {g : Nat} {o : Obj} (h : Env w a len cap b bs) (hb : Below w.heap.size w W) (hr : W.heap[g]? = some o) : Env W a len cap b ((g, o) :: bs) :=
  ⟨(h.below hb).glob, (h.below hb).isb, fun p hp => by
    rcases List.mem_cons.1 hp with rfl | hp
    · exact hr
    · exact (h.below hb).keep p hp⟩

def nineD : Bytes := [9, 0, 0, 0, 0, 0, 0, 0, 0, 0, 0, 0, 0, 0, 0, 0, 0, 0, 0, 0, 0, 0, 0, 0, 0, 0, 0, 0, 0, 0, 0, 0]
/-- the example -/
def hd0 : Hd := ⟨2, 30, 90, 1, 3, 5, 7, nineD, 45, 0, 0⟩

theorem hd0_ok : hd0.ok := ⟨rfl, by unfold I64; decide, by unfold I64; decide, by unfold I64; decide, by unfold I64; decide, by unfold I64; decide, by unfold I64; decide, by unfold I64; decide, by unfold I64; decide⟩

set_option maxHeartbeats 1000000 in
theorem hhand0_any (w : World) : Calls Tryd.prog 43 #[] w fun e w' => e = .returned (.agg hd0.C.toArray) ∧ Below w.heap.size w w' := by
  obtain ⟨C, hC⟩ : ∃ C, C = hd0.C.toArray := ⟨_, rfl⟩
  have IC : Seal ((Tryd.prog.info? 29).map (·.size) = some C.size) := ⟨by rw [hC, List.size_toArray]; exact Hd.C_info rfl⟩
  have SC : Seal (((List.toArray (.int .i64 0 :: .int .i64 0 :: .int .i64 0 :: .int .i64 0 :: .int .i64 0 :: .int .i64 0 :: .int .i64 0 :: .int .u8 0 :: .int .u8 0 :: .int .u8 0 :: .int .u8 0 :: .int .u8 0 :: .int .u8 0 :: .int .u8 0 :: .int .u8 0 :: .int .u8 0 :: .int .u8 0 :: .int .u8 0 :: .int .u8 0 :: .int .u8 0 :: .int .u8 0 :: .int .u8 0 :: .int .u8 0 :: .int .u8 0 :: .int .u8 0 :: .int .u8 0 :: .int .u8 0 :: .int .u8 0 :: .int .u8 0 :: .int .u8 0 :: .int .u8 0 :: .int .u8 0 :: .int .u8 0 :: .int .u8 0 :: .int .u8 0 :: .int .u8 0 :: .int .u8 0 :: .int .u8 0 :: .int .u8 0 :: .int .i64 0 :: .int .i64 0 :: .int .i64 0 :: [] : List Value) : Array Value) : Array Value).size = C.size) := ⟨by show 42 = C.size; rw [hC, List.size_toArray, Hd.C_len (h := hd0) rfl]⟩
  have AC : Seal (C.all (·.oneCell') = true) := ⟨by rw [hC]; exact all_oneCell_toArray (Hd.C_one _)⟩
  obtain ⟨X, hX⟩ : ∃ X : World, X = w.alloc (.cells (List.toArray (.int .i64 0 :: .int .i64 0 :: .int .i64 0 :: .int .i64 0 :: .int .i64 0 :: .int .i64 0 :: .int .i64 0 :: .int .u8 0 :: .int .u8 0 :: .int .u8 0 :: .int .u8 0 :: .int .u8 0 :: .int .u8 0 :: .int .u8 0 :: .int .u8 0 :: .int .u8 0 :: .int .u8 0 :: .int .u8 0 :: .int .u8 0 :: .int .u8 0 :: .int .u8 0 :: .int .u8 0 :: .int .u8 0 :: .int .u8 0 :: .int .u8 0 :: .int .u8 0 :: .int .u8 0 :: .int .u8 0 :: .int .u8 0 :: .int .u8 0 :: .int .u8 0 :: .int .u8 0 :: .int .u8 0 :: .int .u8 0 :: .int .u8 0 :: .int .u8 0 :: .int .u8 0 :: .int .u8 0 :: .int .u8 0 :: .int .i64 0 :: .int .i64 0 :: .int .i64 0 :: [] : List Value) : Array Value) 29) := ⟨_, rfl⟩
  have hXb : Seal (Below w.heap.size w X) := ⟨by rw [hX]; exact below_alloc _ _⟩
  have hXz : Seal (X.heap[w.heap.size]? = some (.cells (List.toArray (.int .i64 0 :: .int .i64 0 :: .int .i64 0 :: .int .i64 0 :: .int .i64 0 :: .int .i64 0 :: .int .i64 0 :: .int .u8 0 :: .int .u8 0 :: .int .u8 0 :: .int .u8 0 :: .int .u8 0 :: .int .u8 0 :: .int .u8 0 :: .int .u8 0 :: .int .u8 0 :: .int .u8 0 :: .int .u8 0 :: .int .u8 0 :: .int .u8 0 :: .int .u8 0 :: .int .u8 0 :: .int .u8 0 :: .int .u8 0 :: .int .u8 0 :: .int .u8 0 :: .int .u8 0 :: .int .u8 0 :: .int .u8 0 :: .int .u8 0 :: .int .u8 0 :: .int .u8 0 :: .int .u8 0 :: .int .u8 0 :: .int .u8 0 :: .int .u8 0 :: .int .u8 0 :: .int .u8 0 :: .int .u8 0 :: .int .i64 0 :: .int .i64 0 :: .int .i64 0 :: [] : List Value) : Array Value) 29 (0, 0))) := ⟨by rw [hX]; exact heap_alloc_new w _⟩
  have HCL : Seal (C = List.toArray ([.int .i64 2, .int .i64 30, .int .i64 90, .int .i64 1, .int .i64 3, .int .i64 5, .int .i64 7, .int .u8 9] ++ (List.replicate 31 (.int .u8 0)) ++ [.int .i64 45, .int .i64 0, .int .i64 0])) := ⟨by rw [hC]; kernel_rfl⟩
  rw [← hC]
  clear hC
  go_enter Tryd.func43, Tryd.ntmps43
  go_upto_region 1 with (fail)
  rw [← hX]
  clear hX
  go_wp2_with (refine wpList_store_row rfl 29 (.tmp 0) (.tmp 3) rfl w.heap.size C rfl (by rw [HCL.out]; kernel_rfl) 29 (List.toArray (.int .i64 0 :: .int .i64 0 :: .int .i64 0 :: .int .i64 0 :: .int .i64 0 :: .int .i64 0 :: .int .i64 0 :: .int .u8 0 :: .int .u8 0 :: .int .u8 0 :: .int .u8 0 :: .int .u8 0 :: .int .u8 0 :: .int .u8 0 :: .int .u8 0 :: .int .u8 0 :: .int .u8 0 :: .int .u8 0 :: .int .u8 0 :: .int .u8 0 :: .int .u8 0 :: .int .u8 0 :: .int .u8 0 :: .int .u8 0 :: .int .u8 0 :: .int .u8 0 :: .int .u8 0 :: .int .u8 0 :: .int .u8 0 :: .int .u8 0 :: .int .u8 0 :: .int .u8 0 :: .int .u8 0 :: .int .u8 0 :: .int .u8 0 :: .int .u8 0 :: .int .u8 0 :: .int .u8 0 :: .int .u8 0 :: .int .i64 0 :: .int .i64 0 :: .int .i64 0 :: [] : List Value) : Array Value) hXz.out IC.out SC.out AC.out ?_)
  refine bodyPost_ret (results_cell_row (fn := Tryd.f43) rfl _ _ w.heap.size 29 C (0, 0) _ rfl (setRow_heap _ _ _ _ _ _ hXz.out) Tryd.underlying29 rfl IC.out) rfl ⟨rfl, below_row hXb.out (Nat.le_refl _) _⟩

set_option maxHeartbeats 16000000 in
theorem hsane_core (C0 CX CZ CS CL : List Value) (D : Array Value) (E S : Int) (w : World) (hG : Glob w)
    (I0 : Seal ((Tryd.prog.info? 29).map (·.size) = some C0.length)) (IX : Seal ((Tryd.prog.info? 29).map (·.size) = some CX.length)) (IZ : Seal ((Tryd.prog.info? 29).map (·.size) = some CZ.length)) (IS : Seal ((Tryd.prog.info? 29).map (·.size) = some CS.length)) (IL : Seal ((Tryd.prog.info? 29).map (·.size) = some CL.length))
    (L0 : Seal (((.int .i64 0 :: .int .i64 0 :: .int .i64 0 :: .int .i64 0 :: .int .i64 0 :: .int .i64 0 :: .int .i64 0 :: .int .u8 0 :: .int .u8 0 :: .int .u8 0 :: .int .u8 0 :: .int .u8 0 :: .int .u8 0 :: .int .u8 0 :: .int .u8 0 :: .int .u8 0 :: .int .u8 0 :: .int .u8 0 :: .int .u8 0 :: .int .u8 0 :: .int .u8 0 :: .int .u8 0 :: .int .u8 0 :: .int .u8 0 :: .int .u8 0 :: .int .u8 0 :: .int .u8 0 :: .int .u8 0 :: .int .u8 0 :: .int .u8 0 :: .int .u8 0 :: .int .u8 0 :: .int .u8 0 :: .int .u8 0 :: .int .u8 0 :: .int .u8 0 :: .int .u8 0 :: .int .u8 0 :: .int .u8 0 :: .int .i64 0 :: .int .i64 0 :: .int .i64 0 :: [] : List Value)).length = C0.length)) (LX : Seal (((.int .i64 0 :: .int .i64 0 :: .int .i64 0 :: .int .i64 0 :: .int .i64 0 :: .int .i64 0 :: .int .i64 0 :: .int .u8 0 :: .int .u8 0 :: .int .u8 0 :: .int .u8 0 :: .int .u8 0 :: .int .u8 0 :: .int .u8 0 :: .int .u8 0 :: .int .u8 0 :: .int .u8 0 :: .int .u8 0 :: .int .u8 0 :: .int .u8 0 :: .int .u8 0 :: .int .u8 0 :: .int .u8 0 :: .int .u8 0 :: .int .u8 0 :: .int .u8 0 :: .int .u8 0 :: .int .u8 0 :: .int .u8 0 :: .int .u8 0 :: .int .u8 0 :: .int .u8 0 :: .int .u8 0 :: .int .u8 0 :: .int .u8 0 :: .int .u8 0 :: .int .u8 0 :: .int .u8 0 :: .int .u8 0 :: .int .i64 0 :: .int .i64 0 :: .int .i64 0 :: [] : List Value)).length = CX.length)) (LZ : Seal (((.int .i64 0 :: .int .i64 0 :: .int .i64 0 :: .int .i64 0 :: .int .i64 0 :: .int .i64 0 :: .int .i64 0 :: .int .u8 0 :: .int .u8 0 :: .int .u8 0 :: .int .u8 0 :: .int .u8 0 :: .int .u8 0 :: .int .u8 0 :: .int .u8 0 :: .int .u8 0 :: .int .u8 0 :: .int .u8 0 :: .int .u8 0 :: .int .u8 0 :: .int .u8 0 :: .int .u8 0 :: .int .u8 0 :: .int .u8 0 :: .int .u8 0 :: .int .u8 0 :: .int .u8 0 :: .int .u8 0 :: .int .u8 0 :: .int .u8 0 :: .int .u8 0 :: .int .u8 0 :: .int .u8 0 :: .int .u8 0 :: .int .u8 0 :: .int .u8 0 :: .int .u8 0 :: .int .u8 0 :: .int .u8 0 :: .int .i64 0 :: .int .i64 0 :: .int .i64 0 :: [] : List Value)).length = CZ.length))
    (O0 : Seal (∀ u ∈ C0, u.oneCell' = true)) (OX : Seal (∀ u ∈ CX, u.oneCell' = true)) (OZ : Seal (∀ u ∈ CZ, u.oneCell' = true))
    (K0 : Seal (C0.toArray[5]? = some (.int .i64 5) ∧ C0.toArray[39]? = some (.int .i64 45))) (KX : Seal (CX.toArray[40]? = some (.int .i64 E) ∧ CX.toArray[41]? = some (.int .i64 S)))
    (U1 : Seal (C0.set 5 (.int .i64 3) = CS)) (U2 : Seal (C0.set 39 (.int .i64 46) = CL)) (U3 : Seal ((CX.set 40 (.int .i64 0)).set 41 (.int .i64 0) = C0))
    (Hh : Seal (∀ W, Calls Tryd.prog 43 #[] W fun e w' => e = .returned (.agg C0.toArray) ∧ Below W.heap.size W w'))
    (M1 : Seal (∀ W, Glob W → Calls Tryd.prog 13 #[.int .i64 1, .agg C0.toArray] W fun e w' => e = .returned (.tuple #[.agg CX.toArray, .int .i64 0]) ∧ Below W.heap.size W w'))
    (M2 : Seal (∀ W, Glob W → Calls Tryd.prog 13 #[.int .i64 0, .agg C0.toArray] W fun e w' => e = .returned (.tuple #[.agg CZ.toArray, .int .i64 110]) ∧ Below W.heap.size W w'))
    (M3 : Seal (∀ W, Glob W → Calls Tryd.prog 13 #[.int .i64 1, .agg CS.toArray] W fun e w' => e = .returned (.tuple #[.agg CZ.toArray, .int .i64 480]) ∧ Below W.heap.size W w'))
    (V1 : Seal (∀ W, Glob W → Calls Tryd.prog 15 #[.int .i64 4, .agg CX.toArray] W fun e w' => e = .returned (.bool true) ∧ Below W.heap.size W w'))
    (V2 : Seal (∀ W, Glob W → Calls Tryd.prog 15 #[.int .i64 4, .agg CS.toArray] W fun e w' => e = .returned (.bool false) ∧ Below W.heap.size W w'))
    (R1 : Seal (∀ W, Glob W → Calls Tryd.prog 18 #[.slice none 0 0] W fun e w' => e = .returned (.agg D) ∧ Below W.heap.size W w'))
    (R2 : Seal (∀ W, Glob W → Calls Tryd.prog 44 #[.slice none 0 0] W fun e w' => e = .returned (.agg D) ∧ Below W.heap.size W w'))
    (J1 : Seal (∀ W, Calls Tryd.prog 20 #[.agg CX.toArray, .agg CX.toArray] W fun e w' => e = .returned (.bool false) ∧ Below W.heap.size W w'))
    (J2 : Seal (∀ W, Calls Tryd.prog 20 #[.agg CX.toArray, .agg C0.toArray] W fun e w' => e = .returned (.bool false) ∧ Below W.heap.size W w'))
    (J3 : Seal (∀ W, Calls Tryd.prog 20 #[.agg CX.toArray, .agg CL.toArray] W fun e w' => e = .returned (.bool true) ∧ Below W.heap.size W w'))
    (J4 : Seal (∀ W, Calls Tryd.prog 20 #[.agg CS.toArray, .agg CL.toArray] W fun e w' => e = .returned (.bool false) ∧ Below W.heap.size W w'))
    (heq : ∀ W, (Op.equalIn 10000 29 (.agg C0.toArray) (.agg C0.toArray)).run Tryd.prog W = .ok true W)
    (heqD : ∀ W, (Op.equalIn 10000 25 (.agg D) (.agg D)).run Tryd.prog W = .ok true W) :
    Calls Tryd.prog 12 #[] w fun e w' => e = .returned (.bool true) ∧ Below w.heap.size w w' := by
  have HE0 : Seal (Env w none 0 0 [] []) := ⟨⟨hG, isB_nil w, by intro p hp; cases hp⟩⟩
  have HB0 : Seal (Below w.heap.size w w) := ⟨Below.refl _ _⟩
  clear hG
  go_enter Tryd.func12, Tryd.ntmps12
  go_wp2_with (fail)
  refine (Hh.out _).mono ?_
  rintro e w1 ⟨rfl, hb⟩
  have HBw1 := Seal.mk (HB0.out.trans (hb.mono HB0.out.size))
  have HEw1 := Seal.mk (HE0.out.below hb)
  clear hb
  go_wp2_with fail
  refine (M1.out _ HEw1.out.glob).mono ?_
  rintro e w2 ⟨rfl, hb⟩
  have HBw2 := Seal.mk (HBw1.out.trans (hb.mono HBw1.out.size))
  have HEw2 := Seal.mk (HEw1.out.below hb)
  clear hb HBw1 HEw1 HB0 HE0
  go_upto_region 2 with (refine wpList_store_new rfl 29 (.tmp 1) (.tmp 15) rfl (.int .i64 0 :: .int .i64 0 :: .int .i64 0 :: .int .i64 0 :: .int .i64 0 :: .int .i64 0 :: .int .i64 0 :: .int .u8 0 :: .int .u8 0 :: .int .u8 0 :: .int .u8 0 :: .int .u8 0 :: .int .u8 0 :: .int .u8 0 :: .int .u8 0 :: .int .u8 0 :: .int .u8 0 :: .int .u8 0 :: .int .u8 0 :: .int .u8 0 :: .int .u8 0 :: .int .u8 0 :: .int .u8 0 :: .int .u8 0 :: .int .u8 0 :: .int .u8 0 :: .int .u8 0 :: .int .u8 0 :: .int .u8 0 :: .int .u8 0 :: .int .u8 0 :: .int .u8 0 :: .int .u8 0 :: .int .u8 0 :: .int .u8 0 :: .int .u8 0 :: .int .u8 0 :: .int .u8 0 :: .int .u8 0 :: .int .i64 0 :: .int .i64 0 :: .int .i64 0 :: [] : List Value) CX 29 rfl rfl IX.out LX.out OX.out ?_)
  obtain ⟨Z1, hZ1⟩ : ∃ W, W = w2.alloc (.cells CX.toArray 29) := ⟨_, rfl⟩
  have HBZ1 : Seal (Below w.heap.size w Z1) := ⟨by rw [hZ1]; exact HBw2.out.alloc HBw2.out.size _⟩
  have HEZ1 : Seal (Env Z1 none 0 0 [] [(w2.heap.size, .cells CX.toArray 29)]) := ⟨by rw [hZ1]; exact HEw2.out.push _⟩
  rw [← hZ1]
  clear hZ1
  have Z1s : Seal (w2.heap.size < Z1.heap.size) := ⟨HEZ1.out.lt (List.mem_cons_self ..)⟩
  go_wp2_with (fail)
  refine (Hh.out _).mono ?_
  rintro e w3 ⟨rfl, hb⟩
  have HBw3 := Seal.mk (HBZ1.out.trans (hb.mono HBZ1.out.size))
  have HEw3 := Seal.mk (HEZ1.out.below hb)
  clear hb
  go_wp2_with fail
  refine (M2.out _ HEw3.out.glob).mono ?_
  rintro e w4 ⟨rfl, hb⟩
  have HBw4 := Seal.mk (HBw3.out.trans (hb.mono HBw3.out.size))
  have HEw4 := Seal.mk (HEw3.out.below hb)
  clear hb HBw3 HEw3 HBZ1 HEZ1
  go_upto_region 3 with (refine wpList_store_new rfl 29 (.tmp 3) (.tmp 20) rfl (.int .i64 0 :: .int .i64 0 :: .int .i64 0 :: .int .i64 0 :: .int .i64 0 :: .int .i64 0 :: .int .i64 0 :: .int .u8 0 :: .int .u8 0 :: .int .u8 0 :: .int .u8 0 :: .int .u8 0 :: .int .u8 0 :: .int .u8 0 :: .int .u8 0 :: .int .u8 0 :: .int .u8 0 :: .int .u8 0 :: .int .u8 0 :: .int .u8 0 :: .int .u8 0 :: .int .u8 0 :: .int .u8 0 :: .int .u8 0 :: .int .u8 0 :: .int .u8 0 :: .int .u8 0 :: .int .u8 0 :: .int .u8 0 :: .int .u8 0 :: .int .u8 0 :: .int .u8 0 :: .int .u8 0 :: .int .u8 0 :: .int .u8 0 :: .int .u8 0 :: .int .u8 0 :: .int .u8 0 :: .int .u8 0 :: .int .i64 0 :: .int .i64 0 :: .int .i64 0 :: [] : List Value) CZ 29 rfl rfl IZ.out LZ.out OZ.out ?_)
  obtain ⟨Z2, hZ2⟩ : ∃ W, W = w4.alloc (.cells CZ.toArray 29) := ⟨_, rfl⟩
  have HBZ2 : Seal (Below w.heap.size w Z2) := ⟨by rw [hZ2]; exact HBw4.out.alloc HBw4.out.size _⟩
  have HEZ2 : Seal (Env Z2 none 0 0 [] [(w2.heap.size, .cells CX.toArray 29)]) := ⟨by rw [hZ2]; exact HEw4.out.below (below_alloc _ _)⟩
  rw [← hZ2]
  clear hZ2
  go_wp2_with (fail)
  refine (Hh.out _).mono ?_
  rintro e w5 ⟨rfl, hb⟩
  have HBw5 := Seal.mk (HBZ2.out.trans (hb.mono HBZ2.out.size))
  have HEw5 := Seal.mk (HEZ2.out.below hb)
  clear hb
  have n5 := heap_alloc_new w5 (.cells C0.toArray 29)
  have k5 : (w5.alloc (.cells C0.toArray 29)).cell? ⟨w5.heap.size, 5, none⟩ = some (.int .i64 5) := by rw [cell_of_row _ _ _ _ _ _ n5]; exact K0.out.1
  have f5 : (w5.alloc (.cells C0.toArray 29)).frozen? ⟨w5.heap.size, 5, none⟩ = false := frozen_of_row _ _ _ _ _ n5
  clear n5 HBZ2 HEZ2
  go_upto_region 4 with (refine wpList_store_new rfl 29 (.tmp 5) (.tmp 22) rfl (.int .i64 0 :: .int .i64 0 :: .int .i64 0 :: .int .i64 0 :: .int .i64 0 :: .int .i64 0 :: .int .i64 0 :: .int .u8 0 :: .int .u8 0 :: .int .u8 0 :: .int .u8 0 :: .int .u8 0 :: .int .u8 0 :: .int .u8 0 :: .int .u8 0 :: .int .u8 0 :: .int .u8 0 :: .int .u8 0 :: .int .u8 0 :: .int .u8 0 :: .int .u8 0 :: .int .u8 0 :: .int .u8 0 :: .int .u8 0 :: .int .u8 0 :: .int .u8 0 :: .int .u8 0 :: .int .u8 0 :: .int .u8 0 :: .int .u8 0 :: .int .u8 0 :: .int .u8 0 :: .int .u8 0 :: .int .u8 0 :: .int .u8 0 :: .int .u8 0 :: .int .u8 0 :: .int .u8 0 :: .int .u8 0 :: .int .i64 0 :: .int .i64 0 :: .int .i64 0 :: [] : List Value) C0 29 rfl rfl I0.out L0.out O0.out ?_)
  go_upto_region 5 with (fail)
  rw [U1.out]
  obtain ⟨Z3, hZ3⟩ : ∃ W, W = w5.alloc (.cells CS.toArray 29) := ⟨_, rfl⟩
  have HBZ3 : Seal (Below w.heap.size w Z3) := ⟨by rw [hZ3]; exact HBw5.out.alloc HBw5.out.size _⟩
  have HEZ3 : Seal (Env Z3 none 0 0 [] [(w5.heap.size, .cells CS.toArray 29), (w2.heap.size, .cells CX.toArray 29)]) := ⟨by rw [hZ3]; exact HEw5.out.push _⟩
  rw [← hZ3]
  clear hZ3
  clear k5 f5 HBw5 HEw5
  have N3 := Seal.mk (HEZ3.out.keep (w5.heap.size, .cells CS.toArray 29) (by simp))
  have ISa : Seal ((Tryd.prog.info? 29).map (·.size) = some CS.toArray.size) := ⟨IS.out⟩
  have IXa : Seal ((Tryd.prog.info? 29).map (·.size) = some CX.toArray.size) := ⟨IX.out⟩
  go_wp2_with (refine wpList_load_row rfl 29 (.tmp 5) rfl w5.heap.size rfl 29 CS.toArray (0, 0) _ N3.out Tryd.underlying29 rfl ISa.out ?_)
  refine (M3.out _ HEZ3.out.glob).mono ?_
  rintro e w6 ⟨rfl, hb⟩
  have HBw6 := Seal.mk (HBZ3.out.trans (hb.mono HBZ3.out.size))
  have HEw6 := Seal.mk (HEZ3.out.below hb)
  clear hb HBZ3 HEZ3 N3
  go_upto_region 6 with (refine wpList_store_new rfl 29 (.tmp 6) (.tmp 27) rfl (.int .i64 0 :: .int .i64 0 :: .int .i64 0 :: .int .i64 0 :: .int .i64 0 :: .int .i64 0 :: .int .i64 0 :: .int .u8 0 :: .int .u8 0 :: .int .u8 0 :: .int .u8 0 :: .int .u8 0 :: .int .u8 0 :: .int .u8 0 :: .int .u8 0 :: .int .u8 0 :: .int .u8 0 :: .int .u8 0 :: .int .u8 0 :: .int .u8 0 :: .int .u8 0 :: .int .u8 0 :: .int .u8 0 :: .int .u8 0 :: .int .u8 0 :: .int .u8 0 :: .int .u8 0 :: .int .u8 0 :: .int .u8 0 :: .int .u8 0 :: .int .u8 0 :: .int .u8 0 :: .int .u8 0 :: .int .u8 0 :: .int .u8 0 :: .int .u8 0 :: .int .u8 0 :: .int .u8 0 :: .int .u8 0 :: .int .i64 0 :: .int .i64 0 :: .int .i64 0 :: [] : List Value) CZ 29 rfl rfl IZ.out LZ.out OZ.out ?_)
  obtain ⟨Z4, hZ4⟩ : ∃ W, W = w6.alloc (.cells CZ.toArray 29) := ⟨_, rfl⟩
  have HBZ4 : Seal (Below w.heap.size w Z4) := ⟨by rw [hZ4]; exact HBw6.out.alloc HBw6.out.size _⟩
  have HEZ4 : Seal (Env Z4 none 0 0 [] [(w5.heap.size, .cells CS.toArray 29), (w2.heap.size, .cells CX.toArray 29)]) := ⟨by rw [hZ4]; exact HEw6.out.below (below_alloc _ _)⟩
  rw [← hZ4]
  clear hZ4
  clear HBw6 HEw6
  have N4 := Seal.mk (HEZ4.out.keep (w2.heap.size, .cells CX.toArray 29) (by simp))
  have n8 := heap_alloc_new Z4 (.cells CX.toArray 29)
  have k40 : (Z4.alloc (.cells CX.toArray 29)).cell? ⟨Z4.heap.size, 40, none⟩ = some (.int .i64 E) := by rw [cell_of_row _ _ _ _ _ _ n8]; exact KX.out.1
  have k41 : (Z4.alloc (.cells CX.toArray 29)).cell? ⟨Z4.heap.size, 41, none⟩ = some (.int .i64 S) := by rw [cell_of_row _ _ _ _ _ _ n8]; exact KX.out.2
  have f40 : (Z4.alloc (.cells CX.toArray 29)).frozen? ⟨Z4.heap.size, 40, none⟩ = false := frozen_of_row _ _ _ _ _ n8
  have f41 : (Z4.alloc (.cells CX.toArray 29)).frozen? ⟨Z4.heap.size, 41, none⟩ = false := frozen_of_row _ _ _ _ _ n8
  have n9 := heap_alloc_new Z4 (.cells (CX.set 40 (.int .i64 0)).toArray 29)
  have k42 : (Z4.alloc (.cells (CX.set 40 (.int .i64 0)).toArray 29)).cell? ⟨Z4.heap.size, 41, none⟩ = some (.int .i64 S) := by
    rw [cell_of_row _ _ _ _ _ _ n9]
    have := KX.out.2
    simpa using this
  have f42 : (Z4.alloc (.cells (CX.set 40 (.int .i64 0)).toArray 29)).frozen? ⟨Z4.heap.size, 41, none⟩ = false := frozen_of_row _ _ _ _ _ n9
  clear n8 n9 k41 f41
  go_upto_region 7 with (first | (refine wpList_load_row rfl 29 (.tmp 1) rfl w2.heap.size rfl 29 CX.toArray (0, 0) _ N4.out Tryd.underlying29 rfl IXa.out ?_) | (refine wpList_store_new rfl 29 (.tmp 8) (.tmp 29) rfl (.int .i64 0 :: .int .i64 0 :: .int .i64 0 :: .int .i64 0 :: .int .i64 0 :: .int .i64 0 :: .int .i64 0 :: .int .u8 0 :: .int .u8 0 :: .int .u8 0 :: .int .u8 0 :: .int .u8 0 :: .int .u8 0 :: .int .u8 0 :: .int .u8 0 :: .int .u8 0 :: .int .u8 0 :: .int .u8 0 :: .int .u8 0 :: .int .u8 0 :: .int .u8 0 :: .int .u8 0 :: .int .u8 0 :: .int .u8 0 :: .int .u8 0 :: .int .u8 0 :: .int .u8 0 :: .int .u8 0 :: .int .u8 0 :: .int .u8 0 :: .int .u8 0 :: .int .u8 0 :: .int .u8 0 :: .int .u8 0 :: .int .u8 0 :: .int .u8 0 :: .int .u8 0 :: .int .u8 0 :: .int .u8 0 :: .int .i64 0 :: .int .i64 0 :: .int .i64 0 :: [] : List Value) CX 29 rfl rfl IX.out LX.out OX.out ?_))
  go_upto_region 8 with (fail)
  rw [U3.out]
  clear k40 k42 f40 f42 N4
  obtain ⟨Z5, hZ5⟩ : ∃ W, W = Z4.alloc (.cells C0.toArray 29) := ⟨_, rfl⟩
  have HBZ5 : Seal (Below w.heap.size w Z5) := ⟨by rw [hZ5]; exact HBZ4.out.alloc HBZ4.out.size _⟩
  have HEZ5 : Seal (Env Z5 none 0 0 [] [(Z4.heap.size, .cells C0.toArray 29), (w5.heap.size, .cells CS.toArray 29), (w2.heap.size, .cells CX.toArray 29)]) := ⟨by rw [hZ5]; exact HEZ4.out.push _⟩
  rw [← hZ5]
  clear hZ5
  clear HBZ4 HEZ4
  go_wp2_with (fail)
  refine (Hh.out _).mono ?_
  rintro e w7 ⟨rfl, hb⟩
  have HBw7 := Seal.mk (HBZ5.out.trans (hb.mono HBZ5.out.size))
  have HEw7 := Seal.mk (HEZ5.out.below hb)
  clear hb
  have n7 := heap_alloc_new w7 (.cells C0.toArray 29)
  have k39 : (w7.alloc (.cells C0.toArray 29)).cell? ⟨w7.heap.size, 39, none⟩ = some (.int .i64 45) := by rw [cell_of_row _ _ _ _ _ _ n7]; exact K0.out.2
  have f39 : (w7.alloc (.cells C0.toArray 29)).frozen? ⟨w7.heap.size, 39, none⟩ = false := frozen_of_row _ _ _ _ _ n7
  clear n7 HBZ5 HEZ5
  go_upto_region 9 with (refine wpList_store_new rfl 29 (.tmp 9) (.tmp 32) rfl (.int .i64 0 :: .int .i64 0 :: .int .i64 0 :: .int .i64 0 :: .int .i64 0 :: .int .i64 0 :: .int .i64 0 :: .int .u8 0 :: .int .u8 0 :: .int .u8 0 :: .int .u8 0 :: .int .u8 0 :: .int .u8 0 :: .int .u8 0 :: .int .u8 0 :: .int .u8 0 :: .int .u8 0 :: .int .u8 0 :: .int .u8 0 :: .int .u8 0 :: .int .u8 0 :: .int .u8 0 :: .int .u8 0 :: .int .u8 0 :: .int .u8 0 :: .int .u8 0 :: .int .u8 0 :: .int .u8 0 :: .int .u8 0 :: .int .u8 0 :: .int .u8 0 :: .int .u8 0 :: .int .u8 0 :: .int .u8 0 :: .int .u8 0 :: .int .u8 0 :: .int .u8 0 :: .int .u8 0 :: .int .u8 0 :: .int .i64 0 :: .int .i64 0 :: .int .i64 0 :: [] : List Value) C0 29 rfl rfl I0.out L0.out O0.out ?_)
  go_upto_region 10 with (fail)
  rw [U2.out]
  clear k39 f39
  obtain ⟨Z6, hZ6⟩ : ∃ W, W = w7.alloc (.cells CL.toArray 29) := ⟨_, rfl⟩
  have HBZ6 : Seal (Below w.heap.size w Z6) := ⟨by rw [hZ6]; exact HBw7.out.alloc HBw7.out.size _⟩
  have HEZ6 : Seal (Env Z6 none 0 0 [] [(w7.heap.size, .cells CL.toArray 29), (Z4.heap.size, .cells C0.toArray 29), (w5.heap.size, .cells CS.toArray 29), (w2.heap.size, .cells CX.toArray 29)]) := ⟨by rw [hZ6]; exact HEw7.out.push _⟩
  rw [← hZ6]
  clear hZ6
  clear HBw7 HEw7
  go_upto_region 11 with (fail)
  obtain ⟨Z7, hZ7⟩ : ∃ Z7, Z7 = Z6 := ⟨_, rfl⟩
  rw [← hZ7] at HBZ6 HEZ6 ⊢
  clear hZ7
  have N4 := Seal.mk (HEZ6.out.keep (w2.heap.size, .cells CX.toArray 29) (by simp))
  have n8 := heap_alloc_new Z7 (.cells CX.toArray 29)
  have k40 : (Z7.alloc (.cells CX.toArray 29)).cell? ⟨Z7.heap.size, 40, none⟩ = some (.int .i64 E) := by rw [cell_of_row _ _ _ _ _ _ n8]; exact KX.out.1
  have f40 : (Z7.alloc (.cells CX.toArray 29)).frozen? ⟨Z7.heap.size, 40, none⟩ = false := frozen_of_row _ _ _ _ _ n8
  have n9 := heap_alloc_new Z7 (.cells (CX.set 40 (.int .i64 0)).toArray 29)
  have k42 : (Z7.alloc (.cells (CX.set 40 (.int .i64 0)).toArray 29)).cell? ⟨Z7.heap.size, 41, none⟩ = some (.int .i64 S) := by
    rw [cell_of_row _ _ _ _ _ _ n9]
    have := KX.out.2
    simpa using this
  have f42 : (Z7.alloc (.cells (CX.set 40 (.int .i64 0)).toArray 29)).frozen? ⟨Z7.heap.size, 41, none⟩ = false := frozen_of_row _ _ _ _ _ n9
  clear n8 n9
  go_upto_region 12 with (first | (refine wpList_load_row rfl 29 (.tmp 1) rfl w2.heap.size rfl 29 CX.toArray (0, 0) _ N4.out Tryd.underlying29 rfl IXa.out ?_) | (refine wpList_store_new rfl 29 (.tmp 11) (.tmp 47) rfl (.int .i64 0 :: .int .i64 0 :: .int .i64 0 :: .int .i64 0 :: .int .i64 0 :: .int .i64 0 :: .int .i64 0 :: .int .u8 0 :: .int .u8 0 :: .int .u8 0 :: .int .u8 0 :: .int .u8 0 :: .int .u8 0 :: .int .u8 0 :: .int .u8 0 :: .int .u8 0 :: .int .u8 0 :: .int .u8 0 :: .int .u8 0 :: .int .u8 0 :: .int .u8 0 :: .int .u8 0 :: .int .u8 0 :: .int .u8 0 :: .int .u8 0 :: .int .u8 0 :: .int .u8 0 :: .int .u8 0 :: .int .u8 0 :: .int .u8 0 :: .int .u8 0 :: .int .u8 0 :: .int .u8 0 :: .int .u8 0 :: .int .u8 0 :: .int .u8 0 :: .int .u8 0 :: .int .u8 0 :: .int .u8 0 :: .int .i64 0 :: .int .i64 0 :: .int .i64 0 :: [] : List Value) CX 29 rfl rfl IX.out LX.out OX.out ?_))
  go_upto_region 13 with (fail)
  rw [U3.out]
  clear k40 k42 f40 f42 N4
  obtain ⟨Z8, hZ8⟩ : ∃ W, W = Z7.alloc (.cells C0.toArray 29) := ⟨_, rfl⟩
  have HBZ8 : Seal (Below w.heap.size w Z8) := ⟨by rw [hZ8]; exact HBZ6.out.alloc HBZ6.out.size _⟩
  have HEZ8 : Seal (Env Z8 none 0 0 [] [(Z7.heap.size, .cells C0.toArray 29), (w7.heap.size, .cells CL.toArray 29), (Z4.heap.size, .cells C0.toArray 29), (w5.heap.size, .cells CS.toArray 29), (w2.heap.size, .cells CX.toArray 29)]) := ⟨by rw [hZ8]; exact HEZ6.out.push _⟩
  rw [← hZ8]
  clear hZ8
  clear HBZ6 HEZ6
  have r0 : Z8.rangeAt Z7.heap.size 0 C0 := rangeAt_row (HEZ8.out.keep (Z7.heap.size, .cells C0.toArray 29) (by simp))
  have r1 : Z8.rangeAt w7.heap.size 0 CL := rangeAt_row (HEZ8.out.keep (w7.heap.size, .cells CL.toArray 29) (by simp))
  have r2 : Z8.rangeAt Z4.heap.size 0 C0 := rangeAt_row (HEZ8.out.keep (Z4.heap.size, .cells C0.toArray 29) (by simp))
  have r3 : Z8.rangeAt w5.heap.size 0 CS := rangeAt_row (HEZ8.out.keep (w5.heap.size, .cells CS.toArray 29) (by simp))
  have r4 : Z8.rangeAt w2.heap.size 0 CX := rangeAt_row (HEZ8.out.keep (w2.heap.size, .cells CX.toArray 29) (by simp))
  have HGZ8 : Seal (Glob Z8) := ⟨HEZ8.out.glob⟩
  have i0 := I0.out
  have iX := IX.out
  have iS := IS.out
  have iL := IL.out
  have ut := Tryd.underlying29
  clear HEZ8 I0 IX IZ IS IL L0 LX LZ O0 OX OZ K0 KX U1 U2 U3 M1 M2 M3 ISa IXa
  refine wp_region_held_drew (S := fun w' => w'.rangeAt Z7.heap.size 0 C0 ∧ w'.rangeAt w7.heap.size 0 CL ∧ w'.rangeAt Z4.heap.size 0 C0 ∧ w'.rangeAt w5.heap.size 0 CS ∧ w'.rangeAt w2.heap.size 0 CX) (by kernel_rfl) ⟨r0, r1, r2, r3, r4⟩ (fun hHeld => ?_)
  obtain ⟨Y, hY⟩ : ∃ Y, Y = Z8.drew := ⟨_, rfl⟩
  have HBY : Seal (Below w.heap.size w Y) := ⟨by rw [hY]; exact ⟨HBZ8.out.os, HBZ8.out.tape, HBZ8.out.output, HBZ8.out.size, HBZ8.out.block⟩⟩
  have HGY : Seal (Glob Y) := ⟨by rw [hY]; exact ⟨HGZ8.out.start, HGZ8.out.nums⟩⟩
  rw [← hY] at hHeld ⊢
  clear hY r0 r1 r2 r3 r4 HBZ8 HGZ8
  refine take_h 0 ?_ rfl (by kernel_rfl) (by kernel_rfl) (by kernel_rfl) (fun _ _ _ h => h) (Or.inl ⟨by kernel_rfl, ?_⟩) (by assumption) ?_
  rotate_left
  · (intro w hSw; (try dsimp only at hSw); go_simp; try (with_reducible rfl))
  try simp only [Act.put, List.setIfInBounds_toArray, List.set_cons_zero, List.set_cons_succ]
  refine take_h 1 ?_ rfl (by kernel_rfl) (by kernel_rfl) (by kernel_rfl) (fun _ _ _ h => h) (Or.inl ⟨by kernel_rfl, ?_⟩) (by assumption) ?_
  rotate_left
  · (intro w hSw; (try dsimp only at hSw); go_simp; try (with_reducible rfl))
  try simp only [Act.put, List.setIfInBounds_toArray, List.set_cons_zero, List.set_cons_succ]
  refine take_h 2 _ rfl (by kernel_rfl) (by kernel_rfl) (by kernel_rfl) (fun _ _ _ h => h) (yieldsIf_load_mid (by kernel_rfl) 29 (.tmp 11) rfl Z7.heap.size 0 rfl C0 _ (fun w hSw => hSw.1) ut rfl i0) (by assumption) ?_
  try simp only [Act.put, List.setIfInBounds_toArray, List.set_cons_zero, List.set_cons_succ]
  refine call_h 3 rfl (by kernel_rfl) 43 #[] (by kernel_rfl) (by go_simp) ?_
  refine (Hh.out _).mono ?_
  rintro e y1 ⟨rfl, hb⟩
  have HBy1 : Seal (Below w.heap.size w y1) := ⟨HBY.out.trans (hb.mono HBY.out.size)⟩
  have HGy1 : Seal (Glob y1) := ⟨HGY.out.below hb⟩
  refine ⟨_, rfl, ⟨rangeAt_below' hHeld.1 hb, rangeAt_below' hHeld.2.1 hb, rangeAt_below' hHeld.2.2.1 hb, rangeAt_below' hHeld.2.2.2.1 hb, rangeAt_below' hHeld.2.2.2.2 hb⟩, fun hHeld2 => ?_⟩
  clear hHeld hb HBY HGY
  have hHeld := hHeld2
  clear hHeld2
  try simp only [Act.put, List.setIfInBounds_toArray, List.set_cons_zero, List.set_cons_succ]
  refine take_h 4 (.bool true) rfl (by kernel_rfl) (by kernel_rfl) (by kernel_rfl) (fun _ _ _ h => h) (Or.inl ⟨by kernel_rfl, ?_⟩) (by assumption) ?_
  · intro w hSw
    go_simp
  try simp only [Act.put, List.setIfInBounds_toArray, List.set_cons_zero, List.set_cons_succ]
  refine take_h 5 ?_ rfl (by kernel_rfl) (by kernel_rfl) (by kernel_rfl) (fun _ _ _ h => h) (Or.inl ⟨by kernel_rfl, ?_⟩) (by assumption) ?_
  rotate_left
  · (intro w hSw; (try dsimp only at hSw); go_simp; try (with_reducible rfl))
  try simp only [Act.put, List.setIfInBounds_toArray, List.set_cons_zero, List.set_cons_succ]
  refine take_h 6 ?_ rfl (by kernel_rfl) (by kernel_rfl) (by kernel_rfl) (fun _ _ _ h => h) (Or.inl ⟨by kernel_rfl, ?_⟩) (by assumption) ?_
  rotate_left
  · (intro w hSw; (try dsimp only at hSw); go_simp; try (with_reducible rfl))
  try simp only [Act.put, List.setIfInBounds_toArray, List.set_cons_zero, List.set_cons_succ]
  refine take_h 7 _ rfl (by kernel_rfl) (by kernel_rfl) (by kernel_rfl) (fun _ _ _ h => h) (yieldsIf_load_mid (by kernel_rfl) 29 (.tmp 1) rfl w2.heap.size 0 rfl CX _ (fun w hSw => hSw.2.2.2.2) ut rfl iX) (by assumption) ?_
  try simp only [Act.put, List.setIfInBounds_toArray, List.set_cons_zero, List.set_cons_succ]
  refine call_h 8 rfl (by kernel_rfl) 15 #[.int .i64 4, .agg CX.toArray] (by kernel_rfl) (by go_simp) ?_
  refine (V1.out _ HGy1.out).mono ?_
  rintro e y2 ⟨rfl, hb⟩
  have HBy2 : Seal (Below w.heap.size w y2) := ⟨HBy1.out.trans (hb.mono HBy1.out.size)⟩
  have HGy2 : Seal (Glob y2) := ⟨HGy1.out.below hb⟩
  refine ⟨_, rfl, ⟨rangeAt_below' hHeld.1 hb, rangeAt_below' hHeld.2.1 hb, rangeAt_below' hHeld.2.2.1 hb, rangeAt_below' hHeld.2.2.2.1 hb, rangeAt_below' hHeld.2.2.2.2 hb⟩, fun hHeld2 => ?_⟩
  clear hHeld hb HBy1 HGy1
  have hHeld := hHeld2
  clear hHeld2
  try simp only [Act.put, List.setIfInBounds_toArray, List.set_cons_zero, List.set_cons_succ]
  refine take_h 9 ?_ rfl (by kernel_rfl) (by kernel_rfl) (by kernel_rfl) (fun _ _ _ h => h) (Or.inl ⟨by kernel_rfl, ?_⟩) (by assumption) ?_
  rotate_left
  · (intro w hSw; (try dsimp only at hSw); go_simp; try (with_reducible rfl))
  try simp only [Act.put, List.setIfInBounds_toArray, List.set_cons_zero, List.set_cons_succ]
  refine take_h 10 ?_ rfl (by kernel_rfl) (by kernel_rfl) (by kernel_rfl) (fun _ _ _ h => h) (Or.inl ⟨by kernel_rfl, ?_⟩) (by assumption) ?_
  rotate_left
  · (intro w hSw; (try dsimp only at hSw); go_simp; try (with_reducible rfl))
  try simp only [Act.put, List.setIfInBounds_toArray, List.set_cons_zero, List.set_cons_succ]
  refine take_h 11 _ rfl (by kernel_rfl) (by kernel_rfl) (by kernel_rfl) (fun _ _ _ h => h) (yieldsIf_load_mid (by kernel_rfl) 29 (.tmp 5) rfl w5.heap.size 0 rfl CS _ (fun w hSw => hSw.2.2.2.1) ut rfl iS) (by assumption) ?_
  try simp only [Act.put, List.setIfInBounds_toArray, List.set_cons_zero, List.set_cons_succ]
  refine call_h 12 rfl (by kernel_rfl) 15 #[.int .i64 4, .agg CS.toArray] (by kernel_rfl) (by go_simp) ?_
  refine (V2.out _ HGy2.out).mono ?_
  rintro e y3 ⟨rfl, hb⟩
  have HBy3 : Seal (Below w.heap.size w y3) := ⟨HBy2.out.trans (hb.mono HBy2.out.size)⟩
  have HGy3 : Seal (Glob y3) := ⟨HGy2.out.below hb⟩
  refine ⟨_, rfl, ⟨rangeAt_below' hHeld.1 hb, rangeAt_below' hHeld.2.1 hb, rangeAt_below' hHeld.2.2.1 hb, rangeAt_below' hHeld.2.2.2.1 hb, rangeAt_below' hHeld.2.2.2.2 hb⟩, fun hHeld2 => ?_⟩
  clear hHeld hb HBy2 HGy2
  have hHeld := hHeld2
  clear hHeld2
  try simp only [Act.put, List.setIfInBounds_toArray, List.set_cons_zero, List.set_cons_succ]
  refine take_h 13 ?_ rfl (by kernel_rfl) (by kernel_rfl) (by kernel_rfl) (fun _ _ _ h => h) (Or.inl ⟨by kernel_rfl, ?_⟩) (by assumption) ?_
  rotate_left
  · (intro w hSw; (try dsimp only at hSw); go_simp; try (with_reducible rfl))
  try simp only [Act.put, List.setIfInBounds_toArray, List.set_cons_zero, List.set_cons_succ]
  refine take_h 14 ?_ rfl (by kernel_rfl) (by kernel_rfl) (by kernel_rfl) (fun _ _ _ h => h) (Or.inl ⟨by kernel_rfl, ?_⟩) (by assumption) ?_
  rotate_left
  · (intro w hSw; (try dsimp only at hSw); go_simp; try (with_reducible rfl))
  try simp only [Act.put, List.setIfInBounds_toArray, List.set_cons_zero, List.set_cons_succ]
  refine take_h 15 ?_ rfl (by kernel_rfl) (by kernel_rfl) (by kernel_rfl) (fun _ _ _ h => h) (Or.inl ⟨by kernel_rfl, ?_⟩) (by assumption) ?_
  rotate_left
  · (intro w hSw; (try dsimp only at hSw); go_simp; try (with_reducible rfl))
  try simp only [Act.put, List.setIfInBounds_toArray, List.set_cons_zero, List.set_cons_succ]
  refine call_h 16 rfl (by kernel_rfl) 18 #[.slice none 0 0] (by kernel_rfl) (by go_simp) ?_
  refine (R1.out _ HGy3.out).mono ?_
  rintro e y4 ⟨rfl, hb⟩
  have HBy4 : Seal (Below w.heap.size w y4) := ⟨HBy3.out.trans (hb.mono HBy3.out.size)⟩
  have HGy4 : Seal (Glob y4) := ⟨HGy3.out.below hb⟩
  refine ⟨_, rfl, ⟨rangeAt_below' hHeld.1 hb, rangeAt_below' hHeld.2.1 hb, rangeAt_below' hHeld.2.2.1 hb, rangeAt_below' hHeld.2.2.2.1 hb, rangeAt_below' hHeld.2.2.2.2 hb⟩, fun hHeld2 => ?_⟩
  clear hHeld hb HBy3 HGy3
  have hHeld := hHeld2
  clear hHeld2
  try simp only [Act.put, List.setIfInBounds_toArray, List.set_cons_zero, List.set_cons_succ]
  refine call_h 17 rfl (by kernel_rfl) 44 #[.slice none 0 0] (by kernel_rfl) (by go_simp) ?_
  refine (R2.out _ HGy4.out).mono ?_
  rintro e y5 ⟨rfl, hb⟩
  have HBy5 : Seal (Below w.heap.size w y5) := ⟨HBy4.out.trans (hb.mono HBy4.out.size)⟩
  have HGy5 : Seal (Glob y5) := ⟨HGy4.out.below hb⟩
  refine ⟨_, rfl, ⟨rangeAt_below' hHeld.1 hb, rangeAt_below' hHeld.2.1 hb, rangeAt_below' hHeld.2.2.1 hb, rangeAt_below' hHeld.2.2.2.1 hb, rangeAt_below' hHeld.2.2.2.2 hb⟩, fun hHeld2 => ?_⟩
  clear hHeld hb HBy4 HGy4
  have hHeld := hHeld2
  clear hHeld2
  try simp only [Act.put, List.setIfInBounds_toArray, List.set_cons_zero, List.set_cons_succ]
  refine take_h 18 (.bool true) rfl (by kernel_rfl) (by kernel_rfl) (by kernel_rfl) (fun _ _ _ h => h) (Or.inl ⟨by kernel_rfl, ?_⟩) (by assumption) ?_
  · intro w hSw
    go_simp
  try simp only [Act.put, List.setIfInBounds_toArray, List.set_cons_zero, List.set_cons_succ]
  refine take_h 19 ?_ rfl (by kernel_rfl) (by kernel_rfl) (by kernel_rfl) (fun _ _ _ h => h) (Or.inl ⟨by kernel_rfl, ?_⟩) (by assumption) ?_
  rotate_left
  · (intro w hSw; (try dsimp only at hSw); go_simp; try (with_reducible rfl))
  try simp only [Act.put, List.setIfInBounds_toArray, List.set_cons_zero, List.set_cons_succ]
  refine take_h 20 ?_ rfl (by kernel_rfl) (by kernel_rfl) (by kernel_rfl) (fun _ _ _ h => h) (Or.inl ⟨by kernel_rfl, ?_⟩) (by assumption) ?_
  rotate_left
  · (intro w hSw; (try dsimp only at hSw); go_simp; try (with_reducible rfl))
  try simp only [Act.put, List.setIfInBounds_toArray, List.set_cons_zero, List.set_cons_succ]
  refine take_h 21 _ rfl (by kernel_rfl) (by kernel_rfl) (by kernel_rfl) (fun _ _ _ h => h) (yieldsIf_load_mid (by kernel_rfl) 29 (.tmp 1) rfl w2.heap.size 0 rfl CX _ (fun w hSw => hSw.2.2.2.2) ut rfl iX) (by assumption) ?_
  try simp only [Act.put, List.setIfInBounds_toArray, List.set_cons_zero, List.set_cons_succ]
  refine take_h 22 _ rfl (by kernel_rfl) (by kernel_rfl) (by kernel_rfl) (fun _ _ _ h => h) (yieldsIf_load_mid (by kernel_rfl) 29 (.tmp 1) rfl w2.heap.size 0 rfl CX _ (fun w hSw => hSw.2.2.2.2) ut rfl iX) (by assumption) ?_
  try simp only [Act.put, List.setIfInBounds_toArray, List.set_cons_zero, List.set_cons_succ]
  refine call_h 23 rfl (by kernel_rfl) 20 #[.agg CX.toArray, .agg CX.toArray] (by kernel_rfl) (by go_simp) ?_
  refine (J1.out _).mono ?_
  rintro e y6 ⟨rfl, hb⟩
  have HBy6 : Seal (Below w.heap.size w y6) := ⟨HBy5.out.trans (hb.mono HBy5.out.size)⟩
  have HGy6 : Seal (Glob y6) := ⟨HGy5.out.below hb⟩
  refine ⟨_, rfl, ⟨rangeAt_below' hHeld.1 hb, rangeAt_below' hHeld.2.1 hb, rangeAt_below' hHeld.2.2.1 hb, rangeAt_below' hHeld.2.2.2.1 hb, rangeAt_below' hHeld.2.2.2.2 hb⟩, fun hHeld2 => ?_⟩
  clear hHeld hb HBy5 HGy5
  have hHeld := hHeld2
  clear hHeld2
  try simp only [Act.put, List.setIfInBounds_toArray, List.set_cons_zero, List.set_cons_succ]
  refine take_h 24 ?_ rfl (by kernel_rfl) (by kernel_rfl) (by kernel_rfl) (fun _ _ _ h => h) (Or.inl ⟨by kernel_rfl, ?_⟩) (by assumption) ?_
  rotate_left
  · (intro w hSw; (try dsimp only at hSw); go_simp; try (with_reducible rfl))
  try simp only [Act.put, List.setIfInBounds_toArray, List.set_cons_zero, List.set_cons_succ]
  refine take_h 25 ?_ rfl (by kernel_rfl) (by kernel_rfl) (by kernel_rfl) (fun _ _ _ h => h) (Or.inl ⟨by kernel_rfl, ?_⟩) (by assumption) ?_
  rotate_left
  · (intro w hSw; (try dsimp only at hSw); go_simp; try (with_reducible rfl))
  try simp only [Act.put, List.setIfInBounds_toArray, List.set_cons_zero, List.set_cons_succ]
  refine take_h 26 ?_ rfl (by kernel_rfl) (by kernel_rfl) (by kernel_rfl) (fun _ _ _ h => h) (Or.inl ⟨by kernel_rfl, ?_⟩) (by assumption) ?_
  rotate_left
  · (intro w hSw; (try dsimp only at hSw); go_simp; try (with_reducible rfl))
  try simp only [Act.put, List.setIfInBounds_toArray, List.set_cons_zero, List.set_cons_succ]
  refine take_h 27 _ rfl (by kernel_rfl) (by kernel_rfl) (by kernel_rfl) (fun _ _ _ h => h) (yieldsIf_load_mid (by kernel_rfl) 29 (.tmp 1) rfl w2.heap.size 0 rfl CX _ (fun w hSw => hSw.2.2.2.2) ut rfl iX) (by assumption) ?_
  try simp only [Act.put, List.setIfInBounds_toArray, List.set_cons_zero, List.set_cons_succ]
  refine take_h 28 _ rfl (by kernel_rfl) (by kernel_rfl) (by kernel_rfl) (fun _ _ _ h => h) (yieldsIf_load_mid (by kernel_rfl) 29 (.tmp 8) rfl Z4.heap.size 0 rfl C0 _ (fun w hSw => hSw.2.2.1) ut rfl i0) (by assumption) ?_
  try simp only [Act.put, List.setIfInBounds_toArray, List.set_cons_zero, List.set_cons_succ]
  refine call_h 29 rfl (by kernel_rfl) 20 #[.agg CX.toArray, .agg C0.toArray] (by kernel_rfl) (by go_simp) ?_
  refine (J2.out _).mono ?_
  rintro e y7 ⟨rfl, hb⟩
  have HBy7 : Seal (Below w.heap.size w y7) := ⟨HBy6.out.trans (hb.mono HBy6.out.size)⟩
  have HGy7 : Seal (Glob y7) := ⟨HGy6.out.below hb⟩
  refine ⟨_, rfl, ⟨rangeAt_below' hHeld.1 hb, rangeAt_below' hHeld.2.1 hb, rangeAt_below' hHeld.2.2.1 hb, rangeAt_below' hHeld.2.2.2.1 hb, rangeAt_below' hHeld.2.2.2.2 hb⟩, fun hHeld2 => ?_⟩
  clear hHeld hb HBy6 HGy6
  have hHeld := hHeld2
  clear hHeld2
  try simp only [Act.put, List.setIfInBounds_toArray, List.set_cons_zero, List.set_cons_succ]
  refine take_h 30 ?_ rfl (by kernel_rfl) (by kernel_rfl) (by kernel_rfl) (fun _ _ _ h => h) (Or.inl ⟨by kernel_rfl, ?_⟩) (by assumption) ?_
  rotate_left
  · (intro w hSw; (try dsimp only at hSw); go_simp; try (with_reducible rfl))
  try simp only [Act.put, List.setIfInBounds_toArray, List.set_cons_zero, List.set_cons_succ]
  refine take_h 31 ?_ rfl (by kernel_rfl) (by kernel_rfl) (by kernel_rfl) (fun _ _ _ h => h) (Or.inl ⟨by kernel_rfl, ?_⟩) (by assumption) ?_
  rotate_left
  · (intro w hSw; (try dsimp only at hSw); go_simp; try (with_reducible rfl))
  try simp only [Act.put, List.setIfInBounds_toArray, List.set_cons_zero, List.set_cons_succ]
  refine take_h 32 ?_ rfl (by kernel_rfl) (by kernel_rfl) (by kernel_rfl) (fun _ _ _ h => h) (Or.inl ⟨by kernel_rfl, ?_⟩) (by assumption) ?_
  rotate_left
  · (intro w hSw; (try dsimp only at hSw); go_simp; try (with_reducible rfl))
  try simp only [Act.put, List.setIfInBounds_toArray, List.set_cons_zero, List.set_cons_succ]
  refine take_h 33 _ rfl (by kernel_rfl) (by kernel_rfl) (by kernel_rfl) (fun _ _ _ h => h) (yieldsIf_load_mid (by kernel_rfl) 29 (.tmp 1) rfl w2.heap.size 0 rfl CX _ (fun w hSw => hSw.2.2.2.2) ut rfl iX) (by assumption) ?_
  try simp only [Act.put, List.setIfInBounds_toArray, List.set_cons_zero, List.set_cons_succ]
  refine take_h 34 _ rfl (by kernel_rfl) (by kernel_rfl) (by kernel_rfl) (fun _ _ _ h => h) (yieldsIf_load_mid (by kernel_rfl) 29 (.tmp 9) rfl w7.heap.size 0 rfl CL _ (fun w hSw => hSw.2.1) ut rfl iL) (by assumption) ?_
  try simp only [Act.put, List.setIfInBounds_toArray, List.set_cons_zero, List.set_cons_succ]
  refine call_h 35 rfl (by kernel_rfl) 20 #[.agg CX.toArray, .agg CL.toArray] (by kernel_rfl) (by go_simp) ?_
  refine (J3.out _).mono ?_
  rintro e y8 ⟨rfl, hb⟩
  have HBy8 : Seal (Below w.heap.size w y8) := ⟨HBy7.out.trans (hb.mono HBy7.out.size)⟩
  have HGy8 : Seal (Glob y8) := ⟨HGy7.out.below hb⟩
  refine ⟨_, rfl, ⟨rangeAt_below' hHeld.1 hb, rangeAt_below' hHeld.2.1 hb, rangeAt_below' hHeld.2.2.1 hb, rangeAt_below' hHeld.2.2.2.1 hb, rangeAt_below' hHeld.2.2.2.2 hb⟩, fun hHeld2 => ?_⟩
  clear hHeld hb HBy7 HGy7
  have hHeld := hHeld2
  clear hHeld2
  try simp only [Act.put, List.setIfInBounds_toArray, List.set_cons_zero, List.set_cons_succ]
  refine take_h 36 ?_ rfl (by kernel_rfl) (by kernel_rfl) (by kernel_rfl) (fun _ _ _ h => h) (Or.inl ⟨by kernel_rfl, ?_⟩) (by assumption) ?_
  rotate_left
  · (intro w hSw; (try dsimp only at hSw); go_simp; try (with_reducible rfl))
  try simp only [Act.put, List.setIfInBounds_toArray, List.set_cons_zero, List.set_cons_succ]
  refine take_h 37 ?_ rfl (by kernel_rfl) (by kernel_rfl) (by kernel_rfl) (fun _ _ _ h => h) (Or.inl ⟨by kernel_rfl, ?_⟩) (by assumption) ?_
  rotate_left
  · (intro w hSw; (try dsimp only at hSw); go_simp; try (with_reducible rfl))
  try simp only [Act.put, List.setIfInBounds_toArray, List.set_cons_zero, List.set_cons_succ]
  refine take_h 38 _ rfl (by kernel_rfl) (by kernel_rfl) (by kernel_rfl) (fun _ _ _ h => h) (yieldsIf_load_mid (by kernel_rfl) 29 (.tmp 5) rfl w5.heap.size 0 rfl CS _ (fun w hSw => hSw.2.2.2.1) ut rfl iS) (by assumption) ?_
  try simp only [Act.put, List.setIfInBounds_toArray, List.set_cons_zero, List.set_cons_succ]
  refine take_h 39 _ rfl (by kernel_rfl) (by kernel_rfl) (by kernel_rfl) (fun _ _ _ h => h) (yieldsIf_load_mid (by kernel_rfl) 29 (.tmp 9) rfl w7.heap.size 0 rfl CL _ (fun w hSw => hSw.2.1) ut rfl iL) (by assumption) ?_
  try simp only [Act.put, List.setIfInBounds_toArray, List.set_cons_zero, List.set_cons_succ]
  refine call_h 40 rfl (by kernel_rfl) 20 #[.agg CS.toArray, .agg CL.toArray] (by kernel_rfl) (by go_simp) ?_
  refine (J4.out _).mono ?_
  rintro e y9 ⟨rfl, hb⟩
  have HBy9 : Seal (Below w.heap.size w y9) := ⟨HBy8.out.trans (hb.mono HBy8.out.size)⟩
  have HGy9 : Seal (Glob y9) := ⟨HGy8.out.below hb⟩
  refine ⟨_, rfl, ⟨rangeAt_below' hHeld.1 hb, rangeAt_below' hHeld.2.1 hb, rangeAt_below' hHeld.2.2.1 hb, rangeAt_below' hHeld.2.2.2.1 hb, rangeAt_below' hHeld.2.2.2.2 hb⟩, fun hHeld2 => ?_⟩
  clear hHeld hb HBy8 HGy8
  have hHeld := hHeld2
  clear hHeld2
  try simp only [Act.put, List.setIfInBounds_toArray, List.set_cons_zero, List.set_cons_succ]
  refine take_h 41 ?_ rfl (by kernel_rfl) (by kernel_rfl) (by kernel_rfl) (fun _ _ _ h => h) (Or.inl ⟨by kernel_rfl, ?_⟩) (by assumption) ?_
  rotate_left
  · (intro w hSw; (try dsimp only at hSw); go_simp; try (with_reducible rfl))
  try simp only [Act.put, List.setIfInBounds_toArray, List.set_cons_zero, List.set_cons_succ]
  refine take_h 42 ?_ rfl (by kernel_rfl) (by kernel_rfl) (by kernel_rfl) (fun _ _ _ h => h) (Or.inl ⟨by kernel_rfl, ?_⟩) (by assumption) ?_
  rotate_left
  · (intro w hSw; (try dsimp only at hSw); go_simp; try (with_reducible rfl))
  try simp only [Act.put, List.setIfInBounds_toArray, List.set_cons_zero, List.set_cons_succ]
  refine take_h 43 ?_ rfl (by kernel_rfl) (by kernel_rfl) (by kernel_rfl) (fun _ _ _ h => h) (Or.inl ⟨by kernel_rfl, ?_⟩) (by assumption) ?_
  rotate_left
  · (intro w hSw; (try dsimp only at hSw); go_simp; try (with_reducible rfl))
  try simp only [Act.put, List.setIfInBounds_toArray, List.set_cons_zero]
  refine wpAnyH_done (by kernel_rfl) ?_ _
  clear hHeld
  go_wp2
  go_ret
  exact ⟨rfl, HBy9.out⟩

theorem hd0_fm : hd0.fm = true := by decide
theorem hsane_any (w : World) (hG : Glob w) : Calls Tryd.prog 12 #[] w fun e w' => e = .returned (.bool true) ∧ Below w.heap.size w w' := by
  obtain ⟨E, hE⟩ : ∃ E : Int, ((sgE 1 hd0.tx : Nat) : Int) = E := ⟨_, rfl⟩
  obtain ⟨S, hS⟩ : ∃ S : Int, sgS 1 hd0.tx = S := ⟨_, rfl⟩
  obtain ⟨hX, hhX⟩ : ∃ hX : Hd, hX = hd0.sg E S := ⟨_, rfl⟩
  obtain ⟨hs, hhs⟩ : ∃ hs : Hd, hs = { hd0 with to := 3 } := ⟨_, rfl⟩
  obtain ⟨hl, hhl⟩ : ∃ hl : Hd, hl = { hd0 with tm := 46 } := ⟨_, rfl⟩
  have tX : hX.T.length = 32 := by rw [hhX]; rfl
  have ts : hs.T.length = 32 := by rw [hhs]; rfl
  have tl : hl.T.length = 32 := by rw [hhl]; rfl
  have m1 : mkF 1 hd0 = (hX, 0) := by unfold mkF; rw [if_pos (by decide), if_pos hd0_fm, hE, hS, hhX]
  have m2 : mkF 0 hd0 = (hz, 110) := by unfold mkF; rw [if_neg (by decide)]
  have fs : hs.fm = false := by rw [hhs]; decide
  have fl : hl.fm = true := by rw [hhl]; decide
  have fX : hX.fm = true := by rw [hhX]; exact hd0_fm
  have m3 : mkF 1 hs = (hz, 480) := by unfold mkF; rw [if_pos (by decide), fs, if_neg (by decide)]
  have hE2 := sgE_lt 1 hd0.tx
  have hS2 := sgS_rng 1 hd0.tx
  have okX : hX.ok := by
    rw [hhX]
    exact ⟨rfl, hd0_ok.iL, hd0_ok.iA, hd0_ok.iR, hd0_ok.ileg, hd0_ok.ifr, hd0_ok.ito, hd0_ok.imn, hd0_ok.itm⟩
  have oks : hs.ok := by
    rw [hhs]
    exact ⟨rfl, hd0_ok.iL, hd0_ok.iA, hd0_ok.iR, hd0_ok.ileg, hd0_ok.ifr, (by unfold I64; decide : I64 3), hd0_ok.imn, hd0_ok.itm⟩
  have pw1 : ((pw 4 1 : Nat) : Int) = 4 := by decide +kernel
  have v1 : chB 4 hX = true := by
    unfold chB
    have h1 := sign_right 1 hd0.tx
    rw [pw1, hE, hS] at h1
    rw [fX, Bool.true_and, hhX]
    exact h1
  have v2 : chB 4 hs = false := by unfold chB; rw [fs, Bool.false_and]
  have x0 : hX.sg 0 0 = hd0 := by rw [hhX]; rfl
  have j1 : clB hX hX = false := by
    unfold clB
    rw [(hdB_iff _ _).2 rfl]; simp
  have j2 : clB hX hd0 = false := by
    unfold clB
    rw [x0, (hdB_iff hd0 (hd0.sg 0 0)).2 rfl]; simp
  have j3 : clB hX hl = true := by
    unfold clB
    rw [fX, fl, x0, show slB hX hl = true from by rw [hhX, hhl]; rfl, show hdB hd0 (hl.sg 0 0) = false from by rw [hhl]; decide]; rfl
  have j4 : clB hs hl = false := by unfold clB; rw [fs, Bool.false_and]
  have t0 : hd0.T.length = 32 := rfl
  have hlen : ∀ h : Hd, h.T.length = 32 → ((.int .i64 0 :: .int .i64 0 :: .int .i64 0 :: .int .i64 0 :: .int .i64 0 :: .int .i64 0 :: .int .i64 0 :: .int .u8 0 :: .int .u8 0 :: .int .u8 0 :: .int .u8 0 :: .int .u8 0 :: .int .u8 0 :: .int .u8 0 :: .int .u8 0 :: .int .u8 0 :: .int .u8 0 :: .int .u8 0 :: .int .u8 0 :: .int .u8 0 :: .int .u8 0 :: .int .u8 0 :: .int .u8 0 :: .int .u8 0 :: .int .u8 0 :: .int .u8 0 :: .int .u8 0 :: .int .u8 0 :: .int .u8 0 :: .int .u8 0 :: .int .u8 0 :: .int .u8 0 :: .int .u8 0 :: .int .u8 0 :: .int .u8 0 :: .int .u8 0 :: .int .u8 0 :: .int .u8 0 :: .int .u8 0 :: .int .i64 0 :: .int .i64 0 :: .int .i64 0 :: [] : List Value)).length = h.C.length := fun h k => by rw [Hd.C_len k]; rfl
  have hiX := Hd.C_hi tX
  have hi0 := Hd.C_hi t0
  exact hsane_core hd0.C hX.C hz.C hs.C hl.C (noneD.map B).toArray hX.E hX.S w hG
    ⟨Hd.C_info t0⟩ ⟨Hd.C_info tX⟩ ⟨Hd.C_info zb32_len⟩ ⟨Hd.C_info ts⟩ ⟨Hd.C_info tl⟩ ⟨hlen _ t0⟩ ⟨hlen _ tX⟩ ⟨hlen _ zb32_len⟩ ⟨Hd.C_one _⟩ ⟨Hd.C_one _⟩ ⟨Hd.C_one _⟩
    ⟨rfl, rfl⟩ ⟨by simpa using hiX.2.1, by simpa using hiX.2.2⟩ ⟨by rw [hhs]; rfl⟩ ⟨by rw [hhl]; rfl⟩ ⟨by rw [Hd.C_set tX, x0]⟩
    ⟨fun W => hhand0_any W⟩
    ⟨fun W h => by have := hmake_any 1 hd0 W hd0_ok h; rwa [m1] at this⟩
    ⟨fun W h => by have := hmake_any 0 hd0 W hd0_ok h; rwa [m2] at this⟩
    ⟨fun W h => by have := hmake_any 1 hs W oks h; rwa [m3] at this⟩
    ⟨fun W h => by have := hcheck_any 4 hX W okX h; rwa [v1] at this⟩
    ⟨fun W h => by have := hcheck_any 4 hs W oks h; rwa [v2] at this⟩
    ⟨fun W h => hroot_nil W h⟩ ⟨fun W h => mroot_nil W h⟩
    ⟨fun W => by have := hclash_any hX hX W tX tX; rwa [j1] at this⟩
    ⟨fun W => by have := hclash_any hX hd0 W tX t0; rwa [j2] at this⟩
    ⟨fun W => by have := hclash_any hX hl W tX tl; rwa [j3] at this⟩
    ⟨fun W => by have := hclash_any hs hl W ts tl; rwa [j4] at this⟩
    (fun W => by rw [eqHand hd0 hd0 t0 t0 W, (hdB_iff _ _).2 rfl])
    (fun W => by rw [show (10000 : Nat) = 9998 + 1 + 1 from rfl, eqDig_s 9998 noneD noneD noneD_len noneD_len W]; simp)
end Frk
