/- Law 45's reference: Leaf, Leaves, Root. -/
import Derived.Test.YtemoomfnmiodeaaGreatDoorVugHop
import Derived.Test.YtemoomfnmiodeaaGreatDoorVuMkb
import Derived.Test.YtemoomfnmiodeaaGreatDoorVuRva
namespace Frk
open Go Go.RowKit Go.Proofs
set_option maxRecDepth 100000

set_option maxHeartbeats 2000000 in
theorem rleaf45_any (x : Ltr) (w : World) (ok : x.ok) : Calls Tryz.prog 54 #[.agg x.C.toArray] w fun e w' => ∃ g n c, e = .returned (.slice (some ⟨g, 0, none⟩) n c) ∧ Seal (IsB w' (some ⟨g, 0, none⟩) n c (txK x) ∧ Below w.heap.size w w') := by
  obtain ⟨X, hX⟩ : ∃ X : World, X = w.alloc (.cells x.C.toArray 30) := ⟨_, rfl⟩
  have HB : Seal (Below w.heap.size w X) := ⟨by rw [hX]; exact below_alloc _ _⟩
  have hr : X.rangeAt w.heap.size 0 x.C := rangeAt_row (by rw [hX]; exact heap_alloc_new w _)
  obtain ⟨N, hN⟩ : ∃ N, N = x.N := ⟨_, rfl⟩
  obtain ⟨U, hU⟩ : ∃ N, N = x.U := ⟨_, rfl⟩
  obtain ⟨T, hT⟩ : ∃ N, N = x.T := ⟨_, rfl⟩
  have c0 : X.cell? ⟨w.heap.size, 0, none⟩ = some (.int .i64 N) := by have := hr 0 (.int .i64 x.N) rfl; rw [hN]; simpa using this
  have c1 : X.cell? ⟨w.heap.size, 1, none⟩ = some (.int .i64 U) := by have := hr 1 (.int .i64 x.U) rfl; rw [hU]; simpa using this
  have rT := rangeAt_drop hr 6
  rw [show x.C.drop 6 = T.map B from by rw [hT]; rfl, Nat.zero_add] at rT
  have HT : Seal (N = x.N ∧ U = x.U ∧ T = x.T ∧ T.length = 32) := ⟨hN, hU, hT, by rw [hT]; exact ok.t32⟩
  obtain ⟨TL, hTL⟩ : ∃ L, L = T.map B := ⟨_, rfl⟩
  have iT : (Tryz.prog.info? 26).map (·.size) = some TL.length := by rw [hTL]; exact dg_info _ HT.out.2.2.2
  have HTL := Seal.mk hTL
  rw [← hTL] at rT
  have ud := Tryz.underlying26
  have OK := Seal.mk ok
  obtain ⟨C, hC⟩ : ∃ C, C = x.C.toArray := ⟨_, rfl⟩
  rw [← hC] at hX ⊢
  obtain ⟨gx, hgx⟩ : ∃ g, g = w.heap.size := ⟨_, rfl⟩
  rw [← hgx] at c0 c1 rT
  clear hr hN hU hT hTL hC ok
  go_enter Tryz.func54, Tryz.ntmps54
  go_upto_region 1 with (fail)
  rw [← hX, ← hgx]
  clear hX hgx
  refine wp_region_held_drew (S := fun W => W.cell? ⟨gx, 0, none⟩ = some (.int .i64 N) ∧ W.cell? ⟨gx, 1, none⟩ = some (.int .i64 U) ∧ W.rangeAt gx 6 TL) (by kernel_rfl) ⟨c0, c1, rT⟩ (fun hHeld => ?_)
  obtain ⟨V, hV⟩ : ∃ V, V = X.drew := ⟨_, rfl⟩
  have HB1 : Seal (Below w.heap.size w V) := ⟨by rw [hV]; exact HB.out.trans ((below_drewn_o _).mono HB.out.size)⟩
  rw [← hV] at hHeld ⊢
  clear hV c0 c1 rT HB
  refine take_h 0 ?_ rfl (by kernel_rfl) (by kernel_rfl) (by kernel_rfl) (fun _ _ _ h => h) (Or.inl ⟨by kernel_rfl, ?_⟩) (by assumption) ?_
  rotate_left
  · (intro w hSw; (try dsimp only at hSw); go_simp; try (with_reducible rfl))
  try simp only [Act.put, List.setIfInBounds_toArray, List.set_cons_zero, List.set_cons_succ]
  refine take_h 1 ?_ rfl (by kernel_rfl) (by kernel_rfl) (by kernel_rfl) (fun _ _ _ h => h) (Or.inl ⟨by kernel_rfl, ?_⟩) (by assumption) ?_
  rotate_left
  · (intro w hSw; (try dsimp only at hSw); go_simp; try (with_reducible rfl))
  try simp only [Act.put, List.setIfInBounds_toArray, List.set_cons_zero, List.set_cons_succ]
  refine take_h 3 ?_ rfl (by kernel_rfl) (by kernel_rfl) (by kernel_rfl) (fun _ _ _ h => h) (Or.inl ⟨by kernel_rfl, ?_⟩) (by assumption) ?_
  rotate_left
  · (intro w hSw; (try dsimp only at hSw); go_simp; try (with_reducible rfl))
  try simp only [Act.put, List.setIfInBounds_toArray, List.set_cons_zero, List.set_cons_succ]
  refine take_h 4 ?_ rfl (by kernel_rfl) (by kernel_rfl) (by kernel_rfl) (fun _ _ _ h => h) (Or.inl ⟨by kernel_rfl, ?_⟩) (by assumption) ?_
  rotate_left
  · (intro w hSw; (try dsimp only at hSw); go_simp; try (with_reducible rfl))
  try simp only [Act.put, List.setIfInBounds_toArray, List.set_cons_zero, List.set_cons_succ]
  refine take_h 6 ?_ rfl (by kernel_rfl) (by kernel_rfl) (by kernel_rfl) (fun _ _ _ h => h) (Or.inl ⟨by kernel_rfl, ?_⟩) (by assumption) ?_
  rotate_left
  · (intro w hSw; (try dsimp only at hSw); go_simp; try (with_reducible rfl))
  try simp only [Act.put, List.setIfInBounds_toArray, List.set_cons_zero, List.set_cons_succ]
  refine take_h 7 ?_ rfl (by kernel_rfl) (by kernel_rfl) (by kernel_rfl) (fun _ _ _ h => h) (Or.inl ⟨by kernel_rfl, ?_⟩) (by assumption) ?_
  rotate_left
  · (intro w hSw; (try dsimp only at hSw); go_simp; try (with_reducible rfl))
  try simp only [Act.put, List.setIfInBounds_toArray, List.set_cons_zero, List.set_cons_succ]
  refine take_h 8 _ rfl (by kernel_rfl) (by kernel_rfl) (by kernel_rfl) (fun _ _ _ h => h) (yieldsIf_load_mid (by kernel_rfl) 26 (.tmp 13) rfl gx 6 rfl TL _ (fun w hSw => hSw.2.2) ud rfl iT) (by assumption) ?_
  try simp only [Act.put, List.setIfInBounds_toArray, List.set_cons_zero, List.set_cons_succ]
  refine call_h 2 rfl (by kernel_rfl) 79 #[.int .i64 N] (by kernel_rfl) (by go_simp) ?_
  refine (rnumber13_any N V).mono ?_
  rintro e V1 ⟨rfl, hb⟩
  refine ⟨_, rfl, ⟨cell_below' hb hHeld.1, cell_below' hb hHeld.2.1, rangeAt_below' hHeld.2.2 hb⟩, fun hHeld2 => ?_⟩
  have HB2 := Seal.mk (HB1.out.trans (hb.mono HB1.out.size))
  clear HB1
  have HB1 := HB2
  clear HB2 hHeld
  have hHeld := hHeld2
  clear hHeld2 hb
  try simp only [Act.put, List.setIfInBounds_toArray, List.set_cons_zero, List.set_cons_succ]
  refine call_h 5 rfl (by kernel_rfl) 79 #[.int .i64 U] (by kernel_rfl) (by go_simp) ?_
  refine (rnumber13_any U V1).mono ?_
  rintro e V2 ⟨rfl, hb⟩
  refine ⟨_, rfl, ⟨cell_below' hb hHeld.1, cell_below' hb hHeld.2.1, rangeAt_below' hHeld.2.2 hb⟩, fun hHeld2 => ?_⟩
  have HB2 := Seal.mk (HB1.out.trans (hb.mono HB1.out.size))
  clear HB1
  have HB1 := HB2
  clear HB2 hHeld
  have hHeld := hHeld2
  clear hHeld2 hb
  try simp only [Act.put, List.setIfInBounds_toArray, List.set_cons_zero, List.set_cons_succ]
  have hk : Calls Tryz.prog 80 #[.agg TL.toArray] V2 fun e w' => e = .returned (.agg #[.int .i64 2, .int .i64 0, .string ⟨T.toArray⟩, .slice none 0 0]) ∧ Below V2.heap.size V2 w' := by rw [HTL.out]; exact rtext13_any T V2 HT.out.2.2.2
  refine call_h 9 rfl (by kernel_rfl) 80 #[.agg TL.toArray] (by kernel_rfl) (by go_simp) ?_
  refine hk.mono ?_
  rintro e V3 ⟨rfl, hb⟩
  clear hk
  refine ⟨_, rfl, ⟨cell_below' hb hHeld.1, cell_below' hb hHeld.2.1, rangeAt_below' hHeld.2.2 hb⟩, fun hHeld2 => ?_⟩
  have HB2 := Seal.mk (HB1.out.trans (hb.mono HB1.out.size))
  clear HB1
  have HB1 := HB2
  clear HB2 hHeld
  have hHeld := hHeld2
  clear hHeld2 hb
  try simp only [Act.put, List.setIfInBounds_toArray, List.set_cons_zero, List.set_cons_succ]
  obtain ⟨V4, hV4⟩ : ∃ Z, Z = V3.alloc (.cells (lcsK N U T).flatten.toArray 111) := ⟨_, rfl⟩
  have hb4 := below_alloc V3 (.cells (lcsK N U T).flatten.toArray 111)
  have HLV : Seal (LeavesAt V4 V3.heap.size 0 (lfK x) ∧ V3.heap.size < V4.heap.size) := ⟨by rw [hV4]; exact ⟨leavesK_at V3 HT.out.1 HT.out.2.1 HT.out.2.2.1, by rw [size_alloc]; omega⟩⟩
  rw [← hV4] at hb4
  have HB4 : Seal (Below w.heap.size w V4) := ⟨HB1.out.trans (hb4.mono HB1.out.size)⟩
  refine oper_h 10 (.slice (some ⟨V3.heap.size, 0, none⟩) 3 3) V4 rfl (by kernel_rfl) (by kernel_rfl) (by rw [hV4]; exact exec_bslice rfl (lcsK N U T) Tryz.underlying109 V3 (size_valK V3) (zero_valK V3) rfl rfl (by intro D hD; simp only [lcsK, List.mem_cons, List.not_mem_nil, or_false] at hD; rcases hD with rfl | rfl | rfl <;> rfl) (by decide) (by decide) rfl) ⟨cell_below' hb4 hHeld.1, cell_below' hb4 hHeld.2.1, rangeAt_below' hHeld.2.2 hb4⟩ (fun hHeld2 => ?_)
  clear hHeld hb4 hV4 HB1
  have hHeld := hHeld2
  have HB1 := HB4
  clear hHeld2 HB4
  try simp only [Act.put, List.setIfInBounds_toArray, List.set_cons_zero, List.set_cons_succ]
  refine call_h 11 rfl (by kernel_rfl) 78 #[.slice (some ⟨V3.heap.size, 0, none⟩) 3 3] (by kernel_rfl) (by go_simp) ?_
  refine (rlist13_any (some ⟨V3.heap.size, 0, none⟩) 3 3 V4).mono ?_
  rintro e V5 ⟨rfl, hb⟩
  have HLV5 : Seal (LeavesAt V5 V3.heap.size 0 (lfK x) ∧ V3.heap.size < V5.heap.size) := ⟨HLV.out.1.below hb HLV.out.2, by have := hb.size; have := HLV.out.2; omega⟩
  refine ⟨_, rfl, ⟨cell_below' hb hHeld.1, cell_below' hb hHeld.2.1, rangeAt_below' hHeld.2.2 hb⟩, fun hHeld2 => ?_⟩
  have HB2 := Seal.mk (HB1.out.trans (hb.mono HB1.out.size))
  clear HB1
  have HB1 := HB2
  clear HB2 hHeld
  have hHeld := hHeld2
  clear hHeld2 hb
  try simp only [Act.put, List.setIfInBounds_toArray, List.set_cons_zero, List.set_cons_succ]
  refine call_h 12 rfl (by kernel_rfl) 77 #[.agg #[.int .i64 3, .int .i64 0, .string ByteArray.empty, .slice (some ⟨V3.heap.size, 0, none⟩) 3 3]] (by kernel_rfl) (by go_simp; try rfl) ?_
  refine (rencode_any V3.heap.size 0 3 3 (lfK x) V5 rfl (Nat.le_refl _) (by rw [wgts_lfK OK.out.t32]; decide) HLV5.out.1 HLV5.out.2 (lfK_fits OK.out)).mono ?_
  rintro e V6 ⟨g', n', cap', rfl, hf⟩
  have hb := hf.out.bel
  have hlen := txK_len OK.out.t32
  have e0 : encL (lfK x) = txK x := rfl
  rw [e0] at hf
  have HF : Seal (IsB V6 (some ⟨g', 0, none⟩) n' cap' (txK x)) := ⟨hf.out.isB (by have := hf.out.len; omega)⟩
  clear hf e0 hlen
  refine ⟨_, rfl, ⟨cell_below' hb hHeld.1, cell_below' hb hHeld.2.1, rangeAt_below' hHeld.2.2 hb⟩, fun hHeld2 => ?_⟩
  have HB2 := Seal.mk (HB1.out.trans (hb.mono HB1.out.size))
  clear HB1
  have HB1 := HB2
  clear HB2 hHeld
  have hHeld := hHeld2
  clear hHeld2 hb
  try simp only [Act.put, List.setIfInBounds_toArray, List.set_cons_zero, List.set_cons_succ]
  refine take_h 13 ?_ rfl (by kernel_rfl) (by kernel_rfl) (by kernel_rfl) (fun _ _ _ h => h) (Or.inl ⟨by kernel_rfl, ?_⟩) (by assumption) ?_
  rotate_left
  · (intro w hSw; (try dsimp only at hSw); go_simp; try (with_reducible rfl))
  try simp only [Act.put, List.setIfInBounds_toArray, List.set_cons_zero, List.set_cons_succ]
  refine take_h 14 ?_ rfl (by kernel_rfl) (by kernel_rfl) (by kernel_rfl) (fun _ _ _ h => h) (Or.inl ⟨by kernel_rfl, ?_⟩) (by assumption) ?_
  rotate_left
  · (intro w hSw; (try dsimp only at hSw); go_simp; try (with_reducible rfl))
  try simp only [Act.put, List.setIfInBounds_toArray, List.set_cons_zero, List.set_cons_succ]
  refine take_h 15 ?_ rfl (by kernel_rfl) (by kernel_rfl) (by kernel_rfl) (fun _ _ _ h => h) (Or.inl ⟨by kernel_rfl, ?_⟩) (by assumption) ?_
  rotate_left
  · (intro w hSw; (try dsimp only at hSw); go_simp; try (with_reducible rfl))
  try simp only [Act.put, List.setIfInBounds_toArray, List.set_cons_zero, List.set_cons_succ]
  refine take_h 16 ?_ rfl (by kernel_rfl) (by kernel_rfl) (by kernel_rfl) (fun _ _ _ h => h) (Or.inl ⟨by kernel_rfl, ?_⟩) (by assumption) ?_
  rotate_left
  · (intro w hSw; (try dsimp only at hSw); go_simp; try (with_reducible rfl))
  try simp only [Act.put, List.setIfInBounds_toArray, List.set_cons_zero, List.set_cons_succ]
  refine take_h 17 ?_ rfl (by kernel_rfl) (by kernel_rfl) (by kernel_rfl) (fun _ _ _ h => h) (Or.inl ⟨by kernel_rfl, ?_⟩) (by assumption) ?_
  rotate_left
  · (intro w hSw; (try dsimp only at hSw); go_simp; try (with_reducible rfl))
  try simp only [Act.put, List.setIfInBounds_toArray, List.set_cons_zero, List.set_cons_succ]
  refine wpAnyH_done (by kernel_rfl) ?_ _
  clear hHeld
  go_wp2
  go_ret
  exact ⟨g', n', cap', rfl, ⟨HF.out, HB1.out⟩⟩

set_option maxHeartbeats 4000000 in
theorem rleaves45_any (a : Option Addr) (n cap : Nat) (l : List Ltr) (w : World) (hd : IsC Ltr.C 38 w a n cap l) (hok : ∀ x ∈ l, x.ok) (hm : n ≤ 1000) :
    Calls Tryz.prog 28 #[.slice a n cap] w fun e w' => ∃ a' c', e = .returned (.slice a' n c') ∧ Seal (IsBs w' a' n c' (l.map txK) ∧ Below w.heap.size w w') := by
  have HL := Seal.mk hd
  have HOK := Seal.mk hok
  have hll := hd.llen
  have ut := Tryz.underlying30
  have hts : Seal (∀ t ∈ l.map txK, 0 < t.length) := ⟨by
    intro t ht
    obtain ⟨s, hs, rfl⟩ := List.mem_map.1 ht
    exact (txK_len (hok s hs).t32).1⟩
  obtain ⟨i0, hi, hz0, hz1, hz2⟩ := info_parts (show (Tryz.prog.info? 90).map (fun i => (i.zero, i.size, i.bytes)) = some (some (.slice none 0 0), 1, 24) by kernel_rfl)
  have HI := Seal.mk (And.intro hi (And.intro hz0 (And.intro hz1 hz2)))
  have H0 : Seal (LS (l.map txK) w [] (.slice (some ⟨w.heap.size, 0, none⟩) 0 0) (w.alloc (.cells #[] 90))) := ⟨⟨ownsRow_empty w _ _ _ (Nat.le_refl _), fun _ => ⟨_, rfl⟩, below_alloc _ _, fun j x h => by simp at h⟩⟩
  clear hd hok hi hz0 hz1 hz2
  go_enter Tryz.func28, Tryz.ntmps28
  go_wp2
  go_loopw [3, 4] (fun u i wr => ∃ (k : Nat) (hs : List (Nat × Nat × Nat)) (v : Value), k ≤ n ∧ v = u ∧ i = .int .i64 k ∧ hs.length = k ∧ Seal (LS (l.map txK) w hs v wr)) (fun _ i _ => n - (intOf i).toNat)
  case atStart => exact ⟨0, [], _, by omega, rfl, rfl, rfl, H0⟩
  case round =>
    obtain ⟨wo, rfl⟩ : ∃ z, z = wr := ⟨_, rfl⟩
    obtain ⟨k, hs, v, hk, rfl, rfl, hhs, hH⟩ := hrel
    by_cases hlt : k < n
    · have HLw := HL.out.below hH.out.bel
      rcases HLw.at_ with hz | ⟨g, off, rfl, hr, hg⟩
      · omega
      · obtain ⟨x, hx⟩ : ∃ x, l[k]? = some x := ⟨_, List.getElem?_eq_getElem (by omega)⟩
        have ok := HOK.out x (List.mem_of_getElem? hx)
        have rX := rangeC_row hr HLw.each hx
        have q5 : (k : Int) < (n : Int) := by omega
        have q6 : (0 : Int) ≤ (k : Int) := by omega
        obtain ⟨C, hC⟩ : ∃ C, C = x.C := ⟨_, rfl⟩
        have iX : (Tryz.prog.info? 30).map (·.size) = some C.length := by rw [hC]; exact Ltr.info ok.t32
        have HT : Seal ((l.map txK)[hs.length]? = some (txK x)) := ⟨by rw [hhs, List.getElem?_map, hx]; rfl⟩
        have HLt : Seal (Calls Tryz.prog 54 #[.agg C.toArray] wo fun e w' => ∃ g n c, e = .returned (.slice (some ⟨g, 0, none⟩) n c) ∧ Seal (IsB w' (some ⟨g, 0, none⟩) n c (txK x) ∧ Below wo.heap.size wo w')) := ⟨by rw [hC]; exact rleaf45_any x wo ok⟩
        have HK : Seal (hs.length = k ∧ hs.length ≤ 1000) := ⟨hhs, by omega⟩
        rw [← hC] at rX
        clear hr hg ok hx hhs hC HLw
        go_wp2_with (refine wpList_load_mid rfl 30 (.tmp 15) rfl g (off + k * 38) rfl C _ rX ut rfl iX ?_; (try simp only [Act.put, List.setIfInBounds_toArray, List.set_cons_zero, List.set_cons_succ]))
        refine HLt.out.mono ?_
        rintro e w3 ⟨g3, n3, c3', rfl, hP⟩
        have HA := Seal.mk (hH.out.later hP.out.2)
        have HI3 := Seal.mk hP.out.1
        have HO : Seal ((w3.alloc (.cells #[.slice (some ⟨g3, 0, none⟩) n3 c3'] 90)).ownsRow w.heap.size 90 1 v hs.length (hs.map hdrV)) := ⟨HA.out.own.alloc _⟩
        have HN : Seal (∀ j u, [Value.slice (some ⟨g3, 0, none⟩) n3 c3'][j]? = some u → (w3.alloc (.cells #[.slice (some ⟨g3, 0, none⟩) n3 c3'] 90)).cell? ((⟨w3.heap.size, 0, none⟩ : Addr).add j) = some u) := ⟨fun j u hu => by
          rw [Addr.add_lit, cell_of_row _ _ _ _ _ _ (heap_alloc_new w3 _)]
          simpa using hu⟩
        have HZ : Seal (w.heap.size ≤ w3.heap.size) := ⟨HA.out.bel.size⟩
        clear hP hH HLt rX
        go_wp2_with (at_builtin; refine wpList_append_own _ rfl (.tmp 12) (.tmp 18) 61 rfl w.heap.size 90 i0 (.slice none 0 0) 1 24 Tryz.underlying61 HI.out.1 HI.out.2.1 HI.out.2.2.1 HI.out.2.2.2 rfl (by decide) v hs.length (hs.map hdrV) rfl HO.out ⟨w3.heap.size, 0, none⟩ 1 1 [.slice (some ⟨g3, 0, none⟩) n3 c3'] rfl rfl HN.out (by simp [Value.oneCell']) (by have := HK.out; unfold maxLen; omega) (by have := HK.out; omega) (by rw [size_alloc]; have := HZ.out; omega) ?_; intro v5 w5 hown5 hgrow5 _; have HR := Seal.mk (HA.out.step hts.out (x := (g3, n3, c3')) HT.out HI3.out hown5 hgrow5); clear hown5 hgrow5)
        go_roundw
        case rel => exact ⟨k + 1, hs ++ [(g3, n3, c3')], v5, by omega, rfl, by go_num, by rw [List.length_append, HK.out.1]; rfl, HR⟩
        case measure => simp [intOf]; omega
    · obtain rfl : k = n := by omega
      have q5 : ¬ (k : Int) < (k : Int) := by omega
      obtain ⟨a', c', hv, hB⟩ := hH.out.isBs (by rw [List.length_map]; omega) (by rw [List.length_map]; omega)
      have HF := Seal.mk (And.intro hB hH.out.bel)
      rw [List.length_map, hll] at hv HF
      subst hv
      clear hB hH
      go_wp2_with fail
      go_ret
      exact ⟨a', c', rfl, HF⟩
end Frk
