/- Law 45's reference: Keep. -/
import Derived.Test.YtemoomfnmiodeaaGreatDoorVtgRkp
namespace Frk
open Go Go.RowKit Go.Proofs
set_option maxRecDepth 100000

theorem own_isC {W : World} {base g m c : Nat} {L : List Ltr} (h : OwnK W base (.slice (some ⟨g, 0, none⟩) m c) L.length L) (he : ∀ x ∈ L, x.C.length = 38) (hm : L.length ≤ 5000) : IsC Ltr.C 38 W (some ⟨g, 0, none⟩) m c L ∧ m = L.length := by
  obtain ⟨a, c', e, hi⟩ := isC_own (C := Ltr.C) h he rfl hm
  cases e
  exact ⟨hi, rfl⟩
set_option maxHeartbeats 16000000 in
theorem rkeep45_any (a : Option Addr) (n c : Nat) (l : List Ltr) (k : Ltr) (w : World) (hG : Glob w) (hd : IsC Ltr.C 38 w a n c l) (hok : ∀ x ∈ l, x.ok) (hk : k.ok) :
    Calls Tryz.prog 11 #[.slice a n c, .agg k.C.toArray] w (KeptPost (keepL l k) (keepE l k) w) := by
  obtain ⟨X, hX⟩ : ∃ X : World, X = w.alloc (.cells k.C.toArray 30) := ⟨_, rfl⟩
  have HB : Seal (Below w.heap.size w X) := ⟨by rw [hX]; exact below_alloc _ _⟩
  have hrow : X.heap[w.heap.size]? = some (.cells k.C.toArray 30 (0, 0)) := by rw [hX]; exact heap_alloc_new w _
  have hGX := hG.below HB.out
  have hdX := hd.below HB.out
  obtain ⟨e0, he0⟩ : ∃ e, e = chkL l := ⟨_, rfl⟩
  have HC1 := Seal.mk (rcheck45_any a n c l X hGX hdX hok)
  rw [← he0] at HC1
  obtain ⟨CK, hC⟩ : ∃ C, C = k.C := ⟨_, rfl⟩
  have HCC : Seal (CK = k.C ∧ (∀ D ∈ [CK], D.length = 38) ∧ ∀ z ∈ [k], z.C.length = 38) := ⟨hC, by intro D hD; rw [List.mem_singleton.1 hD, hC]; exact Ltr.C_len hk.t32, by intro z hz; rw [List.mem_singleton.1 hz]; exact Ltr.C_len hk.t32⟩
  have iC : (Tryz.prog.info? 30).map (·.size) = some CK.length := by rw [hC]; exact Ltr.info hk.t32
  have ut := Tryz.underlying30
  rw [← hC] at hX hrow ⊢
  have HR := Seal.mk hrow
  have HGl : Seal (∀ W, Below w.heap.size w W → Glob W) := ⟨fun W h => hG.below h⟩
  have HD := Seal.mk hd
  have HOK := Seal.mk hok
  have HK := Seal.mk hk
  have hll := hd.llen
  have hlm := hd.lmax
  obtain ⟨gx, hgx⟩ : ∃ g, g = w.heap.size := ⟨_, rfl⟩
  have HGX : Seal (gx = w.heap.size) := ⟨hgx⟩
  clear hG hd hok hk hGX hdX hC hrow
  by_cases hz : e0 = 0
  rotate_left
  · have HE : Seal (keepE l k = e0 ∧ keepL l k = []) := ⟨by
      have e1 : keepE l k = e0 := by unfold keepE; rw [if_pos (by rw [← he0]; exact hz), he0]
      exact ⟨e1, by unfold keepL; rw [if_neg (by rw [e1]; exact hz)]⟩⟩
    clear he0
    go_enter Tryz.func11, Tryz.ntmps11
    go_upto_region 1 with (fail)
    rw [← hX]
    clear hX
    go_wp2_with fail
    refine HC1.out.mono ?_
    rintro e w1 ⟨rfl, hb⟩
    have HB1 := Seal.mk (HB.out.trans (hb.mono HB.out.size))
    clear hb HC1
    go_wp2
    go_ret2
    exact ⟨none, 0, 0, by rw [HE.out.1]; rfl, ⟨by rw [HE.out.2]; exact isC_nilK _⟩, HB1.out⟩
  · subst hz
    have HE := Seal.mk he0
    obtain ⟨b, hb⟩ : ∃ b, b = okK k := ⟨_, rfl⟩
    have HC2 : Seal (∀ W, Below w.heap.size w W → Calls Tryz.prog 34 #[.agg CK.toArray] W fun e w' => e = .returned (.bool b) ∧ Below W.heap.size W w') := ⟨fun W hW => by rw [hb, HCC.out.1]; exact rvalid45_any k W (HGl.out W hW) HK.out⟩
    have HBk := Seal.mk hb
    obtain ⟨N0, hN0⟩ : ∃ N, N = k.N := ⟨_, rfl⟩
    have HRX : Seal (∀ W, Below X.heap.size X W → W.rangeAt gx 0 CK ∧ W.cell? ⟨gx, 0, none⟩ = some (.int .i64 N0)) := ⟨fun W hW => by
      have hrow := (hW.block _ (Array.getElem?_eq_some_iff.1 HR.out).1).trans HR.out
      have hr : W.rangeAt gx 0 CK := by rw [HGX.out]; exact rangeAt_row hrow
      refine ⟨hr, ?_⟩
      have := hr 0 (.int .i64 k.N) (by rw [HCC.out.1]; rfl)
      rw [hN0]
      simpa using this⟩
    have HN := Seal.mk hN0
    clear hb he0 hN0
    go_enter Tryz.func11, Tryz.ntmps11
    go_upto_region 1 with (fail)
    rw [← hX, ← hgx]
    clear hX hgx
    go_wp2_with fail
    refine HC1.out.mono ?_
    rintro e w1 ⟨rfl, hb⟩
    have HB1 := Seal.mk (HB.out.trans (hb.mono HB.out.size))
    have HX1 := Seal.mk hb
    have r1 := (HRX.out w1 hb).1
    clear hb HC1
    go_wp2_with (refine wpList_load_mid rfl 30 (.tmp 3) rfl gx 0 rfl CK _ r1 ut rfl iC ?_; (try simp only [Act.put, List.setIfInBounds_toArray, List.set_cons_zero, List.set_cons_succ]))
    refine (HC2.out w1 HB1.out).mono ?_
    rintro e w2 ⟨rfl, hb⟩
    have HB2 := Seal.mk (HB1.out.trans (hb.mono HB1.out.size))
    have HX2 := Seal.mk (HX1.out.trans (hb.mono HX1.out.size))
    clear hb HC2 r1 HB1 HX1
    cases b with
    | false =>
      have HR2 : Seal (keepE l k = 450 ∧ keepL l k = []) := ⟨by
        have e1 : keepE l k = 450 := by unfold keepE; rw [if_neg (by rw [← HE.out]; simp), if_pos HBk.out.symm]
        exact ⟨e1, by unfold keepL; rw [if_neg (by rw [e1]; decide)]⟩⟩
      go_wp2
      go_ret2
      exact ⟨none, 0, 0, by rw [HR2.out.1]; rfl, ⟨by rw [HR2.out.2]; exact isC_nilK _⟩, HB2.out⟩
    | true =>
      have HS : Seal (KpI w2 l N0 w2.heap.size (w2.heap.size + 1) 0 (.slice (some ⟨w2.heap.size, 0, none⟩) 0 0) (.slice (some ⟨w2.heap.size + 1, 0, none⟩) 0 0) ((w2.alloc (.cells #[] 30)).alloc (.cells #[] 30))) := ⟨KpI.start w2 l N0⟩
      go_wp2
      go_loopw [7, 8, 9] (fun i7 i8 i9 wr => ∃ (j : Nat) (v u : Value), j ≤ n ∧ v = i7 ∧ u = i8 ∧ i9 = .int .i64 j ∧ Seal (KpI w2 l N0 w2.heap.size (w2.heap.size + 1) j v u wr)) (fun _ _ i _ => n - (intOf i).toNat)
      case atStart => exact ⟨0, _, _, by omega, rfl, rfl, rfl, HS⟩
      case round =>
        obtain ⟨wo, rfl⟩ : ∃ z, z = wr := ⟨_, rfl⟩
        obtain ⟨j, v, u, hj, rfl, rfl, rfl, hH⟩ := hrel
        clear HS
        have HBw : Seal (Below w.heap.size w wo ∧ Below X.heap.size X wo) := ⟨HB2.out.trans (hH.out.bel.mono HB2.out.size), HX2.out.trans (hH.out.bel.mono HX2.out.size)⟩
        by_cases hlt : j < n
        · obtain ⟨x, hx⟩ : ∃ x, l[j]? = some x := ⟨_, List.getElem?_eq_getElem (by omega)⟩
          have HDw := HD.out.below HBw.out.1
          rcases HDw.at_ with hz | ⟨g, off, rfl, hr, hg⟩
          · omega
          have rX := rangeC_row hr HDw.each hx
          have x32 := (HOK.out x (List.mem_of_getElem? hx)).t32
          have q5 : (j : Int) < (n : Int) := by omega
          have q6 : (0 : Int) ≤ (j : Int) := by omega
          obtain ⟨C, hC⟩ : ∃ C, C = x.C := ⟨_, rfl⟩
          obtain ⟨N, hN⟩ : ∃ N, N = x.N := ⟨_, rfl⟩
          have iX : (Tryz.prog.info? 30).map (·.size) = some C.length := by rw [hC]; exact Ltr.info x32
          have HX : Seal (l[j]? = some x ∧ N = x.N ∧ C = x.C ∧ (∀ D ∈ [C], D.length = 38) ∧ ∀ z ∈ [x], z.C.length = 38) := ⟨hx, hN, hC, by intro D hD; rw [List.mem_singleton.1 hD, hC]; exact Ltr.C_len x32, by intro z hz; rw [List.mem_singleton.1 hz]; exact Ltr.C_len x32⟩
          rw [← hC] at rX
          have KX : Seal (Ko wo (fun W => W.rangeAt g (off + j * 38) C ∧ W.cell? ⟨g, off + j * 38, none⟩ = some (.int .i64 N))) := ⟨fun W hW => by
            have r := rangeAt_below' rX hW
            have h := r 0 (.int .i64 N) (by rw [hC, hN]; rfl)
            exact ⟨r, by simpa using h⟩⟩
          clear hx hC hN hr hg HDw x32 rX
          have cN := KX.out.at.2
          have cK := (HRX.out wo HBw.out.2).2
          go_wp2_with fail
          have HO0 : Seal (Below wo.heap.size wo wo) := ⟨Below.refl _ _⟩
          by_cases hno : N = N0
          · have HR2 : Seal (keepE l k = 181 ∧ keepL l k = []) := ⟨by
              have hh : hasK Ltr.N l k.N = true := by
                cases h : hasK Ltr.N l k.N with
                | true => rfl
                | false => exact absurd (by rw [← HX.out.2.1, hno, HN.out]) (hasK_not.1 h x (List.mem_of_getElem? HX.out.1))
              have e1 : keepE l k = 181 := by unfold keepE; rw [if_neg (by rw [← HE.out]; simp), if_neg (by rw [← HBk.out]; simp), if_pos hh]
              exact ⟨e1, by unfold keepL; rw [if_neg (by rw [e1]; decide)]⟩⟩
            have qn : (N == N0) = true := by rw [beq_iff_eq]; exact hno
            clear hno
            refine wp_region_held_drew (S := fun W => W.cell? ⟨g, off + j * 38, none⟩ = some (.int .i64 N) ∧ W.cell? ⟨gx, 0, none⟩ = some (.int .i64 N0)) (by kernel_rfl) ⟨cN, cK⟩ (fun hHeld => ?_)
            obtain ⟨V1, hV⟩ : ∃ V, V = wo.drew := ⟨_, rfl⟩
            have hbd : Below wo.heap.size wo V1 := by rw [hV]; exact below_drewn_o _
            have HO1 := Seal.mk (HO0.out.trans (hbd.mono HO0.out.size))
            rw [← hV] at hHeld ⊢
            clear hV hbd cN cK
            refine take_h 0 ?_ rfl (by kernel_rfl) (by kernel_rfl) (by kernel_rfl) (fun _ _ _ h => h) (Or.inl ⟨by kernel_rfl, ?_⟩) (by assumption) ?_
            rotate_left
            · (intro w hSw; (try dsimp only at hSw); go_simp; try (with_reducible rfl))
            try simp only [Act.put, List.setIfInBounds_toArray, List.set_cons_zero, List.set_cons_succ]
            refine take_h 1 ?_ rfl (by kernel_rfl) (by kernel_rfl) (by kernel_rfl) (fun _ _ _ h => h) (Or.inl ⟨by kernel_rfl, ?_⟩) (by assumption) ?_
            rotate_left
            · (intro w hSw; (try dsimp only at hSw); go_simp; try (with_reducible rfl))
            try simp only [Act.put, List.setIfInBounds_toArray, List.set_cons_zero, List.set_cons_succ]
            refine take_h 2 ?_ rfl (by kernel_rfl) (by kernel_rfl) (by kernel_rfl) (fun _ _ _ h => h) (Or.inl ⟨by kernel_rfl, ?_⟩) (by assumption) ?_
            rotate_left
            · (intro w hSw; (try dsimp only at hSw); go_simp; try (with_reducible rfl))
            try simp only [Act.put, List.setIfInBounds_toArray, List.set_cons_zero, List.set_cons_succ]
            refine take_h 3 ?_ rfl (by kernel_rfl) (by kernel_rfl) (by kernel_rfl) (fun _ _ _ h => h) (Or.inl ⟨by kernel_rfl, ?_⟩) (by assumption) ?_
            rotate_left
            · (intro w hSw; (try dsimp only at hSw); go_simp; try (with_reducible rfl))
            try simp only [Act.put, List.setIfInBounds_toArray, List.set_cons_zero, List.set_cons_succ]
            refine take_h 4 ?_ rfl (by kernel_rfl) (by kernel_rfl) (by kernel_rfl) (fun _ _ _ h => h) (Or.inl ⟨by kernel_rfl, ?_⟩) (by assumption) ?_
            rotate_left
            · (intro w hSw; (try dsimp only at hSw); go_simp; try (with_reducible rfl))
            try simp only [Act.put, List.setIfInBounds_toArray, List.set_cons_zero, List.set_cons_succ]
            refine take_h 5 ?_ rfl (by kernel_rfl) (by kernel_rfl) (by kernel_rfl) (fun _ _ _ h => h) (Or.inl ⟨by kernel_rfl, ?_⟩) (by assumption) ?_
            rotate_left
            · (intro w hSw; (try dsimp only at hSw); go_simp; try (with_reducible rfl))
            try simp only [Act.put, List.setIfInBounds_toArray, List.set_cons_zero, List.set_cons_succ]
            refine take_h 6 ?_ rfl (by kernel_rfl) (by kernel_rfl) (by kernel_rfl) (fun _ _ _ h => h) (Or.inl ⟨by kernel_rfl, ?_⟩) (by assumption) ?_
            rotate_left
            · (intro w hSw; (try dsimp only at hSw); go_simp; try (with_reducible rfl))
            try simp only [Act.put, List.setIfInBounds_toArray, List.set_cons_zero, List.set_cons_succ]
            refine take_h 7 ?_ rfl (by kernel_rfl) (by kernel_rfl) (by kernel_rfl) (fun _ _ _ h => h) (Or.inl ⟨by kernel_rfl, ?_⟩) (by assumption) ?_
            rotate_left
            · (intro w hSw; (try dsimp only at hSw); go_simp; try (with_reducible rfl))
            try simp only [Act.put, List.setIfInBounds_toArray, List.set_cons_zero, List.set_cons_succ]
            refine wpAnyH_done (by kernel_rfl) ?_ _
            have cN := hHeld.1
            have cK := hHeld.2
            clear hHeld
            have HBF := Seal.mk (HBw.out.1.trans (HO1.out.mono HBw.out.1.size))
            clear hH KX cN cK
            go_wp2
            go_ret2
            exact ⟨none, 0, 0, by rw [HR2.out.1]; rfl, ⟨by rw [HR2.out.2]; exact isC_nilK _⟩, HBF.out⟩
          · have qn : (N == N0) = false := by rw [beq_eq_false_iff_ne]; exact hno
            have HNo := Seal.mk hno
            clear hno
            refine wp_region_held_drew (S := fun W => W.cell? ⟨g, off + j * 38, none⟩ = some (.int .i64 N) ∧ W.cell? ⟨gx, 0, none⟩ = some (.int .i64 N0)) (by kernel_rfl) ⟨cN, cK⟩ (fun hHeld => ?_)
            obtain ⟨V1, hV⟩ : ∃ V, V = wo.drew := ⟨_, rfl⟩
            have hbd : Below wo.heap.size wo V1 := by rw [hV]; exact below_drewn_o _
            have HO1 := Seal.mk (HO0.out.trans (hbd.mono HO0.out.size))
            rw [← hV] at hHeld ⊢
            clear hV hbd cN cK
            refine take_h 0 ?_ rfl (by kernel_rfl) (by kernel_rfl) (by kernel_rfl) (fun _ _ _ h => h) (Or.inl ⟨by kernel_rfl, ?_⟩) (by assumption) ?_
            rotate_left
            · (intro w hSw; (try dsimp only at hSw); go_simp; try (with_reducible rfl))
            try simp only [Act.put, List.setIfInBounds_toArray, List.set_cons_zero, List.set_cons_succ]
            refine take_h 1 ?_ rfl (by kernel_rfl) (by kernel_rfl) (by kernel_rfl) (fun _ _ _ h => h) (Or.inl ⟨by kernel_rfl, ?_⟩) (by assumption) ?_
            rotate_left
            · (intro w hSw; (try dsimp only at hSw); go_simp; try (with_reducible rfl))
            try simp only [Act.put, List.setIfInBounds_toArray, List.set_cons_zero, List.set_cons_succ]
            refine take_h 2 ?_ rfl (by kernel_rfl) (by kernel_rfl) (by kernel_rfl) (fun _ _ _ h => h) (Or.inl ⟨by kernel_rfl, ?_⟩) (by assumption) ?_
            rotate_left
            · (intro w hSw; (try dsimp only at hSw); go_simp; try (with_reducible rfl))
            try simp only [Act.put, List.setIfInBounds_toArray, List.set_cons_zero, List.set_cons_succ]
            refine take_h 3 ?_ rfl (by kernel_rfl) (by kernel_rfl) (by kernel_rfl) (fun _ _ _ h => h) (Or.inl ⟨by kernel_rfl, ?_⟩) (by assumption) ?_
            rotate_left
            · (intro w hSw; (try dsimp only at hSw); go_simp; try (with_reducible rfl))
            try simp only [Act.put, List.setIfInBounds_toArray, List.set_cons_zero, List.set_cons_succ]
            refine take_h 4 ?_ rfl (by kernel_rfl) (by kernel_rfl) (by kernel_rfl) (fun _ _ _ h => h) (Or.inl ⟨by kernel_rfl, ?_⟩) (by assumption) ?_
            rotate_left
            · (intro w hSw; (try dsimp only at hSw); go_simp; try (with_reducible rfl))
            try simp only [Act.put, List.setIfInBounds_toArray, List.set_cons_zero, List.set_cons_succ]
            refine take_h 5 ?_ rfl (by kernel_rfl) (by kernel_rfl) (by kernel_rfl) (fun _ _ _ h => h) (Or.inl ⟨by kernel_rfl, ?_⟩) (by assumption) ?_
            rotate_left
            · (intro w hSw; (try dsimp only at hSw); go_simp; try (with_reducible rfl))
            try simp only [Act.put, List.setIfInBounds_toArray, List.set_cons_zero, List.set_cons_succ]
            refine take_h 6 ?_ rfl (by kernel_rfl) (by kernel_rfl) (by kernel_rfl) (fun _ _ _ h => h) (Or.inl ⟨by kernel_rfl, ?_⟩) (by assumption) ?_
            rotate_left
            · (intro w hSw; (try dsimp only at hSw); go_simp; try (with_reducible rfl))
            try simp only [Act.put, List.setIfInBounds_toArray, List.set_cons_zero, List.set_cons_succ]
            refine take_h 7 ?_ rfl (by kernel_rfl) (by kernel_rfl) (by kernel_rfl) (fun _ _ _ h => h) (Or.inl ⟨by kernel_rfl, ?_⟩) (by assumption) ?_
            rotate_left
            · (intro w hSw; (try dsimp only at hSw); go_simp; try (with_reducible rfl))
            try simp only [Act.put, List.setIfInBounds_toArray, List.set_cons_zero, List.set_cons_succ]
            refine wpAnyH_done (by kernel_rfl) ?_ _
            have cN := hHeld.1
            have cK := hHeld.2
            clear hHeld
            go_wp2_with fail
            by_cases hls : N < N0
            · have HLs := Seal.mk hls
              refine wp_region_held_drew (S := fun W => W.cell? ⟨g, off + j * 38, none⟩ = some (.int .i64 N) ∧ W.cell? ⟨gx, 0, none⟩ = some (.int .i64 N0)) (by kernel_rfl) ⟨cN, cK⟩ (fun hHeld => ?_)
              obtain ⟨V2, hV⟩ : ∃ V, V = V1.drew := ⟨_, rfl⟩
              have hbd : Below V1.heap.size V1 V2 := by rw [hV]; exact below_drewn_o _
              have HO2 := Seal.mk (HO1.out.trans (hbd.mono HO1.out.size))
              rw [← hV] at hHeld ⊢
              clear hV hbd cN cK
              refine take_h 0 ?_ rfl (by kernel_rfl) (by kernel_rfl) (by kernel_rfl) (fun _ _ _ h => h) (Or.inl ⟨by kernel_rfl, ?_⟩) (by assumption) ?_
              rotate_left
              · (intro w hSw; (try dsimp only at hSw); go_simp; try (with_reducible rfl))
              try simp only [Act.put, List.setIfInBounds_toArray, List.set_cons_zero, List.set_cons_succ]
              refine take_h 1 ?_ rfl (by kernel_rfl) (by kernel_rfl) (by kernel_rfl) (fun _ _ _ h => h) (Or.inl ⟨by kernel_rfl, ?_⟩) (by assumption) ?_
              rotate_left
              · (intro w hSw; (try dsimp only at hSw); go_simp; try (with_reducible rfl))
              try simp only [Act.put, List.setIfInBounds_toArray, List.set_cons_zero, List.set_cons_succ]
              refine take_h 2 ?_ rfl (by kernel_rfl) (by kernel_rfl) (by kernel_rfl) (fun _ _ _ h => h) (Or.inl ⟨by kernel_rfl, ?_⟩) (by assumption) ?_
              rotate_left
              · (intro w hSw; (try dsimp only at hSw); go_simp; try (with_reducible rfl))
              try simp only [Act.put, List.setIfInBounds_toArray, List.set_cons_zero, List.set_cons_succ]
              refine take_h 3 ?_ rfl (by kernel_rfl) (by kernel_rfl) (by kernel_rfl) (fun _ _ _ h => h) (Or.inl ⟨by kernel_rfl, ?_⟩) (by assumption) ?_
              rotate_left
              · (intro w hSw; (try dsimp only at hSw); go_simp; try (with_reducible rfl))
              try simp only [Act.put, List.setIfInBounds_toArray, List.set_cons_zero, List.set_cons_succ]
              refine take_h 4 ?_ rfl (by kernel_rfl) (by kernel_rfl) (by kernel_rfl) (fun _ _ _ h => h) (Or.inl ⟨by kernel_rfl, ?_⟩) (by assumption) ?_
              rotate_left
              · (intro w hSw; (try dsimp only at hSw); go_simp; try (with_reducible rfl))
              try simp only [Act.put, List.setIfInBounds_toArray, List.set_cons_zero, List.set_cons_succ]
              refine take_h 5 ?_ rfl (by kernel_rfl) (by kernel_rfl) (by kernel_rfl) (fun _ _ _ h => h) (Or.inl ⟨by kernel_rfl, ?_⟩) (by assumption) ?_
              rotate_left
              · (intro w hSw; (try dsimp only at hSw); go_simp; try (with_reducible rfl))
              try simp only [Act.put, List.setIfInBounds_toArray, List.set_cons_zero, List.set_cons_succ]
              refine take_h 6 ?_ rfl (by kernel_rfl) (by kernel_rfl) (by kernel_rfl) (fun _ _ _ h => h) (Or.inl ⟨by kernel_rfl, ?_⟩) (by assumption) ?_
              rotate_left
              · (intro w hSw; (try dsimp only at hSw); go_simp; try (with_reducible rfl))
              try simp only [Act.put, List.setIfInBounds_toArray, List.set_cons_zero, List.set_cons_succ]
              refine take_h 7 ?_ rfl (by kernel_rfl) (by kernel_rfl) (by kernel_rfl) (fun _ _ _ h => h) (Or.inl ⟨by kernel_rfl, ?_⟩) (by assumption) ?_
              rotate_left
              · (intro w hSw; (try dsimp only at hSw); go_simp; try (with_reducible rfl))
              try simp only [Act.put, List.setIfInBounds_toArray, List.set_cons_zero, List.set_cons_succ]
              refine wpAnyH_done (by kernel_rfl) ?_ _
              have cN := hHeld.1
              have cK := hHeld.2
              clear hHeld
              have rX := (KX.out V2 HO2.out).1
              have HV : Seal (KpI w2 l N0 w2.heap.size (w2.heap.size + 1) j v u V2) := ⟨hH.out.later HO2.out⟩
              obtain ⟨L, hL⟩ : ∃ L, L = loK (l.take j) N0 := ⟨_, rfl⟩
              have HLn : Seal (L = loK (l.take j) N0 ∧ L.length ≤ 5000) := ⟨hL, by
                rw [hL]
                have h1 : (loK (l.take j) N0).length ≤ (l.take j).length := List.length_filter_le _ _
                rw [List.length_take] at h1
                omega⟩
              have HOw : Seal (OwnK V2 w2.heap.size v L.length L) := ⟨by rw [hL]; exact HV.out.lo⟩
              have HZ : Seal (w2.heap.size ≤ V2.heap.size) := ⟨HV.out.bel.size⟩
              clear hH KX cN cK hL HO0 HO1 HO2 hls HBw
              go_wp2_with (first
                | (refine wpList_load_mid rfl 30 (.tmp 45) rfl g (off + j * 38) rfl C _ rX ut rfl iX ?_; (try simp only [Act.put, List.setIfInBounds_toArray, List.set_cons_zero, List.set_cons_succ]))
                | (refine wpList_bslice (by kernel_rfl) 22 30 1 38 #[(0, .tmp 46)] rfl [C] Tryz.underlying22 size_kt _ zero_kt rfl rfl HX.out.2.2.2.1 (by decide) (by decide) rfl ?_; obtain ⟨V, gl, hgl, el, nb, kl⟩ := litk V2 [x] [C] (by simp [HX.out.2.2.1]) HX.out.2.2.2.2 (by simp); rw [el, ← hgl]; have HV2 : Seal (OwnK V w2.heap.size v L.length L ∧ Below V2.heap.size V2 V ∧ w2.heap.size ≤ V.heap.size ∧ IsC Ltr.C 38 V (some ⟨gl, 0, none⟩) 1 1 [x]) := ⟨ownsRow_below HOw.out nb, nb, (by have := HZ.out; have := nb.size; omega), kl.at⟩; clear hgl el nb kl rX; (try simp only [Act.put, List.setIfInBounds_toArray, List.set_cons_zero, List.set_cons_succ]))
                | (at_builtin; go_loud (refine wpList_append_rg rfl (.tmp 42) (.tmp 47) rfl w2.heap.size v L rfl HV2.out.1 gl 1 1 [x] rfl HV2.out.2.2.2 (by have := HLn.out.2; omega) HV2.out.2.2.1 ?_; intro v5 w5 hown5 hg5; have HM5 : Seal (KpI w2 l N0 w2.heap.size (w2.heap.size + 1) (j + 1) v5 u w5) := ⟨HV.out.less HX.out.1 (by rw [← HX.out.2.1]; exact HLs.out) HV2.out.2.1 (by rw [HLn.out.1] at hown5; exact hown5) hg5⟩; clear hown5 hg5; (try simp only [Act.put, List.setIfInBounds_toArray, List.set_cons_zero, List.set_cons_succ]))))
              go_roundw
              case rel => exact ⟨j + 1, v5, u, by omega, rfl, rfl, by go_num, HM5⟩
              case measure => simp [intOf]; omega
            · have HLs := Seal.mk hls
              refine wp_region_held_drew (S := fun W => W.cell? ⟨g, off + j * 38, none⟩ = some (.int .i64 N) ∧ W.cell? ⟨gx, 0, none⟩ = some (.int .i64 N0)) (by kernel_rfl) ⟨cN, cK⟩ (fun hHeld => ?_)
              obtain ⟨V2, hV⟩ : ∃ V, V = V1.drew := ⟨_, rfl⟩
              have hbd : Below V1.heap.size V1 V2 := by rw [hV]; exact below_drewn_o _
              have HO2 := Seal.mk (HO1.out.trans (hbd.mono HO1.out.size))
              rw [← hV] at hHeld ⊢
              clear hV hbd cN cK
              refine take_h 0 ?_ rfl (by kernel_rfl) (by kernel_rfl) (by kernel_rfl) (fun _ _ _ h => h) (Or.inl ⟨by kernel_rfl, ?_⟩) (by assumption) ?_
              rotate_left
              · (intro w hSw; (try dsimp only at hSw); go_simp; try (with_reducible rfl))
              try simp only [Act.put, List.setIfInBounds_toArray, List.set_cons_zero, List.set_cons_succ]
              refine take_h 1 ?_ rfl (by kernel_rfl) (by kernel_rfl) (by kernel_rfl) (fun _ _ _ h => h) (Or.inl ⟨by kernel_rfl, ?_⟩) (by assumption) ?_
              rotate_left
              · (intro w hSw; (try dsimp only at hSw); go_simp; try (with_reducible rfl))
              try simp only [Act.put, List.setIfInBounds_toArray, List.set_cons_zero, List.set_cons_succ]
              refine take_h 2 ?_ rfl (by kernel_rfl) (by kernel_rfl) (by kernel_rfl) (fun _ _ _ h => h) (Or.inl ⟨by kernel_rfl, ?_⟩) (by assumption) ?_
              rotate_left
              · (intro w hSw; (try dsimp only at hSw); go_simp; try (with_reducible rfl))
              try simp only [Act.put, List.setIfInBounds_toArray, List.set_cons_zero, List.set_cons_succ]
              refine take_h 3 ?_ rfl (by kernel_rfl) (by kernel_rfl) (by kernel_rfl) (fun _ _ _ h => h) (Or.inl ⟨by kernel_rfl, ?_⟩) (by assumption) ?_
              rotate_left
              · (intro w hSw; (try dsimp only at hSw); go_simp; try (with_reducible rfl))
              try simp only [Act.put, List.setIfInBounds_toArray, List.set_cons_zero, List.set_cons_succ]
              refine take_h 4 ?_ rfl (by kernel_rfl) (by kernel_rfl) (by kernel_rfl) (fun _ _ _ h => h) (Or.inl ⟨by kernel_rfl, ?_⟩) (by assumption) ?_
              rotate_left
              · (intro w hSw; (try dsimp only at hSw); go_simp; try (with_reducible rfl))
              try simp only [Act.put, List.setIfInBounds_toArray, List.set_cons_zero, List.set_cons_succ]
              refine take_h 5 ?_ rfl (by kernel_rfl) (by kernel_rfl) (by kernel_rfl) (fun _ _ _ h => h) (Or.inl ⟨by kernel_rfl, ?_⟩) (by assumption) ?_
              rotate_left
              · (intro w hSw; (try dsimp only at hSw); go_simp; try (with_reducible rfl))
              try simp only [Act.put, List.setIfInBounds_toArray, List.set_cons_zero, List.set_cons_succ]
              refine take_h 6 ?_ rfl (by kernel_rfl) (by kernel_rfl) (by kernel_rfl) (fun _ _ _ h => h) (Or.inl ⟨by kernel_rfl, ?_⟩) (by assumption) ?_
              rotate_left
              · (intro w hSw; (try dsimp only at hSw); go_simp; try (with_reducible rfl))
              try simp only [Act.put, List.setIfInBounds_toArray, List.set_cons_zero, List.set_cons_succ]
              refine take_h 7 ?_ rfl (by kernel_rfl) (by kernel_rfl) (by kernel_rfl) (fun _ _ _ h => h) (Or.inl ⟨by kernel_rfl, ?_⟩) (by assumption) ?_
              rotate_left
              · (intro w hSw; (try dsimp only at hSw); go_simp; try (with_reducible rfl))
              try simp only [Act.put, List.setIfInBounds_toArray, List.set_cons_zero, List.set_cons_succ]
              refine wpAnyH_done (by kernel_rfl) ?_ _
              have cN := hHeld.1
              have cK := hHeld.2
              clear hHeld
              have rX := (KX.out V2 HO2.out).1
              have HV : Seal (KpI w2 l N0 w2.heap.size (w2.heap.size + 1) j v u V2) := ⟨hH.out.later HO2.out⟩
              obtain ⟨L, hL⟩ : ∃ L, L = hiK (l.take j) N0 := ⟨_, rfl⟩
              have HLn : Seal (L = hiK (l.take j) N0 ∧ L.length ≤ 5000) := ⟨hL, by
                rw [hL]
                have h1 : (hiK (l.take j) N0).length ≤ (l.take j).length := List.length_filter_le _ _
                rw [List.length_take] at h1
                omega⟩
              have HOw : Seal (OwnK V2 w2.heap.size u L.length L) := ⟨by rw [hL]; exact HV.out.hi⟩
              have HZ : Seal (w2.heap.size ≤ V2.heap.size) := ⟨HV.out.bel.size⟩
              clear hH KX cN cK hL HO0 HO1 HO2 hls HBw
              go_wp2_with (first
                | (refine wpList_load_mid rfl 30 (.tmp 52) rfl g (off + j * 38) rfl C _ rX ut rfl iX ?_; (try simp only [Act.put, List.setIfInBounds_toArray, List.set_cons_zero, List.set_cons_succ]))
                | (refine wpList_bslice (by kernel_rfl) 22 30 1 38 #[(0, .tmp 53)] rfl [C] Tryz.underlying22 size_kt _ zero_kt rfl rfl HX.out.2.2.2.1 (by decide) (by decide) rfl ?_; obtain ⟨V, gl, hgl, el, nb, kl⟩ := litk V2 [x] [C] (by simp [HX.out.2.2.1]) HX.out.2.2.2.2 (by simp); rw [el, ← hgl]; have HV2 : Seal (OwnK V w2.heap.size u L.length L ∧ Below V2.heap.size V2 V ∧ w2.heap.size ≤ V.heap.size ∧ IsC Ltr.C 38 V (some ⟨gl, 0, none⟩) 1 1 [x]) := ⟨ownsRow_below HOw.out nb, nb, (by have := HZ.out; have := nb.size; omega), kl.at⟩; clear hgl el nb kl rX; (try simp only [Act.put, List.setIfInBounds_toArray, List.set_cons_zero, List.set_cons_succ]))
                | (at_builtin; go_loud (refine wpList_append_rg rfl (.tmp 49) (.tmp 54) rfl w2.heap.size u L rfl HV2.out.1 gl 1 1 [x] rfl HV2.out.2.2.2 (by have := HLn.out.2; omega) HV2.out.2.2.1 ?_; intro v5 w5 hown5 hg5; have HM5 : Seal (KpI w2 l N0 w2.heap.size (w2.heap.size + 1) (j + 1) v v5 w5) := ⟨HV.out.more HX.out.1 (by rw [← HX.out.2.1]; exact HLs.out) (by rw [← HX.out.2.1]; exact HNo.out) HV2.out.2.1 (by rw [HLn.out.1] at hown5; exact hown5) hg5⟩; clear hown5 hg5; (try simp only [Act.put, List.setIfInBounds_toArray, List.set_cons_zero, List.set_cons_succ]))))
              go_roundw
              case rel => exact ⟨j + 1, v, v5, by omega, rfl, rfl, by go_num, HM5⟩
              case measure => simp [intOf]; omega
        · obtain rfl : j = n := by omega
          have q5 : ¬ (j : Int) < (j : Int) := by omega
          obtain ⟨h1, h2, h3⟩ := chkL_zero.1 HE.out.symm
          have hall : ∀ z ∈ l, z.C.length = 38 := fun z hz => Ltr.C_len (HOK.out z hz).t32
          obtain ⟨o1, o2, o3, o4, g8, c8, rfl⟩ := hH.out.end_ (by omega)
          have hlen := loK_hiK_len l N0
          obtain ⟨LO, hLO⟩ : ∃ L, L = loK l N0 := ⟨_, rfl⟩
          obtain ⟨HI, hHI⟩ : ∃ L, L = hiK l N0 := ⟨_, rfl⟩
          rw [← hLO] at o1 hlen
          rw [← hHI] at o2 hlen o3 ⊢
          have HF : Seal (OwnK wo w2.heap.size v LO.length LO ∧ OwnK wo w2.heap.size (.slice (some ⟨g8, 0, none⟩) HI.length c8) HI.length HI ∧ v.ownBlock ≠ some g8 ∧ w2.heap.size ≤ wo.heap.size) := ⟨o1, o2, o3, hH.out.bel.size⟩
          have HLn : Seal (LO.length ≤ 1024 ∧ HI.length ≤ 1024 ∧ ∀ z ∈ HI, z.C.length = 38) := ⟨by omega, by omega, fun z hz => hall z (by rw [hHI] at hz; exact (hiK_mem hz).1)⟩
          have HLL : Seal ((∀ z ∈ LO ++ [k] ++ HI, z.C.length = 38) ∧ (LO ++ [k] ++ HI).length ≤ 5000) := ⟨fun z hz => by
            rcases List.mem_append.1 hz with hz | hz
            · rcases List.mem_append.1 hz with hz | hz
              · exact hall z (by rw [hLO] at hz; exact (loK_mem hz).1)
              · exact HCC.out.2.2 z hz
            · exact HLn.out.2.2 z hz, by simp; omega⟩
          have HIns : Seal (insK Ltr.N l k = LO ++ [k] ++ HI) := ⟨by
            rw [← insK_parts h3 (by rw [← HN.out]; exact o4), hLO, hHI, HN.out]
            unfold loK hiK
            simp⟩
          have HNo : Seal (hasK Ltr.N l k.N = false) := ⟨by rw [← HN.out]; exact o4⟩
          clear o1 o2 o3 o4 hlen hLO hHI hall h1 h2 h3
          by_cases hn : j = 1024
          · have HR2 : Seal (keepE l k = 2 ∧ keepL l k = []) := ⟨by
              have e1 : keepE l k = 2 := by unfold keepE; rw [if_neg (by rw [← HE.out]; simp), if_neg (by rw [← HBk.out]; simp), if_neg (by rw [HNo.out]; simp), if_pos (by omega)]
              exact ⟨e1, by unfold keepL; rw [if_neg (by rw [e1]; decide)]⟩⟩
            have q1 : ((j : Int) == 1024) = true := by simp; omega
            clear hH hn
            go_wp2
            go_ret2
            exact ⟨none, 0, 0, by rw [HR2.out.1]; rfl, ⟨by rw [HR2.out.2]; exact isC_nilK _⟩, HBw.out.1⟩
          · have HR2 : Seal (keepE l k = 0 ∧ keepL l k = LO ++ [k] ++ HI) := ⟨by
              have e1 : keepE l k = 0 := by unfold keepE; rw [if_neg (by rw [← HE.out]; simp), if_neg (by rw [← HBk.out]; simp), if_neg (by rw [HNo.out]; simp), if_neg (by omega)]
              exact ⟨e1, by unfold keepL; rw [if_pos e1, HIns.out]⟩⟩
            have q1 : ((j : Int) == 1024) = false := by simp; omega
            have rK := (HRX.out wo HBw.out.2).1
            clear hH hn
            go_wp2_with (first
              | (refine wpList_load_mid rfl 30 (.tmp 3) rfl gx 0 rfl CK _ rK ut rfl iC ?_; (try simp only [Act.put, List.setIfInBounds_toArray, List.set_cons_zero, List.set_cons_succ]))
              | (refine wpList_bslice (by kernel_rfl) 22 30 1 38 #[(0, .tmp 60)] rfl [CK] Tryz.underlying22 size_kt _ zero_kt rfl rfl HCC.out.2.1 (by decide) (by decide) rfl ?_; obtain ⟨V, gl, hgl, el, nb, kl⟩ := litk wo [k] [CK] (by simp [HCC.out.1]) HCC.out.2.2 (by simp); rw [el, ← hgl]; have HV2 : Seal (OwnK V w2.heap.size v LO.length LO ∧ OwnK V w2.heap.size (.slice (some ⟨g8, 0, none⟩) HI.length c8) HI.length HI ∧ Below w.heap.size w V ∧ w2.heap.size ≤ V.heap.size ∧ IsC Ltr.C 38 V (some ⟨gl, 0, none⟩) 1 1 [k]) := ⟨ownsRow_below HF.out.1 nb, ownsRow_below HF.out.2.1 nb, HBw.out.1.trans (nb.mono HBw.out.1.size), (by have := HF.out.2.2.2; have := nb.size; omega), kl.at⟩; clear hgl el nb kl rK; (try simp only [Act.put, List.setIfInBounds_toArray, List.set_cons_zero, List.set_cons_succ]))
              | (at_builtin; go_loud (refine wpList_append_rg rfl (.tmp 59) (.tmp 61) rfl w2.heap.size v LO rfl HV2.out.1 gl 1 1 [k] rfl HV2.out.2.2.2.2 (by have := HLn.out.1; omega) HV2.out.2.2.2.1 ?_; intro v6 w6 hown6 hg6; have HM6 : Seal (OwnK w6 w2.heap.size v6 (LO ++ [k]).length (LO ++ [k]) ∧ OwnK w6 w2.heap.size (.slice (some ⟨g8, 0, none⟩) HI.length c8) HI.length HI ∧ Below w.heap.size w w6 ∧ w2.heap.size ≤ w6.heap.size) := ⟨hown6, World.ownsRow.kept HV2.out.2.1 hg6 (.inr (fun e => HF.out.2.2.1 e.symm)), HV2.out.2.2.1.grown hg6 HV2.out.2.2.1.size (fun i e => by have := (World.ownsRow.lt HV2.out.1 i e).1; have := HB2.out.size; omega), Nat.le_trans HV2.out.2.2.2.1 hg6.size⟩; clear hown6 hg6; (try simp only [Act.put, List.setIfInBounds_toArray, List.set_cons_zero, List.set_cons_succ])))
              | (at_builtin; go_loud (refine wpList_append_rg rfl (.tmp 62) (.tmp 63) rfl w2.heap.size v6 (LO ++ [k]) rfl HM6.out.1 g8 HI.length c8 HI rfl (own_isC HM6.out.2.1 HLn.out.2.2 (by have := HLn.out.2.1; omega)).1 (by have := HLn.out.1; have := HLn.out.2.1; simp; omega) HM6.out.2.2.2 ?_; intro v7 w7 hown7 hg7; have HM7 : Seal (OwnK w7 w2.heap.size v7 (LO ++ [k] ++ HI).length (LO ++ [k] ++ HI) ∧ Below w.heap.size w w7) := ⟨hown7, HM6.out.2.2.1.grown hg7 HM6.out.2.2.1.size (fun i e => by have := (World.ownsRow.lt HM6.out.1 i e).1; have := HB2.out.size; omega)⟩; clear hown7 hg7; (try simp only [Act.put, List.setIfInBounds_toArray, List.set_cons_zero, List.set_cons_succ]))))
            go_ret2
            obtain ⟨b1, l1, e1, i1⟩ := isC_own (C := Ltr.C) HM7.out.1 HLL.out.1 rfl HLL.out.2
            cases e1
            exact ⟨_, _, _, by rw [HR2.out.1]; rfl, ⟨by rw [HR2.out.2]; exact i1⟩, HM7.out.2⟩
end Frk
