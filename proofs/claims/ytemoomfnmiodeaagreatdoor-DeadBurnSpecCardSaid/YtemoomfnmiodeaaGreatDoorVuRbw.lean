/- Law 45's reference: Burn, the walk. -/
import Derived.Test.YtemoomfnmiodeaaGreatDoorVugRbz
namespace Frk
open Go Go.RowKit Go.Proofs
set_option maxRecDepth 100000

set_option maxHeartbeats 16000000 in
theorem rburn45_any (a : Option Addr) (n c : Nat) (l : List Ltr) (t : Int) (w : World) (hG : Glob w) (hd : IsC Ltr.C 38 w a n c l) (hok : ∀ x ∈ l, x.ok) (hn : n ≤ 100) :
    Calls Tryz.prog 18 #[.slice a n c, .int .i64 t] w (BurnPost (burnL l t) (burnB l t) (burnE l t) w) := by
  obtain ⟨X, hX⟩ : ∃ X : World, X = w.alloc (.cells Tryz.zeroCells50 50) := ⟨_, rfl⟩
  have HX : Seal (Below w.heap.size w X ∧ X.heap[w.heap.size]? = some (.cells Tryz.zeroCells50 50 (0, 0)) ∧ w.heap.size < X.heap.size) := ⟨by rw [hX]; exact ⟨below_alloc _ _, heap_alloc_new w _, by rw [size_alloc]; omega⟩⟩
  have HGl : Seal (∀ W, Below w.heap.size w W → Glob W) := ⟨fun W h => hG.below h⟩
  have HD : Seal (∀ W, Below w.heap.size w W → IsC Ltr.C 38 W a n c l) := ⟨fun W h => hd.below h⟩
  have HOK := Seal.mk hok
  have hll := hd.llen
  have hlm := hd.lmax
  obtain ⟨e0, he0⟩ : ∃ e, e = chkL l := ⟨_, rfl⟩
  have HC1 := Seal.mk (rcheck45_any a n c l X (HGl.out X HX.out.1) (HD.out X HX.out.1) hok)
  rw [← he0] at HC1
  obtain ⟨RL, hRL⟩ : ∃ R, R = burnL l t := ⟨_, rfl⟩
  obtain ⟨RB, hRB⟩ : ∃ R, R = burnB l t := ⟨_, rfl⟩
  obtain ⟨RE, hRE⟩ : ∃ R, R = burnE l t := ⟨_, rfl⟩
  rw [← hRL, ← hRB, ← hRE]
  have iB : Seal ((Tryz.prog.info? 50).map (·.size) = some Tryz.zeroCells50.size ∧ Tryz.zeroCells50.all (·.oneCell') = true) := ⟨by kernel_rfl, by kernel_rfl⟩
  clear hG hd hok
  by_cases hz : e0 = 0
  · subst hz
    by_cases ht : t < 0 ∨ 2097152 ≤ t
    · have hE : burnE l t = 1 := by unfold burnE; rw [← he0, if_neg (by simp), if_pos ht]
      have HR : Seal (RL = [] ∧ RB = noBrn ∧ RE = 1) := ⟨by rw [hRL, hRB, hRE]; unfold burnL burnB; rw [hE]; simp⟩
      have HTt := Seal.mk ht
      clear hRL hRB hRE he0 hE ht
      by_cases ht0 : t < 0
      · skip
        go_enter Tryz.func18, Tryz.ntmps18
        go_upto_region 1 with (fail)
        rw [← hX]
        clear hX
        go_wp2_with fail
        refine HC1.out.mono ?_
        rintro e w1 ⟨rfl, hb⟩
        have HX1 : Seal (Below w.heap.size w w1 ∧ w1.heap[w.heap.size]? = some (.cells Tryz.zeroCells50 50 (0, 0)) ∧ w.heap.size < w1.heap.size) := ⟨HX.out.1.trans (hb.mono HX.out.1.size), (hb.block _ HX.out.2.2).trans HX.out.2.1, Nat.lt_of_lt_of_le HX.out.2.2 hb.size⟩
        clear hb HC1 HX
        go_wp2_with (refine wpList_store_row rfl 50 (.tmp 5) (.tmp 23) rfl w.heap.size Tryz.zeroCells50 rfl rfl 50 _ HX1.out.2.1 iB.out.1 rfl iB.out.2 ?_)
        refine bodyPost_ret (results_mid (fn := Tryz.f18) rfl _ _ w.heap.size 50 Tryz.zeroCells50 (0, 0) _ _ _ rfl rfl rfl (setRow_heap _ _ _ _ _ _ HX1.out.2.1) Tryz.underlying50 rfl iB.out.1) rfl ?_
        exact ⟨none, 0, .slice none 0 0, by rw [HR.out.1, HR.out.2.1, HR.out.2.2, ← brz_no]; rfl, ⟨by rw [HR.out.1, HR.out.2.1]; exact ⟨isC_nilK _, gone_nil _⟩⟩, below_row HX1.out.1 (Nat.le_refl _) _⟩
      · have ht1 : 2097152 ≤ t := by have := HTt.out; omega
        go_enter Tryz.func18, Tryz.ntmps18
        go_upto_region 1 with (fail)
        rw [← hX]
        clear hX
        go_wp2_with fail
        refine HC1.out.mono ?_
        rintro e w1 ⟨rfl, hb⟩
        have HX1 : Seal (Below w.heap.size w w1 ∧ w1.heap[w.heap.size]? = some (.cells Tryz.zeroCells50 50 (0, 0)) ∧ w.heap.size < w1.heap.size) := ⟨HX.out.1.trans (hb.mono HX.out.1.size), (hb.block _ HX.out.2.2).trans HX.out.2.1, Nat.lt_of_lt_of_le HX.out.2.2 hb.size⟩
        clear hb HC1 HX
        go_wp2_with (refine wpList_store_row rfl 50 (.tmp 5) (.tmp 23) rfl w.heap.size Tryz.zeroCells50 rfl rfl 50 _ HX1.out.2.1 iB.out.1 rfl iB.out.2 ?_)
        refine bodyPost_ret (results_mid (fn := Tryz.f18) rfl _ _ w.heap.size 50 Tryz.zeroCells50 (0, 0) _ _ _ rfl rfl rfl (setRow_heap _ _ _ _ _ _ HX1.out.2.1) Tryz.underlying50 rfl iB.out.1) rfl ?_
        exact ⟨none, 0, .slice none 0 0, by rw [HR.out.1, HR.out.2.1, HR.out.2.2, ← brz_no]; rfl, ⟨by rw [HR.out.1, HR.out.2.1]; exact ⟨isC_nilK _, gone_nil _⟩⟩, below_row HX1.out.1 (Nat.le_refl _) _⟩
    · have hE : burnE l t = 0 := burnE_zero.2 ⟨he0.symm, by omega, by omega⟩
      have HR : Seal (RL = stayK l t ∧ RB = ⟨rootB (l.map txK), rootB ((stayK l t).map txK), goneK l t⟩ ∧ RE = 0) := ⟨by rw [hRL, hRB, hRE]; unfold burnL burnB; rw [hE]; exact ⟨rfl, rfl, rfl⟩⟩
      have ht0 : ¬ t < 0 := by omega
      have ht1 : ¬ 2097152 ≤ t := by omega
      have ut := Tryz.underlying30
      obtain ⟨i0, hi, hz0, hz1, hz2⟩ := info_parts (show (Tryz.prog.info? 3).map (fun i => (i.zero, i.size, i.bytes)) = some (some (.int .i64 0), 1, 8) by kernel_rfl)
      have HI := Seal.mk (And.intro hi (And.intro hz0 (And.intro hz1 hz2)))
      clear hRL hRB hRE he0 hE ht hi hz0 hz1 hz2
      go_enter Tryz.func18, Tryz.ntmps18
      go_upto_region 1 with (fail)
      rw [← hX]
      clear hX
      go_wp2_with fail
      refine HC1.out.mono ?_
      rintro e w1 ⟨rfl, hb⟩
      have HX1 : Seal (Below w.heap.size w w1 ∧ w1.heap[w.heap.size]? = some (.cells Tryz.zeroCells50 50 (0, 0)) ∧ w.heap.size < w1.heap.size) := ⟨HX.out.1.trans (hb.mono HX.out.1.size), (hb.block _ HX.out.2.2).trans HX.out.2.1, Nat.lt_of_lt_of_le HX.out.2.2 hb.size⟩
      clear hb HC1 HX
      obtain ⟨g9, hg9⟩ : ∃ g, g = w1.heap.size + 1 := ⟨_, rfl⟩
      obtain ⟨Y, hY⟩ : ∃ Y, Y = ((w1.alloc (.cells #[] 30)).alloc (.cells Tryz.zeroCells50 50)).setRow g9 Tryz.zeroCells50 := ⟨_, rfl⟩
      have n_2 : ((w1.alloc (.cells #[] 30)).alloc (.cells Tryz.zeroCells50 50)).heap[g9]? = some (.cells Tryz.zeroCells50 50 (0, 0)) := by
        have := heap_alloc_new (w1.alloc (.cells #[] 30)) (.cells Tryz.zeroCells50 50)
        rwa [size_alloc, ← hg9] at this
      have HS : Seal (RbI w l t g9 0 (.slice (some ⟨w1.heap.size, 0, none⟩) 0 0) (.slice none 0 0) Y) := ⟨by
        have hz := HX1.out.2.2
        have b1 : Below w1.heap.size w1 Y := by
          rw [hY]
          exact below_row (((Below.refl _ w1).alloc (Nat.le_refl _) _).alloc (by rw [size_alloc]; omega) _) (by omega) _
        have rK : Y.heap[w1.heap.size]? = some (.cells #[] 30 (0, 0)) := by
          rw [hY, setRow_other _ _ _ _ (by omega)]
          exact heap_alloc2_old w1 _ _
        refine ⟨(b1.block _ hz).trans HX1.out.2.1, ?_, ⟨rfl, .inr ⟨w1.heap.size, 0, #[], rfl, by omega, rK, Nat.le_refl _, by decide, rfl, rfl⟩⟩, World.ownsRow_nil _ _ _ _, HX1.out.1.trans (b1.mono HX1.out.1.size), by omega⟩
        rw [hY, ← brz_zs]
        exact setRow_heap _ _ _ _ _ _ n_2⟩
      have hgn := hg9.symm
      clear hg9
      go_wp2_with ((try rw [hgn]); refine wpList_store_row rfl 50 (.tmp 9) (.tmp 25) rfl g9 Tryz.zeroCells50 rfl rfl 50 _ n_2 iB.out.1 rfl iB.out.2 ?_; rw [← hY]; clear hY n_2 hgn; (try simp only [Act.put]))
      go_loopw [8, 10] (fun i8 i10 wr => ∃ (k : Nat) (v : Value), k ≤ n ∧ v = i8 ∧ i10 = .int .i64 k ∧ Seal (∃ u, RbI w l t g9 k v u wr)) (fun _ i _ => n - (intOf i).toNat)
      case atStart => exact ⟨0, _, by omega, rfl, rfl, ⟨_, HS.out⟩⟩
      case round =>
        obtain ⟨wo, rfl⟩ : ∃ z, z = wr := ⟨_, rfl⟩
        obtain ⟨k, v, hk, rfl, rfl, hH⟩ := hrel
        obtain ⟨u, hRb⟩ := hH.out
        clear HS hH
        by_cases hlt : k < n
        · obtain ⟨x, hx⟩ : ∃ x, l[k]? = some x := ⟨_, List.getElem?_eq_getElem (by omega)⟩
          have HDw := HD.out wo hRb.bel
          rcases HDw.at_ with h0 | ⟨g, off, rfl, hr, hg⟩
          · omega
          have hgw : g < w.heap.size := by
            rcases (HD.out w (Below.refl _ _)).at_ with h0 | ⟨g', off', e, _, hg'⟩
            · omega
            · cases e; exact hg'
          have rX := rangeC_row hr HDw.each hx
          have x32 := (HOK.out x (List.mem_of_getElem? hx)).t32
          have q5 : (k : Int) < (n : Int) := by omega
          have q6 : (0 : Int) ≤ (k : Int) := by omega
          obtain ⟨C, hC⟩ : ∃ C, C = x.C := ⟨_, rfl⟩
          obtain ⟨N, hN⟩ : ∃ N, N = x.N := ⟨_, rfl⟩
          obtain ⟨U, hU⟩ : ∃ U, U = x.U := ⟨_, rfl⟩
          have iX : (Tryz.prog.info? 30).map (·.size) = some C.length := by rw [hC]; exact Ltr.info x32
          have HXX : Seal (l[k]? = some x ∧ N = x.N ∧ U = x.U ∧ C = x.C ∧ (∀ D ∈ [C], D.length = 38) ∧ (∀ z ∈ [x], z.C.length = 38) ∧ g < w.heap.size) := ⟨hx, hN, hU, hC, by intro D hD; rw [List.mem_singleton.1 hD, hC]; exact Ltr.C_len x32, by intro z hz; rw [List.mem_singleton.1 hz]; exact Ltr.C_len x32, hgw⟩
          rw [← hC] at rX
          have cN : wo.cell? ⟨g, off + k * 38, none⟩ = some (.int .i64 N) := by have h := rX 0 (.int .i64 N) (by rw [hC, hN]; rfl); simpa using h
          have cU : wo.cell? ⟨g, off + k * 38 + 1, none⟩ = some (.int .i64 U) := by have h := rX 1 (.int .i64 U) (by rw [hC, hU]; rfl); simpa using h
          have HRb := Seal.mk hRb
          clear hx hC hN hU hr hg HDw x32 hgw hRb
          by_cases hu : U ≤ t
          · have HU : Seal (x.U ≤ t) := ⟨by rw [← HXX.out.2.2.1]; exact hu⟩
            have c9 : wo.cell? ⟨g9, 64, none⟩ = some u := by rw [cell_of_row _ _ _ _ _ _ HRb.out.r9]; rfl
            clear rX iX
            go_wp2_with fail
            refine wp_region_heldT 10 (S := fun W => W.cell? ⟨g9, 64, none⟩ = some u ∧ W.cell? ⟨g, off + k * 38, none⟩ = some (.int .i64 N)) (by kernel_rfl) ⟨c9, cN⟩ (fun hHeld => ?_)
            obtain ⟨V, hV⟩ : ∃ V, V = wo.drew := ⟨_, rfl⟩
            have HV : Seal (RbI w l t g9 k v u V) := ⟨by rw [hV]; exact HRb.out.later (below_drewn_o wo)⟩
            rw [← hV] at hHeld ⊢
            clear hV c9 cN cU HRb
            refine take_t 0 ?_ rfl (by kernel_rfl) (by kernel_rfl) (by kernel_rfl) (by kernel_rfl) (fun _ _ _ h => h) (Or.inl ⟨by kernel_rfl, ?_⟩) (by assumption) ?_
            rotate_left
            · (intro w hSw; (try dsimp only at hSw); go_simp; try (with_reducible rfl))
            try simp only [Act.put, List.setIfInBounds_toArray, List.set_cons_zero, List.set_cons_succ]
            refine take_t 1 ?_ rfl (by kernel_rfl) (by kernel_rfl) (by kernel_rfl) (by kernel_rfl) (fun _ _ _ h => h) (Or.inl ⟨by kernel_rfl, ?_⟩) (by assumption) ?_
            rotate_left
            · (intro w hSw; (try dsimp only at hSw); go_simp; try (with_reducible rfl))
            try simp only [Act.put, List.setIfInBounds_toArray, List.set_cons_zero, List.set_cons_succ]
            refine take_t 2 ?_ rfl (by kernel_rfl) (by kernel_rfl) (by kernel_rfl) (by kernel_rfl) (fun _ _ _ h => h) (Or.inl ⟨by kernel_rfl, ?_⟩) (by assumption) ?_
            rotate_left
            · (intro w hSw; (try dsimp only at hSw); go_simp; try (with_reducible rfl))
            try simp only [Act.put, List.setIfInBounds_toArray, List.set_cons_zero, List.set_cons_succ]
            refine take_t 3 ?_ rfl (by kernel_rfl) (by kernel_rfl) (by kernel_rfl) (by kernel_rfl) (fun _ _ _ h => h) (Or.inl ⟨by kernel_rfl, ?_⟩) (by assumption) ?_
            rotate_left
            · (intro w hSw; (try dsimp only at hSw); go_simp; try (with_reducible rfl))
            try simp only [Act.put, List.setIfInBounds_toArray, List.set_cons_zero, List.set_cons_succ]
            refine take_t 4 ?_ rfl (by kernel_rfl) (by kernel_rfl) (by kernel_rfl) (by kernel_rfl) (fun _ _ _ h => h) (Or.inl ⟨by kernel_rfl, ?_⟩) (by assumption) ?_
            rotate_left
            · (intro w hSw; (try dsimp only at hSw); go_simp; try (with_reducible rfl))
            try simp only [Act.put, List.setIfInBounds_toArray, List.set_cons_zero, List.set_cons_succ]
            refine take_t 5 ?_ rfl (by kernel_rfl) (by kernel_rfl) (by kernel_rfl) (by kernel_rfl) (fun _ _ _ h => h) (Or.inl ⟨by kernel_rfl, ?_⟩) (by assumption) ?_
            rotate_left
            · (intro w hSw; (try dsimp only at hSw); go_simp; try (with_reducible rfl))
            try simp only [Act.put, List.setIfInBounds_toArray, List.set_cons_zero, List.set_cons_succ]
            refine take_t 6 ?_ rfl (by kernel_rfl) (by kernel_rfl) (by kernel_rfl) (by kernel_rfl) (fun _ _ _ h => h) (Or.inl ⟨by kernel_rfl, ?_⟩) (by assumption) ?_
            rotate_left
            · (intro w hSw; (try dsimp only at hSw); go_simp; try (with_reducible rfl))
            try simp only [Act.put, List.setIfInBounds_toArray, List.set_cons_zero, List.set_cons_succ]
            refine oper_t 7 (.slice (some ⟨V.heap.size, 0, none⟩) 1 1) (V.alloc (.cells #[.int .i64 N] 3)) rfl (by kernel_rfl) (by kernel_rfl) (by go_simp) ⟨cell_allocd hHeld.1 _, cell_allocd hHeld.2 _⟩ (fun hHeld2 => ?_)
            clear hHeld
            try simp only [Act.put, List.setIfInBounds_toArray, List.set_cons_zero, List.set_cons_succ]
            obtain ⟨m, hm⟩ : ∃ m, m = (goneK (l.take k) t).length := ⟨_, rfl⟩
            obtain ⟨GL, hGL⟩ : ∃ G, G = (goneK (l.take k) t).map (Value.int .i64) := ⟨_, rfl⟩
            have hO : (V.alloc (.cells #[.int .i64 N] 3)).ownsRow (w.heap.size + 1) 3 1 u m GL := by rw [hm, hGL]; exact HV.out.gone.alloc _
            have hNw : ∀ j z, [Value.int .i64 N][j]? = some z → (V.alloc (.cells #[.int .i64 N] 3)).cell? ((⟨V.heap.size, 0, none⟩ : Addr).add j) = some z := fun j z hz => by
              rw [Addr.add_lit, cell_of_row _ _ _ _ _ _ (heap_alloc_new V _)]
              simpa using hz
            have hmn : m ≤ 1000 := by
              rw [hm]
              have h1 := stay_gone (l.take k) t
              rw [List.length_take] at h1
              omega
            have hbig := HV.out.glt
            have hblt := HV.out.lt
            obtain ⟨u5, w5, hr5, hown5, hg5, _⟩ := run_append_own (V.alloc (.cells #[.int .i64 N] 3)) (w.heap.size + 1) 48 48 3 i0 (.int .i64 0) 1 8 Tryz.underlying48 HI.out.1 HI.out.2.1 HI.out.2.2.1 HI.out.2.2.2 rfl (by decide) u m GL hO ⟨V.heap.size, 0, none⟩ 1 1 [.int .i64 N] rfl hNw (by simp [Value.oneCell']) (by unfold maxLen; omega) (by omega) (by rw [size_alloc]; omega)
            have hown6 := hown5
            rw [hm, hGL, HXX.out.2.1] at hown6
            obtain ⟨hN5, row5⟩ := HV.out.goes HXX.out.1 HU.out hown6 hg5
            have c5 : w5.cell? ⟨g9, 64, none⟩ = some u := by rw [cell_of_row _ _ _ _ _ _ row5]; rfl
            have f5 : w5.frozen? ⟨g9, 64, none⟩ = false := frozen_of_row _ _ _ _ _ row5
            have cN5 : w5.cell? ⟨g, off + k * 38, none⟩ = some (.int .i64 N) := (World.cell?_of_block (w := V.alloc (.cells #[.int .i64 N] 3)) (hg5.block g (by rw [size_alloc]; have := HXX.out.2.2.2.2.2.2; omega) (fun e => by have := (hO.lt g e.symm).1; have := HXX.out.2.2.2.2.2.2; omega))).trans hHeld2.2
            have HN5 := Seal.mk hN5
            obtain ⟨a5, n5, q5', rfl⟩ := slice_form hown5
            refine oper_t 8 (.slice a5 n5 q5') w5 rfl (by kernel_rfl) (by kernel_rfl) (exec_append1 (.tmp 40) (.tmp 46) 48 48 48 rfl rfl _ _ _ rfl rfl hr5) ⟨c5, cN5⟩ (fun hHeld3 => ?_)
            clear hHeld2 hr5 hown5 hown6 hg5 hN5 row5 cN5 hO hNw hbig hblt hm hGL
            try simp only [Act.put, List.setIfInBounds_toArray, List.set_cons_zero, List.set_cons_succ]
            refine take_t 9 ?_ rfl (by kernel_rfl) (by kernel_rfl) (by kernel_rfl) (by kernel_rfl) (fun _ _ _ h => h) (Or.inl ⟨by kernel_rfl, ?_⟩) (by assumption) ?_
            rotate_left
            · (intro w hSw; (try dsimp only at hSw); go_simp; try (with_reducible rfl))
            try simp only [Act.put, List.setIfInBounds_toArray, List.set_cons_zero, List.set_cons_succ]
            refine last_t (w5.setCell ⟨g9, 64, none⟩ (.slice a5 n5 q5')) rfl (by kernel_rfl) (by kernel_rfl) (by kernel_rfl) (by go_simp) ?_
            clear hHeld3 c5 f5
            go_wp2
            go_roundw
            case rel => exact ⟨k + 1, v, by omega, rfl, by go_num, ⟨_, HN5.out⟩⟩
            case measure => simp [intOf]; omega
          · have HU : Seal (¬ x.U ≤ t) := ⟨by rw [← HXX.out.2.2.1]; exact hu⟩
            obtain ⟨L, hL⟩ : ∃ L, L = stayK (l.take k) t := ⟨_, rfl⟩
            have HLn : Seal (L.length ≤ 5000 ∧ L = stayK (l.take k) t) := ⟨by
              rw [hL]
              have h1 := stay_gone (l.take k) t
              rw [List.length_take] at h1
              omega, hL⟩
            have HO : Seal (OwnK wo (w.heap.size + 1) v L.length L) := ⟨by rw [hL]; exact HRb.out.out⟩
            clear hL cN
            go_wp2_with (first
              | (refine wpList_load_mid rfl 30 (.tmp 52) rfl g (off + k * 38) rfl C _ rX ut rfl iX ?_; (try simp only [Act.put, List.setIfInBounds_toArray, List.set_cons_zero, List.set_cons_succ]))
              | (refine wpList_bslice (by kernel_rfl) 22 30 1 38 #[(0, .tmp 53)] rfl [C] Tryz.underlying22 size_kt _ zero_kt rfl rfl HXX.out.2.2.2.2.1 (by decide) (by decide) rfl ?_; obtain ⟨V, gl, hgl, el, nb, kl⟩ := litk wo [x] [C] (by simp [HXX.out.2.2.2.1]) HXX.out.2.2.2.2.2.1 (by simp); rw [el, ← hgl]; have HV2 : Seal (OwnK V (w.heap.size + 1) v L.length L ∧ Below wo.heap.size wo V ∧ w.heap.size + 1 ≤ V.heap.size ∧ IsC Ltr.C 38 V (some ⟨gl, 0, none⟩) 1 1 [x]) := ⟨ownsRow_below HO.out nb, nb, (by have := HRb.out.glt; have := HRb.out.lt; have := nb.size; omega), kl.at⟩; clear hgl el nb kl rX; (try simp only [Act.put, List.setIfInBounds_toArray, List.set_cons_zero, List.set_cons_succ]))
              | (at_builtin; go_loud (refine wpList_append_rg rfl (.tmp 49) (.tmp 54) rfl (w.heap.size + 1) v L rfl HV2.out.1 gl 1 1 [x] rfl HV2.out.2.2.2 (by have := HLn.out.1; omega) HV2.out.2.2.1 ?_; intro v2 w2 hown2 hb2; have HM2 : Seal (RbI w l t g9 (k + 1) v2 u w2) := ⟨HRb.out.stay HXX.out.1 HU.out HV2.out.2.1 (by rw [← HLn.out.2]; exact hown2) hb2⟩; clear hown2 hb2; (try simp only [Act.put, List.setIfInBounds_toArray, List.set_cons_zero, List.set_cons_succ]))))
            go_roundw
            case rel => exact ⟨k + 1, v2, by omega, rfl, by go_num, ⟨_, HM2.out⟩⟩
            case measure => simp [intOf]; omega
        · obtain rfl : k = n := by omega
          have q5 : ¬ (k : Int) < (k : Int) := by omega
          obtain ⟨⟨a2, c2, hv, hgi, hgb⟩, ⟨a1, c1, hvv, hKi, hKb⟩⟩ := hRb.end_ (by omega) (by omega) (fun z hz => Ltr.C_len (HOK.out z hz).t32)
          subst hvv
          have HE : Seal (RbE w l t g9 (zs 64 ++ [u]) a1 c1 a2 c2 wo) := ⟨⟨hRb.r5, hRb.r9, hKi, hKb, hgi, hgb, hRb.bel, hRb.lt⟩⟩
          have HVv := Seal.mk hv
          clear hRb hv hgi hgb hKi hKb
          have HTx : Seal (∀ L : List Ltr, (∀ z ∈ L, z ∈ l) → ∀ b ∈ L.map txK, 0 < b.length ∧ b.length ≤ 1000) := ⟨fun L hL b hb => by
            obtain ⟨z, hz, rfl⟩ := List.mem_map.1 hb
            have := txK_len (HOK.out z (hL z hz)).t32
            omega⟩
          have hST : ∀ z ∈ stayK l t, z ∈ l := fun z hz => (List.mem_filter.1 hz).1
          have HST := Seal.mk hST
          have HSl : Seal ((stayK l t).length ≤ 100) := ⟨by have := stay_gone l t; omega⟩
          obtain ⟨D1, hD1⟩ : ∃ D, D = rootB (l.map txK) := ⟨_, rfl⟩
          obtain ⟨D2, hD2⟩ : ∃ D, D = rootB ((stayK l t).map txK) := ⟨_, rfl⟩
          obtain ⟨GG, hGG⟩ : ∃ G, G = goneK l t := ⟨_, rfl⟩
          have hD1l : D1.length = 32 := by rw [hD1]; exact rootB_len _
          have hD2l : D2.length = 32 := by rw [hD2]; exact rootB_len _
          have HDl : Seal (D1.length = 32 ∧ D2.length = 32 ∧ (Tryz.prog.info? 26).map (·.size) = some (D1.map B).length ∧ (Tryz.prog.info? 26).map (·.size) = some (D2.map B).length) := ⟨hD1l, hD2l, dg_info _ hD1l, dg_info _ hD2l⟩
          have HDD := Seal.mk (And.intro hD1 hD2)
          rw [← hD1, ← hD2, ← hGG] at HR
          have HGG := Seal.mk hGG
          clear hST hD1 hD2 hD1l hD2l hGG
          have hk1 := rleaves45_any a k c l wo (HD.out wo HE.out.bel) HOK.out (by omega)
          go_wp2_with fail
          refine hk1.mono ?_
          rintro e w2 ⟨a3, c3, rfl, hs⟩
          have HE2 := Seal.mk (HE.out.later hs.out.2)
          have hk2 : Calls Tryz.prog 27 #[.slice a3 k c3] w2 fun e w' => e = .returned (.agg (D1.map B).toArray) ∧ Below w2.heap.size w2 w' := by rw [HDD.out.1]; exact rroot07_any a3 k c3 (l.map txK) w2 hs.out.1 hn (HTx.out l (fun _ h => h))
          clear hk1 hs HE
          go_wp2_with fail
          refine hk2.mono ?_
          rintro e w3 ⟨rfl, hb⟩
          have HE3 := Seal.mk (HE2.out.later hb)
          clear hk2 hb HE2
          obtain ⟨Y1, hY1⟩ : ∃ Y, Y = w3.setRow g9 (lay (zs 64 ++ [u]) 0 (D1.map B)).toArray := ⟨_, rfl⟩
          have HY1 : Seal (RbE w l t g9 (lay (zs 64 ++ [u]) 0 (D1.map B)) a1 c1 a2 c2 Y1) := ⟨by rw [hY1]; exact HE3.out.put _⟩
          have r9 := HE3.out.r9
          have hl1 : (lay (zs 64 ++ [u]) 0 (D1.map B)).length = 65 := by rw [length_lay (by rw [List.length_map, HDl.out.1, brzl_eq]; decide)]; exact brzl_eq u
          have hk1 := rleaves45_any a1 (stayK l t).length c1 (stayK l t) Y1 HY1.out.kk (fun z hz => HOK.out z (HST.out z hz)) (by have := HSl.out; omega)
          go_wp2_with (refine wpList_store_mid rfl 26 (.tmp 59) (.tmp 58) rfl g9 0 (D1.map B) rfl rfl 50 (zs 64 ++ [u]) r9 HDl.out.2.2.1 (by rw [List.length_map, HDl.out.1, brzl_eq]; decide) (by intro u hu; obtain ⟨b, _, rfl⟩ := List.mem_map.1 hu; rfl) ?_; rw [← hY1]; clear hY1 r9; (try simp only [Act.put]))
          refine hk1.mono ?_
          rintro e w4 ⟨a4, c4, rfl, hs⟩
          have HE4 := Seal.mk (HY1.out.later hs.out.2)
          have hk2 : Calls Tryz.prog 27 #[.slice a4 (stayK l t).length c4] w4 fun e w' => e = .returned (.agg (D2.map B).toArray) ∧ Below w4.heap.size w4 w' := by rw [HDD.out.2]; exact rroot07_any a4 _ c4 ((stayK l t).map txK) w4 hs.out.1 HSl.out (HTx.out _ HST.out)
          clear hk1 hs HE3 HY1
          go_wp2_with fail
          refine hk2.mono ?_
          rintro e w5 ⟨rfl, hb⟩
          have HE5 := Seal.mk (HE4.out.later hb)
          clear hk2 hb HE4
          obtain ⟨BRW, hBRW⟩ : ∃ L : List Value, L = D1.map B ++ (D2.map B ++ [u]) := ⟨_, rfl⟩
          obtain ⟨Y2, hY2⟩ : ∃ Y, Y = w5.setRow g9 (lay (lay (zs 64 ++ [u]) 0 (D1.map B)) 32 (D2.map B)).toArray := ⟨_, rfl⟩
          have HY2 : Seal (RbE w l t g9 BRW a1 c1 a2 c2 Y2) := ⟨by
            have h := HE5.out.put (lay (lay (zs 64 ++ [u]) 0 (D1.map B)) 32 (D2.map B))
            rw [← hY2, brn_row HDl.out.1 HDl.out.2.1 u, ← hBRW] at h
            exact h⟩
          have iW : Seal ((Tryz.prog.info? 50).map (·.size) = some BRW.length ∧ BRW.toArray.all (·.oneCell') = true ∧ BRW = brC ⟨D1, D2, GG⟩ u ∧ Tryz.zeroCells50.size = BRW.toArray.size) := ⟨by
            have e : BRW = brC ⟨D1, D2, GG⟩ u := hBRW
            refine ⟨?_, ?_, e, ?_⟩
            · rw [e, len_brC HDl.out.1 HDl.out.2.1]; kernel_rfl
            · rw [e]; exact all_oneCell_toArray (brC_one _ (by rw [HVv.out]; rfl))
            · rw [show BRW.toArray.size = 65 from by rw [List.size_toArray, e]; exact len_brC HDl.out.1 HDl.out.2.1 u]; kernel_rfl⟩
          have uB := Tryz.underlying50
          have r9 := HE5.out.r9
          clear hBRW
          go_wp2_with (refine wpList_store_mid rfl 26 (.tmp 63) (.tmp 62) rfl g9 32 (D2.map B) rfl rfl 50 (lay (zs 64 ++ [u]) 0 (D1.map B)) r9 HDl.out.2.2.2 (by rw [List.length_map, HDl.out.2.1, hl1]; decide) (by intro u hu; obtain ⟨b, _, rfl⟩ := List.mem_map.1 hu; rfl) ?_; rw [← hY2]; clear hY2 r9; (try simp only [Act.put]))
          refine wp_region_held_drew (S := fun W => W.heap[g9]? = some (.cells BRW.toArray 50 (0, 0))) (by kernel_rfl) HY2.out.r9 (fun hHeld => ?_)
          obtain ⟨Z, hZ⟩ : ∃ Z, Z = Y2.drew := ⟨_, rfl⟩
          have HZ : Seal (RbE w l t g9 BRW a1 c1 a2 c2 Z) := ⟨by rw [hZ]; exact HY2.out.later (below_drewn_o _)⟩
          rw [← hZ] at hHeld ⊢
          clear hZ HY2 HE5
          refine take_h 0 ?_ rfl (by kernel_rfl) (by kernel_rfl) (by kernel_rfl) (fun _ _ _ h => h) (Or.inl ⟨by kernel_rfl, ?_⟩) (by assumption) ?_
          rotate_left
          · (intro w hSw; (try dsimp only at hSw); go_simp; try (with_reducible rfl))
          try simp only [Act.put, List.setIfInBounds_toArray, List.set_cons_zero, List.set_cons_succ]
          refine take_h 1 _ rfl (by kernel_rfl) (by kernel_rfl) (by kernel_rfl) (fun _ _ _ h => h) (yieldsIf_load_mid (by kernel_rfl) 50 (.tmp 9) rfl g9 0 rfl BRW _ (fun w hSw => (rangeAt_row hSw)) uB rfl iW.out.1) (by assumption) ?_
          try simp only [Act.put, List.setIfInBounds_toArray, List.set_cons_zero, List.set_cons_succ]
          refine take_h 2 ?_ rfl (by kernel_rfl) (by kernel_rfl) (by kernel_rfl) (fun _ _ _ h => h) (Or.inl ⟨by kernel_rfl, ?_⟩) (by assumption) ?_
          rotate_left
          · (intro w hSw; (try dsimp only at hSw); go_simp; try (with_reducible rfl))
          try simp only [Act.put, List.setIfInBounds_toArray, List.set_cons_zero, List.set_cons_succ]
          refine skip_h 3 (Z.setRow w.heap.size BRW.toArray) rfl (by kernel_rfl) (by kernel_rfl) (exec_store_row 50 (.tmp 5) (.tmp 65) rfl w.heap.size BRW.toArray rfl rfl 50 _ HZ.out.r5 (by simpa using iW.out.1) iW.out.2.2.2 iW.out.2.1) ((setRow_other _ _ _ _ (by have := HZ.out.lt; omega)).trans hHeld) (fun hHeld2 => ?_)
          try simp only [Act.put]
          refine take_h 4 ?_ rfl (by kernel_rfl) (by kernel_rfl) (by kernel_rfl) (fun _ _ _ h => h) (Or.inl ⟨by kernel_rfl, ?_⟩) (by assumption) ?_
          rotate_left
          · (intro w hSw; (try dsimp only at hSw); go_simp; try (with_reducible rfl))
          try simp only [Act.put, List.setIfInBounds_toArray, List.set_cons_zero, List.set_cons_succ]
          refine wpAnyH_done (by kernel_rfl) ?_ _
          clear hHeld hHeld2
          go_wp2
          refine bodyPost_ret (results_mid (fn := Tryz.f18) rfl _ _ w.heap.size 50 BRW.toArray (0, 0) _ _ _ rfl rfl rfl (setRow_heap _ _ _ _ _ _ HZ.out.r5) Tryz.underlying50 rfl (by simpa using iW.out.1)) rfl ?_
          exact ⟨a1, c1, u, by rw [HR.out.1, HR.out.2.1, HR.out.2.2, iW.out.2.2.1]; rfl, ⟨by
            rw [HR.out.1, HR.out.2.1]
            exact ⟨HZ.out.kk.other _ (fun b o e => by have := (HZ.out.k1 b o e).1; omega), a2, c2, by rw [HGG.out]; exact HVv.out, by rw [HGG.out]; exact HZ.out.gg.other _ (fun b o e => by have := (HZ.out.g1 b o e).1; omega)⟩⟩, below_row HZ.out.bel (Nat.le_refl _) _⟩
  · have hE : burnE l t = e0 := by unfold burnE; rw [← he0, if_pos hz]
    have HR : Seal (RL = [] ∧ RB = noBrn ∧ RE = e0) := ⟨by rw [hRL, hRB, hRE]; unfold burnL burnB; rw [hE, if_neg hz, if_neg hz]; exact ⟨rfl, rfl, rfl⟩⟩
    clear hRL hRB hRE he0 hE
    go_enter Tryz.func18, Tryz.ntmps18
    go_upto_region 1 with (fail)
    rw [← hX]
    clear hX
    go_wp2_with fail
    refine HC1.out.mono ?_
    rintro e w1 ⟨rfl, hb⟩
    have HX1 : Seal (Below w.heap.size w w1 ∧ w1.heap[w.heap.size]? = some (.cells Tryz.zeroCells50 50 (0, 0)) ∧ w.heap.size < w1.heap.size) := ⟨HX.out.1.trans (hb.mono HX.out.1.size), (hb.block _ HX.out.2.2).trans HX.out.2.1, Nat.lt_of_lt_of_le HX.out.2.2 hb.size⟩
    clear hb HC1 HX
    go_wp2_with (refine wpList_store_row rfl 50 (.tmp 5) (.tmp 15) rfl w.heap.size Tryz.zeroCells50 rfl rfl 50 _ HX1.out.2.1 iB.out.1 rfl iB.out.2 ?_)
    refine bodyPost_ret (results_mid (fn := Tryz.f18) rfl _ _ w.heap.size 50 Tryz.zeroCells50 (0, 0) _ _ _ rfl rfl rfl (setRow_heap _ _ _ _ _ _ HX1.out.2.1) Tryz.underlying50 rfl iB.out.1) rfl ?_
    exact ⟨none, 0, .slice none 0 0, by rw [HR.out.1, HR.out.2.1, HR.out.2.2, ← brz_no]; rfl, ⟨by rw [HR.out.1, HR.out.2.1]; exact ⟨isC_nilK _, gone_nil _⟩⟩, below_row HX1.out.1 (Nat.le_refl _) _⟩
end Frk
