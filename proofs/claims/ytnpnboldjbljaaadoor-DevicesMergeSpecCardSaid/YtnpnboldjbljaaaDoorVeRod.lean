/- Law 44's reference: Owed. -/
import Derived.Test.YtnpnboldjbljaaaDoorVegDow
import Derived.Test.YtnpnboldjbljaaaDoorVeRri
namespace Frk
open Go Go.RowKit Go.Proofs
set_option maxRecDepth 100000

set_option maxHeartbeats 4000000 in
theorem rowed44_any (pa ga : Option Addr) (pn pc gn gc : Nat) (D : Dv) (w : World) (hP : IsPs w pa pn pc D.P) (hG : IsIs w ga gn gc D.G) :
    Calls Tryd.prog 23 #[.agg #[.slice pa pn pc, .slice ga gn gc]] w (OwedPost D w) := by
  obtain ⟨X, hX⟩ : ∃ X : World, X = w.alloc (.cells #[.slice pa pn pc, .slice ga gn gc] 25) := ⟨_, rfl⟩
  have HB : Seal (Below w.heap.size w X) := ⟨by rw [hX]; exact below_alloc _ _⟩
  have hrow : X.heap[w.heap.size]? = some (.cells #[.slice pa pn pc, .slice ga gn gc] 25 (0, 0)) := by rw [hX]; exact heap_alloc_new _ _
  have c0 : X.cell? ⟨w.heap.size, 0, none⟩ = some (.slice pa pn pc) := by rw [cell_of_row _ _ _ _ _ _ hrow]; rfl
  have c1 : X.cell? ⟨w.heap.size, 1, none⟩ = some (.slice ga gn gc) := by rw [cell_of_row _ _ _ _ _ _ hrow]; rfl
  have hpx := hP.lmax
  have hlp := hP.llen
  have HP : Seal (∀ W, Below w.heap.size w W → IsPs W pa pn pc D.P) := ⟨fun W h => hP.below h⟩
  have HGs : Seal (∀ W, Below w.heap.size w W → IsIs W ga gn gc D.G) := ⟨fun W h => hG.below h⟩
  have HCk : Seal (∀ W, Below w.heap.size w W → Calls Tryd.prog 14 #[.agg #[.slice pa pn pc, .slice ga gn gc]] W fun e w' => e = .returned (.int .i64 (chkD D)) ∧ Below W.heap.size W w') := ⟨fun W h => rcheck44_any pa ga pn pc gn gc D W (hP.below h) (hG.below h)⟩
  obtain ⟨er, her⟩ : ∃ e, e = chkD D := ⟨_, rfl⟩
  unfold OwedPost
  rw [← her] at HCk ⊢
  have HER := Seal.mk her
  obtain ⟨i0, hi, hz0, hz1, hz2⟩ := info_parts info_int2
  have HI := Seal.mk (And.intro hi (And.intro hz0 (And.intro hz1 hz2)))
  clear hP hG hrow her hi hz0 hz1 hz2
  go_enter Tryd.func23, Tryd.ntmps23
  go_upto_region 1 with (fail)
  rw [← hX]
  clear hX
  go_wp2_with fail
  refine (HCk.out X HB.out).mono ?_
  rintro e w1 ⟨rfl, hb⟩
  have HB1 := Seal.mk (HB.out.trans (hb.mono HB.out.size))
  have c0 := cell_below' hb c0
  have c1 := cell_below' hb c1
  clear hb HB HCk
  by_cases h0 : er = 0
  · subst h0
    obtain ⟨gx, hgx⟩ : ∃ g, g = w.heap.size := ⟨_, rfl⟩
    have HGX := Seal.mk hgx
    have hgs : gx < w1.heap.size := by rw [hgx]; exact block_lt_of_cell c0
    rw [← hgx] at c0 c1 ⊢
    have H0 : Seal ((w1.alloc (.cells #[] 3)).ownsRow w1.heap.size 3 1 (.slice (some ⟨w1.heap.size, 0, none⟩) 0 0) (owedK D 0).length ((owedK D 0).map (Value.int .i64)) ∧ Below w1.heap.size w1 (w1.alloc (.cells #[] 3))) := ⟨by
      have e : owedK D 0 = [] := rfl
      rw [e]
      exact ⟨rfl, .inr ⟨w1.heap.size, 0, #[], rfl, Nat.le_refl _, heap_alloc_new w1 _, Nat.le_refl _, by unfold maxLen; omega, by simp, by simp⟩⟩, below_alloc _ _⟩
    clear HER hgx
    go_wp2
    go_loopw [5, 6] (fun u i wr => ∃ (k : Nat) (v : Value), k ≤ pn ∧ v = u ∧ i = .int .i64 k ∧ Seal (wr.ownsRow w1.heap.size 3 1 v (owedK D k).length ((owedK D k).map (Value.int .i64)) ∧ Below w1.heap.size w1 wr)) (fun _ i _ => pn - (intOf i).toNat)
    case atStart => exact ⟨0, _, by omega, rfl, rfl, H0⟩
    case round =>
      obtain ⟨wo, rfl⟩ : ∃ z, z = wr := ⟨_, rfl⟩
      obtain ⟨k, v, hk, rfl, rfl, hH⟩ := hrel
      clear H0
      have HBw : Seal (Below w.heap.size w wo) := ⟨HB1.out.trans (hH.out.2.mono HB1.out.size)⟩
      have c0 := cell_below' hH.out.2 c0
      have c1 := cell_below' hH.out.2 c1
      by_cases hlt : k < pn
      · have hPs := HP.out wo HBw.out
        rcases hPs.at_ with hz | ⟨g, off, rfl, hr, hg⟩
        · omega
        · obtain ⟨x, hx⟩ : ∃ x, D.P[k]? = some x := ⟨_, List.getElem?_eq_getElem (by omega)⟩
          obtain ⟨o, ho⟩ : ∃ o, o = x.o := ⟨_, rfl⟩
          have c2 : wo.cell? ⟨g, off + k * 33, none⟩ = some (.int .i64 o) := by have := rangeC_row hr hPs.each hx 0 (.int .i64 x.o) rfl; rw [ho]; simpa using this
          have q5 : (k : Int) < (pn : Int) := by omega
          have q6 : (0 : Int) ≤ (k : Int) := by omega
          have HK : Seal (owedK D (k + 1) = owedK D k ++ (if hasK idI D.G o then [] else [o]) ∧ (owedK D k).length ≤ k) := ⟨by rw [ho]; exact ⟨owedK_succ hx, owedK_le D k⟩⟩
          clear hPs hr hg hx ho
          go_wp2_with fail
          refine wp_region_held_drew (S := fun w' => w'.cell? ⟨gx, 0, none⟩ = some (.slice (some ⟨g, off, none⟩) pn pc) ∧ w'.cell? ⟨gx, 1, none⟩ = some (.slice ga gn gc) ∧ w'.cell? ⟨g, off + k * 33, none⟩ = some (.int .i64 o)) (by kernel_rfl) ⟨c0, c1, c2⟩ (fun hHeld => ?_)
          obtain ⟨V, hV⟩ : ∃ V, V = wo.drew := ⟨_, rfl⟩
          have HV : Seal (Below w.heap.size w V ∧ Below w1.heap.size w1 V ∧ V.ownsRow w1.heap.size 3 1 v (owedK D k).length ((owedK D k).map (Value.int .i64))) := ⟨by
            rw [hV]
            exact ⟨HBw.out.trans ((below_drewn _).mono HBw.out.size), hH.out.2.trans ((below_drewn _).mono hH.out.2.size), ownsRow_below hH.out.1 (below_drewn _)⟩⟩
          rw [← hV] at hHeld ⊢
          clear hV c0 c1 c2 hH
          refine take_h 0 ?_ rfl (by kernel_rfl) (by kernel_rfl) (by kernel_rfl) (fun _ _ _ h => h) (Or.inl ⟨by kernel_rfl, ?_⟩) (by assumption) ?_
          rotate_left
          · (intro w hSw; (try dsimp only at hSw); go_simp; try (with_reducible rfl))
          try simp only [Act.put, List.setIfInBounds_toArray, List.set_cons_zero, List.set_cons_succ]
          refine take_h 1 ?_ rfl (by kernel_rfl) (by kernel_rfl) (by kernel_rfl) (fun _ _ _ h => h) (Or.inl ⟨by kernel_rfl, ?_⟩) (by assumption) ?_
          rotate_left
          · (intro w hSw; (try dsimp only at hSw); go_simp; try (with_reducible rfl))
          try simp only [Act.put, List.setIfInBounds_toArray, List.set_cons_zero, List.set_cons_succ]
          refine take_h 2 ?_ rfl (by kernel_rfl) (by kernel_rfl) (by kernel_rfl) (fun _ _ _ h => h) (Or.inl ⟨by kernel_rfl, ?_⟩) (by assumption) ?_
          rotate_left
          · (intro w hSw; (try dsimp only at hSw); go_simp; try (with_reducible rfl))
          try simp only [Act.put, List.setIfInBounds_toArray, List.set_cons_zero, List.set_cons_succ]
          refine take_h 3 ?_ rfl (by kernel_rfl) (by kernel_rfl) (by kernel_rfl) (fun _ _ _ h => h) (Or.inl ⟨by kernel_rfl, ?_⟩) (by assumption) ?_
          rotate_left
          · (intro w hSw; (try dsimp only at hSw); go_simp; try (with_reducible rfl))
          try simp only [Act.put, List.setIfInBounds_toArray, List.set_cons_zero, List.set_cons_succ]
          refine take_h 4 ?_ rfl (by kernel_rfl) (by kernel_rfl) (by kernel_rfl) (fun _ _ _ h => h) (Or.inl ⟨by kernel_rfl, ?_⟩) (by assumption) ?_
          rotate_left
          · (intro w hSw; (try dsimp only at hSw); go_simp; try (with_reducible rfl))
          try simp only [Act.put, List.setIfInBounds_toArray, List.set_cons_zero, List.set_cons_succ]
          refine take_h 5 ?_ rfl (by kernel_rfl) (by kernel_rfl) (by kernel_rfl) (fun _ _ _ h => h) (Or.inl ⟨by kernel_rfl, ?_⟩) (by assumption) ?_
          rotate_left
          · (intro w hSw; (try dsimp only at hSw); go_simp; try (with_reducible rfl))
          try simp only [Act.put, List.setIfInBounds_toArray, List.set_cons_zero, List.set_cons_succ]
          refine take_h 6 ?_ rfl (by kernel_rfl) (by kernel_rfl) (by kernel_rfl) (fun _ _ _ h => h) (Or.inl ⟨by kernel_rfl, ?_⟩) (by assumption) ?_
          rotate_left
          · (intro w hSw; (try dsimp only at hSw); go_simp; try (with_reducible rfl))
          try simp only [Act.put, List.setIfInBounds_toArray, List.set_cons_zero, List.set_cons_succ]
          refine take_h 7 ?_ rfl (by kernel_rfl) (by kernel_rfl) (by kernel_rfl) (fun _ _ _ h => h) (Or.inl ⟨by kernel_rfl, ?_⟩) (by assumption) ?_
          rotate_left
          · (intro w hSw; (try dsimp only at hSw); go_simp; try (with_reducible rfl))
          try simp only [Act.put, List.setIfInBounds_toArray, List.set_cons_zero, List.set_cons_succ]
          refine call_h 8 rfl (by kernel_rfl) 32 #[.slice ga gn gc, .int .i64 o] (by kernel_rfl) (by go_simp) ?_
          refine (rhas44_any ga gn gc D.G o V (HGs.out V HV.out.1)).mono ?_
          rintro e w2 ⟨rfl, rfl⟩
          refine ⟨_, rfl, hHeld, fun hHeld2 => ?_⟩
          obtain ⟨b, hb⟩ : ∃ b, b = hasK idI D.G o := ⟨_, rfl⟩
          rw [← hb] at HK ⊢
          clear hb hHeld
          try simp only [Act.put, List.setIfInBounds_toArray, List.set_cons_zero, List.set_cons_succ]
          cases b with
          | true =>
            refine take_h 9 ?_ rfl (by kernel_rfl) (by kernel_rfl) (by kernel_rfl) (fun _ _ _ h => h) (Or.inl ⟨by kernel_rfl, ?_⟩) (by assumption) ?_
            rotate_left
            · (intro w hSw; (try dsimp only at hSw); go_simp; try (with_reducible rfl))
            try simp only [Act.put, List.setIfInBounds_toArray, List.set_cons_zero, List.set_cons_succ]
            refine wpAnyH_done (by kernel_rfl) ?_ _
            clear hHeld2
            go_wp2
            go_roundw
            case rel => exact ⟨k + 1, v, by omega, rfl, by go_num, ⟨by rw [HK.out.1]; simpa using HV.out.2.2, HV.out.2.1⟩⟩
            case measure => simp [intOf]; omega
          | false =>
            refine take_h 9 ?_ rfl (by kernel_rfl) (by kernel_rfl) (by kernel_rfl) (fun _ _ _ h => h) (Or.inl ⟨by kernel_rfl, ?_⟩) (by assumption) ?_
            rotate_left
            · (intro w hSw; (try dsimp only at hSw); go_simp; try (with_reducible rfl))
            try simp only [Act.put, List.setIfInBounds_toArray, List.set_cons_zero, List.set_cons_succ]
            refine wpAnyH_done (by kernel_rfl) ?_ _
            obtain ⟨c0, c1, c2⟩ := hHeld2
            have HV2 : Seal ((V.alloc (.cells #[.int .i64 o] 3)).ownsRow w1.heap.size 3 1 v (owedK D k).length ((owedK D k).map (Value.int .i64)) ∧ (∀ j u, [Value.int .i64 o][j]? = some u → (V.alloc (.cells #[.int .i64 o] 3)).cell? ((⟨V.heap.size, 0, none⟩ : Addr).add j) = some u) ∧ Below w1.heap.size w1 (V.alloc (.cells #[.int .i64 o] 3))) := ⟨HV.out.2.2.alloc _, fun j u hu => (by rw [Addr.add_mid]; exact rangeAt_row (heap_alloc_new V _) j u hu), HV.out.2.1.alloc HV.out.2.1.size _⟩
            have hgb : w1.heap.size ≤ (V.alloc (.cells #[.int .i64 o] 3)).heap.size := by have := HV.out.2.1.size; simp; omega
            go_wp2_with (at_builtin; go_loud (refine wpList_append_own _ rfl (.tmp 30) (.tmp 37) 23 rfl w1.heap.size 3 i0 _ 1 8 Tryd.underlying23 HI.out.1 HI.out.2.1 HI.out.2.2.1 HI.out.2.2.2 rfl (by decide) v (owedK D k).length ((owedK D k).map (Value.int .i64)) rfl HV2.out.1 ⟨V.heap.size, 0, none⟩ 1 1 [.int .i64 o] rfl rfl HV2.out.2.1 (by simp [Value.oneCell']) (by unfold maxLen; have := HK.out.2; omega) (by have := HK.out.2; omega) hgb ?_; intro v5 w5 hown5 hgrow5 _; have vlt := HV2.out.1.lt; have H5 : Seal (w5.ownsRow w1.heap.size 3 1 v5 (owedK D (k + 1)).length ((owedK D (k + 1)).map (Value.int .i64)) ∧ Below w1.heap.size w1 w5) := ⟨(by rw [HK.out.1]; simpa using hown5), HV2.out.2.2.grown hgrow5 hgb (fun k e => (vlt k e).1)⟩; obtain ⟨va, vn, vc, rfl⟩ := (by exact sform hown5 : ∃ a m c, v5 = .slice a m c); clear hown5 hgrow5 vlt; (try simp only [Act.put, List.setIfInBounds_toArray, List.set_cons_zero, List.set_cons_succ])))
            go_roundw
            case rel => exact ⟨k + 1, _, by omega, rfl, by go_num, H5⟩
            case measure => simp [intOf]; omega
      · obtain rfl : k = pn := by omega
        have q5 : ¬ (k : Int) < (k : Int) := by omega
        have e : owedK D k = owedL D := by unfold owedK owedL; rw [List.take_of_length_le (by omega)]
        have HF : Seal (wo.ownsRow w.heap.size 3 1 v (owedL D).length ((owedL D).map (Value.int .i64)) ∧ Below w.heap.size w wo) := ⟨by rw [← e]; exact hH.out.1.mono HB1.out.size, HBw.out⟩
        clear hH e
        go_wp2
        go_ret2
        exact ⟨_, rfl, ⟨by simpa using HF.out.1, HF.out.2⟩⟩
  · have q0 : ¬ er = 0 := h0
    clear HER
    go_wp2
    go_ret2
    exact ⟨_, rfl, ⟨by simpa [q0] using World.ownsRow_nil _ _ _ _, HB1.out⟩⟩
end Frk
