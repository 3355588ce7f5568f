/- Law 44: Got. -/
import Derived.Test.YtnpnboldjbljaaaDoorVfgMer
import Derived.Test.YtnpnboldjbljaaaDoorVfDmg
import Derived.Test.YtnpnboldjbljaaaDoorVfRow
import Derived.Deep.Cut
namespace Frk
open Go Go.RowKit Go.Proofs
set_option maxRecDepth 100000

/-- two slices that make a device -/
def DevAt (w : World) (v1 v2 : Value) (D : Dv) : Prop :=
  ∃ pa pn pc ga gn gc, v1 = .slice pa pn pc ∧ v2 = .slice ga gn gc ∧ IsPs w pa pn pc D.P ∧ (∀ x ∈ D.P, x.S.length = 32) ∧ IsIs w ga gn gc D.G
def DevPost (D : Dv) (er : Int) (w : World) (e : Ending) (w' : World) : Prop :=
  ∃ v1 v2, e = .returned (.tuple #[.agg #[v1, v2], .int .i64 er]) ∧ Seal (DevAt w' v1 v2 D) ∧ Below w.heap.size w w'
theorem devAt_z (w : World) : DevAt w (.slice none 0 0) (.slice none 0 0) Dv.z :=
  ⟨none, 0, 0, none, 0, 0, rfl, rfl, ⟨rfl, Nat.le_refl _, by decide, by decide, (by intro x hx; cases hx), .inl rfl⟩, (by intro x hx; cases hx), ⟨rfl, Nat.le_refl _, by decide, by decide, (by intro x hx; cases hx), .inl rfl⟩⟩
theorem dev_info : (Tryd.prog.info? 25).map (·.size) = some 2 := by kernel_rfl

set_option maxHeartbeats 4000000 in
theorem dgot_any (pa ga : Option Addr) (pn pc gn gc : Nat) (D : Dv) (n : Int) (w : World) (hP : IsPs w pa pn pc D.P) (h32 : ∀ x ∈ D.P, x.S.length = 32) (hG : IsIs w ga gn gc D.G) (hs : gn ≤ 4000) :
    Calls Tryd.prog 20 #[.agg #[.slice pa pn pc, .slice ga gn gc], .int .i64 n] w (DevPost (gotD D n) (gotE D n) w) := by
  obtain ⟨X, hX⟩ : ∃ X : World, X = (w.alloc (.cells #[.slice pa pn pc, .slice ga gn gc] 25)).alloc (.cells #[.slice none 0 0, .slice none 0 0] 25) := ⟨_, rfl⟩
  have HB : Seal (Below w.heap.size w X) := ⟨by rw [hX]; exact ((Below.refl _ w).alloc (Nat.le_refl _) _).alloc (by simp) _⟩
  have hrow : X.heap[w.heap.size]? = some (.cells #[.slice pa pn pc, .slice ga gn gc] 25 (0, 0)) := by rw [hX]; exact heap_alloc2_old w _ _
  have hres : X.heap[w.heap.size + 1]? = some (.cells #[.slice none 0 0, .slice none 0 0] 25 (0, 0)) := by rw [hX]; exact heap_alloc2_new w _ _
  have c0 : X.cell? ⟨w.heap.size, 0, none⟩ = some (.slice pa pn pc) := by rw [cell_of_row _ _ _ _ _ _ hrow]; rfl
  have c1 : X.cell? ⟨w.heap.size, 1, none⟩ = some (.slice ga gn gc) := by rw [cell_of_row _ _ _ _ _ _ hrow]; rfl
  have HP : Seal (∀ W, Below w.heap.size w W → IsPs W pa pn pc D.P) := ⟨fun W h => hP.below h⟩
  have HGs : Seal (∀ W, Below w.heap.size w W → IsIs W ga gn gc D.G) := ⟨fun W h => hG.below h⟩
  have H32 := Seal.mk h32
  have HCk : Seal (∀ W, Below w.heap.size w W → Calls Tryd.prog 13 #[.agg #[.slice pa pn pc, .slice ga gn gc]] W fun e w' => e = .returned (.int .i64 (chkD D)) ∧ Below W.heap.size W w') := ⟨fun W h => dcheck_any pa ga pn pc gn gc D W (hP.below h) h32 (hG.below h)⟩
  have HN : Seal (D.G.length = gn ∧ gn ≤ 4000 ∧ D.P.length = pn) := ⟨hG.llen, hs, hP.llen⟩
  obtain ⟨er, her⟩ : ∃ e, e = chkD D := ⟨_, rfl⟩
  rw [← her] at HCk
  have HER := Seal.mk her
  have hgs : w.heap.size + 1 < X.heap.size := (Array.getElem?_eq_some_iff.1 hres).1
  obtain ⟨gx, hgx⟩ : ∃ g, g = w.heap.size := ⟨_, rfl⟩
  have HGX := Seal.mk hgx
  rw [← hgx] at c0 c1 hres hgs
  clear hP h32 hG hrow her hs
  go_enter Tryd.func20, Tryd.ntmps20
  go_upto_region 1 with (fail)
  rw [← hX]
  rw [← hgx]
  clear hX hgx
  go_wp2_with fail
  refine (HCk.out X HB.out).mono ?_
  rintro e w1 ⟨rfl, hb⟩
  have HB1 := Seal.mk (HB.out.trans (hb.mono HB.out.size))
  have c0 := cell_below' hb c0
  have c1 := cell_below' hb c1
  have hres := (hb.block _ hgs).trans hres
  have hgs := Nat.lt_of_lt_of_le hgs hb.size
  clear hb HB HCk
  by_cases h0 : er = 0
  · subst h0
    have HCz : Seal (chkD D = 0) := ⟨HER.out.symm⟩
    have HRi : Seal (RisK Po.o D.P ∧ RisK idI D.G) := ⟨(rightD_iff.1 (chkD_zero.1 HCz.out).2).2.1, (rightD_iff.1 (chkD_zero.1 HCz.out).2).2.2.1⟩
    clear HER
    go_wp2_with fail
    refine (dfind_any pa pn pc D.P n w1 (HP.out w1 HB1.out) H32.out HRi.out.1).mono ?_
    rintro e w2 ⟨rfl, hb⟩
    have HB2 := Seal.mk (HB1.out.trans (hb.mono HB1.out.size))
    have c0 := cell_below' hb c0
    have c1 := cell_below' hb c1
    have hres := (hb.block _ hgs).trans hres
    have hgs := Nat.lt_of_lt_of_le hgs hb.size
    clear hb HB1
    obtain ⟨ai, hai⟩ : ∃ i, i = atK Po.o D.P n := ⟨_, rfl⟩
    obtain ⟨b, hb⟩ : ∃ b, b = hasK Po.o D.P n := ⟨_, rfl⟩
    rw [← hai, ← hb]
    have HH := Seal.mk hb
    clear hai hb
    cases b with
    | false =>
      have HE : Seal (gotE D n = 1 ∧ gotD D n = Dv.z) := ⟨by
        have e : gotE D n = 1 := by unfold gotE; rw [if_neg (by simp [HCz.out]), ← HH.out]; rfl
        exact ⟨e, by unfold gotD; rw [e]; rfl⟩⟩
      go_wp2_with (first
        | (refine wpList_load_row rfl 25 (.tmp 4) rfl (gx + 1) rfl 25 #[.slice none 0 0, .slice none 0 0] (0, 0) _ hres Tryd.underlying25 rfl dev_info ?_; (try simp only [Act.put, List.setIfInBounds_toArray, List.set_cons_zero, List.set_cons_succ]))
        | (refine wpList_store_row rfl 25 (.tmp 4) (.tmp 23) rfl (gx + 1) #[.slice none 0 0, .slice none 0 0] rfl rfl 25 #[.slice none 0 0, .slice none 0 0] hres dev_info rfl (by simp [Value.oneCell']) ?_; (try simp only [Act.put])))
      refine bodyPost_ret (results_row_tmp (fn := Tryd.f20) rfl _ _ (gx + 1) 25 #[.slice none 0 0, .slice none 0 0] (0, 0) _ _ rfl rfl (setRow_heap _ _ _ _ _ _ hres) Tryd.underlying25 rfl dev_info) rfl ?_
      rw [HE.out.1, HE.out.2]
      exact ⟨_, _, rfl, ⟨devAt_z _⟩, below_row HB2.out (by have := HGX.out; omega) _⟩
    | true =>
      have HE : Seal (gotE D n = 0 ∧ gotD D n = ⟨D.P, putI D.G n⟩) := ⟨by
        have e : gotE D n = 0 := by unfold gotE; rw [if_neg (by simp [HCz.out]), ← HH.out]; rfl
        exact ⟨e, by unfold gotD; rw [e]; rfl⟩⟩
      go_wp2_with fail
      refine wp_region_held_drew (S := fun w' => w'.cell? ⟨gx, 0, none⟩ = some (.slice pa pn pc) ∧ w'.cell? ⟨gx, 1, none⟩ = some (.slice ga gn gc)) (by kernel_rfl) ⟨c0, c1⟩ (fun hHeld => ?_)
      obtain ⟨V, hV⟩ : ∃ V, V = w2.drew := ⟨_, rfl⟩
      have HV : Seal (Below w.heap.size w V ∧ V.heap[gx + 1]? = some (.cells #[.slice none 0 0, .slice none 0 0] 25 (0, 0)) ∧ gx + 1 < V.heap.size) := ⟨by
        rw [hV]
        exact ⟨HB2.out.trans ((show Below w2.heap.size w2 w2.drew from ⟨rfl, rfl, rfl, Nat.le_refl _, fun _ _ => rfl⟩).mono HB2.out.size), hres, hgs⟩⟩
      rw [← hV] at hHeld ⊢
      clear hV c0 c1 hres hgs HB2
      refine take_h 0 ?_ rfl (by kernel_rfl) (by kernel_rfl) (by kernel_rfl) (fun _ _ _ h => h) (Or.inl ⟨by kernel_rfl, ?_⟩) (by assumption) ?_
      rotate_left
      · (intro w hSw; (try dsimp only at hSw); go_simp; try (with_reducible rfl))
      try simp only [Act.put, List.setIfInBounds_toArray, List.set_cons_zero, List.set_cons_succ]
      refine take_h 1 ?_ rfl (by kernel_rfl) (by kernel_rfl) (by kernel_rfl) (fun _ _ _ h => h) (Or.inl ⟨by kernel_rfl, ?_⟩) (by assumption) ?_
      rotate_left
      · (intro w hSw; (try dsimp only at hSw); go_simp; try (with_reducible rfl))
      try simp only [Act.put, List.setIfInBounds_toArray, List.set_cons_zero, List.set_cons_succ]
      refine take_h 2 ?_ rfl (by kernel_rfl) (by kernel_rfl) (by kernel_rfl) (fun _ _ _ h => h) (Or.inl ⟨by kernel_rfl, ?_⟩) (by assumption) ?_
      rotate_left
      · (intro w hSw; (try dsimp only at hSw); go_simp; try (with_reducible rfl))
      try simp only [Act.put, List.setIfInBounds_toArray, List.set_cons_zero, List.set_cons_succ]
      refine take_h 3 ?_ rfl (by kernel_rfl) (by kernel_rfl) (by kernel_rfl) (fun _ _ _ h => h) (Or.inl ⟨by kernel_rfl, ?_⟩) (by assumption) ?_
      rotate_left
      · (intro w hSw; (try dsimp only at hSw); go_simp; try (with_reducible rfl))
      try simp only [Act.put, List.setIfInBounds_toArray, List.set_cons_zero, List.set_cons_succ]
      refine take_h 4 ?_ rfl (by kernel_rfl) (by kernel_rfl) (by kernel_rfl) (fun _ _ _ h => h) (Or.inl ⟨by kernel_rfl, ?_⟩) (by assumption) ?_
      rotate_left
      · (intro w hSw; (try dsimp only at hSw); go_simp; try (with_reducible rfl))
      try simp only [Act.put, List.setIfInBounds_toArray, List.set_cons_zero, List.set_cons_succ]
      refine oper_h 5 (.slice (some ⟨V.heap.size, 0, none⟩) 1 1) (V.alloc (.cells #[.int .i64 n] 3)) rfl (by kernel_rfl) (by kernel_rfl) (by go_simp) ⟨by have := below_alloc V (.cells #[.int .i64 n] 3); exact cell_below' this hHeld.1, by have := below_alloc V (.cells #[.int .i64 n] 3); exact cell_below' this hHeld.2⟩ (fun hHeld2 => ?_)
      try simp only [Act.put, List.setIfInBounds_toArray, List.set_cons_zero, List.set_cons_succ]
      obtain ⟨Y, hY⟩ : ∃ Y, Y = V.alloc (.cells #[.int .i64 n] 3) := ⟨_, rfl⟩
      have hbY : Below V.heap.size V Y := by rw [hY]; exact below_alloc _ _
      have HY : Seal (Below w.heap.size w Y ∧ Y.heap[gx + 1]? = some (.cells #[.slice none 0 0, .slice none 0 0] 25 (0, 0)) ∧ gx + 1 < Y.heap.size ∧ IsIs Y (some ⟨V.heap.size, 0, none⟩) 1 1 [n]) := ⟨HV.out.1.trans (hbY.mono HV.out.1.size), (hbY.block _ HV.out.2.2).trans HV.out.2.1, Nat.lt_of_lt_of_le HV.out.2.2 hbY.size, by
        rw [hY]
        exact ⟨rfl, Nat.le_refl _, by decide, by decide, (by intro x _; rfl), .inr ⟨_, 0, rfl, rangeAt_row (cs := [Value.int .i64 n]) (heap_alloc_new V _), by simp⟩⟩⟩
      rw [← hY] at hHeld2 ⊢
      clear hY hbY hHeld
      refine call_h 6 rfl (by kernel_rfl) 53 #[.slice ga gn gc, .slice (some ⟨V.heap.size, 0, none⟩) 1 1, .func (.func 42) #[] #[]] (by kernel_rfl) (by go_simp) ?_
      refine (imerged_any ga _ gn gc 1 1 D.G [n] Y (HGs.out Y HY.out.1) HY.out.2.2.2).mono ?_
      rintro e Y1 ⟨qa, qb, qc, tc, rd, rfl, hM⟩
      have hb1 := hM.out.bel
      have HY1 : Seal (Below w.heap.size w Y1 ∧ Y1.heap[gx + 1]? = some (.cells #[.slice none 0 0, .slice none 0 0] 25 (0, 0)) ∧ gx + 1 < Y1.heap.size) := ⟨HY.out.1.trans (hb1.mono HY.out.1.size), (hb1.block _ HY.out.2.2.1).trans HY.out.2.1, Nat.lt_of_lt_of_le HY.out.2.2.1 hb1.size⟩
      refine ⟨_, rfl, ⟨cell_below' hb1 hHeld2.1, cell_below' hb1 hHeld2.2⟩, fun hHeld3 => ?_⟩
      try simp only [Act.put, List.setIfInBounds_toArray, List.set_cons_zero, List.set_cons_succ]
      have HYz := Seal.mk hHeld2
      clear hb1 hHeld2
      refine call_h 7 rfl (by kernel_rfl) 52 #[.func (.func 80) #[] #[.pointer (some ⟨qa, 0, none⟩), .pointer (some ⟨qb, 0, none⟩), .pointer (some ⟨qc, 0, none⟩)]] (by kernel_rfl) (by go_simp) ?_
      refine (icoll_any D.G [n] qa qb qc tc rd Y Y1 hM.out (by have := HN.out; simp; omega)).mono ?_
      rintro e Y2 ⟨v, rfl, hf⟩
      have hb2 := hf.out.2
      obtain ⟨a2, c2, hv, hI⟩ := isC_own (C := intC) hf.out.1 (by intro x _; rfl) rfl (by have := mrgK_len (key := idI) D.G [n]; have := HN.out; simp at *; omega)
      have HI2 : Seal (∀ R, ∃ a' c', v = .slice a' (mrgK idI D.G [n]).length c' ∧ IsIs (Y2.setRow (gx + 1) R) a' (mrgK idI D.G [n]).length c' (mrgK idI D.G [n])) := ⟨fun R => isC_own (C := intC) (w := Y2.setRow (gx + 1) R) (base := Y.heap.size) (e := 3) ⟨hf.out.1.1, by
        rcases hf.out.1.2 with e | ⟨g, cap, cur, e, hb, hg, hr⟩
        · exact .inl e
        · exact .inr ⟨g, cap, cur, e, hb, (heap_setRow_ne (by have := HY.out.2.2.1; omega)).trans hg, hr⟩⟩ (by intro x _; rfl) rfl (by have := mrgK_len (key := idI) D.G [n]; have := HN.out; simp at *; omega)⟩
      rw [← putI_mrg HRi.out.2 n] at hv hI HI2
      obtain ⟨m2, hm2⟩ : ∃ m, m = (putI D.G n).length := ⟨_, rfl⟩
      rw [← hm2] at hv hI HI2
      subst hv
      have HF : Seal (Below w.heap.size w Y2 ∧ Y2.heap[gx + 1]? = some (.cells #[.slice none 0 0, .slice none 0 0] 25 (0, 0)) ∧ IsIs Y2 a2 m2 c2 (putI D.G n)) := ⟨HY.out.1.trans (hb2.mono HY.out.1.size), (hb2.block _ HY.out.2.2.1).trans HY.out.2.1, hI⟩
      refine ⟨_, rfl, ⟨cell_below' hb2 HYz.out.1, cell_below' hb2 HYz.out.2⟩, fun hHeld4 => ?_⟩
      try simp only [Act.put, List.setIfInBounds_toArray, List.set_cons_zero, List.set_cons_succ]
      clear hb2 hf hI hm2 hHeld3
      refine take_h 8 ?_ rfl (by kernel_rfl) (by kernel_rfl) (by kernel_rfl) (fun _ _ _ h => h) (Or.inl ⟨by kernel_rfl, ?_⟩) (by assumption) ?_
      rotate_left
      · (intro w hSw; (try dsimp only at hSw); go_simp; try (with_reducible rfl))
      try simp only [Act.put, List.setIfInBounds_toArray, List.set_cons_zero, List.set_cons_succ]
      refine skip_h 9 (Y2.setRow (gx + 1) #[.slice pa pn pc, .slice a2 m2 c2]) rfl (by kernel_rfl) (by kernel_rfl) (exec_store_row 25 (.tmp 4) (.tmp 32) rfl (gx + 1) #[.slice pa pn pc, .slice a2 m2 c2] rfl rfl 25 #[.slice none 0 0, .slice none 0 0] HF.out.2.1 dev_info rfl (by simp [Value.oneCell'])) ⟨(cell_setRow_other _ _ _ ⟨gx, 0, none⟩ (by show gx ≠ gx + 1; omega)).trans hHeld4.1, (cell_setRow_other _ _ _ ⟨gx, 1, none⟩ (by show gx ≠ gx + 1; omega)).trans hHeld4.2⟩ (fun hHeld5 => ?_)
      try simp only [Act.put]
      have hrr := setRow_heap (w := Y2) _ _ #[Value.slice pa pn pc, .slice a2 m2 c2] _ _ HF.out.2.1
      clear hHeld4
      refine take_h 10 ?_ rfl (by kernel_rfl) (by kernel_rfl) (by kernel_rfl) (fun _ _ _ h => h) (Or.inl ⟨by kernel_rfl, ?_⟩) (by assumption) ?_
      rotate_left
      · (intro w hSw; (try dsimp only at hSw); go_simp; try (with_reducible rfl))
      try simp only [Act.put, List.setIfInBounds_toArray, List.set_cons_zero, List.set_cons_succ]
      refine wpAnyH_done (by kernel_rfl) ?_ _
      clear hHeld5
      go_wp2
      refine bodyPost_ret (results_row_tmp (fn := Tryd.f20) rfl _ _ (gx + 1) 25 #[.slice pa pn pc, .slice a2 m2 c2] (0, 0) _ _ rfl rfl hrr Tryd.underlying25 rfl dev_info) rfl ?_
      rw [HE.out.1, HE.out.2]
      refine ⟨_, _, rfl, ⟨⟨pa, pn, pc, a2, m2, c2, rfl, rfl, ?_, H32.out, ?_⟩⟩, below_row HF.out.1 (by have := HGX.out; omega) _⟩
      · exact HP.out _ (below_row HF.out.1 (by have := HGX.out; omega) _)
      · obtain ⟨a', c', e, h⟩ := HI2.out #[.slice pa pn pc, .slice a2 m2 c2]
        cases e
        exact h
  · have HE : Seal (gotE D n = er ∧ gotD D n = Dv.z) := ⟨by
      have e : gotE D n = er := by unfold gotE; rw [← HER.out, if_pos h0]
      exact ⟨e, by unfold gotD; rw [e, if_neg h0]⟩⟩
    have q0 : ¬ er = 0 := h0
    clear HER h0
    go_wp2_with (first
      | (refine wpList_load_row rfl 25 (.tmp 4) rfl (gx + 1) rfl 25 #[.slice none 0 0, .slice none 0 0] (0, 0) _ hres Tryd.underlying25 rfl dev_info ?_; (try simp only [Act.put, List.setIfInBounds_toArray, List.set_cons_zero, List.set_cons_succ]))
      | (refine wpList_store_row rfl 25 (.tmp 4) (.tmp 12) rfl (gx + 1) #[.slice none 0 0, .slice none 0 0] rfl rfl 25 #[.slice none 0 0, .slice none 0 0] hres dev_info rfl (by simp [Value.oneCell']) ?_; (try simp only [Act.put])))
    refine bodyPost_ret (results_row_tmp (fn := Tryd.f20) rfl _ _ (gx + 1) 25 #[.slice none 0 0, .slice none 0 0] (0, 0) _ _ rfl rfl (setRow_heap _ _ _ _ _ _ hres) Tryd.underlying25 rfl dev_info) rfl ?_
    rw [HE.out.1, HE.out.2]
    exact ⟨_, _, rfl, ⟨devAt_z _⟩, below_row HB1.out (by have := HGX.out; omega) _⟩
end Frk
