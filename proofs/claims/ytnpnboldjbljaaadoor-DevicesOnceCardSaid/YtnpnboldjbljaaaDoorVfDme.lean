/- Law 44: Merge. -/
import Derived.Test.YtnpnboldjbljaaaDoorVfDgo
import Derived.Test.YtnpnboldjbljaaaDoorVfDeq
import Derived.Deep.Onto
namespace Frk
open Go Go.RowKit Go.Proofs
set_option maxRecDepth 100000

theorem heap_alloc3 (w : World) (x y z : Obj) : (((w.alloc x).alloc y).alloc z).heap[w.heap.size]? = some x ∧ (((w.alloc x).alloc y).alloc z).heap[w.heap.size + 1]? = some y ∧ (((w.alloc x).alloc y).alloc z).heap[w.heap.size + 1 + 1]? = some z := by
  refine ⟨?_, ?_, ?_⟩
  · rw [Below.heap_alloc _ _ _ (by simp; omega), Below.heap_alloc _ _ _ (by simp)]
    exact World.alloc_heap_new w x
  · rw [Below.heap_alloc _ _ _ (by simp)]
    have := World.alloc_heap_new (w.alloc x) y
    rwa [size_alloc] at this
  · have := World.alloc_heap_new ((w.alloc x).alloc y) z
    rwa [size_alloc, size_alloc] at this
theorem bel_drew (w : World) : Below w.heap.size w w.drew := ⟨rfl, rfl, rfl, Nat.le_refl _, fun _ _ => rfl⟩
theorem own_slice {w : World} {base : Nat} {e : TypeId} {size n : Nat} {v : Value} {xs : List Value} (h : w.ownsRow base e size v n xs) : ∃ a c, v = .slice a n c := by
  rcases h.2 with ⟨rfl, rfl⟩ | ⟨g, cap, cur, rfl, _⟩
  · exact ⟨_, _, rfl⟩
  · exact ⟨_, _, rfl⟩
theorem own_setRow {w : World} {base : Nat} {e : TypeId} {size n : Nat} {v : Value} {xs : List Value} (h : w.ownsRow base e size v n xs) {g : Nat} (hg : g < base) (R : Array Value) : (w.setRow g R).ownsRow base e size v n xs := ⟨h.1, by
  rcases h.2 with e | ⟨k, cap, cur, e, hb, hk, hr⟩
  · exact .inl e
  · exact .inr ⟨k, cap, cur, e, hb, (heap_setRow_ne (by omega)).trans hk, hr⟩⟩
theorem got_le {D : Dv} (h : rightD D = true) : D.G.length ≤ D.P.length := by have := owed_len h; omega

set_option maxHeartbeats 8000000 in
theorem dmerge_any (pa ga : Option Addr) (pn pc gn gc : Nat) (D : Dv) (qa ha : Option Addr) (qn qc hn hc : Nat) (E : Dv) (w : World) (hP : IsPs w pa pn pc D.P) (h32 : ∀ x ∈ D.P, x.S.length = 32) (hG : IsIs w ga gn gc D.G)
    (hQ : IsPs w qa qn qc E.P) (k32 : ∀ x ∈ E.P, x.S.length = 32) (hH : IsIs w ha hn hc E.G) :
    Calls Tryd.prog 18 #[.agg #[.slice pa pn pc, .slice ga gn gc], .agg #[.slice qa qn qc, .slice ha hn hc]] w (DevPost (mergeD D E) (mergeE D E) w) := by
  obtain ⟨X, hX⟩ : ∃ X : World, X = ((w.alloc (.cells #[.slice pa pn pc, .slice ga gn gc] 25)).alloc (.cells #[.slice qa qn qc, .slice ha hn hc] 25)).alloc (.cells #[.slice none 0 0, .slice none 0 0] 25) := ⟨_, rfl⟩
  have HB : Seal (Below w.heap.size w X) := ⟨by rw [hX]; exact (((Below.refl _ w).alloc (Nat.le_refl _) _).alloc (by simp) _).alloc (by simp; omega) _⟩
  obtain ⟨hrow, hrow2, hres⟩ : X.heap[w.heap.size]? = some (.cells #[.slice pa pn pc, .slice ga gn gc] 25 (0, 0)) ∧ X.heap[w.heap.size + 1]? = some (.cells #[.slice qa qn qc, .slice ha hn hc] 25 (0, 0)) ∧ X.heap[w.heap.size + 1 + 1]? = some (.cells #[.slice none 0 0, .slice none 0 0] 25 (0, 0)) := by rw [hX]; exact heap_alloc3 w _ _ _
  have c0 : X.cell? ⟨w.heap.size, 0, none⟩ = some (.slice pa pn pc) := by rw [cell_of_row _ _ _ _ _ _ hrow]; rfl
  have c1 : X.cell? ⟨w.heap.size, 1, none⟩ = some (.slice ga gn gc) := by rw [cell_of_row _ _ _ _ _ _ hrow]; rfl
  have d0 : X.cell? ⟨w.heap.size + 1, 0, none⟩ = some (.slice qa qn qc) := by rw [cell_of_row _ _ _ _ _ _ hrow2]; rfl
  have d1 : X.cell? ⟨w.heap.size + 1, 1, none⟩ = some (.slice ha hn hc) := by rw [cell_of_row _ _ _ _ _ _ hrow2]; rfl
  have HP : Seal (∀ W, Below w.heap.size w W → IsPs W pa pn pc D.P ∧ IsIs W ga gn gc D.G ∧ IsPs W qa qn qc E.P ∧ IsIs W ha hn hc E.G) := ⟨fun W h => ⟨hP.below h, hG.below h, hQ.below h, hH.below h⟩⟩
  have H32 := Seal.mk (And.intro h32 k32)
  have HCk : Seal (∀ W, Below w.heap.size w W → Calls Tryd.prog 13 #[.agg #[.slice pa pn pc, .slice ga gn gc]] W fun e w' => e = .returned (.int .i64 (chkD D)) ∧ Below W.heap.size W w') := ⟨fun W h => dcheck_any pa ga pn pc gn gc D W (hP.below h) h32 (hG.below h)⟩
  have HCl : Seal (∀ W, Below w.heap.size w W → Calls Tryd.prog 13 #[.agg #[.slice qa qn qc, .slice ha hn hc]] W fun e w' => e = .returned (.int .i64 (chkD E)) ∧ Below W.heap.size W w') := ⟨fun W h => dcheck_any qa ha qn qc hn hc E W (hQ.below h) k32 (hH.below h)⟩
  have HN : Seal (D.P.length = pn ∧ D.G.length = gn ∧ E.P.length = qn ∧ E.G.length = hn) := ⟨hP.llen, hG.llen, hQ.llen, hH.llen⟩
  have hqx := hQ.lmax
  obtain ⟨er, her⟩ : ∃ e, e = chkD D := ⟨_, rfl⟩
  obtain ⟨fr, hfr⟩ : ∃ e, e = chkD E := ⟨_, rfl⟩
  rw [← her] at HCk
  rw [← hfr] at HCl
  have HER := Seal.mk (And.intro her hfr)
  have hgs : w.heap.size + 1 + 1 < X.heap.size := (Array.getElem?_eq_some_iff.1 hres).1
  obtain ⟨gx, hgx⟩ : ∃ g, g = w.heap.size := ⟨_, rfl⟩
  have HGX := Seal.mk hgx
  have ut := Tryd.underlying31
  rw [← hgx] at c0 c1 d0 d1 hres hgs
  clear hP h32 hG hQ k32 hH hrow hrow2 her hfr
  go_enter Tryd.func18, Tryd.ntmps18
  go_upto_region 1 with (fail)
  rw [← hX]
  rw [← hgx]
  clear hX hgx
  go_wp2_with fail
  refine (HCk.out X HB.out).mono ?_
  rintro e w1 ⟨rfl, hb⟩
  have HB1 := Seal.mk (HB.out.trans (hb.mono HB.out.size))
  have c0 := cell_below' hb c0
  have c1 := cell_below' hb c1
  have d0 := cell_below' hb d0
  have d1 := cell_below' hb d1
  have hres := (hb.block _ hgs).trans hres
  have hgs := Nat.lt_of_lt_of_le hgs hb.size
  clear hb HB HCk
  by_cases h0 : er = 0
  rotate_left
  · have HE : Seal (mergeE D E = er ∧ mergeD D E = Dv.z) := ⟨by
      have e : mergeE D E = er := by unfold mergeE; rw [← HER.out.1, if_pos h0]
      exact ⟨e, by unfold mergeD; rw [e, if_neg h0]⟩⟩
    have q0 : ¬ er = 0 := h0
    clear HER h0
    go_wp2_with (first
      | (refine wpList_load_row rfl 25 (.tmp 4) rfl (gx + 1 + 1) rfl 25 #[.slice none 0 0, .slice none 0 0] (0, 0) _ hres Tryd.underlying25 rfl dev_info ?_; (try simp only [Act.put, List.setIfInBounds_toArray, List.set_cons_zero, List.set_cons_succ]))
      | (refine wpList_store_row rfl 25 (.tmp 4) (.tmp 15) rfl (gx + 1 + 1) #[.slice none 0 0, .slice none 0 0] rfl rfl 25 #[.slice none 0 0, .slice none 0 0] hres dev_info rfl (by simp [Value.oneCell']) ?_; (try simp only [Act.put])))
    refine bodyPost_ret (results_row_tmp (fn := Tryd.f18) rfl _ _ (gx + 1 + 1) 25 #[.slice none 0 0, .slice none 0 0] (0, 0) _ _ rfl rfl (setRow_heap _ _ _ _ _ _ hres) Tryd.underlying25 rfl dev_info) rfl ?_
    rw [HE.out.1, HE.out.2]
    exact ⟨_, _, rfl, ⟨devAt_z _⟩, below_row HB1.out (by have := HGX.out; omega) _⟩
  subst h0
  go_wp2_with fail
  refine (HCl.out w1 HB1.out).mono ?_
  rintro e w2 ⟨rfl, hb⟩
  have HB2 := Seal.mk (HB1.out.trans (hb.mono HB1.out.size))
  have c0 := cell_below' hb c0
  have c1 := cell_below' hb c1
  have d0 := cell_below' hb d0
  have d1 := cell_below' hb d1
  have hres := (hb.block _ hgs).trans hres
  have hgs := Nat.lt_of_lt_of_le hgs hb.size
  clear hb HB1 HCl
  by_cases h0 : fr = 0
  rotate_left
  · have HE : Seal (mergeE D E = fr ∧ mergeD D E = Dv.z) := ⟨by
      have e : mergeE D E = fr := by unfold mergeE; rw [← HER.out.1, if_neg (by simp), ← HER.out.2, if_pos h0]
      exact ⟨e, by unfold mergeD; rw [e, if_neg h0]⟩⟩
    have q0 : ¬ fr = 0 := h0
    clear HER h0
    go_wp2_with (first
      | (refine wpList_load_row rfl 25 (.tmp 4) rfl (gx + 1 + 1) rfl 25 #[.slice none 0 0, .slice none 0 0] (0, 0) _ hres Tryd.underlying25 rfl dev_info ?_; (try simp only [Act.put, List.setIfInBounds_toArray, List.set_cons_zero, List.set_cons_succ]))
      | (refine wpList_store_row rfl 25 (.tmp 4) (.tmp 21) rfl (gx + 1 + 1) #[.slice none 0 0, .slice none 0 0] rfl rfl 25 #[.slice none 0 0, .slice none 0 0] hres dev_info rfl (by simp [Value.oneCell']) ?_; (try simp only [Act.put])))
    refine bodyPost_ret (results_row_tmp (fn := Tryd.f18) rfl _ _ (gx + 1 + 1) 25 #[.slice none 0 0, .slice none 0 0] (0, 0) _ _ rfl rfl (setRow_heap _ _ _ _ _ _ hres) Tryd.underlying25 rfl dev_info) rfl ?_
    rw [HE.out.1, HE.out.2]
    exact ⟨_, _, rfl, ⟨devAt_z _⟩, below_row HB2.out (by have := HGX.out; omega) _⟩
  subst h0
  have HCz : Seal (chkD D = 0 ∧ chkD E = 0) := ⟨HER.out.1.symm, HER.out.2.symm⟩
  have HRi : Seal (RisK Po.o D.P) := ⟨(rightD_iff.1 (chkD_zero.1 HCz.out.1).2).2.1⟩
  clear HER
  go_wp2
  go_loopw [26] (fun i wr => ∃ k : Nat, k ≤ qn ∧ i = .int .i64 k ∧ Seal (Below w2.heap.size w2 wr ∧ ∀ (j : Nat) (y : Po), j < k → E.P[j]? = some y → ∀ x ∈ D.P, x.o = y.o → x = y)) (fun i _ => qn - (intOf i).toNat)
  case atStart => exact ⟨0, by omega, rfl, ⟨Below.refl _ _, fun j x hj => by omega⟩⟩
  case round =>
    obtain ⟨wo, rfl⟩ : ∃ z, z = wr := ⟨_, rfl⟩
    obtain ⟨k, hk, rfl, hH⟩ := hrel
    have HBw : Seal (Below w.heap.size w wo) := ⟨HB2.out.trans (hH.out.1.mono HB2.out.size)⟩
    by_cases hlt : k < qn
    · obtain ⟨_, _, hPs, _⟩ := HP.out wo HBw.out
      rcases hPs.at_ with hz | ⟨g, off, rfl, hr, hg⟩
      · omega
      · obtain ⟨y, hy⟩ : ∃ y, E.P[k]? = some y := ⟨_, List.getElem?_eq_getElem (by have := HN.out; omega)⟩
        have rC := rangeC_row hr hPs.each hy
        have y32 := H32.out.2 y (List.mem_of_getElem? hy)
        obtain ⟨C, hC⟩ : ∃ C, C = y.C := ⟨_, rfl⟩
        have iC : (Tryd.prog.info? 31).map (·.size) = some C.length := by rw [hC]; exact Po.C_info y32
        have HC : Seal (C.length = 33 ∧ (∀ v ∈ C, v.oneCell' = true) ∧ C[0]? = some (.int .i64 y.o) ∧ C = y.C ∧ y.S.length = 32 ∧ E.P[k]? = some y) := ⟨by rw [hC]; exact ⟨Po.C_len y32, Po.C_one y, rfl, rfl, y32, hy⟩⟩
        rw [← hC] at rC
        have q5 : (k : Int) < (qn : Int) := by omega
        have q6 : (0 : Int) ≤ (k : Int) := by omega
        have c0w := cell_below' hH.out.1 c0
        have hresw := (hH.out.1.block _ hgs).trans hres
        have hgw := Nat.lt_of_lt_of_le hgs hH.out.1.size
        have hn5 := heap_alloc_new wo (.cells #[.int .i64 0, .int .u8 0, .int .u8 0, .int .u8 0, .int .u8 0, .int .u8 0, .int .u8 0, .int .u8 0, .int .u8 0, .int .u8 0, .int .u8 0, .int .u8 0, .int .u8 0, .int .u8 0, .int .u8 0, .int .u8 0, .int .u8 0, .int .u8 0, .int .u8 0, .int .u8 0, .int .u8 0, .int .u8 0, .int .u8 0, .int .u8 0, .int .u8 0, .int .u8 0, .int .u8 0, .int .u8 0, .int .u8 0, .int .u8 0, .int .u8 0, .int .u8 0, .int .u8 0] 31)
        obtain ⟨o, ho⟩ : ∃ o, o = y.o := ⟨_, rfl⟩
        have HO := Seal.mk ho
        rw [← ho] at HC
        have SZ : Seal ((#[.int .i64 0, .int .u8 0, .int .u8 0, .int .u8 0, .int .u8 0, .int .u8 0, .int .u8 0, .int .u8 0, .int .u8 0, .int .u8 0, .int .u8 0, .int .u8 0, .int .u8 0, .int .u8 0, .int .u8 0, .int .u8 0, .int .u8 0, .int .u8 0, .int .u8 0, .int .u8 0, .int .u8 0, .int .u8 0, .int .u8 0, .int .u8 0, .int .u8 0, .int .u8 0, .int .u8 0, .int .u8 0, .int .u8 0, .int .u8 0, .int .u8 0, .int .u8 0, .int .u8 0] : Array Value).size = C.toArray.size ∧ C.toArray.all (·.oneCell') = true) := ⟨by simp [HC.out.1], all_oneCell_toArray HC.out.2.1⟩
        clear hPs hr hg hy y32 hC ho
        go_wp2_with (first
          | (refine wpList_load_mid rfl 31 (.tmp 28) rfl g (off + k * 33) rfl C _ rC ut rfl iC ?_; (try simp only [Act.put, List.setIfInBounds_toArray, List.set_cons_zero, List.set_cons_succ]))
          | (refine wpList_store_row rfl 31 (.tmp 7) (.tmp 29) rfl wo.heap.size C.toArray rfl rfl 31 #[.int .i64 0, .int .u8 0, .int .u8 0, .int .u8 0, .int .u8 0, .int .u8 0, .int .u8 0, .int .u8 0, .int .u8 0, .int .u8 0, .int .u8 0, .int .u8 0, .int .u8 0, .int .u8 0, .int .u8 0, .int .u8 0, .int .u8 0, .int .u8 0, .int .u8 0, .int .u8 0, .int .u8 0, .int .u8 0, .int .u8 0, .int .u8 0, .int .u8 0, .int .u8 0, .int .u8 0, .int .u8 0, .int .u8 0, .int .u8 0, .int .u8 0, .int .u8 0, .int .u8 0] hn5 (by simpa using iC) SZ.out.1 SZ.out.2 ?_; obtain ⟨Z, hZ⟩ : ∃ Z, Z = (wo.alloc (.cells #[.int .i64 0, .int .u8 0, .int .u8 0, .int .u8 0, .int .u8 0, .int .u8 0, .int .u8 0, .int .u8 0, .int .u8 0, .int .u8 0, .int .u8 0, .int .u8 0, .int .u8 0, .int .u8 0, .int .u8 0, .int .u8 0, .int .u8 0, .int .u8 0, .int .u8 0, .int .u8 0, .int .u8 0, .int .u8 0, .int .u8 0, .int .u8 0, .int .u8 0, .int .u8 0, .int .u8 0, .int .u8 0, .int .u8 0, .int .u8 0, .int .u8 0, .int .u8 0, .int .u8 0] 31)).setRow wo.heap.size C.toArray := ⟨_, rfl⟩; have hZ2 : Z = wo.alloc (.cells C.toArray 31) := (by rw [hZ]; exact setRow_new wo [Value.int .i64 0, .int .u8 0, .int .u8 0, .int .u8 0, .int .u8 0, .int .u8 0, .int .u8 0, .int .u8 0, .int .u8 0, .int .u8 0, .int .u8 0, .int .u8 0, .int .u8 0, .int .u8 0, .int .u8 0, .int .u8 0, .int .u8 0, .int .u8 0, .int .u8 0, .int .u8 0, .int .u8 0, .int .u8 0, .int .u8 0, .int .u8 0, .int .u8 0, .int .u8 0, .int .u8 0, .int .u8 0, .int .u8 0, .int .u8 0, .int .u8 0, .int .u8 0, .int .u8 0] C _); have bZ : Below wo.heap.size wo Z := (by rw [hZ2]; exact below_alloc _ _); have rZ : Z.heap[wo.heap.size]? = some (.cells C.toArray 31 (0, 0)) := (by rw [hZ2]; exact heap_alloc_new wo _); have k0 : Z.cell? ⟨wo.heap.size, 0, none⟩ = some (.int .i64 o) := (by rw [cell_of_row _ _ _ _ _ _ rZ]; simpa using HC.out.2.2.1); have c0z := cell_below' bZ c0w; have HZ : Seal (Below w.heap.size w Z ∧ Below w2.heap.size w2 Z ∧ Z.heap[gx + 1 + 1]? = some (.cells #[.slice none 0 0, .slice none 0 0] 25 (0, 0)) ∧ gx + 1 + 1 < Z.heap.size ∧ Z.heap[wo.heap.size]? = some (.cells C.toArray 31 (0, 0))) := ⟨⟨HBw.out.trans (bZ.mono HBw.out.size), hH.out.1.trans (bZ.mono hH.out.1.size), (bZ.block _ hgw).trans hresw, Nat.lt_of_lt_of_le hgw bZ.size, rZ⟩⟩; rw [← hZ]; clear hZ hZ2 bZ c0w hn5 hgw rC rZ hresw; (try simp only [Act.put])))
        refine (dfind_any pa pn pc D.P o Z (HP.out Z HZ.out.1).1 H32.out.1 HRi.out).mono ?_
        rintro e w3 ⟨rfl, hb⟩
        have hzl : wo.heap.size < Z.heap.size := (Array.getElem?_eq_some_iff.1 HZ.out.2.2.2.2).1
        have H3 : Seal (Below w.heap.size w w3 ∧ Below w2.heap.size w2 w3 ∧ w3.heap[gx + 1 + 1]? = some (.cells #[.slice none 0 0, .slice none 0 0] 25 (0, 0)) ∧ gx + 1 + 1 < w3.heap.size) := ⟨HZ.out.1.trans (hb.mono HZ.out.1.size), HZ.out.2.1.trans (hb.mono HZ.out.2.1.size), (hb.block _ HZ.out.2.2.2.1).trans HZ.out.2.2.1, Nat.lt_of_lt_of_le HZ.out.2.2.2.1 hb.size⟩
        have rY := rangeAt_row ((hb.block _ hzl).trans HZ.out.2.2.2.2)
        have c0v := cell_below' hb c0z
        obtain ⟨ai, hai⟩ : ∃ i, i = atK Po.o D.P o := ⟨_, rfl⟩
        obtain ⟨b, hbb⟩ : ∃ b, b = hasK Po.o D.P o := ⟨_, rfl⟩
        rw [← hai, ← hbb]
        have HH := Seal.mk (And.intro hai hbb)
        clear hai hbb hb k0 c0z HZ hzl
        cases b with
        | false =>
          go_wp2_with fail
          refine wp_region_held_drew (S := fun w' => w'.rangeAt wo.heap.size 0 C) (by kernel_rfl) rY (fun hHeld => ?_)
          obtain ⟨V, hV⟩ : ∃ V, V = w3.drew := ⟨_, rfl⟩
          have HV : Seal (Below w2.heap.size w2 V) := ⟨by rw [hV]; exact H3.out.2.1.trans ((bel_drew w3).mono H3.out.2.1.size)⟩
          rw [← hV] at hHeld ⊢
          clear hV rY c0v H3
          refine take_h 0 ?_ rfl (by kernel_rfl) (by kernel_rfl) (by kernel_rfl) (fun _ _ _ h => h) (Or.inl ⟨by kernel_rfl, ?_⟩) (by assumption) ?_
          rotate_left
          · (intro w hSw; (try dsimp only at hSw); go_simp; try (with_reducible rfl))
          try simp only [Act.put, List.setIfInBounds_toArray, List.set_cons_zero, List.set_cons_succ]
          refine take_h 1 ?_ rfl (by kernel_rfl) (by kernel_rfl) (by kernel_rfl) (fun _ _ _ h => h) (Or.inl ⟨by kernel_rfl, ?_⟩) (by assumption) ?_
          rotate_left
          · (intro w hSw; (try dsimp only at hSw); go_simp; try (with_reducible rfl))
          try simp only [Act.put, List.setIfInBounds_toArray, List.set_cons_zero, List.set_cons_succ]
          refine take_h 2 undef rfl (by kernel_rfl) (by kernel_rfl) (by kernel_rfl) (fun _ _ _ h => h) (Or.inr ⟨by kernel_rfl, rfl⟩) (by assumption) ?_
          try simp only [Act.put, List.setIfInBounds_toArray, List.set_cons_zero, List.set_cons_succ]
          refine take_h 3 undef rfl (by kernel_rfl) (by kernel_rfl) (by kernel_rfl) (fun _ _ _ h => h) (Or.inr ⟨by kernel_rfl, rfl⟩) (by assumption) ?_
          try simp only [Act.put, List.setIfInBounds_toArray, List.set_cons_zero, List.set_cons_succ]
          refine take_h 4 undef rfl (by kernel_rfl) (by kernel_rfl) (by kernel_rfl) (fun _ _ _ h => h) (Or.inr ⟨by kernel_rfl, rfl⟩) (by assumption) ?_
          try simp only [Act.put, List.setIfInBounds_toArray, List.set_cons_zero, List.set_cons_succ]
          refine take_h 5 undef rfl (by kernel_rfl) (by kernel_rfl) (by kernel_rfl) (fun _ _ _ h => h) (Or.inr ⟨by kernel_rfl, rfl⟩) (by assumption) ?_
          try simp only [Act.put, List.setIfInBounds_toArray, List.set_cons_zero, List.set_cons_succ]
          refine take_h 6 undef rfl (by kernel_rfl) (by kernel_rfl) (by kernel_rfl) (fun _ _ _ h => h) (Or.inr ⟨by kernel_rfl, rfl⟩) (by assumption) ?_
          try simp only [Act.put, List.setIfInBounds_toArray, List.set_cons_zero, List.set_cons_succ]
          refine take_h 7 undef rfl (by kernel_rfl) (by kernel_rfl) (by kernel_rfl) (fun _ _ _ h => h) (Or.inr ⟨by kernel_rfl, rfl⟩) (by assumption) ?_
          try simp only [Act.put, List.setIfInBounds_toArray, List.set_cons_zero, List.set_cons_succ]
          refine take_h 8 undef rfl (by kernel_rfl) (by kernel_rfl) (by kernel_rfl) (fun _ _ _ h => h) (Or.inr ⟨by kernel_rfl, rfl⟩) (by assumption) ?_
          try simp only [Act.put, List.setIfInBounds_toArray, List.set_cons_zero, List.set_cons_succ]
          refine take_h 9 ?_ rfl (by kernel_rfl) (by kernel_rfl) (by kernel_rfl) (fun _ _ _ h => h) (Or.inl ⟨by kernel_rfl, ?_⟩) (by assumption) ?_
          rotate_left
          · (intro w hSw; (try dsimp only at hSw); go_simp; try (with_reducible rfl))
          try simp only [Act.put, List.setIfInBounds_toArray, List.set_cons_zero, List.set_cons_succ]
          refine wpAnyH_done (by kernel_rfl) ?_ _
          clear hHeld
          go_wp2
          go_roundw
          case rel =>
            refine ⟨k + 1, by omega, by go_num, ⟨HV.out, fun j z hj hz => ?_⟩⟩
            by_cases hjk : j < k
            · exact hH.out.2 j z hjk hz
            · obtain rfl : j = k := by omega
              rw [HC.out.2.2.2.2.2] at hz
              cases hz
              intro x hx e
              have := hasK_not.1 HH.out.2.symm x hx
              rw [HO.out] at this
              exact absurd e this
          case measure => simp [intOf]; omega
        | true =>
          obtain ⟨x, hxa, hxo⟩ := (hasK_at HRi.out).1 HH.out.2.symm
          rw [← HH.out.1] at hxa
          have hPw := (HP.out w3 H3.out.1).1
          have hai : ai < pn := by have := (List.getElem?_eq_some_iff.1 hxa).1; have := HN.out; omega
          rcases hPw.at_ with hz | ⟨g2, off2, rfl, hr2, hg2⟩
          · omega
          have rX := rangeC_row hr2 hPw.each hxa
          have x32 := H32.out.1 x (List.mem_of_getElem? hxa)
          obtain ⟨e1, he1⟩ : ∃ e1, e1 = (x.o == y.o && x.S == y.S) := ⟨_, rfl⟩
          obtain ⟨CX, hCX⟩ : ∃ C, C = x.C := ⟨_, rfl⟩
          have qe : ∀ w, (Op.equalIn 10000 31 (.agg CX.toArray) (.agg C.toArray)).run Tryd.prog w = .ok e1 w := fun w => by rw [hCX, HC.out.2.2.2.1, he1]; exact eqPo x y x32 HC.out.2.2.2.2.1 w
          have iX : (Tryd.prog.info? 31).map (·.size) = some CX.length := by rw [hCX]; exact Po.C_info x32
          rw [← hCX] at rX
          have HX : Seal (x ∈ D.P ∧ x.o = o ∧ e1 = (x.o == y.o && x.S == y.S)) := ⟨List.mem_of_getElem? hxa, hxo, he1⟩
          have q7 : (ai : Int) < (pn : Int) := by omega
          have q8 : (0 : Int) ≤ (ai : Int) := by omega
          clear hxa hxo hPw hr2 hg2 x32 he1 hCX
          go_wp2_with fail
          refine wp_region_held_drew (S := fun w' => w'.rangeAt g2 (off2 + ai * 33) CX ∧ w'.rangeAt wo.heap.size 0 C ∧ w'.cell? ⟨gx, 0, none⟩ = some (.slice (some ⟨g2, off2, none⟩) pn pc)) (by kernel_rfl) ⟨rX, rY, c0v⟩ (fun hHeld => ?_)
          obtain ⟨V, hV⟩ : ∃ V, V = w3.drew := ⟨_, rfl⟩
          have HV : Seal (Below w.heap.size w V ∧ Below w2.heap.size w2 V ∧ V.heap[gx + 1 + 1]? = some (.cells #[.slice none 0 0, .slice none 0 0] 25 (0, 0))) := ⟨by rw [hV]; exact ⟨H3.out.1.trans ((bel_drew w3).mono H3.out.1.size), H3.out.2.1.trans ((bel_drew w3).mono H3.out.2.1.size), H3.out.2.2.1⟩⟩
          rw [← hV] at hHeld ⊢
          clear hV rX rY c0v H3
          refine take_h 0 ?_ rfl (by kernel_rfl) (by kernel_rfl) (by kernel_rfl) (fun _ _ _ h => h) (Or.inl ⟨by kernel_rfl, ?_⟩) (by assumption) ?_
          rotate_left
          · (intro w hSw; (try dsimp only at hSw); go_simp; try (with_reducible rfl))
          try simp only [Act.put, List.setIfInBounds_toArray, List.set_cons_zero, List.set_cons_succ]
          refine take_h 1 ?_ rfl (by kernel_rfl) (by kernel_rfl) (by kernel_rfl) (fun _ _ _ h => h) (Or.inl ⟨by kernel_rfl, ?_⟩) (by assumption) ?_
          rotate_left
          · (intro w hSw; (try dsimp only at hSw); go_simp; try (with_reducible rfl))
          try simp only [Act.put, List.setIfInBounds_toArray, List.set_cons_zero, List.set_cons_succ]
          refine take_h 2 ?_ rfl (by kernel_rfl) (by kernel_rfl) (by kernel_rfl) (fun _ _ _ h => h) (Or.inl ⟨by kernel_rfl, ?_⟩) (by assumption) ?_
          rotate_left
          · (intro w hSw; (try dsimp only at hSw); go_simp; try (with_reducible rfl))
          try simp only [Act.put, List.setIfInBounds_toArray, List.set_cons_zero, List.set_cons_succ]
          refine take_h 3 ?_ rfl (by kernel_rfl) (by kernel_rfl) (by kernel_rfl) (fun _ _ _ h => h) (Or.inl ⟨by kernel_rfl, ?_⟩) (by assumption) ?_
          rotate_left
          · (intro w hSw; (try dsimp only at hSw); go_simp; try (with_reducible rfl))
          try simp only [Act.put, List.setIfInBounds_toArray, List.set_cons_zero, List.set_cons_succ]
          refine take_h 4 ?_ rfl (by kernel_rfl) (by kernel_rfl) (by kernel_rfl) (fun _ _ _ h => h) (Or.inl ⟨by kernel_rfl, ?_⟩) (by assumption) ?_
          rotate_left
          · (intro w hSw; (try dsimp only at hSw); go_simp; try (with_reducible rfl))
          try simp only [Act.put, List.setIfInBounds_toArray, List.set_cons_zero, List.set_cons_succ]
          refine take_h 5 ?_ rfl (by kernel_rfl) (by kernel_rfl) (by kernel_rfl) (fun _ _ _ h => h) (Or.inl ⟨by kernel_rfl, ?_⟩) (by assumption) ?_
          rotate_left
          · (intro w hSw; (try dsimp only at hSw); go_simp; try (with_reducible rfl))
          try simp only [Act.put, List.setIfInBounds_toArray, List.set_cons_zero, List.set_cons_succ]
          refine take_h 6 _ rfl (by kernel_rfl) (by kernel_rfl) (by kernel_rfl) (fun _ _ _ h => h) (yieldsIf_load_mid (by kernel_rfl) 31 (.tmp 43) rfl g2 (off2 + ai * 33) rfl CX _ (fun w hSw => hSw.1) ut rfl iX) (by assumption) ?_
          try simp only [Act.put, List.setIfInBounds_toArray, List.set_cons_zero, List.set_cons_succ]
          refine take_h 7 _ rfl (by kernel_rfl) (by kernel_rfl) (by kernel_rfl) (fun _ _ _ h => h) (yieldsIf_load_mid (by kernel_rfl) 31 (.tmp 7) rfl wo.heap.size 0 rfl C _ (fun w hSw => hSw.2.1) ut rfl iC) (by assumption) ?_
          try simp only [Act.put, List.setIfInBounds_toArray, List.set_cons_zero, List.set_cons_succ]
          refine take_h 8 ?_ rfl (by kernel_rfl) (by kernel_rfl) (by kernel_rfl) (fun _ _ _ h => h) (Or.inl ⟨by kernel_rfl, ?_⟩) (by assumption) ?_
          rotate_left
          · (intro w hSw; (try dsimp only at hSw); go_simp; try (with_reducible rfl))
          try simp only [Act.put, List.setIfInBounds_toArray, List.set_cons_zero, List.set_cons_succ]
          refine take_h 9 ?_ rfl (by kernel_rfl) (by kernel_rfl) (by kernel_rfl) (fun _ _ _ h => h) (Or.inl ⟨by kernel_rfl, ?_⟩) (by assumption) ?_
          rotate_left
          · (intro w hSw; (try dsimp only at hSw); go_simp; try (with_reducible rfl))
          try simp only [Act.put, List.setIfInBounds_toArray, List.set_cons_zero, List.set_cons_succ]
          refine wpAnyH_done (by kernel_rfl) ?_ _
          clear hHeld qe
          cases e1 with
          | true =>
            go_wp2
            go_roundw
            case rel =>
              refine ⟨k + 1, by omega, by go_num, ⟨HV.out.2.1, fun j z hj hz => ?_⟩⟩
              by_cases hjk : j < k
              · exact hH.out.2 j z hjk hz
              · obtain rfl : j = k := by omega
                rw [HC.out.2.2.2.2.2] at hz
                cases hz
                intro u hu e
                have h1 := (poB_iff x y).1 HX.out.2.2.symm
                rw [← h1] at e ⊢
                exact HRi.out.inj hu HX.out.1 e
            case measure => simp [intOf]; omega
          | false =>
            have hres := HV.out.2.2
            have HE : Seal (mergeE D E = 440 ∧ mergeD D E = Dv.z) := ⟨by
              have e : mergeE D E = 440 := by
                rw [mergeE_right HCz.out.1 HCz.out.2, if_pos]
                cases hcf : confD D.P E.P with
                | true => rfl
                | false =>
                  have h1 := (confD_iff.1 hcf) x HX.out.1 y (List.mem_of_getElem? HC.out.2.2.2.2.2) (by rw [HX.out.2.1, HO.out])
                  have h2 := (poB_iff x y).2 h1
                  rw [← HX.out.2.2] at h2
                  cases h2
              exact ⟨e, by unfold mergeD; rw [e]; rfl⟩⟩
            go_wp2_with (first
              | (refine wpList_load_row rfl 25 (.tmp 4) rfl (gx + 1 + 1) rfl 25 #[.slice none 0 0, .slice none 0 0] (0, 0) _ hres Tryd.underlying25 rfl dev_info ?_; (try simp only [Act.put, List.setIfInBounds_toArray, List.set_cons_zero, List.set_cons_succ]))
              | (refine wpList_store_row rfl 25 (.tmp 4) (.tmp 48) rfl (gx + 1 + 1) #[.slice none 0 0, .slice none 0 0] rfl rfl 25 #[.slice none 0 0, .slice none 0 0] hres dev_info rfl (by simp [Value.oneCell']) ?_; (try simp only [Act.put])))
            refine bodyPost_ret (results_row_tmp (fn := Tryd.f18) rfl _ _ (gx + 1 + 1) 25 #[.slice none 0 0, .slice none 0 0] (0, 0) _ _ rfl rfl (setRow_heap _ _ _ _ _ _ hres) Tryd.underlying25 rfl dev_info) rfl ?_
            rw [HE.out.1, HE.out.2]
            exact ⟨_, _, rfl, ⟨devAt_z _⟩, below_row (Seal.mk HV.out.1).out (by have := HGX.out; omega) _⟩
    · obtain rfl : k = qn := by omega
      have q5 : ¬ (k : Int) < (k : Int) := by omega
      have HAg : Seal (AgrK Po.o D.P E.P) := ⟨fun x hx y hy e => by
        obtain ⟨j, hj⟩ := List.mem_iff_getElem?.1 hy
        exact hH.out.2 j y (by have := (List.getElem?_eq_some_iff.1 hj).1; have := HN.out; omega) hj x hx e⟩
      have c0w := cell_below' hH.out.1 c0
      have c1w := cell_below' hH.out.1 c1
      have d0w := cell_below' hH.out.1 d0
      have d1w := cell_below' hH.out.1 d1
      have HW : Seal (Below w.heap.size w wo ∧ wo.heap[gx + 1 + 1]? = some (.cells #[.slice none 0 0, .slice none 0 0] 25 (0, 0)) ∧ gx + 1 + 1 < wo.heap.size) := ⟨HBw.out, (hH.out.1.block _ hgs).trans hres, Nat.lt_of_lt_of_le hgs hH.out.1.size⟩
      clear hH HBw c0 c1 d0 d1 hres hgs HB2
      go_wp2_with fail
      refine (pmerged_any pa qa pn pc k qc D.P E.P wo (HP.out wo HW.out.1).1 (HP.out wo HW.out.1).2.2.1).mono ?_
      rintro e Y1 ⟨ra, rb, rc, tc, rd, rfl, hM⟩
      have hb := hM.out.bel
      have HY1 : Seal (Below w.heap.size w Y1 ∧ Y1.heap[gx + 1 + 1]? = some (.cells #[.slice none 0 0, .slice none 0 0] 25 (0, 0)) ∧ gx + 1 + 1 < Y1.heap.size) := ⟨HW.out.1.trans (hb.mono HW.out.1.size), (hb.block _ HW.out.2.2).trans HW.out.2.1, Nat.lt_of_lt_of_le HW.out.2.2 hb.size⟩
      have c1y := cell_below' hb c1w
      have d1y := cell_below' hb d1w
      clear hb c0w d0w
      go_wp2_with fail
      refine (pcoll_any D.P E.P ra rb rc tc rd wo Y1 hM.out (by have := HN.out; have := (chkD_zero.1 HCz.out.1).1; have := (chkD_zero.1 HCz.out.2).1; omega)).mono ?_
      rintro e Y2 ⟨v, rfl, hf⟩
      have hb := hf.out.2
      have HY2 : Seal (Below w.heap.size w Y2 ∧ Y2.heap[gx + 1 + 1]? = some (.cells #[.slice none 0 0, .slice none 0 0] 25 (0, 0)) ∧ gx + 1 + 1 < Y2.heap.size) := ⟨HW.out.1.trans (hb.mono HW.out.1.size), (hb.block _ HW.out.2.2).trans HW.out.2.1, Nat.lt_of_lt_of_le HW.out.2.2 hb.size⟩
      have c1z := cell_below' hb c1w
      have d1z := cell_below' hb d1w
      have HLn : Seal ((mrgK Po.o D.P E.P).length ≤ 8192) := ⟨by have := mrgK_len (key := Po.o) D.P E.P; have := (chkD_zero.1 HCz.out.1).1; have := (chkD_zero.1 HCz.out.2).1; omega⟩
      have HOwn := Seal.mk hf.out.1
      obtain ⟨a1, k1, hv⟩ := own_slice hf.out.1
      obtain ⟨m1, hm1⟩ : ∃ m, m = (mrgK Po.o D.P E.P).length := ⟨_, rfl⟩
      rw [← hm1] at HLn hv HOwn
      subst hv
      have HM1 := Seal.mk hm1
      clear hb c1y d1y c1w d1w HY1 hf hm1 hM
      by_cases hbig : 4096 < m1
      · have q7 : (4096 : Int) < (m1 : Int) := by omega
        have hres := HY2.out.2.1
        have HE : Seal (mergeE D E = 2 ∧ mergeD D E = Dv.z) := ⟨by
          have e : mergeE D E = 2 := by
            rw [mergeE_right HCz.out.1 HCz.out.2, confD_iff.2 HAg.out, if_neg (by simp), if_pos (by rw [← HM1.out]; exact hbig)]
          exact ⟨e, by unfold mergeD; rw [e]; rfl⟩⟩
        go_wp2_with (first
          | (refine wpList_load_row rfl 25 (.tmp 4) rfl (gx + 1 + 1) rfl 25 #[.slice none 0 0, .slice none 0 0] (0, 0) _ hres Tryd.underlying25 rfl dev_info ?_; (try simp only [Act.put, List.setIfInBounds_toArray, List.set_cons_zero, List.set_cons_succ]))
          | (refine wpList_store_row rfl 25 (.tmp 4) (.tmp 59) rfl (gx + 1 + 1) #[.slice none 0 0, .slice none 0 0] rfl rfl 25 #[.slice none 0 0, .slice none 0 0] hres dev_info rfl (by simp [Value.oneCell']) ?_; (try simp only [Act.put])))
        refine bodyPost_ret (results_row_tmp (fn := Tryd.f18) rfl _ _ (gx + 1 + 1) 25 #[.slice none 0 0, .slice none 0 0] (0, 0) _ _ rfl rfl (setRow_heap _ _ _ _ _ _ hres) Tryd.underlying25 rfl dev_info) rfl ?_
        rw [HE.out.1, HE.out.2]
        exact ⟨_, _, rfl, ⟨devAt_z _⟩, below_row (Seal.mk HY2.out.1).out (by have := HGX.out; omega) _⟩
      · have q7 : ¬ (4096 : Int) < (m1 : Int) := by omega
        have HE : Seal (mergeE D E = 0 ∧ mergeD D E = mrgD D E) := ⟨by
          have e : mergeE D E = 0 := by
            rw [mergeE_right HCz.out.1 HCz.out.2, confD_iff.2 HAg.out, if_neg (by simp), if_neg (by rw [← HM1.out]; exact hbig)]
          exact ⟨e, by unfold mergeD; rw [if_pos e]⟩⟩
        go_wp2_with fail
        refine (imerged_any ga ha gn gc hn hc D.G E.G Y2 (HP.out Y2 HY2.out.1).2.1 (HP.out Y2 HY2.out.1).2.2.2).mono ?_
        rintro e Y3 ⟨sa, sb, sc, tc2, rd2, rfl, hM⟩
        have hb := hM.out.bel
        have HY3 : Seal (Below w.heap.size w Y3) := ⟨HY2.out.1.trans (hb.mono HY2.out.1.size)⟩
        have hM2 := Seal.mk hb
        clear hb c1z d1z
        go_wp2_with fail
        refine (icoll_any D.G E.G sa sb sc tc2 rd2 Y2 Y3 hM.out (by have := got_le (chkD_zero.1 HCz.out.1).2; have := got_le (chkD_zero.1 HCz.out.2).2; have := (chkD_zero.1 HCz.out.1).1; have := (chkD_zero.1 HCz.out.2).1; omega)).mono ?_
        rintro e Y4 ⟨v2, rfl, hf⟩
        have hb := hf.out.2
        have HY4 : Seal (Below w.heap.size w Y4) := ⟨HY2.out.1.trans (hb.mono HY2.out.1.size)⟩
        have HO4 : Seal (Y4.ownsRow wo.heap.size 31 33 (.slice a1 m1 k1) m1 ((mrgK Po.o D.P E.P).flatMap Po.C)) := ⟨ownsRow_below HOwn.out hb⟩
        have HO5 := Seal.mk hf.out.1
        have hres := (hb.block _ HY2.out.2.2).trans HY2.out.2.1
        obtain ⟨a2, k2, hv⟩ := own_slice hf.out.1
        obtain ⟨m2, hm2⟩ : ∃ m, m = (mrgK idI D.G E.G).length := ⟨_, rfl⟩
        rw [← hm2] at hv HO5
        subst hv
        have HM2 : Seal (m2 = (mrgK idI D.G E.G).length ∧ m2 ≤ 4096) := ⟨hm2, by
          have hr : rightD (mrgD D E) = true := mrgD_right (chkD_zero.1 HCz.out.1).2 (chkD_zero.1 HCz.out.2).2 HAg.out
          have h1 : (mrgK idI D.G E.G).length ≤ (mrgK Po.o D.P E.P).length := got_le hr
          have := HM1.out
          omega⟩
        have HS2 : Seal (Y2.heap.size ≥ gx + 1 + 1 + 1) := ⟨HY2.out.2.2⟩
        clear hb hf hm2 hM hM2 HOwn
        go_wp2_with (refine wpList_store_row rfl 25 (.tmp 4) (.tmp 67) rfl (gx + 1 + 1) #[.slice a1 m1 k1, .slice a2 m2 k2] rfl rfl 25 #[.slice none 0 0, .slice none 0 0] hres dev_info rfl (by simp [Value.oneCell']) ?_; (try simp only [Act.put]))
        refine bodyPost_ret (results_row_tmp (fn := Tryd.f18) rfl _ _ (gx + 1 + 1) 25 #[.slice a1 m1 k1, .slice a2 m2 k2] (0, 0) _ _ rfl rfl (setRow_heap _ _ _ _ _ _ hres) Tryd.underlying25 rfl dev_info) rfl ?_
        rw [HE.out.1, HE.out.2]
        have o1 := own_setRow HO4.out (g := gx + 1 + 1) (by have := HW.out.2.2; omega) #[.slice a1 m1 k1, .slice a2 m2 k2]
        have o2 := own_setRow HO5.out (g := gx + 1 + 1) HS2.out #[.slice a1 m1 k1, .slice a2 m2 k2]
        obtain ⟨b1, l1, e1, i1⟩ := isC_own (C := Po.C) o1 (fun x hx => Po.C_len ((mrgK_or _ _ x hx).elim (H32.out.1 x) (H32.out.2 x))) HM1.out.symm (by omega)
        obtain ⟨b2, l2, e2, i2⟩ := isC_own (C := intC) o2 (by intro x _; rfl) HM2.out.1.symm (by have := HM2.out; omega)
        cases e1
        cases e2
        exact ⟨_, _, rfl, ⟨⟨_, _, _, _, _, _, rfl, rfl, i1, fun x hx => (mrgK_or _ _ x hx).elim (H32.out.1 x) (H32.out.2 x), i2⟩⟩, below_row HY4.out (by have := HGX.out; omega) _⟩
end Frk
