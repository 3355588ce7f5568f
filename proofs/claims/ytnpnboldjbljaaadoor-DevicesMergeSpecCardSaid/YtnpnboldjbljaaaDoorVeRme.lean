/- Law 44's reference: Merge. -/
import Derived.Test.YtnpnboldjbljaaaDoorVegRmp
import Derived.Test.YtnpnboldjbljaaaDoorVeRis
import Derived.Test.YtnpnboldjbljaaaDoorVeKpt
namespace Frk
open Go Go.RowKit Go.Proofs
set_option maxRecDepth 100000

theorem IsC.setCell {α : Type} {C : α → List Value} {z : Nat} {w : World} {a : Option Addr} {n c : Nat} {l : List α} (h : IsC C z w a n c l) (p : Addr) (u : Value) (hne : ∀ g o, a = some ⟨g, o, none⟩ → 0 < n → g ≠ p.block) : IsC C z (w.setCell p u) a n c l :=
  ⟨h.llen, h.lcap, h.lmax, h.cmax, h.each, by
    rcases Nat.eq_zero_or_pos n with h1 | h1
    · exact .inl h1
    rcases h.at_ with h0 | ⟨g, o, e, hr, hg⟩
    · exact .inl h0
    · exact .inr ⟨g, o, e, fun j v hv => (World.cell?_of_block (w := w) (Below.heap_setCell _ _ _ _ (hne g o e h1))).trans (hr j v hv), by simpa [World.setCell] using hg⟩⟩
theorem IsC.at_lt {α : Type} {C : α → List Value} {z : Nat} {w : World} {a : Option Addr} {n c : Nat} {l : List α} (h : IsC C z w a n c l) {g o : Nat} (e : a = some ⟨g, o, none⟩) (h0 : 0 < n) : g < w.heap.size := by
  rcases h.at_ with h1 | ⟨g', o', e', _, hg⟩
  · omega
  · rw [e] at e'; cases e'; exact hg
/-- where the first loop stands -/
def Mg1 (D E : Dv) (gx g8 : Nat) (ga : Option Addr) (gn gc : Nat) (W0 wr : World) (k : Nat) (xa : Option Addr) (xn xc : Nat) : Prop :=
  Below g8 W0 wr ∧ wr.heap[g8]? = some (.cells #[.slice xa xn xc, .slice ga gn gc] 25 (0, 0)) ∧ IsPs wr xa xn xc (fK D.P E.P k) ∧ PlainA xa xc ∧ (∀ g o, xa = some ⟨g, o, none⟩ → 0 < xn → (g < gx ∨ g8 < g)) ∧ AgK D.P E.P k
def Mg2 (D E : Dv) (gx g8 : Nat) (xa : Option Addr) (xn xc : Nat) (W0 wr : World) (k : Nat) (ya : Option Addr) (yn yc : Nat) : Prop :=
  Below g8 W0 wr ∧ wr.heap[g8]? = some (.cells #[.slice xa xn xc, .slice ya yn yc] 25 (0, 0)) ∧ IsPs wr xa xn xc (fK D.P E.P E.P.length) ∧ IsIs wr ya yn yc (gK D.G E.G k) ∧ PlainA ya yc ∧ (∀ g o, xa = some ⟨g, o, none⟩ → 0 < xn → (g < gx ∨ g8 < g)) ∧ (∀ g o, ya = some ⟨g, o, none⟩ → 0 < yn → (g < gx ∨ g8 < g))

set_option maxHeartbeats 8000000 in
theorem rmerge44_any (pa ga : Option Addr) (pn pc gn gc : Nat) (D : Dv) (qa ha : Option Addr) (qn qc hn hc : Nat) (E : Dv) (w : World) (hP : IsPs w pa pn pc D.P) (h32 : ∀ x ∈ D.P, x.S.length = 32) (hG : IsIs w ga gn gc D.G)
    (hQ : IsPs w qa qn qc E.P) (k32 : ∀ x ∈ E.P, x.S.length = 32) (hH : IsIs w ha hn hc E.G) (hpp : PlainA pa pc) (hgp : PlainA ga gc) (hs : (pn ≤ 40 ∨ 4096 < pn) ∧ (qn ≤ 40 ∨ 4096 < qn) ∧ gn ≤ 40 ∧ hn ≤ 40) :
    Calls Tryd.prog 19 #[.agg #[.slice pa pn pc, .slice ga gn gc], .agg #[.slice qa qn qc, .slice ha hn hc]] w (DevPost (mergeD D E) (mergeE D E) w) := by
  obtain ⟨X, hX⟩ : ∃ X : World, X = ((w.alloc (.cells #[.slice pa pn pc, .slice ga gn gc] 25)).alloc (.cells #[.slice qa qn qc, .slice ha hn hc] 25)).alloc (.cells #[.slice none 0 0, .slice none 0 0] 25) := ⟨_, rfl⟩
  have HB : Seal (Below w.heap.size w X) := ⟨by rw [hX]; exact (((Below.refl _ w).alloc (Nat.le_refl _) _).alloc (by simp) _).alloc (by simp; omega) _⟩
  obtain ⟨hrow, hrow2, hres⟩ : X.heap[w.heap.size]? = some (.cells #[.slice pa pn pc, .slice ga gn gc] 25 (0, 0)) ∧ X.heap[w.heap.size + 1]? = some (.cells #[.slice qa qn qc, .slice ha hn hc] 25 (0, 0)) ∧ X.heap[w.heap.size + 1 + 1]? = some (.cells #[.slice none 0 0, .slice none 0 0] 25 (0, 0)) := by rw [hX]; exact heap_alloc3 w _ _ _
  have c0 : X.cell? ⟨w.heap.size, 0, none⟩ = some (.slice pa pn pc) := by rw [cell_of_row _ _ _ _ _ _ hrow]; rfl
  have c1 : X.cell? ⟨w.heap.size, 1, none⟩ = some (.slice ga gn gc) := by rw [cell_of_row _ _ _ _ _ _ hrow]; rfl
  have d0 : X.cell? ⟨w.heap.size + 1, 0, none⟩ = some (.slice qa qn qc) := by rw [cell_of_row _ _ _ _ _ _ hrow2]; rfl
  have d1 : X.cell? ⟨w.heap.size + 1, 1, none⟩ = some (.slice ha hn hc) := by rw [cell_of_row _ _ _ _ _ _ hrow2]; rfl
  have HP : Seal (∀ W, Below w.heap.size w W → IsPs W pa pn pc D.P ∧ IsIs W ga gn gc D.G ∧ IsPs W qa qn qc E.P ∧ IsIs W ha hn hc E.G) := ⟨fun W h => ⟨hP.below h, hG.below h, hQ.below h, hH.below h⟩⟩
  have HO : Seal ((∀ g o, pa = some ⟨g, o, none⟩ → 0 < pn → g < w.heap.size) ∧ (∀ g o, ga = some ⟨g, o, none⟩ → 0 < gn → g < w.heap.size) ∧ PlainA pa pc ∧ PlainA ga gc) := ⟨fun g o e h => hP.at_lt e h, fun g o e h => hG.at_lt e h, hpp, hgp⟩
  have H32 := Seal.mk (And.intro h32 k32)
  have HCk : Seal (∀ W, Below w.heap.size w W → Calls Tryd.prog 14 #[.agg #[.slice pa pn pc, .slice ga gn gc]] W fun e w' => e = .returned (.int .i64 (chkD D)) ∧ Below W.heap.size W w') := ⟨fun W h => rcheck44_any pa ga pn pc gn gc D W (hP.below h) (hG.below h)⟩
  have HCl : Seal (∀ W, Below w.heap.size w W → Calls Tryd.prog 14 #[.agg #[.slice qa qn qc, .slice ha hn hc]] W fun e w' => e = .returned (.int .i64 (chkD E)) ∧ Below W.heap.size W w') := ⟨fun W h => rcheck44_any qa ha qn qc hn hc E W (hQ.below h) (hH.below h)⟩
  have HN : Seal (D.P.length = pn ∧ D.G.length = gn ∧ E.P.length = qn ∧ E.G.length = hn) := ⟨hP.llen, hG.llen, hQ.llen, hH.llen⟩
  have HSm := Seal.mk hs
  obtain ⟨er, her⟩ : ∃ e, e = chkD D := ⟨_, rfl⟩
  obtain ⟨fr, hfr⟩ : ∃ e, e = chkD E := ⟨_, rfl⟩
  rw [← her] at HCk
  rw [← hfr] at HCl
  have HER := Seal.mk her
  have HFR := Seal.mk hfr
  have hgs : w.heap.size + 1 + 1 < X.heap.size := (Array.getElem?_eq_some_iff.1 hres).1
  obtain ⟨gx, hgx⟩ : ∃ g, g = w.heap.size := ⟨_, rfl⟩
  have HGX := Seal.mk hgx
  have ud := Tryd.underlying25
  have ut := Tryd.underlying31
  rw [← hgx] at c0 c1 d0 d1 hres hgs
  clear hP h32 hG hQ k32 hH hrow hrow2 her hfr hpp hgp hs
  go_enter Tryd.func19, Tryd.ntmps19
  go_upto_region 1 with (fail)
  rw [← hX]
  rw [← hgx]
  clear hX hgx
  go_wp2_with fail
  refine (HCk.out X HB.out).mono ?_
  rintro e w1 ⟨rfl, hb⟩
  have HB1 := Seal.mk (HB.out.trans (hb.mono HB.out.size))
  have c0 := cell_below' hb c0
  have c1 := cell_below' hb c1
  have d0 := cell_below' hb d0
  have d1 := cell_below' hb d1
  have hres := (hb.block _ hgs).trans hres
  have hgs := Nat.lt_of_lt_of_le hgs hb.size
  clear hb HB HCk
  by_cases h0 : er = 0
  rotate_left
  · have HE : Seal (mergeE D E = er ∧ mergeD D E = Dv.z) := ⟨by
      have e : mergeE D E = er := by unfold mergeE; rw [← HER.out, if_pos h0]
      exact ⟨e, by unfold mergeD; rw [e, if_neg h0]⟩⟩
    have q0 : ¬ er = 0 := h0
    clear HER h0
    go_wp2_with (first
      | (refine wpList_store_row rfl 25 (.tmp 4) (.tmp 16) rfl (gx + 1 + 1) #[.slice none 0 0, .slice none 0 0] rfl rfl 25 _ hres dev_info rfl (by simp [Value.oneCell']) ?_))
    refine bodyPost_ret (results_row_tmp (fn := Tryd.f19) rfl _ _ (gx + 1 + 1) 25 #[.slice none 0 0, .slice none 0 0] (0, 0) _ _ rfl rfl (setRow_heap _ _ _ _ _ _ hres) ud rfl dev_info) rfl ?_
    rw [HE.out.1, HE.out.2]
    exact ⟨_, _, rfl, ⟨devAt_z _⟩, below_row HB1.out (by have := HGX.out; omega) _⟩
  subst h0
  have HCz : Seal (chkD D = 0) := ⟨HER.out.symm⟩
  clear HER
  go_wp2_with fail
  refine (HCl.out w1 HB1.out).mono ?_
  rintro e w2 ⟨rfl, hb⟩
  have HB2 := Seal.mk (HB1.out.trans (hb.mono HB1.out.size))
  have c0 := cell_below' hb c0
  have c1 := cell_below' hb c1
  have d0 := cell_below' hb d0
  have d1 := cell_below' hb d1
  have hres := (hb.block _ hgs).trans hres
  have hgs := Nat.lt_of_lt_of_le hgs hb.size
  clear hb HB1 HCl
  by_cases h0 : fr = 0
  rotate_left
  · have HE : Seal (mergeE D E = fr ∧ mergeD D E = Dv.z) := ⟨by
      have e : mergeE D E = fr := by unfold mergeE; rw [if_neg (by simp [HCz.out]), ← HFR.out, if_pos h0]
      exact ⟨e, by unfold mergeD; rw [e, if_neg h0]⟩⟩
    have q0 : ¬ fr = 0 := h0
    clear HFR h0
    go_wp2_with (first
      | (refine wpList_store_row rfl 25 (.tmp 4) (.tmp 22) rfl (gx + 1 + 1) #[.slice none 0 0, .slice none 0 0] rfl rfl 25 _ hres dev_info rfl (by simp [Value.oneCell']) ?_))
    refine bodyPost_ret (results_row_tmp (fn := Tryd.f19) rfl _ _ (gx + 1 + 1) 25 #[.slice none 0 0, .slice none 0 0] (0, 0) _ _ rfl rfl (setRow_heap _ _ _ _ _ _ hres) ud rfl dev_info) rfl ?_
    rw [HE.out.1, HE.out.2]
    exact ⟨_, _, rfl, ⟨devAt_z _⟩, below_row HB2.out (by have := HGX.out; omega) _⟩
  subst h0
  have HCe : Seal (chkD E = 0) := ⟨HFR.out.symm⟩
  have HRi : Seal (RisK Po.o D.P ∧ RisK idI D.G ∧ RisK Po.o E.P ∧ RisK idI E.G) := ⟨(rightD_iff.1 (chkD_zero.1 HCz.out).2).2.1, (rightD_iff.1 (chkD_zero.1 HCz.out).2).2.2.1, (rightD_iff.1 (chkD_zero.1 HCe.out).2).2.1, (rightD_iff.1 (chkD_zero.1 HCe.out).2).2.2.1⟩
  have HQn : Seal (pn ≤ 40 ∧ qn ≤ 40 ∧ gn ≤ 40 ∧ hn ≤ 40) := ⟨by
    have h1 := (chkD_zero.1 HCz.out).1
    have h2 := (chkD_zero.1 HCe.out).1
    have h3 := HN.out
    have h4 := HSm.out
    omega⟩
  have hpn := HQn.out.1
  have hqn := HQn.out.2.1
  have hgn := HQn.out.2.2.1
  have hhn := HQn.out.2.2.2
  clear HFR HSm
  obtain ⟨W0, hW0⟩ : ∃ Z, Z = w2.alloc (.cells #[.slice pa pn pc, .slice ga gn gc] 25) := ⟨_, rfl⟩
  have N2 : W0.heap[w2.heap.size]? = some (.cells #[.slice pa pn pc, .slice ga gn gc] 25 (0, 0)) := by rw [hW0]; exact heap_alloc_new w2 _
  have N3 : Below w2.heap.size w2 W0 := by rw [hW0]; exact below_alloc _ _
  obtain ⟨g8, hg8⟩ : ∃ g, g = w2.heap.size := ⟨_, rfl⟩
  have HG8 : Seal (gx + 1 + 1 < g8 ∧ w.heap.size ≤ g8 ∧ g8 < W0.heap.size) := ⟨by rw [hg8]; exact hgs, by rw [hg8]; exact HB2.out.size, by rw [hg8]; exact (Array.getElem?_eq_some_iff.1 N2).1⟩
  have HB0 : Seal (Below w.heap.size w W0) := ⟨HB2.out.trans (N3.mono HB2.out.size)⟩
  have c0 := cell_below' N3 c0
  have c1 := cell_below' N3 c1
  have d0 := cell_below' N3 d0
  have d1 := cell_below' N3 d1
  have HRes : Seal (W0.heap[gx + 1 + 1]? = some (.cells #[.slice none 0 0, .slice none 0 0] 25 (0, 0))) := ⟨(N3.block _ hgs).trans hres⟩
  have HM0 : Seal (Mg1 D E gx g8 ga gn gc W0 W0 0 pa pn pc) := ⟨Below.refl _ _, by rw [hg8]; exact N2, by rw [fK_zero]; exact (HP.out W0 HB0.out).1, HO.out.2.2.1, fun g o e h => .inl (by have := HO.out.1 g o e h; have := HGX.out; omega), AgK.zero _ _⟩
  clear N2 N3 hres hgs HB2
  go_wp2
  rw [← hW0, ← hg8]
  clear hW0 hg8
  go_loopw [9] (fun i wr => ∃ (k : Nat) (xa : Option Addr) (xn xc : Nat), k ≤ qn ∧ i = .int .i64 k ∧ Seal (Mg1 D E gx g8 ga gn gc W0 wr k xa xn xc)) (fun i _ => qn - (intOf i).toNat)
  case atStart => exact ⟨0, pa, pn, pc, by omega, rfl, HM0⟩
  case round =>
    obtain ⟨wo, rfl⟩ : ∃ z, z = wr := ⟨_, rfl⟩
    obtain ⟨k, xa, xn, xc, hk, rfl, hH⟩ := hrel
    have HBw : Seal (Below w.heap.size w wo) := ⟨HB0.out.trans (hH.out.1.mono HG8.out.2.1)⟩
    have e0 : wo.cell? ⟨gx, 0, none⟩ = some (.slice pa pn pc) := (hH.out.1.cell (p := ⟨gx, 0, none⟩) (by show gx < _; have := HG8.out; omega)).trans c0
    have f0 : wo.cell? ⟨gx + 1, 0, none⟩ = some (.slice qa qn qc) := (hH.out.1.cell (p := ⟨gx + 1, 0, none⟩) (by show gx + 1 < _; have := HG8.out; omega)).trans d0
    by_cases hlt : k < qn
    · have hE := (HP.out wo HBw.out).2.2.1
      rcases hE.at_ with hz | ⟨gE, oE, rfl, hr, hg⟩
      · omega
      · obtain ⟨y, hy⟩ : ∃ x, E.P[k]? = some x := ⟨_, List.getElem?_eq_getElem (by have := HN.out; omega)⟩
        obtain ⟨q, hq⟩ : ∃ q, q = y.o := ⟨_, rfl⟩
        have rY := rangeC_row hr hE.each hy
        have y32 := H32.out.2 y (List.mem_of_getElem? hy)
        have c2 : wo.cell? ⟨gE, oE + k * 33, none⟩ = some (.int .i64 q) := by have := rY 0 (.int .i64 y.o) rfl; rw [hq]; simpa using this
        obtain ⟨CY, hCY⟩ : ∃ C, C = y.C := ⟨_, rfl⟩
        rw [← hCY] at rY
        have iY : (Tryd.prog.info? 31).map (·.size) = some CY.length := by rw [hCY]; exact Po.C_info y32
        have HY : Seal (E.P[k]? = some y ∧ q = y.o ∧ CY = y.C ∧ y.S.length = 32) := ⟨hy, hq, hCY, y32⟩
        have q5 : (k : Int) < (qn : Int) := by omega
        have q6 : (0 : Int) ≤ (k : Int) := by omega
        have HFi : Seal (∀ W, Below w.heap.size w W → Calls Tryd.prog 31 #[.slice pa pn pc, .int .i64 q] W fun e w' => ∃ i : Int, e = .returned (.int .i64 i) ∧ Seal (FindR D.P q i) ∧ W = w') := ⟨fun W h => rfind44_any pa pn pc D.P q W (HP.out W h).1⟩
        clear hE hr hg hy hq hCY y32
        go_wp2_with fail
        refine wp_region_held_drew (S := fun w' => w'.cell? ⟨gx, 0, none⟩ = some (.slice pa pn pc) ∧ w'.cell? ⟨gx + 1, 0, none⟩ = some (.slice (some ⟨gE, oE, none⟩) qn qc) ∧ w'.cell? ⟨gE, oE + k * 33, none⟩ = some (.int .i64 q)) (by kernel_rfl) ⟨e0, f0, c2⟩ (fun hHeld => ?_)
        obtain ⟨V, hV⟩ : ∃ V, V = wo.drew := ⟨_, rfl⟩
        have HV : Seal (Below w.heap.size w V ∧ Mg1 D E gx g8 ga gn gc W0 V k xa xn xc ∧ V.rangeAt gE (oE + k * 33) CY) := ⟨by
          rw [hV]
          exact ⟨HBw.out.trans ((below_drewn _).mono HBw.out.size), ⟨hH.out.1.trans ((below_drewn wo).mono (Nat.le_trans (Nat.le_of_lt HG8.out.2.2) hH.out.1.size)), hH.out.2.1, hH.out.2.2.1.below (below_drewn wo), hH.out.2.2.2⟩, rY⟩⟩
        rw [← hV] at hHeld ⊢
        clear hV e0 f0 c2 hH HBw rY
        refine take_h 0 ?_ rfl (by kernel_rfl) (by kernel_rfl) (by kernel_rfl) (fun _ _ _ h => h) (Or.inl ⟨by kernel_rfl, ?_⟩) (by assumption) ?_
        rotate_left
        · (intro w hSw; (try dsimp only at hSw); go_simp; try (with_reducible rfl))
        try simp only [Act.put, List.setIfInBounds_toArray, List.set_cons_zero, List.set_cons_succ]
        refine take_h 1 ?_ rfl (by kernel_rfl) (by kernel_rfl) (by kernel_rfl) (fun _ _ _ h => h) (Or.inl ⟨by kernel_rfl, ?_⟩) (by assumption) ?_
        rotate_left
        · (intro w hSw; (try dsimp only at hSw); go_simp; try (with_reducible rfl))
        try simp only [Act.put, List.setIfInBounds_toArray, List.set_cons_zero, List.set_cons_succ]
        refine take_h 2 ?_ rfl (by kernel_rfl) (by kernel_rfl) (by kernel_rfl) (fun _ _ _ h => h) (Or.inl ⟨by kernel_rfl, ?_⟩) (by assumption) ?_
        rotate_left
        · (intro w hSw; (try dsimp only at hSw); go_simp; try (with_reducible rfl))
        try simp only [Act.put, List.setIfInBounds_toArray, List.set_cons_zero, List.set_cons_succ]
        refine take_h 3 ?_ rfl (by kernel_rfl) (by kernel_rfl) (by kernel_rfl) (fun _ _ _ h => h) (Or.inl ⟨by kernel_rfl, ?_⟩) (by assumption) ?_
        rotate_left
        · (intro w hSw; (try dsimp only at hSw); go_simp; try (with_reducible rfl))
        try simp only [Act.put, List.setIfInBounds_toArray, List.set_cons_zero, List.set_cons_succ]
        refine take_h 4 ?_ rfl (by kernel_rfl) (by kernel_rfl) (by kernel_rfl) (fun _ _ _ h => h) (Or.inl ⟨by kernel_rfl, ?_⟩) (by assumption) ?_
        rotate_left
        · (intro w hSw; (try dsimp only at hSw); go_simp; try (with_reducible rfl))
        try simp only [Act.put, List.setIfInBounds_toArray, List.set_cons_zero, List.set_cons_succ]
        refine take_h 5 ?_ rfl (by kernel_rfl) (by kernel_rfl) (by kernel_rfl) (fun _ _ _ h => h) (Or.inl ⟨by kernel_rfl, ?_⟩) (by assumption) ?_
        rotate_left
        · (intro w hSw; (try dsimp only at hSw); go_simp; try (with_reducible rfl))
        try simp only [Act.put, List.setIfInBounds_toArray, List.set_cons_zero, List.set_cons_succ]
        refine take_h 6 ?_ rfl (by kernel_rfl) (by kernel_rfl) (by kernel_rfl) (fun _ _ _ h => h) (Or.inl ⟨by kernel_rfl, ?_⟩) (by assumption) ?_
        rotate_left
        · (intro w hSw; (try dsimp only at hSw); go_simp; try (with_reducible rfl))
        try simp only [Act.put, List.setIfInBounds_toArray, List.set_cons_zero, List.set_cons_succ]
        refine take_h 7 ?_ rfl (by kernel_rfl) (by kernel_rfl) (by kernel_rfl) (fun _ _ _ h => h) (Or.inl ⟨by kernel_rfl, ?_⟩) (by assumption) ?_
        rotate_left
        · (intro w hSw; (try dsimp only at hSw); go_simp; try (with_reducible rfl))
        try simp only [Act.put, List.setIfInBounds_toArray, List.set_cons_zero, List.set_cons_succ]
        refine call_h 8 rfl (by kernel_rfl) 31 #[.slice pa pn pc, .int .i64 q] (by kernel_rfl) (by go_simp) ?_
        refine (HFi.out V HV.out.1).mono ?_
        rintro e w3 ⟨i, rfl, hi, rfl⟩
        refine ⟨_, rfl, hHeld, fun hHeld2 => ?_⟩
        clear hHeld
        try simp only [Act.put, List.setIfInBounds_toArray, List.set_cons_zero, List.set_cons_succ]
        refine take_h 9 ?_ rfl (by kernel_rfl) (by kernel_rfl) (by kernel_rfl) (fun _ _ _ h => h) (Or.inl ⟨by kernel_rfl, ?_⟩) (by assumption) ?_
        rotate_left
        · (intro w hSw; (try dsimp only at hSw); go_simp; try (with_reducible rfl))
        try simp only [Act.put, List.setIfInBounds_toArray, List.set_cons_zero, List.set_cons_succ]
        refine wpAnyH_done (by kernel_rfl) ?_ _
        obtain ⟨e0, f0, c2⟩ := hHeld2
        have hFR := hi.out
        clear hi HFi
        rcases hFR with ⟨rfl, hno⟩ | ⟨j, x, rfl, hx, ex⟩
        · have HNo := Seal.mk hno
          clear hno
          have HL1 : Seal ((fK D.P E.P k).length ≤ 80) := ⟨by have := fK_len D.P E.P k (by have := HN.out; omega); have := HN.out; omega⟩
          have hxn : xn ≤ 80 := by have := HV.out.2.1.2.2.1.llen; have := HL1.out; omega
          go_wp2_with fail
          refine wp_region_held_drew (S := fun w' => w'.cell? ⟨gx + 1, 0, none⟩ = some (.slice (some ⟨gE, oE, none⟩) qn qc)) (by kernel_rfl) f0 (fun hHeld => ?_)
          obtain ⟨V2, hV⟩ : ∃ V2, V2 = V.drew := ⟨_, rfl⟩
          have HV2 : Seal (Below w.heap.size w V2 ∧ Mg1 D E gx g8 ga gn gc W0 V2 k xa xn xc ∧ V2.rangeAt gE (oE + k * 33) CY) := ⟨by
            rw [hV]
            exact ⟨HV.out.1.trans ((below_drewn _).mono HV.out.1.size), ⟨HV.out.2.1.1.trans ((below_drewn V).mono (Nat.le_trans (Nat.le_of_lt HG8.out.2.2) HV.out.2.1.1.size)), HV.out.2.1.2.1, HV.out.2.1.2.2.1.below (below_drewn V), HV.out.2.1.2.2.2⟩, HV.out.2.2⟩⟩
          rw [← hV] at hHeld ⊢
          clear hV e0 f0 c2 HV
          refine take_h 0 ?_ rfl (by kernel_rfl) (by kernel_rfl) (by kernel_rfl) (fun _ _ _ h => h) (Or.inl ⟨by kernel_rfl, ?_⟩) (by assumption) ?_
          rotate_left
          · (intro w hSw; (try dsimp only at hSw); go_simp; try (with_reducible rfl))
          try simp only [Act.put, List.setIfInBounds_toArray, List.set_cons_zero, List.set_cons_succ]
          refine take_h 1 ?_ rfl (by kernel_rfl) (by kernel_rfl) (by kernel_rfl) (fun _ _ _ h => h) (Or.inl ⟨by kernel_rfl, ?_⟩) (by assumption) ?_
          rotate_left
          · (intro w hSw; (try dsimp only at hSw); go_simp; try (with_reducible rfl))
          try simp only [Act.put, List.setIfInBounds_toArray, List.set_cons_zero, List.set_cons_succ]
          refine take_h 2 ?_ rfl (by kernel_rfl) (by kernel_rfl) (by kernel_rfl) (fun _ _ _ h => h) (Or.inl ⟨by kernel_rfl, ?_⟩) (by assumption) ?_
          rotate_left
          · (intro w hSw; (try dsimp only at hSw); go_simp; try (with_reducible rfl))
          try simp only [Act.put, List.setIfInBounds_toArray, List.set_cons_zero, List.set_cons_succ]
          refine take_h 3 undef rfl (by kernel_rfl) (by kernel_rfl) (by kernel_rfl) (fun _ _ _ h => h) (Or.inr ⟨by kernel_rfl, rfl⟩) (by assumption) ?_
          try simp only [Act.put, List.setIfInBounds_toArray, List.set_cons_zero, List.set_cons_succ]
          refine take_h 4 undef rfl (by kernel_rfl) (by kernel_rfl) (by kernel_rfl) (fun _ _ _ h => h) (Or.inr ⟨by kernel_rfl, rfl⟩) (by assumption) ?_
          try simp only [Act.put, List.setIfInBounds_toArray, List.set_cons_zero, List.set_cons_succ]
          refine take_h 5 undef rfl (by kernel_rfl) (by kernel_rfl) (by kernel_rfl) (fun _ _ _ h => h) (Or.inr ⟨by kernel_rfl, rfl⟩) (by assumption) ?_
          try simp only [Act.put, List.setIfInBounds_toArray, List.set_cons_zero, List.set_cons_succ]
          refine take_h 6 undef rfl (by kernel_rfl) (by kernel_rfl) (by kernel_rfl) (fun _ _ _ h => h) (Or.inr ⟨by kernel_rfl, rfl⟩) (by assumption) ?_
          try simp only [Act.put, List.setIfInBounds_toArray, List.set_cons_zero, List.set_cons_succ]
          refine take_h 7 undef rfl (by kernel_rfl) (by kernel_rfl) (by kernel_rfl) (fun _ _ _ h => h) (Or.inr ⟨by kernel_rfl, rfl⟩) (by assumption) ?_
          try simp only [Act.put, List.setIfInBounds_toArray, List.set_cons_zero, List.set_cons_succ]
          refine take_h 8 undef rfl (by kernel_rfl) (by kernel_rfl) (by kernel_rfl) (fun _ _ _ h => h) (Or.inr ⟨by kernel_rfl, rfl⟩) (by assumption) ?_
          try simp only [Act.put, List.setIfInBounds_toArray, List.set_cons_zero, List.set_cons_succ]
          refine take_h 9 undef rfl (by kernel_rfl) (by kernel_rfl) (by kernel_rfl) (fun _ _ _ h => h) (Or.inr ⟨by kernel_rfl, rfl⟩) (by assumption) ?_
          try simp only [Act.put, List.setIfInBounds_toArray, List.set_cons_zero, List.set_cons_succ]
          refine take_h 10 undef rfl (by kernel_rfl) (by kernel_rfl) (by kernel_rfl) (fun _ _ _ h => h) (Or.inr ⟨by kernel_rfl, rfl⟩) (by assumption) ?_
          try simp only [Act.put, List.setIfInBounds_toArray, List.set_cons_zero, List.set_cons_succ]
          refine take_h 11 undef rfl (by kernel_rfl) (by kernel_rfl) (by kernel_rfl) (fun _ _ _ h => h) (Or.inr ⟨by kernel_rfl, rfl⟩) (by assumption) ?_
          try simp only [Act.put, List.setIfInBounds_toArray, List.set_cons_zero, List.set_cons_succ]
          refine take_h 12 undef rfl (by kernel_rfl) (by kernel_rfl) (by kernel_rfl) (fun _ _ _ h => h) (Or.inr ⟨by kernel_rfl, rfl⟩) (by assumption) ?_
          try simp only [Act.put, List.setIfInBounds_toArray, List.set_cons_zero, List.set_cons_succ]
          refine take_h 13 undef rfl (by kernel_rfl) (by kernel_rfl) (by kernel_rfl) (fun _ _ _ h => h) (Or.inr ⟨by kernel_rfl, rfl⟩) (by assumption) ?_
          try simp only [Act.put, List.setIfInBounds_toArray, List.set_cons_zero, List.set_cons_succ]
          refine take_h 14 ?_ rfl (by kernel_rfl) (by kernel_rfl) (by kernel_rfl) (fun _ _ _ h => h) (Or.inl ⟨by kernel_rfl, ?_⟩) (by assumption) ?_
          rotate_left
          · (intro w hSw; (try dsimp only at hSw); go_simp; try (with_reducible rfl))
          try simp only [Act.put, List.setIfInBounds_toArray, List.set_cons_zero, List.set_cons_succ]
          refine wpAnyH_done (by kernel_rfl) ?_ _
          have f0 := hHeld
          clear hHeld
          have e8 : V2.cell? ⟨g8, 0, none⟩ = some (.slice xa xn xc) := by rw [cell_of_row _ _ _ _ _ _ HV2.out.2.1.2.1]; rfl
          go_wp2_with fail
          refine wp_region_heldT 9 (S := fun w' => w'.cell? ⟨g8, 0, none⟩ = some (.slice xa xn xc) ∧ w'.cell? ⟨gx + 1, 0, none⟩ = some (.slice (some ⟨gE, oE, none⟩) qn qc) ∧ w'.rangeAt gE (oE + k * 33) CY) (by kernel_rfl) ⟨e8, f0, HV2.out.2.2⟩ (fun hHeld => ?_)
          obtain ⟨V3, hV⟩ : ∃ V3, V3 = V2.drew := ⟨_, rfl⟩
          have HV3 : Seal (Below w.heap.size w V3 ∧ Mg1 D E gx g8 ga gn gc W0 V3 k xa xn xc ∧ V3.rangeAt gE (oE + k * 33) CY) := ⟨by
            rw [hV]
            exact ⟨HV2.out.1.trans ((below_drewn _).mono HV2.out.1.size), ⟨HV2.out.2.1.1.trans ((below_drewn V2).mono (Nat.le_trans (Nat.le_of_lt HG8.out.2.2) HV2.out.2.1.1.size)), HV2.out.2.1.2.1, HV2.out.2.1.2.2.1.below (below_drewn V2), HV2.out.2.1.2.2.2⟩, HV2.out.2.2⟩⟩
          have HIs : Seal (Calls Tryd.prog 36 #[.slice xa xn xc, .agg CY.toArray] V3 (RowPost Po.C 33 (fun _ => False) (insK Po.o (fK D.P E.P k) y) V3)) := ⟨by rw [HY.out.2.2.1]; exact rinsert_any xa xn xc (fK D.P E.P k) y V3 HV3.out.2.1.2.2.1 HV3.out.2.1.2.2.2.1 HY.out.2.2.2 (by omega)⟩
          have h8V : g8 < V3.heap.size := (Array.getElem?_eq_some_iff.1 HV3.out.2.1.2.1).1
          rw [← hV] at hHeld ⊢
          clear hV e8 f0 HV2
          refine take_t 0 ?_ rfl (by kernel_rfl) (by kernel_rfl) (by kernel_rfl) (by kernel_rfl) (fun _ _ _ h => h) (Or.inl ⟨by kernel_rfl, ?_⟩) (by assumption) ?_
          rotate_left
          · (intro w hSw; (try dsimp only at hSw); go_simp; try (with_reducible rfl))
          try simp only [Act.put, List.setIfInBounds_toArray, List.set_cons_zero, List.set_cons_succ]
          refine take_t 1 ?_ rfl (by kernel_rfl) (by kernel_rfl) (by kernel_rfl) (by kernel_rfl) (fun _ _ _ h => h) (Or.inl ⟨by kernel_rfl, ?_⟩) (by assumption) ?_
          rotate_left
          · (intro w hSw; (try dsimp only at hSw); go_simp; try (with_reducible rfl))
          try simp only [Act.put, List.setIfInBounds_toArray, List.set_cons_zero, List.set_cons_succ]
          refine take_t 2 ?_ rfl (by kernel_rfl) (by kernel_rfl) (by kernel_rfl) (by kernel_rfl) (fun _ _ _ h => h) (Or.inl ⟨by kernel_rfl, ?_⟩) (by assumption) ?_
          rotate_left
          · (intro w hSw; (try dsimp only at hSw); go_simp; try (with_reducible rfl))
          try simp only [Act.put, List.setIfInBounds_toArray, List.set_cons_zero, List.set_cons_succ]
          refine take_t 3 ?_ rfl (by kernel_rfl) (by kernel_rfl) (by kernel_rfl) (by kernel_rfl) (fun _ _ _ h => h) (Or.inl ⟨by kernel_rfl, ?_⟩) (by assumption) ?_
          rotate_left
          · (intro w hSw; (try dsimp only at hSw); go_simp; try (with_reducible rfl))
          try simp only [Act.put, List.setIfInBounds_toArray, List.set_cons_zero, List.set_cons_succ]
          refine take_t 4 ?_ rfl (by kernel_rfl) (by kernel_rfl) (by kernel_rfl) (by kernel_rfl) (fun _ _ _ h => h) (Or.inl ⟨by kernel_rfl, ?_⟩) (by assumption) ?_
          rotate_left
          · (intro w hSw; (try dsimp only at hSw); go_simp; try (with_reducible rfl))
          try simp only [Act.put, List.setIfInBounds_toArray, List.set_cons_zero, List.set_cons_succ]
          refine take_t 5 ?_ rfl (by kernel_rfl) (by kernel_rfl) (by kernel_rfl) (by kernel_rfl) (fun _ _ _ h => h) (Or.inl ⟨by kernel_rfl, ?_⟩) (by assumption) ?_
          rotate_left
          · (intro w hSw; (try dsimp only at hSw); go_simp; try (with_reducible rfl))
          try simp only [Act.put, List.setIfInBounds_toArray, List.set_cons_zero, List.set_cons_succ]
          refine take_t 6 _ rfl (by kernel_rfl) (by kernel_rfl) (by kernel_rfl) (by kernel_rfl) (fun _ _ _ h => h) (yieldsIf_load_mid (by kernel_rfl) 31 (.tmp 68) rfl gE (oE + k * 33) rfl CY _ (fun w hSw => hSw.2.2) ut rfl iY) (by assumption) ?_
          try simp only [Act.put, List.setIfInBounds_toArray, List.set_cons_zero, List.set_cons_succ]
          refine call_t 7 rfl (by kernel_rfl) 36 #[.slice xa xn xc, .agg CY.toArray] (by kernel_rfl) (by go_simp) ?_
          refine HIs.out.mono ?_
          rintro e w5 ⟨ia, im, ic, rfl, hI, hb5⟩
          refine ⟨_, rfl, ⟨cell_below' hb5 hHeld.1, cell_below' hb5 hHeld.2.1, rangeAt_below' hHeld.2.2 hb5⟩, fun hHeld2 => ?_⟩
          have hr5 : w5.heap[g8]? = some (.cells #[.slice xa xn xc, .slice ga gn gc] 25 (0, 0)) := (hb5.block _ h8V).trans HV3.out.2.1.2.1
          have HM1 : Seal (Mg1 D E gx g8 ga gn gc W0 (w5.setCell ⟨g8, 0, none⟩ (.slice ia im ic)) (k + 1) ia im ic) := ⟨by
            have hne : ∀ g o, ia = some ⟨g, o, none⟩ → 0 < im → (g < gx ∨ g8 < g) := fun g o e h0 => by
              rcases hI.out.2.2 g o e h0 with h | h
              · exact h.elim
              · omega
            refine ⟨(HV3.out.2.1.1.trans (hb5.mono (Nat.le_of_lt h8V))).setCell (Nat.le_refl _) _, ?_, ?_, hI.out.2.1, hne, HV3.out.2.1.2.2.2.2.2.no HY.out.1 (by rw [← HY.out.2.1]; exact HNo.out)⟩
            · exact heap_setCell_row (cs := [.slice xa xn xc, .slice ga gn gc]) (i := 0) (.slice ia im ic) hr5
            · rw [fK_succ HY.out.1, ← HY.out.2.1, HNo.out, if_neg (by decide)]
              exact hI.out.1.setCell _ _ (fun g o e h0 => by have := hne g o e h0; have := HG8.out; show g ≠ g8; omega)⟩
          have f9 : w5.frozen? ⟨g8, 0, none⟩ = false := frozen_of_row _ _ _ _ _ hr5
          have c9 := hHeld2.1
          clear hHeld hb5 hI HIs hr5 HV3 h8V
          try simp only [Act.put, List.setIfInBounds_toArray, List.set_cons_zero, List.set_cons_succ]
          refine take_t 8 ?_ rfl (by kernel_rfl) (by kernel_rfl) (by kernel_rfl) (by kernel_rfl) (fun _ _ _ h => h) (Or.inl ⟨by kernel_rfl, ?_⟩) (by assumption) ?_
          rotate_left
          · (intro w hSw; (try dsimp only at hSw); go_simp; try (with_reducible rfl))
          try simp only [Act.put, List.setIfInBounds_toArray, List.set_cons_zero, List.set_cons_succ]
          refine last_t (w5.setCell ⟨g8, 0, none⟩ (.slice ia im ic)) rfl (by kernel_rfl) (by kernel_rfl) (by kernel_rfl) (by go_simp) ?_
          clear hHeld2 c9 f9
          go_wp2
          go_roundw
          case rel => exact ⟨k + 1, ia, im, ic, by omega, by go_num, HM1⟩
          case measure => simp [intOf]; omega
        · have hjn : j < pn := by have := (List.getElem?_eq_some_iff.1 hx).1; have := HN.out; omega
          have hPs := (HP.out V HV.out.1).1
          rcases hPs.at_ with hz | ⟨gP, oP, rfl, hr, hg⟩
          · omega
          have rX := rangeC_row hr hPs.each hx
          have x32 := H32.out.1 x (List.mem_of_getElem? hx)
          obtain ⟨CX, hCX⟩ : ∃ C, C = x.C := ⟨_, rfl⟩
          have iX : (Tryd.prog.info? 31).map (·.size) = some CX.length := by rw [hCX]; exact Po.C_info x32
          obtain ⟨b, hbd⟩ : ∃ b, b = (x.o == y.o && x.S == y.S) := ⟨_, rfl⟩
          have HQ : Seal (∀ w, (Op.equalIn 10000 31 (.agg CX.toArray) (.agg CY.toArray)).run Tryd.prog w = .ok b w) := ⟨fun w => by rw [hCX, HY.out.2.2.1, hbd]; exact eqPo x y x32 HY.out.2.2.2 w⟩
          have HBX : Seal (b = true ↔ x = y) := ⟨by rw [hbd]; exact poB_iff x y⟩
          have HX : Seal (D.P[j]? = some x ∧ x.o = q) := ⟨hx, ex⟩
          rw [← hCX] at rX
          have q7 : (j : Int) < (pn : Int) := by omega
          have q8 : (0 : Int) ≤ (j : Int) := by omega
          clear hPs hr hg hx ex hCX hbd x32
          go_wp2_with fail
          refine wp_region_held_drew (S := fun w' => w'.cell? ⟨gx, 0, none⟩ = some (.slice (some ⟨gP, oP, none⟩) pn pc) ∧ w'.cell? ⟨gx + 1, 0, none⟩ = some (.slice (some ⟨gE, oE, none⟩) qn qc) ∧ w'.rangeAt gP (oP + j * 33) CX ∧ w'.rangeAt gE (oE + k * 33) CY) (by kernel_rfl) ⟨e0, f0, rX, HV.out.2.2⟩ (fun hHeld => ?_)
          obtain ⟨V2, hV⟩ : ∃ V2, V2 = V.drew := ⟨_, rfl⟩
          have HV2 : Seal (Below w.heap.size w V2 ∧ Mg1 D E gx g8 ga gn gc W0 V2 k xa xn xc) := ⟨by
            rw [hV]
            exact ⟨HV.out.1.trans ((below_drewn _).mono HV.out.1.size), ⟨HV.out.2.1.1.trans ((below_drewn V).mono (Nat.le_trans (Nat.le_of_lt HG8.out.2.2) HV.out.2.1.1.size)), HV.out.2.1.2.1, HV.out.2.1.2.2.1.below (below_drewn V), HV.out.2.1.2.2.2⟩⟩⟩
          rw [← hV] at hHeld ⊢
          clear hV e0 f0 c2 rX HV
          refine take_h 0 ?_ rfl (by kernel_rfl) (by kernel_rfl) (by kernel_rfl) (fun _ _ _ h => h) (Or.inl ⟨by kernel_rfl, ?_⟩) (by assumption) ?_
          rotate_left
          · (intro w hSw; (try dsimp only at hSw); go_simp; try (with_reducible rfl))
          try simp only [Act.put, List.setIfInBounds_toArray, List.set_cons_zero, List.set_cons_succ]
          refine take_h 1 ?_ rfl (by kernel_rfl) (by kernel_rfl) (by kernel_rfl) (fun _ _ _ h => h) (Or.inl ⟨by kernel_rfl, ?_⟩) (by assumption) ?_
          rotate_left
          · (intro w hSw; (try dsimp only at hSw); go_simp; try (with_reducible rfl))
          try simp only [Act.put, List.setIfInBounds_toArray, List.set_cons_zero, List.set_cons_succ]
          refine take_h 2 ?_ rfl (by kernel_rfl) (by kernel_rfl) (by kernel_rfl) (fun _ _ _ h => h) (Or.inl ⟨by kernel_rfl, ?_⟩) (by assumption) ?_
          rotate_left
          · (intro w hSw; (try dsimp only at hSw); go_simp; try (with_reducible rfl))
          try simp only [Act.put, List.setIfInBounds_toArray, List.set_cons_zero, List.set_cons_succ]
          refine take_h 3 ?_ rfl (by kernel_rfl) (by kernel_rfl) (by kernel_rfl) (fun _ _ _ h => h) (Or.inl ⟨by kernel_rfl, ?_⟩) (by assumption) ?_
          rotate_left
          · (intro w hSw; (try dsimp only at hSw); go_simp; try (with_reducible rfl))
          try simp only [Act.put, List.setIfInBounds_toArray, List.set_cons_zero, List.set_cons_succ]
          refine take_h 4 ?_ rfl (by kernel_rfl) (by kernel_rfl) (by kernel_rfl) (fun _ _ _ h => h) (Or.inl ⟨by kernel_rfl, ?_⟩) (by assumption) ?_
          rotate_left
          · (intro w hSw; (try dsimp only at hSw); go_simp; try (with_reducible rfl))
          try simp only [Act.put, List.setIfInBounds_toArray, List.set_cons_zero, List.set_cons_succ]
          refine take_h 5 ?_ rfl (by kernel_rfl) (by kernel_rfl) (by kernel_rfl) (fun _ _ _ h => h) (Or.inl ⟨by kernel_rfl, ?_⟩) (by assumption) ?_
          rotate_left
          · (intro w hSw; (try dsimp only at hSw); go_simp; try (with_reducible rfl))
          try simp only [Act.put, List.setIfInBounds_toArray, List.set_cons_zero, List.set_cons_succ]
          refine take_h 6 ?_ rfl (by kernel_rfl) (by kernel_rfl) (by kernel_rfl) (fun _ _ _ h => h) (Or.inl ⟨by kernel_rfl, ?_⟩) (by assumption) ?_
          rotate_left
          · (intro w hSw; (try dsimp only at hSw); go_simp; try (with_reducible rfl))
          try simp only [Act.put, List.setIfInBounds_toArray, List.set_cons_zero, List.set_cons_succ]
          refine take_h 7 _ rfl (by kernel_rfl) (by kernel_rfl) (by kernel_rfl) (fun _ _ _ h => h) (yieldsIf_load_mid (by kernel_rfl) 31 (.tmp 51) rfl gP (oP + j * 33) rfl CX _ (fun w hSw => hSw.2.2.1) ut rfl iX) (by assumption) ?_
          try simp only [Act.put, List.setIfInBounds_toArray, List.set_cons_zero, List.set_cons_succ]
          refine take_h 8 ?_ rfl (by kernel_rfl) (by kernel_rfl) (by kernel_rfl) (fun _ _ _ h => h) (Or.inl ⟨by kernel_rfl, ?_⟩) (by assumption) ?_
          rotate_left
          · (intro w hSw; (try dsimp only at hSw); go_simp; try (with_reducible rfl))
          try simp only [Act.put, List.setIfInBounds_toArray, List.set_cons_zero, List.set_cons_succ]
          refine take_h 9 ?_ rfl (by kernel_rfl) (by kernel_rfl) (by kernel_rfl) (fun _ _ _ h => h) (Or.inl ⟨by kernel_rfl, ?_⟩) (by assumption) ?_
          rotate_left
          · (intro w hSw; (try dsimp only at hSw); go_simp; try (with_reducible rfl))
          try simp only [Act.put, List.setIfInBounds_toArray, List.set_cons_zero, List.set_cons_succ]
          refine take_h 10 ?_ rfl (by kernel_rfl) (by kernel_rfl) (by kernel_rfl) (fun _ _ _ h => h) (Or.inl ⟨by kernel_rfl, ?_⟩) (by assumption) ?_
          rotate_left
          · (intro w hSw; (try dsimp only at hSw); go_simp; try (with_reducible rfl))
          try simp only [Act.put, List.setIfInBounds_toArray, List.set_cons_zero, List.set_cons_succ]
          refine take_h 11 ?_ rfl (by kernel_rfl) (by kernel_rfl) (by kernel_rfl) (fun _ _ _ h => h) (Or.inl ⟨by kernel_rfl, ?_⟩) (by assumption) ?_
          rotate_left
          · (intro w hSw; (try dsimp only at hSw); go_simp; try (with_reducible rfl))
          try simp only [Act.put, List.setIfInBounds_toArray, List.set_cons_zero, List.set_cons_succ]
          refine take_h 12 _ rfl (by kernel_rfl) (by kernel_rfl) (by kernel_rfl) (fun _ _ _ h => h) (yieldsIf_load_mid (by kernel_rfl) 31 (.tmp 56) rfl gE (oE + k * 33) rfl CY _ (fun w hSw => hSw.2.2.2) ut rfl iY) (by assumption) ?_
          try simp only [Act.put, List.setIfInBounds_toArray, List.set_cons_zero, List.set_cons_succ]
          have qe := HQ.out
          cases b with
          | true =>
            refine take_h 13 ?_ rfl (by kernel_rfl) (by kernel_rfl) (by kernel_rfl) (fun _ _ _ h => h) (Or.inl ⟨by kernel_rfl, ?_⟩) (by assumption) ?_
            rotate_left
            · (intro w hSw; (try dsimp only at hSw); go_simp; try (with_reducible rfl))
            try simp only [Act.put, List.setIfInBounds_toArray, List.set_cons_zero, List.set_cons_succ]
            refine take_h 14 ?_ rfl (by kernel_rfl) (by kernel_rfl) (by kernel_rfl) (fun _ _ _ h => h) (Or.inl ⟨by kernel_rfl, ?_⟩) (by assumption) ?_
            rotate_left
            · (intro w hSw; (try dsimp only at hSw); go_simp; try (with_reducible rfl))
            try simp only [Act.put, List.setIfInBounds_toArray, List.set_cons_zero, List.set_cons_succ]
            refine wpAnyH_done (by kernel_rfl) ?_ _
            have hxy := HBX.out.1 rfl
            have HM1 : Seal (Mg1 D E gx g8 ga gn gc W0 V2 (k + 1) xa xn xc) := ⟨by
              refine ⟨HV2.out.2.1, HV2.out.2.2.1, ?_, HV2.out.2.2.2.2.1, HV2.out.2.2.2.2.2.1, HV2.out.2.2.2.2.2.2.yes HY.out.1 HRi.out.1 (List.mem_of_getElem? HX.out.1) (by rw [HX.out.2, HY.out.2.1]) hxy⟩
              rw [fK_succ HY.out.1, if_pos (hasK_iff.2 ⟨x, List.mem_of_getElem? HX.out.1, by rw [HX.out.2, HY.out.2.1]⟩)]
              exact HV2.out.2.2.2.1⟩
            clear hHeld qe hxy HQ HBX
            go_wp2
            go_roundw
            case rel => exact ⟨k + 1, xa, xn, xc, by omega, by go_num, HM1⟩
            case measure => simp [intOf]; omega
          | false =>
            refine take_h 13 ?_ rfl (by kernel_rfl) (by kernel_rfl) (by kernel_rfl) (fun _ _ _ h => h) (Or.inl ⟨by kernel_rfl, ?_⟩) (by assumption) ?_
            rotate_left
            · (intro w hSw; (try dsimp only at hSw); go_simp; try (with_reducible rfl))
            try simp only [Act.put, List.setIfInBounds_toArray, List.set_cons_zero, List.set_cons_succ]
            refine take_h 14 ?_ rfl (by kernel_rfl) (by kernel_rfl) (by kernel_rfl) (fun _ _ _ h => h) (Or.inl ⟨by kernel_rfl, ?_⟩) (by assumption) ?_
            rotate_left
            · (intro w hSw; (try dsimp only at hSw); go_simp; try (with_reducible rfl))
            try simp only [Act.put, List.setIfInBounds_toArray, List.set_cons_zero, List.set_cons_succ]
            refine wpAnyH_done (by kernel_rfl) ?_ _
            have HE : Seal (mergeE D E = 440 ∧ mergeD D E = Dv.z) := ⟨by
              have hne : x ≠ y := fun h => by have := HBX.out.2 h; cases this
              have e : mergeE D E = 440 := by rw [mergeE_right HCz.out HCe.out, if_pos (conf_of (List.mem_of_getElem? HX.out.1) (List.mem_of_getElem? HY.out.1) (by rw [HX.out.2, HY.out.2.1]) hne)]
              exact ⟨e, by unfold mergeD; rw [e]; rfl⟩⟩
            have hres : V2.heap[gx + 1 + 1]? = some (.cells #[.slice none 0 0, .slice none 0 0] 25 (0, 0)) := (HV2.out.2.1.block _ HG8.out.1).trans HRes.out
            have HBV := Seal.mk HV2.out.1
            clear hHeld qe HQ HBX HV2
            go_wp2_with (first
              | (refine wpList_store_row rfl 25 (.tmp 4) (.tmp 60) rfl (gx + 1 + 1) #[.slice none 0 0, .slice none 0 0] rfl rfl 25 _ hres dev_info rfl (by simp [Value.oneCell']) ?_))
            refine bodyPost_ret (results_row_tmp (fn := Tryd.f19) rfl _ _ (gx + 1 + 1) 25 #[.slice none 0 0, .slice none 0 0] (0, 0) _ _ rfl rfl (setRow_heap _ _ _ _ _ _ hres) ud rfl dev_info) rfl ?_
            rw [HE.out.1, HE.out.2]
            exact ⟨_, _, rfl, ⟨devAt_z _⟩, below_row HBV.out (by have := HGX.out; omega) _⟩
    · obtain rfl : qn = k := by omega
      have q5 : ¬ (qn : Int) < (qn : Int) := by omega
      have HAg : Seal (AgrK Po.o D.P E.P ∧ fK D.P E.P E.P.length = mrgK Po.o D.P E.P) := ⟨by
        have h := hH.out.2.2.2.2.2
        rw [← HN.out.2.2.1] at h
        exact ⟨h.all, fK_all HRi.out.1 HRi.out.2.2.1 h.all⟩⟩
      have HM2 : Seal (Mg2 D E gx g8 xa xn xc W0 wo 0 ga gn gc) := ⟨hH.out.1, hH.out.2.1, by rw [HN.out.2.2.1]; exact hH.out.2.2.1, by rw [gK_zero]; exact (HP.out wo HBw.out).2.1, HO.out.2.2.2, hH.out.2.2.2.2.1, fun g o e h => .inl (by have := HO.out.2.1 g o e h; have := HGX.out; omega)⟩
      have hxn : xn ≤ 80 := by
        have h1 := hH.out.2.2.1.llen
        have := fK_len D.P E.P qn (by have := HN.out; omega)
        have := HN.out
        omega
      clear hH HBw e0
      go_wp2
      go_loopw [11] (fun i wr => ∃ (k : Nat) (ya : Option Addr) (yn yc : Nat), k ≤ hn ∧ i = .int .i64 k ∧ Seal (Mg2 D E gx g8 xa xn xc W0 wr k ya yn yc)) (fun i _ => hn - (intOf i).toNat)
      case atStart => exact ⟨0, ga, gn, gc, by omega, rfl, HM2⟩
      case round =>
        obtain ⟨wi, rfl⟩ : ∃ z, z = wr := ⟨_, rfl⟩
        obtain ⟨k, ya, yn, yc, hk, rfl, hH⟩ := hrel
        have HBw : Seal (Below w.heap.size w wi) := ⟨HB0.out.trans (hH.out.1.mono HG8.out.2.1)⟩
        have f1 : wi.cell? ⟨gx + 1, 1, none⟩ = some (.slice ha hn hc) := (hH.out.1.cell (p := ⟨gx + 1, 1, none⟩) (by show gx + 1 < _; have := HG8.out; omega)).trans d1
        have e8 : wi.cell? ⟨g8, 0, none⟩ = some (.slice xa xn xc) := by rw [cell_of_row _ _ _ _ _ _ hH.out.2.1]; rfl
        have e9 : wi.cell? ⟨g8, 1, none⟩ = some (.slice ya yn yc) := by rw [cell_of_row _ _ _ _ _ _ hH.out.2.1]; rfl
        clear f0 HM2
        by_cases hlt : k < hn
        · have hE := (HP.out wi HBw.out).2.2.2
          rcases hE.at_ with hz | ⟨gH, oH, rfl, hr, hg⟩
          · omega
          · obtain ⟨y, hy⟩ : ∃ x, E.G[k]? = some x := ⟨_, List.getElem?_eq_getElem (by have := HN.out; omega)⟩
            have c2 : wi.cell? ⟨gH, oH + k, none⟩ = some (.int .i64 y) := by have := rangeC_row hr hE.each hy 0 (.int .i64 y) rfl; simpa using this
            have HY := Seal.mk hy
            have q5 : (k : Int) < (hn : Int) := by omega
            have q6 : (0 : Int) ≤ (k : Int) := by omega
            have hyn : yn ≤ 80 := by
              have h1 := hH.out.2.2.2.1.llen
              have := gK_len D.G E.G k (by have := HN.out; omega)
              have := HN.out
              omega
            clear hE hr hg hy
            go_wp2_with fail
            refine wp_region_heldT 9 (S := fun w' => w'.cell? ⟨g8, 1, none⟩ = some (.slice ya yn yc) ∧ w'.cell? ⟨gx + 1, 1, none⟩ = some (.slice (some ⟨gH, oH, none⟩) hn hc) ∧ w'.cell? ⟨gH, oH + k, none⟩ = some (.int .i64 y)) (by kernel_rfl) ⟨e9, f1, c2⟩ (fun hHeld => ?_)
            obtain ⟨V3, hV⟩ : ∃ V3, V3 = wi.drew := ⟨_, rfl⟩
            have HV3 : Seal (Below w.heap.size w V3 ∧ Mg2 D E gx g8 xa xn xc W0 V3 k ya yn yc) := ⟨by
              rw [hV]
              exact ⟨HBw.out.trans ((below_drewn _).mono HBw.out.size), ⟨hH.out.1.trans ((below_drewn wi).mono (Nat.le_trans (Nat.le_of_lt HG8.out.2.2) hH.out.1.size)), hH.out.2.1, hH.out.2.2.1.below (below_drewn wi), hH.out.2.2.2.1.below (below_drewn wi), hH.out.2.2.2.2⟩⟩⟩
            have HIs : Seal (Calls Tryd.prog 54 #[.slice ya yn yc, .int .i64 y] V3 (RowPost intC 1 (OldOf ya yn) (putI (gK D.G E.G k) y) V3)) := ⟨rputI_any ya yn yc (gK D.G E.G k) y V3 HV3.out.2.2.2.2.1 HV3.out.2.2.2.2.2.1 (gK_ris HRi.out.2.1 k (by have := HN.out; omega)) (by omega)⟩
            have h8V : g8 < V3.heap.size := (Array.getElem?_eq_some_iff.1 HV3.out.2.2.1).1
            rw [← hV] at hHeld ⊢
            clear hV e8 e9 f1 c2 hH HBw
            refine take_t 0 ?_ rfl (by kernel_rfl) (by kernel_rfl) (by kernel_rfl) (by kernel_rfl) (fun _ _ _ h => h) (Or.inl ⟨by kernel_rfl, ?_⟩) (by assumption) ?_
            rotate_left
            · (intro w hSw; (try dsimp only at hSw); go_simp; try (with_reducible rfl))
            try simp only [Act.put, List.setIfInBounds_toArray, List.set_cons_zero, List.set_cons_succ]
            refine take_t 1 ?_ rfl (by kernel_rfl) (by kernel_rfl) (by kernel_rfl) (by kernel_rfl) (fun _ _ _ h => h) (Or.inl ⟨by kernel_rfl, ?_⟩) (by assumption) ?_
            rotate_left
            · (intro w hSw; (try dsimp only at hSw); go_simp; try (with_reducible rfl))
            try simp only [Act.put, List.setIfInBounds_toArray, List.set_cons_zero, List.set_cons_succ]
            refine take_t 2 ?_ rfl (by kernel_rfl) (by kernel_rfl) (by kernel_rfl) (by kernel_rfl) (fun _ _ _ h => h) (Or.inl ⟨by kernel_rfl, ?_⟩) (by assumption) ?_
            rotate_left
            · (intro w hSw; (try dsimp only at hSw); go_simp; try (with_reducible rfl))
            try simp only [Act.put, List.setIfInBounds_toArray, List.set_cons_zero, List.set_cons_succ]
            refine take_t 3 ?_ rfl (by kernel_rfl) (by kernel_rfl) (by kernel_rfl) (by kernel_rfl) (fun _ _ _ h => h) (Or.inl ⟨by kernel_rfl, ?_⟩) (by assumption) ?_
            rotate_left
            · (intro w hSw; (try dsimp only at hSw); go_simp; try (with_reducible rfl))
            try simp only [Act.put, List.setIfInBounds_toArray, List.set_cons_zero, List.set_cons_succ]
            refine take_t 4 ?_ rfl (by kernel_rfl) (by kernel_rfl) (by kernel_rfl) (by kernel_rfl) (fun _ _ _ h => h) (Or.inl ⟨by kernel_rfl, ?_⟩) (by assumption) ?_
            rotate_left
            · (intro w hSw; (try dsimp only at hSw); go_simp; try (with_reducible rfl))
            try simp only [Act.put, List.setIfInBounds_toArray, List.set_cons_zero, List.set_cons_succ]
            refine take_t 5 ?_ rfl (by kernel_rfl) (by kernel_rfl) (by kernel_rfl) (by kernel_rfl) (fun _ _ _ h => h) (Or.inl ⟨by kernel_rfl, ?_⟩) (by assumption) ?_
            rotate_left
            · (intro w hSw; (try dsimp only at hSw); go_simp; try (with_reducible rfl))
            try simp only [Act.put, List.setIfInBounds_toArray, List.set_cons_zero, List.set_cons_succ]
            refine take_t 6 ?_ rfl (by kernel_rfl) (by kernel_rfl) (by kernel_rfl) (by kernel_rfl) (fun _ _ _ h => h) (Or.inl ⟨by kernel_rfl, ?_⟩) (by assumption) ?_
            rotate_left
            · (intro w hSw; (try dsimp only at hSw); go_simp; try (with_reducible rfl))
            try simp only [Act.put, List.setIfInBounds_toArray, List.set_cons_zero, List.set_cons_succ]
            refine call_t 7 rfl (by kernel_rfl) 54 #[.slice ya yn yc, .int .i64 y] (by kernel_rfl) (by go_simp) ?_
            refine HIs.out.mono ?_
            rintro e w5 ⟨ia, im, ic, rfl, hI, hb5⟩
            refine ⟨_, rfl, ⟨cell_below' hb5 hHeld.1, cell_below' hb5 hHeld.2.1, cell_below' hb5 hHeld.2.2⟩, fun hHeld2 => ?_⟩
            have hr5 : w5.heap[g8]? = some (.cells #[.slice xa xn xc, .slice ya yn yc] 25 (0, 0)) := (hb5.block _ h8V).trans HV3.out.2.2.1
            have HM1 : Seal (Mg2 D E gx g8 xa xn xc W0 (w5.setCell ⟨g8, 1, none⟩ (.slice ia im ic)) (k + 1) ia im ic) := ⟨by
              have hne : ∀ g o, ia = some ⟨g, o, none⟩ → 0 < im → (g < gx ∨ g8 < g) := fun g o e h0 => by
                rcases hI.out.2.2 g o e h0 with ⟨⟨o', e'⟩, h⟩ | h
                · exact HV3.out.2.2.2.2.2.2.2 g o' e' h
                · omega
              refine ⟨(HV3.out.2.1.trans (hb5.mono (Nat.le_of_lt h8V))).setCell (Nat.le_refl _) _, ?_, (HV3.out.2.2.2.1.below hb5).setCell _ _ (fun g o e h0 => by have := HV3.out.2.2.2.2.2.2.1 g o e h0; have := HG8.out; show g ≠ g8; omega), ?_, hI.out.2.1, HV3.out.2.2.2.2.2.2.1, hne⟩
              · exact heap_setCell_row (cs := [.slice xa xn xc, .slice ya yn yc]) (i := 1) (.slice ia im ic) hr5
              · rw [gK_succ HY.out]
                exact hI.out.1.setCell _ _ (fun g o e h0 => by have := hne g o e h0; have := HG8.out; show g ≠ g8; omega)⟩
            have f9 : w5.frozen? ⟨g8, 1, none⟩ = false := frozen_of_row _ _ _ _ _ hr5
            have c9 := hHeld2.1
            clear hHeld hb5 hI HIs hr5 HV3 h8V
            try simp only [Act.put, List.setIfInBounds_toArray, List.set_cons_zero, List.set_cons_succ]
            refine take_t 8 ?_ rfl (by kernel_rfl) (by kernel_rfl) (by kernel_rfl) (by kernel_rfl) (fun _ _ _ h => h) (Or.inl ⟨by kernel_rfl, ?_⟩) (by assumption) ?_
            rotate_left
            · (intro w hSw; (try dsimp only at hSw); go_simp; try (with_reducible rfl))
            try simp only [Act.put, List.setIfInBounds_toArray, List.set_cons_zero, List.set_cons_succ]
            refine last_t (w5.setCell ⟨g8, 1, none⟩ (.slice ia im ic)) rfl (by kernel_rfl) (by kernel_rfl) (by kernel_rfl) (by go_simp) ?_
            clear hHeld2 c9 f9
            go_wp2
            go_roundw
            case rel => exact ⟨k + 1, ia, im, ic, by omega, by go_num, HM1⟩
            case measure => simp [intOf]; omega
        · obtain rfl : hn = k := by omega
          have q5 : ¬ (hn : Int) < (hn : Int) := by omega
          have q9 : ¬ (4096 : Int) < (xn : Int) := by omega
          have HE : Seal (mergeE D E = 0 ∧ mergeD D E = ⟨fK D.P E.P E.P.length, gK D.G E.G E.G.length⟩) := ⟨by
            have h1 := hH.out.2.2.1.llen
            have e : mergeE D E = 0 := mergeE_zero.2 ⟨HCz.out, HCe.out, HAg.out.1, by rw [← HAg.out.2, h1]; omega⟩
            refine ⟨e, ?_⟩
            unfold mergeD mrgD
            rw [if_pos e, HAg.out.2, gK_all HRi.out.2.1 HRi.out.2.2.2]⟩
          have hres : wi.heap[gx + 1 + 1]? = some (.cells #[.slice none 0 0, .slice none 0 0] 25 (0, 0)) := (hH.out.1.block _ HG8.out.1).trans HRes.out
          have HF : Seal (Below w.heap.size w (wi.setRow (gx + 1 + 1) #[.slice xa xn xc, .slice ya yn yc]) ∧ IsPs (wi.setRow (gx + 1 + 1) #[.slice xa xn xc, .slice ya yn yc]) xa xn xc (fK D.P E.P E.P.length) ∧ IsIs (wi.setRow (gx + 1 + 1) #[.slice xa xn xc, .slice ya yn yc]) ya yn yc (gK D.G E.G E.G.length) ∧ ∀ x ∈ fK D.P E.P E.P.length, x.S.length = 32) := ⟨below_row HBw.out (by have := HGX.out; omega) _, hH.out.2.2.1.setRow _ _ (fun g o e h0 => by have := hH.out.2.2.2.2.2.1 g o e h0; have := HG8.out; omega), by rw [HN.out.2.2.2]; exact hH.out.2.2.2.1.setRow _ _ (fun g o e h0 => by have := hH.out.2.2.2.2.2.2 g o e h0; have := HG8.out; omega), fK_32 H32.out.1 H32.out.2 _ (Nat.le_refl _)⟩
          clear hH HBw
          go_wp2_with (first
            | (refine wpList_store_row rfl 25 (.tmp 4) (.tmp 93) rfl (gx + 1 + 1) #[.slice xa xn xc, .slice ya yn yc] rfl rfl 25 _ hres dev_info rfl (by simp [Value.oneCell']) ?_))
          refine bodyPost_ret (results_row_tmp (fn := Tryd.f19) rfl _ _ (gx + 1 + 1) 25 #[.slice xa xn xc, .slice ya yn yc] (0, 0) _ _ rfl rfl (setRow_heap _ _ _ _ _ _ hres) ud rfl dev_info) rfl ?_
          rw [HE.out.1, HE.out.2]
          exact ⟨_, _, rfl, ⟨⟨_, _, _, _, _, _, rfl, rfl, HF.out.2.1, HF.out.2.2.2, HF.out.2.2.1⟩⟩, HF.out.1⟩
end Frk
