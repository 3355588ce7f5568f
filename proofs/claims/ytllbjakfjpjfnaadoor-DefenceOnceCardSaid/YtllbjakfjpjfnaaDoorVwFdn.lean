/- Law 57: DefenceOnce. -/
import Derived.Test.YtllbjakfjpjfnaaDoorVwgFlw
namespace Frk
open Go Go.RowKit Go.Proofs
set_option maxRecDepth 100000

theorem fdisD_ne {W : World} {g o : Nat} {n c : Nat} {l : List Bytes} {gy : Nat} {C : List Value} {t : TypeId} (h : IsD W (some ⟨g, o, none⟩) n c l) (h0 : 0 < n) (hC : C.length ≤ 31) (hy : W.heap[gy]? = some (.cells C.toArray t (0, 0))) : g ≠ gy := by
  intro e
  rcases h.at_ with h1 | ⟨g', o', e', hr, hg⟩
  · omega
  · cases e'
    subst e
    obtain ⟨d, hd⟩ : ∃ d, l[0]? = some d := ⟨_, List.getElem?_eq_getElem (by rw [h.llen]; exact h0)⟩
    have hl := h.each d (List.mem_of_getElem? hd)
    have h31 : 31 < (dcells l).length := by
      cases l with
      | nil => simp at hd
      | cons a r =>
        cases hd
        unfold dcells
        rw [List.length_map, List.flatten_cons, List.length_append, hl]; omega
    have h2 := hr 31 _ (List.getElem?_eq_getElem h31)
    rw [cell_of_row _ _ _ _ _ _ hy, List.getElem?_toArray, List.getElem?_eq_none (by omega)] at h2
    cases h2
theorem fdisD_set {W W' : World} {a : Option Addr} {n c : Nat} {l : List Bytes} {gy : Nat} (h : IsD W a n c l) (hne : ∀ g o, a = some ⟨g, o, none⟩ → g ≠ gy) (hb : ∀ k, k ≠ gy → W'.heap[k]? = W.heap[k]?) : IsD W' a n c l := by
  refine ⟨h.llen, h.lcap, h.lmax, h.cmax, h.each, ?_⟩
  rcases h.at_ with h0 | ⟨g, o, e, hr, hg⟩
  · exact .inl h0
  · have hk := hb g (hne g o e)
    refine .inr ⟨g, o, e, fun j u hu => (World.cell?_of_block (w := W) hk).trans (hr j u hu), ?_⟩
    rw [Array.getElem?_eq_getElem hg] at hk
    exact (Array.getElem?_eq_some_iff.1 hk).1
theorem epChk_val (l : List Ep) : epChk l = 2 ∨ epChk l = 0 ∨ epChk l = 470 := by
  unfold epChk
  split
  · exact .inl rfl
  · split
    · exact .inr (.inl rfl)
    · exact .inr (.inr rfl)
theorem once_val {l : List Ep} {off : List Int} {past : List Bytes} {c c' : Cas} {now term : Int} (hd : caseD c' = caseD c) {e : Int} (he : e = admE l off (putB past (caseD c)) c' now term) : e = 2 ∨ e = 470 ∨ e = 1 ∨ e = 560 ∨ e = 181 := by
  rw [he]
  unfold admE
  rcases epChk_val l with h | h | h
  · left; rw [if_pos (by rw [h]; decide), h]
  · rw [if_neg (by rw [h]; decide)]
    cases h2 : argB (putB past (caseD c)) now term with
    | false => rw [if_pos rfl]; exact .inr (.inr (.inl rfl))
    | true =>
      rw [if_neg (by decide)]
      cases h3 : formB off c' with
      | false => rw [if_pos rfl]; exact .inr (.inr (.inr (.inl rfl)))
      | true =>
        rw [if_neg (by decide), if_pos (by rw [hd, hasB_iff, mem_putB]; exact .inl rfl)]
        exact .inr (.inr (.inr (.inr rfl)))
  · right; left; rw [if_pos (by rw [h]; decide), h]
/-- the second case with what binds the first -/
def CaX.like (y x : CaX) : CaX := { y with c := { y.c with L := x.c.L, A := x.c.A, R := x.c.R, P := x.c.P, W1 := x.c.W1, W2 := x.c.W2, W3 := x.c.W3, F := x.c.F }, aF := x.aF, nF := x.nF, cF := x.cF }
theorem CaX.like_C (y x : CaX) : (y.like x).C = (((((((( y.C.set 0 (.int .i64 x.c.L)).set 1 (.int .i64 x.c.A)).set 2 (.int .i64 x.c.R)).set 3 (.slice x.aF x.nF x.cF)).set 6 (.int .i64 x.c.P)).set 7 (.int .i64 x.c.W1)).set 8 (.int .i64 x.c.W2)).set 9 (.int .i64 x.c.W3)) := rfl
theorem CaX.like_D (y x : CaX) : caseD (y.like x).c = caseD x.c := rfl
theorem CaX.like_ok {y x : CaX} (hy : y.ok) (hx : x.ok) : (y.like x).ok := ⟨hx.l, hx.a, hx.r, hx.p, hx.w1, hx.w2, hx.w3, hy.t, hy.one⟩

set_option maxHeartbeats 4000000 in
theorem law_defenceOnce (aE : Option Addr) (nE cE : Nat) (l : List Ep) (bE : Option Addr) (mE dE : Nat) (k : List Ep) (aO : Option Addr) (nO cO : Nat) (off : List Int) (aP : Option Addr) (nP cP : Nat) (past : List Bytes) (x y : CaX) (now term later : Int) (w : World) (hG : Glob w)
    (hE : nE ≤ 5000 → IsE w aE nE cE l) (hE2 : mE ≤ 5000 → IsE w bE mE dE k) (hO : nO ≤ 5000 → IsIs w aO nO cO off) (hP : nP ≤ 5000 → IsD w aP nP cP past) (hx : CaIn w x) (hy : CaIn w y) :
    Calls Tryd.prog 3 #[.slice aE nE cE, .slice bE mE dE, .slice aO nO cO, .slice aP nP cP, .agg x.C.toArray, .agg y.C.toArray, .int .i64 now, .int .i64 term, .int .i64 later] w fun e w' => e = .returned (.bool true) ∧ Below w.heap.size w w' := by
  obtain ⟨X1, hX1⟩ : ∃ X : World, X = w.alloc (.cells x.C.toArray 35) := ⟨_, rfl⟩
  obtain ⟨X, hX⟩ : ∃ X : World, X = X1.alloc (.cells y.C.toArray 35) := ⟨_, rfl⟩
  have b1 : Below w.heap.size w X1 := by rw [hX1]; exact below_alloc _ _
  have b2 : Below X1.heap.size X1 X := by rw [hX]; exact below_alloc _ _
  have s1 : X1.heap.size = w.heap.size + 1 := by rw [hX1, size_alloc]
  obtain ⟨gx, hgx⟩ : ∃ g, g = w.heap.size := ⟨_, rfl⟩
  obtain ⟨gy, hgy⟩ : ∃ g, g = w.heap.size + 1 := ⟨_, rfl⟩
  have rx : X.rangeAt gx 0 x.C := rangeAt_below' (by rw [hX1, hgx]; exact rangeAt_row (heap_alloc_new w _)) b2
  have ry : X.rangeAt gy 0 y.C := by rw [hgy, ← s1, hX]; exact rangeAt_row (heap_alloc_new X1 _)
  have HB : Seal (Below w.heap.size w X) := ⟨b1.trans (b2.mono b1.size)⟩
  have HG : Seal (∀ W, Below w.heap.size w W → Glob W) := ⟨fun W h => hG.below h⟩
  have HR : Seal (X.rangeAt gx 0 x.C ∧ X.rangeAt gy 0 y.C) := ⟨rx, ry⟩
  have HS : Seal (∀ W, Below w.heap.size w W → W.rangeAt gx 0 x.C → W.rangeAt gy 0 y.C → fewF nE nO nP x.nK x.nF = true → fewF mE nO nP y.nK y.nF = true → LwS w aE nE cE l aO nO cO off aP nP cP past x y gx gy W) := ⟨fun W h rx ry f1 f2 => by
    obtain ⟨q1, q2, q3, q4, q5⟩ := fewF_iff.1 f1
    obtain ⟨_, _, _, p4, p5⟩ := fewF_iff.1 f2
    have hx' := hx.below h
    have hy' := hy.below h
    exact ⟨h, hG.below h, (hE (by omega)).below h, (hO (by omega)).below h, (hP (by omega)).of_heap h, q3, hx'.F (by omega), hx'.K (by omega), by omega, hx'.ok, hy'.F (by omega), hy'.K (by omega), by omega, hy'.ok, rx, ry⟩⟩
  have HSf : Seal (fewF nE nO nP x.nK x.nF = true → fewF mE nO nP y.nK y.nF = true → ∀ W, Below w.heap.size w W → Glob W ∧ IsE W aE nE cE l ∧ IsIs W aO nO cO off ∧ IsD W aP nP cP past ∧ IsL W x.aF x.nF x.cF x.c.F ∧ IsIs W x.aK x.nK x.cK x.c.K ∧ IsIs W y.aK y.nK y.cK y.c.K) := ⟨fun f1 f2 W h => by
    obtain ⟨q1, q2, q3, q4, q5⟩ := fewF_iff.1 f1
    obtain ⟨_, _, _, p4, p5⟩ := fewF_iff.1 f2
    have hx' := hx.below h
    have hy' := hy.below h
    exact ⟨hG.below h, (hE (by omega)).below h, (hO (by omega)).below h, (hP (by omega)).of_heap h, hx'.F (by omega), hx'.K (by omega), hy'.K (by omega)⟩⟩
  have HS2 : Seal (fewF mE nO nP y.nK y.nF = true → ∀ W, Below w.heap.size w W → IsE W bE mE dE k) := ⟨fun f2 W h => (hE2 (by have := (fewF_iff.1 f2).1; omega)).below h⟩
  have HYr : Seal (X.heap[gy]? = some (.cells y.C.toArray 35 (0, 0))) := ⟨by rw [hgy, ← s1, hX]; exact heap_alloc_new X1 _⟩
  have HGG : Seal (gx = w.heap.size ∧ gy = w.heap.size + 1) := ⟨hgx, hgy⟩
  obtain ⟨CX, hCX⟩ : ∃ C, C = x.C := ⟨_, rfl⟩
  obtain ⟨CY, hCY⟩ : ∃ C, C = y.C := ⟨_, rfl⟩
  have iX : (Tryd.prog.info? 35).map (·.size) = some CX.length := by rw [hCX]; exact CaX.info _
  have iY : (Tryd.prog.info? 35).map (·.size) = some CY.length := by rw [hCY]; exact CaX.info _
  have uC := Tryd.underlying35
  have HC : Seal (CX = x.C ∧ CY = y.C) := ⟨hCX, hCY⟩
  have hXX : X = (w.alloc (.cells CX.toArray 35)).alloc (.cells CY.toArray 35) := by rw [hX, hX1, hCX, hCY]
  rw [← hCX, ← hCY] at HR ⊢
  rw [← hCY] at HYr
  obtain ⟨f1, hf1⟩ : ∃ f, f = fewF nE nO nP x.nK x.nF := ⟨_, rfl⟩
  obtain ⟨f2, hf2⟩ : ∃ f, f = fewF mE nO nP y.nK y.nF := ⟨_, rfl⟩
  have HF : Seal (f1 = fewF nE nO nP x.nK x.nF ∧ f2 = fewF mE nO nP y.nK y.nF) := ⟨hf1, hf2⟩
  clear hX hX1 b1 b2 s1 rx ry hE hE2 hO hP hx hy hG hCX hCY hf1 hf2
  go_enter Tryd.func3, Tryd.ntmps3
  go_upto_region 1 with (fail)
  rw [← hXX, ← hgy, ← hgx]
  clear hXX hgy hgx
  have rX := HR.out.1
  have rY := HR.out.2
  clear HR
  go_wp2_with fail
  refine (fsane_any X (HG.out _ HB.out)).mono ?_
  rintro e w1 ⟨rfl, hb⟩
  have HYr := Seal.mk ((hb.block _ (Array.getElem?_eq_some_iff.1 HYr.out).1).trans HYr.out)
  have HB := Seal.mk (HB.out.trans (hb.mono HB.out.size))
  have rX := rangeAt_below' rX hb
  have rY := rangeAt_below' rY hb
  clear hb
  go_wp2_with (first
    | (refine wpList_load_mid_g (by kernel_rfl) 35 (.tmp 13) rfl gx 0 rfl CX _ rX uC rfl iX ?_; (try simp only [Act.put, List.setIfInBounds_toArray, List.set_cons_zero, List.set_cons_succ]))
    | (refine wpList_load_mid_g (by kernel_rfl) 35 (.tmp 14) rfl gy 0 rfl CY _ rY uC rfl iY ?_; (try simp only [Act.put, List.setIfInBounds_toArray, List.set_cons_zero, List.set_cons_succ])))
  rw [HC.out.1]
  refine (ffew_any aE aO aP nE cE nO cO nP cP x w1).mono ?_
  rintro e w2 ⟨rfl, hb⟩
  rw [← HC.out.1, ← HF.out.1]
  have HYr := Seal.mk ((hb.block _ (Array.getElem?_eq_some_iff.1 HYr.out).1).trans HYr.out)
  have HB := Seal.mk (HB.out.trans (hb.mono HB.out.size))
  have rX := rangeAt_below' rX hb
  have rY := rangeAt_below' rY hb
  clear hb
  cases f1 with
  | false =>
    go_wp2_with fail
    go_ret
    exact ⟨rfl, HB.out⟩
  | true =>
    go_wp2_with (first
      | (refine wpList_load_mid_g (by kernel_rfl) 35 (.tmp 13) rfl gx 0 rfl CX _ rX uC rfl iX ?_; (try simp only [Act.put, List.setIfInBounds_toArray, List.set_cons_zero, List.set_cons_succ]))
      | (refine wpList_load_mid_g (by kernel_rfl) 35 (.tmp 14) rfl gy 0 rfl CY _ rY uC rfl iY ?_; (try simp only [Act.put, List.setIfInBounds_toArray, List.set_cons_zero, List.set_cons_succ])))
    rw [HC.out.2]
    refine (ffew_any bE aO aP mE dE nO cO nP cP y w2).mono ?_
    rintro e w3 ⟨rfl, hb⟩
    rw [← HC.out.2, ← HF.out.2]
    have HYr := Seal.mk ((hb.block _ (Array.getElem?_eq_some_iff.1 HYr.out).1).trans HYr.out)
    have HB := Seal.mk (HB.out.trans (hb.mono HB.out.size))
    have rX := rangeAt_below' rX hb
    have rY := rangeAt_below' rY hb
    clear hb
    cases f2 with
    | false =>
      go_wp2_with fail
      go_ret
      exact ⟨rfl, HB.out⟩
    | true =>
      have HL := Seal.mk (HS.out w3 HB.out (by rw [← HC.out.1]; exact rX) (by rw [← HC.out.2]; exact rY) HF.out.1.symm HF.out.2.symm)
      have HE2 : Seal (∀ W, Below w.heap.size w W → IsE W bE mE dE k) := ⟨HS2.out HF.out.2.symm⟩
      have HLf : Seal (∀ W, Below w.heap.size w W → Glob W ∧ IsE W aE nE cE l ∧ IsIs W aO nO cO off ∧ IsD W aP nP cP past ∧ IsL W x.aF x.nF x.cF x.c.F ∧ IsIs W x.aK x.nK x.cK x.c.K ∧ IsIs W y.aK y.nK y.cK y.c.K) := ⟨HSf.out HF.out.1.symm HF.out.2.symm⟩
      clear HS HF HG HB HS2 HSf
      obtain ⟨e1, he1⟩ : ∃ e, e = admE l off past x.c now term := ⟨_, rfl⟩
      obtain ⟨l1, hl1⟩ : ∃ e, e = admL l off past x.c now term := ⟨_, rfl⟩
      have HM : Seal (e1 = admE l off past x.c now term ∧ l1 = admL l off past x.c now term) := ⟨he1, hl1⟩
      clear he1 hl1
      go_wp2_with (first
        | (refine wpList_load_mid_g (by kernel_rfl) 35 (.tmp 13) rfl gx 0 rfl CX _ rX uC rfl iX ?_; (try simp only [Act.put, List.setIfInBounds_toArray, List.set_cons_zero, List.set_cons_succ]))
        | (refine wpList_load_mid_g (by kernel_rfl) 35 (.tmp 14) rfl gy 0 rfl CY _ rY uC rfl iY ?_; (try simp only [Act.put, List.setIfInBounds_toArray, List.set_cons_zero, List.set_cons_succ])))
      have hA := HL.out.admx HL.out.P (by have := HL.out.p4; omega) now term
      rw [← HM.out.1, ← HM.out.2, ← HC.out.1] at hA
      refine hA.mono ?_
      rintro e w4 ⟨a1, n1, c1, rfl, hi, hb⟩
      have HL := Seal.mk (HL.out.step hb)
      have HYr := Seal.mk ((hb.block _ (Array.getElem?_eq_some_iff.1 HYr.out).1).trans HYr.out)
      have rX := rangeAt_below' rX hb
      have rY := rangeAt_below' rY hb
      have HD := Seal.mk hi.out.1
      clear hA hi hb
      by_cases q1 : e1 = 0
      rotate_left
      · have hn : n1 = 0 := by
          have h1 := HD.out.llen
          rw [HM.out.2, adm_no HM.out.1.symm q1] at h1
          exact h1.symm
        subst hn
        go_wp2_with fail
        go_ret
        exact ⟨rfl, HL.out.bel⟩
      subst q1
      have HO := Seal.mk (once_facts HM.out.1.symm)
      have hl := HM.out.2
      rw [adm_yes HM.out.1.symm] at hl
      have HLl := Seal.mk hl
      obtain rfl : n1 = nP + 1 := by
        have h1 := HD.out.llen
        have h2 := HL.out.P.llen
        rw [hl, putB_length] at h1
        omega
      clear hl
      go_wp2_with fail
      obtain ⟨xL, hxL⟩ : ∃ z, z = x.c.L := ⟨_, rfl⟩
      obtain ⟨xA, hxA⟩ : ∃ z, z = x.c.A := ⟨_, rfl⟩
      obtain ⟨xR, hxR⟩ : ∃ z, z = x.c.R := ⟨_, rfl⟩
      obtain ⟨xP, hxP⟩ : ∃ z, z = x.c.P := ⟨_, rfl⟩
      obtain ⟨x1, hx1⟩ : ∃ z, z = x.c.W1 := ⟨_, rfl⟩
      obtain ⟨x2, hx2⟩ : ∃ z, z = x.c.W2 := ⟨_, rfl⟩
      obtain ⟨x3, hx3⟩ : ∃ z, z = x.c.W3 := ⟨_, rfl⟩
      obtain ⟨aF, haF⟩ : ∃ z, z = x.aF := ⟨_, rfl⟩
      obtain ⟨nF, hnF⟩ : ∃ z, z = x.nF := ⟨_, rfl⟩
      obtain ⟨cF, hcF⟩ : ∃ z, z = x.cF := ⟨_, rfl⟩
      have hCx := caAt_of HL.out.rx
      have kR := hCx.run
      have kW := hCx.words
      have kF := hCx.F
      have kP := hCx.P
      rw [← hxL, ← hxA, ← hxR] at kR
      rw [← hx1, ← hx2, ← hx3] at kW
      rw [← haF, ← hnF, ← hcF] at kF
      rw [← hxP] at kP
      have HLk : Seal ((y.like x).C = ((((((((CY.set 0 (.int .i64 xL)).set 1 (.int .i64 xA)).set 2 (.int .i64 xR)).set 3 (.slice aF nF cF)).set 6 (.int .i64 xP)).set 7 (.int .i64 x1)).set 8 (.int .i64 x2)).set 9 (.int .i64 x3))) := ⟨by rw [HC.out.2, hxL, hxA, hxR, hxP, hx1, hx2, hx3, haF, hnF, hcF]; exact CaX.like_C y x⟩
      have uR := Tryd.underlying26
      have uW := Tryd.underlying30
      have iR : (Tryd.prog.info? 26).map (·.size) = some ([.int .i64 xL, .int .i64 xA, .int .i64 xR] : List Value).length := by kernel_rfl
      have iW : (Tryd.prog.info? 30).map (·.size) = some ([.int .i64 x1, .int .i64 x2, .int .i64 x3] : List Value).length := by kernel_rfl
      have hgxy : gx ≠ gy := by have := HGG.out; omega
      clear hxL hxA hxR hxP hx1 hx2 hx3 haF hnF hcF hCx rX rY
      refine wp_region_held_drew (S := fun W => W.rangeAt gx 0 [.int .i64 xL, .int .i64 xA, .int .i64 xR] ∧ W.rangeAt gx 7 [.int .i64 x1, .int .i64 x2, .int .i64 x3] ∧ W.cell? ⟨gx, 3, none⟩ = some (.slice aF nF cF) ∧ W.cell? ⟨gx, 6, none⟩ = some (.int .i64 xP)) (by kernel_rfl) ⟨kR, kW, kF, kP⟩ (fun hHeld => ?_)
      obtain ⟨V, hV⟩ : ∃ V, V = w4.drew := ⟨_, rfl⟩
      have hb : Below w4.heap.size w4 V := by rw [hV]; exact below_drewn_f _
      have HL := Seal.mk (HL.out.step hb)
      have HYr := Seal.mk ((hb.block _ (Array.getElem?_eq_some_iff.1 HYr.out).1).trans HYr.out)
      have HD := Seal.mk (HD.out.of_heap hb)
      rw [← hV] at hHeld ⊢
      clear hV hb kR kW kF kP
      refine take_h 0 ?_ rfl (by kernel_rfl) (by kernel_rfl) (by kernel_rfl) (fun _ _ _ h => h) (Or.inl ⟨by kernel_rfl, ?_⟩) (by assumption) ?_
      rotate_left
      · (intro w hSw; (try dsimp only at hSw); go_simp; try (with_reducible rfl))
      try simp only [Act.put, List.setIfInBounds_toArray, List.set_cons_zero, List.set_cons_succ]
      refine take_h 1 _ rfl (by kernel_rfl) (by kernel_rfl) (by kernel_rfl) (fun _ _ _ h => h) (yieldsIf_load_mid (by kernel_rfl) 26 (.tmp 54) rfl gx 0 rfl [.int .i64 xL, .int .i64 xA, .int .i64 xR] _ (fun w hSw => hSw.1) uR rfl iR) (by assumption) ?_
      try simp only [Act.put, List.setIfInBounds_toArray, List.set_cons_zero, List.set_cons_succ]
      refine take_h 2 ?_ rfl (by kernel_rfl) (by kernel_rfl) (by kernel_rfl) (fun _ _ _ h => h) (Or.inl ⟨by kernel_rfl, ?_⟩) (by assumption) ?_
      rotate_left
      · (intro w hSw; (try dsimp only at hSw); go_simp; try (with_reducible rfl))
      try simp only [Act.put, List.setIfInBounds_toArray, List.set_cons_zero, List.set_cons_succ]
      refine take_h 3 ?_ rfl (by kernel_rfl) (by kernel_rfl) (by kernel_rfl) (fun _ _ _ h => h) (Or.inl ⟨by kernel_rfl, ?_⟩) (by assumption) ?_
      rotate_left
      · (intro w hSw; (try dsimp only at hSw); go_simp; try (with_reducible rfl))
      try simp only [Act.put, List.setIfInBounds_toArray, List.set_cons_zero, List.set_cons_succ]
      refine take_h 4 ?_ rfl (by kernel_rfl) (by kernel_rfl) (by kernel_rfl) (fun _ _ _ h => h) (Or.inl ⟨by kernel_rfl, ?_⟩) (by assumption) ?_
      rotate_left
      · (intro w hSw; (try dsimp only at hSw); go_simp; try (with_reducible rfl))
      try simp only [Act.put, List.setIfInBounds_toArray, List.set_cons_zero, List.set_cons_succ]
      refine take_h 5 ?_ rfl (by kernel_rfl) (by kernel_rfl) (by kernel_rfl) (fun _ _ _ h => h) (Or.inl ⟨by kernel_rfl, ?_⟩) (by assumption) ?_
      rotate_left
      · (intro w hSw; (try dsimp only at hSw); go_simp; try (with_reducible rfl))
      try simp only [Act.put, List.setIfInBounds_toArray, List.set_cons_zero, List.set_cons_succ]
      refine take_h 6 ?_ rfl (by kernel_rfl) (by kernel_rfl) (by kernel_rfl) (fun _ _ _ h => h) (Or.inl ⟨by kernel_rfl, ?_⟩) (by assumption) ?_
      rotate_left
      · (intro w hSw; (try dsimp only at hSw); go_simp; try (with_reducible rfl))
      try simp only [Act.put, List.setIfInBounds_toArray, List.set_cons_zero, List.set_cons_succ]
      refine take_h 7 ?_ rfl (by kernel_rfl) (by kernel_rfl) (by kernel_rfl) (fun _ _ _ h => h) (Or.inl ⟨by kernel_rfl, ?_⟩) (by assumption) ?_
      rotate_left
      · (intro w hSw; (try dsimp only at hSw); go_simp; try (with_reducible rfl))
      try simp only [Act.put, List.setIfInBounds_toArray, List.set_cons_zero, List.set_cons_succ]
      refine take_h 8 ?_ rfl (by kernel_rfl) (by kernel_rfl) (by kernel_rfl) (fun _ _ _ h => h) (Or.inl ⟨by kernel_rfl, ?_⟩) (by assumption) ?_
      rotate_left
      · (intro w hSw; (try dsimp only at hSw); go_simp; try (with_reducible rfl))
      try simp only [Act.put, List.setIfInBounds_toArray, List.set_cons_zero, List.set_cons_succ]
      refine take_h 9 _ rfl (by kernel_rfl) (by kernel_rfl) (by kernel_rfl) (fun _ _ _ h => h) (yieldsIf_load_mid (by kernel_rfl) 30 (.tmp 62) rfl gx 7 rfl [.int .i64 x1, .int .i64 x2, .int .i64 x3] _ (fun w hSw => hSw.2.1) uW rfl iW) (by assumption) ?_
      try simp only [Act.put, List.setIfInBounds_toArray, List.set_cons_zero, List.set_cons_succ]
      refine take_h 10 ?_ rfl (by kernel_rfl) (by kernel_rfl) (by kernel_rfl) (fun _ _ _ h => h) (Or.inl ⟨by kernel_rfl, ?_⟩) (by assumption) ?_
      rotate_left
      · (intro w hSw; (try dsimp only at hSw); go_simp; try (with_reducible rfl))
      try simp only [Act.put, List.setIfInBounds_toArray, List.set_cons_zero, List.set_cons_succ]
      have hlen : CY.length = 15 := by rw [HC.out.2]; exact CaX.len _
      have ro : ∀ {W : World} {D : List Value} (h : W.heap[gy]? = some (.cells D.toArray 35 (0, 0))) (hD : D.length = 15) (i : Nat) (hi : i < 15), (∃ v, W.cell? ⟨gy, i, none⟩ = some v) ∧ W.frozen? ⟨gy, i, none⟩ = false := fun h hD i hi => ⟨⟨_, by rw [cell_of_row _ _ _ _ _ _ h, List.getElem?_toArray]; exact List.getElem?_eq_getElem (by omega)⟩, frozen_of_row _ _ _ _ _ h⟩
      have se : ∀ {W : World} {D : List Value} (h : W.heap[gy]? = some (.cells D.toArray 35 (0, 0))) (i : Nat) (v : Value), (W.setCell ⟨gy, i, none⟩ v).heap[gy]? = some (.cells (D.set i v).toArray 35 (0, 0)) := fun h i v => heap_setCell_row v h
      have ot : ∀ (W : World) (i : Nat) (v : Value) (k : Nat), k ≠ gy → (W.setCell ⟨gy, i, none⟩ v).heap[k]? = W.heap[k]? := fun W i v k hk => Below.heap_setCell W ⟨gy, i, none⟩ v k hk
      have kS : ∀ (W : World) (i : Nat) (v : Value), (W.rangeAt gx 0 [.int .i64 xL, .int .i64 xA, .int .i64 xR] ∧ W.rangeAt gx 7 [.int .i64 x1, .int .i64 x2, .int .i64 x3] ∧ W.cell? ⟨gx, 3, none⟩ = some (.slice aF nF cF) ∧ W.cell? ⟨gx, 6, none⟩ = some (.int .i64 xP)) → ((W.setCell ⟨gy, i, none⟩ v).rangeAt gx 0 [.int .i64 xL, .int .i64 xA, .int .i64 xR] ∧ (W.setCell ⟨gy, i, none⟩ v).rangeAt gx 7 [.int .i64 x1, .int .i64 x2, .int .i64 x3] ∧ (W.setCell ⟨gy, i, none⟩ v).cell? ⟨gx, 3, none⟩ = some (.slice aF nF cF) ∧ (W.setCell ⟨gy, i, none⟩ v).cell? ⟨gx, 6, none⟩ = some (.int .i64 xP)) := fun W i v h =>
        ⟨fun j u hu => (World.cell?_of_block (w := W) (ot W i v gx hgxy)).trans (h.1 j u hu), fun j u hu => (World.cell?_of_block (w := W) (ot W i v gx hgxy)).trans (h.2.1 j u hu), (World.cell?_of_block (w := W) (ot W i v gx hgxy)).trans h.2.2.1, (World.cell?_of_block (w := W) (ot W i v gx hgxy)).trans h.2.2.2⟩
      obtain ⟨V0, hV0⟩ : ∃ Z, Z = V.setCell ⟨gy, 0, none⟩ (.int .i64 xL) := ⟨_, rfl⟩
      obtain ⟨V1, hV1⟩ : ∃ Z, Z = V0.setCell ⟨gy, 1, none⟩ (.int .i64 xA) := ⟨_, rfl⟩
      obtain ⟨V2, hV2⟩ : ∃ Z, Z = V1.setCell ⟨gy, 2, none⟩ (.int .i64 xR) := ⟨_, rfl⟩
      obtain ⟨V3, hV3⟩ : ∃ Z, Z = V2.setCell ⟨gy, 3, none⟩ (.slice aF nF cF) := ⟨_, rfl⟩
      obtain ⟨V4, hV4⟩ : ∃ Z, Z = V3.setCell ⟨gy, 6, none⟩ (.int .i64 xP) := ⟨_, rfl⟩
      obtain ⟨V5, hV5⟩ : ∃ Z, Z = V4.setCell ⟨gy, 7, none⟩ (.int .i64 x1) := ⟨_, rfl⟩
      obtain ⟨V6, hV6⟩ : ∃ Z, Z = V5.setCell ⟨gy, 8, none⟩ (.int .i64 x2) := ⟨_, rfl⟩
      obtain ⟨V7, hV7⟩ : ∃ Z, Z = V6.setCell ⟨gy, 9, none⟩ (.int .i64 x3) := ⟨_, rfl⟩
      have r0 := se HYr.out 0 (.int .i64 xL)
      rw [← hV0] at r0
      have r1 := se r0 1 (.int .i64 xA)
      rw [← hV1] at r1
      have r2 := se r1 2 (.int .i64 xR)
      rw [← hV2] at r2
      have r3 := se r2 3 (.slice aF nF cF)
      rw [← hV3] at r3
      have r4 := se r3 6 (.int .i64 xP)
      rw [← hV4] at r4
      have r5 := se r4 7 (.int .i64 x1)
      rw [← hV5] at r5
      have r6 := se r5 8 (.int .i64 x2)
      rw [← hV6] at r6
      have r7 := se r6 9 (.int .i64 x3)
      rw [← hV7] at r7
      have S0 := kS V 0 (.int .i64 xL) hHeld
      rw [← hV0] at S0
      have S1 := kS V0 1 (.int .i64 xA) S0
      rw [← hV1] at S1
      have S2 := kS V1 2 (.int .i64 xR) S1
      rw [← hV2] at S2
      have S3 := kS V2 3 (.slice aF nF cF) S2
      rw [← hV3] at S3
      have S4 := kS V3 6 (.int .i64 xP) S3
      rw [← hV4] at S4
      have S5 := kS V4 7 (.int .i64 x1) S4
      rw [← hV5] at S5
      have S6 := kS V5 8 (.int .i64 x2) S5
      rw [← hV6] at S6
      have S7 := kS V6 9 (.int .i64 x3) S6
      rw [← hV7] at S7
      obtain ⟨⟨v0, z0⟩, fz0⟩ := ro HYr.out hlen 0 (by decide)
      obtain ⟨⟨v1, z1⟩, fz1⟩ := ro HYr.out hlen 1 (by decide)
      obtain ⟨⟨v2, z2⟩, fz2⟩ := ro HYr.out hlen 2 (by decide)
      obtain ⟨⟨v3, z3⟩, fz3⟩ := ro r2 (by simp [hlen]) 3 (by decide)
      obtain ⟨⟨v4, z4⟩, fz4⟩ := ro r3 (by simp [hlen]) 6 (by decide)
      obtain ⟨⟨v5, z5⟩, fz5⟩ := ro r4 (by simp [hlen]) 7 (by decide)
      obtain ⟨⟨v6, z6⟩, fz6⟩ := ro r4 (by simp [hlen]) 8 (by decide)
      obtain ⟨⟨v7, z7⟩, fz7⟩ := ro r4 (by simp [hlen]) 9 (by decide)
      have hE02 : V2 = ((V.setCell ⟨gy, 0, none⟩ (.int .i64 xL)).setCell ⟨gy, 1, none⟩ (.int .i64 xA)).setCell ⟨gy, 2, none⟩ (.int .i64 xR) := by rw [hV2, hV1, hV0]
      have hE57 : V7 = ((V4.setCell ⟨gy, 7, none⟩ (.int .i64 x1)).setCell ⟨gy, 8, none⟩ (.int .i64 x2)).setCell ⟨gy, 9, none⟩ (.int .i64 x3) := by rw [hV7, hV6, hV5]
      have hoth : ∀ k, k ≠ gy → V7.heap[k]? = V.heap[k]? := fun k hk => by
        rw [hV7, ot _ _ _ k hk, hV6, ot _ _ _ k hk, hV5, ot _ _ _ k hk, hV4, ot _ _ _ k hk, hV3, ot _ _ _ k hk, hV2, ot _ _ _ k hk, hV1, ot _ _ _ k hk, hV0, ot _ _ _ k hk]
      have HV7 : Seal (Below w.heap.size w V7 ∧ V7.heap[gy]? = some (.cells (y.like x).C.toArray 35 (0, 0)) ∧ ∀ k, k ≠ gy → V7.heap[k]? = V.heap[k]?) := ⟨by
        refine ⟨?_, by rw [HLk.out]; exact r7, hoth⟩
        have hle : w.heap.size ≤ gy := by have := HGG.out; omega
        have st : ∀ {W : World} (i : Nat) (v : Value), Below w.heap.size w W → Below w.heap.size w (W.setCell ⟨gy, i, none⟩ v) := fun i v h => h.setCell (p := ⟨gy, i, none⟩) hle v
        rw [hV7, hV6, hV5, hV4, hV3, hV2, hV1, hV0]
        exact st _ _ (st _ _ (st _ _ (st _ _ (st _ _ (st _ _ (st _ _ (st _ _ HL.out.bel)))))))⟩
      have HVV : Seal (V3 = V2.setCell ⟨gy, 3, none⟩ (.slice aF nF cF) ∧ V4 = V3.setCell ⟨gy, 6, none⟩ (.int .i64 xP) ∧ V2 = ((V.setCell ⟨gy, 0, none⟩ (.int .i64 xL)).setCell ⟨gy, 1, none⟩ (.int .i64 xA)).setCell ⟨gy, 2, none⟩ (.int .i64 xR) ∧ V7 = ((V4.setCell ⟨gy, 7, none⟩ (.int .i64 x1)).setCell ⟨gy, 8, none⟩ (.int .i64 x2)).setCell ⟨gy, 9, none⟩ (.int .i64 x3)) := ⟨hV3, hV4, hE02, hE57⟩
      have HYv := HYr
      clear ro se ot kS hlen hV0 hV1 hV2 hV3 hV4 hV5 hV6 hV7 hE02 hE57 hoth r0 r1 r2 r3 r4 r5 r6 r7 S0 S1 S5 S6 hHeld
      refine skip_h 11 V2 rfl (by kernel_rfl) (by kernel_rfl) (by rw [HVV.out.2.2.1]; go_simp) S2 (fun hHeld => ?_)
      try simp only [Act.put]
      refine take_h 12 ?_ rfl (by kernel_rfl) (by kernel_rfl) (by kernel_rfl) (fun _ _ _ h => h) (Or.inl ⟨by kernel_rfl, ?_⟩) (by assumption) ?_
      rotate_left
      · (intro w hSw; (try dsimp only at hSw); go_simp; try (with_reducible rfl))
      try simp only [Act.put, List.setIfInBounds_toArray, List.set_cons_zero, List.set_cons_succ]
      clear hHeld
      refine skip_h 13 V3 rfl (by kernel_rfl) (by kernel_rfl) (by rw [HVV.out.1]; go_simp) S3 (fun hHeld => ?_)
      try simp only [Act.put]
      refine take_h 14 ?_ rfl (by kernel_rfl) (by kernel_rfl) (by kernel_rfl) (fun _ _ _ h => h) (Or.inl ⟨by kernel_rfl, ?_⟩) (by assumption) ?_
      rotate_left
      · (intro w hSw; (try dsimp only at hSw); go_simp; try (with_reducible rfl))
      try simp only [Act.put, List.setIfInBounds_toArray, List.set_cons_zero, List.set_cons_succ]
      refine take_h 15 ?_ rfl (by kernel_rfl) (by kernel_rfl) (by kernel_rfl) (fun _ _ _ h => h) (Or.inl ⟨by kernel_rfl, ?_⟩) (by assumption) ?_
      rotate_left
      · (intro w hSw; (try dsimp only at hSw); go_simp; try (with_reducible rfl))
      try simp only [Act.put, List.setIfInBounds_toArray, List.set_cons_zero, List.set_cons_succ]
      clear hHeld
      refine skip_h 16 V4 rfl (by kernel_rfl) (by kernel_rfl) (by rw [HVV.out.2.1]; go_simp) S4 (fun hHeld => ?_)
      try simp only [Act.put]
      refine take_h 17 ?_ rfl (by kernel_rfl) (by kernel_rfl) (by kernel_rfl) (fun _ _ _ h => h) (Or.inl ⟨by kernel_rfl, ?_⟩) (by assumption) ?_
      rotate_left
      · (intro w hSw; (try dsimp only at hSw); go_simp; try (with_reducible rfl))
      try simp only [Act.put, List.setIfInBounds_toArray, List.set_cons_zero, List.set_cons_succ]
      refine take_h 18 ?_ rfl (by kernel_rfl) (by kernel_rfl) (by kernel_rfl) (fun _ _ _ h => h) (Or.inl ⟨by kernel_rfl, ?_⟩) (by assumption) ?_
      rotate_left
      · (intro w hSw; (try dsimp only at hSw); go_simp; try (with_reducible rfl))
      try simp only [Act.put, List.setIfInBounds_toArray, List.set_cons_zero, List.set_cons_succ]
      clear hHeld
      refine skip_h 19 V7 rfl (by kernel_rfl) (by kernel_rfl) (by rw [HVV.out.2.2.2]; go_simp) S7 (fun hHeld2 => ?_)
      try simp only [Act.put]
      clear HVV S2 S3 S4 S7 z0 z1 z2 z3 z4 z5 z6 z7 fz0 fz1 fz2 fz3 fz4 fz5 fz6 fz7 HYr
      refine wpAnyH_done (by kernel_rfl) ?_ _
      have HD := Seal.mk (fdisD_set HD.out (fun g o e => by
        have hD := HD.out
        rw [e] at hD
        exact fdisD_ne hD (Nat.succ_pos _) (by rw [HC.out.2, CaX.len]; decide) HYv.out) HV7.out.2.2)
      have HL7 : Seal (LwS w aE nE cE l aO nO cO off aP nP cP past x (y.like x) gx gy V7) := ⟨by
        have h := HLf.out V7 HV7.out.1
        have hrx : V7.rangeAt gx 0 x.C := fun j u hu => (World.cell?_of_block (w := V) (HV7.out.2.2 gx hgxy)).trans (HL.out.rx j u hu)
        exact ⟨HV7.out.1, h.1, h.2.1, h.2.2.1, h.2.2.2.1, HL.out.p4, h.2.2.2.2.1, h.2.2.2.2.2.1, HL.out.x1, HL.out.xo, h.2.2.2.2.1, h.2.2.2.2.2.2, HL.out.x1, CaX.like_ok HL.out.yo HL.out.xo, hrx, rangeAt_row HV7.out.2.1⟩⟩
      have hn40 := HL.out.p4
      have HL := HL7
      clear HL7 HV7 HYv HLf
      obtain ⟨CZ, hCZ⟩ : ∃ C, C = (y.like x).C := ⟨_, rfl⟩
      have iZ : (Tryd.prog.info? 35).map (·.size) = some CZ.length := by rw [hCZ]; exact CaX.info _
      have HCZ := Seal.mk hCZ
      have rZ := HL.out.ry
      rw [← hCZ] at rZ
      clear hCZ iY HLk hgxy iR iW uR uW
      go_wp2_with (refine wpList_load_mid_g (by kernel_rfl) 35 (.tmp 14) rfl gy 0 rfl CZ _ rZ uC rfl iZ ?_; (try simp only [Act.put, List.setIfInBounds_toArray, List.set_cons_zero, List.set_cons_succ]))
      obtain ⟨e2, he2⟩ : ∃ e, e = admE k off l1 (y.like x).c later term := ⟨_, rfl⟩
      have hA : Calls Tryd.prog 8 #[.slice bE mE dE, .slice aO nO cO, .slice a1 (nP + 1) c1, .agg CZ.toArray, .int .i64 later, .int .i64 term] V7 (FdPost [] e2 V7) := by
        have h := fadmit_any { aE := bE, nE := mE, cE := dE, l := k, aO := aO, nO := nO, cO := cO, off := off, aP := a1, nP := nP + 1, cP := c1, past := l1, x := y.like x, now := later, term := term } V7 ⟨HL.out.G, HE2.out V7 HL.out.bel, HL.out.O, HD.out, HL.out.yF, HL.out.yK, HL.out.y1, show nP + 1 ≤ 4000 by omega, HL.out.yo⟩
        have h0 : admE k off l1 (y.like x).c later term ≠ 0 := by rw [HLl.out]; exact once_plain (CaX.like_D y x)
        rw [HCZ.out, he2]
        have h2 := adm_no (rfl : admE k off l1 (y.like x).c later term = _) h0
        rw [← h2]
        exact h
      have q2 : e2 = 2 ∨ e2 = 470 ∨ e2 = 1 ∨ e2 = 560 ∨ e2 = 181 := once_val (l := k) (off := off) (past := past) (c := x.c) (c' := (y.like x).c) (now := later) (term := term) (CaX.like_D y x) (he2.trans (by rw [HLl.out]))
      clear he2
      refine hA.mono ?_
      rintro e w5 ⟨a2, n2, c2, rfl, hi, hb⟩
      obtain rfl : n2 = 0 := by have := hi.out.1.llen; simpa using this.symm
      have HL := Seal.mk (HL.out.step hb)
      have HD := Seal.mk (HD.out.of_heap hb)
      have q3 : IntKind.i64.wrap ((nP : Int) + 1) = (nP : Int) + 1 := IntWalk.i64_in _ (by omega)
      have rX := HL.out.rx
      rw [← HC.out.1] at rX
      have hU : Calls Tryd.prog 9 #[.slice a1 (nP + 1) c1] w5 fun e w' => e = .returned (.bool true) ∧ Below w5.heap.size w5 w' := by
        have h := rused_any a1 (nP + 1) c1 l1 w5 HD.out
        rwa [HLl.out, HO.out.1] at h
      clear hA hi hb rZ
      rcases q2 with rfl | rfl | rfl | rfl | rfl
      all_goals
        go_wp2_with fail
        refine hU.mono ?_
        rintro e w6 ⟨rfl, hb⟩
        have HL := Seal.mk (HL.out.step hb)
        have HD := Seal.mk (HD.out.of_heap hb)
        have rX := rangeAt_below' rX hb
        clear hU hb
        obtain ⟨CD, hCD⟩ : ∃ C, C = (caseD x.c).map B := ⟨_, rfl⟩
        have HCD := Seal.mk hCD
        have hDg : Calls Tryd.prog 11 #[.agg CX.toArray] w6 fun e w' => e = .returned (.agg CD.toArray) ∧ Below w6.heap.size w6 w' := by
          rw [HC.out.1, hCD]
          exact dcase_any x w6 HL.out.G HL.out.xo HL.out.xF HL.out.x1
        clear hCD
        go_wp2_with (refine wpList_load_mid_g (by kernel_rfl) 35 (.tmp 13) rfl gx 0 rfl CX _ rX uC rfl iX ?_; (try simp only [Act.put, List.setIfInBounds_toArray, List.set_cons_zero, List.set_cons_succ]))
        refine hDg.mono ?_
        rintro e w7 ⟨rfl, hb⟩
        have HL := Seal.mk (HL.out.step hb)
        have HD := Seal.mk (HD.out.of_heap hb)
        clear hb hDg
        have hH : Calls Tryd.prog 10 #[.slice a1 (nP + 1) c1, .agg CD.toArray] w7 fun e w' => e = .returned (.bool true) ∧ Below w7.heap.size w7 w' := by
          have h := rhas_any a1 (nP + 1) c1 l1 (caseD x.c) w7 HD.out (caseD_len _)
          rwa [HLl.out, HO.out.2, ← HCD.out] at h
        go_wp2_with fail
        refine hH.mono ?_
        rintro e w8 ⟨rfl, hb⟩
        have HL := Seal.mk (HL.out.step hb)
        clear hb hH
        go_wp2_with fail
        go_ret
        exact ⟨by first | rfl | simp, HL.out.bel⟩
end Frk
