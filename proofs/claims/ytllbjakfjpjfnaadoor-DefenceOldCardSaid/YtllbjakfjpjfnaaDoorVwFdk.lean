/- Law 57: DefenceOld. -/
import Derived.Test.YtllbjakfjpjfnaaDoorVwgFlw
namespace Frk
open Go Go.RowKit Go.Proofs
set_option maxRecDepth 100000

theorem isIs_cell {w : World} {g o n c : Nat} {l : List Int} (h : IsIs w (some ⟨g, o, none⟩) n c l) {j : Nat} (hj : j < n) : w.cell? ⟨g, o + j, none⟩ = some (.int .i64 (l.getD j 0)) := by
  rcases h.at_ with h0 | ⟨g', o', e, hr, _⟩
  · omega
  · cases e
    have hl : j < l.length := by rw [h.llen]; exact hj
    refine hr j _ ?_
    rw [show l.flatMap intC = l.map (Value.int .i64) from intC_flat l, List.getElem?_map, List.getElem?_eq_getElem hl, List.getD_eq_getElem?_getD, List.getElem?_eq_getElem hl]
    rfl
theorem info_intF : (Tryd.prog.info? 3).map (fun i => (i.zero, i.size, i.bytes)) = some (some (.int .i64 0), 1, 8) := by kernel_rfl
theorem own_litI (w : World) : (w.alloc (.cells #[] 3)).ownsRow w.heap.size 3 1 (.slice (some ⟨w.heap.size, 0, none⟩) 0 0) 0 [] :=
  ⟨rfl, .inr ⟨w.heap.size, 0, #[], rfl, Nat.le_refl _, heap_alloc_new w _, Nat.le_refl _, by decide, rfl, rfl⟩⟩
/-- a copy of numbers, one of them exchanged -/
theorem fcopy_set {W' Z : World} {base g n c i : Nat} {K : List Int} {key : Int} (h : W'.ownsRow base 3 1 (.slice (some ⟨g, 0, none⟩) n c) n (K.map (Value.int .i64))) (hn : K.length = n) (h5 : n ≤ 5000) (hi : i < n) (hZ : Z.heap[g]? = W'.heap[g]?) :
    (∃ v, Z.cell? ⟨g, i, none⟩ = some v) ∧ Z.frozen? ⟨g, i, none⟩ = false ∧ IsIs (Z.setCell ⟨g, i, none⟩ (.int .i64 key)) (some ⟨g, 0, none⟩) n c (K.set i key) := by
  rcases h.2 with ⟨e, _⟩ | ⟨g', cap, cur, e, hb, hg, hnc, hcm, hcs, htk⟩
  · cases e
  · cases e
    rw [← hZ] at hg
    have hg' : Z.heap[g]? = some (.cells cur.toList.toArray 3 (0, 0)) := by simpa using hg
    have hlen : cur.toList.length = c := by simpa using hcs
    have hset := heap_setCell_row (i := i) (.int .i64 key) hg'
    refine ⟨⟨_, by rw [cell_of_row _ _ _ _ _ _ hg', List.getElem?_toArray]; exact List.getElem?_eq_getElem (by omega)⟩, frozen_of_row _ _ _ _ _ hg', by rw [List.length_set]; exact hn, hnc, h5, by unfold maxLen at hcm; omega, fun x _ => rfl, .inr ⟨g, 0, rfl, ?_, (Array.getElem?_eq_some_iff.1 hset).1⟩⟩
    have h1 := rangeAt_take (rangeAt_row hset) n
    rw [List.take_set] at h1
    rw [show cur.toList.take n = K.map (Value.int .i64) from by simpa using htk] at h1
    rw [intC_flat, List.map_set]
    exact h1
/-- the loop over the offices -/
def FkRel (n : Nat) (w0 : World) (i : Value) (w : World) : Prop := ∃ j : Nat, j ≤ n ∧ i = .int .i64 j ∧ Seal (Below w0.heap.size w0 w)
/-- the case with other keys -/
def CaX.keyed (x : CaX) (K : List Int) (g n c : Nat) : CaX := { x with c := { x.c with K := K }, aK := some ⟨g, 0, none⟩, nK := n, cK := c }
theorem CaX.keyed_C (x : CaX) (K : List Int) (g n c : Nat) : (x.keyed K g n c).C = x.C.set 4 (.slice (some ⟨g, 0, none⟩) n c) := rfl
theorem CaX.keyed_ok {x : CaX} (h : x.ok) (K : List Int) (g n c : Nat) : (x.keyed K g n c).ok := ⟨h.l, h.a, h.r, h.p, h.w1, h.w2, h.w3, h.t, h.one⟩
set_option maxHeartbeats 4000000 in
theorem law_defenceOld (aE : Option Addr) (nE cE : Nat) (l : List Ep) (aO : Option Addr) (nO cO : Nat) (off : List Int) (aP : Option Addr) (nP cP : Nat) (past : List Bytes) (x : CaX) (now term : Int) (u : Int) (key : Int) (w : World) (hG : Glob w)
    (hE : nE ≤ 5000 → IsE w aE nE cE l) (hO : nO ≤ 5000 → IsIs w aO nO cO off) (hP : nP ≤ 5000 → IsD w aP nP cP past) (hx : CaIn w x) (hu : 0 ≤ u ∧ u ≤ 255) (hk : I64 key) :
    Calls Tryd.prog 4 #[.slice aE nE cE, .slice aO nO cO, .slice aP nP cP, .agg x.C.toArray, .int .i64 now, .int .i64 term, .int .u8 u, .int .i64 key] w fun e w' => e = .returned (.bool true) ∧ Below w.heap.size w w' := by
  obtain ⟨X, hX⟩ : ∃ X : World, X = w.alloc (.cells x.C.toArray 35) := ⟨_, rfl⟩
  have b1 : Below w.heap.size w X := by rw [hX]; exact below_alloc _ _
  obtain ⟨gx, hgx⟩ : ∃ g, g = w.heap.size := ⟨_, rfl⟩
  have rx : X.rangeAt gx 0 x.C := by rw [hX, hgx]; exact rangeAt_row (heap_alloc_new w _)
  have HB : Seal (Below w.heap.size w X) := ⟨b1⟩
  have HG : Seal (∀ W, Below w.heap.size w W → Glob W) := ⟨fun W h => hG.below h⟩
  have HXr : Seal (X.heap[gx]? = some (.cells x.C.toArray 35 (0, 0))) := ⟨by rw [hX, hgx]; exact heap_alloc_new w _⟩
  have HSf : Seal (fewF nE nO nP x.nK x.nF = true → ∀ W, Below w.heap.size w W → Glob W ∧ IsE W aE nE cE l ∧ IsIs W aO nO cO off ∧ IsD W aP nP cP past ∧ IsL W x.aF x.nF x.cF x.c.F ∧ IsIs W x.aK x.nK x.cK x.c.K ∧ nP ≤ 40 ∧ x.nF ≤ 100 ∧ x.ok) := ⟨fun f1 W h => by
    obtain ⟨q1, q2, q3, q4, q5⟩ := fewF_iff.1 f1
    have hx' := hx.below h
    exact ⟨hG.below h, (hE (by omega)).below h, (hO (by omega)).below h, (hP (by omega)).of_heap h, hx'.F (by omega), hx'.K (by omega), q3, by omega, hx'.ok⟩⟩
  have HU : Seal ((0 ≤ u ∧ u ≤ 255) ∧ I64 key) := ⟨hu, hk⟩
  have HGG : Seal (gx = w.heap.size) := ⟨hgx⟩
  obtain ⟨CX, hCX⟩ : ∃ C, C = x.C := ⟨_, rfl⟩
  have iX : (Tryd.prog.info? 35).map (·.size) = some CX.length := by rw [hCX]; exact CaX.info _
  have uC := Tryd.underlying35
  have HC : Seal (CX = x.C) := ⟨hCX⟩
  have rX : X.rangeAt gx 0 CX := by rw [hCX]; exact rx
  rw [← hCX] at hX HXr ⊢
  obtain ⟨f1, hf1⟩ : ∃ f, f = fewF nE nO nP x.nK x.nF := ⟨_, rfl⟩
  have HF : Seal (f1 = fewF nE nO nP x.nK x.nF) := ⟨hf1⟩
  clear b1 rx hE hO hP hx hG hCX hf1 hu hk
  go_enter Tryd.func4, Tryd.ntmps4
  go_upto_region 1 with (fail)
  rw [← hX, ← hgx]
  clear hX hgx
  go_wp2_with fail
  refine (fsane_any X (HG.out _ HB.out)).mono ?_
  rintro e w1 ⟨rfl, hb⟩
  have HB := Seal.mk (HB.out.trans (hb.mono HB.out.size))
  have HXr := Seal.mk ((hb.block _ (Array.getElem?_eq_some_iff.1 HXr.out).1).trans HXr.out)
  have rX := rangeAt_below' rX hb
  clear hb
  go_wp2_with (refine wpList_load_mid_g (by kernel_rfl) 35 (.tmp 11) rfl gx 0 rfl CX _ rX uC rfl iX ?_; (try simp only [Act.put, List.setIfInBounds_toArray, List.set_cons_zero, List.set_cons_succ]))
  rw [HC.out]
  refine (ffew_any aE aO aP nE cE nO cO nP cP x w1).mono ?_
  rintro e w2 ⟨rfl, hb⟩
  rw [← HC.out, ← HF.out]
  have HB := Seal.mk (HB.out.trans (hb.mono HB.out.size))
  have HXr := Seal.mk ((hb.block _ (Array.getElem?_eq_some_iff.1 HXr.out).1).trans HXr.out)
  have rX := rangeAt_below' rX hb
  clear hb
  cases f1 with
  | false =>
    go_wp2_with fail
    go_ret
    exact ⟨rfl, HB.out⟩
  | true =>
    have HS := Seal.mk (HSf.out HF.out.symm)
    clear HSf HF HG
    obtain ⟨e1, he1⟩ : ∃ e, e = admE l off past x.c now term := ⟨_, rfl⟩
    have hA0 : Seal (∀ W, Below w.heap.size w W → ∀ n t, Calls Tryd.prog 8 #[.slice aE nE cE, .slice aO nO cO, .slice aP nP cP, .agg CX.toArray, .int .i64 n, .int .i64 t] W (FdPost (admL l off past x.c n t) (admE l off past x.c n t) W)) := ⟨fun W h n t => by
      obtain ⟨h1, h2, h3, h4, h5, h6, h7, h8, h9⟩ := HS.out W h
      rw [HC.out]
      exact fadmit_any { aE := aE, nE := nE, cE := cE, l := l, aO := aO, nO := nO, cO := cO, off := off, aP := aP, nP := nP, cP := cP, past := past, x := x, now := n, term := t } W ⟨h1, h2, h3, h4, h5, h6, h8, show nP ≤ 4000 by omega, h9⟩⟩
    have HE1 := Seal.mk he1
    go_wp2_with (refine wpList_load_mid_g (by kernel_rfl) 35 (.tmp 11) rfl gx 0 rfl CX _ rX uC rfl iX ?_; (try simp only [Act.put, List.setIfInBounds_toArray, List.set_cons_zero, List.set_cons_succ]))
    have hA := hA0.out w2 HB.out now term
    rw [← he1] at hA
    clear he1
    refine hA.mono ?_
    rintro e w3 ⟨a1, n1, c1, rfl, hi, hb⟩
    have HB := Seal.mk (HB.out.trans (hb.mono HB.out.size))
    have HXr := Seal.mk ((hb.block _ (Array.getElem?_eq_some_iff.1 HXr.out).1).trans HXr.out)
    have rX := rangeAt_below' rX hb
    clear hb
    clear hA hi
    by_cases q1 : e1 = 0
    rotate_left
    · go_wp2_with fail
      go_ret
      exact ⟨rfl, HB.out⟩
    subst q1
    have hfacts := old_facts HE1.out.symm
    have hz := admE_zero.1 HE1.out.symm
    obtain ⟨h1, h2, h3, h4, h5, h6, h7, h8, h9⟩ := HS.out w3 HB.out
    have eO : off.length = nO := h3.llen
    have eK : x.c.K.length = x.nK := h6.llen
    have hnK : x.nK = nO := by omega
    obtain ⟨gk, ok, haK⟩ : ∃ g o, x.aK = some ⟨g, o, none⟩ := by
      rcases h6.at_ with h0 | ⟨g, o, e, _, _⟩
      · omega
      · exact ⟨g, o, e⟩
    obtain ⟨go, oo, haO⟩ : ∃ g o, aO = some ⟨g, o, none⟩ := by
      rcases h3.at_ with h0 | ⟨g, o, e, _, _⟩
      · omega
      · exact ⟨g, o, e⟩
    subst haO
    have hcx := caAt_of (W := w3) (g := gx) (x := x) (by rw [← HC.out]; exact rX)
    obtain ⟨xA, hxA⟩ : ∃ z, z = x.c.A := ⟨_, rfl⟩
    obtain ⟨xT, hxT⟩ : ∃ z, z = x.c.T := ⟨_, rfl⟩
    obtain ⟨cK, hcK⟩ : ∃ z, z = x.cK := ⟨_, rfl⟩
    have k1 := hcx.A
    have k4 := hcx.K
    have k14 := hcx.T
    rw [← hxA] at k1
    rw [← hxT] at k14
    rw [haK, hnK, ← hcK] at k4
    have HK : Seal (∀ W, Below w3.heap.size w3 W → W.cell? ⟨gx, 1, none⟩ = some (.int .i64 xA) ∧ W.cell? ⟨gx, 4, none⟩ = some (.slice (some ⟨gk, ok, none⟩) nO cK) ∧ W.cell? ⟨gx, 14, none⟩ = some (.int .i64 xT)) := ⟨fun W h => ⟨cell_below' h k1, cell_below' h k4, cell_below' h k14⟩⟩
    have hT21 : 0 ≤ xT ∧ xT < 2097152 := by rw [hxT]; exact betw_iff.1 (formB_iff.1 hz.2.2.1).2.2.1.2.2
    have hN21 := betw_iff.1 (argB_iff.1 hz.2.1).1
    have hM21 := betw_iff.1 (argB_iff.1 hz.2.1).2.1
    have q0 : ¬ (nO = 0) := by have := hfacts.1; omega
    have qe : (((nO : Int)) == 0) = false := by have := hfacts.1; simp; omega
    have qa : ¬ (now < xT) := by rw [hxT]; have := hfacts.2.2.1; omega
    have qb : IntKind.i64.wrap (now - xT) = now - xT := IntWalk.i64_in _ (by omega)
    have qc : ¬ (term < now - xT) := by rw [hxT]; have := hfacts.2.2.2.1; omega
    have HW : Seal (off.length = nO ∧ nO ≤ 9 ∧ 0 < nO ∧ x.c.K.length = nO ∧ (0 ≤ now ∧ now < 2097152) ∧ (0 ≤ term ∧ term < 2097152) ∧ (0 ≤ xT ∧ xT < 2097152)) := ⟨eO, by have := (formB_iff.1 hz.2.2.1).1.2.1; omega, by omega, by omega, hN21, hM21, hT21⟩
    have HFa := Seal.mk hfacts.2.2.2.2
    rw [← hxA] at HFa
    have HX := Seal.mk (And.intro hxA (And.intro hxT (And.intro hcK (And.intro haK hnK))))
    have HA3 : Seal (∀ W, Below w3.heap.size w3 W → Below w.heap.size w W) := ⟨fun W h => HB.out.trans (h.mono HB.out.size)⟩
    have HO3 : Seal (IsIs w3 (some ⟨go, oo, none⟩) nO cO off ∧ IsIs w3 (some ⟨gk, ok, none⟩) nO cK x.c.K) := ⟨h3, by have h := h6; rwa [haK, hnK, ← hcK] at h⟩
    have HR3 := Seal.mk (And.intro rX HXr.out)
    clear hxA hxT hcK haK hnK h1 h2 h3 h4 h5 h6 h7 h8 h9 eO eK hcx hfacts hz hT21 hN21 hM21 rX HB HXr
    have HQ : Seal (Below w3.heap.size w3 w3) := ⟨Below.refl _ _⟩
    go_wp2_with fail
    go_loopw [79] (fun i wr => FkRel nO w3 i wr) (fun i _ => nO - (intOf i).toNat)
    case atStart => exact ⟨0, Nat.zero_le _, rfl, HQ⟩
    case round =>
      obtain ⟨j, hj, rfl, hb⟩ := hrel
      by_cases hlt : j < nO
      · obtain ⟨o, ho⟩ : ∃ o, o = off.getD j 0 := ⟨_, rfl⟩
        obtain ⟨kk, hkk⟩ : ∃ o, o = x.c.K.getD j 0 := ⟨_, rfl⟩
        have hF := HFa.out j (by rw [HW.out.1]; exact hlt)
        rw [← ho, ← hkk] at hF
        have co : wr.cell? ⟨go, oo + j, none⟩ = some (.int .i64 o) := by rw [ho]; exact isIs_cell (HO3.out.1.below hb.out) hlt
        obtain ⟨k1, k4, k14⟩ := HK.out wr hb.out
        have hE := (HS.out wr (HA3.out wr hb.out)).2.1
        have hK1 := fkey_any aE nE cE l o xA wr hE
        rw [hF.1] at hK1
        have p1 : (j : Int) < (nO : Int) := by omega
        have p2 : (0 : Int) ≤ (j : Int) := by omega
        have p3 : IntKind.i64.wrap ((j : Int) + 1) = ((j + 1 : Nat) : Int) := by rw [IntWalk.i64_in _ (by have := HW.out; omega)]; omega
        have HFj := Seal.mk hF
        have Hkk := Seal.mk hkk
        clear hF ho hkk hE
        go_wp2_with fail
        refine hK1.mono ?_
        rintro e w4 ⟨rfl, hb4⟩
        have hb := Seal.mk (hb.out.trans (hb4.mono hb.out.size))
        have hE := (HS.out w4 (HA3.out w4 hb.out)).2.1
        have hK2 := fkey_any aE nE cE l o now w4 hE
        rw [HFj.out.2] at hK2
        clear hK1 hb4 hE co k1 k4 k14
        go_wp2_with fail
        refine hK2.mono ?_
        rintro e w5 ⟨rfl, hb5⟩
        have hb := Seal.mk (hb.out.trans (hb5.mono hb.out.size))
        obtain ⟨k1, k4, k14⟩ := HK.out w5 hb.out
        have ck : w5.cell? ⟨gk, ok + j, none⟩ = some (.int .i64 kk) := by rw [Hkk.out]; exact isIs_cell (HO3.out.2.below hb.out) hlt
        clear hK2 hb5
        go_wp2_with fail
        exact ⟨⟨j + 1, by omega, rfl, hb⟩, by simp only [intOf]; omega⟩
      · obtain rfl : j = nO := by omega
        have p1 : ¬ ((j : Int) < (j : Int)) := by omega
        obtain ⟨k1, k4, k14⟩ := HK.out wr hb.out
        have qd : IntKind.i64.wrap (xT + term) = xT + term := IntWalk.i64_in _ (by have := HW.out; omega)
        have qf : IntKind.i64.wrap (xT + term + 1) = xT + term + 1 := IntWalk.i64_in _ (by have := HW.out; omega)
        obtain ⟨i, hi⟩ : ∃ i : Nat, u.tmod (j : Int) = (i : Int) := ⟨(u.tmod (j : Int)).toNat, (Int.toNat_of_nonneg (Int.tmod_nonneg _ HU.out.1.1)).symm⟩
        have hij : i < j := by
          have := Int.tmod_lt_of_pos u (show (0 : Int) < (j : Int) by have := HW.out.2.2.1; omega)
          omega
        have qu : IntKind.i64.wrap u = u := IntWalk.i64_in _ (by have := HU.out.1; omega)
        have qi2 : (0 : Int) ≤ (i : Int) := by omega
        have qi3 : (i : Int) < (j : Int) := by omega
        have hj0 : ¬ (j = 0) := by omega
        have HI := Seal.mk hij
        obtain ⟨kk, hkk⟩ : ∃ o, o = x.c.K.getD i 0 := ⟨_, rfl⟩
        have Hkk := Seal.mk hkk
        have HCi : Seal (∀ W, Below w3.heap.size w3 W → W.cell? ⟨gk, ok + i, none⟩ = some (.int .i64 kk)) := ⟨fun W h => by rw [Hkk.out]; exact isIs_cell (HO3.out.2.below h) HI.out⟩
        clear hij hkk
        by_cases hT : xT + term + 1 < 2097152
        · have rX := rangeAt_below' HR3.out.1 hb.out
          go_wp2_with (refine wpList_load_mid_g (by kernel_rfl) 35 (.tmp 11) rfl gx 0 rfl CX _ rX uC rfl iX ?_; (try simp only [Act.put, List.setIfInBounds_toArray, List.set_cons_zero, List.set_cons_succ]))
          have hA := hA0.out wr (HA3.out wr hb.out) (xT + term + 1) term
          have h570 := old_term (l := l) (off := off) (past := past) (c := x.c) (now := now) (term := term) HE1.out.symm (by rw [← HX.out.2.1]; exact hT)
          rw [← HX.out.2.1] at h570
          rw [h570] at hA
          clear h570
          refine hA.mono ?_
          rintro e w6 ⟨a2, n2, c2, rfl, hi2, hb2⟩
          have hb := Seal.mk (hb.out.trans (hb2.mono hb.out.size))
          obtain ⟨k1, k4, k14⟩ := HK.out w6 hb.out
          clear hA hi2 hb2 rX
          go_upto_region 22 with (fail)
          have ck := HCi.out w6 hb.out
          by_cases hkey : kk = key
          · subst hkey
            go_wp2_with fail
            go_ret
            exact ⟨rfl, HA3.out w6 hb.out⟩
          go_upto_region 25 with (fail)
          clear ck k1 k4 k14
          obtain ⟨gY, hgY⟩ : ∃ g, g = (w6).heap.size := ⟨_, rfl⟩
          obtain ⟨Y, hY⟩ : ∃ Y, Y = (w6).alloc (.cells #[] 3) := ⟨_, rfl⟩
          have bY : Below (w6).heap.size w6 Y := by rw [hY]; exact below_alloc _ _
          have hown0 : Y.ownsRow gY 3 1 (.slice (some ⟨gY, 0, none⟩) 0 0) 0 [] := by rw [hY, hgY]; exact own_litI _
          have hgx1 : gx < gY := by
            have h1 := (Array.getElem?_eq_some_iff.1 HR3.out.2).1
            have h2 := hb.out.size
            omega
          have hsY : Y.heap.size = gY + 1 := by rw [hY, size_alloc, hgY]
          have hb := Seal.mk (hb.out.trans (bY.mono hb.out.size))
          have HOw := Seal.mk (And.intro hown0 (And.intro hgx1 hsY))
          obtain ⟨_, k4, _⟩ := HK.out Y hb.out
          obtain ⟨i0, hi0, hz0, hz1, hz2⟩ := info_parts info_intF
          have HI0 := Seal.mk (And.intro hi0 (And.intro hz0 (And.intro hz1 hz2)))
          have rvY := hY.symm
          have rvg := hgY.symm
          clear hY hgY bY hown0 hgx1 hsY hi0 hz0 hz1 hz2
          obtain ⟨KL, hKL⟩ : ∃ L, L = x.c.K.map (Value.int .i64) := ⟨_, rfl⟩
          have HKL : Seal (KL = x.c.K.map (Value.int .i64) ∧ KL.length = j * 1 ∧ (∀ (q : Nat) (v : Value), KL[q]? = some v → Y.cell? ((⟨gk, ok, none⟩ : Addr).add q) = some v) ∧ ∀ v ∈ KL, v.oneCell' = true) := ⟨by
            refine ⟨hKL, by rw [hKL, List.length_map, HW.out.2.2.2.1, Nat.mul_one], fun q v hv => ?_, fun v hv => by
              rw [hKL] at hv
              obtain ⟨z, _, rfl⟩ := List.mem_map.1 hv
              rfl⟩
            rcases (HO3.out.2.below hb.out).at_ with h0 | ⟨g', o', e, hr, _⟩
            · have := HW.out.2.2.1; omega
            · cases e
              rw [Addr.add_mid]
              refine hr q v ?_
              rw [intC_flat, ← hKL]; exact hv⟩
          clear hKL
          go_upto_region 26 with (at_builtin; refine wpList_append_lies _ rfl (.tmp 165) (.tmp 167) 23 rfl gY 3 i0 _ 1 8 Tryd.underlying23 HI0.out.1 HI0.out.2.1 HI0.out.2.2.1 HI0.out.2.2.2 rfl (by decide) (.slice (some ⟨gY, 0, none⟩) 0 0) 0 [] rfl HOw.out.1 ⟨gk, ok, none⟩ j cK KL rfl HKL.out.2.1 HKL.out.2.2.1 HKL.out.2.2.2 HW.out.2.2.1 (by unfold maxLen; have := HW.out; omega) (by have := HW.out; omega) (by have := HOw.out; omega) _ rfl ?_; rw [Nat.zero_add, List.nil_append]; intro g1 cap1 w7 hown1 hgrow1 hat hlt1; have hrow : w7.heap[gx]? = some (.cells CX.toArray 35 (0, 0)) := (hgrow1.block gx (by have := HOw.out; omega) (fun e => by have := HOw.out; simp [Value.ownBlock] at e; omega)).trans ((hb.out.block gx (Array.getElem?_eq_some_iff.1 HR3.out.2).1).trans HR3.out.2); have x4 : ∃ v, w7.cell? ⟨gx, 4, none⟩ = some v := ⟨_, by { rw [cell_of_row _ _ _ _ _ _ hrow, List.getElem?_toArray]; exact List.getElem?_eq_getElem (by rw [HC.out, CaX.len]; decide) }⟩; obtain ⟨v4, x4⟩ := x4; have f4 : w7.frozen? ⟨gx, 4, none⟩ = false := frozen_of_row _ _ _ _ _ hrow; have HG7 := Seal.mk (And.intro hown1 (And.intro hgrow1 (And.intro hat hrow))); clear hown1 hgrow1 hat hrow hlt1)
          clear x4 f4 k4
          obtain ⟨Z, hZ⟩ : ∃ Z, Z = w7.setCell ⟨gx, 4, none⟩ (.slice (some ⟨g1, 0, none⟩) j cap1) := ⟨_, rfl⟩
          have hg1 : gY ≤ g1 := (HG7.out.1.lt g1 rfl).1
          have hne : g1 ≠ gx := by have := HOw.out; omega
          have hoZ : ∀ k, k ≠ gx → Z.heap[k]? = w7.heap[k]? := fun k hk => by rw [hZ]; exact Below.heap_setCell w7 ⟨gx, 4, none⟩ _ k hk
          have rowZ : Z.heap[gx]? = some (.cells (CX.set 4 (.slice (some ⟨g1, 0, none⟩) j cap1)).toArray 35 (0, 0)) := by rw [hZ]; exact heap_setCell_row _ HG7.out.2.2.2
          have z4 : Z.cell? ⟨gx, 4, none⟩ = some (.slice (some ⟨g1, 0, none⟩) j cap1) := by
            rw [cell_of_row _ _ _ _ _ _ rowZ, List.getElem?_toArray, List.getElem?_set_self (by rw [HC.out, CaX.len]; decide)]
          have hown7 : w7.ownsRow gY 3 1 (.slice (some ⟨g1, 0, none⟩) j cap1) j (x.c.K.map (Value.int .i64)) := by rw [← HKL.out.1]; exact HG7.out.1
          obtain ⟨⟨vi, zi⟩, fi, hIs⟩ := fcopy_set (key := key) hown7 HW.out.2.2.2.1 (by have := HW.out; omega) HI.out (hoZ g1 hne)
          obtain ⟨Z2, hZ2⟩ : ∃ Q, Q = Z.setCell ⟨g1, i, none⟩ (.int .i64 key) := ⟨_, rfl⟩
          rw [← hZ2] at hIs
          have rowZ2 : Z2.heap[gx]? = some (.cells (CX.set 4 (.slice (some ⟨g1, 0, none⟩) j cap1)).toArray 35 (0, 0)) := by rw [hZ2]; exact (Below.heap_setCell Z ⟨g1, i, none⟩ _ gx (Ne.symm hne)).trans rowZ
          have hbZ2 : Below w.heap.size w Z2 := by
            have h0 := HA3.out Y hb.out
            have hle : w.heap.size ≤ gx := by rw [HGG.out]; exact Nat.le_refl _
            have h1 : Below w.heap.size w w7 := ⟨HG7.out.2.1.os.trans h0.os, HG7.out.2.1.tape.trans h0.tape, HG7.out.2.1.output.trans h0.output, Nat.le_trans h0.size HG7.out.2.1.size, fun k hk => (HG7.out.2.1.block k (Nat.lt_of_lt_of_le hk h0.size) (fun e => by have := HOw.out; simp [Value.ownBlock] at e; omega)).trans (h0.block k hk)⟩
            rw [hZ2, hZ]
            exact (h1.setCell (p := ⟨gx, 4, none⟩) hle _).setCell (p := ⟨g1, i, none⟩) (show w.heap.size ≤ g1 by have := HOw.out; omega) _
          have HZ := Seal.mk (And.intro hIs (And.intro rowZ2 hbZ2))
          rw [← hZ]
          have rvZ := hZ2.symm
          clear hZ hoZ rowZ hg1 hown7 hIs hZ2 rowZ2 hbZ2 rvY rvg
          go_upto_region 27 with (fail)
          clear rvZ z4 zi fi hne
          obtain ⟨CK, hCK⟩ : ∃ C, C = CX.set 4 (.slice (some ⟨g1, 0, none⟩) j cap1) := ⟨_, rfl⟩
          have HCK : Seal (CK = (x.keyed (x.c.K.set i key) g1 j cap1).C) := ⟨by rw [hCK, HC.out, CaX.keyed_C]⟩
          have rK : Z2.rangeAt gx 0 CK := by rw [hCK]; exact rangeAt_row HZ.out.2.1
          have iK : (Tryd.prog.info? 35).map (·.size) = some CK.length := by rw [HCK.out]; exact CaX.info _
          clear hCK
          go_wp2_with (refine wpList_load_mid_g (by kernel_rfl) 35 (.tmp 11) rfl gx 0 rfl CK _ rK uC rfl iK ?_; (try simp only [Act.put, List.setIfInBounds_toArray, List.set_cons_zero, List.set_cons_succ]))
          have hA : Calls Tryd.prog 8 #[.slice aE nE cE, .slice (some ⟨go, oo, none⟩) j cO, .slice aP nP cP, .agg CK.toArray, .int .i64 now, .int .i64 term] Z2 (FdPost (admL l off past (x.keyed (x.c.K.set i key) g1 j cap1).c now term) 570 Z2) := by
            obtain ⟨h1, h2, h3, h4, h5, h6, h7, h8, h9⟩ := HS.out Z2 HZ.out.2.2
            have h570 : admE l off past (x.keyed (x.c.K.set i key) g1 j cap1).c now term = 570 := old_key HE1.out.symm (j := i) (key := key) (by rw [HW.out.1]; exact HI.out) (by rw [← Hkk.out]; exact hkey) rfl
            rw [HCK.out, ← h570]
            exact fadmit_any { aE := aE, nE := nE, cE := cE, l := l, aO := some ⟨go, oo, none⟩, nO := j, cO := cO, off := off, aP := aP, nP := nP, cP := cP, past := past, x := x.keyed (x.c.K.set i key) g1 j cap1, now := now, term := term } Z2 ⟨h1, h2, h3, h4, h5, HZ.out.1, h8, show nP ≤ 4000 by omega, CaX.keyed_ok h9 _ _ _ _⟩
          refine hA.mono ?_
          rintro e w8 ⟨a3, n3, c3, rfl, hi3, hb3⟩
          have hbf := HZ.out.2.2.trans (hb3.mono HZ.out.2.2.size)
          have HBf := Seal.mk hbf
          clear hA hi3 hb3 rK hbf
          go_wp2_with fail
          go_ret
          exact ⟨by first | rfl | simp, HBf.out⟩
        · go_upto_region 22 with (fail)
          have ck := HCi.out wr hb.out
          by_cases hkey : kk = key
          · subst hkey
            go_wp2_with fail
            go_ret
            exact ⟨rfl, HA3.out wr hb.out⟩
          go_upto_region 25 with (fail)
          clear ck k1 k4 k14
          obtain ⟨gY, hgY⟩ : ∃ g, g = (wr).heap.size := ⟨_, rfl⟩
          obtain ⟨Y, hY⟩ : ∃ Y, Y = (wr).alloc (.cells #[] 3) := ⟨_, rfl⟩
          have bY : Below (wr).heap.size wr Y := by rw [hY]; exact below_alloc _ _
          have hown0 : Y.ownsRow gY 3 1 (.slice (some ⟨gY, 0, none⟩) 0 0) 0 [] := by rw [hY, hgY]; exact own_litI _
          have hgx1 : gx < gY := by
            have h1 := (Array.getElem?_eq_some_iff.1 HR3.out.2).1
            have h2 := hb.out.size
            omega
          have hsY : Y.heap.size = gY + 1 := by rw [hY, size_alloc, hgY]
          have hb := Seal.mk (hb.out.trans (bY.mono hb.out.size))
          have HOw := Seal.mk (And.intro hown0 (And.intro hgx1 hsY))
          obtain ⟨_, k4, _⟩ := HK.out Y hb.out
          obtain ⟨i0, hi0, hz0, hz1, hz2⟩ := info_parts info_intF
          have HI0 := Seal.mk (And.intro hi0 (And.intro hz0 (And.intro hz1 hz2)))
          have rvY := hY.symm
          have rvg := hgY.symm
          clear hY hgY bY hown0 hgx1 hsY hi0 hz0 hz1 hz2
          obtain ⟨KL, hKL⟩ : ∃ L, L = x.c.K.map (Value.int .i64) := ⟨_, rfl⟩
          have HKL : Seal (KL = x.c.K.map (Value.int .i64) ∧ KL.length = j * 1 ∧ (∀ (q : Nat) (v : Value), KL[q]? = some v → Y.cell? ((⟨gk, ok, none⟩ : Addr).add q) = some v) ∧ ∀ v ∈ KL, v.oneCell' = true) := ⟨by
            refine ⟨hKL, by rw [hKL, List.length_map, HW.out.2.2.2.1, Nat.mul_one], fun q v hv => ?_, fun v hv => by
              rw [hKL] at hv
              obtain ⟨z, _, rfl⟩ := List.mem_map.1 hv
              rfl⟩
            rcases (HO3.out.2.below hb.out).at_ with h0 | ⟨g', o', e, hr, _⟩
            · have := HW.out.2.2.1; omega
            · cases e
              rw [Addr.add_mid]
              refine hr q v ?_
              rw [intC_flat, ← hKL]; exact hv⟩
          clear hKL
          go_upto_region 26 with (at_builtin; refine wpList_append_lies _ rfl (.tmp 165) (.tmp 167) 23 rfl gY 3 i0 _ 1 8 Tryd.underlying23 HI0.out.1 HI0.out.2.1 HI0.out.2.2.1 HI0.out.2.2.2 rfl (by decide) (.slice (some ⟨gY, 0, none⟩) 0 0) 0 [] rfl HOw.out.1 ⟨gk, ok, none⟩ j cK KL rfl HKL.out.2.1 HKL.out.2.2.1 HKL.out.2.2.2 HW.out.2.2.1 (by unfold maxLen; have := HW.out; omega) (by have := HW.out; omega) (by have := HOw.out; omega) _ rfl ?_; rw [Nat.zero_add, List.nil_append]; intro g1 cap1 w7 hown1 hgrow1 hat hlt1; have hrow : w7.heap[gx]? = some (.cells CX.toArray 35 (0, 0)) := (hgrow1.block gx (by have := HOw.out; omega) (fun e => by have := HOw.out; simp [Value.ownBlock] at e; omega)).trans ((hb.out.block gx (Array.getElem?_eq_some_iff.1 HR3.out.2).1).trans HR3.out.2); have x4 : ∃ v, w7.cell? ⟨gx, 4, none⟩ = some v := ⟨_, by { rw [cell_of_row _ _ _ _ _ _ hrow, List.getElem?_toArray]; exact List.getElem?_eq_getElem (by rw [HC.out, CaX.len]; decide) }⟩; obtain ⟨v4, x4⟩ := x4; have f4 : w7.frozen? ⟨gx, 4, none⟩ = false := frozen_of_row _ _ _ _ _ hrow; have HG7 := Seal.mk (And.intro hown1 (And.intro hgrow1 (And.intro hat hrow))); clear hown1 hgrow1 hat hrow hlt1)
          clear x4 f4 k4
          obtain ⟨Z, hZ⟩ : ∃ Z, Z = w7.setCell ⟨gx, 4, none⟩ (.slice (some ⟨g1, 0, none⟩) j cap1) := ⟨_, rfl⟩
          have hg1 : gY ≤ g1 := (HG7.out.1.lt g1 rfl).1
          have hne : g1 ≠ gx := by have := HOw.out; omega
          have hoZ : ∀ k, k ≠ gx → Z.heap[k]? = w7.heap[k]? := fun k hk => by rw [hZ]; exact Below.heap_setCell w7 ⟨gx, 4, none⟩ _ k hk
          have rowZ : Z.heap[gx]? = some (.cells (CX.set 4 (.slice (some ⟨g1, 0, none⟩) j cap1)).toArray 35 (0, 0)) := by rw [hZ]; exact heap_setCell_row _ HG7.out.2.2.2
          have z4 : Z.cell? ⟨gx, 4, none⟩ = some (.slice (some ⟨g1, 0, none⟩) j cap1) := by
            rw [cell_of_row _ _ _ _ _ _ rowZ, List.getElem?_toArray, List.getElem?_set_self (by rw [HC.out, CaX.len]; decide)]
          have hown7 : w7.ownsRow gY 3 1 (.slice (some ⟨g1, 0, none⟩) j cap1) j (x.c.K.map (Value.int .i64)) := by rw [← HKL.out.1]; exact HG7.out.1
          obtain ⟨⟨vi, zi⟩, fi, hIs⟩ := fcopy_set (key := key) hown7 HW.out.2.2.2.1 (by have := HW.out; omega) HI.out (hoZ g1 hne)
          obtain ⟨Z2, hZ2⟩ : ∃ Q, Q = Z.setCell ⟨g1, i, none⟩ (.int .i64 key) := ⟨_, rfl⟩
          rw [← hZ2] at hIs
          have rowZ2 : Z2.heap[gx]? = some (.cells (CX.set 4 (.slice (some ⟨g1, 0, none⟩) j cap1)).toArray 35 (0, 0)) := by rw [hZ2]; exact (Below.heap_setCell Z ⟨g1, i, none⟩ _ gx (Ne.symm hne)).trans rowZ
          have hbZ2 : Below w.heap.size w Z2 := by
            have h0 := HA3.out Y hb.out
            have hle : w.heap.size ≤ gx := by rw [HGG.out]; exact Nat.le_refl _
            have h1 : Below w.heap.size w w7 := ⟨HG7.out.2.1.os.trans h0.os, HG7.out.2.1.tape.trans h0.tape, HG7.out.2.1.output.trans h0.output, Nat.le_trans h0.size HG7.out.2.1.size, fun k hk => (HG7.out.2.1.block k (Nat.lt_of_lt_of_le hk h0.size) (fun e => by have := HOw.out; simp [Value.ownBlock] at e; omega)).trans (h0.block k hk)⟩
            rw [hZ2, hZ]
            exact (h1.setCell (p := ⟨gx, 4, none⟩) hle _).setCell (p := ⟨g1, i, none⟩) (show w.heap.size ≤ g1 by have := HOw.out; omega) _
          have HZ := Seal.mk (And.intro hIs (And.intro rowZ2 hbZ2))
          rw [← hZ]
          have rvZ := hZ2.symm
          clear hZ hoZ rowZ hg1 hown7 hIs hZ2 rowZ2 hbZ2 rvY rvg
          go_upto_region 27 with (fail)
          clear rvZ z4 zi fi hne
          obtain ⟨CK, hCK⟩ : ∃ C, C = CX.set 4 (.slice (some ⟨g1, 0, none⟩) j cap1) := ⟨_, rfl⟩
          have HCK : Seal (CK = (x.keyed (x.c.K.set i key) g1 j cap1).C) := ⟨by rw [hCK, HC.out, CaX.keyed_C]⟩
          have rK : Z2.rangeAt gx 0 CK := by rw [hCK]; exact rangeAt_row HZ.out.2.1
          have iK : (Tryd.prog.info? 35).map (·.size) = some CK.length := by rw [HCK.out]; exact CaX.info _
          clear hCK
          go_wp2_with (refine wpList_load_mid_g (by kernel_rfl) 35 (.tmp 11) rfl gx 0 rfl CK _ rK uC rfl iK ?_; (try simp only [Act.put, List.setIfInBounds_toArray, List.set_cons_zero, List.set_cons_succ]))
          have hA : Calls Tryd.prog 8 #[.slice aE nE cE, .slice (some ⟨go, oo, none⟩) j cO, .slice aP nP cP, .agg CK.toArray, .int .i64 now, .int .i64 term] Z2 (FdPost (admL l off past (x.keyed (x.c.K.set i key) g1 j cap1).c now term) 570 Z2) := by
            obtain ⟨h1, h2, h3, h4, h5, h6, h7, h8, h9⟩ := HS.out Z2 HZ.out.2.2
            have h570 : admE l off past (x.keyed (x.c.K.set i key) g1 j cap1).c now term = 570 := old_key HE1.out.symm (j := i) (key := key) (by rw [HW.out.1]; exact HI.out) (by rw [← Hkk.out]; exact hkey) rfl
            rw [HCK.out, ← h570]
            exact fadmit_any { aE := aE, nE := nE, cE := cE, l := l, aO := some ⟨go, oo, none⟩, nO := j, cO := cO, off := off, aP := aP, nP := nP, cP := cP, past := past, x := x.keyed (x.c.K.set i key) g1 j cap1, now := now, term := term } Z2 ⟨h1, h2, h3, h4, h5, HZ.out.1, h8, show nP ≤ 4000 by omega, CaX.keyed_ok h9 _ _ _ _⟩
          refine hA.mono ?_
          rintro e w8 ⟨a3, n3, c3, rfl, hi3, hb3⟩
          have hbf := HZ.out.2.2.trans (hb3.mono HZ.out.2.2.size)
          have HBf := Seal.mk hbf
          clear hA hi3 hb3 rK hbf
          go_wp2_with fail
          go_ret
          exact ⟨by first | rfl | simp, HBf.out⟩
end Frk
