/- ref57.Admit. -/
import Derived.Test.YtllbjakfjpjfnaaGreatDoorVxRfg
import Derived.Test.YtllbjakfjpjfnaaGreatDoorVxRft
import Derived.Test.YtllbjakfjpjfnaaGreatDoorVxRfd
import Derived.Test.YtllbjakfjpjfnaaGreatDoorVxRpf
namespace Frk
open Go Go.RowKit Go.Proofs
set_option maxRecDepth 100000

/-- what is handed to the reference's Admit -/
structure RAt (W : World) (aE : Option Addr) (nE cE : Nat) (l : List Ep) (aO : Option Addr) (nO cO : Nat) (off : List Int) (aP : Option Addr) (nP cP : Nat) (past : List Bytes) (x : CaX) : Prop where
  E : IsE W aE nE cE l
  O : IsIs W aO nO cO off
  P : IsD W aP nP cP past
  ha : cP = 0 ∨ ∃ g o, aP = some ⟨g, o, none⟩
  F : IsL W x.aF x.nF x.cF x.c.F
  K : IsIs W x.aK x.nK x.cK x.c.K
  F100 : x.nF ≤ 100
  P4 : nP ≤ 4000
  ok : x.ok
theorem RAt.below {W W' : World} {aE : Option Addr} {nE cE : Nat} {l : List Ep} {aO : Option Addr} {nO cO : Nat} {off : List Int} {aP : Option Addr} {nP cP : Nat} {past : List Bytes} {x : CaX} (h : RAt W aE nE cE l aO nO cO off aP nP cP past x) (hb : Below W.heap.size W W') : RAt W' aE nE cE l aO nO cO off aP nP cP past x :=
  ⟨h.E.below hb, h.O.below hb, h.P.of_heap hb, h.ha, h.F.of_heap hb, h.K.below hb, h.F100, h.P4, h.ok⟩
def RAPost (l : List Bytes) (x : Int) (w : World) (e : Ending) (w' : World) : Prop :=
  ∃ a n c, e = .returned (.tuple #[.slice a n c, .int .i64 x]) ∧ Seal (IsD w' a n c l) ∧ Below w.heap.size w w'
set_option maxHeartbeats 4000000 in
theorem radmit57_any (aE : Option Addr) (nE cE : Nat) (l : List Ep) (aO : Option Addr) (nO cO : Nat) (off : List Int) (aP : Option Addr) (nP cP : Nat) (past : List Bytes) (x : CaX) (now term : Int) (w : World) (hA : RAt w aE nE cE l aO nO cO off aP nP cP past x) :
    Calls Tryz.prog 7 #[.slice aE nE cE, .slice aO nO cO, .slice aP nP cP, .agg x.C.toArray, .int .i64 now, .int .i64 term] w (RAPost (admL l off past x.c now term) (admE l off past x.c now term) w) := by
  obtain ⟨X, hX⟩ : ∃ X : World, X = w.alloc (.cells x.C.toArray 35) := ⟨_, rfl⟩
  have b1 : Below w.heap.size w X := by rw [hX]; exact below_alloc _ _
  obtain ⟨gx, hgx⟩ : ∃ g, g = w.heap.size := ⟨_, rfl⟩
  have r0 : X.rangeAt gx 0 x.C := by rw [hX, hgx]; exact rangeAt_row (heap_alloc_new w _)
  have HA : Seal (∀ W, Below X.heap.size X W → Below w.heap.size w W ∧ RAt W aE nE cE l aO nO cO off aP nP cP past x) := ⟨fun W h => by
    have h2 := b1.trans (h.mono b1.size)
    exact ⟨h2, hA.below h2⟩⟩
  obtain ⟨AL, hAL⟩ : ∃ L, L = admL l off past x.c now term := ⟨_, rfl⟩
  obtain ⟨AE, hAE⟩ : ∃ L, L = admE l off past x.c now term := ⟨_, rfl⟩
  have HM : Seal (AL = admL l off past x.c now term ∧ AE = admE l off past x.c now term) := ⟨hAL, hAE⟩
  have HNo : Seal (∀ e, admE l off past x.c now term = e → e ≠ 0 → AL = [] ∧ AE = e) := ⟨fun e h he => ⟨hAL.trans (adm_no h he), hAE.trans h⟩⟩
  have hlP := hA.P.llen
  obtain ⟨CX, hCX⟩ : ∃ C, C = x.C := ⟨_, rfl⟩
  have HC := Seal.mk hCX
  have iX : (Tryz.prog.info? 35).map (·.size) = some CX.length := by rw [hCX]; exact CaX.info _
  have uC := Tryz.underlying35
  rw [← hAL, ← hAE]
  rw [← hCX] at hX r0 ⊢
  have HR : Seal (∀ W, Below X.heap.size X W → W.rangeAt gx 0 CX) := ⟨fun W h => rangeAt_below' r0 h⟩
  have HQ : Seal (Below X.heap.size X X) := ⟨Below.refl _ _⟩
  have HLp := Seal.mk hlP
  clear hAL hAE hCX r0 b1 hA hlP
  go_enter Tryz.func7, Tryz.ntmps7
  go_upto_region 1 with (fail)
  rw [← hX, ← hgx]
  clear hX hgx
  go_wp2_with fail
  obtain ⟨ec, hec⟩ : ∃ e, e = epChk l := ⟨_, rfl⟩
  have hC := rcheck47_any aE nE cE l X (HA.out X HQ.out).2.E
  rw [← hec] at hC
  refine hC.mono ?_
  rintro e w1 ⟨rfl, hb⟩
  have HB := Seal.mk hb
  have HEc := Seal.mk hec
  clear hC hb hec
  by_cases h0 : ec = 0
  rotate_left
  · skip
    have HN2 := Seal.mk (HNo.out ec (by unfold admE; rw [← HEc.out, if_pos h0]) (by first | decide | assumption))
    go_wp2
    refine bodyPost_ret (v := .tuple #[.slice none 0 0, .int .i64 ec]) (by simp [results, Tryz.results7, go_sem]; try rfl) rfl ⟨none, 0, 0, by rw [HN2.out.2], ⟨by rw [HN2.out.1]; exact isD_nilF _⟩, (HA.out _ HB.out).1⟩
  subst h0
  have HE0 : Seal (epChk l = 0) := ⟨HEc.out.symm⟩
  clear HEc
  obtain ⟨b, hbq⟩ : ∃ b, b = argB past now term := ⟨_, rfl⟩
  have HArg : Seal (b = (betw now 2097152 && (betw term 2097152 && (usedB past && decide (past.length ≤ 256))))) := ⟨hbq⟩
  have HArg1 : Seal (b = false → admE l off past x.c now term = 1) := ⟨fun h => adm_1 HE0.out (hbq.symm.trans h)⟩
  have HArg2 : Seal (b = true → argB past now term = true) := ⟨fun h => hbq.symm.trans h⟩
  clear hbq
  by_cases a1 : now < 0
  · skip
    have hbf : b = false := by
      rw [HArg.out]
      cases hz : (betw now 2097152 && (betw term 2097152 && (usedB past && decide (past.length ≤ 256)))) with
      | false => rfl
      | true =>
        simp only [Bool.and_eq_true, decide_eq_true_eq, betw_iff] at hz
        have := HLp.out
        omega
    have HN2 := Seal.mk (HNo.out 1 (HArg1.out hbf) (by first | decide | assumption))
    go_wp2
    refine bodyPost_ret (v := .tuple #[.slice none 0 0, .int .i64 1]) (by simp [results, Tryz.results7, go_sem]; try rfl) rfl ⟨none, 0, 0, by rw [HN2.out.2], ⟨by rw [HN2.out.1]; exact isD_nilF _⟩, (HA.out _ HB.out).1⟩
  by_cases a2 : 2097152 ≤ now
  · skip
    have hbf : b = false := by
      rw [HArg.out]
      cases hz : (betw now 2097152 && (betw term 2097152 && (usedB past && decide (past.length ≤ 256)))) with
      | false => rfl
      | true =>
        simp only [Bool.and_eq_true, decide_eq_true_eq, betw_iff] at hz
        have := HLp.out
        omega
    have HN2 := Seal.mk (HNo.out 1 (HArg1.out hbf) (by first | decide | assumption))
    go_wp2
    refine bodyPost_ret (v := .tuple #[.slice none 0 0, .int .i64 1]) (by simp [results, Tryz.results7, go_sem]; try rfl) rfl ⟨none, 0, 0, by rw [HN2.out.2], ⟨by rw [HN2.out.1]; exact isD_nilF _⟩, (HA.out _ HB.out).1⟩
  by_cases a3 : term < 0
  · skip
    have hbf : b = false := by
      rw [HArg.out]
      cases hz : (betw now 2097152 && (betw term 2097152 && (usedB past && decide (past.length ≤ 256)))) with
      | false => rfl
      | true =>
        simp only [Bool.and_eq_true, decide_eq_true_eq, betw_iff] at hz
        have := HLp.out
        omega
    have HN2 := Seal.mk (HNo.out 1 (HArg1.out hbf) (by first | decide | assumption))
    go_wp2
    refine bodyPost_ret (v := .tuple #[.slice none 0 0, .int .i64 1]) (by simp [results, Tryz.results7, go_sem]; try rfl) rfl ⟨none, 0, 0, by rw [HN2.out.2], ⟨by rw [HN2.out.1]; exact isD_nilF _⟩, (HA.out _ HB.out).1⟩
  by_cases a4 : 2097152 ≤ term
  · skip
    have hbf : b = false := by
      rw [HArg.out]
      cases hz : (betw now 2097152 && (betw term 2097152 && (usedB past && decide (past.length ≤ 256)))) with
      | false => rfl
      | true =>
        simp only [Bool.and_eq_true, decide_eq_true_eq, betw_iff] at hz
        have := HLp.out
        omega
    have HN2 := Seal.mk (HNo.out 1 (HArg1.out hbf) (by first | decide | assumption))
    go_wp2
    refine bodyPost_ret (v := .tuple #[.slice none 0 0, .int .i64 1]) (by simp [results, Tryz.results7, go_sem]; try rfl) rfl ⟨none, 0, 0, by rw [HN2.out.2], ⟨by rw [HN2.out.1]; exact isD_nilF _⟩, (HA.out _ HB.out).1⟩
  by_cases a5 : 256 < nP
  · have a5' : (256 : Int) < (nP : Int) := by omega
    have hbf : b = false := by
      rw [HArg.out]
      cases hz : (betw now 2097152 && (betw term 2097152 && (usedB past && decide (past.length ≤ 256)))) with
      | false => rfl
      | true =>
        simp only [Bool.and_eq_true, decide_eq_true_eq, betw_iff] at hz
        have := HLp.out
        omega
    have HN2 := Seal.mk (HNo.out 1 (HArg1.out hbf) (by first | decide | assumption))
    go_wp2
    refine bodyPost_ret (v := .tuple #[.slice none 0 0, .int .i64 1]) (by simp [results, Tryz.results7, go_sem]; try rfl) rfl ⟨none, 0, 0, by rw [HN2.out.2], ⟨by rw [HN2.out.1]; exact isD_nilF _⟩, (HA.out _ HB.out).1⟩
  have a5' : ¬ (256 : Int) < (nP : Int) := by omega
  have hU := rused_any aP nP cP past w1 (HA.out w1 HB.out).2.P
  obtain ⟨u, hu⟩ : ∃ u, u = usedB past := ⟨_, rfl⟩
  rw [← hu] at hU
  have HU := Seal.mk hu
  clear hu
  go_wp2_with fail
  refine hU.mono ?_
  rintro e w2 ⟨rfl, hb⟩
  have HB := Seal.mk (HB.out.trans (hb.mono HB.out.size))
  clear hU hb
  cases u with
  | false =>
    have hbf : b = false := by rw [HArg.out, ← HU.out]; simp
    have HN2 := Seal.mk (HNo.out 1 (HArg1.out hbf) (by first | decide | assumption))
    go_wp2
    refine bodyPost_ret (v := .tuple #[.slice none 0 0, .int .i64 1]) (by simp [results, Tryz.results7, go_sem]; try rfl) rfl ⟨none, 0, 0, by rw [HN2.out.2], ⟨by rw [HN2.out.1]; exact isD_nilF _⟩, (HA.out _ HB.out).1⟩
  | true =>
    have HAr : Seal (argB past now term = true) := ⟨HArg2.out (by
      have := HLp.out
      rw [HArg.out, ← HU.out, betw_iff.2 ⟨by omega, by omega⟩, betw_iff.2 ⟨by omega, by omega⟩, decide_eq_true (show past.length ≤ 256 by omega)]; rfl)⟩
    have HTm : Seal (0 ≤ term ∧ term < 2097152) := ⟨by omega⟩
    clear HArg HArg1 HArg2 HU
    have rX := HR.out w2 HB.out
    go_wp2_with (refine wpList_load_mid_g (by kernel_rfl) 35 (.tmp 9) rfl gx 0 rfl CX _ rX uC rfl iX ?_; (try simp only [Act.put, List.setIfInBounds_toArray, List.set_cons_zero, List.set_cons_succ]))
    clear a1 a2 a3 a4
    obtain ⟨f, hf⟩ : ∃ f, f = formB off x.c := ⟨_, rfl⟩
    have hF := rformed57_any aO nO cO off x w2 (HA.out w2 HB.out).2.O (HA.out w2 HB.out).2.K.llen.symm (HA.out w2 HB.out).2.F.llen.symm
    rw [← hf, ← HC.out] at hF
    have HFm := Seal.mk hf
    clear hf rX
    refine hF.mono ?_
    rintro e w3 ⟨rfl, hb⟩
    have HB := Seal.mk (HB.out.trans (hb.mono HB.out.size))
    clear hF hb
    cases f with
    | false =>
      have HN2 := Seal.mk (HNo.out 560 (adm_2 HE0.out HAr.out HFm.out.symm) (by first | decide | assumption))
      go_wp2
      refine bodyPost_ret (v := .tuple #[.slice none 0 0, .int .i64 560]) (by simp [results, Tryz.results7, go_sem]; try rfl) rfl ⟨none, 0, 0, by rw [HN2.out.2], ⟨by rw [HN2.out.1]; exact isD_nilF _⟩, (HA.out _ HB.out).1⟩
    | true =>
      have rX := HR.out w3 HB.out
      go_wp2_with (refine wpList_load_mid_g (by kernel_rfl) 35 (.tmp 9) rfl gx 0 rfl CX _ rX uC rfl iX ?_; (try simp only [Act.put, List.setIfInBounds_toArray, List.set_cons_zero, List.set_cons_succ]))
      obtain ⟨D, hD⟩ : ∃ D, D = ((caseD x.c).map B).toArray := ⟨_, rfl⟩
      have HD := Seal.mk hD
      have HDg : Seal (∀ W, Below X.heap.size X W → Calls Tryz.prog 9 #[.agg CX.toArray] W fun e w' => e = .returned (.agg D) ∧ Below W.heap.size W w') := ⟨fun W h => by
        have h2 := (HA.out W h).2
        rw [HC.out, HD.out]
        exact rdigest57_any x W h2.ok h2.F h2.F100⟩
      clear hD rX
      refine (HDg.out w3 HB.out).mono ?_
      rintro e w4 ⟨rfl, hb⟩
      have HB := Seal.mk (HB.out.trans (hb.mono HB.out.size))
      clear hb
      go_wp2_with fail
      obtain ⟨hs, hhs⟩ : ∃ h, h = hasB past (caseD x.c) := ⟨_, rfl⟩
      have hH := rhas_any aP nP cP past (caseD x.c) w4 (HA.out w4 HB.out).2.P (caseD_len _)
      rw [← hhs, ← HD.out] at hH
      have Hhs := Seal.mk hhs
      clear hhs
      refine hH.mono ?_
      rintro e w5 ⟨rfl, hb⟩
      have HB := Seal.mk (HB.out.trans (hb.mono HB.out.size))
      clear hH hb
      cases hs with
      | true =>
        have HN2 := Seal.mk (HNo.out 181 (adm_3 HE0.out HAr.out HFm.out.symm Hhs.out.symm) (by first | decide | assumption))
        go_wp2
        refine bodyPost_ret (v := .tuple #[.slice none 0 0, .int .i64 181]) (by simp [results, Tryz.results7, go_sem]; try rfl) rfl ⟨none, 0, 0, by rw [HN2.out.2], ⟨by rw [HN2.out.1]; exact isD_nilF _⟩, (HA.out _ HB.out).1⟩
      | false =>
        have rX := HR.out w5 HB.out
        go_wp2_with (refine wpList_load_mid_g (by kernel_rfl) 35 (.tmp 9) rfl gx 0 rfl CX _ rX uC rfl iX ?_; (try simp only [Act.put, List.setIfInBounds_toArray, List.set_cons_zero, List.set_cons_succ]))
        obtain ⟨t, ht⟩ : ∃ t, t = timeB l off x.c now term := ⟨_, rfl⟩
        have hfm := formB_iff.1 HFm.out.symm
        have h5 := (HA.out w5 HB.out).2
        have hT := rtimely57_any aE nE cE l aO nO cO off x now term w5 h5.E h5.O h5.K (by have := h5.K.llen; have := h5.O.llen; have := hfm.1.2.2; omega) (betw_iff.1 hfm.2.2.1.2.2) HTm.out
        rw [← ht, ← HC.out] at hT
        have Ht := Seal.mk ht
        clear ht hfm h5 rX
        refine hT.mono ?_
        rintro e w6 ⟨rfl, hb⟩
        have HB := Seal.mk (HB.out.trans (hb.mono HB.out.size))
        clear hT hb
        cases t with
        | false =>
          have HN2 := Seal.mk (HNo.out 570 (adm_4 HE0.out HAr.out HFm.out.symm Hhs.out.symm Ht.out.symm) (by first | decide | assumption))
          go_wp2
          refine bodyPost_ret (v := .tuple #[.slice none 0 0, .int .i64 570]) (by simp [results, Tryz.results7, go_sem]; try rfl) rfl ⟨none, 0, 0, by rw [HN2.out.2], ⟨by rw [HN2.out.1]; exact isD_nilF _⟩, (HA.out _ HB.out).1⟩
        | true =>
          by_cases h6 : nP = 256
          · subst h6
            have HN2 := Seal.mk (HNo.out 2 (adm_5 HE0.out HAr.out HFm.out.symm Hhs.out.symm Ht.out.symm (by have := HLp.out; omega)) (by first | decide | assumption))
            go_wp2
            refine bodyPost_ret (v := .tuple #[.slice none 0 0, .int .i64 2]) (by simp [results, Tryz.results7, go_sem]; try rfl) rfl ⟨none, 0, 0, by rw [HN2.out.2], ⟨by rw [HN2.out.1]; exact isD_nilF _⟩, (HA.out _ HB.out).1⟩
          have q6 : ((nP : Int) == 256) = false := by rw [beq_eq_false_iff_ne]; omega
          have HY : Seal (AL = putB past (caseD x.c) ∧ AE = 0) := ⟨by
            have h0 : admE l off past x.c now term = 0 := admE_zero.2 ⟨HE0.out, HAr.out, HFm.out.symm, Hhs.out.symm, Ht.out.symm, by have := HLp.out; omega⟩
            exact ⟨HM.out.1.trans (adm_yes h0), HM.out.2.trans h0⟩⟩
          have rX := HR.out w6 HB.out
          go_wp2_with (refine wpList_load_mid_g (by kernel_rfl) 35 (.tmp 9) rfl gx 0 rfl CX _ rX uC rfl iX ?_; (try simp only [Act.put, List.setIfInBounds_toArray, List.set_cons_zero, List.set_cons_succ]))
          refine (HDg.out w6 HB.out).mono ?_
          rintro e w7 ⟨rfl, hb⟩
          have HB := Seal.mk (HB.out.trans (hb.mono HB.out.size))
          clear hb rX
          have h7 := (HA.out w7 HB.out).2
          have hP := rput_any aP nP cP past (caseD x.c) w7 h7.P h7.ha (caseD_len _) (by omega)
          rw [← HD.out] at hP
          clear h7
          go_wp2_with fail
          refine hP.mono ?_
          rintro e w8 ⟨g, n, c, rfl, hi, hb⟩
          have HB := Seal.mk (HB.out.trans (hb.mono HB.out.size))
          have Hi := Seal.mk hi.out
          clear hP hi hb
          go_wp2
          refine bodyPost_ret (v := .tuple #[.slice (some ⟨g, 0, none⟩) n c, .int .i64 0]) (by simp [results, Tryz.results7, go_sem]; try rfl) rfl ⟨some ⟨g, 0, none⟩, n, c, by rw [HY.out.2], ⟨by rw [HY.out.1]; exact Hi.out⟩, (HA.out _ HB.out).1⟩
end Frk
