/- Law 44: DevicesMerged's walk. -/
import Derived.Test.YtnpnboldjbljaaaDoorVdLdo
namespace Frk
open Go Go.RowKit Go.Proofs
set_option maxRecDepth 100000

/-- an element of the pair of devices that are merged -/
def MgEl (gs : Nat) (M : Dv) (W0 : World) (k : Nat) : Prop := ∃ (xa : Option Addr) (xn xc : Nat) (ya : Option Addr) (yn yc : Nat) (D' : Dv), (∀ p ∈ D'.P, p ∈ M.P) ∧ (∀ n ∈ D'.G, n ∈ M.G) ∧ (∀ x ∈ D'.P, x.S.length = 32) ∧ Kp W0 (fun W => W.rangeAt gs (k * 2) [.slice xa xn xc, .slice ya yn yc] ∧ IsPs W xa xn xc D'.P ∧ IsIs W ya yn yc D'.G)
theorem heap_alloc3' (w : World) (x y z : Obj) : (((w.alloc x).alloc y).alloc z).heap[w.heap.size]? = some x ∧ (((w.alloc x).alloc y).alloc z).heap[w.heap.size + 1]? = some y ∧ (((w.alloc x).alloc y).alloc z).heap[w.heap.size + 1 + 1]? = some z := heap_alloc3 w x y z
set_option maxHeartbeats 16000000 in
theorem law_devicesMerged (pa ga : Option Addr) (pn pc gn gc : Nat) (D : Dv) (qa ha : Option Addr) (qn qc hn hc : Nat) (E : Dv) (ra sa : Option Addr) (rn rc sn sc : Nat) (F : Dv) (w : World) (hG : Glob w) (hD : DevArg w pa ga pn pc gn gc D) (hE : DevArg w qa ha qn qc hn hc E) (hF : DevArg w ra sa rn rc sn sc F) :
    Calls Tryd.prog 7 #[.agg #[.slice pa pn pc, .slice ga gn gc], .agg #[.slice qa qn qc, .slice ha hn hc], .agg #[.slice ra rn rc, .slice sa sn sc]] w fun e w' => e = .returned (.bool true) ∧ Below w.heap.size w w' := by
  obtain ⟨X, hX⟩ : ∃ X : World, X = ((w.alloc (.cells #[.slice pa pn pc, .slice ga gn gc] 25)).alloc (.cells #[.slice qa qn qc, .slice ha hn hc] 25)).alloc (.cells #[.slice ra rn rc, .slice sa sn sc] 25) := ⟨_, rfl⟩
  have HB : Seal (Below w.heap.size w X) := ⟨by rw [hX]; exact (((Below.refl _ w).alloc (Nat.le_refl _) _).alloc (by simp) _).alloc (by simp; omega) _⟩
  obtain ⟨hr1, hr2, hr3⟩ : X.heap[w.heap.size]? = some (.cells #[.slice pa pn pc, .slice ga gn gc] 25 (0, 0)) ∧ X.heap[w.heap.size + 1]? = some (.cells #[.slice qa qn qc, .slice ha hn hc] 25 (0, 0)) ∧ X.heap[w.heap.size + 1 + 1]? = some (.cells #[.slice ra rn rc, .slice sa sn sc] 25 (0, 0)) := by rw [hX]; exact heap_alloc3' w _ _ _
  have HK : Seal (Kp X (fun W => W.rangeAt w.heap.size 0 [.slice pa pn pc, .slice ga gn gc])) := ⟨kp_range (rangeAt_row (cs := [.slice pa pn pc, .slice ga gn gc]) hr1)⟩
  have HL : Seal (Kp X (fun W => W.rangeAt (w.heap.size + 1) 0 [.slice qa qn qc, .slice ha hn hc])) := ⟨kp_range (rangeAt_row (cs := [.slice qa qn qc, .slice ha hn hc]) hr2)⟩
  have HM : Seal (Kp X (fun W => W.rangeAt (w.heap.size + 1 + 1) 0 [.slice ra rn rc, .slice sa sn sc])) := ⟨kp_range (rangeAt_row (cs := [.slice ra rn rc, .slice sa sn sc]) hr3)⟩
  have HDA := Seal.mk hD
  have HEA := Seal.mk hE
  have HFA' := Seal.mk hF
  have HS : Seal (Calls Tryd.prog 9 #[] X fun e w' => e = .returned (.bool true) ∧ Below X.heap.size X w') := ⟨sane44_any X (hG.below HB.out)⟩
  have ud := Tryd.underlying25
  obtain ⟨fa, hfa⟩ : ∃ b, b = fewB pn gn := ⟨_, rfl⟩
  obtain ⟨fb, hfb⟩ : ∃ b, b = fewB qn hn := ⟨_, rfl⟩
  obtain ⟨fc, hfc⟩ : ∃ b, b = fewB rn sn := ⟨_, rfl⟩
  have HFA := Seal.mk hfa
  have HFB := Seal.mk hfb
  have HFC := Seal.mk hfc
  clear hD hE hF hG hfa hfb hfc hr1 hr2 hr3
  go_enter Tryd.func7, Tryd.ntmps7
  go_upto_region 1 with (fail)
  rw [← hX]
  clear hX
  go_wp2_with fail
  refine HS.out.mono ?_
  rintro e w1 ⟨rfl, hb⟩
  have HB1 := Seal.mk (HB.out.trans (hb.mono HB.out.size))
  have HK := Seal.mk (HK.out.step hb)
  have HL := Seal.mk (HL.out.step hb)
  have HM := Seal.mk (HM.out.step hb)
  clear hb HB HS
  obtain ⟨gx, hgx⟩ : ∃ g, g = w.heap.size := ⟨_, rfl⟩
  rw [← hgx] at HK HL HM ⊢
  clear hgx
  go_wp2_with (refine wpList_load_mid rfl 25 (.tmp 3) rfl gx 0 rfl [.slice pa pn pc, .slice ga gn gc] _ HK.out.at ud rfl dev_info ?_)
  refine (rfew44_any pa ga pn pc gn gc w1).mono ?_
  rintro e w2 ⟨rfl, hb⟩
  rw [← HFA.out]
  have HB2 := Seal.mk (HB1.out.trans (hb.mono HB1.out.size))
  have HK := Seal.mk (HK.out.step hb)
  have HL := Seal.mk (HL.out.step hb)
  have HM := Seal.mk (HM.out.step hb)
  clear hb HB1
  cases fa with
  | false =>
    go_wp2
    go_ret
    exact ⟨rfl, HB2.out⟩
  | true =>
  go_wp2_with (refine wpList_load_mid_g (by kernel_rfl) 25 (.tmp 4) rfl (gx + 1) 0 rfl [.slice qa qn qc, .slice ha hn hc] _ HL.out.at ud rfl dev_info ?_; (try simp only [Act.put, List.setIfInBounds_toArray, List.set_cons_zero, List.set_cons_succ]))
  refine (rfew44_any qa ha qn qc hn hc w2).mono ?_
  rintro e w3 ⟨rfl, hb⟩
  rw [← HFB.out]
  have HB3 := Seal.mk (HB2.out.trans (hb.mono HB2.out.size))
  have HK := Seal.mk (HK.out.step hb)
  have HL := Seal.mk (HL.out.step hb)
  have HM := Seal.mk (HM.out.step hb)
  clear hb HB2
  cases fb with
  | false =>
    go_wp2
    go_ret
    exact ⟨rfl, HB3.out⟩
  | true =>
  go_wp2_with (refine wpList_load_mid_g (by kernel_rfl) 25 (.tmp 5) rfl (gx + 1 + 1) 0 rfl [.slice ra rn rc, .slice sa sn sc] _ HM.out.at ud rfl dev_info ?_; (try simp only [Act.put, List.setIfInBounds_toArray, List.set_cons_zero, List.set_cons_succ]))
  refine (rfew44_any ra sa rn rc sn sc w3).mono ?_
  rintro e w4 ⟨rfl, hb⟩
  rw [← HFC.out]
  have HB4 := Seal.mk (HB3.out.trans (hb.mono HB3.out.size))
  have HK := Seal.mk (HK.out.step hb)
  have HL := Seal.mk (HL.out.step hb)
  have HM := Seal.mk (HM.out.step hb)
  clear hb HB3
  cases fc with
  | false =>
    go_wp2
    go_ret
    exact ⟨rfl, HB4.out⟩
  | true =>
  have hla := fewB_le4 HFA.out.symm
  have hlb := fewB_le4 HFB.out.symm
  have hlc := fewB_le4 HFC.out.symm
  have HP : Seal (∀ W, Below w.heap.size w W → (IsPs W pa pn pc D.P ∧ IsIs W ga gn gc D.G) ∧ (IsPs W qa qn qc E.P ∧ IsIs W ha hn hc E.G) ∧ (IsPs W ra rn rc F.P ∧ IsIs W sa sn sc F.G)) := ⟨fun W h => ⟨⟨(HDA.out.ps hla.2.1).below h, (HDA.out.is_ (by omega)).below h⟩, ⟨(HEA.out.ps hlb.2.1).below h, (HEA.out.is_ (by omega)).below h⟩, ⟨(HFA'.out.ps hlc.2.1).below h, (HFA'.out.is_ (by omega)).below h⟩⟩⟩
  have HSm : Seal ((pn ≤ 40 ∨ 4096 < pn) ∧ (qn ≤ 40 ∨ 4096 < qn) ∧ (rn ≤ 40 ∨ 4096 < rn)) := ⟨by omega⟩
  clear hla hlb hlc
  have HCk : Seal (Calls Tryd.prog 14 #[.agg #[.slice pa pn pc, .slice ga gn gc]] w4 fun e w' => e = .returned (.int .i64 (chkD D)) ∧ Below w4.heap.size w4 w') := ⟨rcheck44_any pa ga pn pc gn gc D w4 (HP.out _ HB4.out).1.1 (HP.out _ HB4.out).1.2⟩
  obtain ⟨er, her⟩ : ∃ e, e = chkD D := ⟨_, rfl⟩
  rw [← her] at HCk
  have HER := Seal.mk her
  clear her
  go_wp2_with (refine wpList_load_mid_g (by kernel_rfl) 25 (.tmp 3) rfl gx 0 rfl [.slice pa pn pc, .slice ga gn gc] _ HK.out.at ud rfl dev_info ?_; (try simp only [Act.put, List.setIfInBounds_toArray, List.set_cons_zero, List.set_cons_succ]))
  refine HCk.out.mono ?_
  clear HCk
  rintro e w5 ⟨rfl, hb⟩
  have HB5 := Seal.mk (HB4.out.trans (hb.mono HB4.out.size))
  have HK := Seal.mk (HK.out.step hb)
  have HL := Seal.mk (HL.out.step hb)
  have HM := Seal.mk (HM.out.step hb)
  clear hb HB4
  by_cases h0 : er = 0
  rotate_left
  · have q0 : (er == 0) = false := by simp [h0]
    have q1 : (er != 0) = true := by simp [h0]
    clear h0 HER
    go_wp2
    go_ret
    exact ⟨rfl, HB5.out⟩
  subst h0
  have HCz : Seal (chkD D = 0) := ⟨HER.out.symm⟩
  clear HER
  have HCk : Seal (Calls Tryd.prog 14 #[.agg #[.slice qa qn qc, .slice ha hn hc]] w5 fun e w' => e = .returned (.int .i64 (chkD E)) ∧ Below w5.heap.size w5 w') := ⟨rcheck44_any qa ha qn qc hn hc E w5 (HP.out _ HB5.out).2.1.1 (HP.out _ HB5.out).2.1.2⟩
  obtain ⟨er, her⟩ : ∃ e, e = chkD E := ⟨_, rfl⟩
  rw [← her] at HCk
  have HER := Seal.mk her
  clear her
  go_wp2_with (refine wpList_load_mid_g (by kernel_rfl) 25 (.tmp 4) rfl (gx + 1) 0 rfl [.slice qa qn qc, .slice ha hn hc] _ HL.out.at ud rfl dev_info ?_; (try simp only [Act.put, List.setIfInBounds_toArray, List.set_cons_zero, List.set_cons_succ]))
  refine HCk.out.mono ?_
  clear HCk
  rintro e w6 ⟨rfl, hb⟩
  have HB6 := Seal.mk (HB5.out.trans (hb.mono HB5.out.size))
  have HK := Seal.mk (HK.out.step hb)
  have HL := Seal.mk (HL.out.step hb)
  have HM := Seal.mk (HM.out.step hb)
  clear hb HB5
  by_cases h0 : er = 0
  rotate_left
  · have q0 : (er == 0) = false := by simp [h0]
    have q1 : (er != 0) = true := by simp [h0]
    clear h0 HER
    go_wp2
    go_ret
    exact ⟨rfl, HB6.out⟩
  subst h0
  have HCe : Seal (chkD E = 0) := ⟨HER.out.symm⟩
  clear HER
  have HCk : Seal (Calls Tryd.prog 14 #[.agg #[.slice ra rn rc, .slice sa sn sc]] w6 fun e w' => e = .returned (.int .i64 (chkD F)) ∧ Below w6.heap.size w6 w') := ⟨rcheck44_any ra sa rn rc sn sc F w6 (HP.out _ HB6.out).2.2.1 (HP.out _ HB6.out).2.2.2⟩
  obtain ⟨er, her⟩ : ∃ e, e = chkD F := ⟨_, rfl⟩
  rw [← her] at HCk
  have HER := Seal.mk her
  clear her
  go_wp2_with (refine wpList_load_mid_g (by kernel_rfl) 25 (.tmp 5) rfl (gx + 1 + 1) 0 rfl [.slice ra rn rc, .slice sa sn sc] _ HM.out.at ud rfl dev_info ?_; (try simp only [Act.put, List.setIfInBounds_toArray, List.set_cons_zero, List.set_cons_succ]))
  refine HCk.out.mono ?_
  clear HCk
  rintro e w7 ⟨rfl, hb⟩
  have HB7 := Seal.mk (HB6.out.trans (hb.mono HB6.out.size))
  have HK := Seal.mk (HK.out.step hb)
  have HL := Seal.mk (HL.out.step hb)
  have HM := Seal.mk (HM.out.step hb)
  clear hb HB6
  by_cases h0 : er = 0
  rotate_left
  · have q0 : (er == 0) = false := by simp [h0]
    have q1 : (er != 0) = true := by simp [h0]
    clear h0 HER
    go_wp2
    go_ret
    exact ⟨rfl, HB7.out⟩
  subst h0
  have HCf : Seal (chkD F = 0) := ⟨HER.out.symm⟩
  clear HER
  have HQn : Seal (D.P.length ≤ 40 ∧ E.P.length ≤ 40 ∧ F.P.length ≤ 40) := ⟨by
    have h1 := (chkD_zero.1 HCz.out).1
    have h2 := (chkD_zero.1 HCe.out).1
    have h3 := (chkD_zero.1 HCf.out).1
    have l1 := (HP.out _ HB7.out).1.1.llen
    have l2 := (HP.out _ HB7.out).2.1.1.llen
    have l3 := (HP.out _ HB7.out).2.2.1.llen
    have h4 := HSm.out
    omega⟩
  obtain ⟨me, hme⟩ : ∃ e, e = mergeE D E := ⟨_, rfl⟩
  obtain ⟨M, hM⟩ : ∃ z, z = mergeD D E := ⟨_, rfl⟩
  have HME := Seal.mk (And.intro hme hM)
  obtain ⟨me2, hme2⟩ : ∃ e, e = mergeE E F := ⟨_, rfl⟩
  obtain ⟨M2, hM2⟩ : ∃ z, z = mergeD E F := ⟨_, rfl⟩
  have HME2 := Seal.mk (And.intro hme2 hM2)
  clear hme hM hme2 hM2
  have C1 : Seal (Calls Tryd.prog 18 #[.agg #[.slice pa pn pc, .slice ga gn gc], .agg #[.slice pa pn pc, .slice ga gn gc]] w7 (DevsC D 0 w7)) := ⟨by
    have h := dmerge_any pa ga pn pc gn gc D pa ga pn pc gn gc D w7 (HP.out _ HB7.out).1.1 HDA.out.p32 (HP.out _ HB7.out).1.2 (HP.out _ HB7.out).1.1 HDA.out.p32 (HP.out _ HB7.out).1.2
    rw [(merge_self HCz.out).2] at h
    rw [(merge_self HCz.out).1] at h
    exact dev_c h⟩
  go_wp2_with (refine wpList_load_mid rfl 25 (.tmp 3) rfl gx 0 rfl [.slice pa pn pc, .slice ga gn gc] _ HK.out.at ud rfl dev_info ?_)
  refine C1.out.mono ?_
  clear C1
  rintro e w8 ⟨pa8, pn8, pc8, ga8, gn8, gc8, rfl, hd, hb⟩
  obtain ⟨N1, N2, N3⟩ := one_new w8 #[.slice pa8 pn8 pc8, .slice ga8 gn8 gc8]
  have Z1 : Seal _ := ⟨N1⟩
  have Z2 : Seal _ := ⟨N2⟩
  have Z3 : Seal _ := ⟨N3⟩
  clear N1 N2 N3
  have HB80 : Seal (Below w.heap.size w w8) := ⟨HB7.out.trans (hb.mono HB7.out.size)⟩
  have HK := Seal.mk (HK.out.step hb)
  have HL := Seal.mk (HL.out.step hb)
  have HM := Seal.mk (HM.out.step hb)
  go_wp2_with (first
    | (refine wpList_store_row rfl 25 (.tmp 7) (.tmp 60) rfl w8.heap.size #[.slice pa8 pn8 pc8, .slice ga8 gn8 gc8] rfl rfl 25 _ Z1.out dev_info rfl (by simp [Value.oneCell']) ?_; obtain ⟨Z, hZ⟩ : ∃ Z, Z = (w8.alloc (.cells #[.slice none 0 0, .slice none 0 0] 25)).setRow w8.heap.size #[.slice pa8 pn8 pc8, .slice ga8 gn8 gc8] := ⟨_, rfl⟩; rw [← hZ]; have Z2' := Z2.out; have Z3' := Z3.out; rw [← hZ] at Z2' Z3'; clear hZ Z1 Z2 Z3; have HB8 : Seal (Below w.heap.size w Z) := ⟨HB80.out.trans (Z3'.mono HB80.out.size)⟩; clear HB80; have HK := Seal.mk (HK.out.step Z3'); have HL := Seal.mk (HL.out.step Z3'); have HM := Seal.mk (HM.out.step Z3'); have K8 : Seal (Kp Z (DevC w8.heap.size pa8 pn8 pc8 ga8 gn8 gc8 D)) := ⟨kp_dev Z2' ((hd.out.1).below Z3') hd.out.2.1 ((hd.out.2.2).below Z3')⟩; clear Z2' Z3' hd hb; (try simp only [Act.put]))
    | (refine wpList_load_mid rfl 25 (.tmp 3) rfl gx 0 rfl [.slice pa pn pc, .slice ga gn gc] _ HK.out.at ud rfl dev_info ?_)
    | (refine wpList_load_mid rfl 25 (.tmp 4) rfl (gx + 1) 0 rfl [.slice qa qn qc, .slice ha hn hc] _ HL.out.at ud rfl dev_info ?_))
  obtain ⟨W8, hW8⟩ : ∃ z, z = Z := ⟨_, rfl⟩
  subst hW8
  obtain ⟨g8, hg8⟩ : ∃ g, g = w8.heap.size := ⟨_, rfl⟩
  rw [← hg8] at K8 ⊢
  clear hg8

  have C1 : Seal (Calls Tryd.prog 18 #[.agg #[.slice pa pn pc, .slice ga gn gc], .agg #[.slice qa qn qc, .slice ha hn hc]] W8 (DevsC M me W8)) := ⟨by
    have h := dmerge_any pa ga pn pc gn gc D qa ha qn qc hn hc E W8 (HP.out _ HB8.out).1.1 HDA.out.p32 (HP.out _ HB8.out).1.2 (HP.out _ HB8.out).2.1.1 HEA.out.p32 (HP.out _ HB8.out).2.1.2
    rw [← HME.out.1] at h
    rw [← HME.out.2] at h
    exact dev_c h⟩
  refine C1.out.mono ?_
  clear C1
  rintro e w9 ⟨pa9, pn9, pc9, ga9, gn9, gc9, rfl, hd, hb⟩
  obtain ⟨N1, N2, N3⟩ := one_new w9 #[.slice pa9 pn9 pc9, .slice ga9 gn9 gc9]
  have Z1 : Seal _ := ⟨N1⟩
  have Z2 : Seal _ := ⟨N2⟩
  have Z3 : Seal _ := ⟨N3⟩
  clear N1 N2 N3
  have HB90 : Seal (Below w.heap.size w w9) := ⟨HB8.out.trans (hb.mono HB8.out.size)⟩
  have HK := Seal.mk (HK.out.step hb)
  have HL := Seal.mk (HL.out.step hb)
  have HM := Seal.mk (HM.out.step hb)
  have K8 := Seal.mk (K8.out.step hb)
  go_wp2_with (first
    | (refine wpList_store_row rfl 25 (.tmp 9) (.tmp 66) rfl w9.heap.size #[.slice pa9 pn9 pc9, .slice ga9 gn9 gc9] rfl rfl 25 _ Z1.out dev_info rfl (by simp [Value.oneCell']) ?_; obtain ⟨Z, hZ⟩ : ∃ Z, Z = (w9.alloc (.cells #[.slice none 0 0, .slice none 0 0] 25)).setRow w9.heap.size #[.slice pa9 pn9 pc9, .slice ga9 gn9 gc9] := ⟨_, rfl⟩; rw [← hZ]; have Z2' := Z2.out; have Z3' := Z3.out; rw [← hZ] at Z2' Z3'; clear hZ Z1 Z2 Z3; have HB9 : Seal (Below w.heap.size w Z) := ⟨HB90.out.trans (Z3'.mono HB90.out.size)⟩; clear HB90; have HK := Seal.mk (HK.out.step Z3'); have HL := Seal.mk (HL.out.step Z3'); have HM := Seal.mk (HM.out.step Z3'); have K8 := Seal.mk (K8.out.step Z3'); have K9 : Seal (Kp Z (DevC w9.heap.size pa9 pn9 pc9 ga9 gn9 gc9 M)) := ⟨kp_dev Z2' ((hd.out.1).below Z3') hd.out.2.1 ((hd.out.2.2).below Z3')⟩; clear Z2' Z3' hd hb; (try simp only [Act.put]))
    | (refine wpList_load_mid rfl 25 (.tmp 3) rfl gx 0 rfl [.slice pa pn pc, .slice ga gn gc] _ HK.out.at ud rfl dev_info ?_)
    | (refine wpList_load_mid rfl 25 (.tmp 4) rfl (gx + 1) 0 rfl [.slice qa qn qc, .slice ha hn hc] _ HL.out.at ud rfl dev_info ?_))
  obtain ⟨W9, hW9⟩ : ∃ z, z = Z := ⟨_, rfl⟩
  subst hW9
  obtain ⟨g9, hg9⟩ : ∃ g, g = w9.heap.size := ⟨_, rfl⟩
  rw [← hg9] at K9 ⊢
  clear hg9

  have C1 : Seal (Calls Tryd.prog 18 #[.agg #[.slice qa qn qc, .slice ha hn hc], .agg #[.slice pa pn pc, .slice ga gn gc]] W9 (DevsC M me W9)) := ⟨by
    have h := dmerge_any qa ha qn qc hn hc E pa ga pn pc gn gc D W9 (HP.out _ HB9.out).2.1.1 HEA.out.p32 (HP.out _ HB9.out).2.1.2 (HP.out _ HB9.out).1.1 HDA.out.p32 (HP.out _ HB9.out).1.2
    rw [← mergeE_comm HCz.out HCe.out] at h
    rw [← mergeD_comm HCz.out HCe.out] at h
    rw [← HME.out.1] at h
    rw [← HME.out.2] at h
    exact dev_c h⟩
  refine C1.out.mono ?_
  clear C1
  rintro e w10 ⟨pa10, pn10, pc10, ga10, gn10, gc10, rfl, hd, hb⟩
  obtain ⟨N1, N2, N3⟩ := one_new w10 #[.slice pa10 pn10 pc10, .slice ga10 gn10 gc10]
  have Z1 : Seal _ := ⟨N1⟩
  have Z2 : Seal _ := ⟨N2⟩
  have Z3 : Seal _ := ⟨N3⟩
  clear N1 N2 N3
  have HB100 : Seal (Below w.heap.size w w10) := ⟨HB9.out.trans (hb.mono HB9.out.size)⟩
  have HK := Seal.mk (HK.out.step hb)
  have HL := Seal.mk (HL.out.step hb)
  have HM := Seal.mk (HM.out.step hb)
  have K8 := Seal.mk (K8.out.step hb)
  have K9 := Seal.mk (K9.out.step hb)
  go_wp2_with (first
    | (refine wpList_store_row rfl 25 (.tmp 11) (.tmp 72) rfl w10.heap.size #[.slice pa10 pn10 pc10, .slice ga10 gn10 gc10] rfl rfl 25 _ Z1.out dev_info rfl (by simp [Value.oneCell']) ?_; obtain ⟨Z, hZ⟩ : ∃ Z, Z = (w10.alloc (.cells #[.slice none 0 0, .slice none 0 0] 25)).setRow w10.heap.size #[.slice pa10 pn10 pc10, .slice ga10 gn10 gc10] := ⟨_, rfl⟩; rw [← hZ]; have Z2' := Z2.out; have Z3' := Z3.out; rw [← hZ] at Z2' Z3'; clear hZ Z1 Z2 Z3; have HB10 : Seal (Below w.heap.size w Z) := ⟨HB100.out.trans (Z3'.mono HB100.out.size)⟩; clear HB100; have HK := Seal.mk (HK.out.step Z3'); have HL := Seal.mk (HL.out.step Z3'); have HM := Seal.mk (HM.out.step Z3'); have K8 := Seal.mk (K8.out.step Z3'); have K9 := Seal.mk (K9.out.step Z3'); have K10 : Seal (Kp Z (DevC w10.heap.size pa10 pn10 pc10 ga10 gn10 gc10 M)) := ⟨kp_dev Z2' ((hd.out.1).below Z3') hd.out.2.1 ((hd.out.2.2).below Z3')⟩; clear Z2' Z3' hd hb; (try simp only [Act.put]))
    | (refine wpList_load_mid_g (by kernel_rfl) 25 (.tmp 7) rfl g8 0 rfl [.slice pa8 pn8 pc8, .slice ga8 gn8 gc8] _ K8.out.at.1 ud rfl dev_info ?_; (try simp only [Act.put, List.setIfInBounds_toArray, List.set_cons_zero, List.set_cons_succ]))
    | (refine wpList_load_mid_g (by kernel_rfl) 25 (.tmp 3) rfl gx 0 rfl [.slice pa pn pc, .slice ga gn gc] _ HK.out.at ud rfl dev_info ?_; (try simp only [Act.put, List.setIfInBounds_toArray, List.set_cons_zero, List.set_cons_succ])))
  obtain ⟨W10, hW10⟩ : ∃ z, z = Z := ⟨_, rfl⟩
  subst hW10
  obtain ⟨g10, hg10⟩ : ∃ g, g = w10.heap.size := ⟨_, rfl⟩
  rw [← hg10] at K10 ⊢
  clear hg10

  refine (rsame44_eq pa8 ga8 pa ga pn8 pc8 gn8 gc8 pn pc gn gc D D W10 K8.out.at.2.1 K8.out.at.2.2.1 K8.out.at.2.2.2 (HP.out _ HB10.out).1.1 (HP.out _ HB10.out).1.2 rfl).mono ?_
  rintro e W11 ⟨rfl, hb⟩
  have HB11 : Seal (Below w.heap.size w W11) := ⟨HB10.out.trans (hb.mono HB10.out.size)⟩
  have HK := Seal.mk (HK.out.step hb)
  have HL := Seal.mk (HL.out.step hb)
  have HM := Seal.mk (HM.out.step hb)
  have K8 := Seal.mk (K8.out.step hb)
  have K9 := Seal.mk (K9.out.step hb)
  have K10 := Seal.mk (K10.out.step hb)
  clear hb
  have qm : (me != me) = false := by simp
  go_wp2_with (first | (refine wpList_load_mid_g (by kernel_rfl) 25 (.tmp 9) rfl g9 0 rfl [.slice pa9 pn9 pc9, .slice ga9 gn9 gc9] _ K9.out.at.1 ud rfl dev_info ?_; (try simp only [Act.put, List.setIfInBounds_toArray, List.set_cons_zero, List.set_cons_succ])) | (refine wpList_load_mid_g (by kernel_rfl) 25 (.tmp 11) rfl g10 0 rfl [.slice pa10 pn10 pc10, .slice ga10 gn10 gc10] _ K10.out.at.1 ud rfl dev_info ?_; (try simp only [Act.put, List.setIfInBounds_toArray, List.set_cons_zero, List.set_cons_succ])))
  refine (rsame44_eq pa9 ga9 pa10 ga10 pn9 pc9 gn9 gc9 pn10 pc10 gn10 gc10 M M W11 K9.out.at.2.1 K9.out.at.2.2.1 K9.out.at.2.2.2 K10.out.at.2.1 K10.out.at.2.2.2 rfl).mono ?_
  rintro e W12 ⟨rfl, hb⟩
  have HB12 : Seal (Below w.heap.size w W12) := ⟨HB11.out.trans (hb.mono HB11.out.size)⟩
  have HK := Seal.mk (HK.out.step hb)
  have HL := Seal.mk (HL.out.step hb)
  have HM := Seal.mk (HM.out.step hb)
  have K8 := Seal.mk (K8.out.step hb)
  have K9 := Seal.mk (K9.out.step hb)
  have K10 := Seal.mk (K10.out.step hb)
  clear hb
  have C1 : Seal (Calls Tryd.prog 18 #[.agg #[.slice qa qn qc, .slice ha hn hc], .agg #[.slice ra rn rc, .slice sa sn sc]] W12 (DevsC M2 me2 W12)) := ⟨by
    have h := dmerge_any qa ha qn qc hn hc E ra sa rn rc sn sc F W12 (HP.out _ HB12.out).2.1.1 HEA.out.p32 (HP.out _ HB12.out).2.1.2 (HP.out _ HB12.out).2.2.1 HFA'.out.p32 (HP.out _ HB12.out).2.2.2
    rw [← HME2.out.1] at h
    rw [← HME2.out.2] at h
    exact dev_c h⟩
  go_wp2_with (first | (refine wpList_load_mid rfl 25 (.tmp 4) rfl (gx + 1) 0 rfl [.slice qa qn qc, .slice ha hn hc] _ HL.out.at ud rfl dev_info ?_) | (refine wpList_load_mid rfl 25 (.tmp 5) rfl (gx + 1 + 1) 0 rfl [.slice ra rn rc, .slice sa sn sc] _ HM.out.at ud rfl dev_info ?_))
  refine C1.out.mono ?_
  clear C1
  have HMz : Seal ((me = 440 ∨ me = 0) ∧ (me2 = 440 ∨ me2 = 0)) := ⟨by
    rw [HME.out.1, HME2.out.1, mergeE_or HCz.out HCe.out (by have := HQn.out; omega), mergeE_or HCe.out HCf.out (by have := HQn.out; omega)]
    constructor
    · split
      · exact .inl rfl
      · exact .inr rfl
    · split
      · exact .inl rfl
      · exact .inr rfl⟩
  by_cases hm : me = 0
  rotate_left
  · have hm4 : me = 440 := by
      rcases HMz.out.1 with h | h
      · exact h
      · exact absurd h hm
    subst hm4
    clear hm qm
    rintro e w13 ⟨pa13, pn13, pc13, ga13, gn13, gc13, rfl, hd, hb⟩
    obtain ⟨N1, N2, N3⟩ := one_new w13 #[.slice pa13 pn13 pc13, .slice ga13 gn13 gc13]
    have Z1 : Seal _ := ⟨N1⟩
    have Z2 : Seal _ := ⟨N2⟩
    have Z3 : Seal _ := ⟨N3⟩
    clear N1 N2 N3
    have HB130 : Seal (Below w.heap.size w w13) := ⟨HB12.out.trans (hb.mono HB12.out.size)⟩
    have HK := Seal.mk (HK.out.step hb)
    have HL := Seal.mk (HL.out.step hb)
    have HM := Seal.mk (HM.out.step hb)
    have K8 := Seal.mk (K8.out.step hb)
    have K9 := Seal.mk (K9.out.step hb)
    have K10 := Seal.mk (K10.out.step hb)
    go_wp2_with (first
      | (refine wpList_store_row rfl 25 (.tmp 13) (.tmp 97) rfl w13.heap.size #[.slice pa13 pn13 pc13, .slice ga13 gn13 gc13] rfl rfl 25 _ Z1.out dev_info rfl (by simp [Value.oneCell']) ?_; obtain ⟨Z, hZ⟩ : ∃ Z, Z = (w13.alloc (.cells #[.slice none 0 0, .slice none 0 0] 25)).setRow w13.heap.size #[.slice pa13 pn13 pc13, .slice ga13 gn13 gc13] := ⟨_, rfl⟩; rw [← hZ]; have Z2' := Z2.out; have Z3' := Z3.out; rw [← hZ] at Z2' Z3'; clear hZ Z1 Z2 Z3; have HB13 : Seal (Below w.heap.size w Z) := ⟨HB130.out.trans (Z3'.mono HB130.out.size)⟩; clear HB130; have HK := Seal.mk (HK.out.step Z3'); have HL := Seal.mk (HL.out.step Z3'); have HM := Seal.mk (HM.out.step Z3'); have K8 := Seal.mk (K8.out.step Z3'); have K9 := Seal.mk (K9.out.step Z3'); have K10 := Seal.mk (K10.out.step Z3'); have K13 : Seal (Kp Z (DevC w13.heap.size pa13 pn13 pc13 ga13 gn13 gc13 M2)) := ⟨kp_dev Z2' ((hd.out.1).below Z3') hd.out.2.1 ((hd.out.2.2).below Z3')⟩; clear Z2' Z3' hd hb; (try simp only [Act.put])))
    obtain ⟨W13, hW13⟩ : ∃ z, z = Z := ⟨_, rfl⟩
    subst hW13
    obtain ⟨g13, hg13⟩ : ∃ g, g = w13.heap.size := ⟨_, rfl⟩
    rw [← hg13] at K13 ⊢
    clear hg13

    go_ret
    exact ⟨rfl, HB13.out⟩
  subst hm
  clear qm
  by_cases hm : me2 = 0
  rotate_left
  · have hm4 : me2 = 440 := by
      rcases HMz.out.2 with h | h
      · exact h
      · exact absurd h hm
    subst hm4
    clear hm
    rintro e w13 ⟨pa13, pn13, pc13, ga13, gn13, gc13, rfl, hd, hb⟩
    obtain ⟨N1, N2, N3⟩ := one_new w13 #[.slice pa13 pn13 pc13, .slice ga13 gn13 gc13]
    have Z1 : Seal _ := ⟨N1⟩
    have Z2 : Seal _ := ⟨N2⟩
    have Z3 : Seal _ := ⟨N3⟩
    clear N1 N2 N3
    have HB130 : Seal (Below w.heap.size w w13) := ⟨HB12.out.trans (hb.mono HB12.out.size)⟩
    have HK := Seal.mk (HK.out.step hb)
    have HL := Seal.mk (HL.out.step hb)
    have HM := Seal.mk (HM.out.step hb)
    have K8 := Seal.mk (K8.out.step hb)
    have K9 := Seal.mk (K9.out.step hb)
    have K10 := Seal.mk (K10.out.step hb)
    go_wp2_with (first
      | (refine wpList_store_row rfl 25 (.tmp 13) (.tmp 97) rfl w13.heap.size #[.slice pa13 pn13 pc13, .slice ga13 gn13 gc13] rfl rfl 25 _ Z1.out dev_info rfl (by simp [Value.oneCell']) ?_; obtain ⟨Z, hZ⟩ : ∃ Z, Z = (w13.alloc (.cells #[.slice none 0 0, .slice none 0 0] 25)).setRow w13.heap.size #[.slice pa13 pn13 pc13, .slice ga13 gn13 gc13] := ⟨_, rfl⟩; rw [← hZ]; have Z2' := Z2.out; have Z3' := Z3.out; rw [← hZ] at Z2' Z3'; clear hZ Z1 Z2 Z3; have HB13 : Seal (Below w.heap.size w Z) := ⟨HB130.out.trans (Z3'.mono HB130.out.size)⟩; clear HB130; have HK := Seal.mk (HK.out.step Z3'); have HL := Seal.mk (HL.out.step Z3'); have HM := Seal.mk (HM.out.step Z3'); have K8 := Seal.mk (K8.out.step Z3'); have K9 := Seal.mk (K9.out.step Z3'); have K10 := Seal.mk (K10.out.step Z3'); have K13 : Seal (Kp Z (DevC w13.heap.size pa13 pn13 pc13 ga13 gn13 gc13 M2)) := ⟨kp_dev Z2' ((hd.out.1).below Z3') hd.out.2.1 ((hd.out.2.2).below Z3')⟩; clear Z2' Z3' hd hb; (try simp only [Act.put])))
    obtain ⟨W13, hW13⟩ : ∃ z, z = Z := ⟨_, rfl⟩
    subst hW13
    obtain ⟨g13, hg13⟩ : ∃ g, g = w13.heap.size := ⟨_, rfl⟩
    rw [← hg13] at K13 ⊢
    clear hg13

    go_ret
    exact ⟨rfl, HB13.out⟩
  subst hm
  have HAs : Seal (mergeE M F = mergeE D M2 ∧ mergeD M F = mergeD D M2 ∧ chkD M = 0) := ⟨by
    have h := merge_assoc HCz.out HCe.out HCf.out (by have := HQn.out; omega) HME.out.1.symm HME2.out.1.symm
    rw [HME.out.2, HME2.out.2]
    exact ⟨h.1, h.2, merge_chk HME.out.1.symm⟩⟩
  obtain ⟨me3, hme3⟩ : ∃ e, e = mergeE M F := ⟨_, rfl⟩
  obtain ⟨M3, hM3⟩ : ∃ z, z = mergeD M F := ⟨_, rfl⟩
  have HME3 := Seal.mk (And.intro hme3 hM3)
  clear hme3 hM3
  rintro e w13 ⟨pa13, pn13, pc13, ga13, gn13, gc13, rfl, hd, hb⟩
  obtain ⟨N1, N2, N3⟩ := one_new w13 #[.slice pa13 pn13 pc13, .slice ga13 gn13 gc13]
  have Z1 : Seal _ := ⟨N1⟩
  have Z2 : Seal _ := ⟨N2⟩
  have Z3 : Seal _ := ⟨N3⟩
  clear N1 N2 N3
  have HB130 : Seal (Below w.heap.size w w13) := ⟨HB12.out.trans (hb.mono HB12.out.size)⟩
  have HK := Seal.mk (HK.out.step hb)
  have HL := Seal.mk (HL.out.step hb)
  have HM := Seal.mk (HM.out.step hb)
  have K8 := Seal.mk (K8.out.step hb)
  have K9 := Seal.mk (K9.out.step hb)
  have K10 := Seal.mk (K10.out.step hb)
  go_wp2_with (first
    | (refine wpList_store_row rfl 25 (.tmp 13) (.tmp 97) rfl w13.heap.size #[.slice pa13 pn13 pc13, .slice ga13 gn13 gc13] rfl rfl 25 _ Z1.out dev_info rfl (by simp [Value.oneCell']) ?_; obtain ⟨Z, hZ⟩ : ∃ Z, Z = (w13.alloc (.cells #[.slice none 0 0, .slice none 0 0] 25)).setRow w13.heap.size #[.slice pa13 pn13 pc13, .slice ga13 gn13 gc13] := ⟨_, rfl⟩; rw [← hZ]; have Z2' := Z2.out; have Z3' := Z3.out; rw [← hZ] at Z2' Z3'; clear hZ Z1 Z2 Z3; have HB13 : Seal (Below w.heap.size w Z) := ⟨HB130.out.trans (Z3'.mono HB130.out.size)⟩; clear HB130; have HK := Seal.mk (HK.out.step Z3'); have HL := Seal.mk (HL.out.step Z3'); have HM := Seal.mk (HM.out.step Z3'); have K8 := Seal.mk (K8.out.step Z3'); have K9 := Seal.mk (K9.out.step Z3'); have K10 := Seal.mk (K10.out.step Z3'); have K13 : Seal (Kp Z (DevC w13.heap.size pa13 pn13 pc13 ga13 gn13 gc13 M2)) := ⟨kp_dev Z2' ((hd.out.1).below Z3') hd.out.2.1 ((hd.out.2.2).below Z3')⟩; clear Z2' Z3' hd hb; (try simp only [Act.put]))
    | (refine wpList_load_mid rfl 25 (.tmp 9) rfl g9 0 rfl [.slice pa9 pn9 pc9, .slice ga9 gn9 gc9] _ K9.out.at.1 ud rfl dev_info ?_)
    | (refine wpList_load_mid rfl 25 (.tmp 5) rfl (gx + 1 + 1) 0 rfl [.slice ra rn rc, .slice sa sn sc] _ HM.out.at ud rfl dev_info ?_))
  obtain ⟨W13, hW13⟩ : ∃ z, z = Z := ⟨_, rfl⟩
  subst hW13
  obtain ⟨g13, hg13⟩ : ∃ g, g = w13.heap.size := ⟨_, rfl⟩
  rw [← hg13] at K13 ⊢
  clear hg13

  have C1 : Seal (Calls Tryd.prog 18 #[.agg #[.slice pa9 pn9 pc9, .slice ga9 gn9 gc9], .agg #[.slice ra rn rc, .slice sa sn sc]] W13 (DevsC M3 me3 W13)) := ⟨by
    have h := dmerge_any pa9 ga9 pn9 pc9 gn9 gc9 M ra sa rn rc sn sc F W13 K9.out.at.2.1 K9.out.at.2.2.1 K9.out.at.2.2.2 (HP.out _ HB13.out).2.2.1 HFA'.out.p32 (HP.out _ HB13.out).2.2.2
    rw [← HME3.out.1] at h
    rw [← HME3.out.2] at h
    exact dev_c h⟩
  refine C1.out.mono ?_
  clear C1
  rintro e w14 ⟨pa14, pn14, pc14, ga14, gn14, gc14, rfl, hd, hb⟩
  obtain ⟨N1, N2, N3⟩ := one_new w14 #[.slice pa14 pn14 pc14, .slice ga14 gn14 gc14]
  have Z1 : Seal _ := ⟨N1⟩
  have Z2 : Seal _ := ⟨N2⟩
  have Z3 : Seal _ := ⟨N3⟩
  clear N1 N2 N3
  have HB140 : Seal (Below w.heap.size w w14) := ⟨HB13.out.trans (hb.mono HB13.out.size)⟩
  have HK := Seal.mk (HK.out.step hb)
  have HL := Seal.mk (HL.out.step hb)
  have HM := Seal.mk (HM.out.step hb)
  have K8 := Seal.mk (K8.out.step hb)
  have K9 := Seal.mk (K9.out.step hb)
  have K10 := Seal.mk (K10.out.step hb)
  have K13 := Seal.mk (K13.out.step hb)
  go_wp2_with (first
    | (refine wpList_store_row rfl 25 (.tmp 15) (.tmp 115) rfl w14.heap.size #[.slice pa14 pn14 pc14, .slice ga14 gn14 gc14] rfl rfl 25 _ Z1.out dev_info rfl (by simp [Value.oneCell']) ?_; obtain ⟨Z, hZ⟩ : ∃ Z, Z = (w14.alloc (.cells #[.slice none 0 0, .slice none 0 0] 25)).setRow w14.heap.size #[.slice pa14 pn14 pc14, .slice ga14 gn14 gc14] := ⟨_, rfl⟩; rw [← hZ]; have Z2' := Z2.out; have Z3' := Z3.out; rw [← hZ] at Z2' Z3'; clear hZ Z1 Z2 Z3; have HB14 : Seal (Below w.heap.size w Z) := ⟨HB140.out.trans (Z3'.mono HB140.out.size)⟩; clear HB140; have HK := Seal.mk (HK.out.step Z3'); have HL := Seal.mk (HL.out.step Z3'); have HM := Seal.mk (HM.out.step Z3'); have K8 := Seal.mk (K8.out.step Z3'); have K9 := Seal.mk (K9.out.step Z3'); have K10 := Seal.mk (K10.out.step Z3'); have K13 := Seal.mk (K13.out.step Z3'); have K14 : Seal (Kp Z (DevC w14.heap.size pa14 pn14 pc14 ga14 gn14 gc14 M3)) := ⟨kp_dev Z2' ((hd.out.1).below Z3') hd.out.2.1 ((hd.out.2.2).below Z3')⟩; clear Z2' Z3' hd hb; (try simp only [Act.put]))
    | (refine wpList_load_mid rfl 25 (.tmp 3) rfl gx 0 rfl [.slice pa pn pc, .slice ga gn gc] _ HK.out.at ud rfl dev_info ?_)
    | (refine wpList_load_mid rfl 25 (.tmp 13) rfl g13 0 rfl [.slice pa13 pn13 pc13, .slice ga13 gn13 gc13] _ K13.out.at.1 ud rfl dev_info ?_))
  obtain ⟨W14, hW14⟩ : ∃ z, z = Z := ⟨_, rfl⟩
  subst hW14
  obtain ⟨g14, hg14⟩ : ∃ g, g = w14.heap.size := ⟨_, rfl⟩
  rw [← hg14] at K14 ⊢
  clear hg14

  have C1 : Seal (Calls Tryd.prog 18 #[.agg #[.slice pa pn pc, .slice ga gn gc], .agg #[.slice pa13 pn13 pc13, .slice ga13 gn13 gc13]] W14 (DevsC M3 me3 W14)) := ⟨by
    have h := dmerge_any pa ga pn pc gn gc D pa13 ga13 pn13 pc13 gn13 gc13 M2 W14 (HP.out _ HB14.out).1.1 HDA.out.p32 (HP.out _ HB14.out).1.2 K13.out.at.2.1 K13.out.at.2.2.1 K13.out.at.2.2.2
    rw [← HAs.out.1] at h
    rw [← HAs.out.2.1] at h
    rw [← HME3.out.1] at h
    rw [← HME3.out.2] at h
    exact dev_c h⟩
  have qm : (me3 != me3) = false := by simp
  refine C1.out.mono ?_
  clear C1
  rintro e w15 ⟨pa15, pn15, pc15, ga15, gn15, gc15, rfl, hd, hb⟩
  obtain ⟨N1, N2, N3⟩ := one_new w15 #[.slice pa15 pn15 pc15, .slice ga15 gn15 gc15]
  have Z1 : Seal _ := ⟨N1⟩
  have Z2 : Seal _ := ⟨N2⟩
  have Z3 : Seal _ := ⟨N3⟩
  clear N1 N2 N3
  have HB150 : Seal (Below w.heap.size w w15) := ⟨HB14.out.trans (hb.mono HB14.out.size)⟩
  have HK := Seal.mk (HK.out.step hb)
  have HL := Seal.mk (HL.out.step hb)
  have HM := Seal.mk (HM.out.step hb)
  have K8 := Seal.mk (K8.out.step hb)
  have K9 := Seal.mk (K9.out.step hb)
  have K10 := Seal.mk (K10.out.step hb)
  have K13 := Seal.mk (K13.out.step hb)
  have K14 := Seal.mk (K14.out.step hb)
  go_wp2_with (first
    | (refine wpList_store_row rfl 25 (.tmp 17) (.tmp 121) rfl w15.heap.size #[.slice pa15 pn15 pc15, .slice ga15 gn15 gc15] rfl rfl 25 _ Z1.out dev_info rfl (by simp [Value.oneCell']) ?_; obtain ⟨Z, hZ⟩ : ∃ Z, Z = (w15.alloc (.cells #[.slice none 0 0, .slice none 0 0] 25)).setRow w15.heap.size #[.slice pa15 pn15 pc15, .slice ga15 gn15 gc15] := ⟨_, rfl⟩; rw [← hZ]; have Z2' := Z2.out; have Z3' := Z3.out; rw [← hZ] at Z2' Z3'; clear hZ Z1 Z2 Z3; have HB15 : Seal (Below w.heap.size w Z) := ⟨HB150.out.trans (Z3'.mono HB150.out.size)⟩; clear HB150; have HK := Seal.mk (HK.out.step Z3'); have HL := Seal.mk (HL.out.step Z3'); have HM := Seal.mk (HM.out.step Z3'); have K8 := Seal.mk (K8.out.step Z3'); have K9 := Seal.mk (K9.out.step Z3'); have K10 := Seal.mk (K10.out.step Z3'); have K13 := Seal.mk (K13.out.step Z3'); have K14 := Seal.mk (K14.out.step Z3'); have K15 : Seal (Kp Z (DevC w15.heap.size pa15 pn15 pc15 ga15 gn15 gc15 M3)) := ⟨kp_dev Z2' ((hd.out.1).below Z3') hd.out.2.1 ((hd.out.2.2).below Z3')⟩; clear Z2' Z3' hd hb; (try simp only [Act.put]))
    | (refine wpList_load_mid_g (by kernel_rfl) 25 (.tmp 15) rfl g14 0 rfl [.slice pa14 pn14 pc14, .slice ga14 gn14 gc14] _ K14.out.at.1 ud rfl dev_info ?_; (try simp only [Act.put, List.setIfInBounds_toArray, List.set_cons_zero, List.set_cons_succ]))
    | (refine wpList_load_mid_g (by kernel_rfl) 25 (.tmp 17) rfl w15.heap.size 0 rfl [.slice pa15 pn15 pc15, .slice ga15 gn15 gc15] _ K15.out.at.1 ud rfl dev_info ?_; (try simp only [Act.put, List.setIfInBounds_toArray, List.set_cons_zero, List.set_cons_succ])))
  obtain ⟨W15, hW15⟩ : ∃ z, z = Z := ⟨_, rfl⟩
  subst hW15
  obtain ⟨g15, hg15⟩ : ∃ g, g = w15.heap.size := ⟨_, rfl⟩
  rw [← hg15] at K15 ⊢
  clear hg15

  refine (rsame44_eq pa14 ga14 pa15 ga15 pn14 pc14 gn14 gc14 pn15 pc15 gn15 gc15 M3 M3 W15 K14.out.at.2.1 K14.out.at.2.2.1 K14.out.at.2.2.2 K15.out.at.2.1 K15.out.at.2.2.2 rfl).mono ?_
  rintro e W16 ⟨rfl, hb⟩
  have HB16 : Seal (Below w.heap.size w W16) := ⟨HB15.out.trans (hb.mono HB15.out.size)⟩
  have HK := Seal.mk (HK.out.step hb)
  have HL := Seal.mk (HL.out.step hb)
  have HM := Seal.mk (HM.out.step hb)
  have K8 := Seal.mk (K8.out.step hb)
  have K9 := Seal.mk (K9.out.step hb)
  have K10 := Seal.mk (K10.out.step hb)
  have K13 := Seal.mk (K13.out.step hb)
  have K14 := Seal.mk (K14.out.step hb)
  have K15 := Seal.mk (K15.out.step hb)
  clear hb
  clear qm
  go_wp2_with (first | (refine wpList_load_mid rfl 25 (.tmp 3) rfl gx 0 rfl [.slice pa pn pc, .slice ga gn gc] _ HK.out.at ud rfl dev_info ?_) | (refine wpList_load_mid rfl 25 (.tmp 4) rfl (gx + 1) 0 rfl [.slice qa qn qc, .slice ha hn hc] _ HL.out.at ud rfl dev_info ?_) | (refine wpList_bslice (by kernel_rfl) 63 25 2 2 #[(0, .tmp 132), (1, .tmp 133)] rfl [[.slice pa pn pc, .slice ga gn gc], [.slice qa qn qc, .slice ha hn hc]] Tryd.underlying63 size_dev _ zero_dev rfl rfl (by intro D hD; simp only [List.mem_cons, List.not_mem_nil, or_false] at hD; rcases hD with rfl | rfl <;> rfl) (by decide) (by decide) rfl ?_))
  obtain ⟨Y, hY⟩ : ∃ Y, Y = W16.alloc (.cells #[.slice pa pn pc, .slice ga gn gc, .slice qa qn qc, .slice ha hn hc] 25) := ⟨_, rfl⟩
  obtain ⟨gs, hgs⟩ : ∃ g, g = W16.heap.size := ⟨_, rfl⟩
  have hbY : Below W16.heap.size W16 Y := by rw [hY]; exact below_alloc _ _
  have HBY : Seal (Below w.heap.size w Y) := ⟨HB16.out.trans (hbY.mono HB16.out.size)⟩
  have HEL : Seal (∀ k, k < 2 → MgEl gs M Y k) := ⟨by
    have hr : Y.rangeAt gs 0 [.slice pa pn pc, .slice ga gn gc, .slice qa qn qc, .slice ha hn hc] := by rw [hY, hgs]; exact rangeAt_row (cs := [.slice pa pn pc, .slice ga gn gc, .slice qa qn qc, .slice ha hn hc]) (heap_alloc_new W16 _)
    have hag := (mergeE_zero.1 HME.out.1.symm).2.2.1
    have hMM : M = mrgD D E := by rw [HME.out.2]; unfold mergeD; rw [if_pos HME.out.1.symm]
    intro k hk
    rcases (show k = 0 ∨ k = 1 by omega) with rfl | rfl
    · exact ⟨pa, pn, pc, ga, gn, gc, D, fun p hp => by rw [hMM]; exact (mem_mrgK _ _ hag p).2 (.inl hp), fun n hn => by rw [hMM]; exact (mem_mrgK _ _ (agr_id _ _) n).2 (.inl hn), HDA.out.p32, fun W hW => ⟨fun j u hu => rangeAt_below' hr hW j u (by
        match j, hu with
        | 0, hu => exact hu
        | 1, hu => exact hu), (HP.out W (HBY.out.trans (hW.mono HBY.out.size))).1.1, (HP.out W (HBY.out.trans (hW.mono HBY.out.size))).1.2⟩⟩
    · exact ⟨qa, qn, qc, ha, hn, hc, E, fun p hp => by rw [hMM]; exact (mem_mrgK _ _ hag p).2 (.inr hp), fun n hn => by rw [hMM]; exact (mem_mrgK _ _ (agr_id _ _) n).2 (.inr hn), HEA.out.p32, fun W hW => ⟨fun j u hu => rangeAt_below' (rangeAt_drop hr 2) hW j u (by
        match j, hu with
        | 0, hu => exact hu
        | 1, hu => exact hu), (HP.out W (HBY.out.trans (hW.mono HBY.out.size))).2.1.1, (HP.out W (HBY.out.trans (hW.mono HBY.out.size))).2.1.2⟩⟩⟩
  have KM := Seal.mk (K9.out.step hbY)
  have HRM : Seal (RisK Po.o M.P) := ⟨(rightD_iff.1 (chkD_zero.1 HAs.out.2.2).2).2.1⟩
  have HCM : Seal (chkD M = 0) := ⟨HAs.out.2.2⟩
  rw [← hY, ← hgs]
  clear hY hgs hbY K8 K9 K10 K13 K14 K15 HK HL HM HME HME2 HME3 HAs HMz
  go_loopw [136] (fun i wr => ∃ k : Nat, k ≤ 2 ∧ i = .int .i64 k ∧ Seal (Below w.heap.size w wr ∧ Below Y.heap.size Y wr)) (fun i _ => 2 - (intOf i).toNat)
  case atStart => exact ⟨0, by omega, rfl, ⟨HBY.out, Below.refl _ _⟩⟩
  case round =>
    obtain ⟨wo, rfl⟩ : ∃ z, z = wr := ⟨_, rfl⟩
    obtain ⟨k, hk, rfl, hH⟩ := hrel
    by_cases hlt : k < 2
    · obtain ⟨xa, xn, xc, ya, yn, yc, D', hpM, hgM, h32, hK⟩ := HEL.out k hlt
      have HK := Seal.mk (hK.step hH.out.2)
      have HD := Seal.mk (And.intro hpM (And.intro hgM h32))
      have q5 : (k : Int) < 2 := by omega
      have q6 : (0 : Int) ≤ (k : Int) := by omega
      clear hpM hgM h32 hK
      obtain ⟨gd, hgd⟩ : ∃ g, g = wo.heap.size := ⟨_, rfl⟩
      obtain ⟨Z, hZ⟩ : ∃ Z, Z = wo.alloc (.cells #[.slice xa xn xc, .slice ya yn yc] 25) := ⟨_, rfl⟩
      have hbz : Below wo.heap.size wo Z := by rw [hZ]; exact below_alloc _ _
      have HBz : Seal (Below w.heap.size w Z ∧ Below Y.heap.size Y Z) := ⟨hH.out.1.trans (hbz.mono hH.out.1.size), hH.out.2.trans (hbz.mono hH.out.2.size)⟩
      have KD : Seal (Kp Z (DevC gd xa xn xc ya yn yc D')) := ⟨kp_dev (by rw [hZ, hgd]; exact heap_alloc_new wo _) (HK.out.step hbz).at.2.1 HD.out.2.2 (HK.out.step hbz).at.2.2⟩
      have HZ := Seal.mk hZ
      clear hZ hbz
      have hxm := KD.out.at.2.1.lmax
      have hym := KD.out.at.2.2.2.lmax
      go_wp2_with (first
        | (refine wpList_load_mid rfl 25 (.tmp 138) rfl gs (k * 2) rfl [.slice xa xn xc, .slice ya yn yc] _ HK.out.at.1 ud rfl dev_info ?_))
      rw [← HZ.out, ← hgd]
      clear HZ hgd HK hH
      go_loopw [143] (fun i wr => ∃ j : Nat, j ≤ xn ∧ i = .int .i64 j ∧ Seal (Below w.heap.size w wr ∧ Below Y.heap.size Y wr ∧ Below Z.heap.size Z wr)) (fun i _ => xn - (intOf i).toNat)
      case atStart => exact ⟨0, by omega, rfl, ⟨HBz.out.1, HBz.out.2, Below.refl _ _⟩⟩
      case round =>
        obtain ⟨wi, rfl⟩ : ∃ z, z = wr := ⟨_, rfl⟩
        obtain ⟨j, hj, rfl, hI⟩ := hrel
        have KD := Seal.mk (KD.out.step hI.out.2.2)
        have KM := Seal.mk (KM.out.step hI.out.2.1)
        by_cases hlj : j < xn
        · have hPs := KD.out.at.2.1
          rcases hPs.at_ with hz | ⟨g, off, rfl, hr, hg⟩
          · omega
          · obtain ⟨x, hx⟩ : ∃ x, D'.P[j]? = some x := ⟨_, List.getElem?_eq_getElem (by have := hPs.llen; omega)⟩
            have rC := rangeC_row hr hPs.each hx
            have x32 := KD.out.at.2.2.1 x (List.mem_of_getElem? hx)
            obtain ⟨C, hC⟩ : ∃ C, C = x.C := ⟨_, rfl⟩
            have iC : (Tryd.prog.info? 31).map (·.size) = some C.length := by rw [hC]; exact Po.C_info x32
            obtain ⟨q, hq⟩ : ∃ q, q = x.o := ⟨_, rfl⟩
            have HC : Seal (C.length = 33 ∧ (∀ v ∈ C, v.oneCell' = true) ∧ C[0]? = some (.int .i64 q)) := ⟨by rw [hC, hq]; exact ⟨Po.C_len x32, Po.C_one x, rfl⟩⟩
            have HX : Seal (x ∈ M.P ∧ q = x.o ∧ C = x.C ∧ x.S.length = 32) := ⟨HD.out.1 x (List.mem_of_getElem? hx), hq, hC, x32⟩
            rw [← hC] at rC
            have q7 : (j : Int) < (xn : Int) := by omega
            have q8 : (0 : Int) ≤ (j : Int) := by omega
            have ut := Tryd.underlying31
            have hn5 := heap_alloc_new wi (.cells (List.toArray (.int .i64 0 :: .int .u8 0 :: .int .u8 0 :: .int .u8 0 :: .int .u8 0 :: .int .u8 0 :: .int .u8 0 :: .int .u8 0 :: .int .u8 0 :: .int .u8 0 :: .int .u8 0 :: .int .u8 0 :: .int .u8 0 :: .int .u8 0 :: .int .u8 0 :: .int .u8 0 :: .int .u8 0 :: .int .u8 0 :: .int .u8 0 :: .int .u8 0 :: .int .u8 0 :: .int .u8 0 :: .int .u8 0 :: .int .u8 0 :: .int .u8 0 :: .int .u8 0 :: .int .u8 0 :: .int .u8 0 :: .int .u8 0 :: .int .u8 0 :: .int .u8 0 :: .int .u8 0 :: .int .u8 0 :: [] : List Value) : Array Value) 31)
            have SZ : Seal (((List.toArray (.int .i64 0 :: .int .u8 0 :: .int .u8 0 :: .int .u8 0 :: .int .u8 0 :: .int .u8 0 :: .int .u8 0 :: .int .u8 0 :: .int .u8 0 :: .int .u8 0 :: .int .u8 0 :: .int .u8 0 :: .int .u8 0 :: .int .u8 0 :: .int .u8 0 :: .int .u8 0 :: .int .u8 0 :: .int .u8 0 :: .int .u8 0 :: .int .u8 0 :: .int .u8 0 :: .int .u8 0 :: .int .u8 0 :: .int .u8 0 :: .int .u8 0 :: .int .u8 0 :: .int .u8 0 :: .int .u8 0 :: .int .u8 0 :: .int .u8 0 :: .int .u8 0 :: .int .u8 0 :: .int .u8 0 :: [] : List Value) : Array Value) : Array Value).size = C.toArray.size ∧ C.toArray.all (·.oneCell') = true) := ⟨by rw [posz_len, List.size_toArray, HC.out.1], all_oneCell_toArray HC.out.2.1⟩
            obtain ⟨gp, hgp⟩ : ∃ g, g = wi.heap.size := ⟨_, rfl⟩
            obtain ⟨V, hV⟩ : ∃ V, V = wi.alloc (.cells C.toArray 31) := ⟨_, rfl⟩
            have hVz : (wi.alloc (.cells (List.toArray (.int .i64 0 :: .int .u8 0 :: .int .u8 0 :: .int .u8 0 :: .int .u8 0 :: .int .u8 0 :: .int .u8 0 :: .int .u8 0 :: .int .u8 0 :: .int .u8 0 :: .int .u8 0 :: .int .u8 0 :: .int .u8 0 :: .int .u8 0 :: .int .u8 0 :: .int .u8 0 :: .int .u8 0 :: .int .u8 0 :: .int .u8 0 :: .int .u8 0 :: .int .u8 0 :: .int .u8 0 :: .int .u8 0 :: .int .u8 0 :: .int .u8 0 :: .int .u8 0 :: .int .u8 0 :: .int .u8 0 :: .int .u8 0 :: .int .u8 0 :: .int .u8 0 :: .int .u8 0 :: .int .u8 0 :: [] : List Value) : Array Value) 31)).setRow wi.heap.size C.toArray = V := by rw [hV]; exact setRow_new wi (.int .i64 0 :: .int .u8 0 :: .int .u8 0 :: .int .u8 0 :: .int .u8 0 :: .int .u8 0 :: .int .u8 0 :: .int .u8 0 :: .int .u8 0 :: .int .u8 0 :: .int .u8 0 :: .int .u8 0 :: .int .u8 0 :: .int .u8 0 :: .int .u8 0 :: .int .u8 0 :: .int .u8 0 :: .int .u8 0 :: .int .u8 0 :: .int .u8 0 :: .int .u8 0 :: .int .u8 0 :: .int .u8 0 :: .int .u8 0 :: .int .u8 0 :: .int .u8 0 :: .int .u8 0 :: .int .u8 0 :: .int .u8 0 :: .int .u8 0 :: .int .u8 0 :: .int .u8 0 :: .int .u8 0 :: [] : List Value) C _
            have hbv : Below wi.heap.size wi V := by rw [hV]; exact below_alloc _ _
            have HV : Seal (Below w.heap.size w V ∧ Below Y.heap.size Y V ∧ Below Z.heap.size Z V) := ⟨hI.out.1.trans (hbv.mono hI.out.1.size), hI.out.2.1.trans (hbv.mono hI.out.2.1.size), hI.out.2.2.trans (hbv.mono hI.out.2.2.size)⟩
            have KD := Seal.mk (KD.out.step hbv)
            have KM := Seal.mk (KM.out.step hbv)
            have KP : Seal (Kp V (PosC gp C)) := ⟨kp_pos (by rw [hV, hgp]; exact heap_alloc_new wi _)⟩
            have k0 : V.cell? ⟨gp, 0, none⟩ = some (.int .i64 q) := by rw [hV, hgp, cell_of_row _ _ _ _ _ _ (heap_alloc_new wi _)]; simpa using HC.out.2.2
            have m0 : V.cell? ⟨g9, 0, none⟩ = some (.slice pa9 pn9 pc9) := by have := KM.out.at.1 0 (.slice pa9 pn9 pc9) rfl; simpa using this
            have hgpn := hgp.symm
            rw [hgpn] at hVz hn5
            clear hPs hr hg hx x32 hC hq hV hbv hI hgp
            go_wp2_with (first
              | (refine wpList_load_mid rfl 31 (.tmp 145) rfl g (off + j * 33) rfl C _ rC ut rfl iC ?_; (try simp only [Act.put, List.setIfInBounds_toArray, List.set_cons_zero, List.set_cons_succ]))
              | ((try rw [hgpn]); refine wpList_store_row rfl 31 (.tmp 22) (.tmp 146) rfl gp C.toArray rfl rfl 31 _ hn5 (by simpa using iC) SZ.out.1 SZ.out.2 ?_; rw [hVz]; clear hVz hn5 hgpn rC; (try simp only [Act.put])))
            refine (rfind44_any pa9 pn9 pc9 M.P q V KM.out.at.2.1).mono ?_
            rintro e V1 ⟨i, rfl, hi, rfl⟩
            rcases hi.out with ⟨_, hno⟩ | ⟨t, z, rfl, hz, ez⟩
            · exact absurd (HX.out.2.1.symm) (hasK_not.1 hno x HX.out.1)
            obtain rfl : z = x := HRM.out.inj (List.mem_of_getElem? hz) HX.out.1 (by rw [ez, HX.out.2.1])
            have hPm := KM.out.at.2.1
            have htn : t < pn9 := by have := (List.getElem?_eq_some_iff.1 hz).1; have := hPm.llen; omega
            rcases hPm.at_ with hz0 | ⟨g2, off2, rfl, hr2, hg2⟩
            · omega
            have rM := rangeC_row hr2 hPm.each hz
            rw [← HX.out.2.2.1] at rM
            have s7 : (t : Int) < (pn9 : Int) := by omega
            have s8 : (0 : Int) ≤ (t : Int) := by omega
            clear hPm hr2 hg2 hz ez hi k0
            go_wp2_with fail
            have QE : ∀ w, (Op.equalIn 10000 31 (.agg C.toArray) (.agg C.toArray)).run Tryd.prog w = .ok true w := fun w => by
              rw [HX.out.2.2.1, eqPo z z HX.out.2.2.2 HX.out.2.2.2, (poB_iff _ _).2 rfl]
            refine wp_region_held_drew (S := fun w' => w'.cell? ⟨g9, 0, none⟩ = some (.slice (some ⟨g2, off2, none⟩) pn9 pc9) ∧ w'.rangeAt g2 (off2 + t * 33) C ∧ w'.rangeAt gp 0 C) (by kernel_rfl) ⟨m0, rM, KP.out.at⟩ (fun hHeld => ?_)
            obtain ⟨V2, hV2⟩ : ∃ V2, V2 = V.drew := ⟨_, rfl⟩
            have hb3 : Below V.heap.size V V2 := by rw [hV2]; exact bel_drew _
            have HV := Seal.mk (And.intro (HV.out.1.trans (hb3.mono HV.out.1.size)) (And.intro (HV.out.2.1.trans (hb3.mono HV.out.2.1.size)) (HV.out.2.2.trans (hb3.mono HV.out.2.2.size))))
            rw [← hV2] at hHeld ⊢
            clear hV2 hb3 m0 rM
            refine take_h 0 ?_ rfl (by kernel_rfl) (by kernel_rfl) (by kernel_rfl) (fun _ _ _ h => h) (Or.inl ⟨by kernel_rfl, ?_⟩) (by assumption) ?_
            rotate_left
            · (intro w hSw; (try dsimp only at hSw); go_simp; try (with_reducible rfl))
            try simp only [Act.put, List.setIfInBounds_toArray, List.set_cons_zero, List.set_cons_succ]
            refine take_h 1 ?_ rfl (by kernel_rfl) (by kernel_rfl) (by kernel_rfl) (fun _ _ _ h => h) (Or.inl ⟨by kernel_rfl, ?_⟩) (by assumption) ?_
            rotate_left
            · (intro w hSw; (try dsimp only at hSw); go_simp; try (with_reducible rfl))
            try simp only [Act.put, List.setIfInBounds_toArray, List.set_cons_zero, List.set_cons_succ]
            refine take_h 2 ?_ rfl (by kernel_rfl) (by kernel_rfl) (by kernel_rfl) (fun _ _ _ h => h) (Or.inl ⟨by kernel_rfl, ?_⟩) (by assumption) ?_
            rotate_left
            · (intro w hSw; (try dsimp only at hSw); go_simp; try (with_reducible rfl))
            try simp only [Act.put, List.setIfInBounds_toArray, List.set_cons_zero, List.set_cons_succ]
            refine take_h 3 ?_ rfl (by kernel_rfl) (by kernel_rfl) (by kernel_rfl) (fun _ _ _ h => h) (Or.inl ⟨by kernel_rfl, ?_⟩) (by assumption) ?_
            rotate_left
            · (intro w hSw; (try dsimp only at hSw); go_simp; try (with_reducible rfl))
            try simp only [Act.put, List.setIfInBounds_toArray, List.set_cons_zero, List.set_cons_succ]
            refine take_h 4 ?_ rfl (by kernel_rfl) (by kernel_rfl) (by kernel_rfl) (fun _ _ _ h => h) (Or.inl ⟨by kernel_rfl, ?_⟩) (by assumption) ?_
            rotate_left
            · (intro w hSw; (try dsimp only at hSw); go_simp; try (with_reducible rfl))
            try simp only [Act.put, List.setIfInBounds_toArray, List.set_cons_zero, List.set_cons_succ]
            refine take_h 5 ?_ rfl (by kernel_rfl) (by kernel_rfl) (by kernel_rfl) (fun _ _ _ h => h) (Or.inl ⟨by kernel_rfl, ?_⟩) (by assumption) ?_
            rotate_left
            · (intro w hSw; (try dsimp only at hSw); go_simp; try (with_reducible rfl))
            try simp only [Act.put, List.setIfInBounds_toArray, List.set_cons_zero, List.set_cons_succ]
            refine take_h 6 ?_ rfl (by kernel_rfl) (by kernel_rfl) (by kernel_rfl) (fun _ _ _ h => h) (Or.inl ⟨by kernel_rfl, ?_⟩) (by assumption) ?_
            rotate_left
            · (intro w hSw; (try dsimp only at hSw); go_simp; try (with_reducible rfl))
            try simp only [Act.put, List.setIfInBounds_toArray, List.set_cons_zero, List.set_cons_succ]
            refine take_h 7 _ rfl (by kernel_rfl) (by kernel_rfl) (by kernel_rfl) (fun _ _ _ h => h) (yieldsIf_load_mid (by kernel_rfl) 31 (.tmp 158) rfl g2 (off2 + t * 33) rfl C _ (fun w hSw => hSw.2.1) ut rfl iC) (by assumption) ?_
            try simp only [Act.put, List.setIfInBounds_toArray, List.set_cons_zero, List.set_cons_succ]
            refine take_h 8 _ rfl (by kernel_rfl) (by kernel_rfl) (by kernel_rfl) (fun _ _ _ h => h) (yieldsIf_load_mid (by kernel_rfl) 31 (.tmp 22) rfl gp 0 rfl C _ (fun w hSw => hSw.2.2) ut rfl iC) (by assumption) ?_
            try simp only [Act.put, List.setIfInBounds_toArray, List.set_cons_zero, List.set_cons_succ]
            refine take_h 9 ?_ rfl (by kernel_rfl) (by kernel_rfl) (by kernel_rfl) (fun _ _ _ h => h) (Or.inl ⟨by kernel_rfl, ?_⟩) (by assumption) ?_
            rotate_left
            · (intro w hSw; (try dsimp only at hSw); go_simp; try (with_reducible rfl))
            try simp only [Act.put, List.setIfInBounds_toArray, List.set_cons_zero, List.set_cons_succ]
            refine take_h 10 ?_ rfl (by kernel_rfl) (by kernel_rfl) (by kernel_rfl) (fun _ _ _ h => h) (Or.inl ⟨by kernel_rfl, ?_⟩) (by assumption) ?_
            rotate_left
            · (intro w hSw; (try dsimp only at hSw); go_simp; try (with_reducible rfl))
            try simp only [Act.put, List.setIfInBounds_toArray, List.set_cons_zero, List.set_cons_succ]
            refine wpAnyH_done (by kernel_rfl) ?_ _
            clear hHeld QE
            go_wp2
            go_roundw
            case rel => exact ⟨j + 1, by omega, by go_num, HV⟩
            case measure => simp [intOf]; omega
        · obtain rfl : xn = j := by omega
          have q7 : ¬ (xn : Int) < (xn : Int) := by omega
          have c9 : wi.cell? ⟨gd, 1, none⟩ = some (.slice ya yn yc) := by have := KD.out.at.1 1 (.slice ya yn yc) rfl; simpa using this
          go_wp2
          go_loopw [167] (fun i wr => ∃ j : Nat, j ≤ yn ∧ i = .int .i64 j ∧ Seal (wr = wi)) (fun i _ => yn - (intOf i).toNat)
          case atStart => exact ⟨0, by omega, rfl, ⟨rfl⟩⟩
          case round =>
            obtain ⟨j, hj, rfl, hJ⟩ := hrel
            obtain rfl := hJ.out
            obtain ⟨wi, rfl⟩ : ∃ z, z = wr := ⟨_, rfl⟩
            clear hJ c9
            by_cases hlj : j < yn
            · have hIs := KD.out.at.2.2.2
              rcases hIs.at_ with hz | ⟨g, off, rfl, hr, hg⟩
              · omega
              obtain ⟨x, hx⟩ : ∃ x, D'.G[j]? = some x := ⟨_, List.getElem?_eq_getElem (by have := hIs.llen; omega)⟩
              have c2 : wi.cell? ⟨g, off + j, none⟩ = some (.int .i64 x) := by have := rangeC_row hr hIs.each hx 0 (.int .i64 x) rfl; simpa using this
              have HX : Seal (hasK idI M.G x = true) := ⟨has_id.2 (HD.out.2.1 x (List.mem_of_getElem? hx))⟩
              have m1 : wi.cell? ⟨g9, 1, none⟩ = some (.slice ga9 gn9 gc9) := by have := KM.out.at.1 1 (.slice ga9 gn9 gc9) rfl; simpa using this
              have q7 : (j : Int) < (yn : Int) := by omega
              have q8 : (0 : Int) ≤ (j : Int) := by omega
              clear hIs hr hg hx
              go_wp2_with fail
              refine (rhas44_any ga9 gn9 gc9 M.G x wi KM.out.at.2.2.2).mono ?_
              rintro e V1 ⟨rfl, rfl⟩
              rw [HX.out]
              clear m1 c2
              go_wp2
              go_roundw
              case rel => exact ⟨j + 1, by omega, by go_num, ⟨by first | rfl | trivial⟩⟩
              case measure => simp [intOf]; omega
            · obtain rfl : yn = j := by omega
              have q8 : ¬ (yn : Int) < (yn : Int) := by omega
              have HV := Seal.mk (And.intro hI.out.1 hI.out.2.1)
              clear hI
              go_wp2
              go_roundw
              case rel => exact ⟨k + 1, by omega, by go_num, HV⟩
              case measure => simp [intOf]; omega
    · obtain rfl : k = 2 := by omega
      have KM := Seal.mk (KM.out.step hH.out.2)
      go_wp2_with (refine wpList_load_mid rfl 25 (.tmp 9) rfl g9 0 rfl [.slice pa9 pn9 pc9, .slice ga9 gn9 gc9] _ KM.out.at.1 ud rfl dev_info ?_)
      have HS := dcheck_any pa9 ga9 pn9 pc9 gn9 gc9 M wo KM.out.at.2.1 KM.out.at.2.2.1 KM.out.at.2.2.2
      rw [HCM.out] at HS
      refine HS.mono ?_
      clear HS
      rintro e w20 ⟨rfl, hb⟩
      have HF := Seal.mk (hH.out.1.trans (hb.mono hH.out.1.size))
      clear hb
      go_wp2
      go_ret
      exact ⟨rfl, HF.out⟩
end Frk
