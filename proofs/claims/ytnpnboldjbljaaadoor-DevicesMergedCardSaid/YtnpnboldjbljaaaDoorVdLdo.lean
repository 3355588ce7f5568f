/- Law 44: DevicesOwed's walk. -/
import Derived.Test.YtnpnboldjbljaaaDoorVdgLdm
namespace Frk
open Go Go.RowKit Go.Proofs
set_option maxRecDepth 100000

theorem size_dev (w : World) : (Go.sizeOf 25).run Tryd.prog w = .ok 2 w := by kernel_rfl
theorem zero_dev (w : World) : (zeroValue 25).run Tryd.prog w = .ok (.agg #[.slice none 0 0, .slice none 0 0]) w := by kernel_rfl
/-- an element of the pair of devices -/
def OwEl (gs : Nat) (o : Int) (W0 : World) (k : Nat) : Prop := ∃ xa xn xc ya yn yc D', chkD D' = 0 ∧ o ∈ D'.G ∧ (∀ x ∈ D'.P, x.S.length = 32) ∧ Kp W0 (fun W => W.rangeAt gs (k * 2) [.slice xa xn xc, .slice ya yn yc] ∧ IsPs W xa xn xc D'.P ∧ IsIs W ya yn yc D'.G)
set_option maxHeartbeats 8000000 in
theorem law_devicesOwed (pa ga : Option Addr) (pn pc gn gc : Nat) (D : Dv) (qa ha : Option Addr) (qn qc hn hc : Nat) (E : Dv) (o : Int) (w : World) (hG : Glob w) (hD : DevArg w pa ga pn pc gn gc D) (hE : DevArg w qa ha qn qc hn hc E) :
    Calls Tryd.prog 8 #[.agg #[.slice pa pn pc, .slice ga gn gc], .agg #[.slice qa qn qc, .slice ha hn hc], .int .i64 o] w fun e w' => e = .returned (.bool true) ∧ Below w.heap.size w w' := by
  obtain ⟨X, hX⟩ : ∃ X : World, X = (w.alloc (.cells #[.slice pa pn pc, .slice ga gn gc] 25)).alloc (.cells #[.slice qa qn qc, .slice ha hn hc] 25) := ⟨_, rfl⟩
  have HB : Seal (Below w.heap.size w X) := ⟨by rw [hX]; exact ((Below.refl _ w).alloc (Nat.le_refl _) _).alloc (by simp) _⟩
  have HK : Seal (Kp X (fun W => W.rangeAt w.heap.size 0 [.slice pa pn pc, .slice ga gn gc])) := ⟨by rw [hX]; exact kp_range (rangeAt_row (cs := [.slice pa pn pc, .slice ga gn gc]) (heap_alloc2_old w _ _))⟩
  have HL : Seal (Kp X (fun W => W.rangeAt (w.heap.size + 1) 0 [.slice qa qn qc, .slice ha hn hc])) := ⟨by rw [hX]; exact kp_range (rangeAt_row (cs := [.slice qa qn qc, .slice ha hn hc]) (heap_alloc2_new w _ _))⟩
  have HDA := Seal.mk hD
  have HEA := Seal.mk hE
  have HS : Seal (Calls Tryd.prog 9 #[] X fun e w' => e = .returned (.bool true) ∧ Below X.heap.size X w') := ⟨sane44_any X (hG.below HB.out)⟩
  have ud := Tryd.underlying25
  obtain ⟨fa, hfa⟩ : ∃ b, b = fewB pn gn := ⟨_, rfl⟩
  obtain ⟨fb, hfb⟩ : ∃ b, b = fewB qn hn := ⟨_, rfl⟩
  have HFA := Seal.mk hfa
  have HFB := Seal.mk hfb
  clear hD hE hG hfa hfb
  go_enter Tryd.func8, Tryd.ntmps8
  go_upto_region 1 with (fail)
  rw [← hX]
  clear hX
  go_wp2_with fail
  refine HS.out.mono ?_
  rintro e w1 ⟨rfl, hb⟩
  have HB1 := Seal.mk (HB.out.trans (hb.mono HB.out.size))
  have HK := Seal.mk (HK.out.step hb)
  have HL := Seal.mk (HL.out.step hb)
  clear hb HB HS
  obtain ⟨gx, hgx⟩ : ∃ g, g = w.heap.size := ⟨_, rfl⟩
  rw [← hgx] at HK HL ⊢
  clear hgx
  go_wp2_with (refine wpList_load_mid rfl 25 (.tmp 3) rfl gx 0 rfl [.slice pa pn pc, .slice ga gn gc] _ HK.out.at ud rfl dev_info ?_)
  refine (rfew44_any pa ga pn pc gn gc w1).mono ?_
  rintro e w2 ⟨rfl, hb⟩
  rw [← HFA.out]
  have HB2 := Seal.mk (HB1.out.trans (hb.mono HB1.out.size))
  have HK := Seal.mk (HK.out.step hb)
  have HL := Seal.mk (HL.out.step hb)
  clear hb HB1
  cases fa with
  | false =>
    go_wp2
    go_ret
    exact ⟨rfl, HB2.out⟩
  | true =>
  go_wp2_with (refine wpList_load_mid_g (by kernel_rfl) 25 (.tmp 4) rfl (gx + 1) 0 rfl [.slice qa qn qc, .slice ha hn hc] _ HL.out.at ud rfl dev_info ?_; (try simp only [Act.put, List.setIfInBounds_toArray, List.set_cons_zero, List.set_cons_succ]))
  refine (rfew44_any qa ha qn qc hn hc w2).mono ?_
  rintro e w3 ⟨rfl, hb⟩
  rw [← HFB.out]
  have HB3 := Seal.mk (HB2.out.trans (hb.mono HB2.out.size))
  have HK := Seal.mk (HK.out.step hb)
  have HL := Seal.mk (HL.out.step hb)
  clear hb HB2
  cases fb with
  | false =>
    go_wp2
    go_ret
    exact ⟨rfl, HB3.out⟩
  | true =>
  have hla := fewB_le4 HFA.out.symm
  have hlb := fewB_le4 HFB.out.symm
  have HP : Seal (∀ W, Below w.heap.size w W → IsPs W pa pn pc D.P ∧ IsIs W ga gn gc D.G ∧ IsPs W qa qn qc E.P ∧ IsIs W ha hn hc E.G) := ⟨fun W h => ⟨(HDA.out.ps hla.2.1).below h, (HDA.out.is_ (by omega)).below h, (HEA.out.ps hlb.2.1).below h, (HEA.out.is_ (by omega)).below h⟩⟩
  have HSm : Seal ((pn ≤ 40 ∨ 4096 < pn) ∧ (qn ≤ 40 ∨ 4096 < qn) ∧ gn ≤ 40 ∧ hn ≤ 40) := ⟨by omega⟩
  have HCk : Seal (Calls Tryd.prog 14 #[.agg #[.slice pa pn pc, .slice ga gn gc]] w3 fun e w' => e = .returned (.int .i64 (chkD D)) ∧ Below w3.heap.size w3 w') := ⟨rcheck44_any pa ga pn pc gn gc D w3 (HP.out _ HB3.out).1 (HP.out _ HB3.out).2.1⟩
  have HCl : Seal (∀ W, Below w.heap.size w W → Calls Tryd.prog 14 #[.agg #[.slice qa qn qc, .slice ha hn hc]] W fun e w' => e = .returned (.int .i64 (chkD E)) ∧ Below W.heap.size W w') := ⟨fun W h => rcheck44_any qa ha qn qc hn hc E W (HP.out W h).2.2.1 (HP.out W h).2.2.2⟩
  obtain ⟨er, her⟩ : ∃ e, e = chkD D := ⟨_, rfl⟩
  obtain ⟨fr, hfr⟩ : ∃ e, e = chkD E := ⟨_, rfl⟩
  rw [← her] at HCk
  rw [← hfr] at HCl
  have HER := Seal.mk her
  have HFR := Seal.mk hfr
  clear hla hlb her hfr
  go_wp2_with (refine wpList_load_mid_g (by kernel_rfl) 25 (.tmp 3) rfl gx 0 rfl [.slice pa pn pc, .slice ga gn gc] _ HK.out.at ud rfl dev_info ?_; (try simp only [Act.put, List.setIfInBounds_toArray, List.set_cons_zero, List.set_cons_succ]))
  refine HCk.out.mono ?_
  clear HCk
  rintro e w4 ⟨rfl, hb⟩
  have HB4 := Seal.mk (HB3.out.trans (hb.mono HB3.out.size))
  have HK := Seal.mk (HK.out.step hb)
  have HL := Seal.mk (HL.out.step hb)
  clear hb HB3
  by_cases h0 : er = 0
  rotate_left
  · have q0 : (er == 0) = false := by simp [h0]
    have q1 : (er != 0) = true := by simp [h0]
    clear h0 HER
    go_wp2
    go_ret
    exact ⟨rfl, HB4.out⟩
  subst h0
  have HCz : Seal (chkD D = 0) := ⟨HER.out.symm⟩
  clear HER
  go_wp2_with (refine wpList_load_mid_g (by kernel_rfl) 25 (.tmp 4) rfl (gx + 1) 0 rfl [.slice qa qn qc, .slice ha hn hc] _ HL.out.at ud rfl dev_info ?_; (try simp only [Act.put, List.setIfInBounds_toArray, List.set_cons_zero, List.set_cons_succ]))
  refine (HCl.out w4 HB4.out).mono ?_
  clear HCl
  rintro e w5 ⟨rfl, hb⟩
  have HB5 := Seal.mk (HB4.out.trans (hb.mono HB4.out.size))
  have HK := Seal.mk (HK.out.step hb)
  have HL := Seal.mk (HL.out.step hb)
  clear hb HB4
  by_cases h0 : fr = 0
  rotate_left
  · have q0 : (fr == 0) = false := by simp [h0]
    have q1 : (fr != 0) = true := by simp [h0]
    clear h0 HFR
    go_wp2
    go_ret
    exact ⟨rfl, HB5.out⟩
  subst h0
  have HCe : Seal (chkD E = 0) := ⟨HFR.out.symm⟩
  clear HFR
  have HQn : Seal (pn ≤ 40 ∧ qn ≤ 40 ∧ gn ≤ 40 ∧ hn ≤ 40) := ⟨by
    have h1 := (chkD_zero.1 HCz.out).1
    have h2 := (chkD_zero.1 HCe.out).1
    have h3 := (HP.out _ HB5.out).1.llen
    have h5 := (HP.out _ HB5.out).2.2.1.llen
    have h4 := HSm.out
    omega⟩
  obtain ⟨ge, hge⟩ : ∃ e, e = gotE D o := ⟨_, rfl⟩
  obtain ⟨Gd, hGd⟩ : ∃ z, z = gotD D o := ⟨_, rfl⟩
  have HGE := Seal.mk (And.intro hge hGd)
  have C3 : Seal (Calls Tryd.prog 20 #[.agg #[.slice pa pn pc, .slice ga gn gc], .int .i64 o] w5 (DevsC Gd ge w5)) := ⟨by
    have h := dgot_any pa ga pn pc gn gc D o w5 (HP.out _ HB5.out).1 HDA.out.p32 (HP.out _ HB5.out).2.1 (by have := HQn.out; omega)
    rw [← hGd, ← hge] at h
    exact dev_c h⟩
  clear hge hGd
  go_wp2_with (refine wpList_load_mid rfl 25 (.tmp 3) rfl gx 0 rfl [.slice pa pn pc, .slice ga gn gc] _ HK.out.at ud rfl dev_info ?_)
  refine C3.out.mono ?_
  clear C3
  rintro e w6 ⟨pa6, pn6, pc6, ga6, gn6, gc6, rfl, hd, hb⟩
  obtain ⟨N1, N2, N3⟩ := one_new w6 #[.slice pa6 pn6 pc6, .slice ga6 gn6 gc6]
  have Z1 : Seal _ := ⟨N1⟩
  have Z2 : Seal _ := ⟨N2⟩
  have Z3 : Seal _ := ⟨N3⟩
  clear N1 N2 N3
  have HB60 : Seal (Below w.heap.size w w6) := ⟨HB5.out.trans (hb.mono HB5.out.size)⟩
  have HK := Seal.mk (HK.out.step hb)
  have HL := Seal.mk (HL.out.step hb)
  go_wp2_with (first
    | (refine wpList_store_row rfl 25 (.tmp 7) (.tmp 41) rfl w6.heap.size #[.slice pa6 pn6 pc6, .slice ga6 gn6 gc6] rfl rfl 25 _ Z1.out dev_info rfl (by simp [Value.oneCell']) ?_; obtain ⟨Z, hZ⟩ : ∃ Z, Z = (w6.alloc (.cells #[.slice none 0 0, .slice none 0 0] 25)).setRow w6.heap.size #[.slice pa6 pn6 pc6, .slice ga6 gn6 gc6] := ⟨_, rfl⟩; rw [← hZ]; have Z2' := Z2.out; have Z3' := Z3.out; rw [← hZ] at Z2' Z3'; clear hZ Z1 Z2 Z3; have HB6 : Seal (Below w.heap.size w Z) := ⟨HB60.out.trans (Z3'.mono HB60.out.size)⟩; clear HB60 HB5; have HK := Seal.mk (HK.out.step Z3'); have HL := Seal.mk (HL.out.step Z3'); have K6 : Seal (Kp Z (DevC w6.heap.size pa6 pn6 pc6 ga6 gn6 gc6 Gd)) := ⟨kp_dev Z2' ((hd.out.1).below Z3') hd.out.2.1 ((hd.out.2.2).below Z3')⟩; clear Z2' Z3' hd hb; have c0 : Z.cell? ⟨gx, 0, none⟩ = some (.slice pa pn pc) := (by have := HK.out.at 0 (.slice pa pn pc) rfl; simpa using this); (try simp only [Act.put])))
  obtain ⟨W6, hW6⟩ : ∃ z, z = Z := ⟨_, rfl⟩
  subst hW6
  obtain ⟨g6, hg6⟩ : ∃ g, g = w6.heap.size := ⟨_, rfl⟩
  rw [← hg6] at K6 ⊢
  clear hg6

  clear c0
  refine (rfind44_any pa pn pc D.P o W6 (HP.out _ HB6.out).1).mono ?_
  rintro e w7 ⟨i, rfl, hi, rfl⟩
  by_cases hneg : i < 0
  · have HE : Seal (ge = 1 ∧ Gd = Dv.z) := ⟨by
      have e : gotE D o = 1 := by unfold gotE; rw [if_neg (by simp [HCz.out]), hi.out.has.1 hneg, if_neg (by simp)]
      exact ⟨HGE.out.1.trans e, by rw [HGE.out.2]; unfold gotD; rw [e]; rfl⟩⟩
    obtain ⟨h1, h2⟩ := HE.out
    subst h1
    subst h2
    clear HE hi
    go_wp2_with (refine wpList_load_mid_g (by kernel_rfl) 25 (.tmp 7) rfl g6 0 rfl [.slice pa6 pn6 pc6, .slice ga6 gn6 gc6] _ K6.out.at.1 ud rfl dev_info ?_; (try simp only [Act.put, List.setIfInBounds_toArray, List.set_cons_zero, List.set_cons_succ]))
    refine (rsame44_eq pa6 ga6 none none pn6 pc6 gn6 gc6 0 0 0 0 Dv.z Dv.z W6 K6.out.at.2.1 K6.out.at.2.2.1 K6.out.at.2.2.2 (isC_z _ _ _) (isC_z _ _ _) rfl).mono ?_
    rintro e w7 ⟨rfl, hb⟩
    have HF := Seal.mk (HB6.out.trans (hb.mono HB6.out.size))
    clear hb
    go_wp2
    go_ret
    exact ⟨rfl, HF.out⟩
  have HE : Seal (ge = 0 ∧ Gd = ⟨D.P, putI D.G o⟩ ∧ chkD Gd = 0) := ⟨by
    have hh : hasK Po.o D.P o = true := by
      cases e : hasK Po.o D.P o with
      | true => rfl
      | false => exact absurd (hi.out.has.2 e) hneg
    have e : gotE D o = 0 := by unfold gotE; rw [if_neg (by simp [HCz.out]), if_pos hh]
    have e2 : Gd = ⟨D.P, putI D.G o⟩ := by rw [HGE.out.2]; unfold gotD; rw [if_pos e]
    exact ⟨HGE.out.1.trans e, e2, by rw [e2]; exact got_right HCz.out hh⟩⟩
  obtain ⟨h1, _, _⟩ := HE.out
  subst h1
  clear hi
  obtain ⟨me, hme⟩ : ∃ e, e = mergeE E Gd := ⟨_, rfl⟩
  obtain ⟨M, hM⟩ : ∃ z, z = mergeD E Gd := ⟨_, rfl⟩
  have HME := Seal.mk (And.intro hme hM)
  have C1 : Seal (Calls Tryd.prog 18 #[.agg #[.slice qa qn qc, .slice ha hn hc], .agg #[.slice pa6 pn6 pc6, .slice ga6 gn6 gc6]] W6 (DevsC M me W6)) := ⟨by
    have h := dmerge_any qa ha qn qc hn hc E pa6 ga6 pn6 pc6 gn6 gc6 Gd W6 (HP.out _ HB6.out).2.2.1 HEA.out.p32 (HP.out _ HB6.out).2.2.2 K6.out.at.2.1 K6.out.at.2.2.1 K6.out.at.2.2.2
    rw [← hM, ← hme] at h
    exact dev_c h⟩
  clear hme hM
  go_wp2_with (first | (refine wpList_load_mid rfl 25 (.tmp 4) rfl (gx + 1) 0 rfl [.slice qa qn qc, .slice ha hn hc] _ HL.out.at ud rfl dev_info ?_) | (refine wpList_load_mid rfl 25 (.tmp 7) rfl g6 0 rfl [.slice pa6 pn6 pc6, .slice ga6 gn6 gc6] _ K6.out.at.1 ud rfl dev_info ?_))
  refine C1.out.mono ?_
  clear C1
  have HMz : Seal (me = 440 ∨ me = 0) := ⟨by
    rw [HME.out.1, mergeE_or HCe.out HE.out.2.2 (by rw [HE.out.2.1]; have h3 := (HP.out _ HB6.out).1.llen; have h5 := (HP.out _ HB6.out).2.2.1.llen; have := HQn.out; show E.P.length + D.P.length ≤ 4096; omega)]
    split
    · exact .inl rfl
    · exact .inr rfl⟩
  by_cases hm : me = 0
  rotate_left
  · have hm4 : me = 440 := by
      rcases HMz.out with h | h
      · exact h
      · exact absurd h hm
    subst hm4
    rintro e w8 ⟨pa8, pn8, pc8, ga8, gn8, gc8, rfl, hd, hb⟩
    obtain ⟨N1, N2, N3⟩ := one_new w8 #[.slice pa8 pn8 pc8, .slice ga8 gn8 gc8]
    have Z1 : Seal _ := ⟨N1⟩
    have Z2 : Seal _ := ⟨N2⟩
    have Z3 : Seal _ := ⟨N3⟩
    clear N1 N2 N3
    have HB80 : Seal (Below w.heap.size w w8) := ⟨HB6.out.trans (hb.mono HB6.out.size)⟩
    have HK := Seal.mk (HK.out.step hb)
    have HL := Seal.mk (HL.out.step hb)
    have K6 := Seal.mk (K6.out.step hb)
    go_wp2_with (first
      | (refine wpList_store_row rfl 25 (.tmp 9) (.tmp 59) rfl w8.heap.size #[.slice pa8 pn8 pc8, .slice ga8 gn8 gc8] rfl rfl 25 _ Z1.out dev_info rfl (by simp [Value.oneCell']) ?_; obtain ⟨Z, hZ⟩ : ∃ Z, Z = (w8.alloc (.cells #[.slice none 0 0, .slice none 0 0] 25)).setRow w8.heap.size #[.slice pa8 pn8 pc8, .slice ga8 gn8 gc8] := ⟨_, rfl⟩; rw [← hZ]; have Z2' := Z2.out; have Z3' := Z3.out; rw [← hZ] at Z2' Z3'; clear hZ Z1 Z2 Z3; have HB8 : Seal (Below w.heap.size w Z) := ⟨HB80.out.trans (Z3'.mono HB80.out.size)⟩; clear HB80; have HK := Seal.mk (HK.out.step Z3'); have HL := Seal.mk (HL.out.step Z3'); have K6 := Seal.mk (K6.out.step Z3'); have K8 : Seal (Kp Z (DevC w8.heap.size pa8 pn8 pc8 ga8 gn8 gc8 M)) := ⟨kp_dev Z2' ((hd.out.1).below Z3') hd.out.2.1 ((hd.out.2.2).below Z3')⟩; clear Z2' Z3' hd hb; (try simp only [Act.put])))
    obtain ⟨W8, hW8⟩ : ∃ z, z = Z := ⟨_, rfl⟩
    subst hW8
    obtain ⟨g8, hg8⟩ : ∃ g, g = w8.heap.size := ⟨_, rfl⟩
    rw [← hg8] at K8 ⊢
    clear hg8

    go_ret
    exact ⟨rfl, HB8.out⟩
  subst hm
  have HMc : Seal (chkD M = 0 ∧ o ∈ M.G ∧ o ∈ Gd.G) := ⟨by
    have e := HME.out.1.symm
    have hg : o ∈ Gd.G := by rw [HE.out.2.1]; exact mem_putI.2 (.inl rfl)
    refine ⟨by rw [HME.out.2]; exact merge_chk e, ?_, hg⟩
    rw [HME.out.2]
    unfold mergeD
    rw [if_pos e]
    exact (mem_mrgK _ _ (agr_id _ _) o).2 (.inr hg)⟩
  have hdevs : True := trivial
  rintro e w8 ⟨pa8, pn8, pc8, ga8, gn8, gc8, rfl, hd, hb⟩
  obtain ⟨N1, N2, N3⟩ := one_new w8 #[.slice pa8 pn8 pc8, .slice ga8 gn8 gc8]
  have Z1 : Seal _ := ⟨N1⟩
  have Z2 : Seal _ := ⟨N2⟩
  have Z3 : Seal _ := ⟨N3⟩
  clear N1 N2 N3
  have HB80 : Seal (Below w.heap.size w w8) := ⟨HB6.out.trans (hb.mono HB6.out.size)⟩
  have HK := Seal.mk (HK.out.step hb)
  have HL := Seal.mk (HL.out.step hb)
  have K6 := Seal.mk (K6.out.step hb)
  go_wp2_with (first
    | (refine wpList_store_row rfl 25 (.tmp 9) (.tmp 59) rfl w8.heap.size #[.slice pa8 pn8 pc8, .slice ga8 gn8 gc8] rfl rfl 25 _ Z1.out dev_info rfl (by simp [Value.oneCell']) ?_; obtain ⟨Z, hZ⟩ : ∃ Z, Z = (w8.alloc (.cells #[.slice none 0 0, .slice none 0 0] 25)).setRow w8.heap.size #[.slice pa8 pn8 pc8, .slice ga8 gn8 gc8] := ⟨_, rfl⟩; rw [← hZ]; have Z2' := Z2.out; have Z3' := Z3.out; rw [← hZ] at Z2' Z3'; clear hZ Z1 Z2 Z3; have HB8 : Seal (Below w.heap.size w Z) := ⟨HB80.out.trans (Z3'.mono HB80.out.size)⟩; clear HB80 HB6; have HK := Seal.mk (HK.out.step Z3'); have HL := Seal.mk (HL.out.step Z3'); have K6 := Seal.mk (K6.out.step Z3'); have K8 : Seal (Kp Z (DevC w8.heap.size pa8 pn8 pc8 ga8 gn8 gc8 M)) := ⟨kp_dev Z2' ((hd.out.1).below Z3') hd.out.2.1 ((hd.out.2.2).below Z3')⟩; clear Z2' Z3' hd hb; (try simp only [Act.put]))
    | (refine wpList_load_mid rfl 25 (.tmp 7) rfl g6 0 rfl [.slice pa6 pn6 pc6, .slice ga6 gn6 gc6] _ K6.out.at.1 ud rfl dev_info ?_)
    | (refine wpList_load_mid rfl 25 (.tmp 9) rfl w8.heap.size 0 rfl [.slice pa8 pn8 pc8, .slice ga8 gn8 gc8] _ K8.out.at.1 ud rfl dev_info ?_)
    | (refine wpList_bslice (by kernel_rfl) 63 25 2 2 #[(0, .tmp 67), (1, .tmp 68)] rfl [[.slice pa6 pn6 pc6, .slice ga6 gn6 gc6], [.slice pa8 pn8 pc8, .slice ga8 gn8 gc8]] Tryd.underlying63 size_dev _ zero_dev rfl rfl (by intro D hD; simp only [List.mem_cons, List.not_mem_nil, or_false] at hD; rcases hD with rfl | rfl <;> rfl) (by decide) (by decide) rfl ?_))
  obtain ⟨W8, hW8⟩ : ∃ z, z = Z := ⟨_, rfl⟩
  subst hW8
  obtain ⟨g8, hg8⟩ : ∃ g, g = w8.heap.size := ⟨_, rfl⟩
  rw [← hg8] at K8 ⊢
  clear hg8

  clear hdevs
  obtain ⟨Y, hY⟩ : ∃ Y, Y = W8.alloc (.cells #[.slice pa6 pn6 pc6, .slice ga6 gn6 gc6, .slice pa8 pn8 pc8, .slice ga8 gn8 gc8] 25) := ⟨_, rfl⟩
  obtain ⟨gs, hgs⟩ : ∃ g, g = W8.heap.size := ⟨_, rfl⟩
  have HBY : Seal (Below w.heap.size w Y) := ⟨by rw [hY]; exact HB8.out.trans ((below_alloc _ _).mono HB8.out.size)⟩
  have HEL : Seal (∀ k, k < 2 → OwEl gs o Y k) := ⟨by
    have hr : Y.rangeAt gs 0 [.slice pa6 pn6 pc6, .slice ga6 gn6 gc6, .slice pa8 pn8 pc8, .slice ga8 gn8 gc8] := by rw [hY, hgs]; exact rangeAt_row (cs := [.slice pa6 pn6 pc6, .slice ga6 gn6 gc6, .slice pa8 pn8 pc8, .slice ga8 gn8 gc8]) (heap_alloc_new W8 _)
    have hb : Below W8.heap.size W8 Y := by rw [hY]; exact below_alloc _ _
    have k6 := K6.out.step hb
    have k8 := K8.out.step hb
    intro k hk
    rcases (show k = 0 ∨ k = 1 by omega) with rfl | rfl
    · exact ⟨pa6, pn6, pc6, ga6, gn6, gc6, Gd, HE.out.2.2, HMc.out.2.2, k6.at.2.2.1, fun W hW => ⟨fun j u hu => rangeAt_below' hr hW j u (by
        match j, hu with
        | 0, hu => exact hu
        | 1, hu => exact hu), (k6 W hW).2.1, (k6 W hW).2.2.2⟩⟩
    · exact ⟨pa8, pn8, pc8, ga8, gn8, gc8, M, HMc.out.1, HMc.out.2.1, k8.at.2.2.1, fun W hW => ⟨fun j u hu => rangeAt_below' (rangeAt_drop hr 2) hW j u (by
        match j, hu with
        | 0, hu => exact hu
        | 1, hu => exact hu), (k8 W hW).2.1, (k8 W hW).2.2.2⟩⟩⟩
  rw [← hY, ← hgs]
  clear hY hgs K6 K8 HK HL HB8 HE HMc HME HGE HMz
  go_loopw [71] (fun i wr => ∃ k : Nat, k ≤ 2 ∧ i = .int .i64 k ∧ Seal (Below w.heap.size w wr ∧ Below Y.heap.size Y wr)) (fun i _ => 2 - (intOf i).toNat)
  case atStart => exact ⟨0, by omega, rfl, ⟨HBY.out, Below.refl _ _⟩⟩
  case round =>
    obtain ⟨wo, rfl⟩ : ∃ z, z = wr := ⟨_, rfl⟩
    obtain ⟨k, hk, rfl, hH⟩ := hrel
    by_cases hlt : k < 2
    · obtain ⟨xa, xn, xc, ya, yn, yc, D', hck, hoG, h32, hK⟩ := HEL.out k hlt
      have HK := Seal.mk (hK.step hH.out.2)
      have HD := Seal.mk (And.intro hck (And.intro hoG h32))
      have q5 : (k : Int) < 2 := by omega
      have q6 : (0 : Int) ≤ (k : Int) := by omega
      clear hck hoG h32 hK
      obtain ⟨gd, hgd⟩ : ∃ g, g = wo.heap.size := ⟨_, rfl⟩
      obtain ⟨Z, hZ⟩ : ∃ Z, Z = wo.alloc (.cells #[.slice xa xn xc, .slice ya yn yc] 25) := ⟨_, rfl⟩
      have hbz : Below wo.heap.size wo Z := by rw [hZ]; exact below_alloc _ _
      have HBz : Seal (Below w.heap.size w Z ∧ Below Y.heap.size Y Z) := ⟨hH.out.1.trans (hbz.mono hH.out.1.size), hH.out.2.trans (hbz.mono hH.out.2.size)⟩
      have KD : Seal (Kp Z (DevC gd xa xn xc ya yn yc D')) := ⟨kp_dev (by rw [hZ, hgd]; exact heap_alloc_new wo _) (HK.out.step hbz).at.2.1 HD.out.2.2 (HK.out.step hbz).at.2.2⟩
      have HZ := Seal.mk hZ
      clear hZ hbz
      go_wp2_with (first
        | (refine wpList_load_mid rfl 25 (.tmp 73) rfl gs (k * 2) rfl [.slice xa xn xc, .slice ya yn yc] _ HK.out.at.1 ud rfl dev_info ?_)
        | (refine wpList_load_mid rfl 25 (.tmp 12) rfl gd 0 rfl [.slice xa xn xc, .slice ya yn yc] _ KD.out.at.1 ud rfl dev_info ?_))
      rw [← HZ.out, ← hgd]
      clear HZ hgd HK hH
      obtain ⟨L, hL⟩ : ∃ l, l = owedL D' := ⟨_, rfl⟩
      have HLL : Seal (L.length + D'.G.length = D'.P.length ∧ hasK idI L o = false ∧ ∀ p ∈ D'.P, hasK idI L p.o = !hasK idI D'.G p.o) := ⟨by rw [hL]; exact ⟨owed_len (chkD_zero.1 HD.out.1).2, owed_not HD.out.2.1, fun p hp => owed_has hp⟩⟩
      have HOw : Seal (Calls Tryd.prog 22 #[.agg #[.slice xa xn xc, .slice ya yn yc]] Z (OwedC L 0 Z)) := ⟨by
        have h := owed_c (dowed_any xa ya xn xc yn yc D' Z KD.out.at.2.1 KD.out.at.2.2.1 KD.out.at.2.2.2) (by have := KD.out.at.2.1.llen; have := KD.out.at.2.1.lmax; omega)
        rw [HD.out.1, if_pos rfl, ← hL] at h
        exact h⟩
      clear hL
      refine HOw.out.mono ?_
      clear HOw
      rintro e Z1 ⟨oa, on, oc, rfl, hd, hb⟩
      have HBz := Seal.mk (And.intro (HBz.out.1.trans (hb.mono HBz.out.1.size)) (HBz.out.2.trans (hb.mono HBz.out.2.size)))
      have KD := Seal.mk (KD.out.step hb)
      have KL := Seal.mk (kp_isC hd.out)
      clear hd hb
      have hxl := KD.out.at.2.1.llen
      have hyl := KD.out.at.2.2.2.llen
      have hol := KL.out.at.llen
      have hsum : on + yn = xn := by rw [← hxl, ← hyl, ← hol]; exact HLL.out.1
      have hxm := KD.out.at.2.1.lmax
      have s1 : on ≤ 5000 := by omega
      have s2 : yn ≤ 5000 := by omega
      have s3 : ((on : Int) + (yn : Int) != (xn : Int)) = false := by
        have : (on : Int) + (yn : Int) = (xn : Int) := by omega
        rw [this]; simp
      have c8 : Z1.cell? ⟨gd, 0, none⟩ = some (.slice xa xn xc) := by have := KD.out.at.1 0 (.slice xa xn xc) rfl; simpa using this
      have c9 : Z1.cell? ⟨gd, 1, none⟩ = some (.slice ya yn yc) := by have := KD.out.at.1 1 (.slice ya yn yc) rfl; simpa using this
      clear hxl hyl hol hsum
      go_wp2_with fail
      refine (rhas44_any oa on oc L o Z1 KL.out.at).mono ?_
      rintro e Z2 ⟨rfl, rfl⟩
      rw [HLL.out.2.1]
      go_wp2
      go_loopw [102] (fun i wr => ∃ j : Nat, j ≤ xn ∧ i = .int .i64 j ∧ Seal (Below w.heap.size w wr ∧ Below Y.heap.size Y wr ∧ Below Z1.heap.size Z1 wr)) (fun i _ => xn - (intOf i).toNat)
      case atStart => exact ⟨0, by omega, rfl, ⟨HBz.out.1, HBz.out.2, Below.refl _ _⟩⟩
      case round =>
        obtain ⟨wi, rfl⟩ : ∃ z, z = wr := ⟨_, rfl⟩
        obtain ⟨j, hj, rfl, hI⟩ := hrel
        have KD := Seal.mk (KD.out.step hI.out.2.2)
        have KL := Seal.mk (KL.out.step hI.out.2.2)
        clear c8 c9
        by_cases hlj : j < xn
        · have hPs := KD.out.at.2.1
          rcases hPs.at_ with hz | ⟨g, off, rfl, hr, hg⟩
          · omega
          · obtain ⟨x, hx⟩ : ∃ x, D'.P[j]? = some x := ⟨_, List.getElem?_eq_getElem (by have := hPs.llen; omega)⟩
            have rC := rangeC_row hr hPs.each hx
            have x32 := KD.out.at.2.2.1 x (List.mem_of_getElem? hx)
            obtain ⟨C, hC⟩ : ∃ C, C = x.C := ⟨_, rfl⟩
            have iC : (Tryd.prog.info? 31).map (·.size) = some C.length := by rw [hC]; exact Po.C_info x32
            obtain ⟨q, hq⟩ : ∃ q, q = x.o := ⟨_, rfl⟩
            have HC : Seal (C.length = 33 ∧ (∀ v ∈ C, v.oneCell' = true) ∧ C[0]? = some (.int .i64 q)) := ⟨by rw [hC, hq]; exact ⟨Po.C_len x32, Po.C_one x, rfl⟩⟩
            obtain ⟨b, hb2⟩ : ∃ b, b = hasK idI D'.G q := ⟨_, rfl⟩
            have HBo : Seal (hasK idI L q = !b) := ⟨by rw [hb2, hq]; exact HLL.out.2.2 x (List.mem_of_getElem? hx)⟩
            have HBb := Seal.mk hb2
            rw [← hC] at rC
            have q7 : (j : Int) < (xn : Int) := by omega
            have q8 : (0 : Int) ≤ (j : Int) := by omega
            have ut := Tryd.underlying31
            have hn5 := heap_alloc_new wi (.cells (List.toArray (.int .i64 0 :: .int .u8 0 :: .int .u8 0 :: .int .u8 0 :: .int .u8 0 :: .int .u8 0 :: .int .u8 0 :: .int .u8 0 :: .int .u8 0 :: .int .u8 0 :: .int .u8 0 :: .int .u8 0 :: .int .u8 0 :: .int .u8 0 :: .int .u8 0 :: .int .u8 0 :: .int .u8 0 :: .int .u8 0 :: .int .u8 0 :: .int .u8 0 :: .int .u8 0 :: .int .u8 0 :: .int .u8 0 :: .int .u8 0 :: .int .u8 0 :: .int .u8 0 :: .int .u8 0 :: .int .u8 0 :: .int .u8 0 :: .int .u8 0 :: .int .u8 0 :: .int .u8 0 :: .int .u8 0 :: [] : List Value) : Array Value) 31)
            have SZ : Seal (((List.toArray (.int .i64 0 :: .int .u8 0 :: .int .u8 0 :: .int .u8 0 :: .int .u8 0 :: .int .u8 0 :: .int .u8 0 :: .int .u8 0 :: .int .u8 0 :: .int .u8 0 :: .int .u8 0 :: .int .u8 0 :: .int .u8 0 :: .int .u8 0 :: .int .u8 0 :: .int .u8 0 :: .int .u8 0 :: .int .u8 0 :: .int .u8 0 :: .int .u8 0 :: .int .u8 0 :: .int .u8 0 :: .int .u8 0 :: .int .u8 0 :: .int .u8 0 :: .int .u8 0 :: .int .u8 0 :: .int .u8 0 :: .int .u8 0 :: .int .u8 0 :: .int .u8 0 :: .int .u8 0 :: .int .u8 0 :: [] : List Value) : Array Value) : Array Value).size = C.toArray.size ∧ C.toArray.all (·.oneCell') = true) := ⟨by rw [posz_len, List.size_toArray, HC.out.1], all_oneCell_toArray HC.out.2.1⟩
            obtain ⟨gp, hgp⟩ : ∃ g, g = wi.heap.size := ⟨_, rfl⟩
            obtain ⟨V, hV⟩ : ∃ V, V = wi.alloc (.cells C.toArray 31) := ⟨_, rfl⟩
            have hVz : (wi.alloc (.cells (List.toArray (.int .i64 0 :: .int .u8 0 :: .int .u8 0 :: .int .u8 0 :: .int .u8 0 :: .int .u8 0 :: .int .u8 0 :: .int .u8 0 :: .int .u8 0 :: .int .u8 0 :: .int .u8 0 :: .int .u8 0 :: .int .u8 0 :: .int .u8 0 :: .int .u8 0 :: .int .u8 0 :: .int .u8 0 :: .int .u8 0 :: .int .u8 0 :: .int .u8 0 :: .int .u8 0 :: .int .u8 0 :: .int .u8 0 :: .int .u8 0 :: .int .u8 0 :: .int .u8 0 :: .int .u8 0 :: .int .u8 0 :: .int .u8 0 :: .int .u8 0 :: .int .u8 0 :: .int .u8 0 :: .int .u8 0 :: [] : List Value) : Array Value) 31)).setRow wi.heap.size C.toArray = V := by rw [hV]; exact setRow_new wi (.int .i64 0 :: .int .u8 0 :: .int .u8 0 :: .int .u8 0 :: .int .u8 0 :: .int .u8 0 :: .int .u8 0 :: .int .u8 0 :: .int .u8 0 :: .int .u8 0 :: .int .u8 0 :: .int .u8 0 :: .int .u8 0 :: .int .u8 0 :: .int .u8 0 :: .int .u8 0 :: .int .u8 0 :: .int .u8 0 :: .int .u8 0 :: .int .u8 0 :: .int .u8 0 :: .int .u8 0 :: .int .u8 0 :: .int .u8 0 :: .int .u8 0 :: .int .u8 0 :: .int .u8 0 :: .int .u8 0 :: .int .u8 0 :: .int .u8 0 :: .int .u8 0 :: .int .u8 0 :: .int .u8 0 :: [] : List Value) C _
            have hbv : Below wi.heap.size wi V := by rw [hV]; exact below_alloc _ _
            have HV : Seal (Below w.heap.size w V ∧ Below Y.heap.size Y V ∧ Below Z1.heap.size Z1 V) := ⟨hI.out.1.trans (hbv.mono hI.out.1.size), hI.out.2.1.trans (hbv.mono hI.out.2.1.size), hI.out.2.2.trans (hbv.mono hI.out.2.2.size)⟩
            have KD := Seal.mk (KD.out.step hbv)
            have KL := Seal.mk (KL.out.step hbv)
            have k0 : V.cell? ⟨gp, 0, none⟩ = some (.int .i64 q) := by rw [hV, hgp, cell_of_row _ _ _ _ _ _ (heap_alloc_new wi _)]; simpa using HC.out.2.2
            have hgpn := hgp.symm
            rw [hgpn] at hVz hn5
            clear hPs hr hg hx x32 hC hq hb2 hV hbv hI hgp
            go_wp2_with (first
              | (refine wpList_load_mid rfl 31 (.tmp 104) rfl g (off + j * 33) rfl C _ rC ut rfl iC ?_; (try simp only [Act.put, List.setIfInBounds_toArray, List.set_cons_zero, List.set_cons_succ]))
              | ((try rw [hgpn]); refine wpList_store_row rfl 31 (.tmp 16) (.tmp 105) rfl gp C.toArray rfl rfl 31 _ hn5 (by simpa using iC) SZ.out.1 SZ.out.2 ?_; rw [hVz]; clear hVz hn5 hgpn rC; (try simp only [Act.put])))
            have c9 : V.cell? ⟨gd, 1, none⟩ = some (.slice ya yn yc) := by have := KD.out.at.1 1 (.slice ya yn yc) rfl; simpa using this
            refine wp_region_held_drew (S := fun w' => w'.cell? ⟨gp, 0, none⟩ = some (.int .i64 q) ∧ w'.cell? ⟨gd, 1, none⟩ = some (.slice ya yn yc)) (by kernel_rfl) ⟨k0, c9⟩ (fun hHeld => ?_)
            obtain ⟨V2, hV2⟩ : ∃ V2, V2 = V.drew := ⟨_, rfl⟩
            have hb3 : Below V.heap.size V V2 := by rw [hV2]; exact bel_drew _
            have HV := Seal.mk (And.intro (HV.out.1.trans (hb3.mono HV.out.1.size)) (And.intro (HV.out.2.1.trans (hb3.mono HV.out.2.1.size)) (HV.out.2.2.trans (hb3.mono HV.out.2.2.size))))
            have KD := Seal.mk (KD.out.step hb3)
            have KL := Seal.mk (KL.out.step hb3)
            rw [← hV2] at hHeld ⊢
            clear hV2 hb3 k0 c9
            refine take_h 0 ?_ rfl (by kernel_rfl) (by kernel_rfl) (by kernel_rfl) (fun _ _ _ h => h) (Or.inl ⟨by kernel_rfl, ?_⟩) (by assumption) ?_
            rotate_left
            · (intro w hSw; (try dsimp only at hSw); go_simp; try (with_reducible rfl))
            try simp only [Act.put, List.setIfInBounds_toArray, List.set_cons_zero, List.set_cons_succ]
            refine take_h 1 ?_ rfl (by kernel_rfl) (by kernel_rfl) (by kernel_rfl) (fun _ _ _ h => h) (Or.inl ⟨by kernel_rfl, ?_⟩) (by assumption) ?_
            rotate_left
            · (intro w hSw; (try dsimp only at hSw); go_simp; try (with_reducible rfl))
            try simp only [Act.put, List.setIfInBounds_toArray, List.set_cons_zero, List.set_cons_succ]
            refine take_h 2 ?_ rfl (by kernel_rfl) (by kernel_rfl) (by kernel_rfl) (fun _ _ _ h => h) (Or.inl ⟨by kernel_rfl, ?_⟩) (by assumption) ?_
            rotate_left
            · (intro w hSw; (try dsimp only at hSw); go_simp; try (with_reducible rfl))
            try simp only [Act.put, List.setIfInBounds_toArray, List.set_cons_zero, List.set_cons_succ]
            refine take_h 4 ?_ rfl (by kernel_rfl) (by kernel_rfl) (by kernel_rfl) (fun _ _ _ h => h) (Or.inl ⟨by kernel_rfl, ?_⟩) (by assumption) ?_
            rotate_left
            · (intro w hSw; (try dsimp only at hSw); go_simp; try (with_reducible rfl))
            try simp only [Act.put, List.setIfInBounds_toArray, List.set_cons_zero, List.set_cons_succ]
            refine take_h 5 ?_ rfl (by kernel_rfl) (by kernel_rfl) (by kernel_rfl) (fun _ _ _ h => h) (Or.inl ⟨by kernel_rfl, ?_⟩) (by assumption) ?_
            rotate_left
            · (intro w hSw; (try dsimp only at hSw); go_simp; try (with_reducible rfl))
            try simp only [Act.put, List.setIfInBounds_toArray, List.set_cons_zero, List.set_cons_succ]
            refine take_h 6 ?_ rfl (by kernel_rfl) (by kernel_rfl) (by kernel_rfl) (fun _ _ _ h => h) (Or.inl ⟨by kernel_rfl, ?_⟩) (by assumption) ?_
            rotate_left
            · (intro w hSw; (try dsimp only at hSw); go_simp; try (with_reducible rfl))
            try simp only [Act.put, List.setIfInBounds_toArray, List.set_cons_zero, List.set_cons_succ]
            refine take_h 7 ?_ rfl (by kernel_rfl) (by kernel_rfl) (by kernel_rfl) (fun _ _ _ h => h) (Or.inl ⟨by kernel_rfl, ?_⟩) (by assumption) ?_
            rotate_left
            · (intro w hSw; (try dsimp only at hSw); go_simp; try (with_reducible rfl))
            try simp only [Act.put, List.setIfInBounds_toArray, List.set_cons_zero, List.set_cons_succ]
            refine call_h 3 rfl (by kernel_rfl) 32 #[.slice oa on oc, .int .i64 q] (by kernel_rfl) (by go_simp) ?_
            refine (rhas44_any oa on oc L q V2 KL.out.at).mono ?_
            rintro e V3 ⟨rfl, rfl⟩
            rw [HBo.out]
            refine ⟨_, rfl, hHeld, fun hHeld2 => ?_⟩
            clear hHeld
            try simp only [Act.put, List.setIfInBounds_toArray, List.set_cons_zero, List.set_cons_succ]
            refine call_h 8 rfl (by kernel_rfl) 32 #[.slice ya yn yc, .int .i64 q] (by kernel_rfl) (by go_simp) ?_
            refine (rhas44_any ya yn yc D'.G q V2 KD.out.at.2.2.2).mono ?_
            rintro e V3 ⟨rfl, rfl⟩
            rw [← HBb.out]
            refine ⟨_, rfl, hHeld2, fun hHeld3 => ?_⟩
            clear hHeld2 HBo HBb
            try simp only [Act.put, List.setIfInBounds_toArray, List.set_cons_zero, List.set_cons_succ]
            cases b
            · skip
              refine take_h 9 ?_ rfl (by kernel_rfl) (by kernel_rfl) (by kernel_rfl) (fun _ _ _ h => h) (Or.inl ⟨by kernel_rfl, ?_⟩) (by assumption) ?_
              rotate_left
              · (intro w hSw; (try dsimp only at hSw); go_simp; try (with_reducible rfl))
              try simp only [Act.put, List.setIfInBounds_toArray, List.set_cons_zero, List.set_cons_succ]
              refine wpAnyH_done (by kernel_rfl) ?_ _
              clear hHeld3
              go_wp2
              go_roundw
              case rel => exact ⟨j + 1, by omega, by go_num, HV⟩
              case measure => simp [intOf]; omega
            · skip
              refine take_h 9 ?_ rfl (by kernel_rfl) (by kernel_rfl) (by kernel_rfl) (fun _ _ _ h => h) (Or.inl ⟨by kernel_rfl, ?_⟩) (by assumption) ?_
              rotate_left
              · (intro w hSw; (try dsimp only at hSw); go_simp; try (with_reducible rfl))
              try simp only [Act.put, List.setIfInBounds_toArray, List.set_cons_zero, List.set_cons_succ]
              refine wpAnyH_done (by kernel_rfl) ?_ _
              clear hHeld3
              go_wp2
              go_roundw
              case rel => exact ⟨j + 1, by omega, by go_num, HV⟩
              case measure => simp [intOf]; omega
        · obtain rfl : xn = j := by omega
          have q7 : ¬ (xn : Int) < (xn : Int) := by omega
          have HV := Seal.mk (And.intro hI.out.1 hI.out.2.1)
          clear hI
          go_wp2
          go_roundw
          case rel => exact ⟨k + 1, by omega, by go_num, HV⟩
          case measure => simp [intOf]; omega
    · obtain rfl : k = 2 := by omega
      go_wp2
      go_ret
      exact ⟨rfl, hH.out.1⟩
end Frk
