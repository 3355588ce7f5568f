/- Law 44: DevicesMergeSpec's walk. -/
import Derived.Test.YtnpnboldjbljaaaDoorVeSdv
import Derived.Test.YtnpnboldjbljaaaDoorVeRme
import Derived.Test.YtnpnboldjbljaaaDoorVeRod
import Derived.Test.YtnpnboldjbljaaaDoorVegDop
import Derived.Test.YtnpnboldjbljaaaDoorVeLds
namespace Frk
open Go Go.RowKit Go.Proofs
set_option maxRecDepth 100000

theorem fewB_le4 {pn gn : Nat} (h : fewB pn gn = true) : (pn ≤ 40 ∨ 4096 < pn) ∧ pn ≤ 5000 ∧ gn ≤ 40 := by
  unfold fewB at h
  simp at h
  omega
set_option maxHeartbeats 8000000 in
theorem law_devicesMergeSpec (pa ga : Option Addr) (pn pc gn gc : Nat) (D : Dv) (qa ha : Option Addr) (qn qc hn hc : Nat) (E : Dv) (o : Int) (w : World) (hG : Glob w) (hD : DevArg w pa ga pn pc gn gc D) (hE : DevArg w qa ha qn qc hn hc E) :
    Calls Tryd.prog 4 #[.agg #[.slice pa pn pc, .slice ga gn gc], .agg #[.slice qa qn qc, .slice ha hn hc], .int .i64 o] w fun e w' => e = .returned (.bool true) ∧ Below w.heap.size w w' := by
  obtain ⟨X, hX⟩ : ∃ X : World, X = (w.alloc (.cells #[.slice pa pn pc, .slice ga gn gc] 25)).alloc (.cells #[.slice qa qn qc, .slice ha hn hc] 25) := ⟨_, rfl⟩
  have HB : Seal (Below w.heap.size w X) := ⟨by rw [hX]; exact ((Below.refl _ w).alloc (Nat.le_refl _) _).alloc (by simp) _⟩
  have HK : Seal (Kp X (fun W => W.rangeAt w.heap.size 0 [.slice pa pn pc, .slice ga gn gc])) := ⟨by rw [hX]; exact kp_range (rangeAt_row (cs := [.slice pa pn pc, .slice ga gn gc]) (heap_alloc2_old w _ _))⟩
  have HL : Seal (Kp X (fun W => W.rangeAt (w.heap.size + 1) 0 [.slice qa qn qc, .slice ha hn hc])) := ⟨by rw [hX]; exact kp_range (rangeAt_row (cs := [.slice qa qn qc, .slice ha hn hc]) (heap_alloc2_new w _ _))⟩
  have HDA := Seal.mk hD
  have HEA := Seal.mk hE
  have HS : Seal (Calls Tryd.prog 9 #[] X fun e w' => e = .returned (.bool true) ∧ Below X.heap.size X w') := ⟨sane44_any X (hG.below HB.out)⟩
  have ud := Tryd.underlying25
  obtain ⟨fa, hfa⟩ : ∃ b, b = fewB pn gn := ⟨_, rfl⟩
  obtain ⟨fb, hfb⟩ : ∃ b, b = fewB qn hn := ⟨_, rfl⟩
  have HFA := Seal.mk hfa
  have HFB := Seal.mk hfb
  clear hD hE hG hfa hfb
  go_enter Tryd.func4, Tryd.ntmps4
  go_upto_region 1 with (fail)
  rw [← hX]
  clear hX
  go_wp2_with fail
  refine HS.out.mono ?_
  rintro e w1 ⟨rfl, hb⟩
  have HB1 := Seal.mk (HB.out.trans (hb.mono HB.out.size))
  have HK := Seal.mk (HK.out.step hb)
  have HL := Seal.mk (HL.out.step hb)
  clear hb HB HS
  obtain ⟨gx, hgx⟩ : ∃ g, g = w.heap.size := ⟨_, rfl⟩
  rw [← hgx] at HK HL ⊢
  clear hgx
  go_wp2_with (refine wpList_load_mid rfl 25 (.tmp 3) rfl gx 0 rfl [.slice pa pn pc, .slice ga gn gc] _ HK.out.at ud rfl dev_info ?_)
  refine (rfew44_any pa ga pn pc gn gc w1).mono ?_
  rintro e w2 ⟨rfl, hb⟩
  rw [← HFA.out]
  have HB2 := Seal.mk (HB1.out.trans (hb.mono HB1.out.size))
  have HK := Seal.mk (HK.out.step hb)
  have HL := Seal.mk (HL.out.step hb)
  clear hb HB1
  cases fa with
  | false =>
    go_wp2
    go_ret
    exact ⟨rfl, HB2.out⟩
  | true =>
  go_wp2_with (refine wpList_load_mid_g (by kernel_rfl) 25 (.tmp 4) rfl (gx + 1) 0 rfl [.slice qa qn qc, .slice ha hn hc] _ HL.out.at ud rfl dev_info ?_; (try simp only [Act.put, List.setIfInBounds_toArray, List.set_cons_zero, List.set_cons_succ]))
  refine (rfew44_any qa ha qn qc hn hc w2).mono ?_
  rintro e w3 ⟨rfl, hb⟩
  rw [← HFB.out]
  have HB3 := Seal.mk (HB2.out.trans (hb.mono HB2.out.size))
  have HK := Seal.mk (HK.out.step hb)
  have HL := Seal.mk (HL.out.step hb)
  clear hb HB2
  cases fb with
  | false =>
    go_wp2
    go_ret
    exact ⟨rfl, HB3.out⟩
  | true =>
  have hla := fewB_le4 HFA.out.symm
  have hlb := fewB_le4 HFB.out.symm
  have HP : Seal (∀ W, Below w.heap.size w W → IsPs W pa pn pc D.P ∧ IsIs W ga gn gc D.G ∧ IsPs W qa qn qc E.P ∧ IsIs W ha hn hc E.G) := ⟨fun W h => ⟨(HDA.out.ps hla.2.1).below h, (HDA.out.is_ (by omega)).below h, (HEA.out.ps hlb.2.1).below h, (HEA.out.is_ (by omega)).below h⟩⟩
  have HSm : Seal ((pn ≤ 40 ∨ 4096 < pn) ∧ (qn ≤ 40 ∨ 4096 < qn) ∧ gn ≤ 40 ∧ hn ≤ 40) := ⟨by omega⟩
  obtain ⟨me, hme⟩ : ∃ e, e = mergeE D E := ⟨_, rfl⟩
  obtain ⟨M, hM⟩ : ∃ z, z = mergeD D E := ⟨_, rfl⟩
  obtain ⟨ge, hge⟩ : ∃ e, e = gotE D o := ⟨_, rfl⟩
  obtain ⟨Gd, hGd⟩ : ∃ z, z = gotD D o := ⟨_, rfl⟩
  obtain ⟨ck, hck⟩ : ∃ e, e = chkD D := ⟨_, rfl⟩
  obtain ⟨L, hL⟩ : ∃ l, l = (if chkD D = 0 then owedL D else []) := ⟨_, rfl⟩
  have C1 : Seal (∀ W, Below w.heap.size w W → Calls Tryd.prog 18 #[.agg #[.slice pa pn pc, .slice ga gn gc], .agg #[.slice qa qn qc, .slice ha hn hc]] W (DevsC M me W)) := ⟨fun W h => by
    have h := dmerge_any pa ga pn pc gn gc D qa ha qn qc hn hc E W (HP.out W h).1 HDA.out.p32 (HP.out W h).2.1 (HP.out W h).2.2.1 HEA.out.p32 (HP.out W h).2.2.2
    rw [← hM, ← hme] at h
    exact dev_c h⟩
  have C2 : Seal (∀ W, Below w.heap.size w W → Calls Tryd.prog 19 #[.agg #[.slice pa pn pc, .slice ga gn gc], .agg #[.slice qa qn qc, .slice ha hn hc]] W (DevsC M me W)) := ⟨fun W h => by
    have h := rmerge44_any pa ga pn pc gn gc D qa ha qn qc hn hc E W (HP.out W h).1 HDA.out.p32 (HP.out W h).2.1 (HP.out W h).2.2.1 HEA.out.p32 (HP.out W h).2.2.2 HDA.out.pp HDA.out.gp HSm.out
    rw [← hM, ← hme] at h
    exact dev_c h⟩
  have C3 : Seal (∀ W, Below w.heap.size w W → Calls Tryd.prog 20 #[.agg #[.slice pa pn pc, .slice ga gn gc], .int .i64 o] W (DevsC Gd ge W)) := ⟨fun W h => by
    have h := dgot_any pa ga pn pc gn gc D o W (HP.out W h).1 HDA.out.p32 (HP.out W h).2.1 (by omega)
    rw [← hGd, ← hge] at h
    exact dev_c h⟩
  have C4 : Seal (∀ W, Below w.heap.size w W → Calls Tryd.prog 21 #[.agg #[.slice pa pn pc, .slice ga gn gc], .int .i64 o] W (DevsC Gd ge W)) := ⟨fun W h => by
    have h := rgot44_any pa ga pn pc gn gc D o W (HP.out W h).1 HDA.out.p32 (HP.out W h).2.1 HDA.out.gp (by omega)
    rw [← hGd, ← hge] at h
    exact dev_c h⟩
  have C5 : Seal (∀ W, Below w.heap.size w W → Calls Tryd.prog 22 #[.agg #[.slice pa pn pc, .slice ga gn gc]] W (OwedC L ck W)) := ⟨fun W h => by
    have h := owed_c (dowed_any pa ga pn pc gn gc D W (HP.out W h).1 HDA.out.p32 (HP.out W h).2.1) (by have := (HP.out W h).1.llen; omega)
    rw [← hL, ← hck] at h
    exact h⟩
  have C6 : Seal (∀ W, Below w.heap.size w W → Calls Tryd.prog 23 #[.agg #[.slice pa pn pc, .slice ga gn gc]] W (OwedC L ck W)) := ⟨fun W h => by
    have h := owed_c (rowed44_any pa ga pn pc gn gc D W (HP.out W h).1 (HP.out W h).2.1) (by have := (HP.out W h).1.llen; omega)
    rw [← hL, ← hck] at h
    exact h⟩
  clear hme hM hge hGd hck hL hla hlb HP HSm
  go_wp2_with (first | (refine wpList_load_mid rfl 25 (.tmp 3) rfl gx 0 rfl [.slice pa pn pc, .slice ga gn gc] _ HK.out.at ud rfl dev_info ?_) | (refine wpList_load_mid rfl 25 (.tmp 4) rfl (gx + 1) 0 rfl [.slice qa qn qc, .slice ha hn hc] _ HL.out.at ud rfl dev_info ?_))
  refine (C1.out w3 HB3.out).mono ?_
  clear C1
  rintro e w4 ⟨pa4, pn4, pc4, ga4, gn4, gc4, rfl, hd, hb⟩
  obtain ⟨N1, N2, N3⟩ := one_new w4 #[.slice pa4 pn4 pc4, .slice ga4 gn4 gc4]
  have Z1 : Seal _ := ⟨N1⟩
  have Z2 : Seal _ := ⟨N2⟩
  have Z3 : Seal _ := ⟨N3⟩
  clear N1 N2 N3
  have HB40 : Seal (Below w.heap.size w w4) := ⟨HB3.out.trans (hb.mono HB3.out.size)⟩
  have HK := Seal.mk (HK.out.step hb)
  have HL := Seal.mk (HL.out.step hb)
  go_wp2_with (first
    | (refine wpList_store_row rfl 25 (.tmp 7) (.tmp 33) rfl w4.heap.size #[.slice pa4 pn4 pc4, .slice ga4 gn4 gc4] rfl rfl 25 _ Z1.out dev_info rfl (by simp [Value.oneCell']) ?_; obtain ⟨Z, hZ⟩ : ∃ Z, Z = (w4.alloc (.cells #[.slice none 0 0, .slice none 0 0] 25)).setRow w4.heap.size #[.slice pa4 pn4 pc4, .slice ga4 gn4 gc4] := ⟨_, rfl⟩; rw [← hZ]; have Z2' := Z2.out; have Z3' := Z3.out; rw [← hZ] at Z2' Z3'; clear hZ Z1 Z2 Z3; have HB4 : Seal (Below w.heap.size w Z) := ⟨HB40.out.trans (Z3'.mono HB40.out.size)⟩; clear HB40 HB3; have HK := Seal.mk (HK.out.step Z3'); have HL := Seal.mk (HL.out.step Z3'); have K4 : Seal (Kp Z (DevC w4.heap.size pa4 pn4 pc4 ga4 gn4 gc4 M)) := ⟨kp_dev Z2' ((hd.out.1).below Z3') hd.out.2.1 ((hd.out.2.2).below Z3')⟩; clear Z2' Z3' hd hb; (try simp only [Act.put]))
    | (refine wpList_load_mid rfl 25 (.tmp 3) rfl gx 0 rfl [.slice pa pn pc, .slice ga gn gc] _ HK.out.at ud rfl dev_info ?_)
    | (refine wpList_load_mid rfl 25 (.tmp 4) rfl (gx + 1) 0 rfl [.slice qa qn qc, .slice ha hn hc] _ HL.out.at ud rfl dev_info ?_))
  obtain ⟨W4, hW4⟩ : ∃ z, z = Z := ⟨_, rfl⟩
  subst hW4
  obtain ⟨g4, hg4⟩ : ∃ g, g = w4.heap.size := ⟨_, rfl⟩
  rw [← hg4] at K4 ⊢
  clear hg4
  refine (C2.out W4 HB4.out).mono ?_
  clear C2
  rintro e w5 ⟨pa5, pn5, pc5, ga5, gn5, gc5, rfl, hd, hb⟩
  obtain ⟨N1, N2, N3⟩ := one_new w5 #[.slice pa5 pn5 pc5, .slice ga5 gn5 gc5]
  have Z1 : Seal _ := ⟨N1⟩
  have Z2 : Seal _ := ⟨N2⟩
  have Z3 : Seal _ := ⟨N3⟩
  clear N1 N2 N3
  have HB50 : Seal (Below w.heap.size w w5) := ⟨HB4.out.trans (hb.mono HB4.out.size)⟩
  have HK := Seal.mk (HK.out.step hb)
  have HL := Seal.mk (HL.out.step hb)
  have K4 := Seal.mk (K4.out.step hb)
  go_wp2_with (first
    | (refine wpList_store_row rfl 25 (.tmp 9) (.tmp 39) rfl w5.heap.size #[.slice pa5 pn5 pc5, .slice ga5 gn5 gc5] rfl rfl 25 _ Z1.out dev_info rfl (by simp [Value.oneCell']) ?_; obtain ⟨Z, hZ⟩ : ∃ Z, Z = (w5.alloc (.cells #[.slice none 0 0, .slice none 0 0] 25)).setRow w5.heap.size #[.slice pa5 pn5 pc5, .slice ga5 gn5 gc5] := ⟨_, rfl⟩; rw [← hZ]; have Z2' := Z2.out; have Z3' := Z3.out; rw [← hZ] at Z2' Z3'; clear hZ Z1 Z2 Z3; have HB5 : Seal (Below w.heap.size w Z) := ⟨HB50.out.trans (Z3'.mono HB50.out.size)⟩; clear HB50 HB4; have HK := Seal.mk (HK.out.step Z3'); have HL := Seal.mk (HL.out.step Z3'); have K4 := Seal.mk (K4.out.step Z3'); have K5 : Seal (Kp Z (DevC w5.heap.size pa5 pn5 pc5 ga5 gn5 gc5 M)) := ⟨kp_dev Z2' ((hd.out.1).below Z3') hd.out.2.1 ((hd.out.2.2).below Z3')⟩; clear Z2' Z3' hd hb; (try simp only [Act.put]))
    | (refine wpList_load_mid rfl 25 (.tmp 3) rfl gx 0 rfl [.slice pa pn pc, .slice ga gn gc] _ HK.out.at ud rfl dev_info ?_))
  obtain ⟨W5, hW5⟩ : ∃ z, z = Z := ⟨_, rfl⟩
  subst hW5
  obtain ⟨g5, hg5⟩ : ∃ g, g = w5.heap.size := ⟨_, rfl⟩
  rw [← hg5] at K5 ⊢
  clear hg5
  refine (C3.out W5 HB5.out).mono ?_
  clear C3
  rintro e w6 ⟨pa6, pn6, pc6, ga6, gn6, gc6, rfl, hd, hb⟩
  obtain ⟨N1, N2, N3⟩ := one_new w6 #[.slice pa6 pn6 pc6, .slice ga6 gn6 gc6]
  have Z1 : Seal _ := ⟨N1⟩
  have Z2 : Seal _ := ⟨N2⟩
  have Z3 : Seal _ := ⟨N3⟩
  clear N1 N2 N3
  have HB60 : Seal (Below w.heap.size w w6) := ⟨HB5.out.trans (hb.mono HB5.out.size)⟩
  have HK := Seal.mk (HK.out.step hb)
  have HL := Seal.mk (HL.out.step hb)
  have K4 := Seal.mk (K4.out.step hb)
  have K5 := Seal.mk (K5.out.step hb)
  go_wp2_with (first
    | (refine wpList_store_row rfl 25 (.tmp 11) (.tmp 45) rfl w6.heap.size #[.slice pa6 pn6 pc6, .slice ga6 gn6 gc6] rfl rfl 25 _ Z1.out dev_info rfl (by simp [Value.oneCell']) ?_; obtain ⟨Z, hZ⟩ : ∃ Z, Z = (w6.alloc (.cells #[.slice none 0 0, .slice none 0 0] 25)).setRow w6.heap.size #[.slice pa6 pn6 pc6, .slice ga6 gn6 gc6] := ⟨_, rfl⟩; rw [← hZ]; have Z2' := Z2.out; have Z3' := Z3.out; rw [← hZ] at Z2' Z3'; clear hZ Z1 Z2 Z3; have HB6 : Seal (Below w.heap.size w Z) := ⟨HB60.out.trans (Z3'.mono HB60.out.size)⟩; clear HB60 HB5; have HK := Seal.mk (HK.out.step Z3'); have HL := Seal.mk (HL.out.step Z3'); have K4 := Seal.mk (K4.out.step Z3'); have K5 := Seal.mk (K5.out.step Z3'); have K6 : Seal (Kp Z (DevC w6.heap.size pa6 pn6 pc6 ga6 gn6 gc6 Gd)) := ⟨kp_dev Z2' ((hd.out.1).below Z3') hd.out.2.1 ((hd.out.2.2).below Z3')⟩; clear Z2' Z3' hd hb; (try simp only [Act.put]))
    | (refine wpList_load_mid rfl 25 (.tmp 3) rfl gx 0 rfl [.slice pa pn pc, .slice ga gn gc] _ HK.out.at ud rfl dev_info ?_))
  obtain ⟨W6, hW6⟩ : ∃ z, z = Z := ⟨_, rfl⟩
  subst hW6
  obtain ⟨g6, hg6⟩ : ∃ g, g = w6.heap.size := ⟨_, rfl⟩
  rw [← hg6] at K6 ⊢
  clear hg6
  refine (C4.out W6 HB6.out).mono ?_
  clear C4
  rintro e w7 ⟨pa7, pn7, pc7, ga7, gn7, gc7, rfl, hd, hb⟩
  obtain ⟨N1, N2, N3⟩ := one_new w7 #[.slice pa7 pn7 pc7, .slice ga7 gn7 gc7]
  have Z1 : Seal _ := ⟨N1⟩
  have Z2 : Seal _ := ⟨N2⟩
  have Z3 : Seal _ := ⟨N3⟩
  clear N1 N2 N3
  have HB70 : Seal (Below w.heap.size w w7) := ⟨HB6.out.trans (hb.mono HB6.out.size)⟩
  have HK := Seal.mk (HK.out.step hb)
  have HL := Seal.mk (HL.out.step hb)
  have K4 := Seal.mk (K4.out.step hb)
  have K5 := Seal.mk (K5.out.step hb)
  have K6 := Seal.mk (K6.out.step hb)
  go_wp2_with (first
    | (refine wpList_store_row rfl 25 (.tmp 13) (.tmp 51) rfl w7.heap.size #[.slice pa7 pn7 pc7, .slice ga7 gn7 gc7] rfl rfl 25 _ Z1.out dev_info rfl (by simp [Value.oneCell']) ?_; obtain ⟨Z, hZ⟩ : ∃ Z, Z = (w7.alloc (.cells #[.slice none 0 0, .slice none 0 0] 25)).setRow w7.heap.size #[.slice pa7 pn7 pc7, .slice ga7 gn7 gc7] := ⟨_, rfl⟩; rw [← hZ]; have Z2' := Z2.out; have Z3' := Z3.out; rw [← hZ] at Z2' Z3'; clear hZ Z1 Z2 Z3; have HB7 : Seal (Below w.heap.size w Z) := ⟨HB70.out.trans (Z3'.mono HB70.out.size)⟩; clear HB70 HB6; have HK := Seal.mk (HK.out.step Z3'); have HL := Seal.mk (HL.out.step Z3'); have K4 := Seal.mk (K4.out.step Z3'); have K5 := Seal.mk (K5.out.step Z3'); have K6 := Seal.mk (K6.out.step Z3'); have K7 : Seal (Kp Z (DevC w7.heap.size pa7 pn7 pc7 ga7 gn7 gc7 Gd)) := ⟨kp_dev Z2' ((hd.out.1).below Z3') hd.out.2.1 ((hd.out.2.2).below Z3')⟩; clear Z2' Z3' hd hb; (try simp only [Act.put]))
    | (refine wpList_load_mid rfl 25 (.tmp 3) rfl gx 0 rfl [.slice pa pn pc, .slice ga gn gc] _ HK.out.at ud rfl dev_info ?_))
  obtain ⟨W7, hW7⟩ : ∃ z, z = Z := ⟨_, rfl⟩
  subst hW7
  obtain ⟨g7, hg7⟩ : ∃ g, g = w7.heap.size := ⟨_, rfl⟩
  rw [← hg7] at K7 ⊢
  clear hg7
  refine (C5.out W7 HB7.out).mono ?_
  clear C5
  rintro e W8 ⟨oa8, on8, oc8, rfl, hd, hb⟩
  have HB8 : Seal (Below w.heap.size w W8) := ⟨HB7.out.trans (hb.mono HB7.out.size)⟩
  clear HB7
  have HK := Seal.mk (HK.out.step hb)
  have HL := Seal.mk (HL.out.step hb)
  have K4 := Seal.mk (K4.out.step hb)
  have K5 := Seal.mk (K5.out.step hb)
  have K6 := Seal.mk (K6.out.step hb)
  have K7 := Seal.mk (K7.out.step hb)
  have O8 : Seal (Kp W8 (fun W => IsIs W oa8 on8 oc8 L)) := ⟨kp_isC hd.out⟩
  clear hd hb
  go_wp2_with (first
    | (refine wpList_load_mid rfl 25 (.tmp 3) rfl gx 0 rfl [.slice pa pn pc, .slice ga gn gc] _ HK.out.at ud rfl dev_info ?_))
  refine (C6.out W8 HB8.out).mono ?_
  clear C6
  rintro e W9 ⟨oa9, on9, oc9, rfl, hd, hb⟩
  have HB9 : Seal (Below w.heap.size w W9) := ⟨HB8.out.trans (hb.mono HB8.out.size)⟩
  clear HB8
  have HK := Seal.mk (HK.out.step hb)
  have HL := Seal.mk (HL.out.step hb)
  have K4 := Seal.mk (K4.out.step hb)
  have K5 := Seal.mk (K5.out.step hb)
  have K6 := Seal.mk (K6.out.step hb)
  have K7 := Seal.mk (K7.out.step hb)
  have O8 := Seal.mk (O8.out.step hb)
  have O9 : Seal (Kp W9 (fun W => IsIs W oa9 on9 oc9 L)) := ⟨kp_isC hd.out⟩
  clear hd hb
  go_wp2_with (first
    | (refine wpList_load_mid rfl 25 (.tmp 7) rfl g4 0 rfl [.slice pa4 pn4 pc4, .slice ga4 gn4 gc4] _ K4.out.at.1 ud rfl dev_info ?_)
    | (refine wpList_load_mid rfl 25 (.tmp 9) rfl g5 0 rfl [.slice pa5 pn5 pc5, .slice ga5 gn5 gc5] _ K5.out.at.1 ud rfl dev_info ?_))
  refine (rsame44_eq pa4 ga4 pa5 ga5 pn4 pc4 gn4 gc4 pn5 pc5 gn5 gc5 M M W9 K4.out.at.2.1 K4.out.at.2.2.1 K4.out.at.2.2.2 K5.out.at.2.1 K5.out.at.2.2.2 rfl).mono ?_
  rintro e W10 ⟨rfl, hb⟩
  have HB10 : Seal (Below w.heap.size w W10) := ⟨HB9.out.trans (hb.mono HB9.out.size)⟩
  clear HB9
  have HK := Seal.mk (HK.out.step hb)
  have HL := Seal.mk (HL.out.step hb)
  have K4 := Seal.mk (K4.out.step hb)
  have K5 := Seal.mk (K5.out.step hb)
  have K6 := Seal.mk (K6.out.step hb)
  have K7 := Seal.mk (K7.out.step hb)
  have O8 := Seal.mk (O8.out.step hb)
  have O9 := Seal.mk (O9.out.step hb)
  clear hb
  have qm : (me == me) = true := beq_self_eq_true me
  go_wp2_with (first | (refine wpList_load_mid_g (by kernel_rfl) 25 (.tmp 11) rfl g6 0 rfl [.slice pa6 pn6 pc6, .slice ga6 gn6 gc6] _ K6.out.at.1 ud rfl dev_info ?_; (try simp only [Act.put, List.setIfInBounds_toArray, List.set_cons_zero, List.set_cons_succ])) | (refine wpList_load_mid_g (by kernel_rfl) 25 (.tmp 13) rfl g7 0 rfl [.slice pa7 pn7 pc7, .slice ga7 gn7 gc7] _ K7.out.at.1 ud rfl dev_info ?_; (try simp only [Act.put, List.setIfInBounds_toArray, List.set_cons_zero, List.set_cons_succ])))
  refine (rsame44_eq pa6 ga6 pa7 ga7 pn6 pc6 gn6 gc6 pn7 pc7 gn7 gc7 Gd Gd W10 K6.out.at.2.1 K6.out.at.2.2.1 K6.out.at.2.2.2 K7.out.at.2.1 K7.out.at.2.2.2 rfl).mono ?_
  rintro e W11 ⟨rfl, hb⟩
  have HB11 : Seal (Below w.heap.size w W11) := ⟨HB10.out.trans (hb.mono HB10.out.size)⟩
  clear HB10
  have HK := Seal.mk (HK.out.step hb)
  have HL := Seal.mk (HL.out.step hb)
  have K4 := Seal.mk (K4.out.step hb)
  have K5 := Seal.mk (K5.out.step hb)
  have K6 := Seal.mk (K6.out.step hb)
  have K7 := Seal.mk (K7.out.step hb)
  have O8 := Seal.mk (O8.out.step hb)
  have O9 := Seal.mk (O9.out.step hb)
  clear hb
  have qg : (ge == ge) = true := beq_self_eq_true ge
  go_wp2_with fail
  refine (rsameI_eq oa8 oa9 on8 oc8 on9 oc9 L L W11 O8.out.at O9.out.at rfl).mono ?_
  rintro e W12 ⟨rfl, hb⟩
  have HB12 : Seal (Below w.heap.size w W12) := ⟨HB11.out.trans (hb.mono HB11.out.size)⟩
  clear HB11
  have HK := Seal.mk (HK.out.step hb)
  have HL := Seal.mk (HL.out.step hb)
  have K4 := Seal.mk (K4.out.step hb)
  have K5 := Seal.mk (K5.out.step hb)
  have K6 := Seal.mk (K6.out.step hb)
  have K7 := Seal.mk (K7.out.step hb)
  have O8 := Seal.mk (O8.out.step hb)
  have O9 := Seal.mk (O9.out.step hb)
  clear hb
  have qc : (ck == ck) = true := beq_self_eq_true ck
  go_wp2
  go_ret
  exact ⟨rfl, HB12.out⟩
end Frk
