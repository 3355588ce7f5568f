/- Law 44: the examples hold. -/
import Derived.Test.YtnpnboldjbljaaaDoorVfSdp
import Derived.Test.YtnpnboldjbljaaaDoorVfDow
import Derived.Test.YtnpnboldjbljaaaDoorVfRsd
import Derived.Test.YtnpnboldjbljaaaDoorVfKpt
namespace Frk
open Go Go.RowKit Go.Proofs
set_option maxRecDepth 100000

set_option maxHeartbeats 16000000 in
theorem sane44_any (w : World) (hG : Glob w) : Calls Tryd.prog 9 #[] w fun e w' => e = .returned (.bool true) ∧ Below w.heap.size w w' := by
  obtain ⟨A, hA⟩ : ∃ A, A = serB 7 3 := ⟨_, rfl⟩
  obtain ⟨A5, hA5⟩ : ∃ A, A = serB 7 5 := ⟨_, rfl⟩
  have HA := Seal.mk hA
  have HA5 := Seal.mk hA5
  have LA : Seal (A.length = 32) := ⟨by rw [hA]; exact serB_len 7 3⟩
  have LA5 : Seal (A5.length = 32) := ⟨by rw [hA5]; exact serB_len 7 5⟩
  obtain ⟨C3, hC3⟩ : ∃ C, C = Po.C ⟨3, A⟩ := ⟨_, rfl⟩
  obtain ⟨C5, hC5⟩ : ∃ C, C = Po.C ⟨5, A5⟩ := ⟨_, rfl⟩
  have IC3 : Seal ((Tryd.prog.info? 31).map (·.size) = some C3.length ∧ ((List.toArray (.int .i64 0 :: .int .u8 0 :: .int .u8 0 :: .int .u8 0 :: .int .u8 0 :: .int .u8 0 :: .int .u8 0 :: .int .u8 0 :: .int .u8 0 :: .int .u8 0 :: .int .u8 0 :: .int .u8 0 :: .int .u8 0 :: .int .u8 0 :: .int .u8 0 :: .int .u8 0 :: .int .u8 0 :: .int .u8 0 :: .int .u8 0 :: .int .u8 0 :: .int .u8 0 :: .int .u8 0 :: .int .u8 0 :: .int .u8 0 :: .int .u8 0 :: .int .u8 0 :: .int .u8 0 :: .int .u8 0 :: .int .u8 0 :: .int .u8 0 :: .int .u8 0 :: .int .u8 0 :: .int .u8 0 :: [] : List Value) : Array Value) : Array Value).size = C3.toArray.size ∧ C3.toArray.all (·.oneCell') = true) := ⟨by rw [hC3]; exact ⟨Po.C_info LA.out, by rw [posz_len, List.size_toArray, Po.C_len LA.out], all_oneCell_toArray (Po.C_one _)⟩⟩
  have IC5 : Seal ((Tryd.prog.info? 31).map (·.size) = some C5.length ∧ ((List.toArray (.int .i64 0 :: .int .u8 0 :: .int .u8 0 :: .int .u8 0 :: .int .u8 0 :: .int .u8 0 :: .int .u8 0 :: .int .u8 0 :: .int .u8 0 :: .int .u8 0 :: .int .u8 0 :: .int .u8 0 :: .int .u8 0 :: .int .u8 0 :: .int .u8 0 :: .int .u8 0 :: .int .u8 0 :: .int .u8 0 :: .int .u8 0 :: .int .u8 0 :: .int .u8 0 :: .int .u8 0 :: .int .u8 0 :: .int .u8 0 :: .int .u8 0 :: .int .u8 0 :: .int .u8 0 :: .int .u8 0 :: .int .u8 0 :: .int .u8 0 :: .int .u8 0 :: .int .u8 0 :: .int .u8 0 :: [] : List Value) : Array Value) : Array Value).size = C5.toArray.size ∧ C5.toArray.all (·.oneCell') = true) := ⟨by rw [hC5]; exact ⟨Po.C_info LA5.out, by rw [posz_len, List.size_toArray, Po.C_len LA5.out], all_oneCell_toArray (Po.C_one _)⟩⟩
  obtain ⟨CZ, hCZ⟩ : ∃ C, C = Po.C (zPo 0) := ⟨_, rfl⟩
  have ICZ : Seal ((Tryd.prog.info? 31).map (·.size) = some CZ.length ∧ ((List.toArray (.int .i64 0 :: .int .u8 0 :: .int .u8 0 :: .int .u8 0 :: .int .u8 0 :: .int .u8 0 :: .int .u8 0 :: .int .u8 0 :: .int .u8 0 :: .int .u8 0 :: .int .u8 0 :: .int .u8 0 :: .int .u8 0 :: .int .u8 0 :: .int .u8 0 :: .int .u8 0 :: .int .u8 0 :: .int .u8 0 :: .int .u8 0 :: .int .u8 0 :: .int .u8 0 :: .int .u8 0 :: .int .u8 0 :: .int .u8 0 :: .int .u8 0 :: .int .u8 0 :: .int .u8 0 :: .int .u8 0 :: .int .u8 0 :: .int .u8 0 :: .int .u8 0 :: .int .u8 0 :: .int .u8 0 :: [] : List Value) : Array Value) : Array Value).size = CZ.toArray.size ∧ CZ.toArray.all (·.oneCell') = true) := ⟨by rw [hCZ]; exact ⟨Po.C_info rfl, by rw [posz_len, List.size_toArray, Po.C_len rfl], all_oneCell_toArray (Po.C_one _)⟩⟩
  have HC3 := Seal.mk hC3
  have HC5 := Seal.mk hC5
  have HCZ := Seal.mk hCZ
  have HGl : Seal (∀ W, Below w.heap.size w W → Glob W) := ⟨fun W h => hG.below h⟩
  have HB0 : Seal (Below w.heap.size w w) := ⟨Below.refl _ _⟩
  have I7 : Seal (I64 7 ∧ I64 3 ∧ I64 5 ∧ I64 (-1)) := ⟨⟨by decide, by decide⟩, ⟨by decide, by decide⟩, ⟨by decide, by decide⟩, ⟨by decide, by decide⟩⟩
  have ud := Tryd.underlying25
  have ut := Tryd.underlying31
  clear hG hA hA5 hC3 hC5 hCZ
  go_enter Tryd.func9, Tryd.ntmps9
  go_wp2_with fail
  have HC : Seal (Calls Tryd.prog 11 #[.agg #[.slice none 0 0, .slice none 0 0], .int .i64 7, .int .i64 3] w (PostC (dvA A) C3 0 w)) := ⟨by
    have h := dpost_any none none 0 0 0 0 Dv.z 7 3 w (HGl.out _ HB0.out) I7.out.1 I7.out.2.1 (isC_z _ _ _) (by simp [Dv.z]) (isC_z _ _ _)
    rw [ex_p1d] at h
    rw [ex_p1p] at h
    rw [ex_p1] at h
    rw [← HA.out] at h
    exact post_c h HC3.out⟩
  refine HC.out.mono ?_
  rintro e w1 ⟨pa1, pn1, pc1, ga1, gn1, gc1, rfl, hd, hb⟩
  clear HC
  obtain ⟨N1, N2, N3, N4, N5⟩ := two_new w1 #[.slice pa1 pn1 pc1, .slice ga1 gn1 gc1] C3
  have Z1 : Seal _ := ⟨N1⟩
  have Z2 : Seal _ := ⟨N2⟩
  have Z3 : Seal _ := ⟨N3⟩
  have Z4 : Seal _ := ⟨N4⟩
  have Z5 : Seal _ := ⟨N5⟩
  clear N1 N2 N3 N4 N5
  have HB10 : Seal (Below w.heap.size w w1) := ⟨HB0.out.trans (hb.mono HB0.out.size)⟩
  go_wp2_with (first
    | (refine wpList_store_row rfl 25 (.tmp 1) (.tmp 34) rfl w1.heap.size #[.slice pa1 pn1 pc1, .slice ga1 gn1 gc1] rfl rfl 25 _ Z1.out dev_info rfl (by simp [Value.oneCell']) ?_)
    | (refine wpList_store_row rfl 31 (.tmp 2) (.tmp 35) rfl (w1.heap.size + 1) C3.toArray rfl rfl 31 (List.toArray (.int .i64 0 :: .int .u8 0 :: .int .u8 0 :: .int .u8 0 :: .int .u8 0 :: .int .u8 0 :: .int .u8 0 :: .int .u8 0 :: .int .u8 0 :: .int .u8 0 :: .int .u8 0 :: .int .u8 0 :: .int .u8 0 :: .int .u8 0 :: .int .u8 0 :: .int .u8 0 :: .int .u8 0 :: .int .u8 0 :: .int .u8 0 :: .int .u8 0 :: .int .u8 0 :: .int .u8 0 :: .int .u8 0 :: .int .u8 0 :: .int .u8 0 :: .int .u8 0 :: .int .u8 0 :: .int .u8 0 :: .int .u8 0 :: .int .u8 0 :: .int .u8 0 :: .int .u8 0 :: .int .u8 0 :: [] : List Value) : Array Value) Z2.out (by simpa using IC3.out.1) IC3.out.2.1 IC3.out.2.2 ?_; obtain ⟨Z, hZ⟩ : ∃ Z, Z = (((w1.alloc (.cells #[.slice none 0 0, .slice none 0 0] 25)).alloc (.cells (List.toArray (.int .i64 0 :: .int .u8 0 :: .int .u8 0 :: .int .u8 0 :: .int .u8 0 :: .int .u8 0 :: .int .u8 0 :: .int .u8 0 :: .int .u8 0 :: .int .u8 0 :: .int .u8 0 :: .int .u8 0 :: .int .u8 0 :: .int .u8 0 :: .int .u8 0 :: .int .u8 0 :: .int .u8 0 :: .int .u8 0 :: .int .u8 0 :: .int .u8 0 :: .int .u8 0 :: .int .u8 0 :: .int .u8 0 :: .int .u8 0 :: .int .u8 0 :: .int .u8 0 :: .int .u8 0 :: .int .u8 0 :: .int .u8 0 :: .int .u8 0 :: .int .u8 0 :: .int .u8 0 :: .int .u8 0 :: [] : List Value) : Array Value) 31)).setRow w1.heap.size #[.slice pa1 pn1 pc1, .slice ga1 gn1 gc1]).setRow (w1.heap.size + 1) C3.toArray := ⟨_, rfl⟩; rw [← hZ]; have Z3' := Z3.out; have Z4' := Z4.out; have Z5' := Z5.out; rw [← hZ] at Z3' Z4' Z5'; clear hZ Z1 Z2 Z3 Z4 Z5; have HB1 : Seal (Below w.heap.size w Z) := ⟨HB10.out.trans (Z5'.mono HB10.out.size)⟩; clear HB10; have KA : Seal (Kp Z (DevC w1.heap.size pa1 pn1 pc1 ga1 gn1 gc1 (dvA A))) := ⟨kp_dev Z3' ((hd.out.1).below Z5') hd.out.2.1 ((hd.out.2.2).below Z5')⟩; have KP : Seal (Kp Z (PosC (w1.heap.size + 1) C3)) := ⟨kp_pos Z4'⟩; clear Z3' Z4' Z5' hd hb; (try simp only [Act.put])))
  obtain ⟨W1, hW1⟩ : ∃ z, z = Z := ⟨_, rfl⟩
  subst hW1
  obtain ⟨g1, hg1⟩ : ∃ g, g = w1.heap.size := ⟨_, rfl⟩
  rw [← hg1] at KA KP ⊢
  clear hg1
  have HC : Seal (Calls Tryd.prog 11 #[.agg #[.slice none 0 0, .slice none 0 0], .int .i64 7, .int .i64 3] W1 (PostC (dvA A) C3 0 W1)) := ⟨by
    have h := dpost_any none none 0 0 0 0 Dv.z 7 3 W1 (HGl.out _ HB1.out) I7.out.1 I7.out.2.1 (isC_z _ _ _) (by simp [Dv.z]) (isC_z _ _ _)
    rw [ex_p1d] at h
    rw [ex_p1p] at h
    rw [ex_p1] at h
    rw [← HA.out] at h
    exact post_c h HC3.out⟩
  refine HC.out.mono ?_
  rintro e w2 ⟨pa2, pn2, pc2, ga2, gn2, gc2, rfl, hd, hb⟩
  clear HC
  obtain ⟨N1, N2, N3, N4, N5⟩ := two_new w2 #[.slice pa2 pn2 pc2, .slice ga2 gn2 gc2] C3
  have Z1 : Seal _ := ⟨N1⟩
  have Z2 : Seal _ := ⟨N2⟩
  have Z3 : Seal _ := ⟨N3⟩
  have Z4 : Seal _ := ⟨N4⟩
  have Z5 : Seal _ := ⟨N5⟩
  clear N1 N2 N3 N4 N5
  have HB20 : Seal (Below w.heap.size w w2) := ⟨HB1.out.trans (hb.mono HB1.out.size)⟩
  have KA := Seal.mk (KA.out.step hb)
  have KP := Seal.mk (KP.out.step hb)
  go_wp2_with (first
    | (refine wpList_store_row rfl 25 (.tmp 4) (.tmp 40) rfl w2.heap.size #[.slice pa2 pn2 pc2, .slice ga2 gn2 gc2] rfl rfl 25 _ Z1.out dev_info rfl (by simp [Value.oneCell']) ?_)
    | (refine wpList_store_row rfl 31 (.tmp 5) (.tmp 41) rfl (w2.heap.size + 1) C3.toArray rfl rfl 31 (List.toArray (.int .i64 0 :: .int .u8 0 :: .int .u8 0 :: .int .u8 0 :: .int .u8 0 :: .int .u8 0 :: .int .u8 0 :: .int .u8 0 :: .int .u8 0 :: .int .u8 0 :: .int .u8 0 :: .int .u8 0 :: .int .u8 0 :: .int .u8 0 :: .int .u8 0 :: .int .u8 0 :: .int .u8 0 :: .int .u8 0 :: .int .u8 0 :: .int .u8 0 :: .int .u8 0 :: .int .u8 0 :: .int .u8 0 :: .int .u8 0 :: .int .u8 0 :: .int .u8 0 :: .int .u8 0 :: .int .u8 0 :: .int .u8 0 :: .int .u8 0 :: .int .u8 0 :: .int .u8 0 :: .int .u8 0 :: [] : List Value) : Array Value) Z2.out (by simpa using IC3.out.1) IC3.out.2.1 IC3.out.2.2 ?_; obtain ⟨Z, hZ⟩ : ∃ Z, Z = (((w2.alloc (.cells #[.slice none 0 0, .slice none 0 0] 25)).alloc (.cells (List.toArray (.int .i64 0 :: .int .u8 0 :: .int .u8 0 :: .int .u8 0 :: .int .u8 0 :: .int .u8 0 :: .int .u8 0 :: .int .u8 0 :: .int .u8 0 :: .int .u8 0 :: .int .u8 0 :: .int .u8 0 :: .int .u8 0 :: .int .u8 0 :: .int .u8 0 :: .int .u8 0 :: .int .u8 0 :: .int .u8 0 :: .int .u8 0 :: .int .u8 0 :: .int .u8 0 :: .int .u8 0 :: .int .u8 0 :: .int .u8 0 :: .int .u8 0 :: .int .u8 0 :: .int .u8 0 :: .int .u8 0 :: .int .u8 0 :: .int .u8 0 :: .int .u8 0 :: .int .u8 0 :: .int .u8 0 :: [] : List Value) : Array Value) 31)).setRow w2.heap.size #[.slice pa2 pn2 pc2, .slice ga2 gn2 gc2]).setRow (w2.heap.size + 1) C3.toArray := ⟨_, rfl⟩; rw [← hZ]; have Z3' := Z3.out; have Z4' := Z4.out; have Z5' := Z5.out; rw [← hZ] at Z3' Z4' Z5'; clear hZ Z1 Z2 Z3 Z4 Z5; have HB2 : Seal (Below w.heap.size w Z) := ⟨HB20.out.trans (Z5'.mono HB20.out.size)⟩; clear HB20; clear HB1; have KA := Seal.mk (KA.out.step Z5'); have KP := Seal.mk (KP.out.step Z5'); have KA2 : Seal (Kp Z (DevC w2.heap.size pa2 pn2 pc2 ga2 gn2 gc2 (dvA A))) := ⟨kp_dev Z3' ((hd.out.1).below Z5') hd.out.2.1 ((hd.out.2.2).below Z5')⟩; have KP2 : Seal (Kp Z (PosC (w2.heap.size + 1) C3)) := ⟨kp_pos Z4'⟩; clear Z3' Z4' Z5' hd hb; (try simp only [Act.put]))
    | (refine wpList_load_mid rfl 25 (.tmp 1) rfl g1 0 rfl [.slice pa1 pn1 pc1, .slice ga1 gn1 gc1] _ KA.out.at.1 ud rfl dev_info ?_))
  obtain ⟨W2, hW2⟩ : ∃ z, z = Z := ⟨_, rfl⟩
  subst hW2
  obtain ⟨g2, hg2⟩ : ∃ g, g = w2.heap.size := ⟨_, rfl⟩
  rw [← hg2] at KA2 KP2 ⊢
  clear hg2
  have HC : Seal (Calls Tryd.prog 11 #[.agg #[.slice pa1 pn1 pc1, .slice ga1 gn1 gc1], .int .i64 7, .int .i64 5] W2 (PostC (dvC A A5) C5 0 W2)) := ⟨by
    have h := dpost_any pa1 ga1 pn1 pc1 gn1 gc1 (dvA A) 7 5 W2 (HGl.out _ HB2.out) I7.out.1 I7.out.2.2.1 KA.out.at.2.1 KA.out.at.2.2.1 KA.out.at.2.2.2
    rw [ex_p3d] at h
    rw [ex_p3p] at h
    rw [ex_p3] at h
    rw [← HA5.out] at h
    exact post_c h HC5.out⟩
  refine HC.out.mono ?_
  rintro e w3 ⟨pa3, pn3, pc3, ga3, gn3, gc3, rfl, hd, hb⟩
  clear HC
  obtain ⟨N1, N2, N3, N4, N5⟩ := two_new w3 #[.slice pa3 pn3 pc3, .slice ga3 gn3 gc3] C5
  have Z1 : Seal _ := ⟨N1⟩
  have Z2 : Seal _ := ⟨N2⟩
  have Z3 : Seal _ := ⟨N3⟩
  have Z4 : Seal _ := ⟨N4⟩
  have Z5 : Seal _ := ⟨N5⟩
  clear N1 N2 N3 N4 N5
  have HB30 : Seal (Below w.heap.size w w3) := ⟨HB2.out.trans (hb.mono HB2.out.size)⟩
  have KA := Seal.mk (KA.out.step hb)
  have KP := Seal.mk (KP.out.step hb)
  have KA2 := Seal.mk (KA2.out.step hb)
  have KP2 := Seal.mk (KP2.out.step hb)
  go_wp2_with (first
    | (refine wpList_store_row rfl 25 (.tmp 7) (.tmp 46) rfl w3.heap.size #[.slice pa3 pn3 pc3, .slice ga3 gn3 gc3] rfl rfl 25 _ Z1.out dev_info rfl (by simp [Value.oneCell']) ?_)
    | (refine wpList_store_row rfl 31 (.tmp 8) (.tmp 47) rfl (w3.heap.size + 1) C5.toArray rfl rfl 31 (List.toArray (.int .i64 0 :: .int .u8 0 :: .int .u8 0 :: .int .u8 0 :: .int .u8 0 :: .int .u8 0 :: .int .u8 0 :: .int .u8 0 :: .int .u8 0 :: .int .u8 0 :: .int .u8 0 :: .int .u8 0 :: .int .u8 0 :: .int .u8 0 :: .int .u8 0 :: .int .u8 0 :: .int .u8 0 :: .int .u8 0 :: .int .u8 0 :: .int .u8 0 :: .int .u8 0 :: .int .u8 0 :: .int .u8 0 :: .int .u8 0 :: .int .u8 0 :: .int .u8 0 :: .int .u8 0 :: .int .u8 0 :: .int .u8 0 :: .int .u8 0 :: .int .u8 0 :: .int .u8 0 :: .int .u8 0 :: [] : List Value) : Array Value) Z2.out (by simpa using IC5.out.1) IC5.out.2.1 IC5.out.2.2 ?_; obtain ⟨Z, hZ⟩ : ∃ Z, Z = (((w3.alloc (.cells #[.slice none 0 0, .slice none 0 0] 25)).alloc (.cells (List.toArray (.int .i64 0 :: .int .u8 0 :: .int .u8 0 :: .int .u8 0 :: .int .u8 0 :: .int .u8 0 :: .int .u8 0 :: .int .u8 0 :: .int .u8 0 :: .int .u8 0 :: .int .u8 0 :: .int .u8 0 :: .int .u8 0 :: .int .u8 0 :: .int .u8 0 :: .int .u8 0 :: .int .u8 0 :: .int .u8 0 :: .int .u8 0 :: .int .u8 0 :: .int .u8 0 :: .int .u8 0 :: .int .u8 0 :: .int .u8 0 :: .int .u8 0 :: .int .u8 0 :: .int .u8 0 :: .int .u8 0 :: .int .u8 0 :: .int .u8 0 :: .int .u8 0 :: .int .u8 0 :: .int .u8 0 :: [] : List Value) : Array Value) 31)).setRow w3.heap.size #[.slice pa3 pn3 pc3, .slice ga3 gn3 gc3]).setRow (w3.heap.size + 1) C5.toArray := ⟨_, rfl⟩; rw [← hZ]; have Z3' := Z3.out; have Z4' := Z4.out; have Z5' := Z5.out; rw [← hZ] at Z3' Z4' Z5'; clear hZ Z1 Z2 Z3 Z4 Z5; have HB3 : Seal (Below w.heap.size w Z) := ⟨HB30.out.trans (Z5'.mono HB30.out.size)⟩; clear HB30; clear HB2; have KA := Seal.mk (KA.out.step Z5'); have KP := Seal.mk (KP.out.step Z5'); have KA2 := Seal.mk (KA2.out.step Z5'); have KP2 := Seal.mk (KP2.out.step Z5'); have KC : Seal (Kp Z (DevC w3.heap.size pa3 pn3 pc3 ga3 gn3 gc3 (dvC A A5))) := ⟨kp_dev Z3' ((hd.out.1).below Z5') hd.out.2.1 ((hd.out.2.2).below Z5')⟩; clear Z3' Z4' Z5' hd hb; (try simp only [Act.put]))
    | (refine wpList_load_mid rfl 25 (.tmp 7) rfl w3.heap.size 0 rfl [.slice pa3 pn3 pc3, .slice ga3 gn3 gc3] _ KC.out.at.1 ud rfl dev_info ?_))
  obtain ⟨W3, hW3⟩ : ∃ z, z = Z := ⟨_, rfl⟩
  subst hW3
  obtain ⟨g3, hg3⟩ : ∃ g, g = w3.heap.size := ⟨_, rfl⟩
  rw [← hg3] at KC ⊢
  clear hg3
  have HC : Seal (Calls Tryd.prog 11 #[.agg #[.slice pa3 pn3 pc3, .slice ga3 gn3 gc3], .int .i64 7, .int .i64 5] W3 (PostC Dv.z CZ 181 W3)) := ⟨by
    have h := dpost_any pa3 ga3 pn3 pc3 gn3 gc3 (dvC A A5) 7 5 W3 (HGl.out _ HB3.out) I7.out.1 I7.out.2.2.1 KC.out.at.2.1 KC.out.at.2.2.1 KC.out.at.2.2.2
    rw [ex_p4d] at h
    rw [ex_p4p] at h
    rw [ex_p4] at h
    exact post_c h HCZ.out⟩
  refine HC.out.mono ?_
  rintro e w4 ⟨pa4, pn4, pc4, ga4, gn4, gc4, rfl, hd, hb⟩
  clear HC
  obtain ⟨N1, N2, N3, N4, N5⟩ := two_new w4 #[.slice pa4 pn4 pc4, .slice ga4 gn4 gc4] CZ
  have Z1 : Seal _ := ⟨N1⟩
  have Z2 : Seal _ := ⟨N2⟩
  have Z3 : Seal _ := ⟨N3⟩
  have Z4 : Seal _ := ⟨N4⟩
  have Z5 : Seal _ := ⟨N5⟩
  clear N1 N2 N3 N4 N5
  have HB40 : Seal (Below w.heap.size w w4) := ⟨HB3.out.trans (hb.mono HB3.out.size)⟩
  have KA := Seal.mk (KA.out.step hb)
  have KP := Seal.mk (KP.out.step hb)
  have KA2 := Seal.mk (KA2.out.step hb)
  have KP2 := Seal.mk (KP2.out.step hb)
  have KC := Seal.mk (KC.out.step hb)
  go_wp2_with (first
    | (refine wpList_store_row rfl 25 (.tmp 10) (.tmp 52) rfl w4.heap.size #[.slice pa4 pn4 pc4, .slice ga4 gn4 gc4] rfl rfl 25 _ Z1.out dev_info rfl (by simp [Value.oneCell']) ?_)
    | (refine wpList_store_row rfl 31 (.tmp 11) (.tmp 53) rfl (w4.heap.size + 1) CZ.toArray rfl rfl 31 (List.toArray (.int .i64 0 :: .int .u8 0 :: .int .u8 0 :: .int .u8 0 :: .int .u8 0 :: .int .u8 0 :: .int .u8 0 :: .int .u8 0 :: .int .u8 0 :: .int .u8 0 :: .int .u8 0 :: .int .u8 0 :: .int .u8 0 :: .int .u8 0 :: .int .u8 0 :: .int .u8 0 :: .int .u8 0 :: .int .u8 0 :: .int .u8 0 :: .int .u8 0 :: .int .u8 0 :: .int .u8 0 :: .int .u8 0 :: .int .u8 0 :: .int .u8 0 :: .int .u8 0 :: .int .u8 0 :: .int .u8 0 :: .int .u8 0 :: .int .u8 0 :: .int .u8 0 :: .int .u8 0 :: .int .u8 0 :: [] : List Value) : Array Value) Z2.out (by simpa using ICZ.out.1) ICZ.out.2.1 ICZ.out.2.2 ?_; obtain ⟨Z, hZ⟩ : ∃ Z, Z = (((w4.alloc (.cells #[.slice none 0 0, .slice none 0 0] 25)).alloc (.cells (List.toArray (.int .i64 0 :: .int .u8 0 :: .int .u8 0 :: .int .u8 0 :: .int .u8 0 :: .int .u8 0 :: .int .u8 0 :: .int .u8 0 :: .int .u8 0 :: .int .u8 0 :: .int .u8 0 :: .int .u8 0 :: .int .u8 0 :: .int .u8 0 :: .int .u8 0 :: .int .u8 0 :: .int .u8 0 :: .int .u8 0 :: .int .u8 0 :: .int .u8 0 :: .int .u8 0 :: .int .u8 0 :: .int .u8 0 :: .int .u8 0 :: .int .u8 0 :: .int .u8 0 :: .int .u8 0 :: .int .u8 0 :: .int .u8 0 :: .int .u8 0 :: .int .u8 0 :: .int .u8 0 :: .int .u8 0 :: [] : List Value) : Array Value) 31)).setRow w4.heap.size #[.slice pa4 pn4 pc4, .slice ga4 gn4 gc4]).setRow (w4.heap.size + 1) CZ.toArray := ⟨_, rfl⟩; rw [← hZ]; have Z3' := Z3.out; have Z4' := Z4.out; have Z5' := Z5.out; rw [← hZ] at Z3' Z4' Z5'; clear hZ Z1 Z2 Z3 Z4 Z5; have HB4 : Seal (Below w.heap.size w Z) := ⟨HB40.out.trans (Z5'.mono HB40.out.size)⟩; clear HB40; clear HB3; have KA := Seal.mk (KA.out.step Z5'); have KP := Seal.mk (KP.out.step Z5'); have KA2 := Seal.mk (KA2.out.step Z5'); have KP2 := Seal.mk (KP2.out.step Z5'); have KC := Seal.mk (KC.out.step Z5'); clear Z3' Z4' Z5' hd hb; (try simp only [Act.put]))
    | (refine wpList_load_mid rfl 25 (.tmp 7) rfl g3 0 rfl [.slice pa3 pn3 pc3, .slice ga3 gn3 gc3] _ KC.out.at.1 ud rfl dev_info ?_))
  obtain ⟨W4, hW4⟩ : ∃ z, z = Z := ⟨_, rfl⟩
  subst hW4
  obtain ⟨g4, hg4⟩ : ∃ g, g = w4.heap.size := ⟨_, rfl⟩
  rw [← hg4]
  clear hg4
  have HC : Seal (Calls Tryd.prog 20 #[.agg #[.slice pa3 pn3 pc3, .slice ga3 gn3 gc3], .int .i64 5] W4 (DevsC (dvG A A5) 0 W4)) := ⟨by
    have h := dgot_any pa3 ga3 pn3 pc3 gn3 gc3 (dvC A A5) 5 W4 KC.out.at.2.1 KC.out.at.2.2.1 KC.out.at.2.2.2 (by have := KC.out.at.2.2.2.llen; rw [← this]; exact (by decide : 0 ≤ 4000))
    rw [ex_g5d] at h
    rw [ex_g5] at h
    exact dev_c h⟩
  refine HC.out.mono ?_
  rintro e w5 ⟨pa5, pn5, pc5, ga5, gn5, gc5, rfl, hd, hb⟩
  clear HC
  obtain ⟨N1, N2, N3⟩ := one_new w5 #[.slice pa5 pn5 pc5, .slice ga5 gn5 gc5]
  have Z1 : Seal _ := ⟨N1⟩
  have Z2 : Seal _ := ⟨N2⟩
  have Z3 : Seal _ := ⟨N3⟩
  clear N1 N2 N3
  have HB50 : Seal (Below w.heap.size w w5) := ⟨HB4.out.trans (hb.mono HB4.out.size)⟩
  have KA := Seal.mk (KA.out.step hb)
  have KP := Seal.mk (KP.out.step hb)
  have KA2 := Seal.mk (KA2.out.step hb)
  have KP2 := Seal.mk (KP2.out.step hb)
  have KC := Seal.mk (KC.out.step hb)
  go_wp2_with (first
    | (refine wpList_store_row rfl 25 (.tmp 13) (.tmp 58) rfl w5.heap.size #[.slice pa5 pn5 pc5, .slice ga5 gn5 gc5] rfl rfl 25 _ Z1.out dev_info rfl (by simp [Value.oneCell']) ?_; obtain ⟨Z, hZ⟩ : ∃ Z, Z = (w5.alloc (.cells #[.slice none 0 0, .slice none 0 0] 25)).setRow w5.heap.size #[.slice pa5 pn5 pc5, .slice ga5 gn5 gc5] := ⟨_, rfl⟩; rw [← hZ]; have Z2' := Z2.out; have Z3' := Z3.out; rw [← hZ] at Z2' Z3'; clear hZ Z1 Z2 Z3; have HB5 : Seal (Below w.heap.size w Z) := ⟨HB50.out.trans (Z3'.mono HB50.out.size)⟩; clear HB50 HB4; have KA := Seal.mk (KA.out.step Z3'); have KP := Seal.mk (KP.out.step Z3'); have KA2 := Seal.mk (KA2.out.step Z3'); have KP2 := Seal.mk (KP2.out.step Z3'); have KC := Seal.mk (KC.out.step Z3'); have KG : Seal (Kp Z (DevC w5.heap.size pa5 pn5 pc5 ga5 gn5 gc5 (dvG A A5))) := ⟨kp_dev Z2' ((hd.out.1).below Z3') hd.out.2.1 ((hd.out.2.2).below Z3')⟩; clear Z2' Z3' hd hb; (try simp only [Act.put]))
    | (refine wpList_load_mid rfl 25 (.tmp 13) rfl w5.heap.size 0 rfl [.slice pa5 pn5 pc5, .slice ga5 gn5 gc5] _ KG.out.at.1 ud rfl dev_info ?_))
  obtain ⟨W5, hW5⟩ : ∃ z, z = Z := ⟨_, rfl⟩
  subst hW5
  obtain ⟨g5, hg5⟩ : ∃ g, g = w5.heap.size := ⟨_, rfl⟩
  rw [← hg5] at KG ⊢
  clear hg5
  have HC : Seal (Calls Tryd.prog 22 #[.agg #[.slice pa5 pn5 pc5, .slice ga5 gn5 gc5]] W5 (OwedC [3] 0 W5)) := ⟨by
    have h := owed_c (dowed_any pa5 ga5 pn5 pc5 gn5 gc5 (dvG A A5) W5 KG.out.at.2.1 KG.out.at.2.2.1 KG.out.at.2.2.2) (show 2 ≤ 5000 by decide)
    rw [ex_chkG] at h
    rw [if_pos rfl] at h
    rw [ex_o] at h
    exact h⟩
  refine HC.out.mono ?_
  rintro e W6 ⟨oa6, on6, oc6, rfl, hd, hb⟩
  clear HC
  have HB6 : Seal (Below w.heap.size w W6) := ⟨HB5.out.trans (hb.mono HB5.out.size)⟩
  clear HB5
  have KA := Seal.mk (KA.out.step hb)
  have KP := Seal.mk (KP.out.step hb)
  have KA2 := Seal.mk (KA2.out.step hb)
  have KP2 := Seal.mk (KP2.out.step hb)
  have KC := Seal.mk (KC.out.step hb)
  have KG := Seal.mk (KG.out.step hb)
  have KO : Seal (Kp W6 (fun W => IsIs W oa6 on6 oc6 [3])) := ⟨kp_isC hd.out⟩
  clear hd hb
  go_wp2_with (first
    | (refine wpList_load_mid rfl 31 (.tmp 2) rfl (g1 + 1) 0 rfl C3 _ KP.out.at ut rfl IC3.out.1 ?_))
  have HC : Seal (Calls Tryd.prog 25 #[.slice none 0 0, .agg C3.toArray] W6 (TakePost [A] true W6)) := ⟨by
    have h := dtake_any none 0 0 [] [A] true ⟨3, A⟩ W6 (disD_nil _) LA.out ⟨ex_t1 A⟩
    rw [← HC3.out] at h
    exact h⟩
  refine HC.out.mono ?_
  rintro e W7 ⟨ta7, tn7, tc7, rfl, hd, hb⟩
  clear HC
  have HB7 : Seal (Below w.heap.size w W7) := ⟨HB6.out.trans (hb.mono HB6.out.size)⟩
  clear HB6
  have KA := Seal.mk (KA.out.step hb)
  have KP := Seal.mk (KP.out.step hb)
  have KA2 := Seal.mk (KA2.out.step hb)
  have KP2 := Seal.mk (KP2.out.step hb)
  have KC := Seal.mk (KC.out.step hb)
  have KG := Seal.mk (KG.out.step hb)
  have KO := Seal.mk (KO.out.step hb)
  have KT : Seal (Kp W7 (fun W => IsD W ta7 tn7 tc7 [A])) := ⟨kp_isD hd.out⟩
  clear hd hb
  go_wp2_with (first
    | (refine wpList_load_mid rfl 31 (.tmp 5) rfl (g2 + 1) 0 rfl C3 _ KP2.out.at ut rfl IC3.out.1 ?_))
  have HC : Seal (Calls Tryd.prog 25 #[.slice ta7 tn7 tc7, .agg C3.toArray] W7 (TakePost [A] false W7)) := ⟨by
    have h := dtake_any ta7 tn7 tc7 [A] [A] false ⟨3, A⟩ W7 KT.out.at LA.out ⟨ex_t2 A⟩
    rw [← HC3.out] at h
    exact h⟩
  refine HC.out.mono ?_
  rintro e W8 ⟨ta8, tn8, tc8, rfl, hd, hb⟩
  clear HC
  have HB8 : Seal (Below w.heap.size w W8) := ⟨HB7.out.trans (hb.mono HB7.out.size)⟩
  clear HB7
  have KA := Seal.mk (KA.out.step hb)
  have KP := Seal.mk (KP.out.step hb)
  have KA2 := Seal.mk (KA2.out.step hb)
  have KP2 := Seal.mk (KP2.out.step hb)
  have KC := Seal.mk (KC.out.step hb)
  have KG := Seal.mk (KG.out.step hb)
  have KO := Seal.mk (KO.out.step hb)
  have KT := Seal.mk (KT.out.step hb)
  have KT2 : Seal (Kp W8 (fun W => IsD W ta8 tn8 tc8 [A])) := ⟨kp_isD hd.out⟩
  clear hd hb
  go_wp2_with fail
  have HC : Seal (Calls Tryd.prog 11 #[.agg #[.slice none 0 0, .slice none 0 0], .int .i64 7, .int .i64 (-1)] W8 (PostC Dv.z CZ 1 W8)) := ⟨by
    have h := dpost_any none none 0 0 0 0 Dv.z 7 (-1) W8 (HGl.out _ HB8.out) I7.out.1 I7.out.2.2.2 (isC_z _ _ _) (by simp [Dv.z]) (isC_z _ _ _)
    rw [ex_p9d] at h
    rw [ex_p9p] at h
    rw [ex_p9] at h
    exact post_c h HCZ.out⟩
  refine HC.out.mono ?_
  rintro e w9 ⟨pa9, pn9, pc9, ga9, gn9, gc9, rfl, hd, hb⟩
  clear HC
  obtain ⟨N1, N2, N3, N4, N5⟩ := two_new w9 #[.slice pa9 pn9 pc9, .slice ga9 gn9 gc9] CZ
  have Z1 : Seal _ := ⟨N1⟩
  have Z2 : Seal _ := ⟨N2⟩
  have Z3 : Seal _ := ⟨N3⟩
  have Z4 : Seal _ := ⟨N4⟩
  have Z5 : Seal _ := ⟨N5⟩
  clear N1 N2 N3 N4 N5
  have HB90 : Seal (Below w.heap.size w w9) := ⟨HB8.out.trans (hb.mono HB8.out.size)⟩
  have KA := Seal.mk (KA.out.step hb)
  have KP := Seal.mk (KP.out.step hb)
  have KA2 := Seal.mk (KA2.out.step hb)
  have KP2 := Seal.mk (KP2.out.step hb)
  have KC := Seal.mk (KC.out.step hb)
  have KG := Seal.mk (KG.out.step hb)
  have KO := Seal.mk (KO.out.step hb)
  have KT := Seal.mk (KT.out.step hb)
  have KT2 := Seal.mk (KT2.out.step hb)
  go_wp2_with (first
    | (refine wpList_store_row rfl 25 (.tmp 21) (.tmp 79) rfl w9.heap.size #[.slice pa9 pn9 pc9, .slice ga9 gn9 gc9] rfl rfl 25 _ Z1.out dev_info rfl (by simp [Value.oneCell']) ?_)
    | (refine wpList_store_row rfl 31 (.tmp 22) (.tmp 80) rfl (w9.heap.size + 1) CZ.toArray rfl rfl 31 (List.toArray (.int .i64 0 :: .int .u8 0 :: .int .u8 0 :: .int .u8 0 :: .int .u8 0 :: .int .u8 0 :: .int .u8 0 :: .int .u8 0 :: .int .u8 0 :: .int .u8 0 :: .int .u8 0 :: .int .u8 0 :: .int .u8 0 :: .int .u8 0 :: .int .u8 0 :: .int .u8 0 :: .int .u8 0 :: .int .u8 0 :: .int .u8 0 :: .int .u8 0 :: .int .u8 0 :: .int .u8 0 :: .int .u8 0 :: .int .u8 0 :: .int .u8 0 :: .int .u8 0 :: .int .u8 0 :: .int .u8 0 :: .int .u8 0 :: .int .u8 0 :: .int .u8 0 :: .int .u8 0 :: .int .u8 0 :: [] : List Value) : Array Value) Z2.out (by simpa using ICZ.out.1) ICZ.out.2.1 ICZ.out.2.2 ?_; obtain ⟨Z, hZ⟩ : ∃ Z, Z = (((w9.alloc (.cells #[.slice none 0 0, .slice none 0 0] 25)).alloc (.cells (List.toArray (.int .i64 0 :: .int .u8 0 :: .int .u8 0 :: .int .u8 0 :: .int .u8 0 :: .int .u8 0 :: .int .u8 0 :: .int .u8 0 :: .int .u8 0 :: .int .u8 0 :: .int .u8 0 :: .int .u8 0 :: .int .u8 0 :: .int .u8 0 :: .int .u8 0 :: .int .u8 0 :: .int .u8 0 :: .int .u8 0 :: .int .u8 0 :: .int .u8 0 :: .int .u8 0 :: .int .u8 0 :: .int .u8 0 :: .int .u8 0 :: .int .u8 0 :: .int .u8 0 :: .int .u8 0 :: .int .u8 0 :: .int .u8 0 :: .int .u8 0 :: .int .u8 0 :: .int .u8 0 :: .int .u8 0 :: [] : List Value) : Array Value) 31)).setRow w9.heap.size #[.slice pa9 pn9 pc9, .slice ga9 gn9 gc9]).setRow (w9.heap.size + 1) CZ.toArray := ⟨_, rfl⟩; rw [← hZ]; have Z3' := Z3.out; have Z4' := Z4.out; have Z5' := Z5.out; rw [← hZ] at Z3' Z4' Z5'; clear hZ Z1 Z2 Z3 Z4 Z5; have HB9 : Seal (Below w.heap.size w Z) := ⟨HB90.out.trans (Z5'.mono HB90.out.size)⟩; clear HB90; clear HB8; have KA := Seal.mk (KA.out.step Z5'); have KP := Seal.mk (KP.out.step Z5'); have KA2 := Seal.mk (KA2.out.step Z5'); have KP2 := Seal.mk (KP2.out.step Z5'); have KC := Seal.mk (KC.out.step Z5'); have KG := Seal.mk (KG.out.step Z5'); have KO := Seal.mk (KO.out.step Z5'); have KT := Seal.mk (KT.out.step Z5'); have KT2 := Seal.mk (KT2.out.step Z5'); clear Z3' Z4' Z5' hd hb; (try simp only [Act.put])))
  obtain ⟨W9, hW9⟩ : ∃ z, z = Z := ⟨_, rfl⟩
  subst hW9
  obtain ⟨g9, hg9⟩ : ∃ g, g = w9.heap.size := ⟨_, rfl⟩
  rw [← hg9]
  clear hg9
  have HC : Seal (Calls Tryd.prog 20 #[.agg #[.slice none 0 0, .slice none 0 0], .int .i64 0] W9 (DevsC Dv.z 1 W9)) := ⟨by
    have h := dgot_any none none 0 0 0 0 Dv.z 0 W9 (isC_z _ _ _) (by simp [Dv.z]) (isC_z _ _ _) (by decide)
    rw [ex_g0d] at h
    rw [ex_g0] at h
    exact dev_c h⟩
  refine HC.out.mono ?_
  rintro e w10 ⟨pa10, pn10, pc10, ga10, gn10, gc10, rfl, hd, hb⟩
  clear HC
  obtain ⟨N1, N2, N3⟩ := one_new w10 #[.slice pa10 pn10 pc10, .slice ga10 gn10 gc10]
  have Z1 : Seal _ := ⟨N1⟩
  have Z2 : Seal _ := ⟨N2⟩
  have Z3 : Seal _ := ⟨N3⟩
  clear N1 N2 N3
  have HB100 : Seal (Below w.heap.size w w10) := ⟨HB9.out.trans (hb.mono HB9.out.size)⟩
  have KA := Seal.mk (KA.out.step hb)
  have KP := Seal.mk (KP.out.step hb)
  have KA2 := Seal.mk (KA2.out.step hb)
  have KP2 := Seal.mk (KP2.out.step hb)
  have KC := Seal.mk (KC.out.step hb)
  have KG := Seal.mk (KG.out.step hb)
  have KO := Seal.mk (KO.out.step hb)
  have KT := Seal.mk (KT.out.step hb)
  have KT2 := Seal.mk (KT2.out.step hb)
  go_wp2_with (first
    | (refine wpList_store_row rfl 25 (.tmp 24) (.tmp 85) rfl w10.heap.size #[.slice pa10 pn10 pc10, .slice ga10 gn10 gc10] rfl rfl 25 _ Z1.out dev_info rfl (by simp [Value.oneCell']) ?_; obtain ⟨Z, hZ⟩ : ∃ Z, Z = (w10.alloc (.cells #[.slice none 0 0, .slice none 0 0] 25)).setRow w10.heap.size #[.slice pa10 pn10 pc10, .slice ga10 gn10 gc10] := ⟨_, rfl⟩; rw [← hZ]; have Z2' := Z2.out; have Z3' := Z3.out; rw [← hZ] at Z2' Z3'; clear hZ Z1 Z2 Z3; have HB10 : Seal (Below w.heap.size w Z) := ⟨HB100.out.trans (Z3'.mono HB100.out.size)⟩; clear HB100 HB9; have KA := Seal.mk (KA.out.step Z3'); have KP := Seal.mk (KP.out.step Z3'); have KA2 := Seal.mk (KA2.out.step Z3'); have KP2 := Seal.mk (KP2.out.step Z3'); have KC := Seal.mk (KC.out.step Z3'); have KG := Seal.mk (KG.out.step Z3'); have KO := Seal.mk (KO.out.step Z3'); have KT := Seal.mk (KT.out.step Z3'); have KT2 := Seal.mk (KT2.out.step Z3'); clear Z2' Z3' hd hb; (try simp only [Act.put])))
  obtain ⟨W10, hW10⟩ : ∃ z, z = Z := ⟨_, rfl⟩
  subst hW10
  obtain ⟨g10, hg10⟩ : ∃ g, g = w10.heap.size := ⟨_, rfl⟩
  rw [← hg10]
  clear hg10
  have HC : Seal (Calls Tryd.prog 22 #[.agg #[.slice none 0 0, .slice none 0 0]] W10 (OwedC [] 0 W10)) := ⟨by
    have h := owed_c (dowed_any none none 0 0 0 0 Dv.z W10 (isC_z _ _ _) (by simp [Dv.z]) (isC_z _ _ _)) (by decide)
    rw [ex_chkz] at h
    rw [if_pos rfl] at h
    rw [ex_oz] at h
    exact h⟩
  refine HC.out.mono ?_
  rintro e W11 ⟨oa11, on11, oc11, rfl, hd, hb⟩
  clear HC
  have HB11 : Seal (Below w.heap.size w W11) := ⟨HB10.out.trans (hb.mono HB10.out.size)⟩
  clear HB10
  have KA := Seal.mk (KA.out.step hb)
  have KP := Seal.mk (KP.out.step hb)
  have KA2 := Seal.mk (KA2.out.step hb)
  have KP2 := Seal.mk (KP2.out.step hb)
  have KC := Seal.mk (KC.out.step hb)
  have KG := Seal.mk (KG.out.step hb)
  have KO := Seal.mk (KO.out.step hb)
  have KT := Seal.mk (KT.out.step hb)
  have KT2 := Seal.mk (KT2.out.step hb)
  have KOZ : Seal (Kp W11 (fun W => IsIs W oa11 on11 oc11 [])) := ⟨kp_isC hd.out⟩
  clear hd hb
  go_wp2_with (first
    | (refine wpList_load_mid rfl 25 (.tmp 13) rfl g5 0 rfl [.slice pa5 pn5 pc5, .slice ga5 gn5 gc5] _ KG.out.at.1 ud rfl dev_info ?_)
    | (refine wpList_load_mid rfl 25 (.tmp 4) rfl g2 0 rfl [.slice pa2 pn2 pc2, .slice ga2 gn2 gc2] _ KA2.out.at.1 ud rfl dev_info ?_))
  have HC : Seal (Calls Tryd.prog 18 #[.agg #[.slice pa5 pn5 pc5, .slice ga5 gn5 gc5], .agg #[.slice pa2 pn2 pc2, .slice ga2 gn2 gc2]] W11 (DevsC (dvG A A5) 0 W11)) := ⟨by
    have h := dmerge_any pa5 ga5 pn5 pc5 gn5 gc5 (dvG A A5) pa2 ga2 pn2 pc2 gn2 gc2 (dvA A) W11 KG.out.at.2.1 KG.out.at.2.2.1 KG.out.at.2.2.2 KA2.out.at.2.1 KA2.out.at.2.2.1 KA2.out.at.2.2.2
    rw [ex_md] at h
    rw [ex_m] at h
    exact dev_c h⟩
  refine HC.out.mono ?_
  rintro e w12 ⟨pa12, pn12, pc12, ga12, gn12, gc12, rfl, hd, hb⟩
  clear HC
  obtain ⟨N1, N2, N3⟩ := one_new w12 #[.slice pa12 pn12 pc12, .slice ga12 gn12 gc12]
  have Z1 : Seal _ := ⟨N1⟩
  have Z2 : Seal _ := ⟨N2⟩
  have Z3 : Seal _ := ⟨N3⟩
  clear N1 N2 N3
  have HB120 : Seal (Below w.heap.size w w12) := ⟨HB11.out.trans (hb.mono HB11.out.size)⟩
  have KA := Seal.mk (KA.out.step hb)
  have KP := Seal.mk (KP.out.step hb)
  have KA2 := Seal.mk (KA2.out.step hb)
  have KP2 := Seal.mk (KP2.out.step hb)
  have KC := Seal.mk (KC.out.step hb)
  have KG := Seal.mk (KG.out.step hb)
  have KO := Seal.mk (KO.out.step hb)
  have KT := Seal.mk (KT.out.step hb)
  have KT2 := Seal.mk (KT2.out.step hb)
  have KOZ := Seal.mk (KOZ.out.step hb)
  go_wp2_with (first
    | (refine wpList_store_row rfl 25 (.tmp 28) (.tmp 96) rfl w12.heap.size #[.slice pa12 pn12 pc12, .slice ga12 gn12 gc12] rfl rfl 25 _ Z1.out dev_info rfl (by simp [Value.oneCell']) ?_; obtain ⟨Z, hZ⟩ : ∃ Z, Z = (w12.alloc (.cells #[.slice none 0 0, .slice none 0 0] 25)).setRow w12.heap.size #[.slice pa12 pn12 pc12, .slice ga12 gn12 gc12] := ⟨_, rfl⟩; rw [← hZ]; have Z2' := Z2.out; have Z3' := Z3.out; rw [← hZ] at Z2' Z3'; clear hZ Z1 Z2 Z3; have HB12 : Seal (Below w.heap.size w Z) := ⟨HB120.out.trans (Z3'.mono HB120.out.size)⟩; clear HB120 HB11; have KA := Seal.mk (KA.out.step Z3'); have KP := Seal.mk (KP.out.step Z3'); have KA2 := Seal.mk (KA2.out.step Z3'); have KP2 := Seal.mk (KP2.out.step Z3'); have KC := Seal.mk (KC.out.step Z3'); have KG := Seal.mk (KG.out.step Z3'); have KO := Seal.mk (KO.out.step Z3'); have KT := Seal.mk (KT.out.step Z3'); have KT2 := Seal.mk (KT2.out.step Z3'); have KOZ := Seal.mk (KOZ.out.step Z3'); have KM : Seal (Kp Z (DevC w12.heap.size pa12 pn12 pc12 ga12 gn12 gc12 (dvG A A5))) := ⟨kp_dev Z2' ((hd.out.1).below Z3') hd.out.2.1 ((hd.out.2.2).below Z3')⟩; clear Z2' Z3' hd hb; (try simp only [Act.put])))
  obtain ⟨W12, hW12⟩ : ∃ z, z = Z := ⟨_, rfl⟩
  subst hW12
  obtain ⟨g12, hg12⟩ : ∃ g, g = w12.heap.size := ⟨_, rfl⟩
  rw [← hg12] at KM ⊢
  clear hg12
  have QE : ∀ w, (Op.equalIn 10000 31 (.agg C3.toArray) (.agg C3.toArray)).run Tryd.prog w = .ok true w := fun w => by
    rw [HC3.out, eqPo ⟨3, A⟩ ⟨3, A⟩ LA.out LA.out, (poB_iff _ _).2 rfl]
  have QD : ∀ w, (Op.equalIn 10000 29 (.agg (A.map B).toArray) (.agg (A.map B).toArray)).run Tryd.prog w = .ok true w := fun w => by
    rw [show (10000 : Nat) = 9998 + 1 + 1 from rfl, eqDig_s 9998 A A LA.out LA.out, beq_self_eq_true]
  have CC : Seal (∀ W, Below W12.heap.size W12 W → W.cell? ⟨g1 + 1, 0, none⟩ = some (.int .i64 3) ∧ W.rangeAt (g1 + 1) 1 (A.map B)) := ⟨fun W h => by
    have h1 := KP.out W h
    rw [HC3.out] at h1
    refine ⟨by have := h1 0 (.int .i64 3) rfl; simpa using this, ?_⟩
    have h2 := rangeAt_drop h1 1
    simpa [Po.C] using h2⟩
  have HN : Seal (tn7 = 1 ∧ on11 = 0) := ⟨KT.out.at.llen.symm, KOZ.out.at.llen.symm⟩
  have i1 := dg_info A LA.out
  have uD := Tryd.underlying29
  refine wp_region_held_drew (S := fun w' => Below W12.heap.size W12 w') (by kernel_rfl) (bel_drew _) (fun hHeld => ?_)
  obtain ⟨V, hV⟩ : ∃ V, V = W12.drew := ⟨_, rfl⟩
  rw [← hV] at hHeld ⊢
  clear hV
  refine take_h 0 ?_ rfl (by kernel_rfl) (by kernel_rfl) (by kernel_rfl) (fun _ _ _ h => h) (Or.inl ⟨by kernel_rfl, ?_⟩) (by assumption) ?_
  rotate_left
  · (intro w hSw; (try dsimp only at hSw); go_simp; try (with_reducible rfl))
  try simp only [Act.put, List.setIfInBounds_toArray, List.set_cons_zero, List.set_cons_succ]
  refine take_h 1 ?_ rfl (by kernel_rfl) (by kernel_rfl) (by kernel_rfl) (fun _ _ _ h => h) (Or.inl ⟨by kernel_rfl, ?_⟩) (by assumption) ?_
  rotate_left
  · (intro w hSw; (try dsimp only at hSw); go_simp; try (with_reducible rfl))
  try simp only [Act.put, List.setIfInBounds_toArray, List.set_cons_zero, List.set_cons_succ]
  refine take_h 2 _ rfl (by kernel_rfl) (by kernel_rfl) (by kernel_rfl) (fun _ _ _ h => h) (yieldsIf_load_mid (by kernel_rfl) 25 (.tmp 1) rfl g1 0 rfl [.slice pa1 pn1 pc1, .slice ga1 gn1 gc1] _ (fun w hSw => (KA.out _ hSw).1) ud rfl dev_info) (by assumption) ?_
  try simp only [Act.put, List.setIfInBounds_toArray, List.set_cons_zero, List.set_cons_succ]
  refine take_h 3 _ rfl (by kernel_rfl) (by kernel_rfl) (by kernel_rfl) (fun _ _ _ h => h) (yieldsIf_load_mid (by kernel_rfl) 25 (.tmp 4) rfl g2 0 rfl [.slice pa2 pn2 pc2, .slice ga2 gn2 gc2] _ (fun w hSw => (KA2.out _ hSw).1) ud rfl dev_info) (by assumption) ?_
  try simp only [Act.put, List.setIfInBounds_toArray, List.set_cons_zero, List.set_cons_succ]
  refine call_h 4 rfl (by kernel_rfl) 15 #[.agg #[.slice pa1 pn1 pc1, .slice ga1 gn1 gc1], .agg #[.slice pa2 pn2 pc2, .slice ga2 gn2 gc2]] (by kernel_rfl) (by go_simp) ?_
  refine (rsame44_eq pa1 ga1 pa2 ga2 pn1 pc1 gn1 gc1 pn2 pc2 gn2 gc2 (dvA A) (dvA A) V (KA.out V hHeld).2.1 (KA.out V hHeld).2.2.1 (KA.out V hHeld).2.2.2 (KA2.out V hHeld).2.1 (KA2.out V hHeld).2.2.2 rfl).mono ?_
  rintro e V1 ⟨rfl, hb⟩
  refine ⟨_, rfl, hHeld.trans (hb.mono hHeld.size), fun hHeld1 => ?_⟩
  clear hHeld hb
  try simp only [Act.put, List.setIfInBounds_toArray, List.set_cons_zero, List.set_cons_succ]
  refine take_h 5 ?_ rfl (by kernel_rfl) (by kernel_rfl) (by kernel_rfl) (fun _ _ _ h => h) (Or.inl ⟨by kernel_rfl, ?_⟩) (by assumption) ?_
  rotate_left
  · (intro w hSw; (try dsimp only at hSw); go_simp; try (with_reducible rfl))
  try simp only [Act.put, List.setIfInBounds_toArray, List.set_cons_zero, List.set_cons_succ]
  refine take_h 6 ?_ rfl (by kernel_rfl) (by kernel_rfl) (by kernel_rfl) (fun _ _ _ h => h) (Or.inl ⟨by kernel_rfl, ?_⟩) (by assumption) ?_
  rotate_left
  · (intro w hSw; (try dsimp only at hSw); go_simp; try (with_reducible rfl))
  try simp only [Act.put, List.setIfInBounds_toArray, List.set_cons_zero, List.set_cons_succ]
  refine take_h 7 _ rfl (by kernel_rfl) (by kernel_rfl) (by kernel_rfl) (fun _ _ _ h => h) (yieldsIf_load_mid (by kernel_rfl) 31 (.tmp 2) rfl (g1 + 1) 0 rfl C3 _ (fun w hSw => (KP.out _ hSw)) ut rfl IC3.out.1) (by assumption) ?_
  try simp only [Act.put, List.setIfInBounds_toArray, List.set_cons_zero, List.set_cons_succ]
  refine take_h 8 _ rfl (by kernel_rfl) (by kernel_rfl) (by kernel_rfl) (fun _ _ _ h => h) (yieldsIf_load_mid (by kernel_rfl) 31 (.tmp 5) rfl (g2 + 1) 0 rfl C3 _ (fun w hSw => (KP2.out _ hSw)) ut rfl IC3.out.1) (by assumption) ?_
  try simp only [Act.put, List.setIfInBounds_toArray, List.set_cons_zero, List.set_cons_succ]
  refine take_h 9 ?_ rfl (by kernel_rfl) (by kernel_rfl) (by kernel_rfl) (fun _ _ _ h => h) (Or.inl ⟨by kernel_rfl, ?_⟩) (by assumption) ?_
  rotate_left
  · (intro w hSw; (try dsimp only at hSw); go_simp; try (with_reducible rfl))
  try simp only [Act.put, List.setIfInBounds_toArray, List.set_cons_zero, List.set_cons_succ]
  refine take_h 10 ?_ rfl (by kernel_rfl) (by kernel_rfl) (by kernel_rfl) (fun _ _ _ h => h) (Or.inl ⟨by kernel_rfl, ?_⟩) (by assumption) ?_
  rotate_left
  · (intro w hSw; (try dsimp only at hSw); go_simp; try (with_reducible rfl))
  try simp only [Act.put, List.setIfInBounds_toArray, List.set_cons_zero, List.set_cons_succ]
  refine take_h 11 ?_ rfl (by kernel_rfl) (by kernel_rfl) (by kernel_rfl) (fun _ _ _ h => h) (Or.inl ⟨by kernel_rfl, ?_⟩) (by assumption) ?_
  rotate_left
  · (intro w hSw; (try dsimp only at hSw); go_simp; try (with_reducible rfl))
  try simp only [Act.put, List.setIfInBounds_toArray, List.set_cons_zero, List.set_cons_succ]
  refine take_h 12 ?_ rfl (by kernel_rfl) (by kernel_rfl) (by kernel_rfl) (fun _ _ _ h => h) (Or.inl ⟨by kernel_rfl, ?_⟩) (by assumption) ?_
  rotate_left
  · (intro w hSw; (try dsimp only at hSw); go_simp; try (with_reducible rfl))
  try simp only [Act.put, List.setIfInBounds_toArray, List.set_cons_zero, List.set_cons_succ]
  refine take_h 13 ?_ rfl (by kernel_rfl) (by kernel_rfl) (by kernel_rfl) (fun _ _ _ h => h) (Or.inl ⟨by kernel_rfl, ?_⟩) (by assumption) ?_
  rotate_left
  · (intro w hSw; have c := (CC.out _ hSw).1; go_simp; try (with_reducible rfl))
  try simp only [Act.put, List.setIfInBounds_toArray, List.set_cons_zero, List.set_cons_succ]
  refine take_h 14 ?_ rfl (by kernel_rfl) (by kernel_rfl) (by kernel_rfl) (fun _ _ _ h => h) (Or.inl ⟨by kernel_rfl, ?_⟩) (by assumption) ?_
  rotate_left
  · (intro w hSw; (try dsimp only at hSw); go_simp; try (with_reducible rfl))
  try simp only [Act.put, List.setIfInBounds_toArray, List.set_cons_zero, List.set_cons_succ]
  refine take_h 15 ?_ rfl (by kernel_rfl) (by kernel_rfl) (by kernel_rfl) (fun _ _ _ h => h) (Or.inl ⟨by kernel_rfl, ?_⟩) (by assumption) ?_
  rotate_left
  · (intro w hSw; (try dsimp only at hSw); go_simp; try (with_reducible rfl))
  try simp only [Act.put, List.setIfInBounds_toArray, List.set_cons_zero, List.set_cons_succ]
  refine take_h 16 ?_ rfl (by kernel_rfl) (by kernel_rfl) (by kernel_rfl) (fun _ _ _ h => h) (Or.inl ⟨by kernel_rfl, ?_⟩) (by assumption) ?_
  rotate_left
  · (intro w hSw; (try dsimp only at hSw); go_simp; try (with_reducible rfl))
  try simp only [Act.put, List.setIfInBounds_toArray, List.set_cons_zero, List.set_cons_succ]
  refine take_h 17 ?_ rfl (by kernel_rfl) (by kernel_rfl) (by kernel_rfl) (fun _ _ _ h => h) (Or.inl ⟨by kernel_rfl, ?_⟩) (by assumption) ?_
  rotate_left
  · (intro w hSw; (try dsimp only at hSw); go_simp; try (with_reducible rfl))
  try simp only [Act.put, List.setIfInBounds_toArray, List.set_cons_zero, List.set_cons_succ]
  refine take_h 18 _ rfl (by kernel_rfl) (by kernel_rfl) (by kernel_rfl) (fun _ _ _ h => h) (yieldsIf_load_mid (by kernel_rfl) 29 (.tmp 153) rfl (g1 + 1) 1 rfl (A.map B) _ (fun w hSw => (CC.out _ hSw).2) uD rfl i1) (by assumption) ?_
  try simp only [Act.put, List.setIfInBounds_toArray, List.set_cons_zero, List.set_cons_succ]
  refine call_h 19 rfl (by kernel_rfl) 16 #[.int .i64 7, .int .i64 3] (by kernel_rfl) (by go_simp) ?_
  have HBv : Seal (Below w.heap.size w V1) := ⟨HB12.out.trans (hHeld1.mono HB12.out.size)⟩
  have HS := dserial_any 7 3 V1 (HGl.out _ HBv.out) I7.out.1 I7.out.2.1
  rw [← HA.out] at HS
  refine HS.mono ?_
  clear HS HBv
  rintro e V2 ⟨rfl, hb⟩
  refine ⟨_, rfl, hHeld1.trans (hb.mono hHeld1.size), fun hHeld2 => ?_⟩
  clear hHeld1 hb
  try simp only [Act.put, List.setIfInBounds_toArray, List.set_cons_zero, List.set_cons_succ]
  refine take_h 20 ?_ rfl (by kernel_rfl) (by kernel_rfl) (by kernel_rfl) (fun _ _ _ h => h) (Or.inl ⟨by kernel_rfl, ?_⟩) (by assumption) ?_
  rotate_left
  · (intro w hSw; (try dsimp only at hSw); go_simp; try (with_reducible rfl))
  try simp only [Act.put, List.setIfInBounds_toArray, List.set_cons_zero, List.set_cons_succ]
  refine take_h 21 ?_ rfl (by kernel_rfl) (by kernel_rfl) (by kernel_rfl) (fun _ _ _ h => h) (Or.inl ⟨by kernel_rfl, ?_⟩) (by assumption) ?_
  rotate_left
  · (intro w hSw; (try dsimp only at hSw); go_simp; try (with_reducible rfl))
  try simp only [Act.put, List.setIfInBounds_toArray, List.set_cons_zero, List.set_cons_succ]
  refine take_h 22 ?_ rfl (by kernel_rfl) (by kernel_rfl) (by kernel_rfl) (fun _ _ _ h => h) (Or.inl ⟨by kernel_rfl, ?_⟩) (by assumption) ?_
  rotate_left
  · (intro w hSw; (try dsimp only at hSw); go_simp; try (with_reducible rfl))
  try simp only [Act.put, List.setIfInBounds_toArray, List.set_cons_zero, List.set_cons_succ]
  refine take_h 23 ?_ rfl (by kernel_rfl) (by kernel_rfl) (by kernel_rfl) (fun _ _ _ h => h) (Or.inl ⟨by kernel_rfl, ?_⟩) (by assumption) ?_
  rotate_left
  · (intro w hSw; (try dsimp only at hSw); go_simp; try (with_reducible rfl))
  try simp only [Act.put, List.setIfInBounds_toArray, List.set_cons_zero, List.set_cons_succ]
  refine take_h 24 ?_ rfl (by kernel_rfl) (by kernel_rfl) (by kernel_rfl) (fun _ _ _ h => h) (Or.inl ⟨by kernel_rfl, ?_⟩) (by assumption) ?_
  rotate_left
  · (intro w hSw; (try dsimp only at hSw); go_simp; try (with_reducible rfl))
  try simp only [Act.put, List.setIfInBounds_toArray, List.set_cons_zero, List.set_cons_succ]
  refine take_h 25 ?_ rfl (by kernel_rfl) (by kernel_rfl) (by kernel_rfl) (fun _ _ _ h => h) (Or.inl ⟨by kernel_rfl, ?_⟩) (by assumption) ?_
  rotate_left
  · (intro w hSw; (try dsimp only at hSw); go_simp; try (with_reducible rfl))
  try simp only [Act.put, List.setIfInBounds_toArray, List.set_cons_zero, List.set_cons_succ]
  refine take_h 26 ?_ rfl (by kernel_rfl) (by kernel_rfl) (by kernel_rfl) (fun _ _ _ h => h) (Or.inl ⟨by kernel_rfl, ?_⟩) (by assumption) ?_
  rotate_left
  · (intro w hSw; (try dsimp only at hSw); go_simp; try (with_reducible rfl))
  try simp only [Act.put, List.setIfInBounds_toArray, List.set_cons_zero, List.set_cons_succ]
  refine take_h 27 ?_ rfl (by kernel_rfl) (by kernel_rfl) (by kernel_rfl) (fun _ _ _ h => h) (Or.inl ⟨by kernel_rfl, ?_⟩) (by assumption) ?_
  rotate_left
  · (intro w hSw; (try dsimp only at hSw); go_simp; try (with_reducible rfl))
  try simp only [Act.put, List.setIfInBounds_toArray, List.set_cons_zero, List.set_cons_succ]
  refine take_h 28 ?_ rfl (by kernel_rfl) (by kernel_rfl) (by kernel_rfl) (fun _ _ _ h => h) (Or.inl ⟨by kernel_rfl, ?_⟩) (by assumption) ?_
  rotate_left
  · (intro w hSw; (try dsimp only at hSw); go_simp; try (with_reducible rfl))
  try simp only [Act.put, List.setIfInBounds_toArray, List.set_cons_zero, List.set_cons_succ]
  refine take_h 29 ?_ rfl (by kernel_rfl) (by kernel_rfl) (by kernel_rfl) (fun _ _ _ h => h) (Or.inl ⟨by kernel_rfl, ?_⟩) (by assumption) ?_
  rotate_left
  · (intro w hSw; (try dsimp only at hSw); go_simp; try (with_reducible rfl))
  try simp only [Act.put, List.setIfInBounds_toArray, List.set_cons_zero, List.set_cons_succ]
  refine take_h 30 ?_ rfl (by kernel_rfl) (by kernel_rfl) (by kernel_rfl) (fun _ _ _ h => h) (Or.inl ⟨by kernel_rfl, ?_⟩) (by assumption) ?_
  rotate_left
  · (intro w hSw; (try dsimp only at hSw); go_simp; try (with_reducible rfl))
  try simp only [Act.put, List.setIfInBounds_toArray, List.set_cons_zero, List.set_cons_succ]
  refine take_h 31 ?_ rfl (by kernel_rfl) (by kernel_rfl) (by kernel_rfl) (fun _ _ _ h => h) (Or.inl ⟨by kernel_rfl, ?_⟩) (by assumption) ?_
  rotate_left
  · (intro w hSw; (try dsimp only at hSw); go_simp; try (with_reducible rfl))
  try simp only [Act.put, List.setIfInBounds_toArray, List.set_cons_zero, List.set_cons_succ]
  have hn7 : ((tn7 : Int) == 1) = true := by rw [HN.out.1]; rfl
  refine take_h 32 ?_ rfl (by kernel_rfl) (by kernel_rfl) (by kernel_rfl) (fun _ _ _ h => h) (Or.inl ⟨by kernel_rfl, ?_⟩) (by assumption) ?_
  rotate_left
  · (intro w hSw; (try dsimp only at hSw); go_simp; try (with_reducible rfl))
  try simp only [Act.put, List.setIfInBounds_toArray, List.set_cons_zero, List.set_cons_succ]
  refine take_h 33 ?_ rfl (by kernel_rfl) (by kernel_rfl) (by kernel_rfl) (fun _ _ _ h => h) (Or.inl ⟨by kernel_rfl, ?_⟩) (by assumption) ?_
  rotate_left
  · (intro w hSw; (try dsimp only at hSw); go_simp; try (with_reducible rfl))
  try simp only [Act.put, List.setIfInBounds_toArray, List.set_cons_zero, List.set_cons_succ]
  refine take_h 34 ?_ rfl (by kernel_rfl) (by kernel_rfl) (by kernel_rfl) (fun _ _ _ h => h) (Or.inl ⟨by kernel_rfl, ?_⟩) (by assumption) ?_
  rotate_left
  · (intro w hSw; (try dsimp only at hSw); go_simp; try (with_reducible rfl))
  try simp only [Act.put, List.setIfInBounds_toArray, List.set_cons_zero, List.set_cons_succ]
  refine take_h 35 ?_ rfl (by kernel_rfl) (by kernel_rfl) (by kernel_rfl) (fun _ _ _ h => h) (Or.inl ⟨by kernel_rfl, ?_⟩) (by assumption) ?_
  rotate_left
  · (intro w hSw; (try dsimp only at hSw); go_simp; try (with_reducible rfl))
  try simp only [Act.put, List.setIfInBounds_toArray, List.set_cons_zero, List.set_cons_succ]
  refine take_h 36 ?_ rfl (by kernel_rfl) (by kernel_rfl) (by kernel_rfl) (fun _ _ _ h => h) (Or.inl ⟨by kernel_rfl, ?_⟩) (by assumption) ?_
  rotate_left
  · (intro w hSw; (try dsimp only at hSw); go_simp; try (with_reducible rfl))
  try simp only [Act.put, List.setIfInBounds_toArray, List.set_cons_zero, List.set_cons_succ]
  refine call_h 37 rfl (by kernel_rfl) 27 #[.slice ta8 tn8 tc8, .slice ta7 tn7 tc7] (by kernel_rfl) (by go_simp) ?_
  have HS := rsame_any ta8 ta7 tn8 tc8 tn7 tc7 [A] [A] V2 (KT2.out V2 hHeld2) (KT.out V2 hHeld2)
  rw [beq_self_eq_true] at HS
  refine HS.mono ?_
  clear HS
  rintro e V3 ⟨rfl, hb⟩
  refine ⟨_, rfl, hHeld2.trans (hb.mono hHeld2.size), fun hHeld3 => ?_⟩
  clear hHeld2 hb
  try simp only [Act.put, List.setIfInBounds_toArray, List.set_cons_zero, List.set_cons_succ]
  refine take_h 38 ?_ rfl (by kernel_rfl) (by kernel_rfl) (by kernel_rfl) (fun _ _ _ h => h) (Or.inl ⟨by kernel_rfl, ?_⟩) (by assumption) ?_
  rotate_left
  · (intro w hSw; (try dsimp only at hSw); go_simp; try (with_reducible rfl))
  try simp only [Act.put, List.setIfInBounds_toArray, List.set_cons_zero, List.set_cons_succ]
  refine take_h 39 ?_ rfl (by kernel_rfl) (by kernel_rfl) (by kernel_rfl) (fun _ _ _ h => h) (Or.inl ⟨by kernel_rfl, ?_⟩) (by assumption) ?_
  rotate_left
  · (intro w hSw; (try dsimp only at hSw); go_simp; try (with_reducible rfl))
  try simp only [Act.put, List.setIfInBounds_toArray, List.set_cons_zero, List.set_cons_succ]
  refine take_h 40 ?_ rfl (by kernel_rfl) (by kernel_rfl) (by kernel_rfl) (fun _ _ _ h => h) (Or.inl ⟨by kernel_rfl, ?_⟩) (by assumption) ?_
  rotate_left
  · (intro w hSw; (try dsimp only at hSw); go_simp; try (with_reducible rfl))
  try simp only [Act.put, List.setIfInBounds_toArray, List.set_cons_zero, List.set_cons_succ]
  refine oper_h 41 (.slice (some ⟨V3.heap.size, 0, none⟩) 1 1) (V3.alloc (.cells #[.int .i64 3] 3)) rfl (by kernel_rfl) (by kernel_rfl) (by go_simp) (hHeld3.alloc hHeld3.size _) (fun hHeld4 => ?_)
  try simp only [Act.put, List.setIfInBounds_toArray, List.set_cons_zero, List.set_cons_succ]
  have HI3 : Seal (IsIs (V3.alloc (.cells #[.int .i64 3] 3)) (some ⟨V3.heap.size, 0, none⟩) 1 1 [3]) := ⟨rfl, Nat.le_refl _, by decide, by decide, (fun _ _ => rfl), .inr ⟨V3.heap.size, 0, rfl, rangeAt_row (cs := [.int .i64 3]) (heap_alloc_new V3 _), by simp⟩⟩
  obtain ⟨V4, hV4⟩ : ∃ V4, V4 = V3.alloc (.cells #[.int .i64 3] 3) := ⟨_, rfl⟩
  rw [← hV4] at hHeld4 HI3 ⊢
  clear hV4 hHeld3
  refine call_h 42 rfl (by kernel_rfl) 24 #[.slice oa6 on6 oc6, .slice (some ⟨V3.heap.size, 0, none⟩) 1 1] (by kernel_rfl) (by go_simp) ?_
  refine (rsameI_eq oa6 _ on6 oc6 1 1 [3] [3] V4 (KO.out V4 hHeld4) HI3.out rfl).mono ?_
  clear HI3
  rintro e V5 ⟨rfl, hb⟩
  refine ⟨_, rfl, hHeld4.trans (hb.mono hHeld4.size), fun hHeld5 => ?_⟩
  clear hHeld4 hb
  try simp only [Act.put, List.setIfInBounds_toArray, List.set_cons_zero, List.set_cons_succ]
  refine take_h 43 ?_ rfl (by kernel_rfl) (by kernel_rfl) (by kernel_rfl) (fun _ _ _ h => h) (Or.inl ⟨by kernel_rfl, ?_⟩) (by assumption) ?_
  rotate_left
  · (intro w hSw; (try dsimp only at hSw); go_simp; try (with_reducible rfl))
  try simp only [Act.put, List.setIfInBounds_toArray, List.set_cons_zero, List.set_cons_succ]
  refine take_h 44 ?_ rfl (by kernel_rfl) (by kernel_rfl) (by kernel_rfl) (fun _ _ _ h => h) (Or.inl ⟨by kernel_rfl, ?_⟩) (by assumption) ?_
  rotate_left
  · (intro w hSw; (try dsimp only at hSw); go_simp; try (with_reducible rfl))
  try simp only [Act.put, List.setIfInBounds_toArray, List.set_cons_zero, List.set_cons_succ]
  refine take_h 45 ?_ rfl (by kernel_rfl) (by kernel_rfl) (by kernel_rfl) (fun _ _ _ h => h) (Or.inl ⟨by kernel_rfl, ?_⟩) (by assumption) ?_
  rotate_left
  · (intro w hSw; (try dsimp only at hSw); go_simp; try (with_reducible rfl))
  try simp only [Act.put, List.setIfInBounds_toArray, List.set_cons_zero, List.set_cons_succ]
  refine take_h 46 ?_ rfl (by kernel_rfl) (by kernel_rfl) (by kernel_rfl) (fun _ _ _ h => h) (Or.inl ⟨by kernel_rfl, ?_⟩) (by assumption) ?_
  rotate_left
  · (intro w hSw; (try dsimp only at hSw); go_simp; try (with_reducible rfl))
  try simp only [Act.put, List.setIfInBounds_toArray, List.set_cons_zero, List.set_cons_succ]
  have ho11 : ((on11 : Int) == 0) = true := by rw [HN.out.2]; rfl
  refine take_h 47 ?_ rfl (by kernel_rfl) (by kernel_rfl) (by kernel_rfl) (fun _ _ _ h => h) (Or.inl ⟨by kernel_rfl, ?_⟩) (by assumption) ?_
  rotate_left
  · (intro w hSw; (try dsimp only at hSw); go_simp; try (with_reducible rfl))
  try simp only [Act.put, List.setIfInBounds_toArray, List.set_cons_zero, List.set_cons_succ]
  refine take_h 48 ?_ rfl (by kernel_rfl) (by kernel_rfl) (by kernel_rfl) (fun _ _ _ h => h) (Or.inl ⟨by kernel_rfl, ?_⟩) (by assumption) ?_
  rotate_left
  · (intro w hSw; (try dsimp only at hSw); go_simp; try (with_reducible rfl))
  try simp only [Act.put, List.setIfInBounds_toArray, List.set_cons_zero, List.set_cons_succ]
  refine take_h 49 ?_ rfl (by kernel_rfl) (by kernel_rfl) (by kernel_rfl) (fun _ _ _ h => h) (Or.inl ⟨by kernel_rfl, ?_⟩) (by assumption) ?_
  rotate_left
  · (intro w hSw; (try dsimp only at hSw); go_simp; try (with_reducible rfl))
  try simp only [Act.put, List.setIfInBounds_toArray, List.set_cons_zero, List.set_cons_succ]
  refine take_h 50 _ rfl (by kernel_rfl) (by kernel_rfl) (by kernel_rfl) (fun _ _ _ h => h) (yieldsIf_load_mid (by kernel_rfl) 25 (.tmp 28) rfl g12 0 rfl [.slice pa12 pn12 pc12, .slice ga12 gn12 gc12] _ (fun w hSw => (KM.out _ hSw).1) ud rfl dev_info) (by assumption) ?_
  try simp only [Act.put, List.setIfInBounds_toArray, List.set_cons_zero, List.set_cons_succ]
  refine take_h 51 _ rfl (by kernel_rfl) (by kernel_rfl) (by kernel_rfl) (fun _ _ _ h => h) (yieldsIf_load_mid (by kernel_rfl) 25 (.tmp 13) rfl g5 0 rfl [.slice pa5 pn5 pc5, .slice ga5 gn5 gc5] _ (fun w hSw => (KG.out _ hSw).1) ud rfl dev_info) (by assumption) ?_
  try simp only [Act.put, List.setIfInBounds_toArray, List.set_cons_zero, List.set_cons_succ]
  refine call_h 52 rfl (by kernel_rfl) 15 #[.agg #[.slice pa12 pn12 pc12, .slice ga12 gn12 gc12], .agg #[.slice pa5 pn5 pc5, .slice ga5 gn5 gc5]] (by kernel_rfl) (by go_simp) ?_
  refine (rsame44_eq pa12 ga12 pa5 ga5 pn12 pc12 gn12 gc12 pn5 pc5 gn5 gc5 (dvG A A5) (dvG A A5) V5 (KM.out V5 hHeld5).2.1 (KM.out V5 hHeld5).2.2.1 (KM.out V5 hHeld5).2.2.2 (KG.out V5 hHeld5).2.1 (KG.out V5 hHeld5).2.2.2 rfl).mono ?_
  rintro e V6 ⟨rfl, hb⟩
  refine ⟨_, rfl, hHeld5.trans (hb.mono hHeld5.size), fun hHeld6 => ?_⟩
  clear hHeld5 hb
  try simp only [Act.put, List.setIfInBounds_toArray, List.set_cons_zero, List.set_cons_succ]
  refine take_h 53 ?_ rfl (by kernel_rfl) (by kernel_rfl) (by kernel_rfl) (fun _ _ _ h => h) (Or.inl ⟨by kernel_rfl, ?_⟩) (by assumption) ?_
  rotate_left
  · (intro w hSw; (try dsimp only at hSw); go_simp; try (with_reducible rfl))
  try simp only [Act.put, List.setIfInBounds_toArray, List.set_cons_zero, List.set_cons_succ]
  refine take_h 54 ?_ rfl (by kernel_rfl) (by kernel_rfl) (by kernel_rfl) (fun _ _ _ h => h) (Or.inl ⟨by kernel_rfl, ?_⟩) (by assumption) ?_
  rotate_left
  · (intro w hSw; (try dsimp only at hSw); go_simp; try (with_reducible rfl))
  try simp only [Act.put, List.setIfInBounds_toArray, List.set_cons_zero, List.set_cons_succ]
  refine oper_h 55 (.slice (some ⟨V6.heap.size, 0, none⟩) 1 1) (V6.alloc (.cells #[.int .i64 3] 3)) rfl (by kernel_rfl) (by kernel_rfl) (by go_simp) (hHeld6.alloc hHeld6.size _) (fun hHeld7 => ?_)
  try simp only [Act.put, List.setIfInBounds_toArray, List.set_cons_zero, List.set_cons_succ]
  have HI3 : Seal (IsIs (V6.alloc (.cells #[.int .i64 3] 3)) (some ⟨V6.heap.size, 0, none⟩) 1 1 [3]) := ⟨rfl, Nat.le_refl _, by decide, by decide, (fun _ _ => rfl), .inr ⟨V6.heap.size, 0, rfl, rangeAt_row (cs := [.int .i64 3]) (heap_alloc_new V6 _), by simp⟩⟩
  obtain ⟨V7, hV7⟩ : ∃ V7, V7 = V6.alloc (.cells #[.int .i64 3] 3) := ⟨_, rfl⟩
  rw [← hV7] at hHeld7 HI3 ⊢
  clear hV7 hHeld6
  refine take_h 56 ?_ rfl (by kernel_rfl) (by kernel_rfl) (by kernel_rfl) (fun _ _ _ h => h) (Or.inl ⟨by kernel_rfl, ?_⟩) (by assumption) ?_
  rotate_left
  · (intro w hSw; (try dsimp only at hSw); go_simp; try (with_reducible rfl))
  try simp only [Act.put, List.setIfInBounds_toArray, List.set_cons_zero, List.set_cons_succ]
  refine call_h 57 rfl (by kernel_rfl) 13 #[.agg #[.slice none 0 0, .slice (some ⟨V6.heap.size, 0, none⟩) 1 1]] (by kernel_rfl) (by go_simp) ?_
  have HS := dcheck_any none (some ⟨V6.heap.size, 0, none⟩) 0 0 1 1 ⟨[], [3]⟩ V7 (isC_z _ _ _) (by simp) HI3.out
  rw [ex_chk3] at HS
  refine HS.mono ?_
  clear HS HI3
  rintro e V8 ⟨rfl, hb⟩
  refine ⟨_, rfl, hHeld7.trans (hb.mono hHeld7.size), fun hHeld8 => ?_⟩
  clear hHeld7 hb
  try simp only [Act.put, List.setIfInBounds_toArray, List.set_cons_zero, List.set_cons_succ]
  refine take_h 58 ?_ rfl (by kernel_rfl) (by kernel_rfl) (by kernel_rfl) (fun _ _ _ h => h) (Or.inl ⟨by kernel_rfl, ?_⟩) (by assumption) ?_
  rotate_left
  · (intro w hSw; (try dsimp only at hSw); go_simp; try (with_reducible rfl))
  try simp only [Act.put, List.setIfInBounds_toArray, List.set_cons_zero, List.set_cons_succ]
  refine take_h 59 ?_ rfl (by kernel_rfl) (by kernel_rfl) (by kernel_rfl) (fun _ _ _ h => h) (Or.inl ⟨by kernel_rfl, ?_⟩) (by assumption) ?_
  rotate_left
  · (intro w hSw; (try dsimp only at hSw); go_simp; try (with_reducible rfl))
  try simp only [Act.put, List.setIfInBounds_toArray, List.set_cons_zero, List.set_cons_succ]
  refine take_h 60 ?_ rfl (by kernel_rfl) (by kernel_rfl) (by kernel_rfl) (fun _ _ _ h => h) (Or.inl ⟨by kernel_rfl, ?_⟩) (by assumption) ?_
  rotate_left
  · (intro w hSw; (try dsimp only at hSw); go_simp; try (with_reducible rfl))
  try simp only [Act.put, List.setIfInBounds_toArray, List.set_cons_zero]
  refine wpAnyH_done (by kernel_rfl) ?_ _
  have HF : Seal (Below w.heap.size w V8) := ⟨HB12.out.trans (hHeld8.mono HB12.out.size)⟩
  clear hHeld8
  go_wp2
  go_ret
  exact ⟨rfl, HF.out⟩
end Frk
