/- Law 44: DevicesSpec's walk. -/
import Derived.Test.YtnpnboldjbljaaaDoorVeSdv
import Derived.Test.YtnpnboldjbljaaaDoorVeRpq
import Derived.Test.YtnpnboldjbljaaaDoorVegDop
namespace Frk
open Go Go.RowKit Go.Proofs
set_option maxRecDepth 100000

theorem fewB_le {pn gn : Nat} (h : fewB pn gn = true) : pn ≤ 5000 ∧ gn ≤ 40 := by
  unfold fewB at h
  simp at h
  omega
set_option maxHeartbeats 4000000 in
theorem law_devicesSpec (pa ga : Option Addr) (pn pc gn gc : Nat) (D : Dv) (s o : Int) (w : World) (hG : Glob w) (hD : DevArg w pa ga pn pc gn gc D) (hs : I64 s) (ho : I64 o) :
    Calls Tryd.prog 3 #[.agg #[.slice pa pn pc, .slice ga gn gc], .int .i64 s, .int .i64 o] w fun e w' => e = .returned (.bool true) ∧ Below w.heap.size w w' := by
  obtain ⟨X, hX⟩ : ∃ X : World, X = w.alloc (.cells #[.slice pa pn pc, .slice ga gn gc] 25) := ⟨_, rfl⟩
  have HB : Seal (Below w.heap.size w X) := ⟨by rw [hX]; exact below_alloc _ _⟩
  have HK : Seal (Kp X (fun W => W.rangeAt w.heap.size 0 [.slice pa pn pc, .slice ga gn gc])) := ⟨by rw [hX]; exact kp_range (rangeAt_row (cs := [.slice pa pn pc, .slice ga gn gc]) (heap_alloc_new w _))⟩
  have HDA := Seal.mk hD
  have HS : Seal (Calls Tryd.prog 9 #[] X fun e w' => e = .returned (.bool true) ∧ Below X.heap.size X w') := ⟨sane44_any X (hG.below HB.out)⟩
  have HGl : Seal ((∀ W, Below w.heap.size w W → Glob W) ∧ I64 s ∧ I64 o) := ⟨⟨fun W h => hG.below h, hs, ho⟩⟩
  have ud := Tryd.underlying25
  have ut := Tryd.underlying31
  obtain ⟨fb, hfb⟩ : ∃ b, b = fewB pn gn := ⟨_, rfl⟩
  have HFB := Seal.mk hfb
  clear hD hG hs ho hfb
  go_enter Tryd.func3, Tryd.ntmps3
  go_upto_region 1 with (fail)
  rw [← hX]
  clear hX
  go_wp2_with fail
  refine HS.out.mono ?_
  rintro e w1 ⟨rfl, hb⟩
  have HB1 := Seal.mk (HB.out.trans (hb.mono HB.out.size))
  have HK := Seal.mk (HK.out.step hb)
  clear hb HB HS
  obtain ⟨gx, hgx⟩ : ∃ g, g = w.heap.size := ⟨_, rfl⟩
  rw [← hgx] at HK ⊢
  clear hgx
  go_wp2_with (refine wpList_load_mid rfl 25 (.tmp 3) rfl gx 0 rfl [.slice pa pn pc, .slice ga gn gc] _ HK.out.at ud rfl dev_info ?_)
  refine (rfew44_any pa ga pn pc gn gc w1).mono ?_
  rintro e w2 ⟨rfl, hb⟩
  rw [← HFB.out]
  have HB2 := Seal.mk (HB1.out.trans (hb.mono HB1.out.size))
  have HK := Seal.mk (HK.out.step hb)
  clear hb HB1
  cases fb with
  | false =>
    go_wp2
    go_ret
    exact ⟨rfl, HB2.out⟩
  | true =>
    have hle := fewB_le HFB.out.symm
    have HP : Seal (∀ W, Below w.heap.size w W → IsPs W pa pn pc D.P ∧ IsIs W ga gn gc D.G) := ⟨fun W h => ⟨(HDA.out.ps hle.1).below h, (HDA.out.is_ (by omega)).below h⟩⟩
    obtain ⟨er, her⟩ : ∃ e, e = postE D o := ⟨_, rfl⟩
    obtain ⟨E, hE⟩ : ∃ E, E = postD D s o := ⟨_, rfl⟩
    obtain ⟨p, hp⟩ : ∃ p, p = postP D s o := ⟨_, rfl⟩
    obtain ⟨C, hC⟩ : ∃ C, C = p.C := ⟨_, rfl⟩
    have L32 : Seal (p.S.length = 32) := ⟨by rw [hp]; exact postP_len D s o⟩
    have IC : Seal ((Tryd.prog.info? 31).map (·.size) = some C.length ∧ ((List.toArray (.int .i64 0 :: .int .u8 0 :: .int .u8 0 :: .int .u8 0 :: .int .u8 0 :: .int .u8 0 :: .int .u8 0 :: .int .u8 0 :: .int .u8 0 :: .int .u8 0 :: .int .u8 0 :: .int .u8 0 :: .int .u8 0 :: .int .u8 0 :: .int .u8 0 :: .int .u8 0 :: .int .u8 0 :: .int .u8 0 :: .int .u8 0 :: .int .u8 0 :: .int .u8 0 :: .int .u8 0 :: .int .u8 0 :: .int .u8 0 :: .int .u8 0 :: .int .u8 0 :: .int .u8 0 :: .int .u8 0 :: .int .u8 0 :: .int .u8 0 :: .int .u8 0 :: .int .u8 0 :: .int .u8 0 :: [] : List Value) : Array Value) : Array Value).size = C.toArray.size ∧ C.toArray.all (·.oneCell') = true) := ⟨by rw [hC]; exact ⟨Po.C_info L32.out, by rw [posz_len, List.size_toArray, Po.C_len L32.out], all_oneCell_toArray (Po.C_one _)⟩⟩
    have HC1 : Seal (Calls Tryd.prog 11 #[.agg #[.slice pa pn pc, .slice ga gn gc], .int .i64 s, .int .i64 o] w2 (PostC E C er w2)) := ⟨by
      have h := dpost_any pa ga pn pc gn gc D s o w2 (HGl.out.1 _ HB2.out) HGl.out.2.1 HGl.out.2.2 (HP.out _ HB2.out).1 HDA.out.p32 (HP.out _ HB2.out).2
      rw [← hE, ← hp, ← her] at h
      exact post_c h hC⟩
    have HC2 : Seal (∀ W, Below w.heap.size w W → Calls Tryd.prog 12 #[.agg #[.slice pa pn pc, .slice ga gn gc], .int .i64 s, .int .i64 o] W (PostC E C er W)) := ⟨fun W h => by
      have h := rpost44_any pa ga pn pc gn gc D s o W HGl.out.2.1 HGl.out.2.2 (HP.out _ h).1 HDA.out.p32 (HP.out _ h).2 HDA.out.pp
      rw [← hE, ← hp, ← her] at h
      exact post_c h hC⟩
    have HCs := Seal.mk hC
    have HSe : Seal ((∀ W, Below w.heap.size w W → Calls Tryd.prog 16 #[.int .i64 s, .int .i64 o] W fun e w' => e = .returned (.agg ((serB s o).map B).toArray) ∧ Below W.heap.size W w') ∧ ∀ W, Calls Tryd.prog 17 #[.int .i64 s, .int .i64 o] W fun e w' => e = .returned (.agg ((serB s o).map B).toArray) ∧ Below W.heap.size W w') := ⟨fun W h => dserial_any s o W (HGl.out.1 W h) HGl.out.2.1 HGl.out.2.2, fun W => rserial44_any s o W HGl.out.2.1 HGl.out.2.2⟩
    have LS := serB_len s o
    obtain ⟨T, hT⟩ : ∃ T, T = serB s o := ⟨_, rfl⟩
    rw [← hT] at HSe LS
    have LSs := Seal.mk LS
    have HCk : Seal ((∀ W, Below w.heap.size w W → Calls Tryd.prog 13 #[.agg #[.slice pa pn pc, .slice ga gn gc]] W fun e w' => e = .returned (.int .i64 (chkD D)) ∧ Below W.heap.size W w') ∧ ∀ W, Below w.heap.size w W → Calls Tryd.prog 14 #[.agg #[.slice pa pn pc, .slice ga gn gc]] W fun e w' => e = .returned (.int .i64 (chkD D)) ∧ Below W.heap.size W w') := ⟨fun W h => dcheck_any pa ga pn pc gn gc D W (HP.out W h).1 HDA.out.p32 (HP.out W h).2, fun W h => rcheck44_any pa ga pn pc gn gc D W (HP.out W h).1 (HP.out W h).2⟩
    obtain ⟨ck, hck⟩ : ∃ c, c = chkD D := ⟨_, rfl⟩
    rw [← hck] at HCk
    clear her hE hp hC hle hT hck LS
    go_wp2_with (refine wpList_load_mid rfl 25 (.tmp 3) rfl gx 0 rfl [.slice pa pn pc, .slice ga gn gc] _ HK.out.at ud rfl dev_info ?_)
    refine HC1.out.mono ?_
    rintro e w3 ⟨pa1, pn1, pc1, ga1, gn1, gc1, rfl, hd, hb⟩
    clear HC1
    obtain ⟨N1, N2, N3, N4, N5⟩ := two_new w3 #[.slice pa1 pn1 pc1, .slice ga1 gn1 gc1] C
    have Z1 : Seal _ := ⟨N1⟩
    have Z2 : Seal _ := ⟨N2⟩
    have Z3 : Seal _ := ⟨N3⟩
    have Z4 : Seal _ := ⟨N4⟩
    have Z5 : Seal _ := ⟨N5⟩
    clear N1 N2 N3 N4 N5
    have HB0 : Seal (Below w.heap.size w w3) := ⟨HB2.out.trans (hb.mono HB2.out.size)⟩
    have HK := Seal.mk (HK.out.step hb)
    clear HB2
    clear hb
    go_wp2_with (first
      | (refine wpList_store_row rfl 25 (.tmp 7) (.tmp 23) rfl w3.heap.size #[.slice pa1 pn1 pc1, .slice ga1 gn1 gc1] rfl rfl 25 _ Z1.out dev_info rfl (by simp [Value.oneCell']) ?_)
      | (refine wpList_store_row rfl 31 (.tmp 8) (.tmp 24) rfl (w3.heap.size + 1) C.toArray rfl rfl 31 (List.toArray (.int .i64 0 :: .int .u8 0 :: .int .u8 0 :: .int .u8 0 :: .int .u8 0 :: .int .u8 0 :: .int .u8 0 :: .int .u8 0 :: .int .u8 0 :: .int .u8 0 :: .int .u8 0 :: .int .u8 0 :: .int .u8 0 :: .int .u8 0 :: .int .u8 0 :: .int .u8 0 :: .int .u8 0 :: .int .u8 0 :: .int .u8 0 :: .int .u8 0 :: .int .u8 0 :: .int .u8 0 :: .int .u8 0 :: .int .u8 0 :: .int .u8 0 :: .int .u8 0 :: .int .u8 0 :: .int .u8 0 :: .int .u8 0 :: .int .u8 0 :: .int .u8 0 :: .int .u8 0 :: .int .u8 0 :: [] : List Value) : Array Value) Z2.out (by simpa using IC.out.1) IC.out.2.1 IC.out.2.2 ?_; obtain ⟨Z, hZ⟩ : ∃ Z, Z = (((w3.alloc (.cells #[.slice none 0 0, .slice none 0 0] 25)).alloc (.cells (List.toArray (.int .i64 0 :: .int .u8 0 :: .int .u8 0 :: .int .u8 0 :: .int .u8 0 :: .int .u8 0 :: .int .u8 0 :: .int .u8 0 :: .int .u8 0 :: .int .u8 0 :: .int .u8 0 :: .int .u8 0 :: .int .u8 0 :: .int .u8 0 :: .int .u8 0 :: .int .u8 0 :: .int .u8 0 :: .int .u8 0 :: .int .u8 0 :: .int .u8 0 :: .int .u8 0 :: .int .u8 0 :: .int .u8 0 :: .int .u8 0 :: .int .u8 0 :: .int .u8 0 :: .int .u8 0 :: .int .u8 0 :: .int .u8 0 :: .int .u8 0 :: .int .u8 0 :: .int .u8 0 :: .int .u8 0 :: [] : List Value) : Array Value) 31)).setRow w3.heap.size #[.slice pa1 pn1 pc1, .slice ga1 gn1 gc1]).setRow (w3.heap.size + 1) C.toArray := ⟨_, rfl⟩; rw [← hZ]; have Z3' := Z3.out; have Z4' := Z4.out; have Z5' := Z5.out; rw [← hZ] at Z3' Z4' Z5'; clear hZ Z1 Z2 Z3 Z4 Z5; have HB3 : Seal (Below w.heap.size w Z) := ⟨HB0.out.trans (Z5'.mono HB0.out.size)⟩; clear HB0; have HK := Seal.mk (HK.out.step Z5'); have K1 : Seal (Kp Z (DevC w3.heap.size pa1 pn1 pc1 ga1 gn1 gc1 E)) := ⟨kp_dev Z3' ((hd.out.1).below Z5') hd.out.2.1 ((hd.out.2.2).below Z5')⟩; have P1 : Seal (Kp Z (PosC (w3.heap.size + 1) C)) := ⟨kp_pos Z4'⟩; clear Z3' Z4' Z5' hd; (try simp only [Act.put]))
      | (refine wpList_load_mid rfl 25 (.tmp 3) rfl gx 0 rfl [.slice pa pn pc, .slice ga gn gc] _ HK.out.at ud rfl dev_info ?_))
    obtain ⟨g1, hg1⟩ : ∃ g, g = w3.heap.size := ⟨_, rfl⟩
    rw [← hg1] at K1 P1 ⊢
    clear hg1
    refine (HC2.out Z HB3.out).mono ?_
    rintro e w4 ⟨pa2, pn2, pc2, ga2, gn2, gc2, rfl, hd, hb⟩
    clear HC2
    obtain ⟨N1, N2, N3, N4, N5⟩ := two_new w4 #[.slice pa2 pn2 pc2, .slice ga2 gn2 gc2] C
    have Z1 : Seal _ := ⟨N1⟩
    have Z2 : Seal _ := ⟨N2⟩
    have Z3 : Seal _ := ⟨N3⟩
    have Z4 : Seal _ := ⟨N4⟩
    have Z5 : Seal _ := ⟨N5⟩
    clear N1 N2 N3 N4 N5
    have HB0 : Seal (Below w.heap.size w w4) := ⟨HB3.out.trans (hb.mono HB3.out.size)⟩
    have HK := Seal.mk (HK.out.step hb)
    clear HB3
    have K1 := Seal.mk (K1.out.step hb)
    have P1 := Seal.mk (P1.out.step hb)
    clear hb
    go_wp2_with (first
      | (refine wpList_store_row rfl 25 (.tmp 10) (.tmp 31) rfl w4.heap.size #[.slice pa2 pn2 pc2, .slice ga2 gn2 gc2] rfl rfl 25 _ Z1.out dev_info rfl (by simp [Value.oneCell']) ?_)
      | (refine wpList_store_row rfl 31 (.tmp 11) (.tmp 32) rfl (w4.heap.size + 1) C.toArray rfl rfl 31 (List.toArray (.int .i64 0 :: .int .u8 0 :: .int .u8 0 :: .int .u8 0 :: .int .u8 0 :: .int .u8 0 :: .int .u8 0 :: .int .u8 0 :: .int .u8 0 :: .int .u8 0 :: .int .u8 0 :: .int .u8 0 :: .int .u8 0 :: .int .u8 0 :: .int .u8 0 :: .int .u8 0 :: .int .u8 0 :: .int .u8 0 :: .int .u8 0 :: .int .u8 0 :: .int .u8 0 :: .int .u8 0 :: .int .u8 0 :: .int .u8 0 :: .int .u8 0 :: .int .u8 0 :: .int .u8 0 :: .int .u8 0 :: .int .u8 0 :: .int .u8 0 :: .int .u8 0 :: .int .u8 0 :: .int .u8 0 :: [] : List Value) : Array Value) Z2.out (by simpa using IC.out.1) IC.out.2.1 IC.out.2.2 ?_; obtain ⟨Y, hZ⟩ : ∃ Z, Z = (((w4.alloc (.cells #[.slice none 0 0, .slice none 0 0] 25)).alloc (.cells (List.toArray (.int .i64 0 :: .int .u8 0 :: .int .u8 0 :: .int .u8 0 :: .int .u8 0 :: .int .u8 0 :: .int .u8 0 :: .int .u8 0 :: .int .u8 0 :: .int .u8 0 :: .int .u8 0 :: .int .u8 0 :: .int .u8 0 :: .int .u8 0 :: .int .u8 0 :: .int .u8 0 :: .int .u8 0 :: .int .u8 0 :: .int .u8 0 :: .int .u8 0 :: .int .u8 0 :: .int .u8 0 :: .int .u8 0 :: .int .u8 0 :: .int .u8 0 :: .int .u8 0 :: .int .u8 0 :: .int .u8 0 :: .int .u8 0 :: .int .u8 0 :: .int .u8 0 :: .int .u8 0 :: .int .u8 0 :: [] : List Value) : Array Value) 31)).setRow w4.heap.size #[.slice pa2 pn2 pc2, .slice ga2 gn2 gc2]).setRow (w4.heap.size + 1) C.toArray := ⟨_, rfl⟩; rw [← hZ]; have Z3' := Z3.out; have Z4' := Z4.out; have Z5' := Z5.out; rw [← hZ] at Z3' Z4' Z5'; clear hZ Z1 Z2 Z3 Z4 Z5; have HB4 : Seal (Below w.heap.size w Y) := ⟨HB0.out.trans (Z5'.mono HB0.out.size)⟩; clear HB0; have HK := Seal.mk (HK.out.step Z5'); have K1 := Seal.mk (K1.out.step Z5'); have P1 := Seal.mk (P1.out.step Z5'); have K2 : Seal (Kp Y (DevC w4.heap.size pa2 pn2 pc2 ga2 gn2 gc2 E)) := ⟨kp_dev Z3' ((hd.out.1).below Z5') hd.out.2.1 ((hd.out.2.2).below Z5')⟩; have P2 : Seal (Kp Y (PosC (w4.heap.size + 1) C)) := ⟨kp_pos Z4'⟩; clear Z3' Z4' Z5' hd; (try simp only [Act.put])))
    obtain ⟨g2, hg2⟩ : ∃ g, g = w4.heap.size := ⟨_, rfl⟩
    rw [← hg2] at K2 P2 ⊢
    clear hg2
    have QE : ∀ w, (Op.equalIn 10000 31 (.agg C.toArray) (.agg C.toArray)).run Tryd.prog w = .ok true w := fun w => by
      rw [HCs.out, eqPo p p L32.out L32.out, (poB_iff _ _).2 rfl]
    have QD : ∀ w, (Op.equalIn 10000 29 (.agg (T.map B).toArray) (.agg (T.map B).toArray)).run Tryd.prog w = .ok true w := fun w => by
      rw [show (10000 : Nat) = 9998 + 1 + 1 from rfl, eqDig_s 9998 T T LSs.out LSs.out, beq_self_eq_true]
    have qk : (ck == ck) = true := beq_self_eq_true ck
    have qe : (er == er) = true := beq_self_eq_true er
    refine wp_region_held_drew (S := fun w' => Below Y.heap.size Y w') (by kernel_rfl) (bel_drew _) (fun hHeld => ?_)
    obtain ⟨V, hV⟩ : ∃ V, V = Y.drew := ⟨_, rfl⟩
    rw [← hV] at hHeld ⊢
    clear hV
    refine take_h 0 _ rfl (by kernel_rfl) (by kernel_rfl) (by kernel_rfl) (fun _ _ _ h => h) (yieldsIf_load_mid (by kernel_rfl) 25 (.tmp 3) rfl gx 0 rfl [.slice pa pn pc, .slice ga gn gc] _ (fun w hSw => (HK.out _ hSw)) ud rfl dev_info) (by assumption) ?_
    try simp only [Act.put, List.setIfInBounds_toArray, List.set_cons_zero, List.set_cons_succ]
    refine take_h 2 _ rfl (by kernel_rfl) (by kernel_rfl) (by kernel_rfl) (fun _ _ _ h => h) (yieldsIf_load_mid (by kernel_rfl) 25 (.tmp 3) rfl gx 0 rfl [.slice pa pn pc, .slice ga gn gc] _ (fun w hSw => (HK.out _ hSw)) ud rfl dev_info) (by assumption) ?_
    try simp only [Act.put, List.setIfInBounds_toArray, List.set_cons_zero, List.set_cons_succ]
    refine call_h 1 rfl (by kernel_rfl) 13 #[.agg #[.slice pa pn pc, .slice ga gn gc]] (by kernel_rfl) (by go_simp) ?_
    refine (HCk.out.1 V (HB4.out.trans (hHeld.mono HB4.out.size))).mono ?_
    rintro e V1 ⟨rfl, hb⟩
    refine ⟨_, rfl, hHeld.trans (hb.mono hHeld.size), fun hHeld1 => ?_⟩
    clear hHeld hb
    try simp only [Act.put, List.setIfInBounds_toArray, List.set_cons_zero, List.set_cons_succ]
    refine call_h 3 rfl (by kernel_rfl) 14 #[.agg #[.slice pa pn pc, .slice ga gn gc]] (by kernel_rfl) (by go_simp) ?_
    refine (HCk.out.2 V1 (HB4.out.trans (hHeld1.mono HB4.out.size))).mono ?_
    rintro e V2 ⟨rfl, hb⟩
    refine ⟨_, rfl, hHeld1.trans (hb.mono hHeld1.size), fun hHeld2 => ?_⟩
    clear hHeld1 hb
    try simp only [Act.put, List.setIfInBounds_toArray, List.set_cons_zero, List.set_cons_succ]
    refine take_h 4 ?_ rfl (by kernel_rfl) (by kernel_rfl) (by kernel_rfl) (fun _ _ _ h => h) (Or.inl ⟨by kernel_rfl, ?_⟩) (by assumption) ?_
    rotate_left
    · (intro w hSw; (try dsimp only at hSw); go_simp; try (with_reducible rfl))
    try simp only [Act.put, List.setIfInBounds_toArray, List.set_cons_zero, List.set_cons_succ]
    refine take_h 5 ?_ rfl (by kernel_rfl) (by kernel_rfl) (by kernel_rfl) (fun _ _ _ h => h) (Or.inl ⟨by kernel_rfl, ?_⟩) (by assumption) ?_
    rotate_left
    · (intro w hSw; (try dsimp only at hSw); go_simp; try (with_reducible rfl))
    try simp only [Act.put, List.setIfInBounds_toArray, List.set_cons_zero, List.set_cons_succ]
    refine take_h 6 _ rfl (by kernel_rfl) (by kernel_rfl) (by kernel_rfl) (fun _ _ _ h => h) (yieldsIf_load_mid (by kernel_rfl) 25 (.tmp 7) rfl g1 0 rfl [.slice pa1 pn1 pc1, .slice ga1 gn1 gc1] _ (fun w hSw => (K1.out _ hSw).1) ud rfl dev_info) (by assumption) ?_
    try simp only [Act.put, List.setIfInBounds_toArray, List.set_cons_zero, List.set_cons_succ]
    refine take_h 7 _ rfl (by kernel_rfl) (by kernel_rfl) (by kernel_rfl) (fun _ _ _ h => h) (yieldsIf_load_mid (by kernel_rfl) 25 (.tmp 10) rfl g2 0 rfl [.slice pa2 pn2 pc2, .slice ga2 gn2 gc2] _ (fun w hSw => (K2.out _ hSw).1) ud rfl dev_info) (by assumption) ?_
    try simp only [Act.put, List.setIfInBounds_toArray, List.set_cons_zero, List.set_cons_succ]
    refine call_h 8 rfl (by kernel_rfl) 15 #[.agg #[.slice pa1 pn1 pc1, .slice ga1 gn1 gc1], .agg #[.slice pa2 pn2 pc2, .slice ga2 gn2 gc2]] (by kernel_rfl) (by go_simp) ?_
    refine (rsame44_eq pa1 ga1 pa2 ga2 pn1 pc1 gn1 gc1 pn2 pc2 gn2 gc2 E E V2 (K1.out V2 hHeld2).2.1 (K1.out V2 hHeld2).2.2.1 (K1.out V2 hHeld2).2.2.2 (K2.out V2 hHeld2).2.1 (K2.out V2 hHeld2).2.2.2 rfl).mono ?_
    rintro e V3 ⟨rfl, hb⟩
    refine ⟨_, rfl, hHeld2.trans (hb.mono hHeld2.size), fun hHeld3 => ?_⟩
    clear hHeld2 hb
    try simp only [Act.put, List.setIfInBounds_toArray, List.set_cons_zero, List.set_cons_succ]
    refine take_h 9 ?_ rfl (by kernel_rfl) (by kernel_rfl) (by kernel_rfl) (fun _ _ _ h => h) (Or.inl ⟨by kernel_rfl, ?_⟩) (by assumption) ?_
    rotate_left
    · (intro w hSw; (try dsimp only at hSw); go_simp; try (with_reducible rfl))
    try simp only [Act.put, List.setIfInBounds_toArray, List.set_cons_zero, List.set_cons_succ]
    refine take_h 10 ?_ rfl (by kernel_rfl) (by kernel_rfl) (by kernel_rfl) (fun _ _ _ h => h) (Or.inl ⟨by kernel_rfl, ?_⟩) (by assumption) ?_
    rotate_left
    · (intro w hSw; (try dsimp only at hSw); go_simp; try (with_reducible rfl))
    try simp only [Act.put, List.setIfInBounds_toArray, List.set_cons_zero, List.set_cons_succ]
    refine take_h 11 _ rfl (by kernel_rfl) (by kernel_rfl) (by kernel_rfl) (fun _ _ _ h => h) (yieldsIf_load_mid (by kernel_rfl) 31 (.tmp 8) rfl (g1 + 1) 0 rfl C _ (fun w hSw => (P1.out _ hSw)) ut rfl IC.out.1) (by assumption) ?_
    try simp only [Act.put, List.setIfInBounds_toArray, List.set_cons_zero, List.set_cons_succ]
    refine take_h 12 _ rfl (by kernel_rfl) (by kernel_rfl) (by kernel_rfl) (fun _ _ _ h => h) (yieldsIf_load_mid (by kernel_rfl) 31 (.tmp 11) rfl (g2 + 1) 0 rfl C _ (fun w hSw => (P2.out _ hSw)) ut rfl IC.out.1) (by assumption) ?_
    try simp only [Act.put, List.setIfInBounds_toArray, List.set_cons_zero, List.set_cons_succ]
    refine take_h 13 ?_ rfl (by kernel_rfl) (by kernel_rfl) (by kernel_rfl) (fun _ _ _ h => h) (Or.inl ⟨by kernel_rfl, ?_⟩) (by assumption) ?_
    rotate_left
    · (intro w hSw; (try dsimp only at hSw); go_simp; try (with_reducible rfl))
    try simp only [Act.put, List.setIfInBounds_toArray, List.set_cons_zero, List.set_cons_succ]
    refine take_h 14 ?_ rfl (by kernel_rfl) (by kernel_rfl) (by kernel_rfl) (fun _ _ _ h => h) (Or.inl ⟨by kernel_rfl, ?_⟩) (by assumption) ?_
    rotate_left
    · (intro w hSw; (try dsimp only at hSw); go_simp; try (with_reducible rfl))
    try simp only [Act.put, List.setIfInBounds_toArray, List.set_cons_zero, List.set_cons_succ]
    refine take_h 15 ?_ rfl (by kernel_rfl) (by kernel_rfl) (by kernel_rfl) (fun _ _ _ h => h) (Or.inl ⟨by kernel_rfl, ?_⟩) (by assumption) ?_
    rotate_left
    · (intro w hSw; (try dsimp only at hSw); go_simp; try (with_reducible rfl))
    try simp only [Act.put, List.setIfInBounds_toArray, List.set_cons_zero, List.set_cons_succ]
    refine take_h 16 ?_ rfl (by kernel_rfl) (by kernel_rfl) (by kernel_rfl) (fun _ _ _ h => h) (Or.inl ⟨by kernel_rfl, ?_⟩) (by assumption) ?_
    rotate_left
    · (intro w hSw; (try dsimp only at hSw); go_simp; try (with_reducible rfl))
    try simp only [Act.put, List.setIfInBounds_toArray, List.set_cons_zero, List.set_cons_succ]
    refine take_h 17 ?_ rfl (by kernel_rfl) (by kernel_rfl) (by kernel_rfl) (fun _ _ _ h => h) (Or.inl ⟨by kernel_rfl, ?_⟩) (by assumption) ?_
    rotate_left
    · (intro w hSw; (try dsimp only at hSw); go_simp; try (with_reducible rfl))
    try simp only [Act.put, List.setIfInBounds_toArray, List.set_cons_zero, List.set_cons_succ]
    refine take_h 18 ?_ rfl (by kernel_rfl) (by kernel_rfl) (by kernel_rfl) (fun _ _ _ h => h) (Or.inl ⟨by kernel_rfl, ?_⟩) (by assumption) ?_
    rotate_left
    · (intro w hSw; (try dsimp only at hSw); go_simp; try (with_reducible rfl))
    try simp only [Act.put, List.setIfInBounds_toArray, List.set_cons_zero, List.set_cons_succ]
    refine take_h 19 ?_ rfl (by kernel_rfl) (by kernel_rfl) (by kernel_rfl) (fun _ _ _ h => h) (Or.inl ⟨by kernel_rfl, ?_⟩) (by assumption) ?_
    rotate_left
    · (intro w hSw; (try dsimp only at hSw); go_simp; try (with_reducible rfl))
    try simp only [Act.put, List.setIfInBounds_toArray, List.set_cons_zero, List.set_cons_succ]
    refine take_h 20 ?_ rfl (by kernel_rfl) (by kernel_rfl) (by kernel_rfl) (fun _ _ _ h => h) (Or.inl ⟨by kernel_rfl, ?_⟩) (by assumption) ?_
    rotate_left
    · (intro w hSw; (try dsimp only at hSw); go_simp; try (with_reducible rfl))
    try simp only [Act.put, List.setIfInBounds_toArray, List.set_cons_zero, List.set_cons_succ]
    refine take_h 21 ?_ rfl (by kernel_rfl) (by kernel_rfl) (by kernel_rfl) (fun _ _ _ h => h) (Or.inl ⟨by kernel_rfl, ?_⟩) (by assumption) ?_
    rotate_left
    · (intro w hSw; (try dsimp only at hSw); go_simp; try (with_reducible rfl))
    try simp only [Act.put, List.setIfInBounds_toArray, List.set_cons_zero, List.set_cons_succ]
    refine take_h 22 ?_ rfl (by kernel_rfl) (by kernel_rfl) (by kernel_rfl) (fun _ _ _ h => h) (Or.inl ⟨by kernel_rfl, ?_⟩) (by assumption) ?_
    rotate_left
    · (intro w hSw; (try dsimp only at hSw); go_simp; try (with_reducible rfl))
    try simp only [Act.put, List.setIfInBounds_toArray, List.set_cons_zero, List.set_cons_succ]
    refine take_h 24 ?_ rfl (by kernel_rfl) (by kernel_rfl) (by kernel_rfl) (fun _ _ _ h => h) (Or.inl ⟨by kernel_rfl, ?_⟩) (by assumption) ?_
    rotate_left
    · (intro w hSw; (try dsimp only at hSw); go_simp; try (with_reducible rfl))
    try simp only [Act.put, List.setIfInBounds_toArray, List.set_cons_zero, List.set_cons_succ]
    refine take_h 25 ?_ rfl (by kernel_rfl) (by kernel_rfl) (by kernel_rfl) (fun _ _ _ h => h) (Or.inl ⟨by kernel_rfl, ?_⟩) (by assumption) ?_
    rotate_left
    · (intro w hSw; (try dsimp only at hSw); go_simp; try (with_reducible rfl))
    try simp only [Act.put, List.setIfInBounds_toArray, List.set_cons_zero, List.set_cons_succ]
    refine call_h 23 rfl (by kernel_rfl) 16 #[.int .i64 s, .int .i64 o] (by kernel_rfl) (by go_simp) ?_
    refine (HSe.out.1 V3 (HB4.out.trans (hHeld3.mono HB4.out.size))).mono ?_
    rintro e V4 ⟨rfl, hb⟩
    refine ⟨_, rfl, hHeld3.trans (hb.mono hHeld3.size), fun hHeld4 => ?_⟩
    clear hHeld3 hb
    try simp only [Act.put, List.setIfInBounds_toArray, List.set_cons_zero, List.set_cons_succ]
    refine call_h 26 rfl (by kernel_rfl) 17 #[.int .i64 s, .int .i64 o] (by kernel_rfl) (by go_simp) ?_
    refine (HSe.out.2 V4).mono ?_
    rintro e V5 ⟨rfl, hb⟩
    refine ⟨_, rfl, hHeld4.trans (hb.mono hHeld4.size), fun hHeld5 => ?_⟩
    clear hHeld4 hb
    try simp only [Act.put, List.setIfInBounds_toArray, List.set_cons_zero, List.set_cons_succ]
    refine take_h 27 ?_ rfl (by kernel_rfl) (by kernel_rfl) (by kernel_rfl) (fun _ _ _ h => h) (Or.inl ⟨by kernel_rfl, ?_⟩) (by assumption) ?_
    rotate_left
    · (intro w hSw; (try dsimp only at hSw); go_simp; try (with_reducible rfl))
    try simp only [Act.put, List.setIfInBounds_toArray, List.set_cons_zero, List.set_cons_succ]
    refine take_h 28 ?_ rfl (by kernel_rfl) (by kernel_rfl) (by kernel_rfl) (fun _ _ _ h => h) (Or.inl ⟨by kernel_rfl, ?_⟩) (by assumption) ?_
    rotate_left
    · (intro w hSw; (try dsimp only at hSw); go_simp; try (with_reducible rfl))
    try simp only [Act.put, List.setIfInBounds_toArray, List.set_cons_zero, List.set_cons_succ]
    refine take_h 29 ?_ rfl (by kernel_rfl) (by kernel_rfl) (by kernel_rfl) (fun _ _ _ h => h) (Or.inl ⟨by kernel_rfl, ?_⟩) (by assumption) ?_
    rotate_left
    · (intro w hSw; (try dsimp only at hSw); go_simp; try (with_reducible rfl))
    try simp only [Act.put, List.setIfInBounds_toArray, List.set_cons_zero, List.set_cons_succ]
    refine wpAnyH_done (by kernel_rfl) ?_ _
    have HF : Seal (Below w.heap.size w V5) := ⟨HB4.out.trans (hHeld5.mono HB4.out.size)⟩
    clear hHeld5
    go_wp2
    go_ret
    exact ⟨rfl, HF.out⟩
end Frk
