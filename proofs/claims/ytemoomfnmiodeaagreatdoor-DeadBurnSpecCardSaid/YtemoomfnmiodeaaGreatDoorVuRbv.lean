/- Law 45's reference: Verify. -/
import Derived.Test.YtemoomfnmiodeaaGreatDoorVuRbw
namespace Frk
open Go Go.RowKit Go.Proofs
set_option maxRecDepth 100000

set_option maxHeartbeats 8000000 in
theorem rverify45_any (a am : Option Addr) (n c nm cm : Nat) (l m : List Ltr) (t : Int) (b : Brn) (v : Value) (w : World) (hG : Glob w) (hd : IsC Ltr.C 38 w a n c l) (hok : ∀ x ∈ l, x.ok) (hn : n ≤ 100) (hm : IsC Ltr.C 38 w am nm cm m) (hmok : ∀ x ∈ m, x.ok)
    (hb1 : b.B.length = 32) (hb2 : b.A.length = 32) (hv : GoneAt w v b.G) :
    Calls Tryz.prog 21 #[.slice a n c, .slice am nm cm, .int .i64 t, .agg (brC b v).toArray] w fun e w' => e = .returned (.bool (verB l m t b)) ∧ Below w.heap.size w w' := by
  obtain ⟨X, hX⟩ : ∃ X : World, X = w.alloc (.cells (brC b v).toArray 50) := ⟨_, rfl⟩
  have HB : Seal (Below w.heap.size w X) := ⟨by rw [hX]; exact below_alloc _ _⟩
  have HA1 : Seal (BrAt X w.heap.size b v) := ⟨brAt_row hb1 hb2 (by rw [hX]; exact heap_alloc_new w _)⟩
  have HBurn := Seal.mk (rburn45_any a n c l t X (hG.below HB.out) (hd.below HB.out) hok hn)
  have HM : Seal (∀ W, Below w.heap.size w W → Glob W ∧ IsC Ltr.C 38 W am nm cm m ∧ GoneAt W v b.G) := ⟨fun W h => ⟨hG.below h, hm.below h, hv.below h⟩⟩
  have HMok := Seal.mk hmok
  obtain ⟨e0, he0⟩ : ∃ e, e = burnE l t := ⟨_, rfl⟩
  obtain ⟨BL, hBL⟩ : ∃ e, e = burnL l t := ⟨_, rfl⟩
  obtain ⟨BB, hBB⟩ : ∃ e, e = burnB l t := ⟨_, rfl⟩
  have hBl := burnB_len l t
  have HBLok : Seal (∀ x ∈ BL, x.ok) := ⟨fun x hx => by
    rw [hBL] at hx
    unfold burnL at hx
    split at hx
    · exact hok x (List.mem_filter.1 hx).1
    · cases hx⟩
  obtain ⟨k0, hk0⟩ : ∃ e, e = chkL m := ⟨_, rfl⟩
  obtain ⟨t0, ht0⟩ : ∃ e, e = decide (BL = m) := ⟨_, rfl⟩
  rw [← hBL, ← hBB, ← he0] at HBurn
  rw [← hBB] at hBl
  obtain ⟨t1, ht1⟩ : ∃ e, e = brnB b BB := ⟨_, rfl⟩
  have HR : Seal (verB l m t b = (decide (e0 = 0) && (decide (k0 = 0) && (t0 && t1)))) := ⟨by unfold verB; rw [ht0, ht1, hk0, he0, hBL, hBB]⟩
  have HL : Seal (b.B.length = 32 ∧ b.A.length = 32 ∧ BB.B.length = 32 ∧ BB.A.length = 32) := ⟨hb1, hb2, hBl.1, hBl.2⟩
  obtain ⟨CB, hCB⟩ : ∃ L, L = brC b v := ⟨_, rfl⟩
  have HCB := Seal.mk hCB
  have HT := Seal.mk (And.intro ht0 (And.intro ht1 hk0))
  have ub := Tryz.underlying50
  obtain ⟨RV, hRV⟩ : ∃ r, r = verB l m t b := ⟨_, rfl⟩
  rw [← hRV] at HR ⊢
  rw [← hCB] at hX ⊢
  clear hG hd hok hn hm hmok hb1 hb2 hv he0 hBL hBB hBl hk0 ht0 ht1 hCB hRV
  go_enter Tryz.func21, Tryz.ntmps21
  go_upto_region 1 with (fail)
  rw [← hX]
  clear hX
  obtain ⟨gx, hgx⟩ : ∃ g, g = w.heap.size := ⟨_, rfl⟩
  rw [← hgx] at HA1 ⊢
  clear hgx
  go_wp2_with fail
  refine HBurn.out.mono ?_
  rintro e w1 ⟨a1, c1, v1, rfl, hi1, hbw⟩
  obtain ⟨C1, hC1⟩ : ∃ L, L = brC BB v1 := ⟨_, rfl⟩
  have HC1 := Seal.mk hC1
  obtain ⟨V, hV⟩ : ∃ V, V = w1.alloc (.cells C1.toArray 50) := ⟨_, rfl⟩
  have hVz : (w1.alloc (.cells Tryz.zeroCells50 50)).setRow w1.heap.size C1.toArray = V := by rw [hV, brz_zs]; exact setRow_new w1 _ C1 _
  have hn5 := heap_alloc_new w1 (.cells Tryz.zeroCells50 50)
  have hbv : Below w1.heap.size w1 V := by rw [hV]; exact below_alloc _ _
  have HA2 : Seal (BrAt V w1.heap.size BB v1) := ⟨brAt_row HL.out.2.2.1 HL.out.2.2.2 (by rw [hV, hC1]; exact heap_alloc_new w1 _)⟩
  have HA1 : Seal (BrAt V gx b v) := ⟨(HA1.out.below hbw).below hbv⟩
  have HV : Seal (Below w.heap.size w V ∧ IsC Ltr.C 38 V a1 BL.length c1 BL ∧ GoneAt V v1 BB.G) := ⟨(HB.out.trans (hbw.mono HB.out.size)).trans (hbv.mono (Nat.le_trans HB.out.size hbw.size)), hi1.out.1.below hbv, hi1.out.2.below hbv⟩
  have IC : Seal ((Tryz.prog.info? 50).map (·.size) = some C1.toArray.size ∧ Tryz.zeroCells50.size = C1.toArray.size ∧ C1.toArray.all (·.oneCell') = true) := ⟨by
    have hv1 : v1.oneCell' = true := by obtain ⟨_, _, e, _⟩ := hi1.out.2; rw [e]; rfl
    rw [hC1]
    exact ⟨by rw [List.size_toArray]; exact brC_info HL.out.2.2.1 HL.out.2.2.2 v1, by rw [brz_zs, List.size_toArray, List.size_toArray, len_brC HL.out.2.2.1 HL.out.2.2.2]; rfl, all_oneCell_toArray (brC_one _ hv1)⟩⟩
  rw [← hC1]
  obtain ⟨gy, hgy⟩ : ∃ g, g = w1.heap.size := ⟨_, rfl⟩
  have hgyn := hgy.symm
  rw [hgyn] at HA2 hVz hn5
  clear hi1 hbw hC1 hV hbv HBurn HB hgy
  have HCk : Seal (Calls Tryz.prog 13 #[.slice am nm cm] V fun e w' => e = .returned (.int .i64 k0) ∧ Below V.heap.size V w') := ⟨by rw [HT.out.2.2]; exact rcheck45_any am nm cm m V (HM.out V HV.out.1).1 (HM.out V HV.out.1).2.1 HMok.out⟩
  have HEq : Seal (∀ W, Below V.heap.size V W → Calls Tryz.prog 14 #[.slice a1 BL.length c1, .slice am nm cm] W fun e w' => e = .returned (.bool t0) ∧ Below W.heap.size W w') := ⟨fun W h => by rw [HT.out.1]; exact rsameK_any a1 am _ c1 nm cm BL m W (HV.out.2.1.below h) ((HM.out V HV.out.1).2.1.below h) (fun x hx => (HBLok.out x hx).t32) (fun x hx => (HMok.out x hx).t32)⟩
  have HIq : Seal (∀ W, Below V.heap.size V W → Calls Tryz.prog 19 #[.agg CB.toArray, .agg C1.toArray] W fun e w' => e = .returned (.bool t1) ∧ Below W.heap.size W w') := ⟨fun W h => by
    rw [HT.out.2.1, HCB.out, HC1.out]
    exact rsameB_any b BB v v1 W HL.out.1 HL.out.2.1 HL.out.2.2.1 HL.out.2.2.2 ((HM.out V HV.out.1).2.2.below h) (HV.out.2.2.below h)⟩
  have i1 : (Tryz.prog.info? 50).map (·.size) = some CB.length := by rw [HCB.out]; exact brC_info HL.out.1 HL.out.2.1 v
  have i2 : (Tryz.prog.info? 50).map (·.size) = some C1.length := by rw [HC1.out]; exact brC_info HL.out.2.2.1 HL.out.2.2.2 v1
  have KA : Seal (Ko V fun W => W.rangeAt gx 0 CB ∧ W.rangeAt gy 0 C1) := ⟨fun W h => by
    rw [HCB.out, HC1.out]
    exact ⟨(HA1.out.below h).all, (HA2.out.below h).all⟩⟩
  clear HA1 HA2
  have HE : Seal (Below w.heap.size w V) := ⟨HV.out.1⟩
  by_cases hz : e0 = 0
  · subst hz
    go_wp2_with
      ((try rw [hgyn]); refine wpList_store_row rfl 50 (.tmp 10) (.tmp 17) rfl gy C1.toArray rfl rfl 50 _ hn5 IC.out.1 IC.out.2.1 IC.out.2.2 ?_; rw [hVz]; clear hVz hn5 hgyn; (try simp only [Act.put]))
    refine HCk.out.mono ?_
    rintro e w2 ⟨rfl, hb⟩
    have HE : Seal (Below w.heap.size w w2) := ⟨HV.out.1.trans (hb.mono HV.out.1.size)⟩
    have HV2 := Seal.mk hb
    clear hb HCk
    by_cases hk : k0 = 0
    · subst hk
      go_wp2_with fail
      refine (HEq.out w2 HV2.out).mono ?_
      rintro e w3 ⟨rfl, hb⟩
      have HE : Seal (Below w.heap.size w w3) := ⟨HE.out.trans (hb.mono HE.out.size)⟩
      have HV3 := Seal.mk (HV2.out.trans (hb.mono HV2.out.size))
      have KV := KA.out w3 HV3.out
      clear hb HEq HV2
      cases t0 with
      | false =>
        clear KV i1 i2
        go_wp2
        go_ret
        exact ⟨by rw [HR.out]; simp, HE.out⟩
      | true =>
        go_wp2_with
          (first
            | (refine wpList_load_mid_g (by kernel_rfl) 50 (.tmp 7) rfl gx 0 rfl CB _ KV.1 ub rfl i1 ?_; (try simp only [Act.put, List.setIfInBounds_toArray, List.set_cons_zero, List.set_cons_succ]))
            | (refine wpList_load_mid_g (by kernel_rfl) 50 (.tmp 10) rfl gy 0 rfl C1 _ KV.2 ub rfl i2 ?_; (try simp only [Act.put, List.setIfInBounds_toArray, List.set_cons_zero, List.set_cons_succ])))
        refine (HIq.out w3 HV3.out).mono ?_
        rintro e w4 ⟨rfl, hb⟩
        have HE : Seal (Below w.heap.size w w4) := ⟨HE.out.trans (hb.mono HE.out.size)⟩
        clear hb HIq KV i1 i2
        go_wp2
        go_ret
        exact ⟨by rw [HR.out]; simp, HE.out⟩
    · have hk2 : decide (k0 = 0) = false := decide_eq_false hk
      have hk3 : (k0 == 0) = false := by rw [beq_eq_false_iff_ne]; exact hk
      go_wp2
      go_ret
      exact ⟨by rw [HR.out, hk2]; simp, HE.out⟩
  · have hz2 : decide (e0 = 0) = false := decide_eq_false hz
    have hz3 : (e0 == 0) = false := by rw [beq_eq_false_iff_ne]; exact hz
    go_wp2_with
      ((try rw [hgyn]); refine wpList_store_row rfl 50 (.tmp 10) (.tmp 17) rfl gy C1.toArray rfl rfl 50 _ hn5 IC.out.1 IC.out.2.1 IC.out.2.2 ?_; rw [hVz]; clear hVz hn5 hgyn; (try simp only [Act.put]))
    go_ret
    exact ⟨by rw [HR.out, hz2]; rfl, HE.out⟩
end Frk
