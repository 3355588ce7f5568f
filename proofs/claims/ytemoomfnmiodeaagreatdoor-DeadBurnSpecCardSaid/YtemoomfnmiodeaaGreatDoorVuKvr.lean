/- Law 45: SameBurnt, Verify. -/
import Derived.Test.YtemoomfnmiodeaaGreatDoorVuKvf
namespace Frk
open Go Go.RowKit Go.Proofs
set_option maxRecDepth 100000

def brnB (b c : Brn) : Bool := (b.B == c.B) && ((b.A == c.A) && decide (b.G = c.G))
set_option maxHeartbeats 4000000 in
theorem rsameB_any (b c : Brn) (v u : Value) (w : World) (hb1 : b.B.length = 32) (hb2 : b.A.length = 32) (hc1 : c.B.length = 32) (hc2 : c.A.length = 32) (hv : GoneAt w v b.G) (hu : GoneAt w u c.G) :
    Calls Tryz.prog 19 #[.agg (brC b v).toArray, .agg (brC c u).toArray] w fun e w' => e = .returned (.bool (brnB b c)) ∧ Below w.heap.size w w' := by
  obtain ⟨a1, n1, ev, hiv⟩ := hv
  obtain ⟨a2, n2, eu, hiu⟩ := hu
  obtain ⟨X1, hX1⟩ : ∃ X : World, X = w.alloc (.cells (brC b v).toArray 50) := ⟨_, rfl⟩
  obtain ⟨X, hX⟩ : ∃ X : World, X = X1.alloc (.cells (brC c u).toArray 50) := ⟨_, rfl⟩
  have b1 : Below w.heap.size w X1 := by rw [hX1]; exact below_alloc _ _
  have b2 : Below X1.heap.size X1 X := by rw [hX]; exact below_alloc _ _
  have s1 : X1.heap.size = w.heap.size + 1 := by rw [hX1, size_alloc]
  have A1 : BrAt X w.heap.size b v := (brAt_row hb1 hb2 (by rw [hX1]; exact heap_alloc_new w _)).below b2
  have A2 : BrAt X (w.heap.size + 1) c u := by rw [← s1]; exact brAt_row hc1 hc2 (by rw [hX]; exact heap_alloc_new X1 _)
  have HB : Seal (Below w.heap.size w X) := ⟨b1.trans (b2.mono b1.size)⟩
  have HI : Seal (Calls Tryz.prog 25 #[v, u] X fun e w' => e = .returned (.bool (decide (b.G = c.G))) ∧ Below X.heap.size X w') := ⟨by rw [ev, eu]; exact rsameI_any a1 a2 _ n1 _ n2 b.G c.G X (hiv.below HB.out) (hiu.below HB.out)⟩
  obtain ⟨t1, ht1⟩ : ∃ t, t = (b.B == c.B) := ⟨_, rfl⟩
  obtain ⟨t2, ht2⟩ : ∃ t, t = (b.A == c.A) := ⟨_, rfl⟩
  obtain ⟨t3, ht3⟩ : ∃ t, t = decide (b.G = c.G) := ⟨_, rfl⟩
  have HR : Seal (brnB b c = (t1 && (t2 && t3))) := ⟨by unfold brnB; rw [ht1, ht2, ht3]⟩
  obtain ⟨L1, hL1⟩ : ∃ L, L = b.B.map B := ⟨_, rfl⟩
  obtain ⟨L2, hL2⟩ : ∃ L, L = b.A.map B := ⟨_, rfl⟩
  obtain ⟨M1, hM1⟩ : ∃ L, L = c.B.map B := ⟨_, rfl⟩
  obtain ⟨M2, hM2⟩ : ∃ L, L = c.A.map B := ⟨_, rfl⟩
  have qe1 : ∀ w, (Op.equalIn 10000 26 (.agg L1.toArray) (.agg M1.toArray)).run Tryz.prog w = .ok t1 w := fun w => by rw [hL1, hM1, ht1]; exact eqDg _ _ hb1 hc1 w
  have qe2 : ∀ w, (Op.equalIn 10000 26 (.agg L2.toArray) (.agg M2.toArray)).run Tryz.prog w = .ok t2 w := fun w => by rw [hL2, hM2, ht2]; exact eqDg _ _ hb2 hc2 w
  have i1 : (Tryz.prog.info? 26).map (·.size) = some L1.length := by rw [hL1]; exact dg_info _ hb1
  have i2 : (Tryz.prog.info? 26).map (·.size) = some L2.length := by rw [hL2]; exact dg_info _ hb2
  have i3 : (Tryz.prog.info? 26).map (·.size) = some M1.length := by rw [hM1]; exact dg_info _ hc1
  have i4 : (Tryz.prog.info? 26).map (·.size) = some M2.length := by rw [hM2]; exact dg_info _ hc2
  have ud := Tryz.underlying26
  have r1 := A1.rB
  have r2 := A1.rA
  have r3 := A2.rB
  have r4 := A2.rA
  have c1 := A1.cG
  have c2 := A2.cG
  rw [← hL1] at r1
  rw [← hL2] at r2
  rw [← hM1] at r3
  rw [← hM2] at r4
  rw [← ht3] at HI
  have hXX : X = (w.alloc (.cells (brC b v).toArray 50)).alloc (.cells (brC c u).toArray 50) := by rw [hX, hX1]
  obtain ⟨CB, hCB⟩ : ∃ L, L = (brC b v).toArray := ⟨_, rfl⟩
  obtain ⟨CC, hCC⟩ : ∃ L, L = (brC c u).toArray := ⟨_, rfl⟩
  rw [← hCB, ← hCC] at hXX ⊢
  clear hX hX1 b1 b2 s1 A1 A2 hb1 hb2 hc1 hc2 hiv hiu ev eu ht1 ht2 ht3 hL1 hL2 hM1 hM2 hCB hCC
  go_enter Tryz.func19, Tryz.ntmps19
  go_upto_region 1 with (fail)
  rw [← hXX]
  clear hXX
  cases t1 with
  | false =>
    go_wp2_with
      (first
        | (refine wpList_load_mid_g (by kernel_rfl) 26 (.tmp 5) rfl w.heap.size 0 rfl L1 _ r1 ud rfl i1 ?_; (try simp only [Act.put, List.setIfInBounds_toArray, List.set_cons_zero, List.set_cons_succ]))
        | (refine wpList_load_mid_g (by kernel_rfl) 26 (.tmp 7) rfl (w.heap.size + 1) 0 rfl M1 _ r3 ud rfl i3 ?_; (try simp only [Act.put, List.setIfInBounds_toArray, List.set_cons_zero, List.set_cons_succ]))
        | (refine wpList_load_mid_g (by kernel_rfl) 26 (.tmp 11) rfl w.heap.size 32 rfl L2 _ r2 ud rfl i2 ?_; (try simp only [Act.put, List.setIfInBounds_toArray, List.set_cons_zero, List.set_cons_succ]))
        | (refine wpList_load_mid_g (by kernel_rfl) 26 (.tmp 13) rfl (w.heap.size + 1) 32 rfl M2 _ r4 ud rfl i4 ?_; (try simp only [Act.put, List.setIfInBounds_toArray, List.set_cons_zero, List.set_cons_succ])))
    go_ret
    exact ⟨by rw [HR.out]; rfl, HB.out⟩
  | true =>
    cases t2 with
    | false =>
      go_wp2_with
        (first
          | (refine wpList_load_mid_g (by kernel_rfl) 26 (.tmp 5) rfl w.heap.size 0 rfl L1 _ r1 ud rfl i1 ?_; (try simp only [Act.put, List.setIfInBounds_toArray, List.set_cons_zero, List.set_cons_succ]))
          | (refine wpList_load_mid_g (by kernel_rfl) 26 (.tmp 7) rfl (w.heap.size + 1) 0 rfl M1 _ r3 ud rfl i3 ?_; (try simp only [Act.put, List.setIfInBounds_toArray, List.set_cons_zero, List.set_cons_succ]))
          | (refine wpList_load_mid_g (by kernel_rfl) 26 (.tmp 11) rfl w.heap.size 32 rfl L2 _ r2 ud rfl i2 ?_; (try simp only [Act.put, List.setIfInBounds_toArray, List.set_cons_zero, List.set_cons_succ]))
          | (refine wpList_load_mid_g (by kernel_rfl) 26 (.tmp 13) rfl (w.heap.size + 1) 32 rfl M2 _ r4 ud rfl i4 ?_; (try simp only [Act.put, List.setIfInBounds_toArray, List.set_cons_zero, List.set_cons_succ])))
      go_ret
      exact ⟨by rw [HR.out]; rfl, HB.out⟩
    | true =>
      go_wp2_with
        (first
          | (refine wpList_load_mid_g (by kernel_rfl) 26 (.tmp 5) rfl w.heap.size 0 rfl L1 _ r1 ud rfl i1 ?_; (try simp only [Act.put, List.setIfInBounds_toArray, List.set_cons_zero, List.set_cons_succ]))
          | (refine wpList_load_mid_g (by kernel_rfl) 26 (.tmp 7) rfl (w.heap.size + 1) 0 rfl M1 _ r3 ud rfl i3 ?_; (try simp only [Act.put, List.setIfInBounds_toArray, List.set_cons_zero, List.set_cons_succ]))
          | (refine wpList_load_mid_g (by kernel_rfl) 26 (.tmp 11) rfl w.heap.size 32 rfl L2 _ r2 ud rfl i2 ?_; (try simp only [Act.put, List.setIfInBounds_toArray, List.set_cons_zero, List.set_cons_succ]))
          | (refine wpList_load_mid_g (by kernel_rfl) 26 (.tmp 13) rfl (w.heap.size + 1) 32 rfl M2 _ r4 ud rfl i4 ?_; (try simp only [Act.put, List.setIfInBounds_toArray, List.set_cons_zero, List.set_cons_succ])))
      refine HI.out.mono ?_
      rintro e w1 ⟨rfl, hb⟩
      have HB1 := Seal.mk (HB.out.trans (hb.mono HB.out.size))
      clear hb HI r1 r2 r3 r4 c1 c2
      go_wp2
      go_ret
      exact ⟨by rw [HR.out]; simp, HB1.out⟩

/-- is a proof right? -/
def verB (l m : List Ltr) (t : Int) (b : Brn) : Bool := decide (burnE l t = 0) && (decide (chkL m = 0) && (decide (burnL l t = m) && brnB b (burnB l t)))

set_option maxHeartbeats 8000000 in
theorem kverify_any (a am : Option Addr) (n c nm cm : Nat) (l m : List Ltr) (t : Int) (b : Brn) (v : Value) (w : World) (hG : Glob w) (hd : IsC Ltr.C 38 w a n c l) (hok : ∀ x ∈ l, x.ok) (hn : n ≤ 100) (hm : IsC Ltr.C 38 w am nm cm m) (hmok : ∀ x ∈ m, x.ok)
    (hb1 : b.B.length = 32) (hb2 : b.A.length = 32) (hv : GoneAt w v b.G) :
    Calls Tryz.prog 20 #[.slice a n c, .slice am nm cm, .int .i64 t, .agg (brC b v).toArray] w fun e w' => e = .returned (.bool (verB l m t b)) ∧ Below w.heap.size w w' := by
  obtain ⟨X, hX⟩ : ∃ X : World, X = w.alloc (.cells (brC b v).toArray 50) := ⟨_, rfl⟩
  have HB : Seal (Below w.heap.size w X) := ⟨by rw [hX]; exact below_alloc _ _⟩
  have HA1 : Seal (BrAt X w.heap.size b v) := ⟨brAt_row hb1 hb2 (by rw [hX]; exact heap_alloc_new w _)⟩
  have HBurn := Seal.mk (kburn_any a n c l t X (hG.below HB.out) (hd.below HB.out) hok hn)
  have HM : Seal (∀ W, Below w.heap.size w W → Glob W ∧ IsC Ltr.C 38 W am nm cm m ∧ GoneAt W v b.G) := ⟨fun W h => ⟨hG.below h, hm.below h, hv.below h⟩⟩
  have HMok := Seal.mk hmok
  obtain ⟨e0, he0⟩ : ∃ e, e = burnE l t := ⟨_, rfl⟩
  obtain ⟨BL, hBL⟩ : ∃ e, e = burnL l t := ⟨_, rfl⟩
  obtain ⟨BB, hBB⟩ : ∃ e, e = burnB l t := ⟨_, rfl⟩
  have hBl := burnB_len l t
  have HBLok : Seal (∀ x ∈ BL, x.ok) := ⟨fun x hx => by
    rw [hBL] at hx
    unfold burnL at hx
    split at hx
    · exact hok x (List.mem_filter.1 hx).1
    · cases hx⟩
  obtain ⟨k0, hk0⟩ : ∃ e, e = chkL m := ⟨_, rfl⟩
  obtain ⟨t0, ht0⟩ : ∃ e, e = decide (BL = m) := ⟨_, rfl⟩
  rw [← hBL, ← hBB, ← he0] at HBurn
  rw [← hBB] at hBl
  obtain ⟨t1, ht1⟩ : ∃ e, e = (b.B == BB.B) := ⟨_, rfl⟩
  obtain ⟨t2, ht2⟩ : ∃ e, e = (b.A == BB.A) := ⟨_, rfl⟩
  obtain ⟨t3, ht3⟩ : ∃ e, e = decide (b.G = BB.G) := ⟨_, rfl⟩
  have HR : Seal (verB l m t b = (decide (e0 = 0) && (decide (k0 = 0) && (t0 && (t1 && (t2 && t3)))))) := ⟨by unfold verB brnB; rw [ht0, ht1, ht2, ht3, hk0, he0, hBL, hBB]⟩
  have HL : Seal (b.B.length = 32 ∧ b.A.length = 32 ∧ BB.B.length = 32 ∧ BB.A.length = 32) := ⟨hb1, hb2, hBl.1, hBl.2⟩
  obtain ⟨CB, hCB⟩ : ∃ L, L = (brC b v).toArray := ⟨_, rfl⟩
  have HT := Seal.mk (And.intro ht0 (And.intro ht1 (And.intro ht2 (And.intro ht3 hk0))))
  have ud := Tryz.underlying26
  obtain ⟨RV, hRV⟩ : ∃ r, r = verB l m t b := ⟨_, rfl⟩
  rw [← hRV] at HR ⊢
  rw [← hCB] at hX ⊢
  clear hG hd hok hn hm hmok hb1 hb2 hv he0 hBL hBB hBl hk0 ht0 ht1 ht2 ht3 hCB hRV
  go_enter Tryz.func20, Tryz.ntmps20
  go_upto_region 1 with (fail)
  rw [← hX]
  clear hX
  obtain ⟨gx, hgx⟩ : ∃ g, g = w.heap.size := ⟨_, rfl⟩
  rw [← hgx] at HA1 ⊢
  clear hgx
  go_wp2_with fail
  refine HBurn.out.mono ?_
  rintro e w1 ⟨a1, c1, v1, rfl, hi1, hbw⟩
  obtain ⟨C1, hC1⟩ : ∃ L, L = brC BB v1 := ⟨_, rfl⟩
  obtain ⟨V, hV⟩ : ∃ V, V = w1.alloc (.cells C1.toArray 50) := ⟨_, rfl⟩
  have hVz : (w1.alloc (.cells Tryz.zeroCells50 50)).setRow w1.heap.size C1.toArray = V := by rw [hV, brz_zs]; exact setRow_new w1 _ C1 _
  have hn5 := heap_alloc_new w1 (.cells Tryz.zeroCells50 50)
  have hbv : Below w1.heap.size w1 V := by rw [hV]; exact below_alloc _ _
  have HA2 : Seal (BrAt V w1.heap.size BB v1) := ⟨brAt_row HL.out.2.2.1 HL.out.2.2.2 (by rw [hV, hC1]; exact heap_alloc_new w1 _)⟩
  have HA1 : Seal (BrAt V gx b v) := ⟨(HA1.out.below hbw).below hbv⟩
  have HV : Seal (Below w.heap.size w V ∧ IsC Ltr.C 38 V a1 BL.length c1 BL ∧ GoneAt V v1 BB.G) := ⟨(HB.out.trans (hbw.mono HB.out.size)).trans (hbv.mono (Nat.le_trans HB.out.size hbw.size)), hi1.out.1.below hbv, hi1.out.2.below hbv⟩
  have IC : Seal ((Tryz.prog.info? 50).map (·.size) = some C1.toArray.size ∧ Tryz.zeroCells50.size = C1.toArray.size ∧ C1.toArray.all (·.oneCell') = true) := ⟨by
    have hv1 : v1.oneCell' = true := by obtain ⟨_, _, e, _⟩ := hi1.out.2; rw [e]; rfl
    rw [hC1]
    exact ⟨by rw [List.size_toArray]; exact brC_info HL.out.2.2.1 HL.out.2.2.2 v1, by rw [brz_zs, List.size_toArray, List.size_toArray, len_brC HL.out.2.2.1 HL.out.2.2.2]; rfl, all_oneCell_toArray (brC_one _ hv1)⟩⟩
  rw [← hC1]
  obtain ⟨gy, hgy⟩ : ∃ g, g = w1.heap.size := ⟨_, rfl⟩
  have hgyn := hgy.symm
  rw [hgyn] at HA2 hVz hn5
  clear hi1 hbw hC1 hV hbv HBurn HB hgy
  have HCk : Seal (Calls Tryz.prog 12 #[.slice am nm cm] V fun e w' => e = .returned (.int .i64 k0) ∧ Below V.heap.size V w') := ⟨by rw [HT.out.2.2.2.2]; exact kchk_any am nm cm m V (HM.out V HV.out.1).1 (HM.out V HV.out.1).2.1 HMok.out⟩
  have HEq : Seal (∀ W, Below V.heap.size V W → Calls Tryz.prog 41 #[.slice a1 BL.length c1, .slice am nm cm] W fun e w' => e = .returned (.bool t0) ∧ Below W.heap.size W w') := ⟨fun W h => by rw [HT.out.1]; exact keq_any a1 am _ c1 nm cm BL m W (HV.out.2.1.below h) ((HM.out V HV.out.1).2.1.below h) (fun x hx => (HBLok.out x hx).t32) (fun x hx => (HMok.out x hx).t32)⟩
  have HIq : Seal (∀ W, Below V.heap.size V W → Calls Tryz.prog 42 #[v, v1] W fun e w' => e = .returned (.bool t3) ∧ Below W.heap.size W w') := ⟨fun W h => by
    rw [HT.out.2.2.2.1]
    obtain ⟨p1, p2, ep, hp⟩ := (HM.out V HV.out.1).2.2
    obtain ⟨s1, s2, es, hs⟩ := HV.out.2.2
    rw [ep, es]
    exact ieq_any p1 s1 _ p2 _ s2 b.G BB.G W (hp.below h) (hs.below h)⟩
  obtain ⟨L1, hL1⟩ : ∃ L, L = b.B.map B := ⟨_, rfl⟩
  obtain ⟨L2, hL2⟩ : ∃ L, L = b.A.map B := ⟨_, rfl⟩
  obtain ⟨M1, hM1⟩ : ∃ L, L = BB.B.map B := ⟨_, rfl⟩
  obtain ⟨M2, hM2⟩ : ∃ L, L = BB.A.map B := ⟨_, rfl⟩
  have qe1 : ∀ w, (Op.equalIn 10000 26 (.agg L1.toArray) (.agg M1.toArray)).run Tryz.prog w = .ok t1 w := fun w => by rw [hL1, hM1, HT.out.2.1]; exact eqDg _ _ HL.out.1 HL.out.2.2.1 w
  have qe2 : ∀ w, (Op.equalIn 10000 26 (.agg L2.toArray) (.agg M2.toArray)).run Tryz.prog w = .ok t2 w := fun w => by rw [hL2, hM2, HT.out.2.2.1]; exact eqDg _ _ HL.out.2.1 HL.out.2.2.2 w
  have i1 : (Tryz.prog.info? 26).map (·.size) = some L1.length := by rw [hL1]; exact dg_info _ HL.out.1
  have i2 : (Tryz.prog.info? 26).map (·.size) = some L2.length := by rw [hL2]; exact dg_info _ HL.out.2.1
  have i3 : (Tryz.prog.info? 26).map (·.size) = some M1.length := by rw [hM1]; exact dg_info _ HL.out.2.2.1
  have i4 : (Tryz.prog.info? 26).map (·.size) = some M2.length := by rw [hM2]; exact dg_info _ HL.out.2.2.2
  have KA : Seal (Ko V fun W => W.rangeAt gx 0 L1 ∧ W.rangeAt gx 32 L2 ∧ W.rangeAt gy 0 M1 ∧ W.rangeAt gy 32 M2 ∧ W.cell? ⟨gx, 64, none⟩ = some v ∧ W.cell? ⟨gy, 64, none⟩ = some v1) := ⟨fun W h => by
    have h1 := HA1.out.below h
    have h2 := HA2.out.below h
    rw [hL1, hL2, hM1, hM2]
    exact ⟨h1.rB, h1.rA, h2.rB, h2.rA, h1.cG, h2.cG⟩⟩
  clear hL1 hL2 hM1 hM2 HA1 HA2
  have HE : Seal (Below w.heap.size w V) := ⟨HV.out.1⟩
  by_cases hz : e0 = 0
  · subst hz
    go_wp2_with ((try rw [hgyn]); refine wpList_store_row rfl 50 (.tmp 10) (.tmp 17) rfl gy C1.toArray rfl rfl 50 _ hn5 IC.out.1 IC.out.2.1 IC.out.2.2 ?_; rw [hVz]; clear hVz hn5 hgyn; (try simp only [Act.put]))
    refine HCk.out.mono ?_
    rintro e w2 ⟨rfl, hb⟩
    have HE : Seal (Below w.heap.size w w2) := ⟨HV.out.1.trans (hb.mono HV.out.1.size)⟩
    have HV2 := Seal.mk hb
    clear hb HCk
    by_cases hk : k0 = 0
    · subst hk
      go_wp2_with fail
      refine (HEq.out w2 HV2.out).mono ?_
      rintro e w3 ⟨rfl, hb⟩
      have HE : Seal (Below w.heap.size w w3) := ⟨HE.out.trans (hb.mono HE.out.size)⟩
      have HV3 := Seal.mk (HV2.out.trans (hb.mono HV2.out.size))
      have KV := KA.out w3 HV3.out
      have c1 := KV.2.2.2.2.1
      have c2 := KV.2.2.2.2.2
      clear hb HEq HV2
      cases t0 with
      | false =>
        go_wp2
        go_ret
        exact ⟨by rw [HR.out]; simp, HE.out⟩
      | true =>
        cases t1 with
        | false =>
          go_wp2_with
            (first
              | (refine wpList_load_mid_g (by kernel_rfl) 26 (.tmp 32) rfl gx 0 rfl L1 _ KV.1 ud rfl i1 ?_; (try simp only [Act.put, List.setIfInBounds_toArray, List.set_cons_zero, List.set_cons_succ]))
              | (refine wpList_load_mid_g (by kernel_rfl) 26 (.tmp 34) rfl gy 0 rfl M1 _ KV.2.2.1 ud rfl i3 ?_; (try simp only [Act.put, List.setIfInBounds_toArray, List.set_cons_zero, List.set_cons_succ]))
              | (refine wpList_load_mid_g (by kernel_rfl) 26 (.tmp 39) rfl gx 32 rfl L2 _ KV.2.1 ud rfl i2 ?_; (try simp only [Act.put, List.setIfInBounds_toArray, List.set_cons_zero, List.set_cons_succ]))
              | (refine wpList_load_mid_g (by kernel_rfl) 26 (.tmp 41) rfl gy 32 rfl M2 _ KV.2.2.2.1 ud rfl i4 ?_; (try simp only [Act.put, List.setIfInBounds_toArray, List.set_cons_zero, List.set_cons_succ])))
          go_ret
          exact ⟨by rw [HR.out]; simp, HE.out⟩
        | true =>
          cases t2 with
          | false =>
            go_wp2_with
              (first
                | (refine wpList_load_mid_g (by kernel_rfl) 26 (.tmp 32) rfl gx 0 rfl L1 _ KV.1 ud rfl i1 ?_; (try simp only [Act.put, List.setIfInBounds_toArray, List.set_cons_zero, List.set_cons_succ]))
                | (refine wpList_load_mid_g (by kernel_rfl) 26 (.tmp 34) rfl gy 0 rfl M1 _ KV.2.2.1 ud rfl i3 ?_; (try simp only [Act.put, List.setIfInBounds_toArray, List.set_cons_zero, List.set_cons_succ]))
                | (refine wpList_load_mid_g (by kernel_rfl) 26 (.tmp 39) rfl gx 32 rfl L2 _ KV.2.1 ud rfl i2 ?_; (try simp only [Act.put, List.setIfInBounds_toArray, List.set_cons_zero, List.set_cons_succ]))
                | (refine wpList_load_mid_g (by kernel_rfl) 26 (.tmp 41) rfl gy 32 rfl M2 _ KV.2.2.2.1 ud rfl i4 ?_; (try simp only [Act.put, List.setIfInBounds_toArray, List.set_cons_zero, List.set_cons_succ])))
            go_ret
            exact ⟨by rw [HR.out]; simp, HE.out⟩
          | true =>
            go_wp2_with
              (first
                | (refine wpList_load_mid_g (by kernel_rfl) 26 (.tmp 32) rfl gx 0 rfl L1 _ KV.1 ud rfl i1 ?_; (try simp only [Act.put, List.setIfInBounds_toArray, List.set_cons_zero, List.set_cons_succ]))
                | (refine wpList_load_mid_g (by kernel_rfl) 26 (.tmp 34) rfl gy 0 rfl M1 _ KV.2.2.1 ud rfl i3 ?_; (try simp only [Act.put, List.setIfInBounds_toArray, List.set_cons_zero, List.set_cons_succ]))
                | (refine wpList_load_mid_g (by kernel_rfl) 26 (.tmp 39) rfl gx 32 rfl L2 _ KV.2.1 ud rfl i2 ?_; (try simp only [Act.put, List.setIfInBounds_toArray, List.set_cons_zero, List.set_cons_succ]))
                | (refine wpList_load_mid_g (by kernel_rfl) 26 (.tmp 41) rfl gy 32 rfl M2 _ KV.2.2.2.1 ud rfl i4 ?_; (try simp only [Act.put, List.setIfInBounds_toArray, List.set_cons_zero, List.set_cons_succ])))
            refine (HIq.out w3 HV3.out).mono ?_
            rintro e w4 ⟨rfl, hb⟩
            have HE : Seal (Below w.heap.size w w4) := ⟨HE.out.trans (hb.mono HE.out.size)⟩
            clear hb HIq KV c1 c2
            go_wp2
            go_ret
            exact ⟨by rw [HR.out]; simp, HE.out⟩
    · have hk2 : decide (k0 = 0) = false := decide_eq_false hk
      have hk3 : (k0 == 0) = false := by rw [beq_eq_false_iff_ne]; exact hk
      go_wp2
      go_ret
      exact ⟨by rw [HR.out, hk2]; simp, HE.out⟩
  · have hz2 : decide (e0 = 0) = false := decide_eq_false hz
    have hz3 : (e0 == 0) = false := by rw [beq_eq_false_iff_ne]; exact hz
    go_wp2_with ((try rw [hgyn]); refine wpList_store_row rfl 50 (.tmp 10) (.tmp 17) rfl gy C1.toArray rfl rfl 50 _ hn5 IC.out.1 IC.out.2.1 IC.out.2.2 ?_; rw [hVz]; clear hVz hn5 hgyn; (try simp only [Act.put]))
    go_ret
    exact ⟨by rw [HR.out, hz2]; rfl, HE.out⟩
end Frk
