/- Law 45: DeadBurnSpec's walk. -/
import Derived.Test.YtemoomfnmiodeaaGreatDoorVuKsv
import Derived.Test.YtemoomfnmiodeaaGreatDoorVuRbv
namespace Frk
open Go Go.RowKit Go.Proofs
set_option maxRecDepth 100000

set_option maxHeartbeats 16000000 in
theorem law_deadBurnSpec (a am ag : Option Addr) (n c nm cm ng cg : Nat) (l m : List Ltr) (t : Int) (b : Brn) (w : World) (hG : Glob w) (hl : n ≤ 5000 → IsC Ltr.C 38 w a n c l) (hok : ∀ x ∈ l, x.ok) (hm : nm ≤ 5000 → IsC Ltr.C 38 w am nm cm m) (hmok : ∀ x ∈ m, x.ok)
    (hb1 : b.B.length = 32) (hb2 : b.A.length = 32) (hg : ng ≤ 5000 → IsIs w ag ng cg b.G) :
    Calls Tryz.prog 5 #[.slice a n c, .slice am nm cm, .int .i64 t, .agg (brC b (.slice ag ng cg)).toArray] w fun e w' => e = .returned (.bool true) ∧ Below w.heap.size w w' := by
  obtain ⟨X, hX⟩ : ∃ X : World, X = w.alloc (.cells (brC b (.slice ag ng cg)).toArray 50) := ⟨_, rfl⟩
  have HB : Seal (Below w.heap.size w X) := ⟨by rw [hX]; exact below_alloc _ _⟩
  have hp : BrAt X w.heap.size b (.slice ag ng cg) := brAt_row hb1 hb2 (by rw [hX]; exact heap_alloc_new w _)
  have HG : Seal (∀ W, Below w.heap.size w W → Glob W) := ⟨fun W h => hG.below h⟩
  have HL : Seal (∀ W, Below w.heap.size w W → n ≤ 12 → IsC Ltr.C 38 W a n c l) := ⟨fun W h hn => (hl (by omega)).below h⟩
  have HM : Seal (∀ W, Below w.heap.size w W → nm ≤ 12 → IsC Ltr.C 38 W am nm cm m) := ⟨fun W h hn => (hm (by omega)).below h⟩
  have HI : Seal (∀ W, Below w.heap.size w W → ng ≤ 100 → IsIs W ag ng cg b.G) := ⟨fun W h hn => (hg (by omega)).below h⟩
  have HOK : Seal ((∀ x ∈ l, x.ok) ∧ ∀ x ∈ m, x.ok) := ⟨hok, hmok⟩
  have H32 : Seal (b.B.length = 32 ∧ b.A.length = 32) := ⟨hb1, hb2⟩
  obtain ⟨gp, hgp⟩ : ∃ g, g = w.heap.size := ⟨_, rfl⟩
  rw [← hgp] at hp
  have KP : Seal (Ko X fun W => BrAt W gp b (.slice ag ng cg)) := ⟨fun W h => hp.below h⟩
  obtain ⟨CB, hCB⟩ : ∃ L, L = brC b (.slice ag ng cg) := ⟨_, rfl⟩
  have HCB := Seal.mk hCB
  have IB : Seal ((Tryz.prog.info? 50).map (·.size) = some CB.length) := ⟨by rw [hCB]; exact brC_info hb1 hb2 _⟩
  have ub := Tryz.underlying50
  rw [← hCB] at hX ⊢
  clear hG hl hok hm hmok hb1 hb2 hg hp hCB
  go_enter Tryz.func5, Tryz.ntmps5
  go_upto_region 1 with (fail)
  rw [← hX, ← hgp]
  clear hX hgp
  go_wp2_with fail
  refine (sane45_any X (HG.out _ HB.out)).mono ?_
  rintro e w1 ⟨rfl, hb⟩
  have HB := Seal.mk (HB.out.trans ((hb).mono HB.out.size))
  have KP := Seal.mk (KP.out.step (hb))
  clear hb
  have c64 := KP.out.at.cG
  go_wp2_with fail
  refine (kfew_any a n c w1).mono ?_
  rintro e w2 ⟨rfl, rfl⟩
  by_cases hn : n ≤ 12
  rotate_left
  · have q1 : decide (n ≤ 12) = false := decide_eq_false hn
    rw [q1]
    go_wp2
    go_ret
    exact ⟨rfl, HB.out⟩
  · have q1 : decide (n ≤ 12) = true := decide_eq_true hn
    rw [q1]
    clear q1
    go_wp2_with fail
    refine (kfew_any am nm cm w1).mono ?_
    rintro e w2 ⟨rfl, rfl⟩
    by_cases hnm : nm ≤ 12
    rotate_left
    · have q1 : decide (nm ≤ 12) = false := decide_eq_false hnm
      rw [q1]
      go_wp2
      go_ret
      exact ⟨rfl, HB.out⟩
    · have q1 : decide (nm ≤ 12) = true := decide_eq_true hnm
      rw [q1]
      clear q1
      by_cases hng : 100 < ng
      · have q2 : (100 : Int) < (ng : Int) := by omega
        go_wp2
        go_ret
        exact ⟨rfl, HB.out⟩
      · have q2 : ¬ (100 : Int) < (ng : Int) := by omega
        have HN : Seal (n ≤ 12 ∧ nm ≤ 12 ∧ ng ≤ 100) := ⟨hn, hnm, by omega⟩
        clear hn hnm hng
        obtain ⟨RE, hRE⟩ : ∃ e, e = burnE l t := ⟨_, rfl⟩
        obtain ⟨RL, hRL⟩ : ∃ e, e = burnL l t := ⟨_, rfl⟩
        obtain ⟨RB, hRB⟩ : ∃ e, e = burnB l t := ⟨_, rfl⟩
        have hBl := burnB_len l t
        rw [← hRB] at hBl
        have HR : Seal (RE = burnE l t ∧ RL = burnL l t ∧ RB = burnB l t ∧ RB.B.length = 32 ∧ RB.A.length = 32 ∧ ∀ x ∈ RL, x.ok) := ⟨hRE, hRL, hRB, hBl.1, hBl.2, fun x hx => by
          rw [hRL] at hx
          unfold burnL at hx
          split at hx
          · exact HOK.out.1 x (List.mem_filter.1 hx).1
          · cases hx⟩
        have hk : Calls Tryz.prog 17 #[.slice a n c, .int .i64 t] w1 (fun e w' => ∃ a n c v, e = .returned (.tuple #[.slice a n c, .agg (brC RB v).toArray, .int .i64 RE]) ∧ Seal (IsC Ltr.C 38 w' a n c RL ∧ GoneAt w' v RB.G) ∧ Below w1.heap.size w1 w') := by
          have h := kburn_any a n c l t w1 (HG.out _ HB.out) (HL.out _ HB.out HN.out.1) HOK.out.1 (by have := HN.out.1; omega)
          rw [← hRE, ← hRL, ← hRB] at h
          exact h.mono fun e w' hp => burnPost_c hp
        clear hRE hRL hRB hBl
        go_wp2_with fail
        refine hk.mono ?_
        rintro e w2 ⟨a9, n9, c9, v9, rfl, hi, hb⟩
        have HB := Seal.mk (HB.out.trans ((hb).mono HB.out.size))
        have KP := Seal.mk (KP.out.step (hb))
        have K9 := Seal.mk (ko_isC hi.out.1)
        have KG := Seal.mk (ko_gone hi.out.2)
        clear hk hi hb c64
        obtain ⟨BC, hBC⟩ : ∃ L, L = brC RB v9 := ⟨_, rfl⟩
        have HBC := Seal.mk hBC
        have IC : Seal ((Tryz.prog.info? 50).map (·.size) = some BC.length ∧ Tryz.zeroCells50.size = BC.toArray.size ∧ BC.toArray.all (·.oneCell') = true) := ⟨by rw [hBC]; exact ⟨brC_info HR.out.2.2.2.1 HR.out.2.2.2.2.1 v9, by rw [brz_zs, List.size_toArray, List.size_toArray, len_brC HR.out.2.2.2.1 HR.out.2.2.2.2.1]; rfl, brn_all KG.out.at.form⟩⟩
        rw [← hBC]
        clear hBC
        obtain ⟨V, g10, hg, n1, n2, n3, n4, n5, n6⟩ := newv w2 Tryz.zeroCells50 BC 50
        have HB := Seal.mk (HB.out.trans ((n4).mono HB.out.size))
        have KP := Seal.mk (KP.out.step (n4))
        have K9 := Seal.mk (K9.out.step n4)
        have KG := Seal.mk (KG.out.step n4)
        have K10 := Seal.mk n3
        have hgn := hg.symm
        clear hg n3 n4 n5 n6
        have hk : Calls Tryz.prog 18 #[.slice a n c, .int .i64 t] V (fun e w' => ∃ a n c v, e = .returned (.tuple #[.slice a n c, .agg (brC RB v).toArray, .int .i64 RE]) ∧ Seal (IsC Ltr.C 38 w' a n c RL ∧ GoneAt w' v RB.G) ∧ Below V.heap.size V w') := by
          have h := rburn45_any a n c l t V (HG.out _ HB.out) (HL.out _ HB.out HN.out.1) HOK.out.1 (by have := HN.out.1; omega)
          rw [← HR.out.1, ← HR.out.2.1, ← HR.out.2.2.1] at h
          exact h.mono fun e w' hp => burnPost_c hp
        go_wp2_with (refine wpList_store_row rfl 50 (.tmp 10) (.tmp 36) rfl g10 BC.toArray rfl rfl 50 _ n2 (by simpa using IC.out.1) IC.out.2.1 IC.out.2.2 ?_; rw [n1]; clear n1 n2 hgn; (try simp only [Act.put]))
        refine hk.mono ?_
        rintro e w3 ⟨a12, n12, c12, v12, rfl, hi, hb⟩
        have HB := Seal.mk (HB.out.trans ((hb).mono HB.out.size))
        have KP := Seal.mk (KP.out.step (hb))
        have K9 := Seal.mk (K9.out.step hb)
        have KG := Seal.mk (KG.out.step hb)
        have K10 := Seal.mk (K10.out.step hb)
        have K12 := Seal.mk (ko_isC hi.out.1)
        have KH := Seal.mk (ko_gone hi.out.2)
        clear hk hi hb
        obtain ⟨BD, hBC⟩ : ∃ L, L = brC RB v12 := ⟨_, rfl⟩
        have HBD := Seal.mk hBC
        have ID : Seal ((Tryz.prog.info? 50).map (·.size) = some BD.length ∧ Tryz.zeroCells50.size = BD.toArray.size ∧ BD.toArray.all (·.oneCell') = true) := ⟨by rw [hBC]; exact ⟨brC_info HR.out.2.2.2.1 HR.out.2.2.2.2.1 v12, by rw [brz_zs, List.size_toArray, List.size_toArray, len_brC HR.out.2.2.2.1 HR.out.2.2.2.2.1]; rfl, brn_all KH.out.at.form⟩⟩
        rw [← hBC]
        clear hBC
        obtain ⟨Z, g13, hg, n1, n2, n3, n4, n5, n6⟩ := newv w3 Tryz.zeroCells50 BD 50
        have HB := Seal.mk (HB.out.trans ((n4).mono HB.out.size))
        have KP := Seal.mk (KP.out.step (n4))
        have K9 := Seal.mk (K9.out.step n4)
        have KG := Seal.mk (KG.out.step n4)
        have K10 := Seal.mk (K10.out.step n4)
        have K12 := Seal.mk (K12.out.step n4)
        have KH := Seal.mk (KH.out.step n4)
        have K13 := Seal.mk n3
        have hgn := hg.symm
        clear hg n3 n4 n5 n6
        obtain ⟨vb, hvb⟩ : ∃ v, v = verB l m t b := ⟨_, rfl⟩
        have HC1 : Seal (∀ W, Below Z.heap.size Z W → Calls Tryz.prog 14 #[.slice a9 n9 c9, .slice a12 n12 c12] W fun e w' => e = .returned (.bool true) ∧ Below W.heap.size W w') := ⟨fun W hW => by
          have h := rsameK_any a9 a12 n9 c9 n12 c12 RL RL W (K9.out W hW) (K12.out W hW) (fun z hz => (HR.out.2.2.2.2.2 z hz).t32) (fun z hz => (HR.out.2.2.2.2.2 z hz).t32)
          rwa [decide_eq_true rfl] at h⟩
        have HC2 : Seal (∀ W, Below Z.heap.size Z W → Calls Tryz.prog 19 #[.agg BC.toArray, .agg BD.toArray] W fun e w' => e = .returned (.bool true) ∧ Below W.heap.size W w') := ⟨fun W hW => by
          have h := rsameB_any RB RB v9 v12 W HR.out.2.2.2.1 HR.out.2.2.2.2.1 HR.out.2.2.2.1 HR.out.2.2.2.2.1 (KG.out W hW) (KH.out W hW)
          rw [show brnB RB RB = true from by unfold brnB; simp] at h
          rw [HBC.out, HBD.out]
          exact h⟩
        have HC3 : Seal (∀ W, Below w.heap.size w W → Calls Tryz.prog 20 #[.slice a n c, .slice am nm cm, .int .i64 t, .agg CB.toArray] W fun e w' => e = .returned (.bool vb) ∧ Below W.heap.size W w') := ⟨fun W hW => by
          have hi := HI.out _ hW HN.out.2.2
          have e : ng = b.G.length := hi.llen.symm
          have h := kverify_any a am n c nm cm l m t b (.slice ag ng cg) W (HG.out _ hW) (HL.out _ hW HN.out.1) HOK.out.1 (by have := HN.out.1; omega) (HM.out _ hW HN.out.2.1) HOK.out.2 H32.out.1 H32.out.2 ⟨ag, cg, by rw [e], by rw [← e]; exact hi⟩
          rw [← hvb, ← HCB.out] at h
          exact h⟩
        have HC4 : Seal (∀ W, Below w.heap.size w W → Calls Tryz.prog 21 #[.slice a n c, .slice am nm cm, .int .i64 t, .agg CB.toArray] W fun e w' => e = .returned (.bool vb) ∧ Below W.heap.size W w') := ⟨fun W hW => by
          have hi := HI.out _ hW HN.out.2.2
          have e : ng = b.G.length := hi.llen.symm
          have h := rverify45_any a am n c nm cm l m t b (.slice ag ng cg) W (HG.out _ hW) (HL.out _ hW HN.out.1) HOK.out.1 (by have := HN.out.1; omega) (HM.out _ hW HN.out.2.1) HOK.out.2 H32.out.1 H32.out.2 ⟨ag, cg, by rw [e], by rw [← e]; exact hi⟩
          rw [← hvb, ← HCB.out] at h
          exact h⟩
        have KR : Seal (Ko Z fun W => W.rangeAt g10 0 BC ∧ W.rangeAt g13 0 BD ∧ W.rangeAt gp 0 CB) := ⟨fun W hW => ⟨K10.out W hW, K13.out W hW, by rw [HCB.out]; exact (KP.out W hW).all⟩⟩
        have i10 := IC.out.1
        have i13 := ID.out.1
        have i7 := IB.out
        clear hvb K9 KG K10 K12 KH K13 KP
        go_wp2_with (refine wpList_store_row rfl 50 (.tmp 13) (.tmp 43) rfl g13 BD.toArray rfl rfl 50 _ n2 (by simpa using ID.out.1) ID.out.2.1 ID.out.2.2 ?_; rw [n1]; clear n1 n2 hgn; (try simp only [Act.put]))
        refine wp_region_held_drew (S := fun W => W.rangeAt g10 0 BC ∧ W.rangeAt g13 0 BD ∧ W.rangeAt gp 0 CB) (by kernel_rfl) KR.out.at (fun hHeld => ?_)
        obtain ⟨Y, hY⟩ : ∃ V, V = Z.drew := ⟨_, rfl⟩
        have HY : Seal (Below Z.heap.size Z Y ∧ Below w.heap.size w Y) := ⟨by rw [hY]; exact below_drewn_o _, by rw [hY]; exact HB.out.trans ((below_drewn_o _).mono HB.out.size)⟩
        rw [← hY] at hHeld ⊢
        clear hY HB
        refine take_h 0 ?_ rfl (by kernel_rfl) (by kernel_rfl) (by kernel_rfl) (fun _ _ _ h => h) (Or.inl ⟨by kernel_rfl, ?_⟩) (by assumption) ?_
        rotate_left
        · (intro w hSw; (try dsimp only at hSw); go_simp; try (with_reducible rfl))
        try simp only [Act.put, List.setIfInBounds_toArray, List.set_cons_zero, List.set_cons_succ]
        refine take_h 1 ?_ rfl (by kernel_rfl) (by kernel_rfl) (by kernel_rfl) (fun _ _ _ h => h) (Or.inl ⟨by kernel_rfl, ?_⟩) (by assumption) ?_
        rotate_left
        · (intro w hSw; (try dsimp only at hSw); go_simp; try (with_reducible rfl))
        try simp only [Act.put, List.setIfInBounds_toArray, List.set_cons_zero, List.set_cons_succ]
        refine call_h 2 rfl (by kernel_rfl) 14 #[.slice a9 n9 c9, .slice a12 n12 c12] (by kernel_rfl) (by go_simp) ?_
        refine (HC1.out Y HY.out.1).mono ?_
        rintro e Y1 ⟨rfl, hb⟩
        have HY2 : Seal (Below Z.heap.size Z Y1 ∧ Below w.heap.size w Y1) := ⟨HY.out.1.trans (hb.mono HY.out.1.size), HY.out.2.trans (hb.mono HY.out.2.size)⟩
        refine ⟨_, rfl, KR.out _ HY2.out.1, fun hHeld2 => ?_⟩
        clear HY hHeld hb
        have HY := HY2
        have hHeld := hHeld2
        clear HY2 hHeld2
        try simp only [Act.put, List.setIfInBounds_toArray, List.set_cons_zero, List.set_cons_succ]
        refine take_h 3 ?_ rfl (by kernel_rfl) (by kernel_rfl) (by kernel_rfl) (fun _ _ _ h => h) (Or.inl ⟨by kernel_rfl, ?_⟩) (by assumption) ?_
        rotate_left
        · (intro w hSw; (try dsimp only at hSw); go_simp; try (with_reducible rfl))
        try simp only [Act.put, List.setIfInBounds_toArray, List.set_cons_zero, List.set_cons_succ]
        refine take_h 4 _ rfl (by kernel_rfl) (by kernel_rfl) (by kernel_rfl) (fun _ _ _ h => h) (yieldsIf_load_mid (by kernel_rfl) 50 (.tmp 10) rfl g10 0 rfl BC _ (fun w hSw => hSw.1) ub rfl i10) (by assumption) ?_
        try simp only [Act.put, List.setIfInBounds_toArray, List.set_cons_zero, List.set_cons_succ]
        refine take_h 5 _ rfl (by kernel_rfl) (by kernel_rfl) (by kernel_rfl) (fun _ _ _ h => h) (yieldsIf_load_mid (by kernel_rfl) 50 (.tmp 13) rfl g13 0 rfl BD _ (fun w hSw => hSw.2.1) ub rfl i13) (by assumption) ?_
        try simp only [Act.put, List.setIfInBounds_toArray, List.set_cons_zero, List.set_cons_succ]
        refine call_h 6 rfl (by kernel_rfl) 19 #[.agg BC.toArray, .agg BD.toArray] (by kernel_rfl) (by go_simp) ?_
        refine (HC2.out Y1 HY.out.1).mono ?_
        rintro e Y2 ⟨rfl, hb⟩
        have HY2 : Seal (Below Z.heap.size Z Y2 ∧ Below w.heap.size w Y2) := ⟨HY.out.1.trans (hb.mono HY.out.1.size), HY.out.2.trans (hb.mono HY.out.2.size)⟩
        refine ⟨_, rfl, KR.out _ HY2.out.1, fun hHeld2 => ?_⟩
        clear HY hHeld hb
        have HY := HY2
        have hHeld := hHeld2
        clear HY2 hHeld2
        try simp only [Act.put, List.setIfInBounds_toArray, List.set_cons_zero, List.set_cons_succ]
        refine take_h 7 ?_ rfl (by kernel_rfl) (by kernel_rfl) (by kernel_rfl) (fun _ _ _ h => h) (Or.inl ⟨by kernel_rfl, ?_⟩) (by assumption) ?_
        rotate_left
        · (intro w hSw; (try dsimp only at hSw); go_simp; try (with_reducible rfl))
        try simp only [Act.put, List.setIfInBounds_toArray, List.set_cons_zero, List.set_cons_succ]
        refine take_h 8 ?_ rfl (by kernel_rfl) (by kernel_rfl) (by kernel_rfl) (fun _ _ _ h => h) (Or.inl ⟨by kernel_rfl, ?_⟩) (by assumption) ?_
        rotate_left
        · (intro w hSw; (try dsimp only at hSw); go_simp; try (with_reducible rfl))
        try simp only [Act.put, List.setIfInBounds_toArray, List.set_cons_zero, List.set_cons_succ]
        refine take_h 9 ?_ rfl (by kernel_rfl) (by kernel_rfl) (by kernel_rfl) (fun _ _ _ h => h) (Or.inl ⟨by kernel_rfl, ?_⟩) (by assumption) ?_
        rotate_left
        · (intro w hSw; (try dsimp only at hSw); go_simp; try (with_reducible rfl))
        try simp only [Act.put, List.setIfInBounds_toArray, List.set_cons_zero, List.set_cons_succ]
        refine take_h 10 ?_ rfl (by kernel_rfl) (by kernel_rfl) (by kernel_rfl) (fun _ _ _ h => h) (Or.inl ⟨by kernel_rfl, ?_⟩) (by assumption) ?_
        rotate_left
        · (intro w hSw; (try dsimp only at hSw); go_simp; try (with_reducible rfl))
        try simp only [Act.put, List.setIfInBounds_toArray, List.set_cons_zero, List.set_cons_succ]
        refine take_h 11 ?_ rfl (by kernel_rfl) (by kernel_rfl) (by kernel_rfl) (fun _ _ _ h => h) (Or.inl ⟨by kernel_rfl, ?_⟩) (by assumption) ?_
        rotate_left
        · (intro w hSw; (try dsimp only at hSw); go_simp; try (with_reducible rfl))
        try simp only [Act.put, List.setIfInBounds_toArray, List.set_cons_zero, List.set_cons_succ]
        refine take_h 12 ?_ rfl (by kernel_rfl) (by kernel_rfl) (by kernel_rfl) (fun _ _ _ h => h) (Or.inl ⟨by kernel_rfl, ?_⟩) (by assumption) ?_
        rotate_left
        · (intro w hSw; (try dsimp only at hSw); go_simp; try (with_reducible rfl))
        try simp only [Act.put, List.setIfInBounds_toArray, List.set_cons_zero, List.set_cons_succ]
        refine take_h 13 ?_ rfl (by kernel_rfl) (by kernel_rfl) (by kernel_rfl) (fun _ _ _ h => h) (Or.inl ⟨by kernel_rfl, ?_⟩) (by assumption) ?_
        rotate_left
        · (intro w hSw; (try dsimp only at hSw); go_simp; try (with_reducible rfl))
        try simp only [Act.put, List.setIfInBounds_toArray, List.set_cons_zero, List.set_cons_succ]
        refine take_h 14 ?_ rfl (by kernel_rfl) (by kernel_rfl) (by kernel_rfl) (fun _ _ _ h => h) (Or.inl ⟨by kernel_rfl, ?_⟩) (by assumption) ?_
        rotate_left
        · (intro w hSw; (try dsimp only at hSw); go_simp; try (with_reducible rfl))
        try simp only [Act.put, List.setIfInBounds_toArray, List.set_cons_zero, List.set_cons_succ]
        refine take_h 15 ?_ rfl (by kernel_rfl) (by kernel_rfl) (by kernel_rfl) (fun _ _ _ h => h) (Or.inl ⟨by kernel_rfl, ?_⟩) (by assumption) ?_
        rotate_left
        · (intro w hSw; (try dsimp only at hSw); go_simp; try (with_reducible rfl))
        try simp only [Act.put, List.setIfInBounds_toArray, List.set_cons_zero, List.set_cons_succ]
        refine take_h 16 ?_ rfl (by kernel_rfl) (by kernel_rfl) (by kernel_rfl) (fun _ _ _ h => h) (Or.inl ⟨by kernel_rfl, ?_⟩) (by assumption) ?_
        rotate_left
        · (intro w hSw; (try dsimp only at hSw); go_simp; try (with_reducible rfl))
        try simp only [Act.put, List.setIfInBounds_toArray, List.set_cons_zero, List.set_cons_succ]
        refine take_h 17 _ rfl (by kernel_rfl) (by kernel_rfl) (by kernel_rfl) (fun _ _ _ h => h) (yieldsIf_load_mid (by kernel_rfl) 50 (.tmp 7) rfl gp 0 rfl CB _ (fun w hSw => hSw.2.2) ub rfl i7) (by assumption) ?_
        try simp only [Act.put, List.setIfInBounds_toArray, List.set_cons_zero, List.set_cons_succ]
        refine take_h 19 ?_ rfl (by kernel_rfl) (by kernel_rfl) (by kernel_rfl) (fun _ _ _ h => h) (Or.inl ⟨by kernel_rfl, ?_⟩) (by assumption) ?_
        rotate_left
        · (intro w hSw; (try dsimp only at hSw); go_simp; try (with_reducible rfl))
        try simp only [Act.put, List.setIfInBounds_toArray, List.set_cons_zero, List.set_cons_succ]
        refine take_h 20 ?_ rfl (by kernel_rfl) (by kernel_rfl) (by kernel_rfl) (fun _ _ _ h => h) (Or.inl ⟨by kernel_rfl, ?_⟩) (by assumption) ?_
        rotate_left
        · (intro w hSw; (try dsimp only at hSw); go_simp; try (with_reducible rfl))
        try simp only [Act.put, List.setIfInBounds_toArray, List.set_cons_zero, List.set_cons_succ]
        refine take_h 21 ?_ rfl (by kernel_rfl) (by kernel_rfl) (by kernel_rfl) (fun _ _ _ h => h) (Or.inl ⟨by kernel_rfl, ?_⟩) (by assumption) ?_
        rotate_left
        · (intro w hSw; (try dsimp only at hSw); go_simp; try (with_reducible rfl))
        try simp only [Act.put, List.setIfInBounds_toArray, List.set_cons_zero, List.set_cons_succ]
        refine take_h 22 _ rfl (by kernel_rfl) (by kernel_rfl) (by kernel_rfl) (fun _ _ _ h => h) (yieldsIf_load_mid (by kernel_rfl) 50 (.tmp 7) rfl gp 0 rfl CB _ (fun w hSw => hSw.2.2) ub rfl i7) (by assumption) ?_
        try simp only [Act.put, List.setIfInBounds_toArray, List.set_cons_zero, List.set_cons_succ]
        refine call_h 18 rfl (by kernel_rfl) 20 #[.slice a n c, .slice am nm cm, .int .i64 t, .agg CB.toArray] (by kernel_rfl) (by go_simp) ?_
        refine (HC3.out Y2 HY.out.2).mono ?_
        rintro e Y3 ⟨rfl, hb⟩
        have HY2 : Seal (Below Z.heap.size Z Y3 ∧ Below w.heap.size w Y3) := ⟨HY.out.1.trans (hb.mono HY.out.1.size), HY.out.2.trans (hb.mono HY.out.2.size)⟩
        refine ⟨_, rfl, KR.out _ HY2.out.1, fun hHeld2 => ?_⟩
        clear HY hHeld hb
        have HY := HY2
        have hHeld := hHeld2
        clear HY2 hHeld2
        try simp only [Act.put, List.setIfInBounds_toArray, List.set_cons_zero, List.set_cons_succ]
        refine call_h 23 rfl (by kernel_rfl) 21 #[.slice a n c, .slice am nm cm, .int .i64 t, .agg CB.toArray] (by kernel_rfl) (by go_simp) ?_
        refine (HC4.out Y3 HY.out.2).mono ?_
        rintro e Y4 ⟨rfl, hb⟩
        have HY2 : Seal (Below Z.heap.size Z Y4 ∧ Below w.heap.size w Y4) := ⟨HY.out.1.trans (hb.mono HY.out.1.size), HY.out.2.trans (hb.mono HY.out.2.size)⟩
        refine ⟨_, rfl, KR.out _ HY2.out.1, fun hHeld2 => ?_⟩
        clear HY hHeld hb
        have HY := HY2
        have hHeld := hHeld2
        clear HY2 hHeld2
        try simp only [Act.put, List.setIfInBounds_toArray, List.set_cons_zero, List.set_cons_succ]
        refine take_h 24 ?_ rfl (by kernel_rfl) (by kernel_rfl) (by kernel_rfl) (fun _ _ _ h => h) (Or.inl ⟨by kernel_rfl, ?_⟩) (by assumption) ?_
        rotate_left
        · (intro w hSw; (try dsimp only at hSw); go_simp; try (with_reducible rfl))
        try simp only [Act.put, List.setIfInBounds_toArray, List.set_cons_zero, List.set_cons_succ]
        refine take_h 25 ?_ rfl (by kernel_rfl) (by kernel_rfl) (by kernel_rfl) (fun _ _ _ h => h) (Or.inl ⟨by kernel_rfl, ?_⟩) (by assumption) ?_
        rotate_left
        · (intro w hSw; (try dsimp only at hSw); go_simp; try (with_reducible rfl))
        try simp only [Act.put, List.setIfInBounds_toArray, List.set_cons_zero, List.set_cons_succ]
        refine take_h 26 ?_ rfl (by kernel_rfl) (by kernel_rfl) (by kernel_rfl) (fun _ _ _ h => h) (Or.inl ⟨by kernel_rfl, ?_⟩) (by assumption) ?_
        rotate_left
        · (intro w hSw; (try dsimp only at hSw); go_simp; try (with_reducible rfl))
        try simp only [Act.put, List.setIfInBounds_toArray, List.set_cons_zero, List.set_cons_succ]
        refine wpAnyH_done (by kernel_rfl) ?_ _
        clear hHeld
        go_wp2
        go_ret
        exact ⟨rfl, HY.out.2⟩
end Frk
