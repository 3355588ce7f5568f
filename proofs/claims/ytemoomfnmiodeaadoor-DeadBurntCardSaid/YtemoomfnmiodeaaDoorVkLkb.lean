/- Law 45: DeadBurnt's walk. -/
import Derived.Test.YtemoomfnmiodeaaDoorVkKsv
namespace Frk
open Go Go.RowKit Go.Proofs
set_option maxRecDepth 100000

theorem ver_true {l m : List Ltr} {t : Int} {b : Brn} (h : verB l m t b = true) : burnE l t = 0 ∧ chkL m = 0 ∧ chkL l = 0 ∧ m = stayK l t ∧ b.B = rootB (l.map txK) ∧ b.A = rootB (m.map txK) ∧ b.G = goneK l t := by
  unfold verB brnB at h
  simp only [Bool.and_eq_true, decide_eq_true_eq, beq_iff_eq] at h
  obtain ⟨h1, h2, h3, h4, h5, h6⟩ := h
  unfold burnL at h3
  unfold burnB at h4 h5 h6
  rw [if_pos h1] at h3 h4 h5 h6
  exact ⟨h1, h2, (burnE_zero.1 h1).1, h3.symm, h4, by rw [← h3]; exact h5, h6⟩
theorem ver_own {l : List Ltr} {t : Int} (h : burnE l t = 0) : verB l (burnL l t) t (burnB l t) = true := by
  unfold verB brnB
  have h2 : chkL (burnL l t) = 0 := by unfold burnL; rw [if_pos h]; exact stay_chk t (burnE_zero.1 h).1
  rw [h, h2]
  simp
theorem ver_no {l m : List Ltr} {t : Int} {b : Brn} (h : burnE l t ≠ 0) : verB l m t b = false := by
  unfold verB
  rw [decide_eq_false h]
  rfl

set_option maxHeartbeats 16000000 in
theorem law_deadBurnt (a am ag : Option Addr) (n c nm cm ng cg : Nat) (l m : List Ltr) (t : Int) (b : Brn) (w : World) (hG : Glob w) (hl : n ≤ 5000 → IsC Ltr.C 38 w a n c l) (hok : ∀ x ∈ l, x.ok) (hm : nm ≤ 5000 → IsC Ltr.C 38 w am nm cm m) (hmok : ∀ x ∈ m, x.ok)
    (hb1 : b.B.length = 32) (hb2 : b.A.length = 32) (hg : ng ≤ 5000 → IsIs w ag ng cg b.G) :
    Calls Tryd.prog 4 #[.slice a n c, .slice am nm cm, .int .i64 t, .agg (brC b (.slice ag ng cg)).toArray] w fun e w' => e = .returned (.bool true) ∧ Below w.heap.size w w' := by
  obtain ⟨X, hX⟩ : ∃ X : World, X = w.alloc (.cells (brC b (.slice ag ng cg)).toArray 59) := ⟨_, rfl⟩
  have HB : Seal (Below w.heap.size w X) := ⟨by rw [hX]; exact below_alloc _ _⟩
  have hp : BrAt X w.heap.size b (.slice ag ng cg) := brAt_row hb1 hb2 (by rw [hX]; exact heap_alloc_new w _)
  have HG : Seal (∀ W, Below w.heap.size w W → Glob W) := ⟨fun W h => hG.below h⟩
  have HL : Seal (∀ W, Below w.heap.size w W → n ≤ 12 → IsC Ltr.C 38 W a n c l) := ⟨fun W h hn => (hl (by omega)).below h⟩
  have HM : Seal (∀ W, Below w.heap.size w W → nm ≤ 12 → IsC Ltr.C 38 W am nm cm m) := ⟨fun W h hn => (hm (by omega)).below h⟩
  have HI : Seal (∀ W, Below w.heap.size w W → ng ≤ 100 → IsIs W ag ng cg b.G) := ⟨fun W h hn => (hg (by omega)).below h⟩
  have HOK : Seal ((∀ x ∈ l, x.ok) ∧ ∀ x ∈ m, x.ok) := ⟨hok, hmok⟩
  have H32 : Seal (b.B.length = 32 ∧ b.A.length = 32) := ⟨hb1, hb2⟩
  obtain ⟨gp, hgp⟩ : ∃ g, g = w.heap.size := ⟨_, rfl⟩
  rw [← hgp] at hp
  have KP : Seal (Ko X fun W => BrAt W gp b (.slice ag ng cg)) := ⟨fun W h => hp.below h⟩
  obtain ⟨CB, hCB⟩ : ∃ L, L = brC b (.slice ag ng cg) := ⟨_, rfl⟩
  have HCB := Seal.mk hCB
  have IB : Seal ((Tryd.prog.info? 59).map (·.size) = some CB.length) := ⟨by rw [hCB]; exact brC_info hb1 hb2 _⟩
  have ut := Tryd.underlying45
  have ud := Tryd.underlying37
  have ub := Tryd.underlying59
  rw [← hCB] at hX ⊢
  clear hG hl hok hm hmok hb1 hb2 hg hp hCB
  go_enter Tryd.func4, Tryd.ntmps4
  go_upto_region 1 with (fail)
  rw [← hX, ← hgp]
  clear hX hgp
  go_wp2_with fail
  refine (sane45_any X (HG.out _ HB.out)).mono ?_
  rintro e w1 ⟨rfl, hb⟩
  have HB := Seal.mk (HB.out.trans ((hb).mono HB.out.size))
  have KP := Seal.mk (KP.out.step (hb))
  clear hb
  have c64 := KP.out.at.cG
  go_wp2_with fail
  refine (kfew_any a n c w1).mono ?_
  rintro e w2 ⟨rfl, rfl⟩
  by_cases hn : n ≤ 12
  rotate_left
  · have q1 : decide (n ≤ 12) = false := decide_eq_false hn
    rw [q1]
    go_wp2
    go_ret
    exact ⟨rfl, HB.out⟩
  · have q1 : decide (n ≤ 12) = true := decide_eq_true hn
    rw [q1]
    clear q1
    go_wp2_with fail
    refine (kfew_any am nm cm w1).mono ?_
    rintro e w2 ⟨rfl, rfl⟩
    by_cases hnm : nm ≤ 12
    rotate_left
    · have q1 : decide (nm ≤ 12) = false := decide_eq_false hnm
      rw [q1]
      go_wp2
      go_ret
      exact ⟨rfl, HB.out⟩
    · have q1 : decide (nm ≤ 12) = true := decide_eq_true hnm
      rw [q1]
      clear q1
      by_cases hng : 100 < ng
      · have q2 : (100 : Int) < (ng : Int) := by omega
        go_wp2
        go_ret
        exact ⟨rfl, HB.out⟩
      · have q2 : ¬ (100 : Int) < (ng : Int) := by omega
        have HN : Seal (n ≤ 12 ∧ nm ≤ 12 ∧ ng ≤ 100) := ⟨hn, hnm, by omega⟩
        clear hn hnm hng
        obtain ⟨RE, hRE⟩ : ∃ e, e = burnE l t := ⟨_, rfl⟩
        obtain ⟨RL, hRL⟩ : ∃ e, e = burnL l t := ⟨_, rfl⟩
        obtain ⟨RB, hRB⟩ : ∃ e, e = burnB l t := ⟨_, rfl⟩
        have hBl := burnB_len l t
        rw [← hRB] at hBl
        have HR : Seal (RE = burnE l t ∧ RL = burnL l t ∧ RB = burnB l t ∧ RB.B.length = 32 ∧ RB.A.length = 32 ∧ ∀ x ∈ RL, x.ok) := ⟨hRE, hRL, hRB, hBl.1, hBl.2, fun x hx => by
          rw [hRL] at hx
          unfold burnL at hx
          split at hx
          · exact HOK.out.1 x (List.mem_filter.1 hx).1
          · cases hx⟩
        have hk : Calls Tryd.prog 16 #[.slice a n c, .int .i64 t] w1 (fun e w' => ∃ a n c v, e = .returned (.tuple #[.slice a n c, .agg (brC RB v).toArray, .int .i64 RE]) ∧ Seal (IsC Ltr.C 38 w' a n c RL ∧ GoneAt w' v RB.G) ∧ Below w1.heap.size w1 w') := by
          have h := kburn_any a n c l t w1 (HG.out _ HB.out) (HL.out _ HB.out HN.out.1) HOK.out.1 (by have := HN.out.1; omega)
          rw [← hRE, ← hRL, ← hRB] at h
          exact h.mono fun e w' hp => burnPost_c hp
        clear hRE hRL hRB hBl
        go_wp2_with fail
        refine hk.mono ?_
        rintro e w2 ⟨a9, n9, c9, v9, rfl, hi, hb⟩
        have HB := Seal.mk (HB.out.trans ((hb).mono HB.out.size))
        have KP := Seal.mk (KP.out.step (hb))
        have K9 := Seal.mk (ko_isC hi.out.1)
        have KG := Seal.mk (ko_gone hi.out.2)
        clear hk hi hb c64
        obtain ⟨BC, hBC⟩ : ∃ L, L = brC RB v9 := ⟨_, rfl⟩
        have HBC := Seal.mk hBC
        have IC : Seal ((Tryd.prog.info? 59).map (·.size) = some BC.length ∧ Tryd.zeroCells59.size = BC.toArray.size ∧ BC.toArray.all (·.oneCell') = true) := ⟨by rw [hBC]; exact ⟨brC_info HR.out.2.2.2.1 HR.out.2.2.2.2.1 v9, by rw [brz_zs, List.size_toArray, List.size_toArray, len_brC HR.out.2.2.2.1 HR.out.2.2.2.2.1]; rfl, brn_all KG.out.at.form⟩⟩
        rw [← hBC]
        clear hBC
        obtain ⟨V, g10, hg, n1, n2, n3, n4, n5, n6⟩ := newv w2 Tryd.zeroCells59 BC 59
        have HB := Seal.mk (HB.out.trans ((n4).mono HB.out.size))
        have KP := Seal.mk (KP.out.step (n4))
        have K9 := Seal.mk (K9.out.step n4)
        have KG := Seal.mk (KG.out.step n4)
        have K10 := Seal.mk n3
        have hgn := hg.symm
        clear hg n3 n4 n5 n6
        by_cases hz : RE = 0
        · subst hz
          have HE := Seal.mk HR.out.1.symm
          have r10 := K10.out.at
          have i10 := IC.out.1
          go_wp2_with (first
            |
            (refine wpList_load_mid_g (by kernel_rfl) 59 (.tmp 10) rfl g10 0 rfl BC _ r10 ub rfl i10 ?_; (try simp only [Act.put, List.setIfInBounds_toArray, List.set_cons_zero, List.set_cons_succ]))
            |
            (refine wpList_store_row rfl 59 (.tmp 10) (.tmp 41) rfl g10 BC.toArray rfl rfl 59 _ n2 (by simpa using IC.out.1) IC.out.2.1 IC.out.2.2 ?_; rw [n1]; clear n1 n2 hgn; (try simp only [Act.put]))
            )
          clear r10 i10
          have hk : Calls Tryd.prog 18 #[.slice a n c, .slice a9 n9 c9, .int .i64 t, .agg BC.toArray] V fun e w' => e = .returned (.bool true) ∧ Below V.heap.size V w' := by
            have h := kverify_any a a9 n c n9 c9 l RL t RB v9 V (HG.out _ HB.out) (HL.out _ HB.out HN.out.1) HOK.out.1 (by have := HN.out.1; omega) K9.out.at HR.out.2.2.2.2.2 HR.out.2.2.2.1 HR.out.2.2.2.2.1 KG.out.at
            rw [show verB l RL t RB = true from by rw [HR.out.2.1, HR.out.2.2.1]; exact ver_own HE.out, ← HBC.out] at h
            exact h
          refine hk.mono ?_
          rintro e w3 ⟨rfl, hb⟩
          have HB := Seal.mk (HB.out.trans ((hb).mono HB.out.size))
          have KP := Seal.mk (KP.out.step (hb))
          clear hk hb K10 K9 KG
          have r7 : w3.rangeAt gp 0 CB := by rw [HCB.out]; exact KP.out.at.all
          have i7 := IB.out
          go_wp2_with
            (refine wpList_load_mid_g (by kernel_rfl) 59 (.tmp 7) rfl gp 0 rfl CB _ r7 ub rfl i7 ?_; (try simp only [Act.put, List.setIfInBounds_toArray, List.set_cons_zero, List.set_cons_succ]))
          clear r7 i7
          obtain ⟨vb, hvb⟩ : ∃ v, v = verB l m t b := ⟨_, rfl⟩
          have hk : Calls Tryd.prog 18 #[.slice a n c, .slice am nm cm, .int .i64 t, .agg CB.toArray] w3 fun e w' => e = .returned (.bool vb) ∧ Below w3.heap.size w3 w' := by
            have hi := HI.out _ HB.out HN.out.2.2
            have e : ng = b.G.length := hi.llen.symm
            have h := kverify_any a am n c nm cm l m t b (.slice ag ng cg) w3 (HG.out _ HB.out) (HL.out _ HB.out HN.out.1) HOK.out.1 (by have := HN.out.1; omega) (HM.out _ HB.out HN.out.2.1) HOK.out.2 H32.out.1 H32.out.2 ⟨ag, cg, by rw [e], by rw [← e]; exact hi⟩
            rw [← hvb, ← HCB.out] at h
            exact h
          refine hk.mono ?_
          rintro e w4 ⟨rfl, hb⟩
          have HB := Seal.mk (HB.out.trans ((hb).mono HB.out.size))
          have KP := Seal.mk (KP.out.step (hb))
          clear hk hb
          cases vb with
          | false =>
            clear hvb
            go_wp2
            go_ret
            exact ⟨rfl, HB.out⟩
          | true =>
            have HVT := Seal.mk (ver_true hvb.symm)
            clear hvb HE HR IC HBC
            obtain ⟨L1, hL1⟩ : ∃ L, L = b.B.map B := ⟨_, rfl⟩
            obtain ⟨L2, hL2⟩ : ∃ L, L = b.A.map B := ⟨_, rfl⟩
            have HL12 : Seal (L1 = b.B.map B ∧ L2 = b.A.map B ∧ L1.length = 32 ∧ L2.length = 32) := ⟨hL1, hL2, by rw [hL1, List.length_map]; exact H32.out.1, by rw [hL2, List.length_map]; exact H32.out.2⟩
            have HNN : Seal (l.length = n ∧ m.length = nm ∧ b.G.length = ng) := ⟨(HL.out _ HB.out HN.out.1).llen, (HM.out _ HB.out HN.out.2.1).llen, (HI.out _ HB.out HN.out.2.2).llen⟩
            clear hL1 hL2
            have HS : Seal (0 = (stayK (l.take 0) t).length ∧ 0 = (goneK (l.take 0) t).length ∧ Below w.heap.size w w4 ∧ Ko w4 (fun W => BrAt W gp b (.slice ag ng cg))) := ⟨rfl, rfl, HB.out, KP.out⟩
            clear HB KP
            go_wp2
            go_loopw [12, 13, 75] (fun i12 i13 i75 wr => ∃ k p q : Nat, k ≤ n ∧ i12 = .int .i64 p ∧ i13 = .int .i64 q ∧ i75 = .int .i64 k ∧ Seal (p = (stayK (l.take k) t).length ∧ q = (goneK (l.take k) t).length ∧ Below w.heap.size w wr ∧ Ko wr (fun W => BrAt W gp b (.slice ag ng cg)))) (fun _ _ i _ => n - (intOf i).toNat)
            case atStart => exact ⟨0, 0, 0, by omega, rfl, rfl, rfl, HS⟩
            case round =>
              obtain ⟨wo, rfl⟩ : ∃ z, z = wr := ⟨_, rfl⟩
              obtain ⟨k, p, q, hk, rfl, rfl, rfl, hH⟩ := hrel
              clear HS
              have hn12 : n ≤ 12 := HN.out.1
              by_cases hlt : k < n
              · obtain ⟨x, hx⟩ : ∃ x, l[k]? = some x := ⟨_, List.getElem?_eq_getElem (by have := HNN.out.1; omega)⟩
                have HDw := HL.out wo hH.out.2.2.1 HN.out.1
                rcases HDw.at_ with h0 | ⟨g, off, rfl, hr, hg⟩
                · omega
                have rX := rangeC_row hr HDw.each hx
                have x32 := (HOK.out.1 x (List.mem_of_getElem? hx)).t32
                have q5 : (k : Int) < (n : Int) := by omega
                have q6 : (0 : Int) ≤ (k : Int) := by omega
                obtain ⟨C, hC⟩ : ∃ C, C = x.C := ⟨_, rfl⟩
                obtain ⟨N, hN⟩ : ∃ N, N = x.N := ⟨_, rfl⟩
                obtain ⟨U, hU⟩ : ∃ N, N = x.U := ⟨_, rfl⟩
                have HX : Seal (l[k]? = some x ∧ C = x.C ∧ N = x.N ∧ U = x.U) := ⟨hx, hC, hN, hU⟩
                have IX : Seal ((Tryd.prog.info? 45).map (·.size) = some C.length ∧ ((List.toArray (.int .i64 0 :: .int .i64 0 :: .int .i64 0 :: .int .i64 0 :: .int .i64 0 :: .int .i64 0 :: .int .u8 0 :: .int .u8 0 :: .int .u8 0 :: .int .u8 0 :: .int .u8 0 :: .int .u8 0 :: .int .u8 0 :: .int .u8 0 :: .int .u8 0 :: .int .u8 0 :: .int .u8 0 :: .int .u8 0 :: .int .u8 0 :: .int .u8 0 :: .int .u8 0 :: .int .u8 0 :: .int .u8 0 :: .int .u8 0 :: .int .u8 0 :: .int .u8 0 :: .int .u8 0 :: .int .u8 0 :: .int .u8 0 :: .int .u8 0 :: .int .u8 0 :: .int .u8 0 :: .int .u8 0 :: .int .u8 0 :: .int .u8 0 :: .int .u8 0 :: .int .u8 0 :: .int .u8 0 :: [] : List Value) : Array Value) : Array Value).size = C.toArray.size ∧ C.toArray.all (·.oneCell') = true ∧ ∀ w, (Op.equalIn 10000 45 (.agg C.toArray) (.agg C.toArray)).run Tryd.prog w = .ok true w) := ⟨by rw [hC]; exact Ltr.info x32, by rw [hC, ktzz_len, List.size_toArray, Ltr.C_len x32], by rw [hC]; exact all_oneCell_toArray (Ltr.C_one _), fun w => by rw [hC]; have := eqKt x x x32 x32 w; rwa [decide_eq_true rfl] at this⟩
                rw [← hC] at rX
                obtain ⟨V, gd, hgd, n1, n2, n3, n4, n5, n6⟩ := newv wo (List.toArray (.int .i64 0 :: .int .i64 0 :: .int .i64 0 :: .int .i64 0 :: .int .i64 0 :: .int .i64 0 :: .int .u8 0 :: .int .u8 0 :: .int .u8 0 :: .int .u8 0 :: .int .u8 0 :: .int .u8 0 :: .int .u8 0 :: .int .u8 0 :: .int .u8 0 :: .int .u8 0 :: .int .u8 0 :: .int .u8 0 :: .int .u8 0 :: .int .u8 0 :: .int .u8 0 :: .int .u8 0 :: .int .u8 0 :: .int .u8 0 :: .int .u8 0 :: .int .u8 0 :: .int .u8 0 :: .int .u8 0 :: .int .u8 0 :: .int .u8 0 :: .int .u8 0 :: .int .u8 0 :: .int .u8 0 :: .int .u8 0 :: .int .u8 0 :: .int .u8 0 :: .int .u8 0 :: .int .u8 0 :: [] : List Value) : Array Value) C 45
                have cN : V.cell? ⟨gd, 0, none⟩ = some (.int .i64 N) := by have h := n3.at 0 (.int .i64 N) (by rw [hC, hN]; rfl); simpa using h
                have cU : V.cell? ⟨gd, 1, none⟩ = some (.int .i64 U) := by have h := n3.at 1 (.int .i64 U) (by rw [hC, hU]; rfl); simpa using h
                have HV : Seal (p = (stayK (l.take k) t).length ∧ q = (goneK (l.take k) t).length ∧ Below w.heap.size w V ∧ Ko V (fun W => BrAt W gp b (.slice ag ng cg))) := ⟨hH.out.1, hH.out.2.1, hH.out.2.2.1.trans (n4.mono hH.out.2.2.1.size), hH.out.2.2.2.step n4⟩
                have K15 := Seal.mk n3
                have hgn := hgd.symm
                clear hgd n3 n4 n5 n6 hx hC hN hU hr hg HDw x32 hH
                have i15 := IX.out.1
                by_cases hu : U ≤ t
                · have hq : b.G[q]? = some N := by
                    rw [HVT.out.2.2.2.2.2.2, HV.out.2.1, HX.out.2.2.1]
                    exact gone_at HX.out.1 (by rw [← HX.out.2.2.2]; exact hu)
                  have hqn : q < ng := by have := (List.getElem?_eq_some_iff.1 hq).1; have := HNN.out.2.2; omega
                  have HIw := HI.out V HV.out.2.2.1 HN.out.2.2
                  rcases HIw.at_ with h0 | ⟨gg, og, rfl, hgr, _⟩
                  · omega
                  have c3 : V.cell? ⟨gg, og + q, none⟩ = some (.int .i64 N) := by have := rangeC_row hgr HIw.each hq 0 (.int .i64 N) rfl; simpa using this
                  have c64 := HV.out.2.2.2.at.cG
                  have q1 : ¬ t < U := by omega
                  have q2 : ¬ (ng : Int) ≤ (q : Int) := by omega
                  have q3 : (q : Int) < (ng : Int) := by omega
                  have q8 : q < ng := hqn
                  have q4 : (0 : Int) ≤ (q : Int) := by omega
                  have q7 : IntKind.i64.wrap ((q : Int) + 1) = (q : Int) + 1 := IntWalk.i64_in _ (by have := HN.out.2.2; omega)
                  have HNx : Seal (p = (stayK (l.take (k + 1)) t).length ∧ q + 1 = (goneK (l.take (k + 1)) t).length) := ⟨by
                    have e1 := stay_take_succ HX.out.1 t
                    have e2 := gone_take_succ HX.out.1 t
                    rw [if_pos (by rw [← HX.out.2.2.2]; exact hu)] at e1 e2
                    rw [e1, e2, List.length_append, ← HV.out.1, ← HV.out.2.1]
                    exact ⟨rfl, rfl⟩⟩
                  clear hu hq hqn HIw hgr
                  go_wp2_with (first
                    | (refine wpList_load_mid rfl 45 (.tmp 77) rfl g (off + k * 38) rfl C _ rX ut rfl i15 ?_; (try simp only [Act.put, List.setIfInBounds_toArray, List.set_cons_zero, List.set_cons_succ]))
                    | ((try rw [hgn]); refine wpList_store_row rfl 45 (.tmp 15) (.tmp 78) rfl gd C.toArray rfl rfl 45 _ n2 (by simpa using IX.out.1) IX.out.2.1 IX.out.2.2.1 ?_; rw [n1]; clear n1 n2 hgn rX; (try simp only [Act.put])))
                  refine wp_region_held_drew (S := fun w' => w'.cell? ⟨gp, 64, none⟩ = some (.slice (some ⟨gg, og, none⟩) ng cg) ∧ w'.cell? ⟨gg, og + q, none⟩ = some (.int .i64 N) ∧ w'.cell? ⟨gd, 0, none⟩ = some (.int .i64 N)) (by kernel_rfl) ⟨c64, c3, cN⟩ (fun hHeld => ?_)
                  have HV2 : Seal (Below w.heap.size w V.drew ∧ Ko V.drew (fun W => BrAt W gp b (.slice (some ⟨gg, og, none⟩) ng cg))) := ⟨HV.out.2.2.1.trans ((below_drewn_o _).mono HV.out.2.2.1.size), HV.out.2.2.2.step (below_drewn_o _)⟩
                  obtain ⟨V1, hV1⟩ : ∃ Z, Z = V.drew := ⟨_, rfl⟩
                  rw [← hV1] at hHeld HV2 ⊢
                  clear hV1 c64 c3 cN cU
                  refine take_h 0 ?_ rfl (by kernel_rfl) (by kernel_rfl) (by kernel_rfl) (fun _ _ _ h => h) (Or.inl ⟨by kernel_rfl, ?_⟩) (by assumption) ?_
                  rotate_left
                  · (intro w hSw; (try dsimp only at hSw); go_simp; try (with_reducible rfl))
                  try simp only [Act.put, List.setIfInBounds_toArray, List.set_cons_zero, List.set_cons_succ]
                  refine take_h 1 ?_ rfl (by kernel_rfl) (by kernel_rfl) (by kernel_rfl) (fun _ _ _ h => h) (Or.inl ⟨by kernel_rfl, ?_⟩) (by assumption) ?_
                  rotate_left
                  · (intro w hSw; (try dsimp only at hSw); go_simp; try (with_reducible rfl))
                  try simp only [Act.put, List.setIfInBounds_toArray, List.set_cons_zero, List.set_cons_succ]
                  refine take_h 2 ?_ rfl (by kernel_rfl) (by kernel_rfl) (by kernel_rfl) (fun _ _ _ h => h) (Or.inl ⟨by kernel_rfl, ?_⟩) (by assumption) ?_
                  rotate_left
                  · (intro w hSw; (try dsimp only at hSw); go_simp; try (with_reducible rfl))
                  try simp only [Act.put, List.setIfInBounds_toArray, List.set_cons_zero, List.set_cons_succ]
                  refine take_h 3 ?_ rfl (by kernel_rfl) (by kernel_rfl) (by kernel_rfl) (fun _ _ _ h => h) (Or.inl ⟨by kernel_rfl, ?_⟩) (by assumption) ?_
                  rotate_left
                  · (intro w hSw; (try dsimp only at hSw); go_simp; try (with_reducible rfl))
                  try simp only [Act.put, List.setIfInBounds_toArray, List.set_cons_zero, List.set_cons_succ]
                  refine take_h 4 (.bool false) rfl (by kernel_rfl) (by kernel_rfl) (by kernel_rfl) (fun _ _ _ h => h) (Or.inl ⟨by kernel_rfl, fun w hSw => by (try dsimp only at hSw); go_simp⟩) (by assumption) ?_
                  try simp only [Act.put, List.setIfInBounds_toArray, List.set_cons_zero, List.set_cons_succ]
                  refine take_h 5 ?_ rfl (by kernel_rfl) (by kernel_rfl) (by kernel_rfl) (fun _ _ _ h => h) (Or.inl ⟨by kernel_rfl, ?_⟩) (by assumption) ?_
                  rotate_left
                  · (intro w hSw; (try dsimp only at hSw); go_simp; try (with_reducible rfl))
                  try simp only [Act.put, List.setIfInBounds_toArray, List.set_cons_zero, List.set_cons_succ]
                  refine take_h 6 ?_ rfl (by kernel_rfl) (by kernel_rfl) (by kernel_rfl) (fun _ _ _ h => h) (Or.inl ⟨by kernel_rfl, ?_⟩) (by assumption) ?_
                  rotate_left
                  · (intro w hSw; (try dsimp only at hSw); go_simp; try (with_reducible rfl))
                  try simp only [Act.put, List.setIfInBounds_toArray, List.set_cons_zero, List.set_cons_succ]
                  refine take_h 7 ?_ rfl (by kernel_rfl) (by kernel_rfl) (by kernel_rfl) (fun _ _ _ h => h) (Or.inl ⟨by kernel_rfl, ?_⟩) (by assumption) ?_
                  rotate_left
                  · (intro w hSw; (try dsimp only at hSw); go_simp; try (with_reducible rfl))
                  try simp only [Act.put, List.setIfInBounds_toArray, List.set_cons_zero, List.set_cons_succ]
                  refine take_h 8 ?_ rfl (by kernel_rfl) (by kernel_rfl) (by kernel_rfl) (fun _ _ _ h => h) (Or.inl ⟨by kernel_rfl, ?_⟩) (by assumption) ?_
                  rotate_left
                  · (intro w hSw; (try dsimp only at hSw); go_simp; try (with_reducible rfl))
                  try simp only [Act.put, List.setIfInBounds_toArray, List.set_cons_zero, List.set_cons_succ]
                  refine take_h 9 ?_ rfl (by kernel_rfl) (by kernel_rfl) (by kernel_rfl) (fun _ _ _ h => h) (Or.inl ⟨by kernel_rfl, ?_⟩) (by assumption) ?_
                  rotate_left
                  · (intro w hSw; (try dsimp only at hSw); go_simp; try (with_reducible rfl))
                  try simp only [Act.put, List.setIfInBounds_toArray, List.set_cons_zero, List.set_cons_succ]
                  refine take_h 10 ?_ rfl (by kernel_rfl) (by kernel_rfl) (by kernel_rfl) (fun _ _ _ h => h) (Or.inl ⟨by kernel_rfl, ?_⟩) (by assumption) ?_
                  rotate_left
                  · (intro w hSw; (try dsimp only at hSw); go_simp; try (with_reducible rfl))
                  try simp only [Act.put, List.setIfInBounds_toArray, List.set_cons_zero, List.set_cons_succ]
                  refine take_h 11 ?_ rfl (by kernel_rfl) (by kernel_rfl) (by kernel_rfl) (fun _ _ _ h => h) (Or.inl ⟨by kernel_rfl, ?_⟩) (by assumption) ?_
                  rotate_left
                  · (intro w hSw; (try dsimp only at hSw); go_simp; try (with_reducible rfl))
                  try simp only [Act.put, List.setIfInBounds_toArray, List.set_cons_zero, List.set_cons_succ]
                  refine take_h 12 ?_ rfl (by kernel_rfl) (by kernel_rfl) (by kernel_rfl) (fun _ _ _ h => h) (Or.inl ⟨by kernel_rfl, ?_⟩) (by assumption) ?_
                  rotate_left
                  · (intro w hSw; (try dsimp only at hSw); go_simp; try (with_reducible rfl))
                  try simp only [Act.put, List.setIfInBounds_toArray, List.set_cons_zero, List.set_cons_succ]
                  refine take_h 13 ?_ rfl (by kernel_rfl) (by kernel_rfl) (by kernel_rfl) (fun _ _ _ h => h) (Or.inl ⟨by kernel_rfl, ?_⟩) (by assumption) ?_
                  rotate_left
                  · (intro w hSw; (try dsimp only at hSw); go_simp; try (with_reducible rfl))
                  try simp only [Act.put, List.setIfInBounds_toArray, List.set_cons_zero, List.set_cons_succ]
                  refine take_h 14 ?_ rfl (by kernel_rfl) (by kernel_rfl) (by kernel_rfl) (fun _ _ _ h => h) (Or.inl ⟨by kernel_rfl, ?_⟩) (by assumption) ?_
                  rotate_left
                  · (intro w hSw; (try dsimp only at hSw); go_simp; try (with_reducible rfl))
                  try simp only [Act.put, List.setIfInBounds_toArray, List.set_cons_zero, List.set_cons_succ]
                  refine wpAnyH_done (by kernel_rfl) ?_ _
                  clear hHeld
                  go_wp2
                  go_roundw
                  case rel => exact ⟨k + 1, p, q + 1, by omega, rfl, by go_num, by go_num, ⟨HNx.out.1, HNx.out.2, HV2.out.1, HV2.out.2⟩⟩
                  case measure => simp [intOf]; omega
                · have hp : m[p]? = some x := by
                    rw [HVT.out.2.2.2.1, HV.out.1]
                    exact stay_at HX.out.1 (by rw [← HX.out.2.2.2]; exact hu)
                  have hpn : p < nm := by have := (List.getElem?_eq_some_iff.1 hp).1; have := HNN.out.2.1; omega
                  have HMw := HM.out V HV.out.2.2.1 HN.out.2.1
                  rcases HMw.at_ with h0 | ⟨gm, om, rfl, hmr, _⟩
                  · omega
                  have rM := rangeC_row hmr HMw.each hp
                  rw [← HX.out.2.1] at rM
                  have r15 := K15.out.at
                  have qe := IX.out.2.2.2
                  have q1 : t < U := by omega
                  have q2 : ¬ (nm : Int) ≤ (p : Int) := by omega
                  have q3 : (p : Int) < (nm : Int) := by omega
                  have q8 : p < nm := hpn
                  have q4 : (0 : Int) ≤ (p : Int) := by omega
                  have q7 : IntKind.i64.wrap ((p : Int) + 1) = (p : Int) + 1 := IntWalk.i64_in _ (by have := HN.out.2.1; omega)
                  have HNx : Seal (p + 1 = (stayK (l.take (k + 1)) t).length ∧ q = (goneK (l.take (k + 1)) t).length) := ⟨by
                    have e1 := stay_take_succ HX.out.1 t
                    have e2 := gone_take_succ HX.out.1 t
                    rw [if_neg (by rw [← HX.out.2.2.2]; exact hu)] at e1 e2
                    rw [e1, e2, List.length_append, ← HV.out.1, ← HV.out.2.1]
                    exact ⟨rfl, rfl⟩⟩
                  clear hu hp hpn HMw hmr
                  go_wp2_with (first
                    | (refine wpList_load_mid rfl 45 (.tmp 77) rfl g (off + k * 38) rfl C _ rX ut rfl i15 ?_; (try simp only [Act.put, List.setIfInBounds_toArray, List.set_cons_zero, List.set_cons_succ]))
                    | ((try rw [hgn]); refine wpList_store_row rfl 45 (.tmp 15) (.tmp 78) rfl gd C.toArray rfl rfl 45 _ n2 (by simpa using IX.out.1) IX.out.2.1 IX.out.2.2.1 ?_; rw [n1]; clear n1 n2 hgn rX; (try simp only [Act.put])))
                  refine wp_region_held_drew (S := fun w' => w'.rangeAt gm (om + p * 38) C ∧ w'.rangeAt gd 0 C) (by kernel_rfl) ⟨rM, r15⟩ (fun hHeld => ?_)
                  have HV2 : Seal (Below w.heap.size w V.drew ∧ Ko V.drew (fun W => BrAt W gp b (.slice ag ng cg))) := ⟨HV.out.2.2.1.trans ((below_drewn_o _).mono HV.out.2.2.1.size), HV.out.2.2.2.step (below_drewn_o _)⟩
                  obtain ⟨V1, hV1⟩ : ∃ Z, Z = V.drew := ⟨_, rfl⟩
                  rw [← hV1] at hHeld HV2 ⊢
                  clear hV1 rM r15 cN cU
                  refine take_h 0 ?_ rfl (by kernel_rfl) (by kernel_rfl) (by kernel_rfl) (fun _ _ _ h => h) (Or.inl ⟨by kernel_rfl, ?_⟩) (by assumption) ?_
                  rotate_left
                  · (intro w hSw; (try dsimp only at hSw); go_simp; try (with_reducible rfl))
                  try simp only [Act.put, List.setIfInBounds_toArray, List.set_cons_zero, List.set_cons_succ]
                  refine take_h 1 ?_ rfl (by kernel_rfl) (by kernel_rfl) (by kernel_rfl) (fun _ _ _ h => h) (Or.inl ⟨by kernel_rfl, ?_⟩) (by assumption) ?_
                  rotate_left
                  · (intro w hSw; (try dsimp only at hSw); go_simp; try (with_reducible rfl))
                  try simp only [Act.put, List.setIfInBounds_toArray, List.set_cons_zero, List.set_cons_succ]
                  refine take_h 2 ?_ rfl (by kernel_rfl) (by kernel_rfl) (by kernel_rfl) (fun _ _ _ h => h) (Or.inl ⟨by kernel_rfl, ?_⟩) (by assumption) ?_
                  rotate_left
                  · (intro w hSw; (try dsimp only at hSw); go_simp; try (with_reducible rfl))
                  try simp only [Act.put, List.setIfInBounds_toArray, List.set_cons_zero, List.set_cons_succ]
                  refine take_h 3 (.bool false) rfl (by kernel_rfl) (by kernel_rfl) (by kernel_rfl) (fun _ _ _ h => h) (Or.inl ⟨by kernel_rfl, fun w hSw => by (try dsimp only at hSw); go_simp⟩) (by assumption) ?_
                  try simp only [Act.put, List.setIfInBounds_toArray, List.set_cons_zero, List.set_cons_succ]
                  refine take_h 4 ?_ rfl (by kernel_rfl) (by kernel_rfl) (by kernel_rfl) (fun _ _ _ h => h) (Or.inl ⟨by kernel_rfl, ?_⟩) (by assumption) ?_
                  rotate_left
                  · (intro w hSw; (try dsimp only at hSw); go_simp; try (with_reducible rfl))
                  try simp only [Act.put, List.setIfInBounds_toArray, List.set_cons_zero, List.set_cons_succ]
                  refine take_h 5 ?_ rfl (by kernel_rfl) (by kernel_rfl) (by kernel_rfl) (fun _ _ _ h => h) (Or.inl ⟨by kernel_rfl, ?_⟩) (by assumption) ?_
                  rotate_left
                  · (intro w hSw; (try dsimp only at hSw); go_simp; try (with_reducible rfl))
                  try simp only [Act.put, List.setIfInBounds_toArray, List.set_cons_zero, List.set_cons_succ]
                  refine take_h 6 ?_ rfl (by kernel_rfl) (by kernel_rfl) (by kernel_rfl) (fun _ _ _ h => h) (Or.inl ⟨by kernel_rfl, ?_⟩) (by assumption) ?_
                  rotate_left
                  · (intro w hSw; (try dsimp only at hSw); go_simp; try (with_reducible rfl))
                  try simp only [Act.put, List.setIfInBounds_toArray, List.set_cons_zero, List.set_cons_succ]
                  refine take_h 7 ?_ rfl (by kernel_rfl) (by kernel_rfl) (by kernel_rfl) (fun _ _ _ h => h) (Or.inl ⟨by kernel_rfl, ?_⟩) (by assumption) ?_
                  rotate_left
                  · (intro w hSw; (try dsimp only at hSw); go_simp; try (with_reducible rfl))
                  try simp only [Act.put, List.setIfInBounds_toArray, List.set_cons_zero, List.set_cons_succ]
                  refine take_h 8 _ rfl (by kernel_rfl) (by kernel_rfl) (by kernel_rfl) (fun _ _ _ h => h) (yieldsIf_load_mid (by kernel_rfl) 45 (.tmp 90) rfl gm (om + p * 38) rfl C _ (fun w hSw => hSw.1) ut rfl i15) (by assumption) ?_
                  try simp only [Act.put, List.setIfInBounds_toArray, List.set_cons_zero, List.set_cons_succ]
                  refine take_h 9 _ rfl (by kernel_rfl) (by kernel_rfl) (by kernel_rfl) (fun _ _ _ h => h) (yieldsIf_load_mid (by kernel_rfl) 45 (.tmp 15) rfl gd 0 rfl C _ (fun w hSw => hSw.2) ut rfl i15) (by assumption) ?_
                  try simp only [Act.put, List.setIfInBounds_toArray, List.set_cons_zero, List.set_cons_succ]
                  refine take_h 10 ?_ rfl (by kernel_rfl) (by kernel_rfl) (by kernel_rfl) (fun _ _ _ h => h) (Or.inl ⟨by kernel_rfl, ?_⟩) (by assumption) ?_
                  rotate_left
                  · (intro w hSw; (try dsimp only at hSw); go_simp; try (with_reducible rfl))
                  try simp only [Act.put, List.setIfInBounds_toArray, List.set_cons_zero, List.set_cons_succ]
                  refine take_h 11 ?_ rfl (by kernel_rfl) (by kernel_rfl) (by kernel_rfl) (fun _ _ _ h => h) (Or.inl ⟨by kernel_rfl, ?_⟩) (by assumption) ?_
                  rotate_left
                  · (intro w hSw; (try dsimp only at hSw); go_simp; try (with_reducible rfl))
                  try simp only [Act.put, List.setIfInBounds_toArray, List.set_cons_zero, List.set_cons_succ]
                  refine wpAnyH_done (by kernel_rfl) ?_ _
                  clear hHeld qe
                  go_wp2
                  go_roundw
                  case rel => exact ⟨k + 1, p + 1, q, by omega, by go_num, rfl, by go_num, ⟨HNx.out.1, HNx.out.2, HV2.out.1, HV2.out.2⟩⟩
                  case measure => simp [intOf]; omega
              · obtain rfl : k = n := by omega
                have q5 : ¬ (k : Int) < (k : Int) := by omega
                have e0 : l.take k = l := List.take_of_length_le (by have := HNN.out.1; omega)
                have hp : p = nm := by rw [hH.out.1, e0, ← HVT.out.2.2.2.1, HNN.out.2.1]
                have hq : q = ng := by rw [hH.out.2.1, e0, ← HVT.out.2.2.2.2.2.2, HNN.out.2.2]
                subst hp hq
                have HB := Seal.mk hH.out.2.2.1
                have KP := Seal.mk hH.out.2.2.2
                clear hH e0
                go_wp2_with fail
                have hk : Calls Tryd.prog 19 #[.slice a k c] wo fun e w' => e = .returned (.tuple #[.agg L1.toArray, .int .i64 0]) ∧ Below wo.heap.size wo w' := by
                  have h := kroot_any a k c l wo (HG.out _ HB.out) (HL.out _ HB.out HN.out.1) HOK.out.1 (by have := HN.out.1; omega)
                  rw [HVT.out.2.2.1, show rootF45 l = b.B from by unfold rootF45; rw [if_pos HVT.out.2.2.1]; exact HVT.out.2.2.2.2.1.symm, ← HL12.out.1] at h
                  exact h
                refine hk.mono ?_
                rintro e w5 ⟨rfl, hb⟩
                have HB := Seal.mk (HB.out.trans ((hb).mono HB.out.size))
                have KP := Seal.mk (KP.out.step (hb))
                clear hk hb
                have ID1 : Seal ((Tryd.prog.info? 37).map (·.size) = some L1.length ∧ (#[.int .u8 0, .int .u8 0, .int .u8 0, .int .u8 0, .int .u8 0, .int .u8 0, .int .u8 0, .int .u8 0, .int .u8 0, .int .u8 0, .int .u8 0, .int .u8 0, .int .u8 0, .int .u8 0, .int .u8 0, .int .u8 0, .int .u8 0, .int .u8 0, .int .u8 0, .int .u8 0, .int .u8 0, .int .u8 0, .int .u8 0, .int .u8 0, .int .u8 0, .int .u8 0, .int .u8 0, .int .u8 0, .int .u8 0, .int .u8 0, .int .u8 0, .int .u8 0] : Array Value).size = L1.toArray.size ∧ L1.toArray.all (·.oneCell') = true ∧ ∀ w, (Op.equalIn 10000 37 (.agg L1.toArray) (.agg L1.toArray)).run Tryd.prog w = .ok true w) := ⟨by rw [HL12.out.1]; exact dg_info _ H32.out.1, by show 32 = _; rw [List.size_toArray, HL12.out.2.2.1], by rw [HL12.out.1]; simp [Value.oneCell'], fun w => by rw [HL12.out.1, eqDg _ _ H32.out.1 H32.out.1]; simp⟩
                have ID2 : Seal ((Tryd.prog.info? 37).map (·.size) = some L2.length ∧ (#[.int .u8 0, .int .u8 0, .int .u8 0, .int .u8 0, .int .u8 0, .int .u8 0, .int .u8 0, .int .u8 0, .int .u8 0, .int .u8 0, .int .u8 0, .int .u8 0, .int .u8 0, .int .u8 0, .int .u8 0, .int .u8 0, .int .u8 0, .int .u8 0, .int .u8 0, .int .u8 0, .int .u8 0, .int .u8 0, .int .u8 0, .int .u8 0, .int .u8 0, .int .u8 0, .int .u8 0, .int .u8 0, .int .u8 0, .int .u8 0, .int .u8 0, .int .u8 0] : Array Value).size = L2.toArray.size ∧ L2.toArray.all (·.oneCell') = true ∧ ∀ w, (Op.equalIn 10000 37 (.agg L2.toArray) (.agg L2.toArray)).run Tryd.prog w = .ok true w) := ⟨by rw [HL12.out.2.1]; exact dg_info _ H32.out.2, by show 32 = _; rw [List.size_toArray, HL12.out.2.2.2], by rw [HL12.out.2.1]; simp [Value.oneCell'], fun w => by rw [HL12.out.2.1, eqDg _ _ H32.out.2 H32.out.2]; simp⟩
                obtain ⟨Y, g16, hg, n1, n2, n3, n4, n5, n6⟩ := newv w5 #[.int .u8 0, .int .u8 0, .int .u8 0, .int .u8 0, .int .u8 0, .int .u8 0, .int .u8 0, .int .u8 0, .int .u8 0, .int .u8 0, .int .u8 0, .int .u8 0, .int .u8 0, .int .u8 0, .int .u8 0, .int .u8 0, .int .u8 0, .int .u8 0, .int .u8 0, .int .u8 0, .int .u8 0, .int .u8 0, .int .u8 0, .int .u8 0, .int .u8 0, .int .u8 0, .int .u8 0, .int .u8 0, .int .u8 0, .int .u8 0, .int .u8 0, .int .u8 0] L1 37
                have HB := Seal.mk (HB.out.trans ((n4).mono HB.out.size))
                have KP := Seal.mk (KP.out.step (n4))
                have K16 := Seal.mk n3
                have hgn := hg.symm
                clear hg n3 n4 n5 n6
                go_wp2_with ((try rw [hgn]); refine wpList_store_row rfl 37 (.tmp 16) (.tmp 118) rfl g16 L1.toArray rfl rfl 37 _ n2 (by simpa using ID1.out.1) ID1.out.2.1 ID1.out.2.2.1 ?_; rw [n1]; clear n1 n2 hgn; (try simp only [Act.put]))
                have hk : Calls Tryd.prog 19 #[.slice am p cm] Y fun e w' => e = .returned (.tuple #[.agg L2.toArray, .int .i64 0]) ∧ Below Y.heap.size Y w' := by
                  have h := kroot_any am p cm m Y (HG.out _ HB.out) (HM.out _ HB.out HN.out.2.1) HOK.out.2 (by have := HN.out.2.1; omega)
                  rw [HVT.out.2.1, show rootF45 m = b.A from by unfold rootF45; rw [if_pos HVT.out.2.1]; exact HVT.out.2.2.2.2.2.1.symm, ← HL12.out.2.1] at h
                  exact h
                refine hk.mono ?_
                rintro e w6 ⟨rfl, hb⟩
                have HB := Seal.mk (HB.out.trans ((hb).mono HB.out.size))
                have KP := Seal.mk (KP.out.step (hb))
                have K16 := Seal.mk (K16.out.step hb)
                clear hk hb
                obtain ⟨Z, g18, hg, n1, n2, n3, n4, n5, n6⟩ := newv w6 #[.int .u8 0, .int .u8 0, .int .u8 0, .int .u8 0, .int .u8 0, .int .u8 0, .int .u8 0, .int .u8 0, .int .u8 0, .int .u8 0, .int .u8 0, .int .u8 0, .int .u8 0, .int .u8 0, .int .u8 0, .int .u8 0, .int .u8 0, .int .u8 0, .int .u8 0, .int .u8 0, .int .u8 0, .int .u8 0, .int .u8 0, .int .u8 0, .int .u8 0, .int .u8 0, .int .u8 0, .int .u8 0, .int .u8 0, .int .u8 0, .int .u8 0, .int .u8 0] L2 37
                have HB := Seal.mk (HB.out.trans ((n4).mono HB.out.size))
                have KP := Seal.mk (KP.out.step (n4))
                have K16 := Seal.mk (K16.out.step n4)
                have r18 := n3.at
                have r16 := K16.out.at
                have rB := KP.out.at.rB
                have rA := KP.out.at.rA
                rw [← HL12.out.1] at rB
                rw [← HL12.out.2.1] at rA
                have c64 := KP.out.at.cG
                have i1 := ID1.out.1
                have i2 := ID2.out.1
                have qe1 := ID1.out.2.2.2
                have qe2 := ID2.out.2.2.2
                have hgn := hg.symm
                clear hg n3 n4 n5 n6
                go_wp2_with (first
                  | (refine wpList_load_mid_g (by kernel_rfl) 37 (.tmp 145) rfl gp 0 rfl L1 _ rB ud rfl i1 ?_; (try simp only [Act.put, List.setIfInBounds_toArray, List.set_cons_zero, List.set_cons_succ]))
                  | (refine wpList_load_mid_g (by kernel_rfl) 37 (.tmp 16) rfl g16 0 rfl L1 _ r16 ud rfl i1 ?_; (try simp only [Act.put, List.setIfInBounds_toArray, List.set_cons_zero, List.set_cons_succ]))
                  | (refine wpList_load_mid_g (by kernel_rfl) 37 (.tmp 151) rfl gp 32 rfl L2 _ rA ud rfl i2 ?_; (try simp only [Act.put, List.setIfInBounds_toArray, List.set_cons_zero, List.set_cons_succ]))
                  | (refine wpList_load_mid_g (by kernel_rfl) 37 (.tmp 18) rfl g18 0 rfl L2 _ r18 ud rfl i2 ?_; (try simp only [Act.put, List.setIfInBounds_toArray, List.set_cons_zero, List.set_cons_succ]))
                  | ((try rw [hgn]); refine wpList_store_row rfl 37 (.tmp 18) (.tmp 123) rfl g18 L2.toArray rfl rfl 37 _ n2 (by simpa using ID2.out.1) ID2.out.2.1 ID2.out.2.2.1 ?_; rw [n1]; clear n1 n2 hgn; (try simp only [Act.put])))
                go_ret
                exact ⟨rfl, HB.out⟩
        · have hE : burnE l t ≠ 0 := by rw [← HR.out.1]; exact hz
          have hRL : RL = [] := by rw [HR.out.2.1]; unfold burnL; rw [if_neg hE]
          have hRB : RB = noBrn := by rw [HR.out.2.2.1]; unfold burnB; rw [if_neg hE]
          have hn9 : n9 = 0 := by have := K9.out.at.llen; rw [hRL] at this; exact this.symm
          have h1 : ∀ W, Below V.heap.size V W → Calls Tryd.prog 17 #[.agg BC.toArray, .agg Tryd.zeroCells59] W fun e w' => e = .returned (.bool true) ∧ Below W.heap.size W w' := fun W hW => by
            have h := rsameB_any noBrn noBrn v9 (.slice none 0 0) W rfl rfl rfl rfl (by have := KG.out W hW; rwa [hRB] at this) (gone_nil W)
            rw [show brnB noBrn noBrn = true from by unfold brnB; simp, ← brz_no] at h
            rw [HBC.out, hRB]
            exact h
          have H1 := Seal.mk h1
          subst hn9
          have qz : (RE == 0) = false := by rw [beq_eq_false_iff_ne]; exact hz
          have HE := Seal.mk hE
          clear h1 hRL hRB hE
          have r10 := K10.out.at
          have i10 := IC.out.1
          go_wp2_with (first
            |
            (refine wpList_load_mid_g (by kernel_rfl) 59 (.tmp 10) rfl g10 0 rfl BC _ r10 ub rfl i10 ?_; (try simp only [Act.put, List.setIfInBounds_toArray, List.set_cons_zero, List.set_cons_succ]))
            |
            (refine wpList_store_row rfl 59 (.tmp 10) (.tmp 41) rfl g10 BC.toArray rfl rfl 59 _ n2 (by simpa using IC.out.1) IC.out.2.1 IC.out.2.2 ?_; rw [n1]; clear n1 n2 hgn; (try simp only [Act.put]))
            )
          clear r10 i10
          refine (H1.out V (Below.refl _ _)).mono ?_
          rintro e w3 ⟨rfl, hb⟩
          have HB := Seal.mk (HB.out.trans ((hb).mono HB.out.size))
          have KP := Seal.mk (KP.out.step (hb))
          clear hb K10 K9 KG H1
          have r7 : w3.rangeAt gp 0 CB := by rw [HCB.out]; exact KP.out.at.all
          have i7 := IB.out
          go_wp2_with
            (refine wpList_load_mid_g (by kernel_rfl) 59 (.tmp 7) rfl gp 0 rfl CB _ r7 ub rfl i7 ?_; (try simp only [Act.put, List.setIfInBounds_toArray, List.set_cons_zero, List.set_cons_succ]))
          clear r7 i7
          have hk : Calls Tryd.prog 18 #[.slice a n c, .slice am nm cm, .int .i64 t, .agg CB.toArray] w3 fun e w' => e = .returned (.bool false) ∧ Below w3.heap.size w3 w' := by
            have hi := HI.out _ HB.out HN.out.2.2
            have e : ng = b.G.length := hi.llen.symm
            have h := kverify_any a am n c nm cm l m t b (.slice ag ng cg) w3 (HG.out _ HB.out) (HL.out _ HB.out HN.out.1) HOK.out.1 (by have := HN.out.1; omega) (HM.out _ HB.out HN.out.2.1) HOK.out.2 H32.out.1 H32.out.2 ⟨ag, cg, by rw [e], by rw [← e]; exact hi⟩
            rw [ver_no HE.out, ← HCB.out] at h
            exact h
          refine hk.mono ?_
          rintro e w4 ⟨rfl, hb⟩
          have HB := Seal.mk (HB.out.trans ((hb).mono HB.out.size))
          have KP := Seal.mk (KP.out.step (hb))
          clear hk hb
          go_wp2
          go_ret
          exact ⟨rfl, HB.out⟩
end Frk
