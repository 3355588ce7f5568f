/- Law 57: Admit. -/
import Derived.Test.YtllbjakfjpjfnaaGreatDoorVxFai
namespace Frk
open Go Go.RowKit Go.Proofs
set_option maxRecDepth 100000

set_option maxHeartbeats 16000000 in
theorem fadmit_any (A : AdA) (w : World) (hA : A.at w) :
    Calls Tryz.prog 6 #[.slice A.aE A.nE A.cE, .slice A.aO A.nO A.cO, .slice A.aP A.nP A.cP, .agg A.x.C.toArray, .int .i64 A.now, .int .i64 A.term] w (FdPost (admL A.l A.off A.past A.x.c A.now A.term) (admE A.l A.off A.past A.x.c A.now A.term) w) := by
  have hmf : ∀ (fn : Fn) (first cap : Array Value) (w : World), (Instr.makeFunc fn first cap).run Tryz.prog w = .ok (.func fn first cap) w := fun _ _ _ _ => rfl
  have HA : Seal (∀ W, Below w.heap.size w W → A.at W) := ⟨fun W h => hA.below h⟩
  have HI := Seal.mk (AdI.new w A)
  obtain ⟨aP, haP⟩ : ∃ a, a = A.aP := ⟨_, rfl⟩
  have HaP := Seal.mk haP
  rw [← haP] at HI ⊢
  obtain ⟨X, hX⟩ : ∃ X : World, X = (((((((w.alloc (.cells #[.slice A.aE A.nE A.cE] 22)).alloc (.cells #[.slice A.aO A.nO A.cO] 23)).alloc (.cells #[.slice aP A.nP A.cP] 24)).alloc (.cells A.x.C.toArray 35)).alloc (.cells #[.int .i64 A.now] 3)).alloc (.cells #[.int .i64 A.term] 3)).alloc (.cells #[.slice none 0 0] 24)).alloc (.cells #[.int .i64 0] 38) := ⟨_, rfl⟩
  rw [← hX] at HI
  obtain ⟨CX, hCX⟩ : ∃ C, C = A.x.C := ⟨_, rfl⟩
  have HCX := Seal.mk hCX
  obtain ⟨RE, hRE⟩ : ∃ e, e = admE A.l A.off A.past A.x.c A.now A.term := ⟨_, rfl⟩
  obtain ⟨RL, hRL⟩ : ∃ e, e = admL A.l A.off A.past A.x.c A.now A.term := ⟨_, rfl⟩
  have HR := Seal.mk (And.intro hRE hRL)
  rw [← hCX] at hX ⊢
  rw [← hRE, ← hRL]
  clear hA hCX hRE hRL haP
  go_enter_defers Tryz.func6, Tryz.ntmps6
  go_upto_region 1 with (fail)
  rw [← hX]
  clear hX
  obtain ⟨g, hg⟩ : ∃ g, g = w.heap.size := ⟨_, rfl⟩
  rw [← hg] at HI ⊢
  have HG := Seal.mk hg
  clear hg
  have c6 : X.cell? ⟨g, 0, none⟩ = some (.slice A.aE A.nE A.cE) := by rw [cell_of_row _ _ _ _ _ _ HI.out.c6]; rfl
  have HGw : Seal (w.heap.size ≤ g) := ⟨by rw [HG.out]; exact Nat.le_refl _⟩
  obtain ⟨g13, e13⟩ : ∃ k, k = g + 1 + 1 + 1 + 1 + 1 + 1 + 1 := ⟨_, rfl⟩
  obtain ⟨g12, e12⟩ : ∃ k, k = g + 1 + 1 + 1 + 1 + 1 + 1 := ⟨_, rfl⟩
  obtain ⟨g11, e11⟩ : ∃ k, k = g + 1 + 1 + 1 + 1 + 1 := ⟨_, rfl⟩
  obtain ⟨g10, e10⟩ : ∃ k, k = g + 1 + 1 + 1 + 1 := ⟨_, rfl⟩
  obtain ⟨g9, e9⟩ : ∃ k, k = g + 1 + 1 + 1 := ⟨_, rfl⟩
  obtain ⟨g8, e8⟩ : ∃ k, k = g + 1 + 1 := ⟨_, rfl⟩
  obtain ⟨g7, e7⟩ : ∃ k, k = g + 1 := ⟨_, rfl⟩
  rw [← e13, ← e12, ← e11, ← e10, ← e9, ← e8, ← e7]
  have HGs : Seal (g7 = g + 1 ∧ g8 = g + 2 ∧ g9 = g + 3 ∧ g10 = g + 4 ∧ g11 = g + 5 ∧ g12 = g + 6 ∧ g13 = g + 7) := ⟨by omega⟩
  clear e7 e8 e9 e10 e11 e12 e13
  obtain ⟨e0, he0⟩ : ∃ e, e = epChk A.l := ⟨_, rfl⟩
  have HC : Seal (Calls Tryz.prog 16 #[.slice A.aE A.nE A.cE] X fun e w' => e = .returned (.int .i64 e0) ∧ Below X.heap.size X w') := ⟨by rw [he0]; exact fcheck_any A.aE A.nE A.cE A.l X (HA.out X HI.out.bel).E⟩
  have HE0 := Seal.mk he0
  clear he0
  go_wp2_with fail
  refine HC.out.mono ?_
  rintro e w1 ⟨rfl, hb⟩
  have HI1 := Seal.mk (HI.out.later HGw.out hb)
  clear hb HC HI c6
  by_cases hz : e0 = 0
  rotate_left
  · have HR2 : Seal (RL = [] ∧ RE = e0) := ⟨by
      have h1 : RE = e0 := by rw [HR.out.1]; unfold admE; rw [if_pos (by rw [← HE0.out]; exact hz), HE0.out]
      exact ⟨by rw [HR.out.2]; unfold admL; rw [if_neg (by rw [← HR.out.1, h1]; exact hz)], h1⟩⟩
    go_wp2
    show Leaves _ _ _ _ _ _ _
    have hd := fdoor_panic HI1.out HGw.out e0
    rw [← HGs.out.2.2.2.2.2.1, ← HGs.out.2.2.2.2.2.2] at hd
    rw [HR2.out.1, HR2.out.2]
    exact hd _ rfl rfl
  · subst hz
    obtain ⟨gm, hgm⟩ : ∃ k, k = w1.heap.size := ⟨_, rfl⟩
    obtain ⟨Y, hY⟩ : ∃ Y, Y = w1.alloc (.cells #[.slice none 0 0] 60) := ⟨_, rfl⟩
    have hbY : Below w1.heap.size w1 Y := by rw [hY]; exact below_alloc _ _
    have HM0 : Seal (MkI w g A gm 0 (.slice none 0 0) Y) := ⟨⟨HI1.out.later HGw.out hbY, by rw [hgm, hY]; exact heap_alloc_new w1 _, World.ownsRow_nil _ _ _ _, by rw [hgm]; exact (Array.getElem?_eq_some_iff.1 HI1.out.c13).1⟩⟩
    have k8 : (w1.alloc (.cells #[.slice none 0 0] 60)).cell? ⟨g8, 0, none⟩ = some (.slice aP A.nP A.cP) := by
      rw [← hY, HGs.out.2.1, cell_of_row _ _ _ _ _ _ HM0.out.ad.c8, HaP.out]; rfl
    clear hbY HI1
    go_wp2_with fail
    rw [← hY, ← hgm]
    clear hY hgm k8
    have HPl : Seal (A.past.length = A.nP ∧ A.nP ≤ 4000 ∧ ∀ d ∈ A.past, d.length = 32) := ⟨(HA.out w (Below.refl _ _)).P.llen, (HA.out w (Below.refl _ _)).P4, (HA.out w (Below.refl _ _)).P.each⟩
    have ud := Tryz.underlying42
    obtain ⟨i0, hi, hz0, hz1, hz2⟩ := info_parts info_mk
    have HMi := Seal.mk (And.intro hi (And.intro hz0 (And.intro hz1 hz2)))
    clear hi hz0 hz1 hz2
    go_loopw [32] (fun i wr => ∃ (k : Nat) (v : Value), k ≤ A.nP ∧ i = .int .i64 k ∧ Seal (MkI w g A gm k v wr)) (fun i _ => A.nP - (intOf i).toNat)
    case atStart => exact ⟨0, _, by omega, rfl, HM0⟩
    case round =>
      obtain ⟨wo, rfl⟩ : ∃ z, z = wr := ⟨_, rfl⟩
      obtain ⟨k, v, hk, rfl, hH⟩ := hrel
      clear HM0
      by_cases hlt : k < A.nP
      · have hP := (HA.out wo hH.out.ad.bel).P
        rcases hP.at_ with hz | ⟨gp, op, ep, hr, hg⟩
        · omega
        obtain ⟨d, hd⟩ : ∃ d, A.past[k]? = some d := ⟨_, List.getElem?_eq_getElem (by have := HPl.out.1; omega)⟩
        have hdd : A.past.getD k [] = d := by rw [List.getD_eq_getElem?_getD, hd]; rfl
        have rD := range_dg hr hP.each (i := k) (by have := HPl.out.1; omega)
        rw [hdd] at rD
        have d32 := hP.each d (List.mem_of_getElem? hd)
        obtain ⟨DL, hDL⟩ : ∃ L, L = d.map B := ⟨_, rfl⟩
        have iD : (Tryz.prog.info? 42).map (·.size) = some DL.length := by rw [hDL]; exact dg_info d d32
        have ID : Seal ((#[.int .u8 0, .int .u8 0, .int .u8 0, .int .u8 0, .int .u8 0, .int .u8 0, .int .u8 0, .int .u8 0, .int .u8 0, .int .u8 0, .int .u8 0, .int .u8 0, .int .u8 0, .int .u8 0, .int .u8 0, .int .u8 0, .int .u8 0, .int .u8 0, .int .u8 0, .int .u8 0, .int .u8 0, .int .u8 0, .int .u8 0, .int .u8 0, .int .u8 0, .int .u8 0, .int .u8 0, .int .u8 0, .int .u8 0, .int .u8 0, .int .u8 0, .int .u8 0] : Array Value).size = DL.toArray.size ∧ DL.toArray.all (·.oneCell') = true ∧ (Tryz.prog.info? 42).map (·.size) = some DL.toArray.size ∧ DL.length = 32 ∧ ∀ u ∈ DL, u.oneCell' = true) := ⟨by show 32 = _; rw [List.size_toArray, hDL, List.length_map, d32], by rw [hDL]; simp [Value.oneCell'], by rw [List.size_toArray]; exact iD, by rw [hDL, List.length_map, d32], by rw [hDL]; intro u hu; obtain ⟨b, _, rfl⟩ := List.mem_map.1 hu; rfl⟩
        have q5 : (k : Int) < (A.nP : Int) := by omega
        have q6 : (0 : Int) ≤ (k : Int) := by omega
        have HD : Seal (A.past[k]? = some d ∧ DL = d.map B) := ⟨hd, hDL⟩
        rw [← hDL] at rD
        obtain ⟨V, gd, hgd, n1, n2, n3, n4, _, _⟩ := newf wo #[.int .u8 0, .int .u8 0, .int .u8 0, .int .u8 0, .int .u8 0, .int .u8 0, .int .u8 0, .int .u8 0, .int .u8 0, .int .u8 0, .int .u8 0, .int .u8 0, .int .u8 0, .int .u8 0, .int .u8 0, .int .u8 0, .int .u8 0, .int .u8 0, .int .u8 0, .int .u8 0, .int .u8 0, .int .u8 0, .int .u8 0, .int .u8 0, .int .u8 0, .int .u8 0, .int .u8 0, .int .u8 0, .int .u8 0, .int .u8 0, .int .u8 0, .int .u8 0] DL 42
        have HV := Seal.mk (hH.out.later HGw.out n4)
        have r17 := n3.at
        have k15 := HV.out.cells.1
        have hgn := hgd.symm
        obtain rfl : aP = some ⟨gp, op, none⟩ := HaP.out.trans ep
        clear ep hP hr hg hd hdd d32 hDL hgd n3 n4 hH
        have hnP : A.nP ≤ 4000 := HPl.out.2.1
        have HBs : Seal (k ≤ 4000) := ⟨by omega⟩
        go_wp2_with (first
          | (refine wpList_load_mid rfl 42 (.tmp 34) rfl gp (op + k * 32) rfl DL _ rD ud rfl iD ?_; (try simp only [Act.put, List.setIfInBounds_toArray, List.set_cons_zero, List.set_cons_succ]))
          | (refine wpList_load_mid rfl 42 (.tmp 17) rfl gd 0 rfl DL _ r17 ud rfl iD ?_; (try simp only [Act.put, List.setIfInBounds_toArray, List.set_cons_zero, List.set_cons_succ]))
          | (refine wpList_store_row rfl 42 (.tmp 17) (.tmp 35) (by first | rfl | (rw [hgn]; rfl)) gd DL.toArray (by first | rfl | (rw [hgn]; rfl)) rfl 42 _ n2 ID.out.2.2.1 ID.out.1 ID.out.2.1 ?_; rw [n1]; clear n1 n2 rD; (try simp only [Act.put]))
          | (refine wpList_bslice (by kernel_rfl) 60 61 1 32 #[(0, .tmp 37)] rfl [DL] Tryz.underlying60 size_mk _ zero_mk rfl rfl (by intro D hD; rw [List.mem_singleton.1 hD]; exact ID.out.2.2.2.1) (by decide) (by decide) rfl ?_; obtain ⟨Z, hZ⟩ : ∃ Z, Z = V.alloc (.cells [DL].flatten.toArray 61) := ⟨_, rfl⟩; have hbZ : Below V.heap.size V Z := (by rw [hZ]; exact below_alloc _ _); have HZ : Seal (MkI w g A gm k v Z ∧ ∀ j u, DL[j]? = some u → Z.cell? ((⟨V.heap.size, 0, none⟩ : Addr).add j) = some u) := ⟨HV.out.later HGw.out hbZ, fun j u hu => (by rw [Addr.add_mid, hZ]; exact rangeAt_row (cs := DL) (by have := heap_alloc_new V (.cells [DL].flatten.toArray 61); simpa using this) j u hu)⟩; rw [← hZ]; clear hZ hbZ r17 k15; (try simp only [Act.put, List.setIfInBounds_toArray, List.set_cons_zero, List.set_cons_succ]))
          | (at_builtin; refine wpList_append_own _ rfl (.tmp 36) (.tmp 38) 60 rfl (gm + 1) 61 i0 _ 32 32 Tryz.underlying60 HMi.out.1 HMi.out.2.1 HMi.out.2.2.1 HMi.out.2.2.2 rfl (by decide) v k (dcells (A.past.take k)) rfl HZ.out.1.own ⟨V.heap.size, 0, none⟩ 1 1 DL rfl (by rw [ID.out.2.2.2.1]) HZ.out.2 ID.out.2.2.2.2 (by unfold maxLen; have := HBs.out; omega) (by have := HBs.out; omega) (by have := (Array.getElem?_eq_some_iff.1 HZ.out.1.box).1; omega) ?_; intro v5 w5 hown5 hgrow5 _; obtain ⟨a5, n5, q5, rfl⟩ := mk_form hown5; obtain ⟨⟨k5, z5⟩, hst⟩ := HZ.out.1.step HGw.out HD.out.1 (by rw [← HD.out.2]; exact hown5) hgrow5; have HN := Seal.mk hst; clear hst hown5 hgrow5; (try simp only [Act.put, List.setIfInBounds_toArray, List.set_cons_zero, List.set_cons_succ])))
        go_roundw
        case rel => exact ⟨k + 1, _, by omega, by go_num, HN⟩
        case measure => simp [intOf]; omega
      · obtain rfl : k = A.nP := by omega
        have q5 : ¬ (A.nP : Int) < (A.nP : Int) := by omega
        have e1 : A.past.take A.nP = A.past := List.take_of_length_le (by have := HPl.out.1; omega)
        have how := hH.out.own
        rw [e1] at how
        obtain ⟨am, cm, rfl, hmk⟩ := mk_isD how HPl.out.1 HPl.out.2.2 (by have := HPl.out.2.1; omega)
        have hml : ∀ b o, am = some ⟨b, o, none⟩ → b < wo.heap.size := fun b o e => by
          subst e
          exact (how.lt b rfl).2
        obtain ⟨gs, hgs⟩ : ∃ k, k = wo.heap.size := ⟨_, rfl⟩
        obtain ⟨Y, hY⟩ : ∃ Y, Y = (((wo.alloc (.cells #[.func (.func 17) #[] #[.pointer (some ⟨gm, 0, none⟩), .pointer (some ⟨g8, 0, none⟩)]] 36)).alloc (.cells #[.int .i64 0] 3)).alloc (.cells #[.bool false] 4)).alloc (.cells #[.func (.func 19) #[] #[.pointer (some ⟨g10, 0, none⟩), .pointer (some ⟨g11, 0, none⟩), .pointer (some ⟨gs, 0, none⟩)], .int .i64 1, .func (.func 21) #[] #[.pointer (some ⟨g7, 0, none⟩), .pointer (some ⟨g9, 0, none⟩)], .int .i64 560, .func (.func 23) #[] #[.pointer (some ⟨gm, 0, none⟩), .pointer (some ⟨g9, 0, none⟩), .pointer (some ⟨gs + 1, 0, none⟩), .pointer (some ⟨gs + 1 + 1, 0, none⟩)], .int .i64 181, .func (.func 25) #[] #[.pointer (some ⟨g, 0, none⟩), .pointer (some ⟨g7, 0, none⟩), .pointer (some ⟨g9, 0, none⟩), .pointer (some ⟨g10, 0, none⟩), .pointer (some ⟨g11, 0, none⟩)], .int .i64 570, .func (.func 27) #[] #[.pointer (some ⟨g8, 0, none⟩)], .int .i64 2] 64) := ⟨_, rfl⟩
        have HS0 : Seal (StI w g A gm gs am cm 0 false Y) := ⟨by
          obtain ⟨i7, i8, i9, i10, i11, _, _⟩ := HGs.out
          have step : ∀ (W : World) (o : Obj) (i : Nat) (p : Obj), W.heap[i]? = some p → (W.alloc o).heap[i]? = some p := fun W o i p h => (Below.heap_alloc W o _ (Array.getElem?_eq_some_iff.1 h).1).trans h
          have new : ∀ (W : World) (o : Obj) (i : Nat), i = W.heap.size → (W.alloc o).heap[i]? = some o := fun W o i h => by rw [h]; exact World.alloc_heap_new W o
          have hb : Below wo.heap.size wo Y := by
            rw [hY]
            exact ((((Below.refl _ wo).alloc (Nat.le_refl _) _).alloc (by simp) _).alloc (by simp; omega) _).alloc (by simp; omega) _
          refine ⟨hH.out.ad.later HGw.out hb, (hb.block _ (Array.getElem?_eq_some_iff.1 hH.out.box).1).trans hH.out.box, hmk.of_heap hb, ?_, ?_, ?_, ?_, ⟨hH.out.lt, by rw [hgs]; exact (Array.getElem?_eq_some_iff.1 hH.out.box).1⟩, fun b o e => by rw [hgs]; exact hml b o e⟩
          · rw [hY, ← i8]; exact step _ _ _ _ (step _ _ _ _ (step _ _ _ _ (new _ _ _ hgs)))
          · rw [hY]; exact step _ _ _ _ (step _ _ _ _ (new _ _ _ (by simp; omega)))
          · rw [hY]; exact step _ _ _ _ (new _ _ _ (by simp; omega))
          · rw [hY, ← i7, ← i8, ← i9, ← i10, ← i11]; exact rangeAt_row (cs := [_, _, _, _, _, _, _, _, _, _]) (new _ _ _ (by simp; omega))⟩
        have HAk0 : Seal (Asked A 0 0) := ⟨⟨fun h => by omega, fun h => by omega, fun h => by omega, fun h => by omega, fun h => by omega⟩⟩
        clear how e1 hmk hml hH
        go_wp2_with fail
        rw [← hgs, ← hY]
        clear hY hgs
        obtain ⟨gT, hgT⟩ : ∃ k, k = gs + 1 + 1 + 1 := ⟨_, rfl⟩
        obtain ⟨g20, hg20⟩ : ∃ k, k = gs + 1 + 1 := ⟨_, rfl⟩
        obtain ⟨g19, hg19⟩ : ∃ k, k = gs + 1 := ⟨_, rfl⟩
        rw [← hgT, ← hg20, ← hg19]
        have HGt : Seal (g19 = gs + 1 ∧ g20 = gs + 2 ∧ gT = gs + 3) := ⟨by omega⟩
        clear hgT hg20 hg19
        go_loopw [54] (fun i wr => ∃ (k : Nat), k ≤ 5 ∧ i = .int .i64 k ∧ Seal (∃ p f, StI w g A gm gs am cm p f wr ∧ Asked A k p)) (fun i _ => 5 - (intOf i).toNat)
        case atStart => exact ⟨0, by omega, rfl, ⟨0, false, HS0.out, HAk0.out⟩⟩
        case round =>
          obtain ⟨wo2, rfl⟩ : ∃ z, z = wr := ⟨_, rfl⟩
          obtain ⟨k, hk, rfl, hH⟩ := hrel
          clear HS0 HAk0
          obtain ⟨p, f, hS, hAk⟩ := hH.out
          have HSt := Seal.mk hS
          have HAk := Seal.mk hAk
          have rT := hS.tab
          rw [← HGt.out.2.2] at rT
          clear hH hS hAk
          have uT := Tryz.underlying64
          by_cases hlt : k < 5
          · obtain rfl | rfl | rfl | rfl | rfl : k = 0 ∨ k = 1 ∨ k = 2 ∨ k = 3 ∨ k = 4 := by omega
            · have rK : wo2.rangeAt gT 0 [.func (.func 19) #[] #[.pointer (some ⟨g + 4, 0, none⟩), .pointer (some ⟨g + 5, 0, none⟩), .pointer (some ⟨gs, 0, none⟩)], .int .i64 1] := by
                have h := rangeAt_take (rangeAt_drop rT 0) 2
                rw [Nat.zero_add] at h
                exact h
              have iT : (Tryz.prog.info? 64).map (·.size) = some ([.func (.func 19) #[] #[.pointer (some ⟨g + 4, 0, none⟩), .pointer (some ⟨g + 5, 0, none⟩), .pointer (some ⟨gs, 0, none⟩)], .int .i64 1] : List Value).length := by kernel_rfl
              obtain ⟨Wr, hWr⟩ : ∃ W, W = wo2.alloc (.cells #[.func (.func 19) #[] #[.pointer (some ⟨g + 4, 0, none⟩), .pointer (some ⟨g + 5, 0, none⟩), .pointer (some ⟨gs, 0, none⟩)], .int .i64 1] 64) := ⟨_, rfl⟩
              have hbr : Below wo2.heap.size wo2 Wr := by rw [hWr]; exact below_alloc _ _
              have HSr := Seal.mk (HSt.out.later HGw.out hbr)
              obtain ⟨gr, hgr⟩ : ∃ k, k = wo2.heap.size := ⟨_, rfl⟩
              have cr : Wr.cell? ⟨gr, 1, none⟩ = some (.int .i64 1) := by rw [hgr, hWr, cell_of_row _ _ _ _ _ _ (heap_alloc_new wo2 _)]; rfl
              have HNr : Seal (gs + 3 < gr) := ⟨by rw [hgr, ← HGt.out.2.2]; exact block_lt_of_cell (rK 1 _ rfl)⟩
              go_wp2_with (refine wpList_load_mid rfl 64 (.tmp 56) rfl gT 0 rfl [.func (.func 19) #[] #[.pointer (some ⟨g + 4, 0, none⟩), .pointer (some ⟨g + 5, 0, none⟩), .pointer (some ⟨gs, 0, none⟩)], .int .i64 1] _ rK uT rfl iT ?_; (try simp only [Act.put, List.setIfInBounds_toArray, List.set_cons_zero, List.set_cons_succ]))
              rw [← hWr, ← hgr]
              clear hWr hgr hbr rK rT iT
              obtain ⟨b, hb0⟩ : ∃ b, b = argB A.past A.now A.term := ⟨_, rfl⟩
              have HB0 := Seal.mk hb0
              have hc := by
                have hAd := HSr.out.ad
                have hAr := HA.out Wr hAd.bel
                have k6 : Wr.cell? ⟨g, 0, none⟩ = some (.slice A.aE A.nE A.cE) := by rw [cell_of_row _ _ _ _ _ _ hAd.c6]; rfl
                have k7 : Wr.cell? ⟨g + 1, 0, none⟩ = some (.slice A.aO A.nO A.cO) := by rw [cell_of_row _ _ _ _ _ _ hAd.c7]; rfl
                have k8 : Wr.cell? ⟨g + 2, 0, none⟩ = some (.slice A.aP A.nP A.cP) := by rw [cell_of_row _ _ _ _ _ _ hAd.c8]; rfl
                have r9 : Wr.rangeAt (g + 3) 0 A.x.C := rangeAt_row hAd.c9
                have k10 : Wr.cell? ⟨g + 4, 0, none⟩ = some (.int .i64 A.now) := by rw [cell_of_row _ _ _ _ _ _ hAd.c10]; rfl
                have k11 : Wr.cell? ⟨g + 5, 0, none⟩ = some (.int .i64 A.term) := by rw [cell_of_row _ _ _ _ _ _ hAd.c11]; rfl
                have k18 : Wr.cell? ⟨gs, 0, none⟩ = some (.func (.func 17) #[] #[.pointer (some ⟨gm, 0, none⟩), .pointer (some ⟨g + 2, 0, none⟩)]) := by rw [cell_of_row _ _ _ _ _ _ HSr.out.c18]; rfl
                have kbox : Wr.cell? ⟨gm, 0, none⟩ = some (.slice am A.nP cm) := by rw [cell_of_row _ _ _ _ _ _ HSr.out.box]; rfl
                exact fc3_any (g + 4) (g + 5) gs gm (g + 2) am A.aP A.nP cm A.nP A.cP A.past A.now A.term Wr k10 k11 k18 kbox HSr.out.mr k8 (by have := HPl.out.2.1; omega) HPl.out.1
              rw [← hb0] at hc
              refine hc.mono ?_
              rintro e w2 ⟨rfl, hb⟩
              have HS2 := Seal.mk (HSr.out.later HGw.out hb)
              have c2 := cell_below' hb cr
              clear hb hc cr hb0 HSr
              cases b with
              | false =>
                have h1 : RE = 1 := by rw [HR.out.1]; exact adm_1 HE0.out.symm HB0.out.symm
                have HR2 : Seal (RL = [] ∧ RE = 1) := ⟨by rw [HR.out.2]; exact adm_no (HR.out.1.symm.trans h1) (by decide), h1⟩
                have HAd := Seal.mk HS2.out.ad
                clear h1
                go_wp2
                show Leaves _ _ _ _ _ _ _
                have hd := fdoor_panic HAd.out HGw.out 1
                rw [← HGs.out.2.2.2.2.2.1, ← HGs.out.2.2.2.2.2.2] at hd
                rw [HR2.out.1, HR2.out.2]
                exact hd _ rfl rfl
              | true =>
                have HN : Seal (∃ p f, StI w g A gm gs am cm p f w2 ∧ Asked A 1 p) := ⟨p, f, HS2.out, ⟨fun _ => HB0.out.symm, fun h => by omega, fun h => by omega, fun h => by omega, fun h => by omega⟩⟩
                go_wp2
                go_roundw
                case rel => exact ⟨1, by omega, by go_num, HN⟩
                case measure => simp [intOf]
            · have rK : wo2.rangeAt gT 2 [.func (.func 21) #[] #[.pointer (some ⟨g + 1, 0, none⟩), .pointer (some ⟨g + 3, 0, none⟩)], .int .i64 560] := by
                have h := rangeAt_take (rangeAt_drop rT 2) 2
                rw [Nat.zero_add] at h
                exact h
              have iT : (Tryz.prog.info? 64).map (·.size) = some ([.func (.func 21) #[] #[.pointer (some ⟨g + 1, 0, none⟩), .pointer (some ⟨g + 3, 0, none⟩)], .int .i64 560] : List Value).length := by kernel_rfl
              obtain ⟨Wr, hWr⟩ : ∃ W, W = wo2.alloc (.cells #[.func (.func 21) #[] #[.pointer (some ⟨g + 1, 0, none⟩), .pointer (some ⟨g + 3, 0, none⟩)], .int .i64 560] 64) := ⟨_, rfl⟩
              have hbr : Below wo2.heap.size wo2 Wr := by rw [hWr]; exact below_alloc _ _
              have HSr := Seal.mk (HSt.out.later HGw.out hbr)
              obtain ⟨gr, hgr⟩ : ∃ k, k = wo2.heap.size := ⟨_, rfl⟩
              have cr : Wr.cell? ⟨gr, 1, none⟩ = some (.int .i64 560) := by rw [hgr, hWr, cell_of_row _ _ _ _ _ _ (heap_alloc_new wo2 _)]; rfl
              have HNr : Seal (gs + 3 < gr) := ⟨by rw [hgr, ← HGt.out.2.2]; exact block_lt_of_cell (rK 1 _ rfl)⟩
              go_wp2_with (refine wpList_load_mid rfl 64 (.tmp 56) rfl gT 2 rfl [.func (.func 21) #[] #[.pointer (some ⟨g + 1, 0, none⟩), .pointer (some ⟨g + 3, 0, none⟩)], .int .i64 560] _ rK uT rfl iT ?_; (try simp only [Act.put, List.setIfInBounds_toArray, List.set_cons_zero, List.set_cons_succ]))
              rw [← hWr, ← hgr]
              clear hWr hgr hbr rK rT iT
              obtain ⟨b, hb0⟩ : ∃ b, b = formB A.off A.x.c := ⟨_, rfl⟩
              have HB0 := Seal.mk hb0
              have hc := by
                have hAd := HSr.out.ad
                have hAr := HA.out Wr hAd.bel
                have k6 : Wr.cell? ⟨g, 0, none⟩ = some (.slice A.aE A.nE A.cE) := by rw [cell_of_row _ _ _ _ _ _ hAd.c6]; rfl
                have k7 : Wr.cell? ⟨g + 1, 0, none⟩ = some (.slice A.aO A.nO A.cO) := by rw [cell_of_row _ _ _ _ _ _ hAd.c7]; rfl
                have k8 : Wr.cell? ⟨g + 2, 0, none⟩ = some (.slice A.aP A.nP A.cP) := by rw [cell_of_row _ _ _ _ _ _ hAd.c8]; rfl
                have r9 : Wr.rangeAt (g + 3) 0 A.x.C := rangeAt_row hAd.c9
                have k10 : Wr.cell? ⟨g + 4, 0, none⟩ = some (.int .i64 A.now) := by rw [cell_of_row _ _ _ _ _ _ hAd.c10]; rfl
                have k11 : Wr.cell? ⟨g + 5, 0, none⟩ = some (.int .i64 A.term) := by rw [cell_of_row _ _ _ _ _ _ hAd.c11]; rfl
                have k18 : Wr.cell? ⟨gs, 0, none⟩ = some (.func (.func 17) #[] #[.pointer (some ⟨gm, 0, none⟩), .pointer (some ⟨g + 2, 0, none⟩)]) := by rw [cell_of_row _ _ _ _ _ _ HSr.out.c18]; rfl
                have kbox : Wr.cell? ⟨gm, 0, none⟩ = some (.slice am A.nP cm) := by rw [cell_of_row _ _ _ _ _ _ HSr.out.box]; rfl
                exact fc4_any (g + 1) (g + 3) A Wr hAr k7 r9
              rw [← hb0] at hc
              refine hc.mono ?_
              rintro e w2 ⟨rfl, hb⟩
              have HS2 := Seal.mk (HSr.out.later HGw.out hb)
              have c2 := cell_below' hb cr
              clear hb hc cr hb0 HSr
              cases b with
              | false =>
                have h1 : RE = 560 := by rw [HR.out.1]; exact adm_2 HE0.out.symm (HAk.out.1 (by omega)) HB0.out.symm
                have HR2 : Seal (RL = [] ∧ RE = 560) := ⟨by rw [HR.out.2]; exact adm_no (HR.out.1.symm.trans h1) (by decide), h1⟩
                have HAd := Seal.mk HS2.out.ad
                clear h1
                go_wp2
                show Leaves _ _ _ _ _ _ _
                have hd := fdoor_panic HAd.out HGw.out 560
                rw [← HGs.out.2.2.2.2.2.1, ← HGs.out.2.2.2.2.2.2] at hd
                rw [HR2.out.1, HR2.out.2]
                exact hd _ rfl rfl
              | true =>
                have HN : Seal (∃ p f, StI w g A gm gs am cm p f w2 ∧ Asked A 2 p) := ⟨p, f, HS2.out, ⟨fun _ => HAk.out.1 (by omega), fun _ => HB0.out.symm, fun h => by omega, fun h => by omega, fun h => by omega⟩⟩
                go_wp2
                go_roundw
                case rel => exact ⟨2, by omega, by go_num, HN⟩
                case measure => simp [intOf]
            · have rK : wo2.rangeAt gT 4 [.func (.func 23) #[] #[.pointer (some ⟨gm, 0, none⟩), .pointer (some ⟨g + 3, 0, none⟩), .pointer (some ⟨gs + 1, 0, none⟩), .pointer (some ⟨gs + 2, 0, none⟩)], .int .i64 181] := by
                have h := rangeAt_take (rangeAt_drop rT 4) 2
                rw [Nat.zero_add] at h
                exact h
              have iT : (Tryz.prog.info? 64).map (·.size) = some ([.func (.func 23) #[] #[.pointer (some ⟨gm, 0, none⟩), .pointer (some ⟨g + 3, 0, none⟩), .pointer (some ⟨gs + 1, 0, none⟩), .pointer (some ⟨gs + 2, 0, none⟩)], .int .i64 181] : List Value).length := by kernel_rfl
              obtain ⟨Wr, hWr⟩ : ∃ W, W = wo2.alloc (.cells #[.func (.func 23) #[] #[.pointer (some ⟨gm, 0, none⟩), .pointer (some ⟨g + 3, 0, none⟩), .pointer (some ⟨gs + 1, 0, none⟩), .pointer (some ⟨gs + 2, 0, none⟩)], .int .i64 181] 64) := ⟨_, rfl⟩
              have hbr : Below wo2.heap.size wo2 Wr := by rw [hWr]; exact below_alloc _ _
              have HSr := Seal.mk (HSt.out.later HGw.out hbr)
              obtain ⟨gr, hgr⟩ : ∃ k, k = wo2.heap.size := ⟨_, rfl⟩
              have cr : Wr.cell? ⟨gr, 1, none⟩ = some (.int .i64 181) := by rw [hgr, hWr, cell_of_row _ _ _ _ _ _ (heap_alloc_new wo2 _)]; rfl
              have HNr : Seal (gs + 3 < gr) := ⟨by rw [hgr, ← HGt.out.2.2]; exact block_lt_of_cell (rK 1 _ rfl)⟩
              go_wp2_with (refine wpList_load_mid rfl 64 (.tmp 56) rfl gT 4 rfl [.func (.func 23) #[] #[.pointer (some ⟨gm, 0, none⟩), .pointer (some ⟨g + 3, 0, none⟩), .pointer (some ⟨gs + 1, 0, none⟩), .pointer (some ⟨gs + 2, 0, none⟩)], .int .i64 181] _ rK uT rfl iT ?_; (try simp only [Act.put, List.setIfInBounds_toArray, List.set_cons_zero, List.set_cons_succ]))
              rw [← hWr, ← hgr]
              clear hWr hgr hbr rK rT iT
              obtain ⟨b, hb0⟩ : ∃ b, b = hasB A.past (caseD A.x.c) := ⟨_, rfl⟩
              have HB0 := Seal.mk hb0
              obtain ⟨pp, hpp⟩ : ∃ q, q = atB A.past (caseD A.x.c) := ⟨_, rfl⟩
              have hc := by
                have hAd := HSr.out.ad
                have hAr := HA.out Wr hAd.bel
                have k6 : Wr.cell? ⟨g, 0, none⟩ = some (.slice A.aE A.nE A.cE) := by rw [cell_of_row _ _ _ _ _ _ hAd.c6]; rfl
                have k7 : Wr.cell? ⟨g + 1, 0, none⟩ = some (.slice A.aO A.nO A.cO) := by rw [cell_of_row _ _ _ _ _ _ hAd.c7]; rfl
                have k8 : Wr.cell? ⟨g + 2, 0, none⟩ = some (.slice A.aP A.nP A.cP) := by rw [cell_of_row _ _ _ _ _ _ hAd.c8]; rfl
                have r9 : Wr.rangeAt (g + 3) 0 A.x.C := rangeAt_row hAd.c9
                have k10 : Wr.cell? ⟨g + 4, 0, none⟩ = some (.int .i64 A.now) := by rw [cell_of_row _ _ _ _ _ _ hAd.c10]; rfl
                have k11 : Wr.cell? ⟨g + 5, 0, none⟩ = some (.int .i64 A.term) := by rw [cell_of_row _ _ _ _ _ _ hAd.c11]; rfl
                have k18 : Wr.cell? ⟨gs, 0, none⟩ = some (.func (.func 17) #[] #[.pointer (some ⟨gm, 0, none⟩), .pointer (some ⟨g + 2, 0, none⟩)]) := by rw [cell_of_row _ _ _ _ _ _ HSr.out.c18]; rfl
                have kbox : Wr.cell? ⟨gm, 0, none⟩ = some (.slice am A.nP cm) := by rw [cell_of_row _ _ _ _ _ _ HSr.out.box]; rfl
                have husd : usedB A.past = true := by have h := HAk.out.1 (by omega); unfold argB at h; simp only [Bool.and_eq_true] at h; exact h.2.2.1
                exact fc5_any gm (g + 3) (gs + 1) (gs + 2) A am A.nP cm _ _ Wr hAr kbox HSr.out.mr r9 HSr.out.c19 HSr.out.c20 husd (by have := HSr.out.lt; omega) (by have := HSr.out.lt; omega) (by have := HSr.out.lt; omega) (by have := HSr.out.lt; omega) (by omega)
              rw [← hb0, ← hpp] at hc
              refine hc.mono ?_
              rintro e w2 ⟨rfl, V2, hb, rfl⟩
              have HS2 := Seal.mk ((HSr.out.later HGw.out hb).found HGw.out (pp : Int) b)
              have c2 : ((V2.setCell ⟨gs + 1, 0, none⟩ (.int .i64 (pp : Nat))).setCell ⟨gs + 2, 0, none⟩ (.bool b)).cell? ⟨gr, 1, none⟩ = some (.int .i64 181) := by
                refine (World.cell?_of_block ?_).trans (cell_below' hb cr)
                exact (Below.heap_setCell _ ⟨gs + 2, 0, none⟩ _ gr (by have := HNr.out; show gr ≠ gs + 2; omega)).trans (Below.heap_setCell _ ⟨gs + 1, 0, none⟩ _ gr (by have := HNr.out; show gr ≠ gs + 1; omega))
              obtain ⟨w2, hw2⟩ : ∃ W, W = (V2.setCell ⟨gs + 1, 0, none⟩ (.int .i64 (pp : Nat))).setCell ⟨gs + 2, 0, none⟩ (.bool b) := ⟨_, rfl⟩
              rw [← hw2] at HS2 c2 ⊢
              have HPp := Seal.mk hpp
              clear hw2 hb hc cr hb0 hpp HSr
              cases b with
              | true =>
                have h1 : RE = 181 := by rw [HR.out.1]; exact adm_3 HE0.out.symm (HAk.out.1 (by omega)) (HAk.out.2.1 (by omega)) HB0.out.symm
                have HR2 : Seal (RL = [] ∧ RE = 181) := ⟨by rw [HR.out.2]; exact adm_no (HR.out.1.symm.trans h1) (by decide), h1⟩
                have HAd := Seal.mk HS2.out.ad
                clear h1
                go_wp2
                show Leaves _ _ _ _ _ _ _
                have hd := fdoor_panic HAd.out HGw.out 181
                rw [← HGs.out.2.2.2.2.2.1, ← HGs.out.2.2.2.2.2.2] at hd
                rw [HR2.out.1, HR2.out.2]
                exact hd _ rfl rfl
              | false =>
                have HN : Seal (∃ p f, StI w g A gm gs am cm p f w2 ∧ Asked A 3 p) := ⟨(pp : Int), false, HS2.out, ⟨fun _ => HAk.out.1 (by omega), fun _ => HAk.out.2.1 (by omega), fun _ => ⟨HB0.out.symm, by rw [HPp.out]⟩, fun h => by omega, fun h => by omega⟩⟩
                go_wp2
                go_roundw
                case rel => exact ⟨3, by omega, by go_num, HN⟩
                case measure => simp [intOf]
            · have rK : wo2.rangeAt gT 6 [.func (.func 25) #[] #[.pointer (some ⟨g, 0, none⟩), .pointer (some ⟨g + 1, 0, none⟩), .pointer (some ⟨g + 3, 0, none⟩), .pointer (some ⟨g + 4, 0, none⟩), .pointer (some ⟨g + 5, 0, none⟩)], .int .i64 570] := by
                have h := rangeAt_take (rangeAt_drop rT 6) 2
                rw [Nat.zero_add] at h
                exact h
              have iT : (Tryz.prog.info? 64).map (·.size) = some ([.func (.func 25) #[] #[.pointer (some ⟨g, 0, none⟩), .pointer (some ⟨g + 1, 0, none⟩), .pointer (some ⟨g + 3, 0, none⟩), .pointer (some ⟨g + 4, 0, none⟩), .pointer (some ⟨g + 5, 0, none⟩)], .int .i64 570] : List Value).length := by kernel_rfl
              obtain ⟨Wr, hWr⟩ : ∃ W, W = wo2.alloc (.cells #[.func (.func 25) #[] #[.pointer (some ⟨g, 0, none⟩), .pointer (some ⟨g + 1, 0, none⟩), .pointer (some ⟨g + 3, 0, none⟩), .pointer (some ⟨g + 4, 0, none⟩), .pointer (some ⟨g + 5, 0, none⟩)], .int .i64 570] 64) := ⟨_, rfl⟩
              have hbr : Below wo2.heap.size wo2 Wr := by rw [hWr]; exact below_alloc _ _
              have HSr := Seal.mk (HSt.out.later HGw.out hbr)
              obtain ⟨gr, hgr⟩ : ∃ k, k = wo2.heap.size := ⟨_, rfl⟩
              have cr : Wr.cell? ⟨gr, 1, none⟩ = some (.int .i64 570) := by rw [hgr, hWr, cell_of_row _ _ _ _ _ _ (heap_alloc_new wo2 _)]; rfl
              have HNr : Seal (gs + 3 < gr) := ⟨by rw [hgr, ← HGt.out.2.2]; exact block_lt_of_cell (rK 1 _ rfl)⟩
              go_wp2_with (refine wpList_load_mid rfl 64 (.tmp 56) rfl gT 6 rfl [.func (.func 25) #[] #[.pointer (some ⟨g, 0, none⟩), .pointer (some ⟨g + 1, 0, none⟩), .pointer (some ⟨g + 3, 0, none⟩), .pointer (some ⟨g + 4, 0, none⟩), .pointer (some ⟨g + 5, 0, none⟩)], .int .i64 570] _ rK uT rfl iT ?_; (try simp only [Act.put, List.setIfInBounds_toArray, List.set_cons_zero, List.set_cons_succ]))
              rw [← hWr, ← hgr]
              clear hWr hgr hbr rK rT iT
              obtain ⟨b, hb0⟩ : ∃ b, b = timeB A.l A.off A.x.c A.now A.term := ⟨_, rfl⟩
              have HB0 := Seal.mk hb0
              have hc := by
                have hAd := HSr.out.ad
                have hAr := HA.out Wr hAd.bel
                have k6 : Wr.cell? ⟨g, 0, none⟩ = some (.slice A.aE A.nE A.cE) := by rw [cell_of_row _ _ _ _ _ _ hAd.c6]; rfl
                have k7 : Wr.cell? ⟨g + 1, 0, none⟩ = some (.slice A.aO A.nO A.cO) := by rw [cell_of_row _ _ _ _ _ _ hAd.c7]; rfl
                have k8 : Wr.cell? ⟨g + 2, 0, none⟩ = some (.slice A.aP A.nP A.cP) := by rw [cell_of_row _ _ _ _ _ _ hAd.c8]; rfl
                have r9 : Wr.rangeAt (g + 3) 0 A.x.C := rangeAt_row hAd.c9
                have k10 : Wr.cell? ⟨g + 4, 0, none⟩ = some (.int .i64 A.now) := by rw [cell_of_row _ _ _ _ _ _ hAd.c10]; rfl
                have k11 : Wr.cell? ⟨g + 5, 0, none⟩ = some (.int .i64 A.term) := by rw [cell_of_row _ _ _ _ _ _ hAd.c11]; rfl
                have k18 : Wr.cell? ⟨gs, 0, none⟩ = some (.func (.func 17) #[] #[.pointer (some ⟨gm, 0, none⟩), .pointer (some ⟨g + 2, 0, none⟩)]) := by rw [cell_of_row _ _ _ _ _ _ HSr.out.c18]; rfl
                have kbox : Wr.cell? ⟨gm, 0, none⟩ = some (.slice am A.nP cm) := by rw [cell_of_row _ _ _ _ _ _ HSr.out.box]; rfl
                exact fc6_any g (g + 1) (g + 3) (g + 4) (g + 5) A Wr hAr k6 k7 r9 k10 k11 (HAk.out.2.1 (by omega)) (HAk.out.1 (by omega))
              rw [← hb0] at hc
              refine hc.mono ?_
              rintro e w2 ⟨rfl, hb⟩
              have HS2 := Seal.mk (HSr.out.later HGw.out hb)
              have c2 := cell_below' hb cr
              clear hb hc cr hb0 HSr
              cases b with
              | false =>
                have h1 : RE = 570 := by rw [HR.out.1]; exact adm_4 HE0.out.symm (HAk.out.1 (by omega)) (HAk.out.2.1 (by omega)) (HAk.out.2.2.1 (by omega)).1 HB0.out.symm
                have HR2 : Seal (RL = [] ∧ RE = 570) := ⟨by rw [HR.out.2]; exact adm_no (HR.out.1.symm.trans h1) (by decide), h1⟩
                have HAd := Seal.mk HS2.out.ad
                clear h1
                go_wp2
                show Leaves _ _ _ _ _ _ _
                have hd := fdoor_panic HAd.out HGw.out 570
                rw [← HGs.out.2.2.2.2.2.1, ← HGs.out.2.2.2.2.2.2] at hd
                rw [HR2.out.1, HR2.out.2]
                exact hd _ rfl rfl
              | true =>
                have HN : Seal (∃ p f, StI w g A gm gs am cm p f w2 ∧ Asked A 4 p) := ⟨p, f, HS2.out, ⟨fun _ => HAk.out.1 (by omega), fun _ => HAk.out.2.1 (by omega), fun _ => HAk.out.2.2.1 (by omega), fun _ => HB0.out.symm, fun h => by omega⟩⟩
                go_wp2
                go_roundw
                case rel => exact ⟨4, by omega, by go_num, HN⟩
                case measure => simp [intOf]
            · have rK : wo2.rangeAt gT 8 [.func (.func 27) #[] #[.pointer (some ⟨g + 2, 0, none⟩)], .int .i64 2] := by
                have h := rangeAt_take (rangeAt_drop rT 8) 2
                rw [Nat.zero_add] at h
                exact h
              have iT : (Tryz.prog.info? 64).map (·.size) = some ([.func (.func 27) #[] #[.pointer (some ⟨g + 2, 0, none⟩)], .int .i64 2] : List Value).length := by kernel_rfl
              obtain ⟨Wr, hWr⟩ : ∃ W, W = wo2.alloc (.cells #[.func (.func 27) #[] #[.pointer (some ⟨g + 2, 0, none⟩)], .int .i64 2] 64) := ⟨_, rfl⟩
              have hbr : Below wo2.heap.size wo2 Wr := by rw [hWr]; exact below_alloc _ _
              have HSr := Seal.mk (HSt.out.later HGw.out hbr)
              obtain ⟨gr, hgr⟩ : ∃ k, k = wo2.heap.size := ⟨_, rfl⟩
              have cr : Wr.cell? ⟨gr, 1, none⟩ = some (.int .i64 2) := by rw [hgr, hWr, cell_of_row _ _ _ _ _ _ (heap_alloc_new wo2 _)]; rfl
              have HNr : Seal (gs + 3 < gr) := ⟨by rw [hgr, ← HGt.out.2.2]; exact block_lt_of_cell (rK 1 _ rfl)⟩
              go_wp2_with (refine wpList_load_mid rfl 64 (.tmp 56) rfl gT 8 rfl [.func (.func 27) #[] #[.pointer (some ⟨g + 2, 0, none⟩)], .int .i64 2] _ rK uT rfl iT ?_; (try simp only [Act.put, List.setIfInBounds_toArray, List.set_cons_zero, List.set_cons_succ]))
              rw [← hWr, ← hgr]
              clear hWr hgr hbr rK rT iT
              obtain ⟨b, hb0⟩ : ∃ b, b = decide (A.nP < 256) := ⟨_, rfl⟩
              have HB0 := Seal.mk hb0
              have hc := by
                have hAd := HSr.out.ad
                have hAr := HA.out Wr hAd.bel
                have k6 : Wr.cell? ⟨g, 0, none⟩ = some (.slice A.aE A.nE A.cE) := by rw [cell_of_row _ _ _ _ _ _ hAd.c6]; rfl
                have k7 : Wr.cell? ⟨g + 1, 0, none⟩ = some (.slice A.aO A.nO A.cO) := by rw [cell_of_row _ _ _ _ _ _ hAd.c7]; rfl
                have k8 : Wr.cell? ⟨g + 2, 0, none⟩ = some (.slice A.aP A.nP A.cP) := by rw [cell_of_row _ _ _ _ _ _ hAd.c8]; rfl
                have r9 : Wr.rangeAt (g + 3) 0 A.x.C := rangeAt_row hAd.c9
                have k10 : Wr.cell? ⟨g + 4, 0, none⟩ = some (.int .i64 A.now) := by rw [cell_of_row _ _ _ _ _ _ hAd.c10]; rfl
                have k11 : Wr.cell? ⟨g + 5, 0, none⟩ = some (.int .i64 A.term) := by rw [cell_of_row _ _ _ _ _ _ hAd.c11]; rfl
                have k18 : Wr.cell? ⟨gs, 0, none⟩ = some (.func (.func 17) #[] #[.pointer (some ⟨gm, 0, none⟩), .pointer (some ⟨g + 2, 0, none⟩)]) := by rw [cell_of_row _ _ _ _ _ _ HSr.out.c18]; rfl
                have kbox : Wr.cell? ⟨gm, 0, none⟩ = some (.slice am A.nP cm) := by rw [cell_of_row _ _ _ _ _ _ HSr.out.box]; rfl
                exact fc7_any (g + 2) A.aP A.nP A.cP Wr k8
              rw [← hb0] at hc
              refine hc.mono ?_
              rintro e w2 ⟨rfl, hb⟩
              have HS2 := Seal.mk (HSr.out.later HGw.out hb)
              have c2 := cell_below' hb cr
              clear hb hc cr hb0 HSr
              cases b with
              | false =>
                have h1 : RE = 2 := by rw [HR.out.1]; exact adm_5 HE0.out.symm (HAk.out.1 (by omega)) (HAk.out.2.1 (by omega)) (HAk.out.2.2.1 (by omega)).1 (HAk.out.2.2.2.1 (by omega)) (by have h := of_decide_eq_false HB0.out.symm; have := HPl.out.1; omega)
                have HR2 : Seal (RL = [] ∧ RE = 2) := ⟨by rw [HR.out.2]; exact adm_no (HR.out.1.symm.trans h1) (by decide), h1⟩
                have HAd := Seal.mk HS2.out.ad
                clear h1
                go_wp2
                show Leaves _ _ _ _ _ _ _
                have hd := fdoor_panic HAd.out HGw.out 2
                rw [← HGs.out.2.2.2.2.2.1, ← HGs.out.2.2.2.2.2.2] at hd
                rw [HR2.out.1, HR2.out.2]
                exact hd _ rfl rfl
              | true =>
                have HN : Seal (∃ p f, StI w g A gm gs am cm p f w2 ∧ Asked A 5 p) := ⟨p, f, HS2.out, ⟨fun _ => HAk.out.1 (by omega), fun _ => HAk.out.2.1 (by omega), fun _ => HAk.out.2.2.1 (by omega), fun _ => HAk.out.2.2.2.1 (by omega), fun _ => of_decide_eq_true HB0.out.symm⟩⟩
                go_wp2
                go_roundw
                case rel => exact ⟨5, by omega, by go_num, HN⟩
                case measure => simp [intOf]
          · obtain rfl : k = 5 := by omega
            obtain ⟨pp, hpp⟩ : ∃ q, q = atB A.past (caseD A.x.c) := ⟨_, rfl⟩
            have hp : p = (pp : Nat) := by rw [hpp]; exact (HAk.out.2.2.1 (by omega)).2
            subst hp
            have h0 : RE = 0 := by
              rw [HR.out.1]
              exact admE_zero.2 ⟨HE0.out.symm, HAk.out.1 (by omega), HAk.out.2.1 (by omega), (HAk.out.2.2.1 (by omega)).1, HAk.out.2.2.2.1 (by omega), by rw [HPl.out.1]; exact HAk.out.2.2.2.2 (by omega)⟩
            have HR2 : Seal (RL = putB A.past (caseD A.x.c) ∧ RE = 0) := ⟨by rw [HR.out.2]; exact adm_yes (HR.out.1.symm.trans h0), h0⟩
            have h256 : A.nP < 256 := HAk.out.2.2.2.2 (by omega)
            have HPp : Seal (pp = atB A.past (caseD A.x.c) ∧ pp ≤ A.nP) := ⟨hpp, by rw [hpp, ← HPl.out.1]; exact atB_le _ _⟩
            obtain ⟨D, hD⟩ : ∃ D, D = (caseD A.x.c).map B := ⟨_, rfl⟩
            have HD : Seal (D = (caseD A.x.c).map B ∧ D.length = 32) := ⟨hD, by rw [hD, List.length_map, caseD_len]⟩
            have iC : (Tryz.prog.info? 35).map (·.size) = some CX.length := by rw [HCX.out]; exact CaX.info _
            have uC := Tryz.underlying35
            clear rT uT HAk h0 hpp hD hlt
            go_wp2_with fail
            refine wp_noP ?_
            obtain ⟨V, hV⟩ : ∃ V, V = wo2.drew := ⟨_, rfl⟩
            have HSV : Seal (StI w g A gm gs am cm (pp : Nat) f V) := ⟨by rw [hV]; exact HSt.out.later HGw.out (below_drewn_f _)⟩
            have HSW : Seal (∀ W, Below V.heap.size V W → W.cell? ⟨g8, 0, none⟩ = some (.slice aP A.nP A.cP) ∧ W.cell? ⟨g19, 0, none⟩ = some (.int .i64 (pp : Nat)) ∧ W.rangeAt g9 0 CX) := ⟨fun W hW => by
              have h := HSV.out.later HGw.out hW
              rw [HGs.out.2.1, HGs.out.2.2.1, HGt.out.1, HCX.out, HaP.out]
              exact ⟨by rw [cell_of_row _ _ _ _ _ _ h.ad.c8]; rfl, by rw [cell_of_row _ _ _ _ _ _ h.c19]; rfl, rangeAt_row h.ad.c9⟩⟩
            have hS0 := HSW.out V (Below.refl _ _)
            refine wp_region_held_drew (S := fun W => W.cell? ⟨g8, 0, none⟩ = some (.slice aP A.nP A.cP) ∧ W.cell? ⟨g19, 0, none⟩ = some (.int .i64 (pp : Nat)) ∧ W.rangeAt g9 0 CX) (by kernel_rfl) (by rw [← hV]; exact hS0) (fun hHeld => ?_)
            rw [← hV] at hHeld ⊢
            clear hV hS0 HSt
            have HB : Seal (Below V.heap.size V V) := ⟨Below.refl _ _⟩
            refine take_h 0 ?_ rfl (by kernel_rfl) (by kernel_rfl) (by kernel_rfl) (fun _ _ _ h => h) (Or.inl ⟨by kernel_rfl, ?_⟩) (by assumption) ?_
            rotate_left
            · (intro w hSw; (try dsimp only at hSw); go_simp; try (with_reducible rfl))
            try simp only [Act.put, List.setIfInBounds_toArray, List.set_cons_zero, List.set_cons_succ]
            refine take_h 2 ?_ rfl (by kernel_rfl) (by kernel_rfl) (by kernel_rfl) (fun _ _ _ h => h) (Or.inl ⟨by kernel_rfl, ?_⟩) (by assumption) ?_
            rotate_left
            · (intro w hSw; (try dsimp only at hSw); go_simp; try (with_reducible rfl))
            try simp only [Act.put, List.setIfInBounds_toArray, List.set_cons_zero, List.set_cons_succ]
            refine take_h 3 _ rfl (by kernel_rfl) (by kernel_rfl) (by kernel_rfl) (fun _ _ _ h => h) (yieldsIf_load_mid (by kernel_rfl) 35 (.tmp 9) rfl g9 0 rfl CX _ (fun w hSw => hSw.2.2) uC rfl iC) (by assumption) ?_
            try simp only [Act.put, List.setIfInBounds_toArray, List.set_cons_zero, List.set_cons_succ]
            refine call_h 1 rfl (by kernel_rfl) 29 #[.slice aP A.nP A.cP] (by kernel_rfl) (by go_simp) ?_
            have hcl := clone_any A.aP A.nP A.cP A.past V (HA.out V HSV.out.ad.bel).P
            rw [← HaP.out] at hcl
            refine hcl.mono ?_
            rintro e V1 ⟨v, rfl, ho, hv, hb⟩
            have HB2 := Seal.mk (HB.out.trans hb)
            clear hb hcl hv
            refine ⟨_, rfl, HSW.out _ HB2.out, fun hHeld2 => ?_⟩
            clear HB hHeld
            have HB := HB2
            have hHeld := hHeld2
            clear HB2 hHeld2
            try simp only [Act.put, List.setIfInBounds_toArray, List.set_cons_zero, List.set_cons_succ]
            refine call_h 4 rfl (by kernel_rfl) 8 #[.agg CX.toArray] (by kernel_rfl) (by go_simp) ?_
            have hdg := dcase_any A.x V1 (HA.out V1 (HSV.out.ad.bel.trans (HB.out.mono HSV.out.ad.bel.size))).G (HA.out w (Below.refl _ _)).ok (HA.out V1 (HSV.out.ad.bel.trans (HB.out.mono HSV.out.ad.bel.size))).F (HA.out w (Below.refl _ _)).F100
            rw [← HCX.out, ← HD.out.1] at hdg
            refine hdg.mono ?_
            rintro e V2 ⟨rfl, hb⟩
            have HB2 := Seal.mk (HB.out.trans (hb.mono HB.out.size))
            have HO2 := Seal.mk (ownsRow_below ho.out hb)
            clear hb hdg ho
            refine ⟨_, rfl, HSW.out _ HB2.out, fun hHeld2 => ?_⟩
            clear HB hHeld
            have HB := HB2
            have hHeld := hHeld2
            clear HB2 hHeld2
            try simp only [Act.put, List.setIfInBounds_toArray, List.set_cons_zero, List.set_cons_succ]
            have hb := below_alloc V2 (.cells D.toArray 42)
            have HB3 := Seal.mk (HB.out.trans (hb.mono HB.out.size))
            have HO3 : Seal (OwnD (V2.alloc (.cells D.toArray 42)) V.heap.size v A.nP A.past) := ⟨ownsRow_below HO2.out hb⟩
            refine oper_h 5 (.slice (some ⟨V2.heap.size, 0, none⟩) 1 1) (V2.alloc (.cells D.toArray 42)) rfl (by kernel_rfl) (by kernel_rfl) (exec_bslice_dg rfl D HD.out.2 rfl V2) (HSW.out _ HB3.out) (fun hHeld3 => ?_)
            clear hHeld hb
            try simp only [Act.put, List.setIfInBounds_toArray, List.set_cons_zero, List.set_cons_succ]
            have hin := dinsert_any V.heap.size A.nP pp V2.heap.size v A.past (caseD A.x.c) (V2.alloc (.cells D.toArray 42)) HO3 HPl.out.1 HPl.out.2.2 HPp.out.2 ⟨by rw [← HD.out.1]; exact heap_alloc_new V2 _⟩ (caseD_len _) (by have := HPl.out.2.1; omega) (by rw [size_alloc]; have := HB.out.size; omega) (fun e => by have := (HO2.out.lt _ e).2; omega)
            have hpb : A.past.take pp ++ caseD A.x.c :: A.past.drop pp = putB A.past (caseD A.x.c) := by rw [HPp.out.1]; rfl
            rw [hpb] at hin
            refine call_h 6 rfl (by kernel_rfl) 28 #[v, .int .i64 (pp : Nat), .slice (some ⟨V2.heap.size, 0, none⟩) 1 1] (by kernel_rfl) (by go_simp) ?_
            refine hin.mono ?_
            rintro e V4 ⟨gI, cI, rfl, hoI, hb⟩
            have HB4 := Seal.mk (HB3.out.trans hb)
            have HSt4 := Seal.mk (HSV.out.later HGw.out HB4.out)
            obtain ⟨hdI, hgI⟩ := dg_isD hoI.out (by rw [putB_length, HPl.out.1]) (fun x hx => by
              rcases (mem_putB _ _ _).1 hx with rfl | hx
              · exact caseD_len _
              · exact HPl.out.2.2 x hx) (by have := HPl.out.2.1; omega)
            have HdI := Seal.mk hdI
            have HgI : Seal (g + 8 ≤ gI) := ⟨by have := (Array.getElem?_eq_some_iff.1 HSV.out.ad.c13).1; omega⟩
            have hdr := HSt4.out.ad.door HGw.out (some ⟨gI, 0, none⟩) (A.nP + 1) cI 0
            rw [← HGs.out.2.2.2.2.2.1, ← HGs.out.2.2.2.2.2.2] at hdr
            have k12 : V4.cell? ⟨g12, 0, none⟩ = some (.slice none 0 0) := by rw [HGs.out.2.2.2.2.2.1, cell_of_row _ _ _ _ _ _ HSt4.out.ad.c12]; rfl
            have z12 : V4.frozen? ⟨g12, 0, none⟩ = false := by rw [HGs.out.2.2.2.2.2.1]; exact frozen_of_row _ _ _ _ _ HSt4.out.ad.c12
            obtain ⟨Z, hZ⟩ : ∃ Z, Z = V4.setCell ⟨g12, 0, none⟩ (.slice (some ⟨gI, 0, none⟩) (A.nP + 1) cI) := ⟨_, rfl⟩
            obtain ⟨Y, hY⟩ : ∃ Y, Y = Z.setCell ⟨g13, 0, none⟩ (.int .i64 0) := ⟨_, rfl⟩
            have hoZ : ∀ k, k ≠ g12 → Z.heap[k]? = V4.heap[k]? := fun k hk => by rw [hZ]; exact Below.heap_setCell _ ⟨g12, 0, none⟩ _ k hk
            have hoY : ∀ k, k ≠ g13 → Y.heap[k]? = Z.heap[k]? := fun k hk => by rw [hY]; exact Below.heap_setCell _ ⟨g13, 0, none⟩ _ k hk
            have hZ13 : Z.heap[g13]? = some (.cells #[.int .i64 0] 38 (0, 0)) := (hoZ g13 (by have := HGs.out; omega)).trans (by rw [HGs.out.2.2.2.2.2.2]; exact HSt4.out.ad.c13)
            have k13 : Z.cell? ⟨g13, 0, none⟩ = some (.int .i64 0) := by rw [cell_of_row _ _ _ _ _ _ hZ13]; rfl
            have z13 : Z.frozen? ⟨g13, 0, none⟩ = false := frozen_of_row _ _ _ _ _ hZ13
            have hS4 := HSW.out V4 HB4.out
            have hSZ : Z.cell? ⟨g8, 0, none⟩ = some (.slice aP A.nP A.cP) ∧ Z.cell? ⟨g19, 0, none⟩ = some (.int .i64 (pp : Nat)) ∧ Z.rangeAt g9 0 CX := by
              have h1 := HGs.out
              have h2 := HGt.out
              have h3 := HSt4.out.lt
              exact ⟨(World.cell?_of_block (w := V4) (hoZ g8 (by omega))).trans hS4.1, (World.cell?_of_block (w := V4) (hoZ g19 (by omega))).trans hS4.2.1, fun j u hu => (World.cell?_of_block (w := V4) (hoZ g9 (by omega))).trans (hS4.2.2 j u hu)⟩
            have hSY : Y.cell? ⟨g8, 0, none⟩ = some (.slice aP A.nP A.cP) ∧ Y.cell? ⟨g19, 0, none⟩ = some (.int .i64 (pp : Nat)) ∧ Y.rangeAt g9 0 CX := by
              have h1 := HGs.out
              have h2 := HGt.out
              have h3 := HSt4.out.lt
              exact ⟨(World.cell?_of_block (w := Z) (hoY g8 (by omega))).trans hSZ.1, (World.cell?_of_block (w := Z) (hoY g19 (by omega))).trans hSZ.2.1, fun j u hu => (World.cell?_of_block (w := Z) (hoY g9 (by omega))).trans (hSZ.2.2 j u hu)⟩
            rw [← hZ, ← hY] at hdr
            have HdY : Seal (IsD Y (some ⟨gI, 0, none⟩) (A.nP + 1) cI (putB A.past (caseD A.x.c)) ∧ Below w.heap.size w Y ∧ Y.cell? ⟨g12, 0, none⟩ = some (.slice (some ⟨gI, 0, none⟩) (A.nP + 1) cI) ∧ Y.cell? ⟨g13, 0, none⟩ = some (.int .i64 0)) := ⟨⟨HdI.out.llen, HdI.out.lcap, HdI.out.lmax, HdI.out.cmax, HdI.out.each, by
              rcases HdI.out.at_ with h0 | ⟨b, o, e, hr, hb⟩
              · exact .inl h0
              · cases e
                have h1 := HGs.out
                have h2 := HgI.out
                exact .inr ⟨gI, 0, rfl, fun j u hu => (World.cell?_of_block (w := V4) ((hoY gI (by omega)).trans (hoZ gI (by omega)))).trans (hr j u hu), by rw [hY, hZ]; simpa using hb⟩⟩, hdr.1, hdr.2.1, hdr.2.2⟩
            refine ⟨_, rfl, hS4, fun hHeld4 => ?_⟩
            clear HB HB3 HB4 HO2 HO3 hHeld3 hoI hb hin hdI hgI hpb hdr hS4 HdI HgI HSt4
            try simp only [Act.put, List.setIfInBounds_toArray, List.set_cons_zero, List.set_cons_succ]
            refine skip_h 7 Z rfl (by kernel_rfl) (by kernel_rfl) (by rw [hZ]; clear hSZ hSY k13 z13 hZ hY hoZ hoY hZ13 HdY; go_simp) hSZ (fun hHeld5 => ?_)
            clear hHeld4 k12 z12
            try simp only [Act.put]
            refine skip_h 8 Y rfl (by kernel_rfl) (by kernel_rfl) (by rw [hY]; clear hSZ hSY hZ hY hoZ hoY hZ13 HdY; go_simp) hSY (fun hHeld6 => ?_)
            clear hHeld5 k13 z13 hSZ hSY hZ hY hoZ hoY hZ13
            try simp only [Act.put]
            refine wpAnyH_done (by kernel_rfl) ?_ _
            clear hHeld6
            refine noP_normal ?_
            go_wp2
            show Leaves _ _ _ _ _ _ _
            have k12 := HdY.out.2.2.1
            have k13 := HdY.out.2.2.2
            rw [HGs.out.2.2.2.2.2.1] at k12
            rw [HGs.out.2.2.2.2.2.2] at k13
            have hd := fdoor_idle (g := g) (x := 0) HdY.out.2.1 k12 k13 HdY.out.1 (.inr ⟨gI, 0, rfl⟩)
            rw [← HGs.out.2.2.2.2.2.1, ← HGs.out.2.2.2.2.2.2] at hd
            rw [HR2.out.1, HR2.out.2]
            exact hd _ rfl rfl
end Frk
