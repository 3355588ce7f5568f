/- Law 45's reference: Valid, Check. -/
import Derived.Test.YtemoomfnmiodeaaGreatDoorVugKsh
import Derived.Test.YtemoomfnmiodeaaGreatDoorVuRuk
namespace Frk
open Go Go.RowKit Go.Proofs
set_option maxRecDepth 100000

set_option maxHeartbeats 2000000 in
theorem rvalid45_any (x : Ltr) (w : World) (hG : Glob w) (ok : x.ok) : Calls Tryz.prog 34 #[.agg x.C.toArray] w fun e w' => e = .returned (.bool (okK x)) ∧ Below w.heap.size w w' := by
  obtain ⟨X, hX⟩ : ∃ X : World, X = w.alloc (.cells x.C.toArray 30) := ⟨_, rfl⟩
  have HB : Seal (Below w.heap.size w X) := ⟨by rw [hX]; exact below_alloc _ _⟩
  have hr : X.rangeAt w.heap.size 0 x.C := rangeAt_row (by rw [hX]; exact heap_alloc_new w _)
  obtain ⟨N, hN⟩ : ∃ N, N = x.N := ⟨_, rfl⟩
  obtain ⟨U, hU⟩ : ∃ N, N = x.U := ⟨_, rfl⟩
  have c0 : X.cell? ⟨w.heap.size, 0, none⟩ = some (.int .i64 N) := by have := hr 0 (.int .i64 x.N) rfl; rw [hN]; simpa using this
  have c1 : X.cell? ⟨w.heap.size, 1, none⟩ = some (.int .i64 U) := by have := hr 1 (.int .i64 x.U) rfl; rw [hU]; simpa using this
  obtain ⟨CR, hCR⟩ : ∃ C, C = retC x.L x.K x.P x.Q x.T := ⟨_, rfl⟩
  have r2 := rangeAt_drop hr 2
  rw [show x.C.drop 2 = CR from by rw [hCR]; rfl, Nat.zero_add] at r2
  have iR : (Tryz.prog.info? 28).map (·.size) = some CR.length := by rw [hCR]; exact retC_info ok.t32
  have ur := Tryz.underlying28
  obtain ⟨t, ht⟩ : ∃ t, t = chkB x.L x.K x.P x.Q x.T := ⟨_, rfl⟩
  have HC : Seal (Calls Tryz.prog 59 #[.agg CR.toArray] X fun e w' => e = .returned (.int .i64 (if t = true then 0 else 160)) ∧ Below X.heap.size X w') := ⟨by rw [hCR]; exact rocheck_any x.L x.K x.P x.Q x.T t X (hG.below HB.out) ok.l ok.k ok.p ok.q ok.t32 ht.symm⟩
  have HR : Seal (okK x = (decide (0 ≤ N) && (decide (0 ≤ U) && (decide (N ≤ 1048576) && (decide (U < 2097152) && t))))) := ⟨by unfold okK; rw [hN, hU, ht]⟩
  obtain ⟨R, hR⟩ : ∃ R, R = okK x := ⟨_, rfl⟩
  rw [← hR] at HR ⊢
  obtain ⟨C, hC⟩ : ∃ C, C = x.C.toArray := ⟨_, rfl⟩
  rw [← hC] at hX ⊢
  clear hr hN hU hCR ht hR hC hG ok
  by_cases h1 : 0 ≤ N
  · by_cases h2 : N ≤ 1048576
    · by_cases h3 : 0 ≤ U
      · by_cases h4 : U < 2097152
        · have HF : Seal (R = t) := ⟨by rw [HR.out, decide_eq_true h1, decide_eq_true h2, decide_eq_true h3, decide_eq_true h4]; simp⟩
          clear HR
          go_enter Tryz.func34, Tryz.ntmps34
          go_upto_region 1 with (fail)
          rw [← hX]
          clear hX
          go_wp2_with (refine wpList_load_mid_g (by kernel_rfl) 28 (.tmp 22) rfl w.heap.size 2 rfl CR _ r2 ur rfl iR ?_; (try simp only [Act.put, List.setIfInBounds_toArray, List.set_cons_zero, List.set_cons_succ]))
          refine HC.out.mono ?_
          rintro e w1 ⟨rfl, hb⟩
          have HB1 := Seal.mk (HB.out.trans (hb.mono HB.out.size))
          clear hb HC
          cases t with
          | true =>
            go_wp2
            go_ret
            exact ⟨by rw [HF.out]; rfl, HB1.out⟩
          | false =>
            go_wp2
            go_ret
            exact ⟨by rw [HF.out]; rfl, HB1.out⟩
        · skip
          have HF : Seal (R = false) := ⟨by rw [HR.out]; simp; omega⟩
          clear HR
          go_enter Tryz.func34, Tryz.ntmps34
          go_upto_region 1 with (fail)
          rw [← hX]
          clear hX
          go_wp2
          go_ret
          exact ⟨by rw [HF.out]; rfl, HB.out⟩
      · skip
        have HF : Seal (R = false) := ⟨by rw [HR.out]; simp; omega⟩
        clear HR
        go_enter Tryz.func34, Tryz.ntmps34
        go_upto_region 1 with (fail)
        rw [← hX]
        clear hX
        go_wp2
        go_ret
        exact ⟨by rw [HF.out]; rfl, HB.out⟩
    · skip
      have HF : Seal (R = false) := ⟨by rw [HR.out]; simp; omega⟩
      clear HR
      go_enter Tryz.func34, Tryz.ntmps34
      go_upto_region 1 with (fail)
      rw [← hX]
      clear hX
      go_wp2
      go_ret
      exact ⟨by rw [HF.out]; rfl, HB.out⟩
  · skip
    have HF : Seal (R = false) := ⟨by rw [HR.out]; simp; omega⟩
    clear HR
    go_enter Tryz.func34, Tryz.ntmps34
    go_upto_region 1 with (fail)
    rw [← hX]
    clear hX
    go_wp2
    go_ret
    exact ⟨by rw [HF.out]; rfl, HB.out⟩

set_option maxHeartbeats 4000000 in
theorem rcheck45_any (a : Option Addr) (n c : Nat) (l : List Ltr) (w : World) (hG : Glob w) (hd : IsC Ltr.C 38 w a n c l) (hok : ∀ x ∈ l, x.ok) :
    Calls Tryz.prog 13 #[.slice a n c] w fun e w' => e = .returned (.int .i64 (chkL l)) ∧ Below w.heap.size w w' := by
  have hll := hd.llen
  have hlm := hd.lmax
  by_cases h4 : 1024 < n
  · have HR : Seal (chkL l = 2) := ⟨by unfold chkL; rw [if_pos (by omega)]⟩
    have q1 : (1024 : Int) < (n : Int) := by omega
    clear hd hok hG
    go_enter Tryz.func13, Tryz.ntmps13
    go_wp2
    go_ret
    exact ⟨by rw [HR.out]; rfl, Below.refl _ _⟩
  · have q1 : ¬ (1024 : Int) < (n : Int) := by omega
    have HGl : Seal (∀ W, Below w.heap.size w W → Glob W) := ⟨fun W h => hG.below h⟩
    have HD := Seal.mk hd
    have HOK := Seal.mk hok
    have HBad : Seal (goodL l = false → chkL l = 450) := ⟨fun h => by unfold chkL; rw [if_neg (by omega), h]; rfl⟩
    have HGood : Seal (goodL l = true → chkL l = 0) := ⟨fun h => by unfold chkL; rw [if_neg (by omega), h]; rfl⟩
    have ut := Tryz.underlying30
    clear hd hok hG h4
    go_enter Tryz.func13, Tryz.ntmps13
    go_wp2
    go_loopw [3] (fun i wr => ∃ k : Nat, k ≤ n ∧ i = .int .i64 k ∧ Seal (Below w.heap.size w wr ∧ (∀ (j : Nat) (x : Ltr), j < k → l[j]? = some x → okK x = true) ∧ ∀ (j : Nat) (x y : Ltr), j + 1 < k → l[j]? = some x → l[j + 1]? = some y → x.N < y.N)) (fun i _ => n - (intOf i).toNat)
    case atStart => exact ⟨0, by omega, rfl, ⟨Below.refl _ _, fun j x hj => by omega, fun j x y hj => by omega⟩⟩
    case round =>
      obtain ⟨wo, rfl⟩ : ∃ z, z = wr := ⟨_, rfl⟩
      obtain ⟨k, hk, rfl, hH⟩ := hrel
      by_cases hlt : k < n
      · have HDw := HD.out.below hH.out.1
        rcases HDw.at_ with hz | ⟨g, off, rfl, hr, hg⟩
        · omega
        obtain ⟨x, hx⟩ : ∃ x, l[k]? = some x := ⟨_, List.getElem?_eq_getElem (by omega)⟩
        have ox := HOK.out x (List.mem_of_getElem? hx)
        have rX := rangeC_row hr HDw.each hx
        have q5 : (k : Int) < (n : Int) := by omega
        have q6 : (0 : Int) ≤ (k : Int) := by omega
        obtain ⟨C, hC⟩ : ∃ C, C = x.C := ⟨_, rfl⟩
        obtain ⟨N, hN⟩ : ∃ N, N = x.N := ⟨_, rfl⟩
        rw [← hC] at rX
        have cX : wo.cell? ⟨g, off + k * 38, none⟩ = some (.int .i64 N) := by have h := rX 0 (.int .i64 N) (by rw [hC, hN]; rfl); simpa using h
        have iX : (Tryz.prog.info? 30).map (·.size) = some C.length := by rw [hC]; exact Ltr.info ox.t32
        obtain ⟨t, ht⟩ : ∃ t, t = okK x := ⟨_, rfl⟩
        have HX : Seal (l[k]? = some x ∧ t = okK x ∧ N = x.N) := ⟨hx, ht, hN⟩
        have HCk : Seal (∀ W, Below w.heap.size w W → Calls Tryz.prog 34 #[.agg C.toArray] W fun e w' => e = .returned (.bool t) ∧ Below W.heap.size W w') := ⟨fun W hW => by rw [hC, ht]; exact rvalid45_any x W (HGl.out W hW) ox⟩
        have KY : Seal (∀ y, 0 < k → l[k - 1]? = some y → wo.cell? ⟨g, off + (k - 1) * 38, none⟩ = some (.int .i64 y.N)) := ⟨fun y hk0 hy => by
          have h := rangeC_row hr HDw.each hy 0 (.int .i64 y.N) rfl
          simpa using h⟩
        clear hr hg hx hC hN ht ox HDw
        have HV : Seal (Below w.heap.size w wo.drew) := ⟨hH.out.1.trans ((below_drewn_o _).mono hH.out.1.size)⟩
        go_wp2_with fail
        cases t with
        | false =>
          have HR : Seal (chkL l = 450) := ⟨HBad.out (by
            cases hg : goodL l with
            | false => rfl
            | true =>
              have := (goodL_iff.1 hg).1 x (List.mem_of_getElem? HX.out.1)
              rw [← HX.out.2.1] at this
              cases this)⟩
          refine wp_region_held_drew (S := fun W => W.rangeAt g (off + k * 38) C ∧ True) (by kernel_rfl) ⟨rX, trivial⟩ (fun hHeld => ?_)
          clear rX cX KY
          obtain ⟨V, hV⟩ : ∃ V, V = wo.drew := ⟨_, rfl⟩
          rw [← hV] at hHeld HV ⊢
          clear hV
          refine take_h 0 ?_ rfl (by kernel_rfl) (by kernel_rfl) (by kernel_rfl) (fun _ _ _ h => h) (Or.inl ⟨by kernel_rfl, ?_⟩) (by assumption) ?_
          rotate_left
          · (intro w hSw; (try dsimp only at hSw); go_simp; try (with_reducible rfl))
          try simp only [Act.put, List.setIfInBounds_toArray, List.set_cons_zero, List.set_cons_succ]
          refine take_h 1 ?_ rfl (by kernel_rfl) (by kernel_rfl) (by kernel_rfl) (fun _ _ _ h => h) (Or.inl ⟨by kernel_rfl, ?_⟩) (by assumption) ?_
          rotate_left
          · (intro w hSw; (try dsimp only at hSw); go_simp; try (with_reducible rfl))
          try simp only [Act.put, List.setIfInBounds_toArray, List.set_cons_zero, List.set_cons_succ]
          refine take_h 2 ?_ rfl (by kernel_rfl) (by kernel_rfl) (by kernel_rfl) (fun _ _ _ h => h) (Or.inl ⟨by kernel_rfl, ?_⟩) (by assumption) ?_
          rotate_left
          · (intro w hSw; (try dsimp only at hSw); go_simp; try (with_reducible rfl))
          try simp only [Act.put, List.setIfInBounds_toArray, List.set_cons_zero, List.set_cons_succ]
          refine take_h 3 _ rfl (by kernel_rfl) (by kernel_rfl) (by kernel_rfl) (fun _ _ _ h => h) (yieldsIf_load_mid (by kernel_rfl) 30 (.tmp 15) rfl g (off + k * 38) rfl C _ (fun w hSw => hSw.1) ut rfl iX) (by assumption) ?_
          try simp only [Act.put, List.setIfInBounds_toArray, List.set_cons_zero, List.set_cons_succ]
          refine call_h 4 rfl (by kernel_rfl) 34 #[.agg C.toArray] (by kernel_rfl) (by go_simp) ?_
          refine (HCk.out V HV.out).mono ?_
          rintro e w2 ⟨rfl, hb⟩
          have HB2 := Seal.mk (HV.out.trans (hb.mono HV.out.size))
          refine ⟨_, rfl, ⟨rangeAt_below' hHeld.1 hb, trivial⟩, fun hHeld2 => ?_⟩
          clear hHeld hb
          try simp only [Act.put, List.setIfInBounds_toArray, List.set_cons_zero, List.set_cons_succ]
          refine take_h 5 ?_ rfl (by kernel_rfl) (by kernel_rfl) (by kernel_rfl) (fun _ _ _ h => h) (Or.inl ⟨by kernel_rfl, ?_⟩) (by assumption) ?_
          rotate_left
          · (intro w hSw; (try dsimp only at hSw); go_simp; try (with_reducible rfl))
          try simp only [Act.put, List.setIfInBounds_toArray, List.set_cons_zero, List.set_cons_succ]
          refine take_h 6 ?_ rfl (by kernel_rfl) (by kernel_rfl) (by kernel_rfl) (fun _ _ _ h => h) (Or.inl ⟨by kernel_rfl, ?_⟩) (by assumption) ?_
          rotate_left
          · (intro w hSw; (try dsimp only at hSw); go_simp; try (with_reducible rfl))
          try simp only [Act.put, List.setIfInBounds_toArray, List.set_cons_zero, List.set_cons_succ]
          refine take_h 7 undef rfl (by kernel_rfl) (by kernel_rfl) (by kernel_rfl) (fun _ _ _ h => h) (Or.inr ⟨by kernel_rfl, rfl⟩) (by assumption) ?_
          try simp only [Act.put, List.setIfInBounds_toArray, List.set_cons_zero, List.set_cons_succ]
          refine take_h 8 undef rfl (by kernel_rfl) (by kernel_rfl) (by kernel_rfl) (fun _ _ _ h => h) (Or.inr ⟨by kernel_rfl, rfl⟩) (by assumption) ?_
          try simp only [Act.put, List.setIfInBounds_toArray, List.set_cons_zero, List.set_cons_succ]
          refine take_h 9 undef rfl (by kernel_rfl) (by kernel_rfl) (by kernel_rfl) (fun _ _ _ h => h) (Or.inr ⟨by kernel_rfl, rfl⟩) (by assumption) ?_
          try simp only [Act.put, List.setIfInBounds_toArray, List.set_cons_zero, List.set_cons_succ]
          refine take_h 10 undef rfl (by kernel_rfl) (by kernel_rfl) (by kernel_rfl) (fun _ _ _ h => h) (Or.inr ⟨by kernel_rfl, rfl⟩) (by assumption) ?_
          try simp only [Act.put, List.setIfInBounds_toArray, List.set_cons_zero, List.set_cons_succ]
          refine take_h 11 undef rfl (by kernel_rfl) (by kernel_rfl) (by kernel_rfl) (fun _ _ _ h => h) (Or.inr ⟨by kernel_rfl, rfl⟩) (by assumption) ?_
          try simp only [Act.put, List.setIfInBounds_toArray, List.set_cons_zero, List.set_cons_succ]
          refine take_h 12 undef rfl (by kernel_rfl) (by kernel_rfl) (by kernel_rfl) (fun _ _ _ h => h) (Or.inr ⟨by kernel_rfl, rfl⟩) (by assumption) ?_
          try simp only [Act.put, List.setIfInBounds_toArray, List.set_cons_zero, List.set_cons_succ]
          refine take_h 13 undef rfl (by kernel_rfl) (by kernel_rfl) (by kernel_rfl) (fun _ _ _ h => h) (Or.inr ⟨by kernel_rfl, rfl⟩) (by assumption) ?_
          try simp only [Act.put, List.setIfInBounds_toArray, List.set_cons_zero, List.set_cons_succ]
          refine take_h 14 undef rfl (by kernel_rfl) (by kernel_rfl) (by kernel_rfl) (fun _ _ _ h => h) (Or.inr ⟨by kernel_rfl, rfl⟩) (by assumption) ?_
          try simp only [Act.put, List.setIfInBounds_toArray, List.set_cons_zero, List.set_cons_succ]
          refine take_h 15 undef rfl (by kernel_rfl) (by kernel_rfl) (by kernel_rfl) (fun _ _ _ h => h) (Or.inr ⟨by kernel_rfl, rfl⟩) (by assumption) ?_
          try simp only [Act.put, List.setIfInBounds_toArray, List.set_cons_zero, List.set_cons_succ]
          refine take_h 16 undef rfl (by kernel_rfl) (by kernel_rfl) (by kernel_rfl) (fun _ _ _ h => h) (Or.inr ⟨by kernel_rfl, rfl⟩) (by assumption) ?_
          try simp only [Act.put, List.setIfInBounds_toArray, List.set_cons_zero, List.set_cons_succ]
          refine take_h 17 undef rfl (by kernel_rfl) (by kernel_rfl) (by kernel_rfl) (fun _ _ _ h => h) (Or.inr ⟨by kernel_rfl, rfl⟩) (by assumption) ?_
          try simp only [Act.put, List.setIfInBounds_toArray, List.set_cons_zero, List.set_cons_succ]
          refine take_h 18 undef rfl (by kernel_rfl) (by kernel_rfl) (by kernel_rfl) (fun _ _ _ h => h) (Or.inr ⟨by kernel_rfl, rfl⟩) (by assumption) ?_
          try simp only [Act.put, List.setIfInBounds_toArray, List.set_cons_zero, List.set_cons_succ]
          refine take_h 19 undef rfl (by kernel_rfl) (by kernel_rfl) (by kernel_rfl) (fun _ _ _ h => h) (Or.inr ⟨by kernel_rfl, rfl⟩) (by assumption) ?_
          try simp only [Act.put, List.setIfInBounds_toArray, List.set_cons_zero, List.set_cons_succ]
          refine take_h 20 undef rfl (by kernel_rfl) (by kernel_rfl) (by kernel_rfl) (fun _ _ _ h => h) (Or.inr ⟨by kernel_rfl, rfl⟩) (by assumption) ?_
          try simp only [Act.put, List.setIfInBounds_toArray, List.set_cons_zero, List.set_cons_succ]
          refine take_h 21 undef rfl (by kernel_rfl) (by kernel_rfl) (by kernel_rfl) (fun _ _ _ h => h) (Or.inr ⟨by kernel_rfl, rfl⟩) (by assumption) ?_
          try simp only [Act.put, List.setIfInBounds_toArray, List.set_cons_zero, List.set_cons_succ]
          refine take_h 22 undef rfl (by kernel_rfl) (by kernel_rfl) (by kernel_rfl) (fun _ _ _ h => h) (Or.inr ⟨by kernel_rfl, rfl⟩) (by assumption) ?_
          try simp only [Act.put, List.setIfInBounds_toArray, List.set_cons_zero, List.set_cons_succ]
          refine take_h 23 ?_ rfl (by kernel_rfl) (by kernel_rfl) (by kernel_rfl) (fun _ _ _ h => h) (Or.inl ⟨by kernel_rfl, ?_⟩) (by assumption) ?_
          rotate_left
          · (intro w hSw; (try dsimp only at hSw); go_simp; try (with_reducible rfl))
          try simp only [Act.put, List.setIfInBounds_toArray, List.set_cons_zero, List.set_cons_succ]
          refine wpAnyH_done (by kernel_rfl) ?_ _
          clear hHeld2
          clear hH
          go_wp2
          go_ret
          exact ⟨by rw [HR.out]; rfl, HB2.out⟩
        | true =>
          rcases Nat.eq_zero_or_pos k with hk0 | hk0
          · have z1 : ¬ (0 : Int) < (k : Int) := by omega
            have hk1 := Seal.mk hk0
            clear hk0
            refine wp_region_held_drew (S := fun W => W.rangeAt g (off + k * 38) C ∧ True) (by kernel_rfl) ⟨rX, trivial⟩ (fun hHeld => ?_)
            clear rX cX KY
            obtain ⟨V, hV⟩ : ∃ V, V = wo.drew := ⟨_, rfl⟩
            rw [← hV] at hHeld HV ⊢
            clear hV
            refine take_h 0 ?_ rfl (by kernel_rfl) (by kernel_rfl) (by kernel_rfl) (fun _ _ _ h => h) (Or.inl ⟨by kernel_rfl, ?_⟩) (by assumption) ?_
            rotate_left
            · (intro w hSw; (try dsimp only at hSw); go_simp; try (with_reducible rfl))
            try simp only [Act.put, List.setIfInBounds_toArray, List.set_cons_zero, List.set_cons_succ]
            refine take_h 1 ?_ rfl (by kernel_rfl) (by kernel_rfl) (by kernel_rfl) (fun _ _ _ h => h) (Or.inl ⟨by kernel_rfl, ?_⟩) (by assumption) ?_
            rotate_left
            · (intro w hSw; (try dsimp only at hSw); go_simp; try (with_reducible rfl))
            try simp only [Act.put, List.setIfInBounds_toArray, List.set_cons_zero, List.set_cons_succ]
            refine take_h 2 ?_ rfl (by kernel_rfl) (by kernel_rfl) (by kernel_rfl) (fun _ _ _ h => h) (Or.inl ⟨by kernel_rfl, ?_⟩) (by assumption) ?_
            rotate_left
            · (intro w hSw; (try dsimp only at hSw); go_simp; try (with_reducible rfl))
            try simp only [Act.put, List.setIfInBounds_toArray, List.set_cons_zero, List.set_cons_succ]
            refine take_h 3 _ rfl (by kernel_rfl) (by kernel_rfl) (by kernel_rfl) (fun _ _ _ h => h) (yieldsIf_load_mid (by kernel_rfl) 30 (.tmp 15) rfl g (off + k * 38) rfl C _ (fun w hSw => hSw.1) ut rfl iX) (by assumption) ?_
            try simp only [Act.put, List.setIfInBounds_toArray, List.set_cons_zero, List.set_cons_succ]
            refine call_h 4 rfl (by kernel_rfl) 34 #[.agg C.toArray] (by kernel_rfl) (by go_simp) ?_
            refine (HCk.out V HV.out).mono ?_
            rintro e w2 ⟨rfl, hb⟩
            have HB2 := Seal.mk (HV.out.trans (hb.mono HV.out.size))
            refine ⟨_, rfl, ⟨rangeAt_below' hHeld.1 hb, trivial⟩, fun hHeld2 => ?_⟩
            have HN2 : Seal (Below w.heap.size w w2 ∧ (∀ (j : Nat) (x : Ltr), j < k + 1 → l[j]? = some x → okK x = true) ∧ ∀ (j : Nat) (x y : Ltr), j + 1 < k + 1 → l[j]? = some x → l[j + 1]? = some y → x.N < y.N) := ⟨HB2.out, fun j z hj hz => by
              rcases Nat.lt_or_ge j k with h | h
              · exact hH.out.2.1 j z h hz
              · obtain rfl : j = k := by omega
                rw [HX.out.1] at hz
                cases hz
                exact HX.out.2.1.symm, fun j z y hj => by have := hk1.out; omega⟩
            clear hHeld hb
            try simp only [Act.put, List.setIfInBounds_toArray, List.set_cons_zero, List.set_cons_succ]
            refine take_h 5 ?_ rfl (by kernel_rfl) (by kernel_rfl) (by kernel_rfl) (fun _ _ _ h => h) (Or.inl ⟨by kernel_rfl, ?_⟩) (by assumption) ?_
            rotate_left
            · (intro w hSw; (try dsimp only at hSw); go_simp; try (with_reducible rfl))
            try simp only [Act.put, List.setIfInBounds_toArray, List.set_cons_zero, List.set_cons_succ]
            refine take_h 6 ?_ rfl (by kernel_rfl) (by kernel_rfl) (by kernel_rfl) (fun _ _ _ h => h) (Or.inl ⟨by kernel_rfl, ?_⟩) (by assumption) ?_
            rotate_left
            · (intro w hSw; (try dsimp only at hSw); go_simp; try (with_reducible rfl))
            try simp only [Act.put, List.setIfInBounds_toArray, List.set_cons_zero, List.set_cons_succ]
            refine take_h 7 ?_ rfl (by kernel_rfl) (by kernel_rfl) (by kernel_rfl) (fun _ _ _ h => h) (Or.inl ⟨by kernel_rfl, ?_⟩) (by assumption) ?_
            rotate_left
            · (intro w hSw; (try dsimp only at hSw); go_simp; try (with_reducible rfl))
            try simp only [Act.put, List.setIfInBounds_toArray, List.set_cons_zero, List.set_cons_succ]
            refine take_h 8 (.bool false) rfl (by kernel_rfl) (by kernel_rfl) (by kernel_rfl) (fun _ _ _ h => h) (Or.inl ⟨by kernel_rfl, fun w hSw => by (try dsimp only at hSw); go_simp; try omega⟩) (by assumption) ?_
            try simp only [Act.put, List.setIfInBounds_toArray, List.set_cons_zero, List.set_cons_succ]
            refine take_h 9 ?_ rfl (by kernel_rfl) (by kernel_rfl) (by kernel_rfl) (fun _ _ _ h => h) (Or.inl ⟨by kernel_rfl, ?_⟩) (by assumption) ?_
            rotate_left
            · (intro w hSw; (try dsimp only at hSw); go_simp; try (with_reducible rfl))
            try simp only [Act.put, List.setIfInBounds_toArray, List.set_cons_zero, List.set_cons_succ]
            refine take_h 10 undef rfl (by kernel_rfl) (by kernel_rfl) (by kernel_rfl) (fun _ _ _ h => h) (Or.inr ⟨by kernel_rfl, rfl⟩) (by assumption) ?_
            try simp only [Act.put, List.setIfInBounds_toArray, List.set_cons_zero, List.set_cons_succ]
            refine take_h 11 undef rfl (by kernel_rfl) (by kernel_rfl) (by kernel_rfl) (fun _ _ _ h => h) (Or.inr ⟨by kernel_rfl, rfl⟩) (by assumption) ?_
            try simp only [Act.put, List.setIfInBounds_toArray, List.set_cons_zero, List.set_cons_succ]
            refine take_h 12 undef rfl (by kernel_rfl) (by kernel_rfl) (by kernel_rfl) (fun _ _ _ h => h) (Or.inr ⟨by kernel_rfl, rfl⟩) (by assumption) ?_
            try simp only [Act.put, List.setIfInBounds_toArray, List.set_cons_zero, List.set_cons_succ]
            refine take_h 13 undef rfl (by kernel_rfl) (by kernel_rfl) (by kernel_rfl) (fun _ _ _ h => h) (Or.inr ⟨by kernel_rfl, rfl⟩) (by assumption) ?_
            try simp only [Act.put, List.setIfInBounds_toArray, List.set_cons_zero, List.set_cons_succ]
            refine take_h 14 undef rfl (by kernel_rfl) (by kernel_rfl) (by kernel_rfl) (fun _ _ _ h => h) (Or.inr ⟨by kernel_rfl, rfl⟩) (by assumption) ?_
            try simp only [Act.put, List.setIfInBounds_toArray, List.set_cons_zero, List.set_cons_succ]
            refine take_h 15 undef rfl (by kernel_rfl) (by kernel_rfl) (by kernel_rfl) (fun _ _ _ h => h) (Or.inr ⟨by kernel_rfl, rfl⟩) (by assumption) ?_
            try simp only [Act.put, List.setIfInBounds_toArray, List.set_cons_zero, List.set_cons_succ]
            refine take_h 16 undef rfl (by kernel_rfl) (by kernel_rfl) (by kernel_rfl) (fun _ _ _ h => h) (Or.inr ⟨by kernel_rfl, rfl⟩) (by assumption) ?_
            try simp only [Act.put, List.setIfInBounds_toArray, List.set_cons_zero, List.set_cons_succ]
            refine take_h 17 undef rfl (by kernel_rfl) (by kernel_rfl) (by kernel_rfl) (fun _ _ _ h => h) (Or.inr ⟨by kernel_rfl, rfl⟩) (by assumption) ?_
            try simp only [Act.put, List.setIfInBounds_toArray, List.set_cons_zero, List.set_cons_succ]
            refine take_h 18 undef rfl (by kernel_rfl) (by kernel_rfl) (by kernel_rfl) (fun _ _ _ h => h) (Or.inr ⟨by kernel_rfl, rfl⟩) (by assumption) ?_
            try simp only [Act.put, List.setIfInBounds_toArray, List.set_cons_zero, List.set_cons_succ]
            refine take_h 19 undef rfl (by kernel_rfl) (by kernel_rfl) (by kernel_rfl) (fun _ _ _ h => h) (Or.inr ⟨by kernel_rfl, rfl⟩) (by assumption) ?_
            try simp only [Act.put, List.setIfInBounds_toArray, List.set_cons_zero, List.set_cons_succ]
            refine take_h 20 undef rfl (by kernel_rfl) (by kernel_rfl) (by kernel_rfl) (fun _ _ _ h => h) (Or.inr ⟨by kernel_rfl, rfl⟩) (by assumption) ?_
            try simp only [Act.put, List.setIfInBounds_toArray, List.set_cons_zero, List.set_cons_succ]
            refine take_h 21 undef rfl (by kernel_rfl) (by kernel_rfl) (by kernel_rfl) (fun _ _ _ h => h) (Or.inr ⟨by kernel_rfl, rfl⟩) (by assumption) ?_
            try simp only [Act.put, List.setIfInBounds_toArray, List.set_cons_zero, List.set_cons_succ]
            refine take_h 22 ?_ rfl (by kernel_rfl) (by kernel_rfl) (by kernel_rfl) (fun _ _ _ h => h) (Or.inl ⟨by kernel_rfl, ?_⟩) (by assumption) ?_
            rotate_left
            · (intro w hSw; (try dsimp only at hSw); go_simp; try (with_reducible rfl))
            try simp only [Act.put, List.setIfInBounds_toArray, List.set_cons_zero, List.set_cons_succ]
            refine take_h 23 ?_ rfl (by kernel_rfl) (by kernel_rfl) (by kernel_rfl) (fun _ _ _ h => h) (Or.inl ⟨by kernel_rfl, ?_⟩) (by assumption) ?_
            rotate_left
            · (intro w hSw; (try dsimp only at hSw); go_simp; try (with_reducible rfl))
            try simp only [Act.put, List.setIfInBounds_toArray, List.set_cons_zero, List.set_cons_succ]
            refine wpAnyH_done (by kernel_rfl) ?_ _
            clear hHeld2
            clear hH
            go_wp2
            go_roundw
            case rel => exact ⟨k + 1, by omega, by go_num, HN2⟩
            case measure => simp [intOf]; omega
          · obtain ⟨y, hy⟩ : ∃ y, l[k - 1]? = some y := ⟨_, List.getElem?_eq_getElem (by omega)⟩
            have cY := KY.out y hk0 hy
            obtain ⟨M, hM⟩ : ∃ M, M = y.N := ⟨_, rfl⟩
            have HY : Seal (l[k - 1]? = some y ∧ M = y.N) := ⟨hy, hM⟩
            rw [← hM] at cY
            have z1 : (0 : Int) < (k : Int) := by omega
            have z2 : 0 < k := hk0
            have q1 : IntKind.i64.wrap ((k : Int) - 1) = k - 1 := IntWalk.i64_in _ (by omega)
            have q2 : ((k : Int) - 1).toNat = k - 1 := by omega
            have q3 : 0 ≤ (k : Int) - 1 := by omega
            have q4 : (k : Int) - 1 < (n : Int) := by omega
            have q7 : 1 ≤ (k : Int) := by omega
            refine wp_region_held_drew (S := fun W => W.rangeAt g (off + k * 38) C ∧ W.cell? ⟨g, off + k * 38, none⟩ = some (.int .i64 N) ∧ W.cell? ⟨g, off + (k - 1) * 38, none⟩ = some (.int .i64 M)) (by kernel_rfl) ⟨rX, cX, cY⟩ (fun hHeld => ?_)
            clear rX cX KY cY hy hM
            obtain ⟨V, hV⟩ : ∃ V, V = wo.drew := ⟨_, rfl⟩
            rw [← hV] at hHeld HV ⊢
            clear hV
            refine take_h 0 ?_ rfl (by kernel_rfl) (by kernel_rfl) (by kernel_rfl) (fun _ _ _ h => h) (Or.inl ⟨by kernel_rfl, ?_⟩) (by assumption) ?_
            rotate_left
            · (intro w hSw; (try dsimp only at hSw); go_simp; try (with_reducible rfl))
            try simp only [Act.put, List.setIfInBounds_toArray, List.set_cons_zero, List.set_cons_succ]
            refine take_h 1 ?_ rfl (by kernel_rfl) (by kernel_rfl) (by kernel_rfl) (fun _ _ _ h => h) (Or.inl ⟨by kernel_rfl, ?_⟩) (by assumption) ?_
            rotate_left
            · (intro w hSw; (try dsimp only at hSw); go_simp; try (with_reducible rfl))
            try simp only [Act.put, List.setIfInBounds_toArray, List.set_cons_zero, List.set_cons_succ]
            refine take_h 2 ?_ rfl (by kernel_rfl) (by kernel_rfl) (by kernel_rfl) (fun _ _ _ h => h) (Or.inl ⟨by kernel_rfl, ?_⟩) (by assumption) ?_
            rotate_left
            · (intro w hSw; (try dsimp only at hSw); go_simp; try (with_reducible rfl))
            try simp only [Act.put, List.setIfInBounds_toArray, List.set_cons_zero, List.set_cons_succ]
            refine take_h 3 _ rfl (by kernel_rfl) (by kernel_rfl) (by kernel_rfl) (fun _ _ _ h => h) (yieldsIf_load_mid (by kernel_rfl) 30 (.tmp 15) rfl g (off + k * 38) rfl C _ (fun w hSw => hSw.1) ut rfl iX) (by assumption) ?_
            try simp only [Act.put, List.setIfInBounds_toArray, List.set_cons_zero, List.set_cons_succ]
            refine call_h 4 rfl (by kernel_rfl) 34 #[.agg C.toArray] (by kernel_rfl) (by go_simp) ?_
            refine (HCk.out V HV.out).mono ?_
            rintro e w2 ⟨rfl, hb⟩
            have HB2 := Seal.mk (HV.out.trans (hb.mono HV.out.size))
            refine ⟨_, rfl, ⟨rangeAt_below' hHeld.1 hb, cell_below' hb hHeld.2.1, cell_below' hb hHeld.2.2⟩, fun hHeld2 => ?_⟩
            clear hHeld hb
            try simp only [Act.put, List.setIfInBounds_toArray, List.set_cons_zero, List.set_cons_succ]
            refine take_h 5 ?_ rfl (by kernel_rfl) (by kernel_rfl) (by kernel_rfl) (fun _ _ _ h => h) (Or.inl ⟨by kernel_rfl, ?_⟩) (by assumption) ?_
            rotate_left
            · (intro w hSw; (try dsimp only at hSw); go_simp; try (with_reducible rfl))
            try simp only [Act.put, List.setIfInBounds_toArray, List.set_cons_zero, List.set_cons_succ]
            refine take_h 6 ?_ rfl (by kernel_rfl) (by kernel_rfl) (by kernel_rfl) (fun _ _ _ h => h) (Or.inl ⟨by kernel_rfl, ?_⟩) (by assumption) ?_
            rotate_left
            · (intro w hSw; (try dsimp only at hSw); go_simp; try (with_reducible rfl))
            try simp only [Act.put, List.setIfInBounds_toArray, List.set_cons_zero, List.set_cons_succ]
            refine take_h 7 ?_ rfl (by kernel_rfl) (by kernel_rfl) (by kernel_rfl) (fun _ _ _ h => h) (Or.inl ⟨by kernel_rfl, ?_⟩) (by assumption) ?_
            rotate_left
            · (intro w hSw; (try dsimp only at hSw); go_simp; try (with_reducible rfl))
            try simp only [Act.put, List.setIfInBounds_toArray, List.set_cons_zero, List.set_cons_succ]
            refine take_h 8 (.bool true) rfl (by kernel_rfl) (by kernel_rfl) (by kernel_rfl) (fun _ _ _ h => h) (Or.inl ⟨by kernel_rfl, fun w hSw => by (try dsimp only at hSw); go_simp; try omega⟩) (by assumption) ?_
            try simp only [Act.put, List.setIfInBounds_toArray, List.set_cons_zero, List.set_cons_succ]
            refine take_h 9 ?_ rfl (by kernel_rfl) (by kernel_rfl) (by kernel_rfl) (fun _ _ _ h => h) (Or.inl ⟨by kernel_rfl, ?_⟩) (by assumption) ?_
            rotate_left
            · (intro w hSw; (try dsimp only at hSw); go_simp; try (with_reducible rfl))
            try simp only [Act.put, List.setIfInBounds_toArray, List.set_cons_zero, List.set_cons_succ]
            refine take_h 10 ?_ rfl (by kernel_rfl) (by kernel_rfl) (by kernel_rfl) (fun _ _ _ h => h) (Or.inl ⟨by kernel_rfl, ?_⟩) (by assumption) ?_
            rotate_left
            · (intro w hSw; (try dsimp only at hSw); go_simp; try (with_reducible rfl))
            try simp only [Act.put, List.setIfInBounds_toArray, List.set_cons_zero, List.set_cons_succ]
            refine take_h 11 ?_ rfl (by kernel_rfl) (by kernel_rfl) (by kernel_rfl) (fun _ _ _ h => h) (Or.inl ⟨by kernel_rfl, ?_⟩) (by assumption) ?_
            rotate_left
            · (intro w hSw; (try dsimp only at hSw); go_simp; try (with_reducible rfl))
            try simp only [Act.put, List.setIfInBounds_toArray, List.set_cons_zero, List.set_cons_succ]
            refine take_h 12 ?_ rfl (by kernel_rfl) (by kernel_rfl) (by kernel_rfl) (fun _ _ _ h => h) (Or.inl ⟨by kernel_rfl, ?_⟩) (by assumption) ?_
            rotate_left
            · (intro w hSw; (try dsimp only at hSw); go_simp; try (with_reducible rfl))
            try simp only [Act.put, List.setIfInBounds_toArray, List.set_cons_zero, List.set_cons_succ]
            refine take_h 13 ?_ rfl (by kernel_rfl) (by kernel_rfl) (by kernel_rfl) (fun _ _ _ h => h) (Or.inl ⟨by kernel_rfl, ?_⟩) (by assumption) ?_
            rotate_left
            · (intro w hSw; (try dsimp only at hSw); go_simp; try (with_reducible rfl))
            try simp only [Act.put, List.setIfInBounds_toArray, List.set_cons_zero, List.set_cons_succ]
            refine take_h 14 ?_ rfl (by kernel_rfl) (by kernel_rfl) (by kernel_rfl) (fun _ _ _ h => h) (Or.inl ⟨by kernel_rfl, ?_⟩) (by assumption) ?_
            rotate_left
            · (intro w hSw; (try dsimp only at hSw); go_simp; try (with_reducible rfl))
            try simp only [Act.put, List.setIfInBounds_toArray, List.set_cons_zero, List.set_cons_succ]
            refine take_h 15 ?_ rfl (by kernel_rfl) (by kernel_rfl) (by kernel_rfl) (fun _ _ _ h => h) (Or.inl ⟨by kernel_rfl, ?_⟩) (by assumption) ?_
            rotate_left
            · (intro w hSw; (try dsimp only at hSw); go_simp; try (with_reducible rfl))
            try simp only [Act.put, List.setIfInBounds_toArray, List.set_cons_zero, List.set_cons_succ]
            refine take_h 16 ?_ rfl (by kernel_rfl) (by kernel_rfl) (by kernel_rfl) (fun _ _ _ h => h) (Or.inl ⟨by kernel_rfl, ?_⟩) (by assumption) ?_
            rotate_left
            · (intro w hSw; (try dsimp only at hSw); go_simp; try (with_reducible rfl))
            try simp only [Act.put, List.setIfInBounds_toArray, List.set_cons_zero, List.set_cons_succ]
            refine take_h 17 ?_ rfl (by kernel_rfl) (by kernel_rfl) (by kernel_rfl) (fun _ _ _ h => h) (Or.inl ⟨by kernel_rfl, ?_⟩) (by assumption) ?_
            rotate_left
            · (intro w hSw; (try dsimp only at hSw); go_simp; try (with_reducible rfl))
            try simp only [Act.put, List.setIfInBounds_toArray, List.set_cons_zero, List.set_cons_succ]
            refine take_h 18 ?_ rfl (by kernel_rfl) (by kernel_rfl) (by kernel_rfl) (fun _ _ _ h => h) (Or.inl ⟨by kernel_rfl, ?_⟩) (by assumption) ?_
            rotate_left
            · (intro w hSw; (try dsimp only at hSw); go_simp; try (with_reducible rfl))
            try simp only [Act.put, List.setIfInBounds_toArray, List.set_cons_zero, List.set_cons_succ]
            refine take_h 19 ?_ rfl (by kernel_rfl) (by kernel_rfl) (by kernel_rfl) (fun _ _ _ h => h) (Or.inl ⟨by kernel_rfl, ?_⟩) (by assumption) ?_
            rotate_left
            · (intro w hSw; (try dsimp only at hSw); go_simp; try (with_reducible rfl))
            try simp only [Act.put, List.setIfInBounds_toArray, List.set_cons_zero, List.set_cons_succ]
            refine take_h 20 ?_ rfl (by kernel_rfl) (by kernel_rfl) (by kernel_rfl) (fun _ _ _ h => h) (Or.inl ⟨by kernel_rfl, ?_⟩) (by assumption) ?_
            rotate_left
            · (intro w hSw; (try dsimp only at hSw); go_simp; try (with_reducible rfl))
            try simp only [Act.put, List.setIfInBounds_toArray, List.set_cons_zero, List.set_cons_succ]
            by_cases hle : N ≤ M
            · have HR : Seal (chkL l = 450) := ⟨HBad.out (by
                cases hg : goodL l with
                | false => rfl
                | true =>
                  have h1 := (risK_steps l).1 (goodL_iff.1 hg).2 (k - 1) y x HY.out.1 (by rw [show k - 1 + 1 = k from by omega]; exact HX.out.1)
                  have h2 := HX.out.2.2
                  have h3 := HY.out.2
                  omega)⟩
              refine take_h 21 (.bool true) rfl (by kernel_rfl) (by kernel_rfl) (by kernel_rfl) (fun _ _ _ h => h) (Or.inl ⟨by kernel_rfl, fun w hSw => by (try dsimp only at hSw); go_simp⟩) (by assumption) ?_
              try simp only [Act.put, List.setIfInBounds_toArray, List.set_cons_zero, List.set_cons_succ]
              refine take_h 22 ?_ rfl (by kernel_rfl) (by kernel_rfl) (by kernel_rfl) (fun _ _ _ h => h) (Or.inl ⟨by kernel_rfl, ?_⟩) (by assumption) ?_
              rotate_left
              · (intro w hSw; (try dsimp only at hSw); go_simp; try (with_reducible rfl))
              try simp only [Act.put, List.setIfInBounds_toArray, List.set_cons_zero, List.set_cons_succ]
              refine take_h 23 ?_ rfl (by kernel_rfl) (by kernel_rfl) (by kernel_rfl) (fun _ _ _ h => h) (Or.inl ⟨by kernel_rfl, ?_⟩) (by assumption) ?_
              rotate_left
              · (intro w hSw; (try dsimp only at hSw); go_simp; try (with_reducible rfl))
              try simp only [Act.put, List.setIfInBounds_toArray, List.set_cons_zero, List.set_cons_succ]
              clear q1 q2 q3 q4 q7
              refine wpAnyH_done (by kernel_rfl) ?_ _
              clear hHeld2
              clear hH
              go_wp2
              go_ret
              exact ⟨by rw [HR.out]; rfl, HB2.out⟩
            · have HN2 : Seal (Below w.heap.size w w2 ∧ (∀ (j : Nat) (x : Ltr), j < k + 1 → l[j]? = some x → okK x = true) ∧ ∀ (j : Nat) (x y : Ltr), j + 1 < k + 1 → l[j]? = some x → l[j + 1]? = some y → x.N < y.N) := ⟨HB2.out, fun j z hj hz => by
                rcases Nat.lt_or_ge j k with h | h
                · exact hH.out.2.1 j z h hz
                · obtain rfl : j = k := by omega
                  rw [HX.out.1] at hz
                  cases hz
                  exact HX.out.2.1.symm, fun j z v hj hz hv => by
                rcases Nat.lt_or_ge (j + 1) k with h | h
                · exact hH.out.2.2 j z v h hz hv
                · obtain rfl : j = k - 1 := by omega
                  rw [show k - 1 + 1 = k from by omega, HX.out.1] at hv
                  rw [HY.out.1] at hz
                  cases hv
                  cases hz
                  have h2 := HX.out.2.2
                  have h3 := HY.out.2
                  omega⟩
              refine take_h 21 (.bool false) rfl (by kernel_rfl) (by kernel_rfl) (by kernel_rfl) (fun _ _ _ h => h) (Or.inl ⟨by kernel_rfl, fun w hSw => by (try dsimp only at hSw); go_simp; try omega⟩) (by assumption) ?_
              try simp only [Act.put, List.setIfInBounds_toArray, List.set_cons_zero, List.set_cons_succ]
              refine take_h 22 ?_ rfl (by kernel_rfl) (by kernel_rfl) (by kernel_rfl) (fun _ _ _ h => h) (Or.inl ⟨by kernel_rfl, ?_⟩) (by assumption) ?_
              rotate_left
              · (intro w hSw; (try dsimp only at hSw); go_simp; try (with_reducible rfl))
              try simp only [Act.put, List.setIfInBounds_toArray, List.set_cons_zero, List.set_cons_succ]
              refine take_h 23 ?_ rfl (by kernel_rfl) (by kernel_rfl) (by kernel_rfl) (fun _ _ _ h => h) (Or.inl ⟨by kernel_rfl, ?_⟩) (by assumption) ?_
              rotate_left
              · (intro w hSw; (try dsimp only at hSw); go_simp; try (with_reducible rfl))
              try simp only [Act.put, List.setIfInBounds_toArray, List.set_cons_zero, List.set_cons_succ]
              clear q1 q2 q3 q4 q7
              refine wpAnyH_done (by kernel_rfl) ?_ _
              clear hHeld2
              clear hH
              go_wp2
              go_roundw
              case rel => exact ⟨k + 1, by omega, by go_num, HN2⟩
              case measure => simp [intOf]; omega
      · obtain rfl : k = n := by omega
        have q5 : ¬ (k : Int) < (k : Int) := by omega
        have HR : Seal (chkL l = 0) := ⟨HGood.out (goodL_iff.2 (by
          refine ⟨fun x hx => ?_, (risK_steps l).2 fun j x y hx hy => hH.out.2.2 j x y (by have := (List.getElem?_eq_some_iff.1 hy).1; omega) hx hy⟩
          obtain ⟨j, hj⟩ := List.mem_iff_getElem?.1 hx
          exact hH.out.2.1 j x (by have := (List.getElem?_eq_some_iff.1 hj).1; omega) hj))⟩
        have HB := Seal.mk hH.out.1
        clear hH
        go_wp2
        go_ret
        exact ⟨by rw [HR.out]; rfl, HB.out⟩
end Frk
