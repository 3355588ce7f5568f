/- Law 57: DefenceOrder. -/
import Derived.Test.YtllbjakfjpjfnaaDoorVwgFlw
namespace Frk
open Go Go.RowKit Go.Proofs
set_option maxRecDepth 100000

set_option maxHeartbeats 4000000 in
theorem law_defenceOrder (aE : Option Addr) (nE cE : Nat) (l : List Ep) (aO : Option Addr) (nO cO : Nat) (off : List Int) (aP : Option Addr) (nP cP : Nat) (past : List Bytes) (x y : CaX) (now term : Int) (w : World) (hG : Glob w)
    (hE : nE ≤ 5000 → IsE w aE nE cE l) (hO : nO ≤ 5000 → IsIs w aO nO cO off) (hP : nP ≤ 5000 → IsD w aP nP cP past) (hx : CaIn w x) (hy : CaIn w y) :
    Calls Tryd.prog 5 #[.slice aE nE cE, .slice aO nO cO, .slice aP nP cP, .agg x.C.toArray, .agg y.C.toArray, .int .i64 now, .int .i64 term] w fun e w' => e = .returned (.bool true) ∧ Below w.heap.size w w' := by
  obtain ⟨X1, hX1⟩ : ∃ X : World, X = w.alloc (.cells x.C.toArray 35) := ⟨_, rfl⟩
  obtain ⟨X, hX⟩ : ∃ X : World, X = X1.alloc (.cells y.C.toArray 35) := ⟨_, rfl⟩
  have b1 : Below w.heap.size w X1 := by rw [hX1]; exact below_alloc _ _
  have b2 : Below X1.heap.size X1 X := by rw [hX]; exact below_alloc _ _
  have s1 : X1.heap.size = w.heap.size + 1 := by rw [hX1, size_alloc]
  obtain ⟨gx, hgx⟩ : ∃ g, g = w.heap.size := ⟨_, rfl⟩
  obtain ⟨gy, hgy⟩ : ∃ g, g = w.heap.size + 1 := ⟨_, rfl⟩
  have rx : X.rangeAt gx 0 x.C := rangeAt_below' (by rw [hX1, hgx]; exact rangeAt_row (heap_alloc_new w _)) b2
  have ry : X.rangeAt gy 0 y.C := by rw [hgy, ← s1, hX]; exact rangeAt_row (heap_alloc_new X1 _)
  have HB : Seal (Below w.heap.size w X) := ⟨b1.trans (b2.mono b1.size)⟩
  have HG : Seal (∀ W, Below w.heap.size w W → Glob W) := ⟨fun W h => hG.below h⟩
  have HR : Seal (X.rangeAt gx 0 x.C ∧ X.rangeAt gy 0 y.C) := ⟨rx, ry⟩
  have HS : Seal (∀ W, Below w.heap.size w W → W.rangeAt gx 0 x.C → W.rangeAt gy 0 y.C → fewF nE nO nP x.nK x.nF = true → fewF nE nO nP y.nK y.nF = true → LwS w aE nE cE l aO nO cO off aP nP cP past x y gx gy W) := ⟨fun W h rx ry f1 f2 => by
    obtain ⟨q1, q2, q3, q4, q5⟩ := fewF_iff.1 f1
    obtain ⟨_, _, _, p4, p5⟩ := fewF_iff.1 f2
    have hx' := hx.below h
    have hy' := hy.below h
    exact ⟨h, hG.below h, (hE (by omega)).below h, (hO (by omega)).below h, (hP (by omega)).of_heap h, q3, hx'.F (by omega), hx'.K (by omega), by omega, hx'.ok, hy'.F (by omega), hy'.K (by omega), by omega, hy'.ok, rx, ry⟩⟩
  obtain ⟨CX, hCX⟩ : ∃ C, C = x.C := ⟨_, rfl⟩
  obtain ⟨CY, hCY⟩ : ∃ C, C = y.C := ⟨_, rfl⟩
  have iX : (Tryd.prog.info? 35).map (·.size) = some CX.length := by rw [hCX]; exact CaX.info _
  have iY : (Tryd.prog.info? 35).map (·.size) = some CY.length := by rw [hCY]; exact CaX.info _
  have uC := Tryd.underlying35
  have HC : Seal (CX = x.C ∧ CY = y.C) := ⟨hCX, hCY⟩
  have hXX : X = (w.alloc (.cells CX.toArray 35)).alloc (.cells CY.toArray 35) := by rw [hX, hX1, hCX, hCY]
  rw [← hCX, ← hCY] at HR ⊢
  obtain ⟨f1, hf1⟩ : ∃ f, f = fewF nE nO nP x.nK x.nF := ⟨_, rfl⟩
  obtain ⟨f2, hf2⟩ : ∃ f, f = fewF nE nO nP y.nK y.nF := ⟨_, rfl⟩
  have HF : Seal (f1 = fewF nE nO nP x.nK x.nF ∧ f2 = fewF nE nO nP y.nK y.nF) := ⟨hf1, hf2⟩
  clear hX hX1 b1 b2 s1 rx ry hE hO hP hx hy hG hCX hCY hf1 hf2
  go_enter Tryd.func5, Tryd.ntmps5
  go_upto_region 1 with (fail)
  rw [← hXX, ← hgy, ← hgx]
  clear hXX hgy hgx
  have rX := HR.out.1
  have rY := HR.out.2
  clear HR
  go_wp2_with fail
  refine (fsane_any X (HG.out _ HB.out)).mono ?_
  rintro e w1 ⟨rfl, hb⟩
  have HB := Seal.mk (HB.out.trans (hb.mono HB.out.size))
  have rX := rangeAt_below' rX hb
  have rY := rangeAt_below' rY hb
  clear hb
  go_wp2_with (first
    | (refine wpList_load_mid_g (by kernel_rfl) 35 (.tmp 10) rfl gx 0 rfl CX _ rX uC rfl iX ?_; (try simp only [Act.put, List.setIfInBounds_toArray, List.set_cons_zero, List.set_cons_succ]))
    | (refine wpList_load_mid_g (by kernel_rfl) 35 (.tmp 11) rfl gy 0 rfl CY _ rY uC rfl iY ?_; (try simp only [Act.put, List.setIfInBounds_toArray, List.set_cons_zero, List.set_cons_succ])))
  rw [HC.out.1]
  refine (ffew_any aE aO aP nE cE nO cO nP cP x w1).mono ?_
  rintro e w2 ⟨rfl, hb⟩
  rw [← HC.out.1, ← HF.out.1]
  have HB := Seal.mk (HB.out.trans (hb.mono HB.out.size))
  have rX := rangeAt_below' rX hb
  have rY := rangeAt_below' rY hb
  clear hb
  cases f1 with
  | false =>
    go_wp2_with fail
    go_ret
    exact ⟨rfl, HB.out⟩
  | true =>
    go_wp2_with (first
      | (refine wpList_load_mid_g (by kernel_rfl) 35 (.tmp 10) rfl gx 0 rfl CX _ rX uC rfl iX ?_; (try simp only [Act.put, List.setIfInBounds_toArray, List.set_cons_zero, List.set_cons_succ]))
      | (refine wpList_load_mid_g (by kernel_rfl) 35 (.tmp 11) rfl gy 0 rfl CY _ rY uC rfl iY ?_; (try simp only [Act.put, List.setIfInBounds_toArray, List.set_cons_zero, List.set_cons_succ])))
    rw [HC.out.2]
    refine (ffew_any aE aO aP nE cE nO cO nP cP y w2).mono ?_
    rintro e w3 ⟨rfl, hb⟩
    rw [← HC.out.2, ← HF.out.2]
    have HB := Seal.mk (HB.out.trans (hb.mono HB.out.size))
    have rX := rangeAt_below' rX hb
    have rY := rangeAt_below' rY hb
    clear hb
    cases f2 with
    | false =>
      go_wp2_with fail
      go_ret
      exact ⟨rfl, HB.out⟩
    | true =>
      have HL := Seal.mk (HS.out w3 HB.out (by rw [← HC.out.1]; exact rX) (by rw [← HC.out.2]; exact rY) HF.out.1.symm HF.out.2.symm)
      clear HS HF HG HB
      obtain ⟨e1, he1⟩ : ∃ e, e = admE l off past x.c now term := ⟨_, rfl⟩
      obtain ⟨l1, hl1⟩ : ∃ e, e = admL l off past x.c now term := ⟨_, rfl⟩
      obtain ⟨e2, he2⟩ : ∃ e, e = admE l off l1 y.c now term := ⟨_, rfl⟩
      obtain ⟨l2, hl2⟩ : ∃ e, e = admL l off l1 y.c now term := ⟨_, rfl⟩
      have HM : Seal (e1 = admE l off past x.c now term ∧ l1 = admL l off past x.c now term ∧ e2 = admE l off l1 y.c now term ∧ l2 = admL l off l1 y.c now term) := ⟨he1, hl1, he2, hl2⟩
      clear he1 hl1 he2 hl2
      go_wp2_with (first
        | (refine wpList_load_mid_g (by kernel_rfl) 35 (.tmp 10) rfl gx 0 rfl CX _ rX uC rfl iX ?_; (try simp only [Act.put, List.setIfInBounds_toArray, List.set_cons_zero, List.set_cons_succ]))
        | (refine wpList_load_mid_g (by kernel_rfl) 35 (.tmp 11) rfl gy 0 rfl CY _ rY uC rfl iY ?_; (try simp only [Act.put, List.setIfInBounds_toArray, List.set_cons_zero, List.set_cons_succ])))
      have hA := HL.out.admx HL.out.P (by have := HL.out.p4; omega) now term
      rw [← HM.out.1, ← HM.out.2.1, ← HC.out.1] at hA
      refine hA.mono ?_
      rintro e w4 ⟨a1, n1, c1, rfl, hi, hb⟩
      have HL := Seal.mk (HL.out.step hb)
      have rX := rangeAt_below' rX hb
      have rY := rangeAt_below' rY hb
      have HD := Seal.mk hi.out.1
      clear hA hi hb
      by_cases q1 : e1 = 0
      rotate_left
      · go_wp2_with fail
        go_ret
        exact ⟨rfl, HL.out.bel⟩
      have n1b : Seal (n1 ≤ 4000) := ⟨by
        have h1 := HD.out.llen
        have h2 := HL.out.P.llen
        have h3 := HL.out.p4
        rw [HM.out.2.1, adm_yes (HM.out.1.symm.trans q1), putB_length] at h1
        omega⟩
      go_wp2_with (first
        | (refine wpList_load_mid_g (by kernel_rfl) 35 (.tmp 10) rfl gx 0 rfl CX _ rX uC rfl iX ?_; (try simp only [Act.put, List.setIfInBounds_toArray, List.set_cons_zero, List.set_cons_succ]))
        | (refine wpList_load_mid_g (by kernel_rfl) 35 (.tmp 11) rfl gy 0 rfl CY _ rY uC rfl iY ?_; (try simp only [Act.put, List.setIfInBounds_toArray, List.set_cons_zero, List.set_cons_succ])))
      have hA := HL.out.admy HD.out n1b.out now term
      rw [← HM.out.2.2.1, ← HM.out.2.2.2, ← HC.out.2] at hA
      refine hA.mono ?_
      rintro e w5 ⟨a2, n2, c2, rfl, hi, hb⟩
      have HL := Seal.mk (HL.out.step hb)
      have rX := rangeAt_below' rX hb
      have rY := rangeAt_below' rY hb
      have HD2 := Seal.mk hi.out.1
      clear hA hi hb HD n1b
      by_cases q2 : e2 = 0
      rotate_left
      · go_wp2_with fail
        go_ret
        exact ⟨rfl, HL.out.bel⟩
      have HO : Seal (admE l off past y.c now term = 0 ∧ admE l off (admL l off past y.c now term) x.c now term = 0 ∧ l2 = admL l off (admL l off past y.c now term) x.c now term) := ⟨by
        have h := order_plain (HM.out.1.symm.trans q1) (by rw [← HM.out.2.1]; exact HM.out.2.2.1.symm.trans q2)
        rw [← HM.out.2.1, ← HM.out.2.2.2] at h
        exact h⟩
      clear HM
      obtain ⟨l3, hl3⟩ : ∃ e, e = admL l off past y.c now term := ⟨_, rfl⟩
      rw [← hl3] at HO
      have HL3 := Seal.mk hl3
      clear hl3
      go_wp2_with (first
        | (refine wpList_load_mid_g (by kernel_rfl) 35 (.tmp 10) rfl gx 0 rfl CX _ rX uC rfl iX ?_; (try simp only [Act.put, List.setIfInBounds_toArray, List.set_cons_zero, List.set_cons_succ]))
        | (refine wpList_load_mid_g (by kernel_rfl) 35 (.tmp 11) rfl gy 0 rfl CY _ rY uC rfl iY ?_; (try simp only [Act.put, List.setIfInBounds_toArray, List.set_cons_zero, List.set_cons_succ])))
      have hA := HL.out.admy HL.out.P (by have := HL.out.p4; omega) now term
      rw [HO.out.1, ← HL3.out, ← HC.out.2] at hA
      refine hA.mono ?_
      rintro e w6 ⟨a3, n3, c3, rfl, hi, hb⟩
      have HL := Seal.mk (HL.out.step hb)
      have rX := rangeAt_below' rX hb
      have rY := rangeAt_below' rY hb
      have HD3 := Seal.mk hi.out.1
      have HD2 := Seal.mk (HD2.out.of_heap hb)
      clear hA hi hb
      have n3b : Seal (n3 ≤ 4000) := ⟨by
        have h1 := HD3.out.llen
        have h2 := HL.out.P.llen
        have h3 := HL.out.p4
        rw [HL3.out, adm_yes HO.out.1, putB_length] at h1
        omega⟩
      go_wp2_with (first
        | (refine wpList_load_mid_g (by kernel_rfl) 35 (.tmp 10) rfl gx 0 rfl CX _ rX uC rfl iX ?_; (try simp only [Act.put, List.setIfInBounds_toArray, List.set_cons_zero, List.set_cons_succ]))
        | (refine wpList_load_mid_g (by kernel_rfl) 35 (.tmp 11) rfl gy 0 rfl CY _ rY uC rfl iY ?_; (try simp only [Act.put, List.setIfInBounds_toArray, List.set_cons_zero, List.set_cons_succ])))
      have hA := HL.out.admx HD3.out n3b.out now term
      rw [HO.out.2.1, ← HO.out.2.2, ← HC.out.1] at hA
      refine hA.mono ?_
      rintro e w7 ⟨a4, n4, c4, rfl, hi, hb⟩
      have HL := Seal.mk (HL.out.step hb)
      have rX := rangeAt_below' rX hb
      have rY := rangeAt_below' rY hb
      have HD4 := Seal.mk hi.out.1
      have HD2 := Seal.mk (HD2.out.of_heap hb)
      clear hA hi hb HD3 n3b
      have hSm : Calls Tryd.prog 13 #[.slice a2 n2 c2, .slice a4 n4 c4] w7 fun e w' => e = .returned (.bool true) ∧ Below w7.heap.size w7 w' := by
        have h := rsame_any a2 a4 n2 c2 n4 c4 l2 l2 w7 HD2.out HD4.out
        rwa [show (l2 == l2) = true from by simp] at h
      go_wp2_with fail
      refine hSm.mono ?_
      rintro e w8 ⟨rfl, hb⟩
      have HL := Seal.mk (HL.out.step hb)
      clear hSm hb
      go_wp2_with fail
      go_ret
      exact ⟨rfl, HL.out.bel⟩
end Frk
