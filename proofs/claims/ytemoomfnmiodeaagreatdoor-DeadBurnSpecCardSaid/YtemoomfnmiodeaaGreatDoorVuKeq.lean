/- Law 45: kept letters compared; lists of them and of numbers. -/
import Derived.Test.YtemoomfnmiodeaaGreatDoorVuKbu
namespace Frk
open Go Go.RowKit Go.Proofs
set_option maxRecDepth 100000

theorem eqCi_k (d : Nat) (a b c e : Int) (w : World) : (Op.equalIn (d + 1 + 1) 24 (.agg #[.int .i64 a, .int .i64 b]) (.agg #[.int .i64 c, .int .i64 e])).run Tryz.prog w = .ok (a == c && b == e) w := by
  have u3 := Tryz.underlying3
  have a3 := Tryz.isAgg3
  have z3 := Tryz.sizeOf3
  have hS : Tryz.prog.underlying 24 = some (.struct (Tryz.prog.fieldsOf 24)) := by kernel_rfl
  have hp : Tryz.prog.stoodInHeld 24 = false := by kernel_rfl
  rw [run_equalIn_agg w (d + 1) 24 _ _ hS hp]
  simp only [Program.fieldsOf, Tryz.underlying24]
  go_simp
  by_cases h1 : a = c <;> by_cases h2 : b = e <;> simp [h1, h2]
set_option maxHeartbeats 1000000 in
theorem eqRet_k (L K P Q L' K' P' Q' : Int) (T T' : Bytes) (hT : T.length = 32) (hT' : T'.length = 32) (w : World) :
    (Op.equalIn 9999 28 (.agg (retC L K P Q T).toArray) (.agg (retC L' K' P' Q' T').toArray)).run Tryz.prog w = .ok (L == L' && (K == K' && ((P == P' && Q == Q') && T == T'))) w := by
  have a3 := Tryz.isAgg3
  have aC := Tryz.isAgg24
  have aD := Tryz.isAgg26
  have zC := Tryz.sizeOf24
  have zD := Tryz.sizeOf26
  have hS : Tryz.prog.underlying 28 = some (.struct (Tryz.prog.fieldsOf 28)) := by kernel_rfl
  have hp : Tryz.prog.stoodInHeld 28 = false := by kernel_rfl
  have p0 : ∀ (L K P Q : Int) (T : Bytes), (part 3 (retC L K P Q T).toArray 0).run Tryz.prog w = .ok (.int .i64 L) w := fun L K P Q T => by simp [part, a3, retC]
  have p1 : ∀ (L K P Q : Int) (T : Bytes), (part 3 (retC L K P Q T).toArray 1).run Tryz.prog w = .ok (.int .i64 K) w := fun L K P Q T => by simp [part, a3, retC]
  have p2 : ∀ (L K P Q : Int) (T : Bytes), (part 24 (retC L K P Q T).toArray 2).run Tryz.prog w = .ok (.agg #[.int .i64 P, .int .i64 Q]) w := fun L K P Q T => by simp [part, aC, zC, retC]
  have p4 : ∀ (L K P Q : Int) (T : Bytes), T.length = 32 → (part 26 (retC L K P Q T).toArray 4).run Tryz.prog w = .ok (.agg (T.map B).toArray) w := fun L K P Q T h => by
    simp [part, aD, zD, retC]
    exact List.take_of_length_le (by rw [List.length_map, h]; exact Nat.le_refl _)
  rw [show (9999 : Nat) = 9998 + 1 from rfl, run_equalIn_agg w 9998 28 _ _ hS hp]
  simp only [Program.fieldsOf, Tryz.underlying28]
  rw [eqFields_s _ _ _ _ _ _ _ _ _ (by decide) (p0 L K P Q T) (p0 L' K' P' Q' T') (eqInt_s 9997 L L' w)]
  rw [eqFields_s _ _ _ _ _ _ _ _ _ (by decide) (p1 L K P Q T) (p1 L' K' P' Q' T') (eqInt_s 9997 K K' w)]
  rw [eqFields_s _ _ _ _ _ _ _ _ _ (by decide) (p2 L K P Q T) (p2 L' K' P' Q' T') (eqCi_k 9996 P Q P' Q' w)]
  rw [eqFields_s _ _ _ _ _ _ _ _ _ (by decide) (p4 L K P Q T hT) (p4 L' K' P' Q' T' hT') (eqDig_s 9996 T T' hT hT' w)]
  rw [eqEnd_s]
  generalize (L == L') = b1
  generalize (K == K') = b2
  generalize (P == P' && Q == Q') = b3
  generalize (T == T') = b4
  clear p0 p1 p2 p4
  cases b1 <;> cases b2 <;> cases b3 <;> cases b4 <;> rfl
set_option maxHeartbeats 1000000 in
theorem eqKt (x y : Ltr) (kx : x.T.length = 32) (ky : y.T.length = 32) (w : World) :
    (Op.equalIn 10000 30 (.agg x.C.toArray) (.agg y.C.toArray)).run Tryz.prog w = .ok (decide (x = y)) w := by
  have a3 := Tryz.isAgg3
  have aR := Tryz.isAgg28
  have zR := Tryz.sizeOf28
  have hS : Tryz.prog.underlying 30 = some (.struct (Tryz.prog.fieldsOf 30)) := by kernel_rfl
  have hp : Tryz.prog.stoodInHeld 30 = false := by kernel_rfl
  have p0 : ∀ h : Ltr, (part 3 h.C.toArray 0).run Tryz.prog w = .ok (.int .i64 h.N) w := fun h => by simp [part, a3, Ltr.C]
  have p1 : ∀ h : Ltr, (part 3 h.C.toArray 1).run Tryz.prog w = .ok (.int .i64 h.U) w := fun h => by simp [part, a3, Ltr.C]
  have p2 : ∀ h : Ltr, h.T.length = 32 → (part 28 h.C.toArray 2).run Tryz.prog w = .ok (.agg (retC h.L h.K h.P h.Q h.T).toArray) w := fun h k => by
    simp [part, aR, zR, Ltr.C]
    exact List.take_of_length_le (by rw [retC_len k]; exact Nat.le_refl _)
  rw [show (10000 : Nat) = 9999 + 1 from rfl, run_equalIn_agg w 9999 30 _ _ hS hp]
  simp only [Program.fieldsOf, Tryz.underlying30]
  rw [eqFields_s _ _ _ _ _ _ _ _ _ (by decide) (p0 x) (p0 y) (eqInt_s 9998 x.N y.N w)]
  rw [eqFields_s _ _ _ _ _ _ _ _ _ (by decide) (p1 x) (p1 y) (eqInt_s 9998 x.U y.U w)]
  rw [eqFields_s _ _ _ _ _ _ _ _ _ (by decide) (p2 x kx) (p2 y ky) (eqRet_k x.L x.K x.P x.Q y.L y.K y.P y.Q x.T y.T kx ky w)]
  rw [eqEnd_s]
  have e : decide (x = y) = (x.N == y.N && (x.U == y.U && (x.L == y.L && (x.K == y.K && ((x.P == y.P && x.Q == y.Q) && x.T == y.T))))) := by
    obtain ⟨a1, a2, a3, a4, a5, a6, a7⟩ := x
    obtain ⟨b1, b2, b3, b4, b5, b6, b7⟩ := y
    rw [Bool.eq_iff_iff, decide_eq_true_iff]
    simp only [Ltr.mk.injEq, Bool.and_eq_true, beq_iff_eq]
    constructor
    · rintro ⟨rfl, rfl, rfl, rfl, rfl, rfl, rfl⟩; simp
    · rintro ⟨rfl, rfl, rfl, rfl, ⟨rfl, rfl⟩, rfl⟩; simp
  rw [e]
  generalize (x.N == y.N) = b1
  generalize (x.U == y.U) = b2
  generalize (x.L == y.L && (x.K == y.K && ((x.P == y.P && x.Q == y.Q) && x.T == y.T))) = b3
  clear p0 p1 p2
  cases b1 <;> cases b2 <;> cases b3 <;> rfl

theorem eq_lists {α : Type} [DecidableEq α] {l m : List α} (h : l.length = m.length) : (∀ j, j < l.length → l[j]? = m[j]?) ↔ l = m := by
  constructor
  · intro h1
    apply List.ext_getElem?
    intro i
    by_cases hi : i < l.length
    · exact h1 i hi
    · rw [List.getElem?_eq_none (by omega), List.getElem?_eq_none (by omega)]
  · rintro rfl j _
    rfl

set_option maxHeartbeats 2000000 in
theorem keq_any (a b : Option Addr) (n c m d : Nat) (L M : List Ltr) (w : World) (ha : IsC Ltr.C 38 w a n c L) (hb : IsC Ltr.C 38 w b m d M) (h1 : ∀ x ∈ L, x.T.length = 32) (h2 : ∀ x ∈ M, x.T.length = 32) :
    Calls Tryz.prog 41 #[.slice a n c, .slice b m d] w fun e w' => e = .returned (.bool (decide (L = M))) ∧ Below w.heap.size w w' := by
  have hll := ha.llen
  have hmm := hb.llen
  have hmx := ha.lmax
  by_cases hnm : n = m
  · subst hnm
    have HA := Seal.mk (And.intro ha hb)
    have H32 := Seal.mk (And.intro h1 h2)
    obtain ⟨R, hR⟩ : ∃ R, R = decide (L = M) := ⟨_, rfl⟩
    have HR := Seal.mk hR
    have HLM := Seal.mk (eq_lists (l := L) (m := M) (by omega))
    have q0 : ((n : Int) != (n : Int)) = false := by simp
    have ut := Tryz.underlying30
    rw [← hR]
    clear ha hb hR
    go_enter Tryz.func41, Tryz.ntmps41
    go_wp2
    go_loopw [13] (fun i wr => ∃ (k : Nat), k ≤ n ∧ i = .int .i64 k ∧ Seal (Below w.heap.size w wr ∧ ∀ j, j < k → L[j]? = M[j]?)) (fun i _ => n - (intOf i).toNat)
    case atStart => exact ⟨0, by omega, rfl, ⟨Below.refl _ _, fun j h => by omega⟩⟩
    case round =>
      obtain ⟨wo, rfl⟩ : ∃ z, z = wr := ⟨_, rfl⟩
      obtain ⟨k, hk, rfl, hH⟩ := hrel
      by_cases hlt : k < n
      · have hA := HA.out.1.below hH.out.1
        have hB := HA.out.2.below hH.out.1
        rcases hA.at_ with hz | ⟨g, off, rfl, hr, hg⟩
        · omega
        · rcases hB.at_ with hz | ⟨g2, off2, rfl, hr2, hg2⟩
          · omega
          · obtain ⟨x, hx⟩ : ∃ x, L[k]? = some x := ⟨_, List.getElem?_eq_getElem (by omega)⟩
            obtain ⟨y, hy⟩ : ∃ y, M[k]? = some y := ⟨_, List.getElem?_eq_getElem (by omega)⟩
            have q5 : (k : Int) < (n : Int) := by omega
            have q6 : (0 : Int) ≤ (k : Int) := by omega
            have HX := Seal.mk (And.intro hx hy)
            obtain ⟨t, ht⟩ : ∃ t, t = decide (x = y) := ⟨_, rfl⟩
            have HTt := Seal.mk ht
            have rX := rangeC_row hr hA.each hx
            have rY := rangeC_row hr2 hB.each hy
            have x32 := H32.out.1 x (List.mem_of_getElem? hx)
            have y32 := H32.out.2 y (List.mem_of_getElem? hy)
            obtain ⟨CX, hCX⟩ : ∃ C, C = x.C := ⟨_, rfl⟩
            obtain ⟨CY, hCY⟩ : ∃ C, C = y.C := ⟨_, rfl⟩
            have qe : ∀ w, (Op.equalIn 10000 30 (.agg CX.toArray) (.agg CY.toArray)).run Tryz.prog w = .ok t w := fun w => by rw [hCX, hCY, ht]; exact eqKt x y x32 y32 w
            have iX : (Tryz.prog.info? 30).map (·.size) = some CX.length := by rw [hCX]; exact Ltr.info x32
            have iY : (Tryz.prog.info? 30).map (·.size) = some CY.length := by rw [hCY]; exact Ltr.info y32
            rw [← hCX] at rX
            rw [← hCY] at rY
            clear hA hB hr hg hr2 hg2 hx hy x32 y32 hCX hCY ht
            go_wp2_with fail
            refine wp_region_held_drew (S := fun w' => w'.rangeAt g (off + k * 38) CX ∧ w'.rangeAt g2 (off2 + k * 38) CY) (by kernel_rfl) ⟨rX, rY⟩ (fun hHeld => ?_)
            clear rX rY
            have HV : Seal (Below w.heap.size w wo.drew) := ⟨hH.out.1.trans ((below_drewn_o wo).mono hH.out.1.size)⟩
            obtain ⟨V, hV⟩ : ∃ V, V = wo.drew := ⟨_, rfl⟩
            rw [← hV] at hHeld HV ⊢
            clear hV
            refine take_h 0 ?_ rfl (by kernel_rfl) (by kernel_rfl) (by kernel_rfl) (fun _ _ _ h => h) (Or.inl ⟨by kernel_rfl, ?_⟩) (by assumption) ?_
            rotate_left
            · (intro w hSw; (try dsimp only at hSw); go_simp; try (with_reducible rfl))
            try simp only [Act.put, List.setIfInBounds_toArray, List.set_cons_zero, List.set_cons_succ]
            refine take_h 1 ?_ rfl (by kernel_rfl) (by kernel_rfl) (by kernel_rfl) (fun _ _ _ h => h) (Or.inl ⟨by kernel_rfl, ?_⟩) (by assumption) ?_
            rotate_left
            · (intro w hSw; (try dsimp only at hSw); go_simp; try (with_reducible rfl))
            try simp only [Act.put, List.setIfInBounds_toArray, List.set_cons_zero, List.set_cons_succ]
            refine take_h 2 ?_ rfl (by kernel_rfl) (by kernel_rfl) (by kernel_rfl) (fun _ _ _ h => h) (Or.inl ⟨by kernel_rfl, ?_⟩) (by assumption) ?_
            rotate_left
            · (intro w hSw; (try dsimp only at hSw); go_simp; try (with_reducible rfl))
            try simp only [Act.put, List.setIfInBounds_toArray, List.set_cons_zero, List.set_cons_succ]
            refine take_h 3 _ rfl (by kernel_rfl) (by kernel_rfl) (by kernel_rfl) (fun _ _ _ h => h) (yieldsIf_load_mid (by kernel_rfl) 30 (.tmp 18) rfl g (off + k * 38) rfl CX _ (fun w hSw => hSw.1) ut rfl iX) (by assumption) ?_
            try simp only [Act.put, List.setIfInBounds_toArray, List.set_cons_zero, List.set_cons_succ]
            refine take_h 4 ?_ rfl (by kernel_rfl) (by kernel_rfl) (by kernel_rfl) (fun _ _ _ h => h) (Or.inl ⟨by kernel_rfl, ?_⟩) (by assumption) ?_
            rotate_left
            · (intro w hSw; (try dsimp only at hSw); go_simp; try (with_reducible rfl))
            try simp only [Act.put, List.setIfInBounds_toArray, List.set_cons_zero, List.set_cons_succ]
            refine take_h 5 ?_ rfl (by kernel_rfl) (by kernel_rfl) (by kernel_rfl) (fun _ _ _ h => h) (Or.inl ⟨by kernel_rfl, ?_⟩) (by assumption) ?_
            rotate_left
            · (intro w hSw; (try dsimp only at hSw); go_simp; try (with_reducible rfl))
            try simp only [Act.put, List.setIfInBounds_toArray, List.set_cons_zero, List.set_cons_succ]
            refine take_h 6 ?_ rfl (by kernel_rfl) (by kernel_rfl) (by kernel_rfl) (fun _ _ _ h => h) (Or.inl ⟨by kernel_rfl, ?_⟩) (by assumption) ?_
            rotate_left
            · (intro w hSw; (try dsimp only at hSw); go_simp; try (with_reducible rfl))
            try simp only [Act.put, List.setIfInBounds_toArray, List.set_cons_zero, List.set_cons_succ]
            refine take_h 7 _ rfl (by kernel_rfl) (by kernel_rfl) (by kernel_rfl) (fun _ _ _ h => h) (yieldsIf_load_mid (by kernel_rfl) 30 (.tmp 22) rfl g2 (off2 + k * 38) rfl CY _ (fun w hSw => hSw.2) ut rfl iY) (by assumption) ?_
            try simp only [Act.put, List.setIfInBounds_toArray, List.set_cons_zero, List.set_cons_succ]
            refine take_h 8 ?_ rfl (by kernel_rfl) (by kernel_rfl) (by kernel_rfl) (fun _ _ _ h => h) (Or.inl ⟨by kernel_rfl, ?_⟩) (by assumption) ?_
            rotate_left
            · (intro w hSw; (try dsimp only at hSw); go_simp; try (with_reducible rfl))
            try simp only [Act.put, List.setIfInBounds_toArray, List.set_cons_zero, List.set_cons_succ]
            refine wpAnyH_done (by kernel_rfl) ?_ _
            clear hHeld
            cases t with
            | true =>
              have HN : Seal (Below w.heap.size w V ∧ ∀ j, j < k + 1 → L[j]? = M[j]?) := ⟨HV.out, fun j hj => by
                rcases Nat.lt_or_ge j k with h | h
                · exact hH.out.2 j h
                · obtain rfl : j = k := by omega
                  have := HTt.out
                  rw [HX.out.1, HX.out.2, of_decide_eq_true this.symm]⟩
              clear hH
              go_wp2
              go_roundw
              case rel => exact ⟨k + 1, by omega, by go_num, HN⟩
              case measure => simp [intOf]; omega
            | false =>
              have HF : Seal (R = false) := ⟨by
                rw [HR.out, decide_eq_false_iff_not]
                rintro rfl
                have := HX.out
                rw [this.1] at this
                have h2 := Option.some.inj this.2
                exact of_decide_eq_false HTt.out.symm h2⟩
              clear hH
              go_wp2
              go_ret
              exact ⟨by rw [HF.out]; rfl, HV.out⟩
      · obtain rfl : k = n := by omega
        have q5 : ¬ (k : Int) < (k : Int) := by omega
        have HF : Seal (R = true) := ⟨by
          rw [HR.out, decide_eq_true_iff]
          exact HLM.out.1 fun j hj => hH.out.2 j (by omega)⟩
        have HBw := Seal.mk hH.out.1
        clear hH
        go_wp2
        go_ret
        exact ⟨by rw [HF.out]; rfl, HBw.out⟩
  · have HF : Seal (decide (L = M) = false) := ⟨by
      rw [decide_eq_false_iff_not]
      rintro rfl
      omega⟩
    obtain ⟨R, hR⟩ : ∃ R, R = decide (L = M) := ⟨_, rfl⟩
    rw [← hR] at HF ⊢
    have q0 : ((n : Int) != (m : Int)) = true := by rw [bne_iff_ne]; omega
    have q1 : ¬ (n : Int) = (m : Int) := by omega
    clear ha hb hR
    go_enter Tryz.func41, Tryz.ntmps41
    go_wp2
    go_ret
    exact ⟨by rw [HF.out]; rfl, Below.refl _ _⟩
set_option maxHeartbeats 2000000 in
theorem rsameK_any (a b : Option Addr) (n c m d : Nat) (L M : List Ltr) (w : World) (ha : IsC Ltr.C 38 w a n c L) (hb : IsC Ltr.C 38 w b m d M) (h1 : ∀ x ∈ L, x.T.length = 32) (h2 : ∀ x ∈ M, x.T.length = 32) :
    Calls Tryz.prog 14 #[.slice a n c, .slice b m d] w fun e w' => e = .returned (.bool (decide (L = M))) ∧ Below w.heap.size w w' := by
  have hll := ha.llen
  have hmm := hb.llen
  have hmx := ha.lmax
  by_cases hnm : n = m
  · subst hnm
    have HA := Seal.mk (And.intro ha hb)
    have H32 := Seal.mk (And.intro h1 h2)
    obtain ⟨R, hR⟩ : ∃ R, R = decide (L = M) := ⟨_, rfl⟩
    have HR := Seal.mk hR
    have HLM := Seal.mk (eq_lists (l := L) (m := M) (by omega))
    have q0 : ((n : Int) != (n : Int)) = false := by simp
    have ut := Tryz.underlying30
    rw [← hR]
    clear ha hb hR
    go_enter Tryz.func14, Tryz.ntmps14
    go_wp2
    go_loopw [5] (fun i wr => ∃ (k : Nat), k ≤ n ∧ i = .int .i64 k ∧ Seal (Below w.heap.size w wr ∧ ∀ j, j < k → L[j]? = M[j]?)) (fun i _ => n - (intOf i).toNat)
    case atStart => exact ⟨0, by omega, rfl, ⟨Below.refl _ _, fun j h => by omega⟩⟩
    case round =>
      obtain ⟨wo, rfl⟩ : ∃ z, z = wr := ⟨_, rfl⟩
      obtain ⟨k, hk, rfl, hH⟩ := hrel
      by_cases hlt : k < n
      · have hA := HA.out.1.below hH.out.1
        have hB := HA.out.2.below hH.out.1
        rcases hA.at_ with hz | ⟨g, off, rfl, hr, hg⟩
        · omega
        · rcases hB.at_ with hz | ⟨g2, off2, rfl, hr2, hg2⟩
          · omega
          · obtain ⟨x, hx⟩ : ∃ x, L[k]? = some x := ⟨_, List.getElem?_eq_getElem (by omega)⟩
            obtain ⟨y, hy⟩ : ∃ y, M[k]? = some y := ⟨_, List.getElem?_eq_getElem (by omega)⟩
            have q5 : (k : Int) < (n : Int) := by omega
            have q6 : (0 : Int) ≤ (k : Int) := by omega
            have HX := Seal.mk (And.intro hx hy)
            obtain ⟨t, ht⟩ : ∃ t, t = decide (x = y) := ⟨_, rfl⟩
            have HTt := Seal.mk ht
            have rX := rangeC_row hr hA.each hx
            have rY := rangeC_row hr2 hB.each hy
            have x32 := H32.out.1 x (List.mem_of_getElem? hx)
            have y32 := H32.out.2 y (List.mem_of_getElem? hy)
            obtain ⟨CX, hCX⟩ : ∃ C, C = x.C := ⟨_, rfl⟩
            obtain ⟨CY, hCY⟩ : ∃ C, C = y.C := ⟨_, rfl⟩
            have qe : ∀ w, (Op.equalIn 10000 30 (.agg CX.toArray) (.agg CY.toArray)).run Tryz.prog w = .ok t w := fun w => by rw [hCX, hCY, ht]; exact eqKt x y x32 y32 w
            have iX : (Tryz.prog.info? 30).map (·.size) = some CX.length := by rw [hCX]; exact Ltr.info x32
            have iY : (Tryz.prog.info? 30).map (·.size) = some CY.length := by rw [hCY]; exact Ltr.info y32
            rw [← hCX] at rX
            rw [← hCY] at rY
            clear hA hB hr hg hr2 hg2 hx hy x32 y32 hCX hCY ht
            go_wp2_with fail
            refine wp_region_held_drew (S := fun w' => w'.rangeAt g (off + k * 38) CX ∧ w'.rangeAt g2 (off2 + k * 38) CY) (by kernel_rfl) ⟨rX, rY⟩ (fun hHeld => ?_)
            clear rX rY
            have HV : Seal (Below w.heap.size w wo.drew) := ⟨hH.out.1.trans ((below_drewn_o wo).mono hH.out.1.size)⟩
            obtain ⟨V, hV⟩ : ∃ V, V = wo.drew := ⟨_, rfl⟩
            rw [← hV] at hHeld HV ⊢
            clear hV
            refine take_h 0 ?_ rfl (by kernel_rfl) (by kernel_rfl) (by kernel_rfl) (fun _ _ _ h => h) (Or.inl ⟨by kernel_rfl, ?_⟩) (by assumption) ?_
            rotate_left
            · (intro w hSw; (try dsimp only at hSw); go_simp; try (with_reducible rfl))
            try simp only [Act.put, List.setIfInBounds_toArray, List.set_cons_zero, List.set_cons_succ]
            refine take_h 1 ?_ rfl (by kernel_rfl) (by kernel_rfl) (by kernel_rfl) (fun _ _ _ h => h) (Or.inl ⟨by kernel_rfl, ?_⟩) (by assumption) ?_
            rotate_left
            · (intro w hSw; (try dsimp only at hSw); go_simp; try (with_reducible rfl))
            try simp only [Act.put, List.setIfInBounds_toArray, List.set_cons_zero, List.set_cons_succ]
            refine take_h 2 ?_ rfl (by kernel_rfl) (by kernel_rfl) (by kernel_rfl) (fun _ _ _ h => h) (Or.inl ⟨by kernel_rfl, ?_⟩) (by assumption) ?_
            rotate_left
            · (intro w hSw; (try dsimp only at hSw); go_simp; try (with_reducible rfl))
            try simp only [Act.put, List.setIfInBounds_toArray, List.set_cons_zero, List.set_cons_succ]
            refine take_h 3 _ rfl (by kernel_rfl) (by kernel_rfl) (by kernel_rfl) (fun _ _ _ h => h) (yieldsIf_load_mid (by kernel_rfl) 30 (.tmp 19) rfl g (off + k * 38) rfl CX _ (fun w hSw => hSw.1) ut rfl iX) (by assumption) ?_
            try simp only [Act.put, List.setIfInBounds_toArray, List.set_cons_zero, List.set_cons_succ]
            refine take_h 4 ?_ rfl (by kernel_rfl) (by kernel_rfl) (by kernel_rfl) (fun _ _ _ h => h) (Or.inl ⟨by kernel_rfl, ?_⟩) (by assumption) ?_
            rotate_left
            · (intro w hSw; (try dsimp only at hSw); go_simp; try (with_reducible rfl))
            try simp only [Act.put, List.setIfInBounds_toArray, List.set_cons_zero, List.set_cons_succ]
            refine take_h 5 ?_ rfl (by kernel_rfl) (by kernel_rfl) (by kernel_rfl) (fun _ _ _ h => h) (Or.inl ⟨by kernel_rfl, ?_⟩) (by assumption) ?_
            rotate_left
            · (intro w hSw; (try dsimp only at hSw); go_simp; try (with_reducible rfl))
            try simp only [Act.put, List.setIfInBounds_toArray, List.set_cons_zero, List.set_cons_succ]
            refine take_h 6 ?_ rfl (by kernel_rfl) (by kernel_rfl) (by kernel_rfl) (fun _ _ _ h => h) (Or.inl ⟨by kernel_rfl, ?_⟩) (by assumption) ?_
            rotate_left
            · (intro w hSw; (try dsimp only at hSw); go_simp; try (with_reducible rfl))
            try simp only [Act.put, List.setIfInBounds_toArray, List.set_cons_zero, List.set_cons_succ]
            refine take_h 7 _ rfl (by kernel_rfl) (by kernel_rfl) (by kernel_rfl) (fun _ _ _ h => h) (yieldsIf_load_mid (by kernel_rfl) 30 (.tmp 23) rfl g2 (off2 + k * 38) rfl CY _ (fun w hSw => hSw.2) ut rfl iY) (by assumption) ?_
            try simp only [Act.put, List.setIfInBounds_toArray, List.set_cons_zero, List.set_cons_succ]
            refine take_h 8 ?_ rfl (by kernel_rfl) (by kernel_rfl) (by kernel_rfl) (fun _ _ _ h => h) (Or.inl ⟨by kernel_rfl, ?_⟩) (by assumption) ?_
            rotate_left
            · (intro w hSw; (try dsimp only at hSw); go_simp; try (with_reducible rfl))
            try simp only [Act.put, List.setIfInBounds_toArray, List.set_cons_zero, List.set_cons_succ]
            refine wpAnyH_done (by kernel_rfl) ?_ _
            clear hHeld
            cases t with
            | true =>
              have HN : Seal (Below w.heap.size w V ∧ ∀ j, j < k + 1 → L[j]? = M[j]?) := ⟨HV.out, fun j hj => by
                rcases Nat.lt_or_ge j k with h | h
                · exact hH.out.2 j h
                · obtain rfl : j = k := by omega
                  have := HTt.out
                  rw [HX.out.1, HX.out.2, of_decide_eq_true this.symm]⟩
              clear hH
              go_wp2
              go_roundw
              case rel => exact ⟨k + 1, by omega, by go_num, HN⟩
              case measure => simp [intOf]; omega
            | false =>
              have HF : Seal (R = false) := ⟨by
                rw [HR.out, decide_eq_false_iff_not]
                rintro rfl
                have := HX.out
                rw [this.1] at this
                have h2 := Option.some.inj this.2
                exact of_decide_eq_false HTt.out.symm h2⟩
              clear hH
              go_wp2
              go_ret
              exact ⟨by rw [HF.out]; rfl, HV.out⟩
      · obtain rfl : k = n := by omega
        have q5 : ¬ (k : Int) < (k : Int) := by omega
        have HF : Seal (R = true) := ⟨by
          rw [HR.out, decide_eq_true_iff]
          exact HLM.out.1 fun j hj => hH.out.2 j (by omega)⟩
        have HBw := Seal.mk hH.out.1
        clear hH
        go_wp2
        go_ret
        exact ⟨by rw [HF.out]; rfl, HBw.out⟩
  · have HF : Seal (decide (L = M) = false) := ⟨by
      rw [decide_eq_false_iff_not]
      rintro rfl
      omega⟩
    obtain ⟨R, hR⟩ : ∃ R, R = decide (L = M) := ⟨_, rfl⟩
    rw [← hR] at HF ⊢
    have q0 : ((n : Int) != (m : Int)) = true := by rw [bne_iff_ne]; omega
    have q1 : ¬ (n : Int) = (m : Int) := by omega
    clear ha hb hR
    go_enter Tryz.func14, Tryz.ntmps14
    go_wp2
    go_ret
    exact ⟨by rw [HF.out]; rfl, Below.refl _ _⟩
set_option maxHeartbeats 2000000 in
theorem ieq_any (a b : Option Addr) (n c m d : Nat) (L M : List Int) (w : World) (ha : IsC intC 1 w a n c L) (hb : IsC intC 1 w b m d M)  :
    Calls Tryz.prog 42 #[.slice a n c, .slice b m d] w fun e w' => e = .returned (.bool (decide (L = M))) ∧ Below w.heap.size w w' := by
  have hll := ha.llen
  have hmm := hb.llen
  have hmx := ha.lmax
  by_cases hnm : n = m
  · subst hnm
    have HA := Seal.mk (And.intro ha hb)
    have H32 := Seal.mk trivial
    obtain ⟨R, hR⟩ : ∃ R, R = decide (L = M) := ⟨_, rfl⟩
    have HR := Seal.mk hR
    have HLM := Seal.mk (eq_lists (l := L) (m := M) (by omega))
    have q0 : ((n : Int) != (n : Int)) = false := by simp
    have ut := Tryz.underlying3
    rw [← hR]
    clear ha hb hR
    go_enter Tryz.func42, Tryz.ntmps42
    go_wp2
    go_loopw [13] (fun i wr => ∃ (k : Nat), k ≤ n ∧ i = .int .i64 k ∧ Seal (Below w.heap.size w wr ∧ ∀ j, j < k → L[j]? = M[j]?)) (fun i _ => n - (intOf i).toNat)
    case atStart => exact ⟨0, by omega, rfl, ⟨Below.refl _ _, fun j h => by omega⟩⟩
    case round =>
      obtain ⟨wo, rfl⟩ : ∃ z, z = wr := ⟨_, rfl⟩
      obtain ⟨k, hk, rfl, hH⟩ := hrel
      by_cases hlt : k < n
      · have hA := HA.out.1.below hH.out.1
        have hB := HA.out.2.below hH.out.1
        rcases hA.at_ with hz | ⟨g, off, rfl, hr, hg⟩
        · omega
        · rcases hB.at_ with hz | ⟨g2, off2, rfl, hr2, hg2⟩
          · omega
          · obtain ⟨x, hx⟩ : ∃ x, L[k]? = some x := ⟨_, List.getElem?_eq_getElem (by omega)⟩
            obtain ⟨y, hy⟩ : ∃ y, M[k]? = some y := ⟨_, List.getElem?_eq_getElem (by omega)⟩
            have q5 : (k : Int) < (n : Int) := by omega
            have q6 : (0 : Int) ≤ (k : Int) := by omega
            have HX := Seal.mk (And.intro hx hy)
            obtain ⟨t, ht⟩ : ∃ t, t = decide (x = y) := ⟨_, rfl⟩
            have HTt := Seal.mk ht
            have c2 : wo.cell? ⟨g, off + k, none⟩ = some (.int .i64 x) := by have := rangeC_row hr hA.each hx 0 (.int .i64 x) rfl; simpa using this
            have c3 : wo.cell? ⟨g2, off2 + k, none⟩ = some (.int .i64 y) := by have := rangeC_row hr2 hB.each hy 0 (.int .i64 y) rfl; simpa using this
            have qt : (x != y) = !t := by rw [ht]; by_cases h : x = y <;> simp [h]
            have qt2 : decide (x = y) = t := ht.symm
            clear hA hB hr hg hr2 hg2 hx hy
            go_wp2_with fail
            refine wp_region_held_drew (S := fun w' => w'.cell? ⟨g, off + k, none⟩ = some (.int .i64 x) ∧ w'.cell? ⟨g2, off2 + k, none⟩ = some (.int .i64 y)) (by kernel_rfl) ⟨c2, c3⟩ (fun hHeld => ?_)
            clear c2 c3 ht
            have HV : Seal (Below w.heap.size w wo.drew) := ⟨hH.out.1.trans ((below_drewn_o wo).mono hH.out.1.size)⟩
            obtain ⟨V, hV⟩ : ∃ V, V = wo.drew := ⟨_, rfl⟩
            rw [← hV] at hHeld HV ⊢
            clear hV
            refine take_h 0 ?_ rfl (by kernel_rfl) (by kernel_rfl) (by kernel_rfl) (fun _ _ _ h => h) (Or.inl ⟨by kernel_rfl, ?_⟩) (by assumption) ?_
            rotate_left
            · (intro w hSw; (try dsimp only at hSw); go_simp; try (with_reducible rfl))
            try simp only [Act.put, List.setIfInBounds_toArray, List.set_cons_zero, List.set_cons_succ]
            refine take_h 1 ?_ rfl (by kernel_rfl) (by kernel_rfl) (by kernel_rfl) (fun _ _ _ h => h) (Or.inl ⟨by kernel_rfl, ?_⟩) (by assumption) ?_
            rotate_left
            · (intro w hSw; (try dsimp only at hSw); go_simp; try (with_reducible rfl))
            try simp only [Act.put, List.setIfInBounds_toArray, List.set_cons_zero, List.set_cons_succ]
            refine take_h 2 ?_ rfl (by kernel_rfl) (by kernel_rfl) (by kernel_rfl) (fun _ _ _ h => h) (Or.inl ⟨by kernel_rfl, ?_⟩) (by assumption) ?_
            rotate_left
            · (intro w hSw; (try dsimp only at hSw); go_simp; try (with_reducible rfl))
            try simp only [Act.put, List.setIfInBounds_toArray, List.set_cons_zero, List.set_cons_succ]
            refine take_h 3 ?_ rfl (by kernel_rfl) (by kernel_rfl) (by kernel_rfl) (fun _ _ _ h => h) (Or.inl ⟨by kernel_rfl, ?_⟩) (by assumption) ?_
            rotate_left
            · (intro w hSw; (try dsimp only at hSw); go_simp; try (with_reducible rfl))
            try simp only [Act.put, List.setIfInBounds_toArray, List.set_cons_zero, List.set_cons_succ]
            refine take_h 4 ?_ rfl (by kernel_rfl) (by kernel_rfl) (by kernel_rfl) (fun _ _ _ h => h) (Or.inl ⟨by kernel_rfl, ?_⟩) (by assumption) ?_
            rotate_left
            · (intro w hSw; (try dsimp only at hSw); go_simp; try (with_reducible rfl))
            try simp only [Act.put, List.setIfInBounds_toArray, List.set_cons_zero, List.set_cons_succ]
            refine take_h 5 ?_ rfl (by kernel_rfl) (by kernel_rfl) (by kernel_rfl) (fun _ _ _ h => h) (Or.inl ⟨by kernel_rfl, ?_⟩) (by assumption) ?_
            rotate_left
            · (intro w hSw; (try dsimp only at hSw); go_simp; try (with_reducible rfl))
            try simp only [Act.put, List.setIfInBounds_toArray, List.set_cons_zero, List.set_cons_succ]
            refine take_h 6 ?_ rfl (by kernel_rfl) (by kernel_rfl) (by kernel_rfl) (fun _ _ _ h => h) (Or.inl ⟨by kernel_rfl, ?_⟩) (by assumption) ?_
            rotate_left
            · (intro w hSw; (try dsimp only at hSw); go_simp; try (with_reducible rfl))
            try simp only [Act.put, List.setIfInBounds_toArray, List.set_cons_zero, List.set_cons_succ]
            refine take_h 7 ?_ rfl (by kernel_rfl) (by kernel_rfl) (by kernel_rfl) (fun _ _ _ h => h) (Or.inl ⟨by kernel_rfl, ?_⟩) (by assumption) ?_
            rotate_left
            · (intro w hSw; (try dsimp only at hSw); go_simp; try (with_reducible rfl))
            try simp only [Act.put, List.setIfInBounds_toArray, List.set_cons_zero, List.set_cons_succ]
            refine take_h 8 ?_ rfl (by kernel_rfl) (by kernel_rfl) (by kernel_rfl) (fun _ _ _ h => h) (Or.inl ⟨by kernel_rfl, ?_⟩) (by assumption) ?_
            rotate_left
            · (intro w hSw; (try dsimp only at hSw); go_simp; try (with_reducible rfl))
            try simp only [Act.put, List.setIfInBounds_toArray, List.set_cons_zero, List.set_cons_succ]
            refine wpAnyH_done (by kernel_rfl) ?_ _
            clear hHeld
            cases t with
            | true =>
              have HN : Seal (Below w.heap.size w V ∧ ∀ j, j < k + 1 → L[j]? = M[j]?) := ⟨HV.out, fun j hj => by
                rcases Nat.lt_or_ge j k with h | h
                · exact hH.out.2 j h
                · obtain rfl : j = k := by omega
                  have := HTt.out
                  rw [HX.out.1, HX.out.2, of_decide_eq_true this.symm]⟩
              clear hH
              go_wp2
              go_roundw
              case rel => exact ⟨k + 1, by omega, by go_num, HN⟩
              case measure => simp [intOf]; omega
            | false =>
              have HF : Seal (R = false) := ⟨by
                rw [HR.out, decide_eq_false_iff_not]
                rintro rfl
                have := HX.out
                rw [this.1] at this
                have h2 := Option.some.inj this.2
                exact of_decide_eq_false HTt.out.symm h2⟩
              clear hH
              go_wp2
              go_ret
              exact ⟨by rw [HF.out]; rfl, HV.out⟩
      · obtain rfl : k = n := by omega
        have q5 : ¬ (k : Int) < (k : Int) := by omega
        have HF : Seal (R = true) := ⟨by
          rw [HR.out, decide_eq_true_iff]
          exact HLM.out.1 fun j hj => hH.out.2 j (by omega)⟩
        have HBw := Seal.mk hH.out.1
        clear hH
        go_wp2
        go_ret
        exact ⟨by rw [HF.out]; rfl, HBw.out⟩
  · have HF : Seal (decide (L = M) = false) := ⟨by
      rw [decide_eq_false_iff_not]
      rintro rfl
      omega⟩
    obtain ⟨R, hR⟩ : ∃ R, R = decide (L = M) := ⟨_, rfl⟩
    rw [← hR] at HF ⊢
    have q0 : ((n : Int) != (m : Int)) = true := by rw [bne_iff_ne]; omega
    have q1 : ¬ (n : Int) = (m : Int) := by omega
    clear ha hb hR
    go_enter Tryz.func42, Tryz.ntmps42
    go_wp2
    go_ret
    exact ⟨by rw [HF.out]; rfl, Below.refl _ _⟩
set_option maxHeartbeats 2000000 in
theorem rsameI_any (a b : Option Addr) (n c m d : Nat) (L M : List Int) (w : World) (ha : IsC intC 1 w a n c L) (hb : IsC intC 1 w b m d M)  :
    Calls Tryz.prog 25 #[.slice a n c, .slice b m d] w fun e w' => e = .returned (.bool (decide (L = M))) ∧ Below w.heap.size w w' := by
  have hll := ha.llen
  have hmm := hb.llen
  have hmx := ha.lmax
  by_cases hnm : n = m
  · subst hnm
    have HA := Seal.mk (And.intro ha hb)
    have H32 := Seal.mk trivial
    obtain ⟨R, hR⟩ : ∃ R, R = decide (L = M) := ⟨_, rfl⟩
    have HR := Seal.mk hR
    have HLM := Seal.mk (eq_lists (l := L) (m := M) (by omega))
    have q0 : ((n : Int) != (n : Int)) = false := by simp
    have ut := Tryz.underlying3
    rw [← hR]
    clear ha hb hR
    go_enter Tryz.func25, Tryz.ntmps25
    go_wp2
    go_loopw [5] (fun i wr => ∃ (k : Nat), k ≤ n ∧ i = .int .i64 k ∧ Seal (Below w.heap.size w wr ∧ ∀ j, j < k → L[j]? = M[j]?)) (fun i _ => n - (intOf i).toNat)
    case atStart => exact ⟨0, by omega, rfl, ⟨Below.refl _ _, fun j h => by omega⟩⟩
    case round =>
      obtain ⟨wo, rfl⟩ : ∃ z, z = wr := ⟨_, rfl⟩
      obtain ⟨k, hk, rfl, hH⟩ := hrel
      by_cases hlt : k < n
      · have hA := HA.out.1.below hH.out.1
        have hB := HA.out.2.below hH.out.1
        rcases hA.at_ with hz | ⟨g, off, rfl, hr, hg⟩
        · omega
        · rcases hB.at_ with hz | ⟨g2, off2, rfl, hr2, hg2⟩
          · omega
          · obtain ⟨x, hx⟩ : ∃ x, L[k]? = some x := ⟨_, List.getElem?_eq_getElem (by omega)⟩
            obtain ⟨y, hy⟩ : ∃ y, M[k]? = some y := ⟨_, List.getElem?_eq_getElem (by omega)⟩
            have q5 : (k : Int) < (n : Int) := by omega
            have q6 : (0 : Int) ≤ (k : Int) := by omega
            have HX := Seal.mk (And.intro hx hy)
            obtain ⟨t, ht⟩ : ∃ t, t = decide (x = y) := ⟨_, rfl⟩
            have HTt := Seal.mk ht
            have c2 : wo.cell? ⟨g, off + k, none⟩ = some (.int .i64 x) := by have := rangeC_row hr hA.each hx 0 (.int .i64 x) rfl; simpa using this
            have c3 : wo.cell? ⟨g2, off2 + k, none⟩ = some (.int .i64 y) := by have := rangeC_row hr2 hB.each hy 0 (.int .i64 y) rfl; simpa using this
            have qt : (x != y) = !t := by rw [ht]; by_cases h : x = y <;> simp [h]
            have qt2 : decide (x = y) = t := ht.symm
            clear hA hB hr hg hr2 hg2 hx hy
            go_wp2_with fail
            refine wp_region_held_drew (S := fun w' => w'.cell? ⟨g, off + k, none⟩ = some (.int .i64 x) ∧ w'.cell? ⟨g2, off2 + k, none⟩ = some (.int .i64 y)) (by kernel_rfl) ⟨c2, c3⟩ (fun hHeld => ?_)
            clear c2 c3 ht
            have HV : Seal (Below w.heap.size w wo.drew) := ⟨hH.out.1.trans ((below_drewn_o wo).mono hH.out.1.size)⟩
            obtain ⟨V, hV⟩ : ∃ V, V = wo.drew := ⟨_, rfl⟩
            rw [← hV] at hHeld HV ⊢
            clear hV
            refine take_h 0 ?_ rfl (by kernel_rfl) (by kernel_rfl) (by kernel_rfl) (fun _ _ _ h => h) (Or.inl ⟨by kernel_rfl, ?_⟩) (by assumption) ?_
            rotate_left
            · (intro w hSw; (try dsimp only at hSw); go_simp; try (with_reducible rfl))
            try simp only [Act.put, List.setIfInBounds_toArray, List.set_cons_zero, List.set_cons_succ]
            refine take_h 1 ?_ rfl (by kernel_rfl) (by kernel_rfl) (by kernel_rfl) (fun _ _ _ h => h) (Or.inl ⟨by kernel_rfl, ?_⟩) (by assumption) ?_
            rotate_left
            · (intro w hSw; (try dsimp only at hSw); go_simp; try (with_reducible rfl))
            try simp only [Act.put, List.setIfInBounds_toArray, List.set_cons_zero, List.set_cons_succ]
            refine take_h 2 ?_ rfl (by kernel_rfl) (by kernel_rfl) (by kernel_rfl) (fun _ _ _ h => h) (Or.inl ⟨by kernel_rfl, ?_⟩) (by assumption) ?_
            rotate_left
            · (intro w hSw; (try dsimp only at hSw); go_simp; try (with_reducible rfl))
            try simp only [Act.put, List.setIfInBounds_toArray, List.set_cons_zero, List.set_cons_succ]
            refine take_h 3 ?_ rfl (by kernel_rfl) (by kernel_rfl) (by kernel_rfl) (fun _ _ _ h => h) (Or.inl ⟨by kernel_rfl, ?_⟩) (by assumption) ?_
            rotate_left
            · (intro w hSw; (try dsimp only at hSw); go_simp; try (with_reducible rfl))
            try simp only [Act.put, List.setIfInBounds_toArray, List.set_cons_zero, List.set_cons_succ]
            refine take_h 4 ?_ rfl (by kernel_rfl) (by kernel_rfl) (by kernel_rfl) (fun _ _ _ h => h) (Or.inl ⟨by kernel_rfl, ?_⟩) (by assumption) ?_
            rotate_left
            · (intro w hSw; (try dsimp only at hSw); go_simp; try (with_reducible rfl))
            try simp only [Act.put, List.setIfInBounds_toArray, List.set_cons_zero, List.set_cons_succ]
            refine take_h 5 ?_ rfl (by kernel_rfl) (by kernel_rfl) (by kernel_rfl) (fun _ _ _ h => h) (Or.inl ⟨by kernel_rfl, ?_⟩) (by assumption) ?_
            rotate_left
            · (intro w hSw; (try dsimp only at hSw); go_simp; try (with_reducible rfl))
            try simp only [Act.put, List.setIfInBounds_toArray, List.set_cons_zero, List.set_cons_succ]
            refine take_h 6 ?_ rfl (by kernel_rfl) (by kernel_rfl) (by kernel_rfl) (fun _ _ _ h => h) (Or.inl ⟨by kernel_rfl, ?_⟩) (by assumption) ?_
            rotate_left
            · (intro w hSw; (try dsimp only at hSw); go_simp; try (with_reducible rfl))
            try simp only [Act.put, List.setIfInBounds_toArray, List.set_cons_zero, List.set_cons_succ]
            refine take_h 7 ?_ rfl (by kernel_rfl) (by kernel_rfl) (by kernel_rfl) (fun _ _ _ h => h) (Or.inl ⟨by kernel_rfl, ?_⟩) (by assumption) ?_
            rotate_left
            · (intro w hSw; (try dsimp only at hSw); go_simp; try (with_reducible rfl))
            try simp only [Act.put, List.setIfInBounds_toArray, List.set_cons_zero, List.set_cons_succ]
            refine take_h 8 ?_ rfl (by kernel_rfl) (by kernel_rfl) (by kernel_rfl) (fun _ _ _ h => h) (Or.inl ⟨by kernel_rfl, ?_⟩) (by assumption) ?_
            rotate_left
            · (intro w hSw; (try dsimp only at hSw); go_simp; try (with_reducible rfl))
            try simp only [Act.put, List.setIfInBounds_toArray, List.set_cons_zero, List.set_cons_succ]
            refine wpAnyH_done (by kernel_rfl) ?_ _
            clear hHeld
            cases t with
            | true =>
              have HN : Seal (Below w.heap.size w V ∧ ∀ j, j < k + 1 → L[j]? = M[j]?) := ⟨HV.out, fun j hj => by
                rcases Nat.lt_or_ge j k with h | h
                · exact hH.out.2 j h
                · obtain rfl : j = k := by omega
                  have := HTt.out
                  rw [HX.out.1, HX.out.2, of_decide_eq_true this.symm]⟩
              clear hH
              go_wp2
              go_roundw
              case rel => exact ⟨k + 1, by omega, by go_num, HN⟩
              case measure => simp [intOf]; omega
            | false =>
              have HF : Seal (R = false) := ⟨by
                rw [HR.out, decide_eq_false_iff_not]
                rintro rfl
                have := HX.out
                rw [this.1] at this
                have h2 := Option.some.inj this.2
                exact of_decide_eq_false HTt.out.symm h2⟩
              clear hH
              go_wp2
              go_ret
              exact ⟨by rw [HF.out]; rfl, HV.out⟩
      · obtain rfl : k = n := by omega
        have q5 : ¬ (k : Int) < (k : Int) := by omega
        have HF : Seal (R = true) := ⟨by
          rw [HR.out, decide_eq_true_iff]
          exact HLM.out.1 fun j hj => hH.out.2 j (by omega)⟩
        have HBw := Seal.mk hH.out.1
        clear hH
        go_wp2
        go_ret
        exact ⟨by rw [HF.out]; rfl, HBw.out⟩
  · have HF : Seal (decide (L = M) = false) := ⟨by
      rw [decide_eq_false_iff_not]
      rintro rfl
      omega⟩
    obtain ⟨R, hR⟩ : ∃ R, R = decide (L = M) := ⟨_, rfl⟩
    rw [← hR] at HF ⊢
    have q0 : ((n : Int) != (m : Int)) = true := by rw [bne_iff_ne]; omega
    have q1 : ¬ (n : Int) = (m : Int) := by omega
    clear ha hb hR
    go_enter Tryz.func25, Tryz.ntmps25
    go_wp2
    go_ret
    exact ⟨by rw [HF.out]; rfl, Below.refl _ _⟩
end Frk
