/- Law 44's reference: SameInts, Same at equals. -/
import Derived.Test.YtnpnboldjbljaaaDoorVfgRin
import Derived.Test.YtnpnboldjbljaaaDoorVfDeq
import Derived.Test.YtnpnboldjbljaaaDoorVfRpv
namespace Frk
open Go Go.RowKit Go.Proofs
set_option maxRecDepth 100000

set_option maxHeartbeats 2000000 in
theorem rsameI_eq (a b : Option Addr) (n c m d : Nat) (L M : List Int) (w : World) (ha : IsIs w a n c L) (hb : IsIs w b m d M) (e : L = M) :
    Calls Tryd.prog 24 #[.slice a n c, .slice b m d] w fun e w' => e = .returned (.bool true) ∧ Below w.heap.size w w' := by
  subst e
  obtain rfl : n = m := ha.llen.symm.trans hb.llen
  have hll := ha.llen
  have hmx := ha.lmax
  have HA := Seal.mk (And.intro ha hb)
  have q0 : ((n : Int) != (n : Int)) = false := by simp
  clear ha hb
  go_enter Tryd.func24, Tryd.ntmps24
  go_wp2
  go_loopw [5] (fun i wr => ∃ (k : Nat), k ≤ n ∧ i = .int .i64 k ∧ Seal (Below w.heap.size w wr)) (fun i _ => n - (intOf i).toNat)
  case atStart => exact ⟨0, by omega, rfl, ⟨Below.refl _ _⟩⟩
  case round =>
    obtain ⟨wo, rfl⟩ : ∃ z, z = wr := ⟨_, rfl⟩
    obtain ⟨k, hk, rfl, hH⟩ := hrel
    by_cases hlt : k < n
    · have hA := HA.out.1.below hH.out
      have hB := HA.out.2.below hH.out
      rcases hA.at_ with hz | ⟨g, off, rfl, hr, hg⟩
      · omega
      · rcases hB.at_ with hz | ⟨g2, off2, rfl, hr2, hg2⟩
        · omega
        · obtain ⟨x, hx⟩ : ∃ x, L[k]? = some x := ⟨_, List.getElem?_eq_getElem (by omega)⟩
          have c2 : wo.cell? ⟨g, off + k, none⟩ = some (.int .i64 x) := by have := rangeC_row hr hA.each hx 0 (.int .i64 x) rfl; simpa using this
          have c3 : wo.cell? ⟨g2, off2 + k, none⟩ = some (.int .i64 x) := by have := rangeC_row hr2 hB.each hx 0 (.int .i64 x) rfl; simpa using this
          have q5 : (k : Int) < (n : Int) := by omega
          have q6 : (0 : Int) ≤ (k : Int) := by omega
          clear hA hB hr hg hr2 hg2 hx
          go_wp2_with fail
          refine wp_region_held_drew (S := fun w' => w'.cell? ⟨g, off + k, none⟩ = some (.int .i64 x) ∧ w'.cell? ⟨g2, off2 + k, none⟩ = some (.int .i64 x)) (by kernel_rfl) ⟨c2, c3⟩ (fun hHeld => ?_)
          have HV : Seal (Below w.heap.size w wo.drew) := ⟨hH.out.trans ((below_drewn wo).mono hH.out.size)⟩
          obtain ⟨V, hV⟩ : ∃ V, V = wo.drew := ⟨_, rfl⟩
          rw [← hV] at hHeld HV ⊢
          clear hV c2 c3 hH
          refine take_h 0 ?_ rfl (by kernel_rfl) (by kernel_rfl) (by kernel_rfl) (fun _ _ _ h => h) (Or.inl ⟨by kernel_rfl, ?_⟩) (by assumption) ?_
          rotate_left
          · (intro w hSw; (try dsimp only at hSw); go_simp; try (with_reducible rfl))
          try simp only [Act.put, List.setIfInBounds_toArray, List.set_cons_zero, List.set_cons_succ]
          refine take_h 1 ?_ rfl (by kernel_rfl) (by kernel_rfl) (by kernel_rfl) (fun _ _ _ h => h) (Or.inl ⟨by kernel_rfl, ?_⟩) (by assumption) ?_
          rotate_left
          · (intro w hSw; (try dsimp only at hSw); go_simp; try (with_reducible rfl))
          try simp only [Act.put, List.setIfInBounds_toArray, List.set_cons_zero, List.set_cons_succ]
          refine take_h 2 ?_ rfl (by kernel_rfl) (by kernel_rfl) (by kernel_rfl) (fun _ _ _ h => h) (Or.inl ⟨by kernel_rfl, ?_⟩) (by assumption) ?_
          rotate_left
          · (intro w hSw; (try dsimp only at hSw); go_simp; try (with_reducible rfl))
          try simp only [Act.put, List.setIfInBounds_toArray, List.set_cons_zero, List.set_cons_succ]
          refine take_h 3 ?_ rfl (by kernel_rfl) (by kernel_rfl) (by kernel_rfl) (fun _ _ _ h => h) (Or.inl ⟨by kernel_rfl, ?_⟩) (by assumption) ?_
          rotate_left
          · (intro w hSw; (try dsimp only at hSw); go_simp; try (with_reducible rfl))
          try simp only [Act.put, List.setIfInBounds_toArray, List.set_cons_zero, List.set_cons_succ]
          refine take_h 4 ?_ rfl (by kernel_rfl) (by kernel_rfl) (by kernel_rfl) (fun _ _ _ h => h) (Or.inl ⟨by kernel_rfl, ?_⟩) (by assumption) ?_
          rotate_left
          · (intro w hSw; (try dsimp only at hSw); go_simp; try (with_reducible rfl))
          try simp only [Act.put, List.setIfInBounds_toArray, List.set_cons_zero, List.set_cons_succ]
          refine take_h 5 ?_ rfl (by kernel_rfl) (by kernel_rfl) (by kernel_rfl) (fun _ _ _ h => h) (Or.inl ⟨by kernel_rfl, ?_⟩) (by assumption) ?_
          rotate_left
          · (intro w hSw; (try dsimp only at hSw); go_simp; try (with_reducible rfl))
          try simp only [Act.put, List.setIfInBounds_toArray, List.set_cons_zero, List.set_cons_succ]
          refine take_h 6 ?_ rfl (by kernel_rfl) (by kernel_rfl) (by kernel_rfl) (fun _ _ _ h => h) (Or.inl ⟨by kernel_rfl, ?_⟩) (by assumption) ?_
          rotate_left
          · (intro w hSw; (try dsimp only at hSw); go_simp; try (with_reducible rfl))
          try simp only [Act.put, List.setIfInBounds_toArray, List.set_cons_zero, List.set_cons_succ]
          refine take_h 7 ?_ rfl (by kernel_rfl) (by kernel_rfl) (by kernel_rfl) (fun _ _ _ h => h) (Or.inl ⟨by kernel_rfl, ?_⟩) (by assumption) ?_
          rotate_left
          · (intro w hSw; (try dsimp only at hSw); go_simp; try (with_reducible rfl))
          try simp only [Act.put, List.setIfInBounds_toArray, List.set_cons_zero, List.set_cons_succ]
          refine take_h 8 ?_ rfl (by kernel_rfl) (by kernel_rfl) (by kernel_rfl) (fun _ _ _ h => h) (Or.inl ⟨by kernel_rfl, ?_⟩) (by assumption) ?_
          rotate_left
          · (intro w hSw; (try dsimp only at hSw); go_simp; try (with_reducible rfl))
          try simp only [Act.put, List.setIfInBounds_toArray, List.set_cons_zero, List.set_cons_succ]
          refine wpAnyH_done (by kernel_rfl) ?_ _
          clear hHeld
          go_wp2
          go_roundw
          case rel => exact ⟨k + 1, by omega, by go_num, HV⟩
          case measure => simp [intOf]; omega
    · obtain rfl : k = n := by omega
      have q5 : ¬ (k : Int) < (k : Int) := by omega
      go_wp2
      go_ret
      exact ⟨rfl, hH.out⟩

set_option maxHeartbeats 4000000 in
theorem rsame44_eq (pa ga qa ha : Option Addr) (pn pc gn gc qn qc hn hc : Nat) (D E : Dv) (w : World) (hP : IsPs w pa pn pc D.P) (h32 : ∀ x ∈ D.P, x.S.length = 32) (hG : IsIs w ga gn gc D.G) (hQ : IsPs w qa qn qc E.P) (hH' : IsIs w ha hn hc E.G) (e : D = E) :
    Calls Tryd.prog 15 #[.agg #[.slice pa pn pc, .slice ga gn gc], .agg #[.slice qa qn qc, .slice ha hn hc]] w fun e w' => e = .returned (.bool true) ∧ Below w.heap.size w w' := by
  subst e
  obtain ⟨L, hL⟩ : ∃ L, L = D.P := ⟨_, rfl⟩
  rw [← hL] at hP hQ h32
  obtain rfl : pn = qn := hP.llen.symm.trans hQ.llen
  obtain ⟨X, hX⟩ : ∃ X : World, X = (w.alloc (.cells #[.slice pa pn pc, .slice ga gn gc] 25)).alloc (.cells #[.slice qa pn qc, .slice ha hn hc] 25) := ⟨_, rfl⟩
  have HBX : Seal (Below w.heap.size w X) := ⟨by rw [hX]; exact ((Below.refl _ w).alloc (Nat.le_refl _) _).alloc (by simp) _⟩
  have hr1 : X.heap[w.heap.size]? = some (.cells #[.slice pa pn pc, .slice ga gn gc] 25 (0, 0)) := by rw [hX]; exact heap_alloc2_old w _ _
  have hr2 : X.heap[w.heap.size + 1]? = some (.cells #[.slice qa pn qc, .slice ha hn hc] 25 (0, 0)) := by rw [hX]; exact heap_alloc2_new w _ _
  have c0 : X.cell? ⟨w.heap.size, 0, none⟩ = some (.slice pa pn pc) := by rw [cell_of_row _ _ _ _ _ _ hr1]; rfl
  have c1 : X.cell? ⟨w.heap.size, 1, none⟩ = some (.slice ga gn gc) := by rw [cell_of_row _ _ _ _ _ _ hr1]; rfl
  have d0 : X.cell? ⟨w.heap.size + 1, 0, none⟩ = some (.slice qa pn qc) := by rw [cell_of_row _ _ _ _ _ _ hr2]; rfl
  have d1 : X.cell? ⟨w.heap.size + 1, 1, none⟩ = some (.slice ha hn hc) := by rw [cell_of_row _ _ _ _ _ _ hr2]; rfl
  have hll := hP.llen
  have hmx := hP.lmax
  have HA : Seal (IsPs w pa pn pc L ∧ IsPs w qa pn qc L) := ⟨hP, hQ⟩
  have H32 := Seal.mk h32
  have HC : Seal (∀ W, Below w.heap.size w W → Calls Tryd.prog 24 #[.slice ga gn gc, .slice ha hn hc] W fun e w' => e = .returned (.bool true) ∧ Below W.heap.size W w') := ⟨fun W h => rsameI_eq ga ha gn gc hn hc D.G D.G W (hG.below h) (hH'.below h) rfl⟩
  obtain ⟨gx, hgx⟩ : ∃ g, g = w.heap.size := ⟨_, rfl⟩
  rw [← hgx] at c0 c1 d0 d1
  have hgs : gx + 1 < X.heap.size := by rw [hgx]; exact (Array.getElem?_eq_some_iff.1 hr2).1
  have HGX := Seal.mk hgx
  have q0 : ((pn : Int) != (pn : Int)) = false := by simp
  have uL := Tryd.underlying31
  clear hP hQ hG hH' h32 hr1 hr2 hL
  go_enter Tryd.func15, Tryd.ntmps15
  go_upto_region 1 with (fail)
  rw [← hX, ← hgx]
  clear hX hgx
  go_wp2
  go_loopw [5] (fun i wr => ∃ (k : Nat), k ≤ pn ∧ i = .int .i64 k ∧ Seal (Below w.heap.size w wr ∧ Below X.heap.size X wr)) (fun i _ => pn - (intOf i).toNat)
  case atStart => exact ⟨0, by omega, rfl, ⟨HBX.out, Below.refl _ _⟩⟩
  case round =>
    obtain ⟨wo, rfl⟩ : ∃ z, z = wr := ⟨_, rfl⟩
    obtain ⟨k, hk, rfl, hH⟩ := hrel
    have c0 := cell_below' hH.out.2 c0
    have d0 := cell_below' hH.out.2 d0
    by_cases hlt : k < pn
    · have hA := HA.out.1.below hH.out.1
      have hB := HA.out.2.below hH.out.1
      rcases hA.at_ with hz | ⟨g, off, rfl, hr, hg⟩
      · omega
      · rcases hB.at_ with hz | ⟨g2, off2, rfl, hr2, hg2⟩
        · omega
        · obtain ⟨x, hx⟩ : ∃ x, L[k]? = some x := ⟨_, List.getElem?_eq_getElem (by omega)⟩
          have x32 := H32.out x (List.mem_of_getElem? hx)
          have rX := rangeC_row hr hA.each hx
          have rY := rangeC_row hr2 hB.each hx
          obtain ⟨C, hC⟩ : ∃ C, C = x.C := ⟨_, rfl⟩
          have qe : ∀ w, (Op.equalIn 10000 31 (.agg C.toArray) (.agg C.toArray)).run Tryd.prog w = .ok true w := fun w => by
            rw [hC, eqPo x x x32 x32, (poB_iff x x).2 rfl]
          have iC : (Tryd.prog.info? 31).map (·.size) = some C.length := by rw [hC]; exact Po.C_info x32
          rw [← hC] at rX rY
          have q5 : (k : Int) < (pn : Int) := by omega
          have q6 : (0 : Int) ≤ (k : Int) := by omega
          clear hA hB hr hg hr2 hg2 hx x32 hC
          go_wp2_with fail
          refine wp_region_held_drew (S := fun w' => w'.rangeAt g (off + k * 33) C ∧ w'.rangeAt g2 (off2 + k * 33) C ∧ w'.cell? ⟨gx, 0, none⟩ = some (.slice (some ⟨g, off, none⟩) pn pc) ∧ w'.cell? ⟨gx + 1, 0, none⟩ = some (.slice (some ⟨g2, off2, none⟩) pn qc)) (by kernel_rfl) ⟨rX, rY, c0, d0⟩ (fun hHeld => ?_)
          have HV : Seal (Below w.heap.size w wo.drew ∧ Below X.heap.size X wo.drew) := ⟨hH.out.1.trans ((below_drewn wo).mono hH.out.1.size), hH.out.2.trans ((below_drewn wo).mono hH.out.2.size)⟩
          obtain ⟨V, hV⟩ : ∃ V, V = wo.drew := ⟨_, rfl⟩
          rw [← hV] at hHeld HV ⊢
          clear hV rX rY hH
          refine take_h 0 ?_ rfl (by kernel_rfl) (by kernel_rfl) (by kernel_rfl) (fun _ _ _ h => h) (Or.inl ⟨by kernel_rfl, ?_⟩) (by assumption) ?_
          rotate_left
          · (intro w hSw; (try dsimp only at hSw); go_simp; try (with_reducible rfl))
          try simp only [Act.put, List.setIfInBounds_toArray, List.set_cons_zero, List.set_cons_succ]
          refine take_h 1 ?_ rfl (by kernel_rfl) (by kernel_rfl) (by kernel_rfl) (fun _ _ _ h => h) (Or.inl ⟨by kernel_rfl, ?_⟩) (by assumption) ?_
          rotate_left
          · (intro w hSw; (try dsimp only at hSw); go_simp; try (with_reducible rfl))
          try simp only [Act.put, List.setIfInBounds_toArray, List.set_cons_zero, List.set_cons_succ]
          refine take_h 2 ?_ rfl (by kernel_rfl) (by kernel_rfl) (by kernel_rfl) (fun _ _ _ h => h) (Or.inl ⟨by kernel_rfl, ?_⟩) (by assumption) ?_
          rotate_left
          · (intro w hSw; (try dsimp only at hSw); go_simp; try (with_reducible rfl))
          try simp only [Act.put, List.setIfInBounds_toArray, List.set_cons_zero, List.set_cons_succ]
          refine take_h 3 ?_ rfl (by kernel_rfl) (by kernel_rfl) (by kernel_rfl) (fun _ _ _ h => h) (Or.inl ⟨by kernel_rfl, ?_⟩) (by assumption) ?_
          rotate_left
          · (intro w hSw; (try dsimp only at hSw); go_simp; try (with_reducible rfl))
          try simp only [Act.put, List.setIfInBounds_toArray, List.set_cons_zero, List.set_cons_succ]
          refine take_h 4 _ rfl (by kernel_rfl) (by kernel_rfl) (by kernel_rfl) (fun _ _ _ h => h) (yieldsIf_load_mid (by kernel_rfl) 31 (.tmp 23) rfl g (off + k * 33) rfl C _ (fun w hSw => hSw.1) uL rfl iC) (by assumption) ?_
          try simp only [Act.put, List.setIfInBounds_toArray, List.set_cons_zero, List.set_cons_succ]
          refine take_h 5 ?_ rfl (by kernel_rfl) (by kernel_rfl) (by kernel_rfl) (fun _ _ _ h => h) (Or.inl ⟨by kernel_rfl, ?_⟩) (by assumption) ?_
          rotate_left
          · (intro w hSw; (try dsimp only at hSw); go_simp; try (with_reducible rfl))
          try simp only [Act.put, List.setIfInBounds_toArray, List.set_cons_zero, List.set_cons_succ]
          refine take_h 6 ?_ rfl (by kernel_rfl) (by kernel_rfl) (by kernel_rfl) (fun _ _ _ h => h) (Or.inl ⟨by kernel_rfl, ?_⟩) (by assumption) ?_
          rotate_left
          · (intro w hSw; (try dsimp only at hSw); go_simp; try (with_reducible rfl))
          try simp only [Act.put, List.setIfInBounds_toArray, List.set_cons_zero, List.set_cons_succ]
          refine take_h 7 ?_ rfl (by kernel_rfl) (by kernel_rfl) (by kernel_rfl) (fun _ _ _ h => h) (Or.inl ⟨by kernel_rfl, ?_⟩) (by assumption) ?_
          rotate_left
          · (intro w hSw; (try dsimp only at hSw); go_simp; try (with_reducible rfl))
          try simp only [Act.put, List.setIfInBounds_toArray, List.set_cons_zero, List.set_cons_succ]
          refine take_h 8 ?_ rfl (by kernel_rfl) (by kernel_rfl) (by kernel_rfl) (fun _ _ _ h => h) (Or.inl ⟨by kernel_rfl, ?_⟩) (by assumption) ?_
          rotate_left
          · (intro w hSw; (try dsimp only at hSw); go_simp; try (with_reducible rfl))
          try simp only [Act.put, List.setIfInBounds_toArray, List.set_cons_zero, List.set_cons_succ]
          refine take_h 9 _ rfl (by kernel_rfl) (by kernel_rfl) (by kernel_rfl) (fun _ _ _ h => h) (yieldsIf_load_mid (by kernel_rfl) 31 (.tmp 28) rfl g2 (off2 + k * 33) rfl C _ (fun w hSw => hSw.2.1) uL rfl iC) (by assumption) ?_
          try simp only [Act.put, List.setIfInBounds_toArray, List.set_cons_zero, List.set_cons_succ]
          refine take_h 10 ?_ rfl (by kernel_rfl) (by kernel_rfl) (by kernel_rfl) (fun _ _ _ h => h) (Or.inl ⟨by kernel_rfl, ?_⟩) (by assumption) ?_
          rotate_left
          · (intro w hSw; (try dsimp only at hSw); go_simp; try (with_reducible rfl))
          try simp only [Act.put, List.setIfInBounds_toArray, List.set_cons_zero, List.set_cons_succ]
          refine wpAnyH_done (by kernel_rfl) ?_ _
          clear hHeld
          go_wp2
          go_roundw
          case rel => exact ⟨k + 1, by omega, by go_num, HV⟩
          case measure => simp [intOf]; omega
    · obtain rfl : k = pn := by omega
      have q5 : ¬ (k : Int) < (k : Int) := by omega
      have c1 := cell_below' hH.out.2 c1
      have d1 := cell_below' hH.out.2 d1
      go_wp2_with fail
      refine (HC.out wo hH.out.1).mono ?_
      rintro e w1 ⟨rfl, hb⟩
      have HF := Seal.mk (hH.out.1.trans (hb.mono hH.out.1.size))
      clear hb
      go_wp2
      go_ret
      exact ⟨rfl, HF.out⟩
end Frk
