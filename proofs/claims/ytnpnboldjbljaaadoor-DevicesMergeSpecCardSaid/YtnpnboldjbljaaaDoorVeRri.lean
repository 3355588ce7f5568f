/- Law 44's reference: right, Check. -/
import Derived.Test.YtnpnboldjbljaaaDoorVegRap
import Derived.Test.YtnpnboldjbljaaaDoorVeRpv
namespace Frk
open Go Go.RowKit Go.Proofs
set_option maxRecDepth 100000

theorem rightD_of {D : Dv} (h1 : ∀ (j : Nat) (x : Po), D.P[j]? = some x → okP x = true) (h2 : ∀ (j : Nat) (x y : Po), D.P[j]? = some x → D.P[j + 1]? = some y → x.o < y.o)
    (h3 : ∀ (j : Nat) (x y : Int), D.G[j]? = some x → D.G[j + 1]? = some y → x < y) (h4 : ∀ (j : Nat) (x : Int), D.G[j]? = some x → hasK Po.o D.P x = true) : rightD D = true := by
  refine rightD_iff.2 ⟨fun p hp => ?_, (risK_steps _).2 h2, (risK_steps _).2 h3, fun n hn => ?_⟩
  · obtain ⟨j, hj⟩ := List.mem_iff_getElem?.1 hp
    exact h1 j p hj
  · obtain ⟨j, hj⟩ := List.mem_iff_getElem?.1 hn
    exact h4 j n hj
theorem rightD_not {D : Dv} (h : rightD D = true → False) : rightD D = false := by
  cases e : rightD D with
  | false => rfl
  | true => exact (h e).elim
/-- what stands after the first loop -/
def Ri1 (D : Dv) (k : Nat) : Prop := (∀ (j : Nat) (x : Po), j < k → D.P[j]? = some x → okP x = true) ∧ ∀ (j : Nat) (x y : Po), j + 1 < k → D.P[j]? = some x → D.P[j + 1]? = some y → x.o < y.o
def Ri2 (D : Dv) (k : Nat) : Prop := (∀ (j : Nat) (x y : Int), j + 1 < k → D.G[j]? = some x → D.G[j + 1]? = some y → x < y) ∧ ∀ (j : Nat) (x : Int), j < k → D.G[j]? = some x → hasK Po.o D.P x = true
theorem Ri1.succ {D : Dv} {k : Nat} {x : Po} (h : Ri1 D k) (hx : D.P[k]? = some x) (ok : okP x = true) (hp : ∀ (j : Nat) (y : Po), j + 1 = k → D.P[j]? = some y → y.o < x.o) : Ri1 D (k + 1) := by
  refine ⟨fun j y hj hy => ?_, fun j y z hj hy hz => ?_⟩
  · by_cases e : j < k
    · exact h.1 j y e hy
    · obtain rfl : j = k := by omega
      rw [hx] at hy; cases hy; exact ok
  · by_cases e : j + 1 < k
    · exact h.2 j y z e hy hz
    · obtain rfl : j + 1 = k := by omega
      rw [hx] at hz; cases hz; exact hp j y rfl hy
theorem Ri2.succ {D : Dv} {k : Nat} {x : Int} (h : Ri2 D k) (hx : D.G[k]? = some x) (ok : hasK Po.o D.P x = true) (hp : ∀ (j : Nat) (y : Int), j + 1 = k → D.G[j]? = some y → y < x) : Ri2 D (k + 1) := by
  refine ⟨fun j y z hj hy hz => ?_, fun j y hj hy => ?_⟩
  · by_cases e : j + 1 < k
    · exact h.1 j y z e hy hz
    · obtain rfl : j + 1 = k := by omega
      rw [hx] at hz; cases hz; exact hp j y rfl hy
  · by_cases e : j < k
    · exact h.2 j y e hy
    · obtain rfl : j = k := by omega
      rw [hx] at hy; cases hy; exact ok
theorem FindR.has {l : List Po} {q i : Int} (h : FindR l q i) : (i < 0 ↔ hasK Po.o l q = false) := by
  rcases h with ⟨rfl, h⟩ | ⟨j, x, rfl, hx, e⟩
  · exact ⟨fun _ => h, fun _ => by omega⟩
  · constructor
    · intro h; omega
    · intro h; exact absurd e (hasK_not.1 h x (List.mem_of_getElem? hx))

set_option maxHeartbeats 4000000 in
theorem rright_any (pa ga : Option Addr) (pn pc gn gc : Nat) (D : Dv) (w : World) (hP : IsPs w pa pn pc D.P) (hG : IsIs w ga gn gc D.G) :
    Calls Tryd.prog 43 #[.agg #[.slice pa pn pc, .slice ga gn gc]] w fun e w' => e = .returned (.bool (rightD D)) ∧ Below w.heap.size w w' := by
  obtain ⟨X, hX⟩ : ∃ X : World, X = w.alloc (.cells #[.slice pa pn pc, .slice ga gn gc] 25) := ⟨_, rfl⟩
  have HBX : Seal (Below w.heap.size w X) := ⟨by rw [hX]; exact below_alloc _ _⟩
  have hrow : X.heap[w.heap.size]? = some (.cells #[.slice pa pn pc, .slice ga gn gc] 25 (0, 0)) := by rw [hX]; exact heap_alloc_new _ _
  have c0 : X.cell? ⟨w.heap.size, 0, none⟩ = some (.slice pa pn pc) := by rw [cell_of_row _ _ _ _ _ _ hrow]; rfl
  have c1 : X.cell? ⟨w.heap.size, 1, none⟩ = some (.slice ga gn gc) := by rw [cell_of_row _ _ _ _ _ _ hrow]; rfl
  have HP : Seal (∀ W, Below w.heap.size w W → IsPs W pa pn pc D.P) := ⟨fun W h => hP.below h⟩
  have HGs : Seal (∀ W, Below w.heap.size w W → IsIs W ga gn gc D.G) := ⟨fun W h => hG.below h⟩
  have hpm := hP.lmax
  have hgm := hG.lmax
  have HL : Seal (D.P.length = pn ∧ D.G.length = gn) := ⟨hP.llen, hG.llen⟩
  obtain ⟨gx, hgx⟩ : ∃ g, g = w.heap.size := ⟨_, rfl⟩
  rw [← hgx] at c0 c1
  have hgs : gx < X.heap.size := by rw [hgx]; exact (Array.getElem?_eq_some_iff.1 hrow).1
  have HGX := Seal.mk hgx
  clear hP hG hrow
  go_enter Tryd.func43, Tryd.ntmps43
  go_wp2
  rw [← hX, ← hgx]
  clear hX hgx
  go_loopw [3] (fun i wr => ∃ k : Nat, k ≤ pn ∧ i = .int .i64 k ∧ Seal (wr = X ∧ Ri1 D k)) (fun i _ => pn - (intOf i).toNat)
  case atStart => exact ⟨0, by omega, rfl, ⟨rfl, fun j x hj => by omega, fun j x y hj => by omega⟩⟩
  case round =>
    obtain ⟨k, hk, rfl, hH⟩ := hrel
    obtain rfl := hH.out.1
    obtain ⟨X, rfl⟩ : ∃ z, z = wr := ⟨_, rfl⟩
    have HH := Seal.mk hH.out.2
    have HB := HBX
    clear hH
    by_cases hlt : k < pn
    · rcases (HP.out _ HB.out).at_ with h0 | ⟨g, off, rfl, hr, hg⟩
      · omega
      · obtain ⟨x, hx⟩ : ∃ x, D.P[k]? = some x := ⟨_, List.getElem?_eq_getElem (by rw [HL.out.1]; exact hlt)⟩
        obtain ⟨o, ho⟩ : ∃ o, o = x.o := ⟨_, rfl⟩
        have c2 : X.cell? ⟨g, off + k * 33, none⟩ = some (.int .i64 o) := by have := rangeC_row hr (HP.out _ HB.out).each hx 0 (.int .i64 x.o) rfl; rw [ho]; simpa using this
        have HX : Seal (D.P[k]? = some x ∧ o = x.o) := ⟨hx, ho⟩
        have q5 : (k : Int) < (pn : Int) := by omega
        have q6 : (0 : Int) ≤ (k : Int) := by omega
        by_cases hk0 : k = 0
        · subst hk0
          have c2 : X.cell? ⟨g, off, none⟩ = some (.int .i64 o) := by simpa using c2
          clear hr hg hx ho q6
          by_cases h1 : o < 0
          · skip
            have HN : Seal (rightD D = false) := ⟨rightD_not fun h => by
              have hh := rightD_iff.1 h
              (have := hh.1 x (List.mem_of_getElem? HX.out.1); simp [okP] at this; have := HX.out.2; omega)⟩
            clear HH
            go_wp2
            go_ret
            exact ⟨ret_bool HN.out.symm, HB.out⟩
          · by_cases h2 : 1048576 < o
            · skip
              have HN : Seal (rightD D = false) := ⟨rightD_not fun h => by
                have hh := rightD_iff.1 h
                (have := hh.1 x (List.mem_of_getElem? HX.out.1); simp [okP] at this; have := HX.out.2; omega)⟩
              clear HH
              go_wp2
              go_ret
              exact ⟨ret_bool HN.out.symm, HB.out⟩
            · have HOK : Seal (okP x = true) := ⟨by simp [okP]; have := HX.out.2; omega⟩
              have HR := Seal.mk (Ri1.succ HH.out HX.out.1 HOK.out (fun j y hj => by omega))
              go_wp2
              go_roundw
              case rel => exact ⟨0 + 1, by omega, by go_num, ⟨by first | rfl | trivial, HR.out⟩⟩
              case measure => simp [intOf]; omega
        · obtain ⟨y, hy⟩ : ∃ y, D.P[k - 1]? = some y := ⟨_, List.getElem?_eq_getElem (by rw [HL.out.1]; omega)⟩
          obtain ⟨v, hv⟩ : ∃ v, v = y.o := ⟨_, rfl⟩
          have c3 : X.cell? ⟨g, off + (k - 1) * 33, none⟩ = some (.int .i64 v) := by have := rangeC_row hr (HP.out _ HB.out).each hy 0 (.int .i64 y.o) rfl; rw [hv]; simpa using this
          have HY : Seal (D.P[k - 1]? = some y ∧ v = y.o) := ⟨hy, hv⟩
          have q7 : (0 : Int) < (k : Int) := by omega
          have q1 : IntKind.i64.wrap ((k : Int) - 1) = k - 1 := IntWalk.i64_in _ (by omega)
          have q2 : ((k : Int) - 1).toNat = k - 1 := by omega
          have q3 : 0 ≤ (k : Int) - 1 := by omega
          have q4 : (k : Int) - 1 < (pn : Int) := by omega
          have q9 : (1 : Int) ≤ (k : Int) := by omega
          have HK0 := Seal.mk hk0
          clear hr hg hx ho hy hv
          by_cases h1 : o < 0
          · skip
            have HN : Seal (rightD D = false) := ⟨rightD_not fun h => by
              have hh := rightD_iff.1 h
              (have := hh.1 x (List.mem_of_getElem? HX.out.1); simp [okP] at this; have := HX.out.2; omega)⟩
            clear HH
            go_wp2
            go_ret
            exact ⟨ret_bool HN.out.symm, HB.out⟩
          · by_cases h2 : 1048576 < o
            · skip
              have HN : Seal (rightD D = false) := ⟨rightD_not fun h => by
                have hh := rightD_iff.1 h
                (have := hh.1 x (List.mem_of_getElem? HX.out.1); simp [okP] at this; have := HX.out.2; omega)⟩
              clear HH
              go_wp2
              go_ret
              exact ⟨ret_bool HN.out.symm, HB.out⟩
            · by_cases h3 : o ≤ v
              · skip
                have HN : Seal (rightD D = false) := ⟨rightD_not fun h => by
                  have hh := rightD_iff.1 h
                  (have := (risK_steps _).1 hh.2.1 (k - 1) y x HY.out.1 (by rw [show k - 1 + 1 = k from by omega]; exact HX.out.1); have := HX.out.2; have := HY.out.2; omega)⟩
                clear HH
                go_wp2
                go_ret
                exact ⟨ret_bool HN.out.symm, HB.out⟩
              · have HOK : Seal (okP x = true) := ⟨by simp [okP]; have := HX.out.2; omega⟩
                have HR := Seal.mk (Ri1.succ HH.out HX.out.1 HOK.out (fun j z hj hz => by
                  obtain rfl : j = k - 1 := by omega
                  rw [HY.out.1] at hz; cases hz
                  have := HX.out.2; have := HY.out.2; omega))
                clear HK0
                go_wp2
                go_roundw
                case rel => exact ⟨k + 1, by omega, by go_num, ⟨by first | rfl | trivial, HR.out⟩⟩
                case measure => simp [intOf]; omega
    · obtain rfl : pn = k := by omega
      have q5 : ¬ (pn : Int) < (pn : Int) := by omega
      go_wp2
      have HR1 := HH
      clear HH
      go_loopw [5] (fun i wr' => ∃ j : Nat, j ≤ gn ∧ i = .int .i64 j ∧ Seal (Below w.heap.size w wr' ∧ Below X.heap.size X wr' ∧ Ri2 D j)) (fun i _ => gn - (intOf i).toNat)
      case atStart => exact ⟨0, by omega, rfl, ⟨HB.out, Below.refl _ _, fun j x y hj => by omega, fun j x hj => by omega⟩⟩
      case round =>
        obtain ⟨k, hk, rfl, hH⟩ := hrel
        have HH := Seal.mk hH.out
        have HB2 := Seal.mk hH.out.1
        clear hH
        have c0 := cell_below' HH.out.2.1 c0
        have c1 := cell_below' HH.out.2.1 c1
        by_cases hlt : k < gn
        · rcases (HGs.out _ HB2.out).at_ with h0 | ⟨g, off, rfl, hr, hg⟩
          · omega
          · obtain ⟨o, hx⟩ : ∃ x, D.G[k]? = some x := ⟨_, List.getElem?_eq_getElem (by rw [HL.out.2]; exact hlt)⟩
            have c2 : wr.cell? ⟨g, off + k, none⟩ = some (.int .i64 o) := by have := rangeC_row hr (HGs.out _ HB2.out).each hx 0 (.int .i64 o) rfl; simpa using this
            have HX := Seal.mk hx
            have q5 : (k : Int) < (gn : Int) := by omega
            have q6 : (0 : Int) ≤ (k : Int) := by omega
            have HBd : Seal (Below w.heap.size w wr.drew ∧ Below X.heap.size X wr.drew) := ⟨HB2.out.trans ((below_drewn wr).mono HB2.out.size), HH.out.2.1.trans ((below_drewn wr).mono HH.out.2.1.size)⟩
            have HFi : Seal (∀ W, Below w.heap.size w W → Calls Tryd.prog 31 #[.slice pa pn pc, .int .i64 o] W fun e w' => ∃ i : Int, e = .returned (.int .i64 i) ∧ Seal (FindR D.P o i) ∧ W = w') := ⟨fun W h => rfind44_any pa pn pc D.P o W (HP.out W h)⟩
            by_cases hk0 : k = 0
            · have HP1 : Seal (∀ (j : Nat) (y : Int), j + 1 = k → D.G[j]? = some y → y < o) := ⟨fun j y hj => by omega⟩
              subst hk0
              have c2 : wr.cell? ⟨g, off, none⟩ = some (.int .i64 o) := by simpa using c2
              clear hr hg hx q6
              go_wp2_with fail
              refine wp_region_held_drew (S := fun w' => w'.cell? ⟨gx, 0, none⟩ = some (.slice pa pn pc) ∧ w'.cell? ⟨gx, 1, none⟩ = some (.slice (some ⟨g, off, none⟩) gn gc) ∧ w'.cell? ⟨g, off, none⟩ = some (.int .i64 o)) (by kernel_rfl) ⟨c0, c1, c2⟩ (fun hHeld => ?_)
              refine take_h 0 ?_ rfl (by kernel_rfl) (by kernel_rfl) (by kernel_rfl) (fun _ _ _ h => h) (Or.inl ⟨by kernel_rfl, ?_⟩) (by assumption) ?_
              rotate_left
              · (intro w hSw; (try dsimp only at hSw); go_simp; try (with_reducible rfl))
              try simp only [Act.put, List.setIfInBounds_toArray, List.set_cons_zero, List.set_cons_succ]
              refine take_h 1 ?_ rfl (by kernel_rfl) (by kernel_rfl) (by kernel_rfl) (fun _ _ _ h => h) (Or.inl ⟨by kernel_rfl, ?_⟩) (by assumption) ?_
              rotate_left
              · (intro w hSw; (try dsimp only at hSw); go_simp; try (with_reducible rfl))
              try simp only [Act.put, List.setIfInBounds_toArray, List.set_cons_zero, List.set_cons_succ]
              refine take_h 2 ?_ rfl (by kernel_rfl) (by kernel_rfl) (by kernel_rfl) (fun _ _ _ h => h) (Or.inl ⟨by kernel_rfl, ?_⟩) (by assumption) ?_
              rotate_left
              · (intro w hSw; (try dsimp only at hSw); go_simp; try (with_reducible rfl))
              try simp only [Act.put, List.setIfInBounds_toArray, List.set_cons_zero, List.set_cons_succ]
              refine take_h 3 undef rfl (by kernel_rfl) (by kernel_rfl) (by kernel_rfl) (fun _ _ _ h => h) (Or.inr ⟨by kernel_rfl, rfl⟩) (by assumption) ?_
              try simp only [Act.put, List.setIfInBounds_toArray, List.set_cons_zero, List.set_cons_succ]
              refine take_h 4 undef rfl (by kernel_rfl) (by kernel_rfl) (by kernel_rfl) (fun _ _ _ h => h) (Or.inr ⟨by kernel_rfl, rfl⟩) (by assumption) ?_
              try simp only [Act.put, List.setIfInBounds_toArray, List.set_cons_zero, List.set_cons_succ]
              refine take_h 5 undef rfl (by kernel_rfl) (by kernel_rfl) (by kernel_rfl) (fun _ _ _ h => h) (Or.inr ⟨by kernel_rfl, rfl⟩) (by assumption) ?_
              try simp only [Act.put, List.setIfInBounds_toArray, List.set_cons_zero, List.set_cons_succ]
              refine take_h 6 undef rfl (by kernel_rfl) (by kernel_rfl) (by kernel_rfl) (fun _ _ _ h => h) (Or.inr ⟨by kernel_rfl, rfl⟩) (by assumption) ?_
              try simp only [Act.put, List.setIfInBounds_toArray, List.set_cons_zero, List.set_cons_succ]
              refine take_h 7 undef rfl (by kernel_rfl) (by kernel_rfl) (by kernel_rfl) (fun _ _ _ h => h) (Or.inr ⟨by kernel_rfl, rfl⟩) (by assumption) ?_
              try simp only [Act.put, List.setIfInBounds_toArray, List.set_cons_zero, List.set_cons_succ]
              refine take_h 8 undef rfl (by kernel_rfl) (by kernel_rfl) (by kernel_rfl) (fun _ _ _ h => h) (Or.inr ⟨by kernel_rfl, rfl⟩) (by assumption) ?_
              try simp only [Act.put, List.setIfInBounds_toArray, List.set_cons_zero, List.set_cons_succ]
              refine take_h 9 undef rfl (by kernel_rfl) (by kernel_rfl) (by kernel_rfl) (fun _ _ _ h => h) (Or.inr ⟨by kernel_rfl, rfl⟩) (by assumption) ?_
              try simp only [Act.put, List.setIfInBounds_toArray, List.set_cons_zero, List.set_cons_succ]
              refine take_h 10 undef rfl (by kernel_rfl) (by kernel_rfl) (by kernel_rfl) (fun _ _ _ h => h) (Or.inr ⟨by kernel_rfl, rfl⟩) (by assumption) ?_
              try simp only [Act.put, List.setIfInBounds_toArray, List.set_cons_zero, List.set_cons_succ]
              refine take_h 11 undef rfl (by kernel_rfl) (by kernel_rfl) (by kernel_rfl) (fun _ _ _ h => h) (Or.inr ⟨by kernel_rfl, rfl⟩) (by assumption) ?_
              try simp only [Act.put, List.setIfInBounds_toArray, List.set_cons_zero, List.set_cons_succ]
              refine take_h 12 undef rfl (by kernel_rfl) (by kernel_rfl) (by kernel_rfl) (fun _ _ _ h => h) (Or.inr ⟨by kernel_rfl, rfl⟩) (by assumption) ?_
              try simp only [Act.put, List.setIfInBounds_toArray, List.set_cons_zero, List.set_cons_succ]
              refine take_h 13 undef rfl (by kernel_rfl) (by kernel_rfl) (by kernel_rfl) (fun _ _ _ h => h) (Or.inr ⟨by kernel_rfl, rfl⟩) (by assumption) ?_
              try simp only [Act.put, List.setIfInBounds_toArray, List.set_cons_zero, List.set_cons_succ]
              refine take_h 14 undef rfl (by kernel_rfl) (by kernel_rfl) (by kernel_rfl) (fun _ _ _ h => h) (Or.inr ⟨by kernel_rfl, rfl⟩) (by assumption) ?_
              try simp only [Act.put, List.setIfInBounds_toArray, List.set_cons_zero, List.set_cons_succ]
              refine take_h 15 ?_ rfl (by kernel_rfl) (by kernel_rfl) (by kernel_rfl) (fun _ _ _ h => h) (Or.inl ⟨by kernel_rfl, ?_⟩) (by assumption) ?_
              rotate_left
              · (intro w hSw; (try dsimp only at hSw); go_simp; try (with_reducible rfl))
              try simp only [Act.put, List.setIfInBounds_toArray, List.set_cons_zero, List.set_cons_succ]
              refine take_h 16 ?_ rfl (by kernel_rfl) (by kernel_rfl) (by kernel_rfl) (fun _ _ _ h => h) (Or.inl ⟨by kernel_rfl, ?_⟩) (by assumption) ?_
              rotate_left
              · (intro w hSw; (try dsimp only at hSw); go_simp; try (with_reducible rfl))
              try simp only [Act.put, List.setIfInBounds_toArray, List.set_cons_zero, List.set_cons_succ]
              refine take_h 17 ?_ rfl (by kernel_rfl) (by kernel_rfl) (by kernel_rfl) (fun _ _ _ h => h) (Or.inl ⟨by kernel_rfl, ?_⟩) (by assumption) ?_
              rotate_left
              · (intro w hSw; (try dsimp only at hSw); go_simp; try (with_reducible rfl))
              try simp only [Act.put, List.setIfInBounds_toArray, List.set_cons_zero, List.set_cons_succ]
              refine take_h 18 ?_ rfl (by kernel_rfl) (by kernel_rfl) (by kernel_rfl) (fun _ _ _ h => h) (Or.inl ⟨by kernel_rfl, ?_⟩) (by assumption) ?_
              rotate_left
              · (intro w hSw; (try dsimp only at hSw); go_simp; try (with_reducible rfl))
              try simp only [Act.put, List.setIfInBounds_toArray, List.set_cons_zero, List.set_cons_succ]
              refine take_h 19 ?_ rfl (by kernel_rfl) (by kernel_rfl) (by kernel_rfl) (fun _ _ _ h => h) (Or.inl ⟨by kernel_rfl, ?_⟩) (by assumption) ?_
              rotate_left
              · (intro w hSw; (try dsimp only at hSw); go_simp; try (with_reducible rfl))
              try simp only [Act.put, List.setIfInBounds_toArray, List.set_cons_zero, List.set_cons_succ]
              refine take_h 20 ?_ rfl (by kernel_rfl) (by kernel_rfl) (by kernel_rfl) (fun _ _ _ h => h) (Or.inl ⟨by kernel_rfl, ?_⟩) (by assumption) ?_
              rotate_left
              · (intro w hSw; (try dsimp only at hSw); go_simp; try (with_reducible rfl))
              try simp only [Act.put, List.setIfInBounds_toArray, List.set_cons_zero, List.set_cons_succ]
              refine take_h 21 ?_ rfl (by kernel_rfl) (by kernel_rfl) (by kernel_rfl) (fun _ _ _ h => h) (Or.inl ⟨by kernel_rfl, ?_⟩) (by assumption) ?_
              rotate_left
              · (intro w hSw; (try dsimp only at hSw); go_simp; try (with_reducible rfl))
              try simp only [Act.put, List.setIfInBounds_toArray, List.set_cons_zero, List.set_cons_succ]
              refine take_h 22 ?_ rfl (by kernel_rfl) (by kernel_rfl) (by kernel_rfl) (fun _ _ _ h => h) (Or.inl ⟨by kernel_rfl, ?_⟩) (by assumption) ?_
              rotate_left
              · (intro w hSw; (try dsimp only at hSw); go_simp; try (with_reducible rfl))
              try simp only [Act.put, List.setIfInBounds_toArray, List.set_cons_zero, List.set_cons_succ]
              refine take_h 23 ?_ rfl (by kernel_rfl) (by kernel_rfl) (by kernel_rfl) (fun _ _ _ h => h) (Or.inl ⟨by kernel_rfl, ?_⟩) (by assumption) ?_
              rotate_left
              · (intro w hSw; (try dsimp only at hSw); go_simp; try (with_reducible rfl))
              try simp only [Act.put, List.setIfInBounds_toArray, List.set_cons_zero, List.set_cons_succ]
              refine call_h 24 rfl (by kernel_rfl) 31 #[.slice pa pn pc, .int .i64 o] (by kernel_rfl) (by go_simp) ?_
              refine (HFi.out wr.drew HBd.out.1).mono ?_
              rintro e w1 ⟨i, rfl, hi, rfl⟩
              refine ⟨_, rfl, hHeld, fun hHeld2 => ?_⟩
              clear hHeld
              have HI := hi
              clear hi
              by_cases hneg : i < 0
              · have HF : Seal (hasK Po.o D.P o = false) := ⟨HI.out.has.1 hneg⟩
                try simp only [Act.put, List.setIfInBounds_toArray, List.set_cons_zero, List.set_cons_succ]
                refine take_h 25 ?_ rfl (by kernel_rfl) (by kernel_rfl) (by kernel_rfl) (fun _ _ _ h => h) (Or.inl ⟨by kernel_rfl, ?_⟩) (by assumption) ?_
                rotate_left
                · (intro w hSw; (try dsimp only at hSw); go_simp; try (with_reducible rfl))
                try simp only [Act.put, List.setIfInBounds_toArray, List.set_cons_zero, List.set_cons_succ]
                refine take_h 26 ?_ rfl (by kernel_rfl) (by kernel_rfl) (by kernel_rfl) (fun _ _ _ h => h) (Or.inl ⟨by kernel_rfl, ?_⟩) (by assumption) ?_
                rotate_left
                · (intro w hSw; (try dsimp only at hSw); go_simp; try (with_reducible rfl))
                try simp only [Act.put, List.setIfInBounds_toArray, List.set_cons_zero, List.set_cons_succ]
                refine wpAnyH_done (by kernel_rfl) ?_ _
                clear hHeld2
                have HN : Seal (rightD D = false) := ⟨rightD_not fun h => by
                  have hh := rightD_iff.1 h
                  (rw [hh.2.2.2 o (List.mem_of_getElem? HX.out)] at HF; cases HF.out)⟩
                go_wp2
                go_ret
                exact ⟨ret_bool HN.out.symm, HBd.out.1⟩
              · have HT : Seal (hasK Po.o D.P o = true) := ⟨by
                  cases e : hasK Po.o D.P o with
                  | true => rfl
                  | false => exact absurd (HI.out.has.2 e) hneg⟩
                try simp only [Act.put, List.setIfInBounds_toArray, List.set_cons_zero, List.set_cons_succ]
                refine take_h 25 ?_ rfl (by kernel_rfl) (by kernel_rfl) (by kernel_rfl) (fun _ _ _ h => h) (Or.inl ⟨by kernel_rfl, ?_⟩) (by assumption) ?_
                rotate_left
                · (intro w hSw; (try dsimp only at hSw); go_simp; try (with_reducible rfl))
                try simp only [Act.put, List.setIfInBounds_toArray, List.set_cons_zero, List.set_cons_succ]
                refine take_h 26 ?_ rfl (by kernel_rfl) (by kernel_rfl) (by kernel_rfl) (fun _ _ _ h => h) (Or.inl ⟨by kernel_rfl, ?_⟩) (by assumption) ?_
                rotate_left
                · (intro w hSw; (try dsimp only at hSw); go_simp; try (with_reducible rfl))
                try simp only [Act.put, List.setIfInBounds_toArray, List.set_cons_zero, List.set_cons_succ]
                refine wpAnyH_done (by kernel_rfl) ?_ _
                clear hHeld2 HI
                have HR := Seal.mk (Ri2.succ HH.out.2.2 HX.out HT.out HP1.out)
                go_wp2
                go_roundw
                case rel => exact ⟨0 + 1, by omega, by go_num, ⟨HBd.out.1, HBd.out.2, HR.out⟩⟩
                case measure => simp [intOf]; omega
            · obtain ⟨v, hy⟩ : ∃ y, D.G[k - 1]? = some y := ⟨_, List.getElem?_eq_getElem (by rw [HL.out.2]; omega)⟩
              have c3 : wr.cell? ⟨g, off + (k - 1), none⟩ = some (.int .i64 v) := by have := rangeC_row hr (HGs.out _ HB2.out).each hy 0 (.int .i64 v) rfl; simpa using this
              have HY := Seal.mk hy
              have q7 : ((0 : Int) < (k : Int)) = True := eq_true (by omega)
              have q0 : (0 < k) = True := eq_true (by omega)
              have q1 : IntKind.i64.wrap ((k : Int) - 1) = k - 1 := IntWalk.i64_in _ (by omega)
              have q2 : ((k : Int) - 1).toNat = k - 1 := by omega
              have q3 : 0 ≤ (k : Int) - 1 := by omega
              have q4 : (k : Int) - 1 < (gn : Int) := by omega
              have q9 : (1 : Int) ≤ (k : Int) := by omega
              have HK0 := Seal.mk hk0
              clear hr hg hx hy
              by_cases h3 : o ≤ v
              · have q8 : (o ≤ v) = True := eq_true h3
                go_wp2_with fail
                refine wp_region_held_drew (S := fun w' => w'.cell? ⟨gx, 0, none⟩ = some (.slice pa pn pc) ∧ w'.cell? ⟨gx, 1, none⟩ = some (.slice (some ⟨g, off, none⟩) gn gc) ∧ w'.cell? ⟨g, off + k, none⟩ = some (.int .i64 o) ∧ w'.cell? ⟨g, off + (k - 1), none⟩ = some (.int .i64 v)) (by kernel_rfl) ⟨c0, c1, c2, c3⟩ (fun hHeld => ?_)
                refine take_h 0 ?_ rfl (by kernel_rfl) (by kernel_rfl) (by kernel_rfl) (fun _ _ _ h => h) (Or.inl ⟨by kernel_rfl, ?_⟩) (by assumption) ?_
                rotate_left
                · (intro w hSw; (try dsimp only at hSw); go_simp; try (with_reducible rfl))
                try simp only [Act.put, List.setIfInBounds_toArray, List.set_cons_zero, List.set_cons_succ]
                refine take_h 1 ?_ rfl (by kernel_rfl) (by kernel_rfl) (by kernel_rfl) (fun _ _ _ h => h) (Or.inl ⟨by kernel_rfl, ?_⟩) (by assumption) ?_
                rotate_left
                · (intro w hSw; (try dsimp only at hSw); go_simp; try (with_reducible rfl))
                try simp only [Act.put, List.setIfInBounds_toArray, List.set_cons_zero, List.set_cons_succ]
                refine take_h 2 ?_ rfl (by kernel_rfl) (by kernel_rfl) (by kernel_rfl) (fun _ _ _ h => h) (Or.inl ⟨by kernel_rfl, ?_⟩) (by assumption) ?_
                rotate_left
                · (intro w hSw; (try dsimp only at hSw); go_simp; try (with_reducible rfl))
                try simp only [Act.put, List.setIfInBounds_toArray, List.set_cons_zero, List.set_cons_succ]
                refine take_h 3 ?_ rfl (by kernel_rfl) (by kernel_rfl) (by kernel_rfl) (fun _ _ _ h => h) (Or.inl ⟨by kernel_rfl, ?_⟩) (by assumption) ?_
                rotate_left
                · (intro w hSw; (try dsimp only at hSw); go_simp; try (with_reducible rfl))
                try simp only [Act.put, List.setIfInBounds_toArray, List.set_cons_zero, List.set_cons_succ]
                refine take_h 4 ?_ rfl (by kernel_rfl) (by kernel_rfl) (by kernel_rfl) (fun _ _ _ h => h) (Or.inl ⟨by kernel_rfl, ?_⟩) (by assumption) ?_
                rotate_left
                · (intro w hSw; (try dsimp only at hSw); go_simp; try (with_reducible rfl))
                try simp only [Act.put, List.setIfInBounds_toArray, List.set_cons_zero, List.set_cons_succ]
                refine take_h 5 ?_ rfl (by kernel_rfl) (by kernel_rfl) (by kernel_rfl) (fun _ _ _ h => h) (Or.inl ⟨by kernel_rfl, ?_⟩) (by assumption) ?_
                rotate_left
                · (intro w hSw; (try dsimp only at hSw); go_simp; try (with_reducible rfl))
                try simp only [Act.put, List.setIfInBounds_toArray, List.set_cons_zero, List.set_cons_succ]
                refine take_h 6 ?_ rfl (by kernel_rfl) (by kernel_rfl) (by kernel_rfl) (fun _ _ _ h => h) (Or.inl ⟨by kernel_rfl, ?_⟩) (by assumption) ?_
                rotate_left
                · (intro w hSw; (try dsimp only at hSw); go_simp; try (with_reducible rfl))
                try simp only [Act.put, List.setIfInBounds_toArray, List.set_cons_zero, List.set_cons_succ]
                refine take_h 7 ?_ rfl (by kernel_rfl) (by kernel_rfl) (by kernel_rfl) (fun _ _ _ h => h) (Or.inl ⟨by kernel_rfl, ?_⟩) (by assumption) ?_
                rotate_left
                · (intro w hSw; (try dsimp only at hSw); go_simp; try (with_reducible rfl))
                try simp only [Act.put, List.setIfInBounds_toArray, List.set_cons_zero, List.set_cons_succ]
                refine take_h 8 ?_ rfl (by kernel_rfl) (by kernel_rfl) (by kernel_rfl) (fun _ _ _ h => h) (Or.inl ⟨by kernel_rfl, ?_⟩) (by assumption) ?_
                rotate_left
                · (intro w hSw; (try dsimp only at hSw); go_simp; try (with_reducible rfl))
                try simp only [Act.put, List.setIfInBounds_toArray, List.set_cons_zero, List.set_cons_succ]
                refine take_h 9 ?_ rfl (by kernel_rfl) (by kernel_rfl) (by kernel_rfl) (fun _ _ _ h => h) (Or.inl ⟨by kernel_rfl, ?_⟩) (by assumption) ?_
                rotate_left
                · (intro w hSw; (try dsimp only at hSw); go_simp; try (with_reducible rfl))
                try simp only [Act.put, List.setIfInBounds_toArray, List.set_cons_zero, List.set_cons_succ]
                refine take_h 10 ?_ rfl (by kernel_rfl) (by kernel_rfl) (by kernel_rfl) (fun _ _ _ h => h) (Or.inl ⟨by kernel_rfl, ?_⟩) (by assumption) ?_
                rotate_left
                · (intro w hSw; (try dsimp only at hSw); go_simp; try (with_reducible rfl))
                try simp only [Act.put, List.setIfInBounds_toArray, List.set_cons_zero, List.set_cons_succ]
                refine take_h 11 ?_ rfl (by kernel_rfl) (by kernel_rfl) (by kernel_rfl) (fun _ _ _ h => h) (Or.inl ⟨by kernel_rfl, ?_⟩) (by assumption) ?_
                rotate_left
                · (intro w hSw; (try dsimp only at hSw); go_simp; try (with_reducible rfl))
                try simp only [Act.put, List.setIfInBounds_toArray, List.set_cons_zero, List.set_cons_succ]
                refine take_h 12 ?_ rfl (by kernel_rfl) (by kernel_rfl) (by kernel_rfl) (fun _ _ _ h => h) (Or.inl ⟨by kernel_rfl, ?_⟩) (by assumption) ?_
                rotate_left
                · (intro w hSw; (try dsimp only at hSw); go_simp; try (with_reducible rfl))
                try simp only [Act.put, List.setIfInBounds_toArray, List.set_cons_zero, List.set_cons_succ]
                refine take_h 13 ?_ rfl (by kernel_rfl) (by kernel_rfl) (by kernel_rfl) (fun _ _ _ h => h) (Or.inl ⟨by kernel_rfl, ?_⟩) (by assumption) ?_
                rotate_left
                · (intro w hSw; (try dsimp only at hSw); go_simp; try (with_reducible rfl))
                try simp only [Act.put, List.setIfInBounds_toArray, List.set_cons_zero, List.set_cons_succ]
                refine take_h 14 ?_ rfl (by kernel_rfl) (by kernel_rfl) (by kernel_rfl) (fun _ _ _ h => h) (Or.inl ⟨by kernel_rfl, ?_⟩) (by assumption) ?_
                rotate_left
                · (intro w hSw; (try dsimp only at hSw); go_simp; try (with_reducible rfl))
                try simp only [Act.put, List.setIfInBounds_toArray, List.set_cons_zero, List.set_cons_succ]
                refine take_h 15 ?_ rfl (by kernel_rfl) (by kernel_rfl) (by kernel_rfl) (fun _ _ _ h => h) (Or.inl ⟨by kernel_rfl, ?_⟩) (by assumption) ?_
                rotate_left
                · (intro w hSw; (try dsimp only at hSw); go_simp; try (with_reducible rfl))
                try simp only [Act.put, List.setIfInBounds_toArray, List.set_cons_zero, List.set_cons_succ]
                refine take_h 16 ?_ rfl (by kernel_rfl) (by kernel_rfl) (by kernel_rfl) (fun _ _ _ h => h) (Or.inl ⟨by kernel_rfl, ?_⟩) (by assumption) ?_
                rotate_left
                · (intro w hSw; (try dsimp only at hSw); go_simp; try (with_reducible rfl))
                try simp only [Act.put, List.setIfInBounds_toArray, List.set_cons_zero, List.set_cons_succ]
                refine take_h 17 undef rfl (by kernel_rfl) (by kernel_rfl) (by kernel_rfl) (fun _ _ _ h => h) (Or.inr ⟨by kernel_rfl, rfl⟩) (by assumption) ?_
                try simp only [Act.put, List.setIfInBounds_toArray, List.set_cons_zero, List.set_cons_succ]
                refine take_h 18 undef rfl (by kernel_rfl) (by kernel_rfl) (by kernel_rfl) (fun _ _ _ h => h) (Or.inr ⟨by kernel_rfl, rfl⟩) (by assumption) ?_
                try simp only [Act.put, List.setIfInBounds_toArray, List.set_cons_zero, List.set_cons_succ]
                refine take_h 19 undef rfl (by kernel_rfl) (by kernel_rfl) (by kernel_rfl) (fun _ _ _ h => h) (Or.inr ⟨by kernel_rfl, rfl⟩) (by assumption) ?_
                try simp only [Act.put, List.setIfInBounds_toArray, List.set_cons_zero, List.set_cons_succ]
                refine take_h 20 undef rfl (by kernel_rfl) (by kernel_rfl) (by kernel_rfl) (fun _ _ _ h => h) (Or.inr ⟨by kernel_rfl, rfl⟩) (by assumption) ?_
                try simp only [Act.put, List.setIfInBounds_toArray, List.set_cons_zero, List.set_cons_succ]
                refine take_h 21 undef rfl (by kernel_rfl) (by kernel_rfl) (by kernel_rfl) (fun _ _ _ h => h) (Or.inr ⟨by kernel_rfl, rfl⟩) (by assumption) ?_
                try simp only [Act.put, List.setIfInBounds_toArray, List.set_cons_zero, List.set_cons_succ]
                refine take_h 22 undef rfl (by kernel_rfl) (by kernel_rfl) (by kernel_rfl) (fun _ _ _ h => h) (Or.inr ⟨by kernel_rfl, rfl⟩) (by assumption) ?_
                try simp only [Act.put, List.setIfInBounds_toArray, List.set_cons_zero, List.set_cons_succ]
                refine take_h 23 undef rfl (by kernel_rfl) (by kernel_rfl) (by kernel_rfl) (fun _ _ _ h => h) (Or.inr ⟨by kernel_rfl, rfl⟩) (by assumption) ?_
                try simp only [Act.put, List.setIfInBounds_toArray, List.set_cons_zero, List.set_cons_succ]
                refine take_h 24 undef rfl (by kernel_rfl) (by kernel_rfl) (by kernel_rfl) (fun _ _ _ h => h) (Or.inr ⟨by kernel_rfl, rfl⟩) (by assumption) ?_
                try simp only [Act.put, List.setIfInBounds_toArray, List.set_cons_zero, List.set_cons_succ]
                refine take_h 25 undef rfl (by kernel_rfl) (by kernel_rfl) (by kernel_rfl) (fun _ _ _ h => h) (Or.inr ⟨by kernel_rfl, rfl⟩) (by assumption) ?_
                try simp only [Act.put, List.setIfInBounds_toArray, List.set_cons_zero, List.set_cons_succ]
                refine take_h 26 ?_ rfl (by kernel_rfl) (by kernel_rfl) (by kernel_rfl) (fun _ _ _ h => h) (Or.inl ⟨by kernel_rfl, ?_⟩) (by assumption) ?_
                rotate_left
                · (intro w hSw; (try dsimp only at hSw); go_simp; try (with_reducible rfl))
                try simp only [Act.put, List.setIfInBounds_toArray, List.set_cons_zero, List.set_cons_succ]
                refine wpAnyH_done (by kernel_rfl) ?_ _
                clear hHeld q8
                have HN : Seal (rightD D = false) := ⟨rightD_not fun h => by
                  have hh := rightD_iff.1 h
                  (have := (risK_steps (key := idI) _).1 hh.2.2.1 (k - 1) v o HY.out (by rw [show k - 1 + 1 = k from by have := HK0.out; omega]; exact HX.out); simp only [idI] at this; omega)⟩
                go_wp2
                go_ret
                exact ⟨ret_bool HN.out.symm, HBd.out.1⟩
              · have q8 : (o ≤ v) = False := eq_false h3
                have HP1 : Seal (∀ (j : Nat) (y : Int), j + 1 = k → D.G[j]? = some y → y < o) := ⟨fun j y hj hyj => by
                  obtain rfl : j = k - 1 := by omega
                  rw [HY.out] at hyj; cases hyj; omega⟩
                go_wp2_with fail
                refine wp_region_held_drew (S := fun w' => w'.cell? ⟨gx, 0, none⟩ = some (.slice pa pn pc) ∧ w'.cell? ⟨gx, 1, none⟩ = some (.slice (some ⟨g, off, none⟩) gn gc) ∧ w'.cell? ⟨g, off + k, none⟩ = some (.int .i64 o) ∧ w'.cell? ⟨g, off + (k - 1), none⟩ = some (.int .i64 v)) (by kernel_rfl) ⟨c0, c1, c2, c3⟩ (fun hHeld => ?_)
                refine take_h 0 ?_ rfl (by kernel_rfl) (by kernel_rfl) (by kernel_rfl) (fun _ _ _ h => h) (Or.inl ⟨by kernel_rfl, ?_⟩) (by assumption) ?_
                rotate_left
                · (intro w hSw; (try dsimp only at hSw); go_simp; try (with_reducible rfl))
                try simp only [Act.put, List.setIfInBounds_toArray, List.set_cons_zero, List.set_cons_succ]
                refine take_h 1 ?_ rfl (by kernel_rfl) (by kernel_rfl) (by kernel_rfl) (fun _ _ _ h => h) (Or.inl ⟨by kernel_rfl, ?_⟩) (by assumption) ?_
                rotate_left
                · (intro w hSw; (try dsimp only at hSw); go_simp; try (with_reducible rfl))
                try simp only [Act.put, List.setIfInBounds_toArray, List.set_cons_zero, List.set_cons_succ]
                refine take_h 2 ?_ rfl (by kernel_rfl) (by kernel_rfl) (by kernel_rfl) (fun _ _ _ h => h) (Or.inl ⟨by kernel_rfl, ?_⟩) (by assumption) ?_
                rotate_left
                · (intro w hSw; (try dsimp only at hSw); go_simp; try (with_reducible rfl))
                try simp only [Act.put, List.setIfInBounds_toArray, List.set_cons_zero, List.set_cons_succ]
                refine take_h 3 ?_ rfl (by kernel_rfl) (by kernel_rfl) (by kernel_rfl) (fun _ _ _ h => h) (Or.inl ⟨by kernel_rfl, ?_⟩) (by assumption) ?_
                rotate_left
                · (intro w hSw; (try dsimp only at hSw); go_simp; try (with_reducible rfl))
                try simp only [Act.put, List.setIfInBounds_toArray, List.set_cons_zero, List.set_cons_succ]
                refine take_h 4 ?_ rfl (by kernel_rfl) (by kernel_rfl) (by kernel_rfl) (fun _ _ _ h => h) (Or.inl ⟨by kernel_rfl, ?_⟩) (by assumption) ?_
                rotate_left
                · (intro w hSw; (try dsimp only at hSw); go_simp; try (with_reducible rfl))
                try simp only [Act.put, List.setIfInBounds_toArray, List.set_cons_zero, List.set_cons_succ]
                refine take_h 5 ?_ rfl (by kernel_rfl) (by kernel_rfl) (by kernel_rfl) (fun _ _ _ h => h) (Or.inl ⟨by kernel_rfl, ?_⟩) (by assumption) ?_
                rotate_left
                · (intro w hSw; (try dsimp only at hSw); go_simp; try (with_reducible rfl))
                try simp only [Act.put, List.setIfInBounds_toArray, List.set_cons_zero, List.set_cons_succ]
                refine take_h 6 ?_ rfl (by kernel_rfl) (by kernel_rfl) (by kernel_rfl) (fun _ _ _ h => h) (Or.inl ⟨by kernel_rfl, ?_⟩) (by assumption) ?_
                rotate_left
                · (intro w hSw; (try dsimp only at hSw); go_simp; try (with_reducible rfl))
                try simp only [Act.put, List.setIfInBounds_toArray, List.set_cons_zero, List.set_cons_succ]
                refine take_h 7 ?_ rfl (by kernel_rfl) (by kernel_rfl) (by kernel_rfl) (fun _ _ _ h => h) (Or.inl ⟨by kernel_rfl, ?_⟩) (by assumption) ?_
                rotate_left
                · (intro w hSw; (try dsimp only at hSw); go_simp; try (with_reducible rfl))
                try simp only [Act.put, List.setIfInBounds_toArray, List.set_cons_zero, List.set_cons_succ]
                refine take_h 8 ?_ rfl (by kernel_rfl) (by kernel_rfl) (by kernel_rfl) (fun _ _ _ h => h) (Or.inl ⟨by kernel_rfl, ?_⟩) (by assumption) ?_
                rotate_left
                · (intro w hSw; (try dsimp only at hSw); go_simp; try (with_reducible rfl))
                try simp only [Act.put, List.setIfInBounds_toArray, List.set_cons_zero, List.set_cons_succ]
                refine take_h 9 ?_ rfl (by kernel_rfl) (by kernel_rfl) (by kernel_rfl) (fun _ _ _ h => h) (Or.inl ⟨by kernel_rfl, ?_⟩) (by assumption) ?_
                rotate_left
                · (intro w hSw; (try dsimp only at hSw); go_simp; try (with_reducible rfl))
                try simp only [Act.put, List.setIfInBounds_toArray, List.set_cons_zero, List.set_cons_succ]
                refine take_h 10 ?_ rfl (by kernel_rfl) (by kernel_rfl) (by kernel_rfl) (fun _ _ _ h => h) (Or.inl ⟨by kernel_rfl, ?_⟩) (by assumption) ?_
                rotate_left
                · (intro w hSw; (try dsimp only at hSw); go_simp; try (with_reducible rfl))
                try simp only [Act.put, List.setIfInBounds_toArray, List.set_cons_zero, List.set_cons_succ]
                refine take_h 11 ?_ rfl (by kernel_rfl) (by kernel_rfl) (by kernel_rfl) (fun _ _ _ h => h) (Or.inl ⟨by kernel_rfl, ?_⟩) (by assumption) ?_
                rotate_left
                · (intro w hSw; (try dsimp only at hSw); go_simp; try (with_reducible rfl))
                try simp only [Act.put, List.setIfInBounds_toArray, List.set_cons_zero, List.set_cons_succ]
                refine take_h 12 ?_ rfl (by kernel_rfl) (by kernel_rfl) (by kernel_rfl) (fun _ _ _ h => h) (Or.inl ⟨by kernel_rfl, ?_⟩) (by assumption) ?_
                rotate_left
                · (intro w hSw; (try dsimp only at hSw); go_simp; try (with_reducible rfl))
                try simp only [Act.put, List.setIfInBounds_toArray, List.set_cons_zero, List.set_cons_succ]
                refine take_h 13 ?_ rfl (by kernel_rfl) (by kernel_rfl) (by kernel_rfl) (fun _ _ _ h => h) (Or.inl ⟨by kernel_rfl, ?_⟩) (by assumption) ?_
                rotate_left
                · (intro w hSw; (try dsimp only at hSw); go_simp; try (with_reducible rfl))
                try simp only [Act.put, List.setIfInBounds_toArray, List.set_cons_zero, List.set_cons_succ]
                refine take_h 14 ?_ rfl (by kernel_rfl) (by kernel_rfl) (by kernel_rfl) (fun _ _ _ h => h) (Or.inl ⟨by kernel_rfl, ?_⟩) (by assumption) ?_
                rotate_left
                · (intro w hSw; (try dsimp only at hSw); go_simp; try (with_reducible rfl))
                try simp only [Act.put, List.setIfInBounds_toArray, List.set_cons_zero, List.set_cons_succ]
                refine take_h 15 ?_ rfl (by kernel_rfl) (by kernel_rfl) (by kernel_rfl) (fun _ _ _ h => h) (Or.inl ⟨by kernel_rfl, ?_⟩) (by assumption) ?_
                rotate_left
                · (intro w hSw; (try dsimp only at hSw); go_simp; try (with_reducible rfl))
                try simp only [Act.put, List.setIfInBounds_toArray, List.set_cons_zero, List.set_cons_succ]
                refine take_h 16 ?_ rfl (by kernel_rfl) (by kernel_rfl) (by kernel_rfl) (fun _ _ _ h => h) (Or.inl ⟨by kernel_rfl, ?_⟩) (by assumption) ?_
                rotate_left
                · (intro w hSw; (try dsimp only at hSw); go_simp; try (with_reducible rfl))
                try simp only [Act.put, List.setIfInBounds_toArray, List.set_cons_zero, List.set_cons_succ]
                refine take_h 17 ?_ rfl (by kernel_rfl) (by kernel_rfl) (by kernel_rfl) (fun _ _ _ h => h) (Or.inl ⟨by kernel_rfl, ?_⟩) (by assumption) ?_
                rotate_left
                · (intro w hSw; (try dsimp only at hSw); go_simp; try (with_reducible rfl))
                try simp only [Act.put, List.setIfInBounds_toArray, List.set_cons_zero, List.set_cons_succ]
                refine take_h 18 ?_ rfl (by kernel_rfl) (by kernel_rfl) (by kernel_rfl) (fun _ _ _ h => h) (Or.inl ⟨by kernel_rfl, ?_⟩) (by assumption) ?_
                rotate_left
                · (intro w hSw; (try dsimp only at hSw); go_simp; try (with_reducible rfl))
                try simp only [Act.put, List.setIfInBounds_toArray, List.set_cons_zero, List.set_cons_succ]
                refine take_h 19 ?_ rfl (by kernel_rfl) (by kernel_rfl) (by kernel_rfl) (fun _ _ _ h => h) (Or.inl ⟨by kernel_rfl, ?_⟩) (by assumption) ?_
                rotate_left
                · (intro w hSw; (try dsimp only at hSw); go_simp; try (with_reducible rfl))
                try simp only [Act.put, List.setIfInBounds_toArray, List.set_cons_zero, List.set_cons_succ]
                refine take_h 20 ?_ rfl (by kernel_rfl) (by kernel_rfl) (by kernel_rfl) (fun _ _ _ h => h) (Or.inl ⟨by kernel_rfl, ?_⟩) (by assumption) ?_
                rotate_left
                · (intro w hSw; (try dsimp only at hSw); go_simp; try (with_reducible rfl))
                try simp only [Act.put, List.setIfInBounds_toArray, List.set_cons_zero, List.set_cons_succ]
                refine take_h 21 ?_ rfl (by kernel_rfl) (by kernel_rfl) (by kernel_rfl) (fun _ _ _ h => h) (Or.inl ⟨by kernel_rfl, ?_⟩) (by assumption) ?_
                rotate_left
                · (intro w hSw; (try dsimp only at hSw); go_simp; try (with_reducible rfl))
                try simp only [Act.put, List.setIfInBounds_toArray, List.set_cons_zero, List.set_cons_succ]
                refine take_h 22 ?_ rfl (by kernel_rfl) (by kernel_rfl) (by kernel_rfl) (fun _ _ _ h => h) (Or.inl ⟨by kernel_rfl, ?_⟩) (by assumption) ?_
                rotate_left
                · (intro w hSw; (try dsimp only at hSw); go_simp; try (with_reducible rfl))
                try simp only [Act.put, List.setIfInBounds_toArray, List.set_cons_zero, List.set_cons_succ]
                refine take_h 23 ?_ rfl (by kernel_rfl) (by kernel_rfl) (by kernel_rfl) (fun _ _ _ h => h) (Or.inl ⟨by kernel_rfl, ?_⟩) (by assumption) ?_
                rotate_left
                · (intro w hSw; (try dsimp only at hSw); go_simp; try (with_reducible rfl))
                try simp only [Act.put, List.setIfInBounds_toArray, List.set_cons_zero, List.set_cons_succ]
                refine call_h 24 rfl (by kernel_rfl) 31 #[.slice pa pn pc, .int .i64 o] (by kernel_rfl) (by go_simp) ?_
                refine (HFi.out wr.drew HBd.out.1).mono ?_
                rintro e w1 ⟨i, rfl, hi, rfl⟩
                refine ⟨_, rfl, hHeld, fun hHeld2 => ?_⟩
                clear hHeld
                have HI := hi
                clear hi
                by_cases hneg : i < 0
                · have HF : Seal (hasK Po.o D.P o = false) := ⟨HI.out.has.1 hneg⟩
                  try simp only [Act.put, List.setIfInBounds_toArray, List.set_cons_zero, List.set_cons_succ]
                  refine take_h 25 ?_ rfl (by kernel_rfl) (by kernel_rfl) (by kernel_rfl) (fun _ _ _ h => h) (Or.inl ⟨by kernel_rfl, ?_⟩) (by assumption) ?_
                  rotate_left
                  · (intro w hSw; (try dsimp only at hSw); go_simp; try (with_reducible rfl))
                  try simp only [Act.put, List.setIfInBounds_toArray, List.set_cons_zero, List.set_cons_succ]
                  refine take_h 26 ?_ rfl (by kernel_rfl) (by kernel_rfl) (by kernel_rfl) (fun _ _ _ h => h) (Or.inl ⟨by kernel_rfl, ?_⟩) (by assumption) ?_
                  rotate_left
                  · (intro w hSw; (try dsimp only at hSw); go_simp; try (with_reducible rfl))
                  try simp only [Act.put, List.setIfInBounds_toArray, List.set_cons_zero, List.set_cons_succ]
                  refine wpAnyH_done (by kernel_rfl) ?_ _
                  clear hHeld2
                  have HN : Seal (rightD D = false) := ⟨rightD_not fun h => by
                    have hh := rightD_iff.1 h
                    (rw [hh.2.2.2 o (List.mem_of_getElem? HX.out)] at HF; cases HF.out)⟩
                  go_wp2
                  go_ret
                  exact ⟨ret_bool HN.out.symm, HBd.out.1⟩
                · have HT : Seal (hasK Po.o D.P o = true) := ⟨by
                    cases e : hasK Po.o D.P o with
                    | true => rfl
                    | false => exact absurd (HI.out.has.2 e) hneg⟩
                  try simp only [Act.put, List.setIfInBounds_toArray, List.set_cons_zero, List.set_cons_succ]
                  refine take_h 25 ?_ rfl (by kernel_rfl) (by kernel_rfl) (by kernel_rfl) (fun _ _ _ h => h) (Or.inl ⟨by kernel_rfl, ?_⟩) (by assumption) ?_
                  rotate_left
                  · (intro w hSw; (try dsimp only at hSw); go_simp; try (with_reducible rfl))
                  try simp only [Act.put, List.setIfInBounds_toArray, List.set_cons_zero, List.set_cons_succ]
                  refine take_h 26 ?_ rfl (by kernel_rfl) (by kernel_rfl) (by kernel_rfl) (fun _ _ _ h => h) (Or.inl ⟨by kernel_rfl, ?_⟩) (by assumption) ?_
                  rotate_left
                  · (intro w hSw; (try dsimp only at hSw); go_simp; try (with_reducible rfl))
                  try simp only [Act.put, List.setIfInBounds_toArray, List.set_cons_zero, List.set_cons_succ]
                  refine wpAnyH_done (by kernel_rfl) ?_ _
                  clear hHeld2 HI
                  have HR := Seal.mk (Ri2.succ HH.out.2.2 HX.out HT.out HP1.out)
                  go_wp2
                  go_roundw
                  case rel => exact ⟨k + 1, by omega, by go_num, ⟨HBd.out.1, HBd.out.2, HR.out⟩⟩
                  case measure => simp [intOf]; omega
        · obtain rfl : k = gn := by omega
          have HT : Seal (rightD D = true) := ⟨rightD_of (fun j x hx => HR1.out.1 j x (by rw [← HL.out.1]; exact (List.getElem?_eq_some_iff.1 hx).1) hx)
            (fun j x y hx hy => HR1.out.2 j x y (by rw [← HL.out.1]; exact (List.getElem?_eq_some_iff.1 hy).1) hx hy)
            (fun j x y hx hy => HH.out.2.2.1 j x y (by rw [← HL.out.2]; exact (List.getElem?_eq_some_iff.1 hy).1) hx hy)
            (fun j x hx => HH.out.2.2.2 j x (by rw [← HL.out.2]; exact (List.getElem?_eq_some_iff.1 hx).1) hx)⟩
          have q5 : ¬ (k : Int) < (k : Int) := by omega
          clear HH HR1
          go_wp2
          go_ret
          exact ⟨ret_bool HT.out.symm, HB2.out⟩

set_option maxHeartbeats 1000000 in
theorem rcheck44_any (pa ga : Option Addr) (pn pc gn gc : Nat) (D : Dv) (w : World) (hP : IsPs w pa pn pc D.P) (hG : IsIs w ga gn gc D.G) :
    Calls Tryd.prog 14 #[.agg #[.slice pa pn pc, .slice ga gn gc]] w fun e w' => e = .returned (.int .i64 (chkD D)) ∧ Below w.heap.size w w' := by
  obtain ⟨X, hX⟩ : ∃ X : World, X = w.alloc (.cells #[.slice pa pn pc, .slice ga gn gc] 25) := ⟨_, rfl⟩
  have HB : Seal (Below w.heap.size w X) := ⟨by rw [hX]; exact below_alloc _ _⟩
  have hrow : X.heap[w.heap.size]? = some (.cells #[.slice pa pn pc, .slice ga gn gc] 25 (0, 0)) := by rw [hX]; exact heap_alloc_new _ _
  have c0 : X.cell? ⟨w.heap.size, 0, none⟩ = some (.slice pa pn pc) := by rw [cell_of_row _ _ _ _ _ _ hrow]; rfl
  have c1 : X.cell? ⟨w.heap.size, 1, none⟩ = some (.slice ga gn gc) := by rw [cell_of_row _ _ _ _ _ _ hrow]; rfl
  have HC : Seal (∀ W, Below w.heap.size w W → Calls Tryd.prog 43 #[.agg #[.slice pa pn pc, .slice ga gn gc]] W fun e w' => e = .returned (.bool (rightD D)) ∧ Below W.heap.size W w') := ⟨fun W h => rright_any pa ga pn pc gn gc D W (hP.below h) (hG.below h)⟩
  have HL : Seal (D.P.length = pn) := ⟨hP.llen⟩
  have hpm := hP.lmax
  obtain ⟨r, hr⟩ : ∃ r, r = rightD D := ⟨_, rfl⟩
  have HR := Seal.mk hr
  rw [← hr] at HC
  clear hr hP hG hrow
  go_enter Tryd.func14, Tryd.ntmps14
  by_cases h1 : 4096 < pn
  · have q1 : (4096 : Int) < (pn : Int) := by omega
    have HE : Seal (2 = chkD D) := ⟨by unfold chkD; rw [HL.out, if_pos h1]⟩
    go_upto_region 1 with (fail)
    rw [← hX]
    clear hX
    go_wp2
    go_ret
    exact ⟨ret_i64 HE.out, HB.out⟩
  · have q1 : ¬ (4096 : Int) < (pn : Int) := by omega
    go_upto_region 1 with (fail)
    rw [← hX]
    clear hX
    go_wp2_with fail
    refine (HC.out X HB.out).mono ?_
    rintro e w1 ⟨rfl, hb⟩
    have HB1 := Seal.mk (HB.out.trans (hb.mono HB.out.size))
    clear hb HC
    have HE : Seal ((if r = true then 0 else 440) = chkD D) := ⟨by unfold chkD; rw [HL.out, if_neg h1, HR.out]⟩
    clear HR
    cases r
    · go_wp2
      go_ret
      exact ⟨ret_i64 (by simpa using HE.out), HB1.out⟩
    · go_wp2
      go_ret
      exact ⟨ret_i64 (by simpa using HE.out), HB1.out⟩
end Frk
