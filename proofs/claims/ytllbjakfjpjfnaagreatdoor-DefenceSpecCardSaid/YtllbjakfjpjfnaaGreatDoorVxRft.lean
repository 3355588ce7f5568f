/- ref57.Timely. -/
import Derived.Test.YtllbjakfjpjfnaaGreatDoorVxgRfm
import Derived.Test.YtllbjakfjpjfnaaGreatDoorVxgHop
namespace Frk
open Go Go.RowKit Go.Proofs
set_option maxRecDepth 100000

set_option maxHeartbeats 4000000 in
theorem rtimely57_any (aE : Option Addr) (nE cE : Nat) (l : List Ep) (aO : Option Addr) (nO cO : Nat) (off : List Int) (x : CaX) (now term : Int) (w : World)
    (hE : IsE w aE nE cE l) (hO : IsIs w aO nO cO off) (hK : IsIs w x.aK x.nK x.cK x.c.K) (hn : x.nK = nO) (hT : 0 ≤ x.c.T ∧ x.c.T < 2097152) (hm : 0 ≤ term ∧ term < 2097152) :
    Calls Tryz.prog 34 #[.slice aE nE cE, .slice aO nO cO, .agg x.C.toArray, .int .i64 now, .int .i64 term] w fun e w' => e = .returned (.bool (timeB l off x.c now term)) ∧ Below w.heap.size w w' := by
  obtain ⟨X, hX⟩ : ∃ X : World, X = w.alloc (.cells x.C.toArray 35) := ⟨_, rfl⟩
  have b1 : Below w.heap.size w X := by rw [hX]; exact below_alloc _ _
  obtain ⟨gx, hgx⟩ : ∃ g, g = w.heap.size := ⟨_, rfl⟩
  have hcx := caAt_of (W := X) (g := gx) (x := x) (by rw [hX, hgx]; exact rangeAt_row (heap_alloc_new w _))
  obtain ⟨xA, hxA⟩ : ∃ z, z = x.c.A := ⟨_, rfl⟩
  obtain ⟨xT, hxT⟩ : ∃ z, z = x.c.T := ⟨_, rfl⟩
  obtain ⟨aK, haK⟩ : ∃ z, z = x.aK := ⟨_, rfl⟩
  obtain ⟨cK, hcK⟩ : ∃ z, z = x.cK := ⟨_, rfl⟩
  obtain ⟨KL, hKL⟩ : ∃ z, z = x.c.K := ⟨_, rfl⟩
  have k1 := hcx.A
  have k4 := hcx.K
  have k14 := hcx.T
  rw [← hxA] at k1
  rw [← hxT] at k14 hT
  rw [← haK, hn, ← hcK] at k4
  rw [← haK, hn, ← hcK, ← hKL] at hK
  have HK : Seal (∀ W, Below X.heap.size X W → W.cell? ⟨gx, 1, none⟩ = some (.int .i64 xA) ∧ W.cell? ⟨gx, 4, none⟩ = some (.slice aK nO cK) ∧ W.cell? ⟨gx, 14, none⟩ = some (.int .i64 xT)) := ⟨fun W h => ⟨cell_below' h k1, cell_below' h k4, cell_below' h k14⟩⟩
  have HI : Seal (∀ W, Below X.heap.size X W → Below w.heap.size w W ∧ IsE W aE nE cE l ∧ IsIs W aO nO cO off ∧ IsIs W aK nO cK KL) := ⟨fun W h => by
    have h2 := b1.trans (h.mono b1.size)
    exact ⟨h2, hE.below h2, hO.below h2, hK.below h2⟩⟩
  obtain ⟨R, hR⟩ : ∃ R, R = timeB l off x.c now term := ⟨_, rfl⟩
  have hll := hO.llen
  have hlm := hO.lmax
  have HR : Seal (R = true ↔ keysB l off KL xA now nO ∧ xT ≤ now ∧ now - xT ≤ term) := ⟨by rw [hR, timeB_iff, hKL, hxA, hxT, hll]⟩
  have HNo : Seal (¬ (keysB l off KL xA now nO ∧ xT ≤ now ∧ now - xT ≤ term) → R = false) := ⟨fun h => by
    cases hr : R with
    | false => rfl
    | true => exact absurd (HR.out.1 hr) h⟩
  rw [← hR]
  obtain ⟨CX, hCX⟩ : ∃ C, C = x.C := ⟨_, rfl⟩
  rw [← hCX] at hX ⊢
  have q1 : IntKind.i64.wrap (xT + term) = xT + term := IntWalk.i64_in _ (by omega)
  clear hcx hxA hxT haK hcK hKL hE hO hK hn hR hCX b1 hll hT hm
  go_enter Tryz.func34, Tryz.ntmps34
  go_upto_region 1 with (fail)
  rw [← hX, ← hgx]
  clear hX hgx
  have HQ : Seal (Below X.heap.size X X) := ⟨Below.refl _ _⟩
  by_cases a1 : now < xT
  · have hr := HNo.out (fun h => by have := h.2.1; omega)
    go_wp2
    go_ret
    exact ⟨by first | rfl | (rw [hr]; rfl) | simp [*], (HI.out X HQ.out).1⟩
  by_cases a2 : xT + term < now
  · have hr := HNo.out (fun h => by have := h.2.2; omega)
    go_wp2
    go_ret
    exact ⟨by first | rfl | (rw [hr]; rfl) | simp [*], (HI.out X HQ.out).1⟩
  have HAB : Seal (xT ≤ now ∧ now - xT ≤ term) := ⟨by omega⟩
  go_wp2
  go_loopw [11] (fun i wr => ∃ k : Nat, k ≤ nO ∧ i = .int .i64 k ∧ Seal (keysB l off KL xA now k) ∧ Seal (Below X.heap.size X wr)) (fun i _ => nO - (intOf i).toNat)
  case atStart => exact ⟨0, Nat.zero_le _, rfl, ⟨keysB_zero _ _ _ _ _⟩, HQ⟩
  case round =>
    obtain ⟨k, hk, rfl, HKs, HB⟩ := hrel
    clear k1 k4 k14
    by_cases hlt : k < nO
    · have p1 : (k : Int) < (nO : Int) := by omega
      have p2 : (0 : Int) ≤ (k : Int) := by omega
      have p3 : IntKind.i64.wrap ((k : Int) + 1) = ((k + 1 : Nat) : Int) := by rw [IntWalk.i64_in _ (by omega)]; omega
      obtain ⟨_, hE, hO, hK⟩ := HI.out wr HB.out
      obtain ⟨go, oo, rfl⟩ : ∃ g o, aO = some ⟨g, o, none⟩ := by
        rcases hO.at_ with h0 | ⟨g, o, e, _, _⟩
        · omega
        · exact ⟨g, o, e⟩
      obtain ⟨gk, ok, rfl⟩ : ∃ g o, aK = some ⟨g, o, none⟩ := by
        rcases hK.at_ with h0 | ⟨g, o, e, _, _⟩
        · omega
        · exact ⟨g, o, e⟩
      obtain ⟨o, ho⟩ : ∃ o, o = off.getD k 0 := ⟨_, rfl⟩
      obtain ⟨kk, hkk⟩ : ∃ o, o = KL.getD k 0 := ⟨_, rfl⟩
      have co : wr.cell? ⟨go, oo + k, none⟩ = some (.int .i64 o) := by rw [ho]; exact isIs_cellR hO hlt
      obtain ⟨k1, k4, k14⟩ := HK.out wr HB.out
      obtain ⟨⟨u1, u2, u3⟩, hu⟩ : ∃ r, r = keyR l o xA := ⟨_, rfl⟩
      obtain ⟨⟨v1, v2, v3⟩, hv⟩ : ∃ r, r = keyR l o now := ⟨_, rfl⟩
      have HN : Seal (keysB l off KL xA now (k + 1) ↔ keysB l off KL xA now k ∧ (u2 = true ∧ u1 = kk) ∧ (v2 = true ∧ v1 = kk)) := ⟨by
        rw [keysB_succ, ← ho, ← hkk, holdB_iff, holdB_iff, ← hu, ← hv]
        have e : ∀ z : Int × Bool × Int, z.2.1 = true → z = keyR l o xA ∨ z = keyR l o now → z.2.2 = 0 := by
          intro z hz h
          rcases h with rfl | rfl <;> · unfold keyR at hz ⊢; split <;> first | rfl | (rename_i h; rw [if_pos h] at hz; cases hz)
        constructor
        · rintro ⟨h1, h2, h3⟩
          exact ⟨h1, ⟨h2.1, h2.2.2⟩, h3.1, h3.2.2⟩
        · rintro ⟨h1, h2, h3⟩
          exact ⟨h1, ⟨h2.1, e _ h2.1 (.inl hu), h2.2⟩, h3.1, e _ h3.1 (.inr hv), h3.2⟩⟩
      have HU := Seal.mk hu
      have HV := Seal.mk hv
      have Hkk := Seal.mk hkk
      have Ho := Seal.mk ho
      clear hu hv hkk ho hE hO hK
      go_wp2_with fail
      refine wp_region_held_drew (S := fun W => W.cell? ⟨go, oo + k, none⟩ = some (.int .i64 o) ∧ W.cell? ⟨gx, 1, none⟩ = some (.int .i64 xA)) (by kernel_rfl) ⟨co, k1⟩ (fun hHeld => ?_)
      obtain ⟨V, hV⟩ : ∃ V, V = wr.drew := ⟨_, rfl⟩
      have HB := Seal.mk (HB.out.trans ((below_drewn_f wr).mono HB.out.size))
      rw [← hV] at hHeld HB ⊢
      clear hV co k1 k4 k14
      refine take_h 0 ?_ rfl (by kernel_rfl) (by kernel_rfl) (by kernel_rfl) (fun _ _ _ h => h) (Or.inl ⟨by kernel_rfl, ?_⟩) (by assumption) ?_
      rotate_left
      · (intro w hSw; (try dsimp only at hSw); go_simp; try (with_reducible rfl))
      try simp only [Act.put, List.setIfInBounds_toArray, List.set_cons_zero, List.set_cons_succ]
      refine take_h 1 ?_ rfl (by kernel_rfl) (by kernel_rfl) (by kernel_rfl) (fun _ _ _ h => h) (Or.inl ⟨by kernel_rfl, ?_⟩) (by assumption) ?_
      rotate_left
      · (intro w hSw; (try dsimp only at hSw); go_simp; try (with_reducible rfl))
      try simp only [Act.put, List.setIfInBounds_toArray, List.set_cons_zero, List.set_cons_succ]
      refine take_h 2 ?_ rfl (by kernel_rfl) (by kernel_rfl) (by kernel_rfl) (fun _ _ _ h => h) (Or.inl ⟨by kernel_rfl, ?_⟩) (by assumption) ?_
      rotate_left
      · (intro w hSw; (try dsimp only at hSw); go_simp; try (with_reducible rfl))
      try simp only [Act.put, List.setIfInBounds_toArray, List.set_cons_zero, List.set_cons_succ]
      refine take_h 3 ?_ rfl (by kernel_rfl) (by kernel_rfl) (by kernel_rfl) (fun _ _ _ h => h) (Or.inl ⟨by kernel_rfl, ?_⟩) (by assumption) ?_
      rotate_left
      · (intro w hSw; (try dsimp only at hSw); go_simp; try (with_reducible rfl))
      try simp only [Act.put, List.setIfInBounds_toArray, List.set_cons_zero, List.set_cons_succ]
      refine take_h 4 ?_ rfl (by kernel_rfl) (by kernel_rfl) (by kernel_rfl) (fun _ _ _ h => h) (Or.inl ⟨by kernel_rfl, ?_⟩) (by assumption) ?_
      rotate_left
      · (intro w hSw; (try dsimp only at hSw); go_simp; try (with_reducible rfl))
      try simp only [Act.put, List.setIfInBounds_toArray, List.set_cons_zero, List.set_cons_succ]
      refine take_h 5 ?_ rfl (by kernel_rfl) (by kernel_rfl) (by kernel_rfl) (fun _ _ _ h => h) (Or.inl ⟨by kernel_rfl, ?_⟩) (by assumption) ?_
      rotate_left
      · (intro w hSw; (try dsimp only at hSw); go_simp; try (with_reducible rfl))
      try simp only [Act.put, List.setIfInBounds_toArray, List.set_cons_zero, List.set_cons_succ]
      refine take_h 6 ?_ rfl (by kernel_rfl) (by kernel_rfl) (by kernel_rfl) (fun _ _ _ h => h) (Or.inl ⟨by kernel_rfl, ?_⟩) (by assumption) ?_
      rotate_left
      · (intro w hSw; (try dsimp only at hSw); go_simp; try (with_reducible rfl))
      try simp only [Act.put, List.setIfInBounds_toArray, List.set_cons_zero, List.set_cons_succ]
      refine take_h 7 ?_ rfl (by kernel_rfl) (by kernel_rfl) (by kernel_rfl) (fun _ _ _ h => h) (Or.inl ⟨by kernel_rfl, ?_⟩) (by assumption) ?_
      rotate_left
      · (intro w hSw; (try dsimp only at hSw); go_simp; try (with_reducible rfl))
      try simp only [Act.put, List.setIfInBounds_toArray, List.set_cons_zero, List.set_cons_succ]
      have hc := rkey47_any aE nE cE l o xA V (HI.out V HB.out).2.1
      rw [← HU.out] at hc
      refine call_h 8 rfl (by kernel_rfl) 56 #[.slice aE nE cE, .int .i64 o, .int .i64 xA] (by kernel_rfl) (by go_simp) ?_
      refine hc.mono ?_
      rintro e V1 ⟨rfl, hb⟩
      refine ⟨_, rfl, ⟨cell_below' hb hHeld.1, cell_below' hb hHeld.2⟩, fun hHeld2 => ?_⟩
      have HB := Seal.mk (HB.out.trans (hb.mono HB.out.size))
      have co := hHeld2.1
      clear hHeld hb hc
      have hHeld := hHeld2
      clear hHeld2
      try simp only [Act.put, List.setIfInBounds_toArray, List.set_cons_zero, List.set_cons_succ]
      refine take_h 9 ?_ rfl (by kernel_rfl) (by kernel_rfl) (by kernel_rfl) (fun _ _ _ h => h) (Or.inl ⟨by kernel_rfl, ?_⟩) (by assumption) ?_
      rotate_left
      · (intro w hSw; (try dsimp only at hSw); go_simp; try (with_reducible rfl))
      try simp only [Act.put, List.setIfInBounds_toArray, List.set_cons_zero, List.set_cons_succ]
      refine take_h 10 ?_ rfl (by kernel_rfl) (by kernel_rfl) (by kernel_rfl) (fun _ _ _ h => h) (Or.inl ⟨by kernel_rfl, ?_⟩) (by assumption) ?_
      rotate_left
      · (intro w hSw; (try dsimp only at hSw); go_simp; try (with_reducible rfl))
      try simp only [Act.put, List.setIfInBounds_toArray, List.set_cons_zero, List.set_cons_succ]
      refine take_h 11 ?_ rfl (by kernel_rfl) (by kernel_rfl) (by kernel_rfl) (fun _ _ _ h => h) (Or.inl ⟨by kernel_rfl, ?_⟩) (by assumption) ?_
      rotate_left
      · (intro w hSw; (try dsimp only at hSw); go_simp; try (with_reducible rfl))
      try simp only [Act.put, List.setIfInBounds_toArray, List.set_cons_zero, List.set_cons_succ]
      refine take_h 12 ?_ rfl (by kernel_rfl) (by kernel_rfl) (by kernel_rfl) (fun _ _ _ h => h) (Or.inl ⟨by kernel_rfl, ?_⟩) (by assumption) ?_
      rotate_left
      · (intro w hSw; (try dsimp only at hSw); go_simp; try (with_reducible rfl))
      try simp only [Act.put, List.setIfInBounds_toArray, List.set_cons_zero, List.set_cons_succ]
      refine take_h 13 ?_ rfl (by kernel_rfl) (by kernel_rfl) (by kernel_rfl) (fun _ _ _ h => h) (Or.inl ⟨by kernel_rfl, ?_⟩) (by assumption) ?_
      rotate_left
      · (intro w hSw; (try dsimp only at hSw); go_simp; try (with_reducible rfl))
      try simp only [Act.put, List.setIfInBounds_toArray, List.set_cons_zero, List.set_cons_succ]
      refine take_h 14 ?_ rfl (by kernel_rfl) (by kernel_rfl) (by kernel_rfl) (fun _ _ _ h => h) (Or.inl ⟨by kernel_rfl, ?_⟩) (by assumption) ?_
      rotate_left
      · (intro w hSw; (try dsimp only at hSw); go_simp; try (with_reducible rfl))
      try simp only [Act.put, List.setIfInBounds_toArray, List.set_cons_zero, List.set_cons_succ]
      refine take_h 15 ?_ rfl (by kernel_rfl) (by kernel_rfl) (by kernel_rfl) (fun _ _ _ h => h) (Or.inl ⟨by kernel_rfl, ?_⟩) (by assumption) ?_
      rotate_left
      · (intro w hSw; (try dsimp only at hSw); go_simp; try (with_reducible rfl))
      try simp only [Act.put, List.setIfInBounds_toArray, List.set_cons_zero, List.set_cons_succ]
      refine wpAnyH_done (by kernel_rfl) ?_ _
      clear hHeld
      go_wp2_with fail
      have hc := rkey47_any aE nE cE l o now V1 (HI.out V1 HB.out).2.1
      rw [← HV.out] at hc
      refine hc.mono ?_
      rintro e V2 ⟨rfl, hb⟩
      have HB := Seal.mk (HB.out.trans (hb.mono HB.out.size))
      obtain ⟨k1, k4, k14⟩ := HK.out V2 HB.out
      have ck : V2.cell? ⟨gk, ok + k, none⟩ = some (.int .i64 kk) := by rw [Hkk.out]; exact isIs_cellR (HI.out V2 HB.out).2.2.2 hlt
      have hbw := (HI.out V2 HB.out).1
      have HW := Seal.mk hbw
      clear hb hc co hbw HU HV
      cases u2 with
      | false =>
        have hr := HNo.out (fun h => by
          have h1 : keysB l off KL xA now (k + 1) := fun j hj => h.1 j (by omega)
          have h2 := HN.out.1 h1
          first | exact absurd h2.2.1.1 (by decide) | exact absurd h2.2.2.1 (by decide) | exact absurd h2.2.1.1 (by decide))
        go_wp2
        go_ret
        exact ⟨by first | rfl | (rw [hr]; rfl) | simp [*], HW.out⟩
      | true =>
        cases v2 with
        | false =>
          have hr := HNo.out (fun h => by
            have h1 : keysB l off KL xA now (k + 1) := fun j hj => h.1 j (by omega)
            have h2 := HN.out.1 h1
            first | exact absurd h2.2.1.1 (by decide) | exact absurd h2.2.2.1 (by decide) | exact absurd h2.2.2.1 (by decide))
          go_wp2
          go_ret
          exact ⟨by first | rfl | (rw [hr]; rfl) | simp [*], HW.out⟩
        | true =>
          by_cases c1 : u1 = kk
          · by_cases c2 : v1 = kk
            · have HN1 := Seal.mk (HN.out.2 ⟨HKs.out, ⟨rfl, c1⟩, rfl, c2⟩)
              clear HN
              subst c1
              subst c2
              go_wp2
              exact ⟨⟨k + 1, by omega, rfl, HN1, HB⟩, by simp only [intOf]; omega⟩
            · have hr := HNo.out (fun h => by
                have h1 : keysB l off KL xA now (k + 1) := fun j hj => h.1 j (by omega)
                exact absurd (HN.out.1 h1).2.2.2 c2)
              subst c1
              clear HN
              go_wp2
              go_ret
              exact ⟨by first | rfl | (rw [hr]; rfl) | simp [*], HW.out⟩
          · skip
            have hr := HNo.out (fun h => by
              have h1 : keysB l off KL xA now (k + 1) := fun j hj => h.1 j (by omega)
              have h2 := HN.out.1 h1
              first | exact absurd h2.2.1.1 (by decide) | exact absurd h2.2.2.1 (by decide) | exact absurd h2.2.1.2 c1)
            go_wp2
            go_ret
            exact ⟨by first | rfl | (rw [hr]; rfl) | simp [*], HW.out⟩
    · obtain rfl : k = nO := by omega
      have p1 : ¬ (k : Int) < (k : Int) := by omega
      have hr : R = true := HR.out.2 ⟨HKs.out, HAB.out⟩
      have hbw := (HI.out wr HB.out).1
      have HW := Seal.mk hbw
      clear hbw
      go_wp2
      go_ret
      exact ⟨by first | rfl | (rw [hr]; rfl) | simp [*], HW.out⟩
end Frk
