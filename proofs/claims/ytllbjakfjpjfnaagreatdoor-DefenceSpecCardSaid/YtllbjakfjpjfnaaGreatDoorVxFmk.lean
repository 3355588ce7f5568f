/- Law 57: marks compared, searched; do they rise? (compare and search are printed by genfmk.py out of Ddb) -/
import Derived.Test.YtllbjakfjpjfnaaGreatDoorVxgFct
namespace Frk
open Go Go.RowKit Go.Proofs
set_option maxRecDepth 100000

theorem slice_mk (g : Nat) (w : World) : (Instr.sliceAt 61 (.pointer (some ⟨g, 0, none⟩)) none none none).run Tryz.prog w = .ok (.slice (some ⟨g, 0, none⟩) 32 32) w := by kernel_rfl
theorem mk_info (d : Bytes) (h : d.length = 32) : (Tryz.prog.info? 61).map (·.size) = some (d.map B).length := by rw [List.length_map, h]; kernel_rfl
set_option maxHeartbeats 1000000 in
theorem fmark_any (a b : Bytes) (w : World) (ha : a.length = 32) (hb : b.length = 32) :
    Calls Tryz.prog 18 #[.agg (a.map B).toArray, .agg (b.map B).toArray] w fun e w' => e = .returned (.int .i64 (cmpB a b)) ∧ Below w.heap.size w w' := by
  have h1 : Seal (IsB ((w.alloc (.cells (a.map B).toArray 61)).alloc (.cells (b.map B).toArray 61)) (some ⟨w.heap.size, 0, none⟩) 32 32 a) := ⟨(isB_new w a 32 _ (0, 0) ha (by decide)).below (below_alloc _ _)⟩
  have h2 : Seal (IsB ((w.alloc (.cells (a.map B).toArray 61)).alloc (.cells (b.map B).toArray 61)) (some ⟨w.heap.size + 1, 0, none⟩) 32 32 b) := ⟨by
    have := isB_new (w.alloc (.cells (a.map B).toArray 61)) b 32 61 (0, 0) hb (by decide)
    rwa [size_alloc] at this⟩
  have HB : Seal (Below w.heap.size w ((w.alloc (.cells (a.map B).toArray 61)).alloc (.cells (b.map B).toArray 61))) := ⟨((Below.refl _ w).alloc (Nat.le_refl _) _).alloc (by rw [size_alloc]; omega) _⟩
  have hs := fun g W => slice_mk g W
  clear ha hb
  obtain ⟨A, hA⟩ : ∃ A : Array Value, A = (a.map B).toArray := ⟨_, rfl⟩
  obtain ⟨D, hD⟩ : ∃ D : Array Value, D = (b.map B).toArray := ⟨_, rfl⟩
  rw [← hA, ← hD] at h1 h2 HB ⊢
  clear hA hD
  go_enter Tryz.func18, Tryz.ntmps18
  go_wp2_with fail
  go_quiet ((go_at_call 47; exact quiet_left (bytesCompare_any (h1.out.drewN _) (h2.out.drewN _))))
  go_wp2
  go_ret
  exact ⟨rfl, ⟨HB.out.os, HB.out.tape, HB.out.output, HB.out.size, HB.out.block⟩⟩

set_option maxHeartbeats 1000000 in
theorem fbsearch_any (a : Option Addr) (len cap : Nat) (l : List Bytes) (d : Bytes) (w : World) (hd : IsD w a len cap l) (h32 : d.length = 32) (hu : usedB l = true) :
    Calls Tryz.prog 24 #[.slice a len cap, .agg (d.map B).toArray, .func (.func 18) #[] #[]] w fun e w' => e = .returned (.tuple #[.int .i64 (atB l d : Nat), .bool (hasB l d)]) ∧ Below w.heap.size w w' := by
  have HL := Seal.mk hd.llen
  have hlm := hd.lmax
  have HU := Seal.mk hu
  have HD32 := Seal.mk h32
  have i1 := mk_info d h32
  have ut := Tryz.underlying61
  have HC : Seal (∀ x y W, x.length = 32 → y.length = 32 → Calls Tryz.prog 18 #[.agg (x.map B).toArray, .agg (y.map B).toArray] W fun e w' => e = .returned (.int .i64 (cmpB x y)) ∧ Below W.heap.size W w') := ⟨fun x y W h1 h2 => fmark_any x y W h1 h2⟩
  obtain ⟨X, hX⟩ : ∃ X : World, Seal (X = w.alloc (.cells (d.map B).toArray 61)) := ⟨_, ⟨rfl⟩⟩
  have hXb : Seal (Below w.heap.size w X) := ⟨by rw [hX.out]; exact below_alloc _ _⟩
  have hXs : Seal (X.heap.size = w.heap.size + 1) := ⟨by rw [hX.out, size_alloc]⟩
  have hXr : Seal (X.rangeAt w.heap.size 0 (d.map B)) := ⟨by rw [hX.out]; exact rangeAt_new w _ _ _⟩
  have HD : Seal (IsD X a len cap l) := ⟨hd.of_heap hXb.out⟩
  clear hd hu h32
  go_enter Tryz.func24, Tryz.ntmps24
  go_wp2
  rw [← hX.out]
  go_loopw [9, 10] (fun lo hi wr => ∃ i j : Nat, i ≤ j ∧ j ≤ len ∧ lo = .int .i64 i ∧ hi = .int .i64 j ∧ Seal (Below X.heap.size X wr ∧ (∀ t, t < i → blt (l.getD t []) d = true) ∧ (j < len → blt (l.getD j []) d = false))) (fun lo hi _ => (intOf hi - intOf lo).toNat)
  case atStart => exact ⟨0, len, by omega, by omega, rfl, rfl, ⟨by rw [hX.out]; exact Below.refl _ _, fun t ht => by omega, fun h => by omega⟩⟩
  case round =>
    obtain ⟨i, j, hij, hj, rfl, rfl, hH⟩ := hrel
    by_cases hlt : i < j
    · have HDr := HD.out.of_heap hH.out.1
      have rX := rangeAt_below' hXr.out hH.out.1
      rcases HDr.at_ with h0 | ⟨g, off, rfl, hr, hg⟩
      · omega
      · obtain ⟨m, hm⟩ : ∃ m, m = (i + j) / 2 := ⟨_, rfl⟩
        have hm1 : i ≤ m ∧ m < j := by omega
        have q0 := mid_bits i j (by omega)
        rw [← hm] at q0
        obtain ⟨x, hx⟩ : ∃ x, x = l.getD m [] := ⟨_, rfl⟩
        have r1 := range_dg hr HDr.each (i := m) (by rw [HL.out]; omega)
        have x32 := getD_len HDr.each (i := m) (by rw [HL.out]; omega)
        rw [← hx] at r1 x32
        have HC1 : Seal (∀ W, Calls Tryz.prog 18 #[.agg (x.map B).toArray, .agg (d.map B).toArray] W fun e w' => e = .returned (.int .i64 (cmpB x d)) ∧ Below W.heap.size W w') := ⟨fun W => HC.out x d W x32 HD32.out⟩
        have i2 := mk_info x x32
        have HX := Seal.mk hx
        have HM := Seal.mk hm
        have q5 : (m : Int) < (len : Int) := by omega
        clear hr HDr hx x32 hm
        go_wp2_with fail
        go_still_tail 6, (by kernel_rfl)
        refine wpStill_load_mid rfl 61 (.tmp 27) rfl g (off + m * 32) rfl (x.map B) _ r1 ut rfl i2 ?_
        refine wpStill_load_mid rfl 61 (.tmp 4) rfl w.heap.size 0 rfl (d.map B) _ rX ut rfl i1 ?_
        refine wpStill_nil ?_
        change wpList _ _ _ _ _ wr.drew
        go_wp2_with fail
        refine (HC1.out _).mono ?_
        rintro e w1 ⟨rfl, hb1⟩
        have HB1 : Seal (Below X.heap.size X w1) := ⟨hH.out.1.trans ((show Below wr.heap.size wr w1 from ⟨hb1.os, hb1.tape, hb1.output, hb1.size, hb1.block⟩).mono hH.out.1.size)⟩
        clear hb1 HC1 r1 rX q0
        by_cases hc : cmpB x d < 0
        · have HL1 : Seal (blt (l.getD m []) d = true) := ⟨by rw [← HX.out]; exact (cmpB_neg _ _).1 hc⟩
          generalize cmpB x d = c at *
          go_wp2
          go_roundw
          case rel =>
            refine ⟨m + 1, j, by omega, hj, by go_num, rfl, ⟨HB1.out, fun t ht => ?_, hH.out.2.2⟩⟩
            by_cases htm : t = m
            · subst htm; exact HL1.out
            · exact blt_trans (used_lt HU.out m t (by omega) (by rw [HL.out]; omega)) HL1.out
          case measure => simp [intOf]; omega
        · have HL1 : Seal (blt (l.getD m []) d = false) := ⟨by
            cases h : blt (l.getD m []) d with
            | false => rfl
            | true => rw [← HX.out] at h; exact absurd ((cmpB_neg _ _).2 h) hc⟩
          generalize cmpB x d = c at *
          go_wp2
          go_roundw
          case rel => exact ⟨i, m, hm1.1, by omega, rfl, rfl, ⟨HB1.out, hH.out.2.1, fun _ => HL1.out⟩⟩
          case measure => simp [intOf]; omega
    · obtain rfl : i = j := by omega
      have HA : Seal (i = atB l d) := ⟨atB_unique (by rw [HL.out]; exact hj) hH.out.2.1 (fun h => hH.out.2.2 (by rw [HL.out] at h; exact h))⟩
      have HBw : Seal (Below w.heap.size w wr) := ⟨hXb.out.trans (hH.out.1.mono hXb.out.size)⟩
      by_cases hil : i < len
      · have HDr := HD.out.of_heap hH.out.1
        have rX := rangeAt_below' hXr.out hH.out.1
        rcases HDr.at_ with h0 | ⟨g, off, rfl, hr, hg⟩
        · omega
        · obtain ⟨x, hx⟩ : ∃ x, x = l.getD i [] := ⟨_, rfl⟩
          have r1 := range_dg hr HDr.each (i := i) (by rw [HL.out]; omega)
          have x32 := getD_len HDr.each (i := i) (by rw [HL.out]; omega)
          rw [← hx] at r1 x32
          have HC1 : Seal (∀ W, Calls Tryz.prog 18 #[.agg (x.map B).toArray, .agg (d.map B).toArray] W fun e w' => e = .returned (.int .i64 (cmpB x d)) ∧ Below W.heap.size W w') := ⟨fun W => HC.out x d W x32 HD32.out⟩
          have i2 := mk_info x x32
          have HF : Seal ((cmpB x d == 0) = hasB l d) := ⟨by
            rw [Bool.eq_iff_iff, has_iff_at HU.out, ← HA.out, ← hx, beq_iff_eq, cmpB_zero, HL.out]
            exact ⟨fun h => ⟨hil, h⟩, fun h => h.2⟩⟩
          have q5 : (i : Int) < (len : Int) := by omega
          clear hr HDr hx x32 hlt
          go_wp2_with fail
          refine wp_region_held_drew (S := fun w' => w'.rangeAt g (off + i * 32) (x.map B) ∧ w'.rangeAt w.heap.size 0 (d.map B)) (by kernel_rfl) ⟨r1, rX⟩ (fun hHeld => ?_)
          refine take_h 0 ?_ rfl (by kernel_rfl) (by kernel_rfl) (by kernel_rfl) (fun _ _ _ h => h) (Or.inl ⟨by kernel_rfl, ?_⟩) (by assumption) ?_
          rotate_left
          · (intro w hSw; (try dsimp only at hSw); go_simp; try (with_reducible rfl))
          try simp only [Act.put, List.setIfInBounds_toArray, List.set_cons_zero, List.set_cons_succ]
          refine take_h 1 ?_ rfl (by kernel_rfl) (by kernel_rfl) (by kernel_rfl) (fun _ _ _ h => h) (Or.inl ⟨by kernel_rfl, ?_⟩) (by assumption) ?_
          rotate_left
          · (intro w hSw; (try dsimp only at hSw); go_simp; try (with_reducible rfl))
          try simp only [Act.put, List.setIfInBounds_toArray, List.set_cons_zero, List.set_cons_succ]
          refine take_h 2 ?_ rfl (by kernel_rfl) (by kernel_rfl) (by kernel_rfl) (fun _ _ _ h => h) (Or.inl ⟨by kernel_rfl, ?_⟩) (by assumption) ?_
          rotate_left
          · (intro w hSw; (try dsimp only at hSw); go_simp; try (with_reducible rfl))
          try simp only [Act.put, List.setIfInBounds_toArray, List.set_cons_zero, List.set_cons_succ]
          refine take_h 3 ?_ rfl (by kernel_rfl) (by kernel_rfl) (by kernel_rfl) (fun _ _ _ h => h) (Or.inl ⟨by kernel_rfl, ?_⟩) (by assumption) ?_
          rotate_left
          · (intro w hSw; (try dsimp only at hSw); go_simp; try (with_reducible rfl))
          try simp only [Act.put, List.setIfInBounds_toArray, List.set_cons_zero, List.set_cons_succ]
          refine take_h 4 ?_ rfl (by kernel_rfl) (by kernel_rfl) (by kernel_rfl) (fun _ _ _ h => h) (Or.inl ⟨by kernel_rfl, ?_⟩) (by assumption) ?_
          rotate_left
          · (intro w hSw; (try dsimp only at hSw); go_simp; try (with_reducible rfl))
          try simp only [Act.put, List.setIfInBounds_toArray, List.set_cons_zero, List.set_cons_succ]
          refine take_h 5 ?_ rfl (by kernel_rfl) (by kernel_rfl) (by kernel_rfl) (fun _ _ _ h => h) (Or.inl ⟨by kernel_rfl, ?_⟩) (by assumption) ?_
          rotate_left
          · (intro w hSw; (try dsimp only at hSw); go_simp; try (with_reducible rfl))
          try simp only [Act.put, List.setIfInBounds_toArray, List.set_cons_zero, List.set_cons_succ]
          refine take_h 6 ?_ rfl (by kernel_rfl) (by kernel_rfl) (by kernel_rfl) (fun _ _ _ h => h) (Or.inl ⟨by kernel_rfl, ?_⟩) (by assumption) ?_
          rotate_left
          · (intro w hSw; (try dsimp only at hSw); go_simp; try (with_reducible rfl))
          try simp only [Act.put, List.setIfInBounds_toArray, List.set_cons_zero, List.set_cons_succ]
          refine take_h 7 ?_ rfl (by kernel_rfl) (by kernel_rfl) (by kernel_rfl) (fun _ _ _ h => h) (Or.inl ⟨by kernel_rfl, ?_⟩) (by assumption) ?_
          rotate_left
          · (intro w hSw; (try dsimp only at hSw); go_simp; try (with_reducible rfl))
          try simp only [Act.put, List.setIfInBounds_toArray, List.set_cons_zero, List.set_cons_succ]
          refine take_h 8 ?_ rfl (by kernel_rfl) (by kernel_rfl) (by kernel_rfl) (fun _ _ _ h => h) (Or.inl ⟨by kernel_rfl, ?_⟩) (by assumption) ?_
          rotate_left
          · (intro w hSw; (try dsimp only at hSw); go_simp; try (with_reducible rfl))
          try simp only [Act.put, List.setIfInBounds_toArray, List.set_cons_zero, List.set_cons_succ]
          refine take_h 9 _ rfl (by kernel_rfl) (by kernel_rfl) (by kernel_rfl) (fun _ _ _ h => h) (yieldsIf_load_mid (by kernel_rfl) 61 (.tmp 43) rfl g (off + i * 32) rfl (x.map B) _ (fun w hSw => hSw.1) ut rfl i2) (by assumption) ?_
          try simp only [Act.put, List.setIfInBounds_toArray, List.set_cons_zero, List.set_cons_succ]
          refine take_h 10 _ rfl (by kernel_rfl) (by kernel_rfl) (by kernel_rfl) (fun _ _ _ h => h) (yieldsIf_load_mid (by kernel_rfl) 61 (.tmp 4) rfl w.heap.size 0 rfl (d.map B) _ (fun w hSw => hSw.2) ut rfl i1) (by assumption) ?_
          try simp only [Act.put, List.setIfInBounds_toArray, List.set_cons_zero, List.set_cons_succ]
          refine call_h 11 rfl (by kernel_rfl) 18 #[.agg (x.map B).toArray, .agg (d.map B).toArray] (by kernel_rfl) (by go_simp) ?_
          refine (HC1.out _).mono ?_
          rintro e w1 ⟨rfl, hb1⟩
          have hb2 : Below wr.heap.size wr w1 := ⟨hb1.os, hb1.tape, hb1.output, hb1.size, hb1.block⟩
          have HB1 : Seal (Below w.heap.size w w1) := ⟨HBw.out.trans (hb2.mono HBw.out.size)⟩
          refine ⟨_, rfl, ⟨rangeAt_below' r1 hb2, rangeAt_below' rX hb2⟩, fun hHeld2 => ?_⟩
          clear hb1 hb2 HC1 r1 rX hHeld
          have hHeld := hHeld2
          clear hHeld2
          generalize cmpB x d = c at *
          try simp only [Act.put, List.setIfInBounds_toArray, List.set_cons_zero, List.set_cons_succ]
          refine take_h 12 ?_ rfl (by kernel_rfl) (by kernel_rfl) (by kernel_rfl) (fun _ _ _ h => h) (Or.inl ⟨by kernel_rfl, ?_⟩) (by assumption) ?_
          rotate_left
          · (intro w hSw; (try dsimp only at hSw); go_simp; try (with_reducible rfl))
          try simp only [Act.put, List.setIfInBounds_toArray, List.set_cons_zero, List.set_cons_succ]
          refine take_h 13 ?_ rfl (by kernel_rfl) (by kernel_rfl) (by kernel_rfl) (fun _ _ _ h => h) (Or.inl ⟨by kernel_rfl, ?_⟩) (by assumption) ?_
          rotate_left
          · (intro w hSw; (try dsimp only at hSw); go_simp; try (with_reducible rfl))
          try simp only [Act.put, List.setIfInBounds_toArray, List.set_cons_zero, List.set_cons_succ]
          refine take_h 14 ?_ rfl (by kernel_rfl) (by kernel_rfl) (by kernel_rfl) (fun _ _ _ h => h) (Or.inl ⟨by kernel_rfl, ?_⟩) (by assumption) ?_
          rotate_left
          · (intro w hSw; (try dsimp only at hSw); go_simp; try (with_reducible rfl))
          try simp only [Act.put, List.setIfInBounds_toArray, List.set_cons_zero, List.set_cons_succ]
          refine take_h 15 ?_ rfl (by kernel_rfl) (by kernel_rfl) (by kernel_rfl) (fun _ _ _ h => h) (Or.inl ⟨by kernel_rfl, ?_⟩) (by assumption) ?_
          rotate_left
          · (intro w hSw; (try dsimp only at hSw); go_simp; try (with_reducible rfl))
          try simp only [Act.put, List.setIfInBounds_toArray, List.set_cons_zero, List.set_cons_succ]
          refine wpAnyH_done (by kernel_rfl) ?_ _
          clear hHeld
          go_wp2
          go_ret2
          exact ⟨by rw [← HA.out, ← HF.out]; rfl, HB1.out⟩
      · have HF : Seal (hasB l d = false) := ⟨by
          cases h : hasB l d with
          | false => rfl
          | true =>
            have := ((has_iff_at HU.out).1 h).1
            rw [← HA.out, HL.out] at this; omega⟩
        have q5 : ¬ (i : Int) < (len : Int) := by omega
        have q6 : decide ((i : Int) < (len : Int)) = false := decide_eq_false q5
        clear hH hlt
        go_wp2_with fail
        go_quiet (fail)
        go_wp2
        go_ret2
        exact ⟨by rw [← HA.out, HF.out]; rfl, ⟨HBw.out.os, HBw.out.tape, HBw.out.output, HBw.out.size, HBw.out.block⟩⟩

set_option maxHeartbeats 4000000 in
theorem frising_any (gm gp : Nat) (a b : Option Addr) (n c np cp : Nat) (l : List Bytes) (w : World) (h0 : w.cell? ⟨gm, 0, none⟩ = some (.slice a n c)) (hd : IsD w a n c l) (h1 : w.cell? ⟨gp, 0, none⟩ = some (.slice b np cp)) (hn : n ≤ 5000) :
    Calls Tryz.prog 17 #[.pointer (some ⟨gm, 0, none⟩), .pointer (some ⟨gp, 0, none⟩)] w fun e w' => e = .returned (.bool (usedB l && decide (np ≤ 256))) ∧ Below w.heap.size w w' := by
  have HD : Seal (Kf w fun W => W.cell? ⟨gm, 0, none⟩ = some (.slice a n c) ∧ IsD W a n c l ∧ W.cell? ⟨gp, 0, none⟩ = some (.slice b np cp)) := ⟨fun W hW => ⟨cell_below' hW h0, hd.of_heap hW, cell_below' hW h1⟩⟩
  have hll := hd.llen
  obtain ⟨R, hR⟩ : ∃ R, R = (usedB l && decide (np ≤ 256)) := ⟨_, rfl⟩
  have HR := Seal.mk hR
  rw [← hR]
  have ut := Tryz.underlying61
  have HS : Seal (Below w.heap.size w w ∧ ∀ j, j + 1 < 0 → blt (l.getD j []) (l.getD (j + 1) []) = true) := ⟨Below.refl _ _, fun j hj => by omega⟩
  clear hd hR
  go_enter Tryz.func17, Tryz.ntmps17
  go_wp2
  go_loopw [6] (fun i wr => ∃ k : Nat, k ≤ n ∧ i = .int .i64 k ∧ Seal (Below w.heap.size w wr ∧ ∀ j, j + 1 < k → blt (l.getD j []) (l.getD (j + 1) []) = true)) (fun i _ => n - (intOf i).toNat)
  case atStart => exact ⟨0, by omega, rfl, HS⟩
  case round =>
    obtain ⟨wo, rfl⟩ : ∃ z, z = wr := ⟨_, rfl⟩
    obtain ⟨k, hk, rfl, hH⟩ := hrel
    clear HS h0 h1
    obtain ⟨k0, hD, k1⟩ := HD.out wo hH.out.1
    by_cases hlt : k < n
    · have q5 : (k : Int) < (n : Int) := by omega
      have q6 : (0 : Int) ≤ (k : Int) := by omega
      have HV : Seal (Below w.heap.size w wo.drew ∧ ∀ j, j + 1 < k → blt (l.getD j []) (l.getD (j + 1) []) = true) := ⟨hH.out.1.trans ((below_drewn_f _).mono hH.out.1.size), hH.out.2⟩
      rcases Nat.eq_zero_or_pos k with hk0 | hk0
      · have z1 : ¬ (0 : Int) < (k : Int) := by omega
        have HN : Seal (Below w.heap.size w wo.drew ∧ ∀ j, j + 1 < k + 1 → blt (l.getD j []) (l.getD (j + 1) []) = true) := ⟨HV.out.1, fun j hj => by omega⟩
        clear hk0 hH hD k1
        go_wp2_with fail
        refine wp_region_held_drew (S := fun W => True) (by kernel_rfl) trivial (fun hHeld => ?_)
        obtain ⟨V, hV⟩ : ∃ Z, Z = wo.drew := ⟨_, rfl⟩
        rw [← hV] at HN ⊢
        clear hV k0 HV
        refine take_h 0 ?_ rfl (by kernel_rfl) (by kernel_rfl) (by kernel_rfl) (fun _ _ _ h => h) (Or.inl ⟨by kernel_rfl, ?_⟩) (by assumption) ?_
        rotate_left
        · (intro w hSw; (try dsimp only at hSw); go_simp; try (with_reducible rfl))
        try simp only [Act.put, List.setIfInBounds_toArray, List.set_cons_zero, List.set_cons_succ]
        refine take_h 1 ?_ rfl (by kernel_rfl) (by kernel_rfl) (by kernel_rfl) (fun _ _ _ h => h) (Or.inl ⟨by kernel_rfl, ?_⟩) (by assumption) ?_
        rotate_left
        · (intro w hSw; (try dsimp only at hSw); go_simp; try (with_reducible rfl))
        try simp only [Act.put, List.setIfInBounds_toArray, List.set_cons_zero, List.set_cons_succ]
        refine take_h 2 (.bool false) rfl (by kernel_rfl) (by kernel_rfl) (by kernel_rfl) (fun _ _ _ h => h) (Or.inl ⟨by kernel_rfl, fun w hSw => by (try dsimp only at hSw); go_simp; try omega⟩) (by assumption) ?_
        try simp only [Act.put, List.setIfInBounds_toArray, List.set_cons_zero, List.set_cons_succ]
        refine take_h 3 undef rfl (by kernel_rfl) (by kernel_rfl) (by kernel_rfl) (fun _ _ _ h => h) (Or.inr ⟨by kernel_rfl, rfl⟩) (by assumption) ?_
        try simp only [Act.put, List.setIfInBounds_toArray, List.set_cons_zero, List.set_cons_succ]
        refine take_h 4 undef rfl (by kernel_rfl) (by kernel_rfl) (by kernel_rfl) (fun _ _ _ h => h) (Or.inr ⟨by kernel_rfl, rfl⟩) (by assumption) ?_
        try simp only [Act.put, List.setIfInBounds_toArray, List.set_cons_zero, List.set_cons_succ]
        refine take_h 5 undef rfl (by kernel_rfl) (by kernel_rfl) (by kernel_rfl) (fun _ _ _ h => h) (Or.inr ⟨by kernel_rfl, rfl⟩) (by assumption) ?_
        try simp only [Act.put, List.setIfInBounds_toArray, List.set_cons_zero, List.set_cons_succ]
        refine take_h 6 undef rfl (by kernel_rfl) (by kernel_rfl) (by kernel_rfl) (fun _ _ _ h => h) (Or.inr ⟨by kernel_rfl, rfl⟩) (by assumption) ?_
        try simp only [Act.put, List.setIfInBounds_toArray, List.set_cons_zero, List.set_cons_succ]
        refine take_h 7 undef rfl (by kernel_rfl) (by kernel_rfl) (by kernel_rfl) (fun _ _ _ h => h) (Or.inr ⟨by kernel_rfl, rfl⟩) (by assumption) ?_
        try simp only [Act.put, List.setIfInBounds_toArray, List.set_cons_zero, List.set_cons_succ]
        refine take_h 8 undef rfl (by kernel_rfl) (by kernel_rfl) (by kernel_rfl) (fun _ _ _ h => h) (Or.inr ⟨by kernel_rfl, rfl⟩) (by assumption) ?_
        try simp only [Act.put, List.setIfInBounds_toArray, List.set_cons_zero, List.set_cons_succ]
        refine take_h 9 undef rfl (by kernel_rfl) (by kernel_rfl) (by kernel_rfl) (fun _ _ _ h => h) (Or.inr ⟨by kernel_rfl, rfl⟩) (by assumption) ?_
        try simp only [Act.put, List.setIfInBounds_toArray, List.set_cons_zero, List.set_cons_succ]
        refine take_h 10 undef rfl (by kernel_rfl) (by kernel_rfl) (by kernel_rfl) (fun _ _ _ h => h) (Or.inr ⟨by kernel_rfl, rfl⟩) (by assumption) ?_
        try simp only [Act.put, List.setIfInBounds_toArray, List.set_cons_zero, List.set_cons_succ]
        refine take_h 11 undef rfl (by kernel_rfl) (by kernel_rfl) (by kernel_rfl) (fun _ _ _ h => h) (Or.inr ⟨by kernel_rfl, rfl⟩) (by assumption) ?_
        try simp only [Act.put, List.setIfInBounds_toArray, List.set_cons_zero, List.set_cons_succ]
        refine take_h 12 undef rfl (by kernel_rfl) (by kernel_rfl) (by kernel_rfl) (fun _ _ _ h => h) (Or.inr ⟨by kernel_rfl, rfl⟩) (by assumption) ?_
        try simp only [Act.put, List.setIfInBounds_toArray, List.set_cons_zero, List.set_cons_succ]
        refine take_h 13 undef rfl (by kernel_rfl) (by kernel_rfl) (by kernel_rfl) (fun _ _ _ h => h) (Or.inr ⟨by kernel_rfl, rfl⟩) (by assumption) ?_
        try simp only [Act.put, List.setIfInBounds_toArray, List.set_cons_zero, List.set_cons_succ]
        refine take_h 14 ?_ rfl (by kernel_rfl) (by kernel_rfl) (by kernel_rfl) (fun _ _ _ h => h) (Or.inl ⟨by kernel_rfl, ?_⟩) (by assumption) ?_
        rotate_left
        · (intro w hSw; (try dsimp only at hSw); go_simp; try (with_reducible rfl))
        try simp only [Act.put, List.setIfInBounds_toArray, List.set_cons_zero, List.set_cons_succ]
        refine wpAnyH_done (by kernel_rfl) ?_ _
        clear hHeld
        go_wp2
        go_roundw
        case rel => exact ⟨k + 1, by omega, by go_num, HN⟩
        case measure => simp [intOf]; omega
      · rcases hD.at_ with hz | ⟨g, off, rfl, hr, hg⟩
        · omega
        obtain ⟨x, hx⟩ : ∃ x, x = l.getD (k - 1) [] := ⟨_, rfl⟩
        obtain ⟨y, hy⟩ : ∃ y, y = l.getD k [] := ⟨_, rfl⟩
        have r1 := range_dg hr hD.each (i := k - 1) (by omega)
        have r2 := range_dg hr hD.each (i := k) (by omega)
        have x32 := getD_len hD.each (i := k - 1) (by omega)
        have y32 := getD_len hD.each (i := k) (by omega)
        rw [← hx] at r1 x32
        rw [← hy] at r2 y32
        obtain ⟨XL, hXL⟩ : ∃ L, L = x.map B := ⟨_, rfl⟩
        obtain ⟨YL, hYL⟩ : ∃ L, L = y.map B := ⟨_, rfl⟩
        obtain ⟨cv, hcv⟩ : ∃ c, c = cmpB x y := ⟨_, rfl⟩
        have HC : Seal (∀ W, Calls Tryz.prog 18 #[.agg XL.toArray, .agg YL.toArray] W fun e w' => e = .returned (.int .i64 cv) ∧ Below W.heap.size W w') := ⟨fun W => by rw [hXL, hYL, hcv]; exact fmark_any x y W x32 y32⟩
        have i1 : (Tryz.prog.info? 61).map (·.size) = some XL.length := by rw [hXL]; exact mk_info x x32
        have i2 : (Tryz.prog.info? 61).map (·.size) = some YL.length := by rw [hYL]; exact mk_info y y32
        rw [← hXL] at r1
        rw [← hYL] at r2
        have q1 : IntKind.i64.wrap ((k : Int) - 1) = k - 1 := IntWalk.i64_in _ (by omega)
        have q2 : ((k : Int) - 1).toNat = k - 1 := by omega
        have q3 : 0 ≤ (k : Int) - 1 := by omega
        have q4 : (k : Int) - 1 < (n : Int) := by omega
        have q7 : 1 ≤ (k : Int) := by omega
        have z1 : (0 : Int) < (k : Int) := by omega
        have z2 : 0 < k := hk0
        have HL : Seal (cv < 0 ↔ blt (l.getD (k - 1) []) (l.getD k []) = true) := ⟨by rw [hcv, ← hx, ← hy]; exact cmpB_neg _ _⟩
        clear hr hg hx hy hXL hYL hcv x32 y32 hD hH k1
        go_wp2_with fail
        refine wp_region_held_drew (S := fun W => W.cell? ⟨gm, 0, none⟩ = some (.slice (some ⟨g, off, none⟩) n c) ∧ W.rangeAt g (off + (k - 1) * 32) XL ∧ W.rangeAt g (off + k * 32) YL) (by kernel_rfl) ⟨k0, r1, r2⟩ (fun hHeld => ?_)
        obtain ⟨V, hV⟩ : ∃ Z, Z = wo.drew := ⟨_, rfl⟩
        rw [← hV] at hHeld HV ⊢
        clear hV k0 r1 r2
        refine take_h 0 ?_ rfl (by kernel_rfl) (by kernel_rfl) (by kernel_rfl) (fun _ _ _ h => h) (Or.inl ⟨by kernel_rfl, ?_⟩) (by assumption) ?_
        rotate_left
        · (intro w hSw; (try dsimp only at hSw); go_simp; try (with_reducible rfl))
        try simp only [Act.put, List.setIfInBounds_toArray, List.set_cons_zero, List.set_cons_succ]
        refine take_h 1 ?_ rfl (by kernel_rfl) (by kernel_rfl) (by kernel_rfl) (fun _ _ _ h => h) (Or.inl ⟨by kernel_rfl, ?_⟩) (by assumption) ?_
        rotate_left
        · (intro w hSw; (try dsimp only at hSw); go_simp; try (with_reducible rfl))
        try simp only [Act.put, List.setIfInBounds_toArray, List.set_cons_zero, List.set_cons_succ]
        refine take_h 2 (.bool true) rfl (by kernel_rfl) (by kernel_rfl) (by kernel_rfl) (fun _ _ _ h => h) (Or.inl ⟨by kernel_rfl, fun w hSw => by (try dsimp only at hSw); go_simp; try omega⟩) (by assumption) ?_
        try simp only [Act.put, List.setIfInBounds_toArray, List.set_cons_zero, List.set_cons_succ]
        refine take_h 3 ?_ rfl (by kernel_rfl) (by kernel_rfl) (by kernel_rfl) (fun _ _ _ h => h) (Or.inl ⟨by kernel_rfl, ?_⟩) (by assumption) ?_
        rotate_left
        · (intro w hSw; (try dsimp only at hSw); go_simp; try (with_reducible rfl))
        try simp only [Act.put, List.setIfInBounds_toArray, List.set_cons_zero, List.set_cons_succ]
        refine take_h 4 ?_ rfl (by kernel_rfl) (by kernel_rfl) (by kernel_rfl) (fun _ _ _ h => h) (Or.inl ⟨by kernel_rfl, ?_⟩) (by assumption) ?_
        rotate_left
        · (intro w hSw; (try dsimp only at hSw); go_simp; try (with_reducible rfl))
        try simp only [Act.put, List.setIfInBounds_toArray, List.set_cons_zero, List.set_cons_succ]
        refine take_h 5 ?_ rfl (by kernel_rfl) (by kernel_rfl) (by kernel_rfl) (fun _ _ _ h => h) (Or.inl ⟨by kernel_rfl, ?_⟩) (by assumption) ?_
        rotate_left
        · (intro w hSw; (try dsimp only at hSw); go_simp; try (with_reducible rfl))
        try simp only [Act.put, List.setIfInBounds_toArray, List.set_cons_zero, List.set_cons_succ]
        refine take_h 6 ?_ rfl (by kernel_rfl) (by kernel_rfl) (by kernel_rfl) (fun _ _ _ h => h) (Or.inl ⟨by kernel_rfl, ?_⟩) (by assumption) ?_
        rotate_left
        · (intro w hSw; (try dsimp only at hSw); go_simp; try (with_reducible rfl))
        try simp only [Act.put, List.setIfInBounds_toArray, List.set_cons_zero, List.set_cons_succ]
        refine take_h 7 _ rfl (by kernel_rfl) (by kernel_rfl) (by kernel_rfl) (fun _ _ _ h => h) (yieldsIf_load_mid (by kernel_rfl) 61 (.tmp 15) rfl g (off + (k - 1) * 32) rfl XL _ (fun w hSw => hSw.2.1) ut rfl i1) (by assumption) ?_
        try simp only [Act.put, List.setIfInBounds_toArray, List.set_cons_zero, List.set_cons_succ]
        refine take_h 8 ?_ rfl (by kernel_rfl) (by kernel_rfl) (by kernel_rfl) (fun _ _ _ h => h) (Or.inl ⟨by kernel_rfl, ?_⟩) (by assumption) ?_
        rotate_left
        · (intro w hSw; (try dsimp only at hSw); go_simp; try (with_reducible rfl))
        try simp only [Act.put, List.setIfInBounds_toArray, List.set_cons_zero, List.set_cons_succ]
        refine take_h 9 ?_ rfl (by kernel_rfl) (by kernel_rfl) (by kernel_rfl) (fun _ _ _ h => h) (Or.inl ⟨by kernel_rfl, ?_⟩) (by assumption) ?_
        rotate_left
        · (intro w hSw; (try dsimp only at hSw); go_simp; try (with_reducible rfl))
        try simp only [Act.put, List.setIfInBounds_toArray, List.set_cons_zero, List.set_cons_succ]
        refine take_h 10 ?_ rfl (by kernel_rfl) (by kernel_rfl) (by kernel_rfl) (fun _ _ _ h => h) (Or.inl ⟨by kernel_rfl, ?_⟩) (by assumption) ?_
        rotate_left
        · (intro w hSw; (try dsimp only at hSw); go_simp; try (with_reducible rfl))
        try simp only [Act.put, List.setIfInBounds_toArray, List.set_cons_zero, List.set_cons_succ]
        refine take_h 11 _ rfl (by kernel_rfl) (by kernel_rfl) (by kernel_rfl) (fun _ _ _ h => h) (yieldsIf_load_mid (by kernel_rfl) 61 (.tmp 19) rfl g (off + k * 32) rfl YL _ (fun w hSw => hSw.2.2) ut rfl i2) (by assumption) ?_
        try simp only [Act.put, List.setIfInBounds_toArray, List.set_cons_zero, List.set_cons_succ]
        refine call_h 12 rfl (by kernel_rfl) 18 #[.agg XL.toArray, .agg YL.toArray] (by kernel_rfl) (by go_simp) ?_
        refine (HC.out V).mono ?_
        rintro e V1 ⟨rfl, hb⟩
        have HB1 : Seal (Below w.heap.size w V1) := ⟨HV.out.1.trans (hb.mono HV.out.1.size)⟩
        refine ⟨_, rfl, ⟨cell_below' hb hHeld.1, rangeAt_below' hHeld.2.1 hb, rangeAt_below' hHeld.2.2 hb⟩, fun hHeld2 => ?_⟩
        clear hHeld hb HC
        try simp only [Act.put, List.setIfInBounds_toArray, List.set_cons_zero, List.set_cons_succ]
        by_cases hc : 0 ≤ cv
        · have HF : Seal (R = false) := ⟨by
            have hu : usedB l = false := by
              cases h : usedB l with
              | false => rfl
              | true =>
                have h2 := (usedB_iff l).1 h (k - 1) (by omega)
                rw [show k - 1 + 1 = k from by omega] at h2
                have := HL.out.2 h2
                omega
            rw [HR.out, hu]; rfl⟩
          refine take_h 13 ?_ rfl (by kernel_rfl) (by kernel_rfl) (by kernel_rfl) (fun _ _ _ h => h) (Or.inl ⟨by kernel_rfl, ?_⟩) (by assumption) ?_
          rotate_left
          · (intro w hSw; (try dsimp only at hSw); go_simp; try (with_reducible rfl))
          try simp only [Act.put, List.setIfInBounds_toArray, List.set_cons_zero, List.set_cons_succ]
          refine take_h 14 ?_ rfl (by kernel_rfl) (by kernel_rfl) (by kernel_rfl) (fun _ _ _ h => h) (Or.inl ⟨by kernel_rfl, ?_⟩) (by assumption) ?_
          rotate_left
          · (intro w hSw; (try dsimp only at hSw); go_simp; try (with_reducible rfl))
          try simp only [Act.put, List.setIfInBounds_toArray, List.set_cons_zero, List.set_cons_succ]
          refine wpAnyH_done (by kernel_rfl) ?_ _
          clear hHeld2
          go_wp2
          go_ret
          exact ⟨by rw [HF.out]; rfl, HB1.out⟩
        · have HN : Seal (Below w.heap.size w V1 ∧ ∀ j, j + 1 < k + 1 → blt (l.getD j []) (l.getD (j + 1) []) = true) := ⟨HB1.out, fun j hj => by
            by_cases h : j + 1 < k
            · exact HV.out.2 j h
            · obtain rfl : j = k - 1 := by omega
              rw [show k - 1 + 1 = k from by omega]
              exact HL.out.1 (by omega)⟩
          refine take_h 13 ?_ rfl (by kernel_rfl) (by kernel_rfl) (by kernel_rfl) (fun _ _ _ h => h) (Or.inl ⟨by kernel_rfl, ?_⟩) (by assumption) ?_
          rotate_left
          · (intro w hSw; (try dsimp only at hSw); go_simp; try (with_reducible rfl))
          try simp only [Act.put, List.setIfInBounds_toArray, List.set_cons_zero, List.set_cons_succ]
          refine take_h 14 ?_ rfl (by kernel_rfl) (by kernel_rfl) (by kernel_rfl) (fun _ _ _ h => h) (Or.inl ⟨by kernel_rfl, ?_⟩) (by assumption) ?_
          rotate_left
          · (intro w hSw; (try dsimp only at hSw); go_simp; try (with_reducible rfl))
          try simp only [Act.put, List.setIfInBounds_toArray, List.set_cons_zero, List.set_cons_succ]
          refine wpAnyH_done (by kernel_rfl) ?_ _
          clear hHeld2
          go_wp2
          go_roundw
          case rel => exact ⟨k + 1, by omega, by go_num, HN⟩
          case measure => simp [intOf]; omega
    · obtain rfl : k = n := by omega
      have q5 : ¬ (k : Int) < (k : Int) := by omega
      have HB := Seal.mk hH.out.1
      have HU : Seal (usedB l = true) := ⟨(usedB_iff l).2 fun i hi => hH.out.2 i (by omega)⟩
      clear hH hD k0
      by_cases h256 : np ≤ 256
      · have q1 : (np : Int) ≤ 256 := by omega
        have HF : Seal (R = true) := ⟨by rw [HR.out, HU.out, decide_eq_true h256]; rfl⟩
        go_wp2
        go_ret
        exact ⟨by rw [HF.out]; first | rfl | simp [q1], HB.out⟩
      · have q1 : ¬ (np : Int) ≤ 256 := by omega
        have HF : Seal (R = false) := ⟨by rw [HR.out, decide_eq_false h256]; simp⟩
        go_wp2
        go_ret
        exact ⟨by rw [HF.out]; first | rfl | simp [q1], HB.out⟩
end Frk
