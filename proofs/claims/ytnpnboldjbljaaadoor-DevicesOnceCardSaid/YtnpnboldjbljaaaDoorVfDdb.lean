/- Law 44: digests compared by byBytes; lists of them that rise; their search. -/
import Derived.Test.YtnpnboldjbljaaaDoorVfDbs
namespace Frk
open Go Go.RowKit Go.Proofs
set_option maxRecDepth 100000

set_option maxHeartbeats 1000000 in
theorem byBytes_any (a b : Bytes) (w : World) (ha : a.length = 32) (hb : b.length = 32) :
    Calls Tryd.prog 57 #[.agg (a.map B).toArray, .agg (b.map B).toArray] w fun e w' => e = .returned (.int .i64 (cmpB a b)) ∧ Below w.heap.size w w' := by
  have h1 : Seal (IsB ((w.alloc (.cells (a.map B).toArray 29)).alloc (.cells (b.map B).toArray 29)) (some ⟨w.heap.size, 0, none⟩) 32 32 a) := ⟨(isB_new w a 32 _ (0, 0) ha (by decide)).below (below_alloc _ _)⟩
  have h2 : Seal (IsB ((w.alloc (.cells (a.map B).toArray 29)).alloc (.cells (b.map B).toArray 29)) (some ⟨w.heap.size + 1, 0, none⟩) 32 32 b) := ⟨by
    have := isB_new (w.alloc (.cells (a.map B).toArray 29)) b 32 29 (0, 0) hb (by decide)
    rwa [size_alloc] at this⟩
  have HB : Seal (Below w.heap.size w ((w.alloc (.cells (a.map B).toArray 29)).alloc (.cells (b.map B).toArray 29))) := ⟨((Below.refl _ w).alloc (Nat.le_refl _) _).alloc (by rw [size_alloc]; omega) _⟩
  have hs := fun g W => slice_dg g W
  clear ha hb
  obtain ⟨A, hA⟩ : ∃ A : Array Value, A = (a.map B).toArray := ⟨_, rfl⟩
  obtain ⟨D, hD⟩ : ∃ D : Array Value, D = (b.map B).toArray := ⟨_, rfl⟩
  rw [← hA, ← hD] at h1 h2 HB ⊢
  clear hA hD
  go_enter Tryd.func57, Tryd.ntmps57
  go_wp2_with fail
  go_quiet ((go_at_call 83; exact quiet_left (bytesCompare_any (h1.out.drewN _) (h2.out.drewN _))))
  go_wp2
  go_ret
  exact ⟨rfl, ⟨HB.out.os, HB.out.tape, HB.out.output, HB.out.size, HB.out.block⟩⟩

set_option maxHeartbeats 2000000 in
theorem drising_any (a : Option Addr) (len cap : Nat) (l : List Bytes) (w : World) (hd : IsD w a len cap l) :
    Calls Tryd.prog 56 #[.slice a len cap, .func (.func 57) #[] #[]] w fun e w' => e = .returned (.bool (usedB l)) ∧ Below w.heap.size w w' := by
  have HD := Seal.mk hd
  have hll := hd.llen
  have hlm := hd.lmax
  clear hd
  go_enter Tryd.func56, Tryd.ntmps56
  go_wp2
  go_loopw [5] (fun i wr => ∃ k : Nat, 1 ≤ k ∧ (k ≤ len ∨ k = 1) ∧ i = .int .i64 k ∧ Seal (Below w.heap.size w wr ∧ ∀ j, j + 1 < k → blt (l.getD j []) (l.getD (j + 1) []) = true)) (fun i _ => len - (intOf i).toNat)
  case atStart => exact ⟨1, by omega, .inr rfl, rfl, ⟨Below.refl _ _, fun j hj => by omega⟩⟩
  case round =>
    obtain ⟨k, hk1, hk, rfl, hH⟩ := hrel
    by_cases hlt : k < len
    · have HDr := HD.out.of_heap hH.out.1
      rcases HDr.at_ with h0 | ⟨g, off, rfl, hr, hg⟩
      · omega
      · obtain ⟨x, hx⟩ : ∃ x, x = l.getD (k - 1) [] := ⟨_, rfl⟩
        obtain ⟨y, hy⟩ : ∃ y, y = l.getD k [] := ⟨_, rfl⟩
        have r1 := range_dg hr HDr.each (i := k - 1) (by omega)
        have r2 := range_dg hr HDr.each (i := k) (by omega)
        have x32 := getD_len HDr.each (i := k - 1) (by omega)
        have y32 := getD_len HDr.each (i := k) (by omega)
        rw [← hx] at r1 x32
        rw [← hy] at r2 y32
        have HC : Seal (∀ W, Calls Tryd.prog 57 #[.agg (x.map B).toArray, .agg (y.map B).toArray] W fun e w' => e = .returned (.int .i64 (cmpB x y)) ∧ Below W.heap.size W w') := ⟨fun W => byBytes_any x y W x32 y32⟩
        have i1 := dg_info x x32
        have i2 := dg_info y y32
        have ut := Tryd.underlying29
        have q1 : IntKind.i64.wrap ((k : Int) - 1) = k - 1 := IntWalk.i64_in _ (by omega)
        have q2 : ((k : Int) - 1).toNat = k - 1 := by omega
        have q3 : 0 ≤ (k : Int) - 1 := by omega
        have q4 : (k : Int) - 1 < (len : Int) := by omega
        have q5 : (k : Int) < (len : Int) := by omega
        have q6 : 1 ≤ (k : Int) := by omega
        have HX := Seal.mk hx
        have HY := Seal.mk hy
        clear hr HDr hll hx hy x32 y32
        go_wp2_with fail
        go_still_tail 10, (by kernel_rfl)
        refine wpStill_load_mid rfl 29 (.tmp 16) rfl g (off + (k - 1) * 32) rfl (x.map B) _ r1 ut rfl i1 ?_
        repeat still_step
        refine wpStill_load_mid rfl 29 (.tmp 20) rfl g (off + k * 32) rfl (y.map B) _ r2 ut rfl i2 ?_
        refine wpStill_nil ?_
        change wpList _ _ _ _ _ wr.drew
        go_wp2_with fail
        refine (HC.out _).mono ?_
        rintro e w1 ⟨rfl, hb1⟩
        have HB1 : Seal (Below w.heap.size w w1) := ⟨hH.out.1.trans ((show Below wr.heap.size wr w1 from ⟨hb1.os, hb1.tape, hb1.output, hb1.size, hb1.block⟩).mono hH.out.1.size)⟩
        clear hb1
        clear q1 q2 q3 q4 i1 i2 ut r1 r2 HC
        by_cases hc : 0 ≤ cmpB x y
        · have HN : Seal (usedB l = false) := ⟨by
            cases hu : usedB l with
            | false => rfl
            | true =>
              have := (usedB_iff l).1 hu (k - 1) (by rw [HD.out.llen]; omega)
              rw [show k - 1 + 1 = k from by omega, ← HX.out, ← HY.out] at this
              have := (cmpB_neg _ _).2 this
              omega⟩
          generalize cmpB x y = c at *
          go_wp2
          go_ret
          exact ⟨ret_bool HN.out.symm, HB1.out⟩
        · have HL : Seal (blt (l.getD (k - 1) []) (l.getD k []) = true) := ⟨by rw [← HX.out, ← HY.out]; exact (cmpB_neg _ _).1 (by omega)⟩
          generalize cmpB x y = c at *
          go_wp2
          go_roundw
          case rel =>
            refine ⟨k + 1, by omega, .inl hlt, by go_num, ⟨HB1.out, fun j hj => ?_⟩⟩
            by_cases hjk : j + 1 < k
            · exact hH.out.2 j hjk
            · obtain rfl : j = k - 1 := by omega
              rw [show k - 1 + 1 = k from by omega]
              exact HL.out
          case measure => simp [intOf]; omega
    · have HN : Seal (usedB l = true) := ⟨(usedB_iff l).2 fun i hi => hH.out.2 i (by rw [HD.out.llen] at hi; omega)⟩
      have HB1 := Seal.mk hH.out.1
      have q5 : ¬ (k : Int) < (len : Int) := by omega
      clear hH
      go_wp2
      go_ret
      exact ⟨ret_bool HN.out.symm, HB1.out⟩

set_option maxHeartbeats 1000000 in
theorem dbsearch_any (a : Option Addr) (len cap : Nat) (l : List Bytes) (d : Bytes) (w : World) (hd : IsD w a len cap l) (h32 : d.length = 32) (hu : usedB l = true) :
    Calls Tryd.prog 58 #[.slice a len cap, .agg (d.map B).toArray, .func (.func 57) #[] #[]] w fun e w' => e = .returned (.tuple #[.int .i64 (atB l d : Nat), .bool (hasB l d)]) ∧ Below w.heap.size w w' := by
  have HL := Seal.mk hd.llen
  have hlm := hd.lmax
  have HU := Seal.mk hu
  have HD32 := Seal.mk h32
  have i1 := dg_info d h32
  have ut := Tryd.underlying29
  have HC : Seal (∀ x y W, x.length = 32 → y.length = 32 → Calls Tryd.prog 57 #[.agg (x.map B).toArray, .agg (y.map B).toArray] W fun e w' => e = .returned (.int .i64 (cmpB x y)) ∧ Below W.heap.size W w') := ⟨fun x y W h1 h2 => byBytes_any x y W h1 h2⟩
  obtain ⟨X, hX⟩ : ∃ X : World, Seal (X = w.alloc (.cells (d.map B).toArray 29)) := ⟨_, ⟨rfl⟩⟩
  have hXb : Seal (Below w.heap.size w X) := ⟨by rw [hX.out]; exact below_alloc _ _⟩
  have hXs : Seal (X.heap.size = w.heap.size + 1) := ⟨by rw [hX.out, size_alloc]⟩
  have hXr : Seal (X.rangeAt w.heap.size 0 (d.map B)) := ⟨by rw [hX.out]; exact rangeAt_new w _ _ _⟩
  have HD : Seal (IsD X a len cap l) := ⟨hd.of_heap hXb.out⟩
  clear hd hu h32
  go_enter Tryd.func58, Tryd.ntmps58
  go_wp2
  rw [← hX.out]
  go_loopw [9, 10] (fun lo hi wr => ∃ i j : Nat, i ≤ j ∧ j ≤ len ∧ lo = .int .i64 i ∧ hi = .int .i64 j ∧ Seal (Below X.heap.size X wr ∧ (∀ t, t < i → blt (l.getD t []) d = true) ∧ (j < len → blt (l.getD j []) d = false))) (fun lo hi _ => (intOf hi - intOf lo).toNat)
  case atStart => exact ⟨0, len, by omega, by omega, rfl, rfl, ⟨by rw [hX.out]; exact Below.refl _ _, fun t ht => by omega, fun h => by omega⟩⟩
  case round =>
    obtain ⟨i, j, hij, hj, rfl, rfl, hH⟩ := hrel
    by_cases hlt : i < j
    · have HDr := HD.out.of_heap hH.out.1
      have rX := rangeAt_below' hXr.out hH.out.1
      rcases HDr.at_ with h0 | ⟨g, off, rfl, hr, hg⟩
      · omega
      · obtain ⟨m, hm⟩ : ∃ m, m = (i + j) / 2 := ⟨_, rfl⟩
        have hm1 : i ≤ m ∧ m < j := by omega
        have q0 := mid_bits i j (by omega)
        rw [← hm] at q0
        obtain ⟨x, hx⟩ : ∃ x, x = l.getD m [] := ⟨_, rfl⟩
        have r1 := range_dg hr HDr.each (i := m) (by rw [HL.out]; omega)
        have x32 := getD_len HDr.each (i := m) (by rw [HL.out]; omega)
        rw [← hx] at r1 x32
        have HC1 : Seal (∀ W, Calls Tryd.prog 57 #[.agg (x.map B).toArray, .agg (d.map B).toArray] W fun e w' => e = .returned (.int .i64 (cmpB x d)) ∧ Below W.heap.size W w') := ⟨fun W => HC.out x d W x32 HD32.out⟩
        have i2 := dg_info x x32
        have HX := Seal.mk hx
        have HM := Seal.mk hm
        have q5 : (m : Int) < (len : Int) := by omega
        clear hr HDr hx x32 hm
        go_wp2_with fail
        go_still_tail 6, (by kernel_rfl)
        refine wpStill_load_mid rfl 29 (.tmp 27) rfl g (off + m * 32) rfl (x.map B) _ r1 ut rfl i2 ?_
        refine wpStill_load_mid rfl 29 (.tmp 4) rfl w.heap.size 0 rfl (d.map B) _ rX ut rfl i1 ?_
        refine wpStill_nil ?_
        change wpList _ _ _ _ _ wr.drew
        go_wp2_with fail
        refine (HC1.out _).mono ?_
        rintro e w1 ⟨rfl, hb1⟩
        have HB1 : Seal (Below X.heap.size X w1) := ⟨hH.out.1.trans ((show Below wr.heap.size wr w1 from ⟨hb1.os, hb1.tape, hb1.output, hb1.size, hb1.block⟩).mono hH.out.1.size)⟩
        clear hb1 HC1 r1 rX q0
        by_cases hc : cmpB x d < 0
        · have HL1 : Seal (blt (l.getD m []) d = true) := ⟨by rw [← HX.out]; exact (cmpB_neg _ _).1 hc⟩
          generalize cmpB x d = c at *
          go_wp2
          go_roundw
          case rel =>
            refine ⟨m + 1, j, by omega, hj, by go_num, rfl, ⟨HB1.out, fun t ht => ?_, hH.out.2.2⟩⟩
            by_cases htm : t = m
            · subst htm; exact HL1.out
            · exact blt_trans (used_lt HU.out m t (by omega) (by rw [HL.out]; omega)) HL1.out
          case measure => simp [intOf]; omega
        · have HL1 : Seal (blt (l.getD m []) d = false) := ⟨by
            cases h : blt (l.getD m []) d with
            | false => rfl
            | true => rw [← HX.out] at h; exact absurd ((cmpB_neg _ _).2 h) hc⟩
          generalize cmpB x d = c at *
          go_wp2
          go_roundw
          case rel => exact ⟨i, m, hm1.1, by omega, rfl, rfl, ⟨HB1.out, hH.out.2.1, fun _ => HL1.out⟩⟩
          case measure => simp [intOf]; omega
    · obtain rfl : i = j := by omega
      have HA : Seal (i = atB l d) := ⟨atB_unique (by rw [HL.out]; exact hj) hH.out.2.1 (fun h => hH.out.2.2 (by rw [HL.out] at h; exact h))⟩
      have HBw : Seal (Below w.heap.size w wr) := ⟨hXb.out.trans (hH.out.1.mono hXb.out.size)⟩
      by_cases hil : i < len
      · have HDr := HD.out.of_heap hH.out.1
        have rX := rangeAt_below' hXr.out hH.out.1
        rcases HDr.at_ with h0 | ⟨g, off, rfl, hr, hg⟩
        · omega
        · obtain ⟨x, hx⟩ : ∃ x, x = l.getD i [] := ⟨_, rfl⟩
          have r1 := range_dg hr HDr.each (i := i) (by rw [HL.out]; omega)
          have x32 := getD_len HDr.each (i := i) (by rw [HL.out]; omega)
          rw [← hx] at r1 x32
          have HC1 : Seal (∀ W, Calls Tryd.prog 57 #[.agg (x.map B).toArray, .agg (d.map B).toArray] W fun e w' => e = .returned (.int .i64 (cmpB x d)) ∧ Below W.heap.size W w') := ⟨fun W => HC.out x d W x32 HD32.out⟩
          have i2 := dg_info x x32
          have HF : Seal ((cmpB x d == 0) = hasB l d) := ⟨by
            rw [Bool.eq_iff_iff, has_iff_at HU.out, ← HA.out, ← hx, beq_iff_eq, cmpB_zero, HL.out]
            exact ⟨fun h => ⟨hil, h⟩, fun h => h.2⟩⟩
          have q5 : (i : Int) < (len : Int) := by omega
          clear hr HDr hx x32 hlt
          go_wp2_with fail
          refine wp_region_held_drew (S := fun w' => w'.rangeAt g (off + i * 32) (x.map B) ∧ w'.rangeAt w.heap.size 0 (d.map B)) (by kernel_rfl) ⟨r1, rX⟩ (fun hHeld => ?_)
          refine take_h 0 ?_ rfl (by kernel_rfl) (by kernel_rfl) (by kernel_rfl) (fun _ _ _ h => h) (Or.inl ⟨by kernel_rfl, ?_⟩) (by assumption) ?_
          rotate_left
          · (intro w hSw; (try dsimp only at hSw); go_simp; try (with_reducible rfl))
          try simp only [Act.put, List.setIfInBounds_toArray, List.set_cons_zero, List.set_cons_succ]
          refine take_h 1 ?_ rfl (by kernel_rfl) (by kernel_rfl) (by kernel_rfl) (fun _ _ _ h => h) (Or.inl ⟨by kernel_rfl, ?_⟩) (by assumption) ?_
          rotate_left
          · (intro w hSw; (try dsimp only at hSw); go_simp; try (with_reducible rfl))
          try simp only [Act.put, List.setIfInBounds_toArray, List.set_cons_zero, List.set_cons_succ]
          refine take_h 2 ?_ rfl (by kernel_rfl) (by kernel_rfl) (by kernel_rfl) (fun _ _ _ h => h) (Or.inl ⟨by kernel_rfl, ?_⟩) (by assumption) ?_
          rotate_left
          · (intro w hSw; (try dsimp only at hSw); go_simp; try (with_reducible rfl))
          try simp only [Act.put, List.setIfInBounds_toArray, List.set_cons_zero, List.set_cons_succ]
          refine take_h 3 ?_ rfl (by kernel_rfl) (by kernel_rfl) (by kernel_rfl) (fun _ _ _ h => h) (Or.inl ⟨by kernel_rfl, ?_⟩) (by assumption) ?_
          rotate_left
          · (intro w hSw; (try dsimp only at hSw); go_simp; try (with_reducible rfl))
          try simp only [Act.put, List.setIfInBounds_toArray, List.set_cons_zero, List.set_cons_succ]
          refine take_h 4 ?_ rfl (by kernel_rfl) (by kernel_rfl) (by kernel_rfl) (fun _ _ _ h => h) (Or.inl ⟨by kernel_rfl, ?_⟩) (by assumption) ?_
          rotate_left
          · (intro w hSw; (try dsimp only at hSw); go_simp; try (with_reducible rfl))
          try simp only [Act.put, List.setIfInBounds_toArray, List.set_cons_zero, List.set_cons_succ]
          refine take_h 5 ?_ rfl (by kernel_rfl) (by kernel_rfl) (by kernel_rfl) (fun _ _ _ h => h) (Or.inl ⟨by kernel_rfl, ?_⟩) (by assumption) ?_
          rotate_left
          · (intro w hSw; (try dsimp only at hSw); go_simp; try (with_reducible rfl))
          try simp only [Act.put, List.setIfInBounds_toArray, List.set_cons_zero, List.set_cons_succ]
          refine take_h 6 ?_ rfl (by kernel_rfl) (by kernel_rfl) (by kernel_rfl) (fun _ _ _ h => h) (Or.inl ⟨by kernel_rfl, ?_⟩) (by assumption) ?_
          rotate_left
          · (intro w hSw; (try dsimp only at hSw); go_simp; try (with_reducible rfl))
          try simp only [Act.put, List.setIfInBounds_toArray, List.set_cons_zero, List.set_cons_succ]
          refine take_h 7 ?_ rfl (by kernel_rfl) (by kernel_rfl) (by kernel_rfl) (fun _ _ _ h => h) (Or.inl ⟨by kernel_rfl, ?_⟩) (by assumption) ?_
          rotate_left
          · (intro w hSw; (try dsimp only at hSw); go_simp; try (with_reducible rfl))
          try simp only [Act.put, List.setIfInBounds_toArray, List.set_cons_zero, List.set_cons_succ]
          refine take_h 8 ?_ rfl (by kernel_rfl) (by kernel_rfl) (by kernel_rfl) (fun _ _ _ h => h) (Or.inl ⟨by kernel_rfl, ?_⟩) (by assumption) ?_
          rotate_left
          · (intro w hSw; (try dsimp only at hSw); go_simp; try (with_reducible rfl))
          try simp only [Act.put, List.setIfInBounds_toArray, List.set_cons_zero, List.set_cons_succ]
          refine take_h 9 _ rfl (by kernel_rfl) (by kernel_rfl) (by kernel_rfl) (fun _ _ _ h => h) (yieldsIf_load_mid (by kernel_rfl) 29 (.tmp 43) rfl g (off + i * 32) rfl (x.map B) _ (fun w hSw => hSw.1) ut rfl i2) (by assumption) ?_
          try simp only [Act.put, List.setIfInBounds_toArray, List.set_cons_zero, List.set_cons_succ]
          refine take_h 10 _ rfl (by kernel_rfl) (by kernel_rfl) (by kernel_rfl) (fun _ _ _ h => h) (yieldsIf_load_mid (by kernel_rfl) 29 (.tmp 4) rfl w.heap.size 0 rfl (d.map B) _ (fun w hSw => hSw.2) ut rfl i1) (by assumption) ?_
          try simp only [Act.put, List.setIfInBounds_toArray, List.set_cons_zero, List.set_cons_succ]
          refine call_h 11 rfl (by kernel_rfl) 57 #[.agg (x.map B).toArray, .agg (d.map B).toArray] (by kernel_rfl) (by go_simp) ?_
          refine (HC1.out _).mono ?_
          rintro e w1 ⟨rfl, hb1⟩
          have hb2 : Below wr.heap.size wr w1 := ⟨hb1.os, hb1.tape, hb1.output, hb1.size, hb1.block⟩
          have HB1 : Seal (Below w.heap.size w w1) := ⟨HBw.out.trans (hb2.mono HBw.out.size)⟩
          refine ⟨_, rfl, ⟨rangeAt_below' r1 hb2, rangeAt_below' rX hb2⟩, fun hHeld2 => ?_⟩
          clear hb1 hb2 HC1 r1 rX hHeld
          have hHeld := hHeld2
          clear hHeld2
          generalize cmpB x d = c at *
          try simp only [Act.put, List.setIfInBounds_toArray, List.set_cons_zero, List.set_cons_succ]
          refine take_h 12 ?_ rfl (by kernel_rfl) (by kernel_rfl) (by kernel_rfl) (fun _ _ _ h => h) (Or.inl ⟨by kernel_rfl, ?_⟩) (by assumption) ?_
          rotate_left
          · (intro w hSw; (try dsimp only at hSw); go_simp; try (with_reducible rfl))
          try simp only [Act.put, List.setIfInBounds_toArray, List.set_cons_zero, List.set_cons_succ]
          refine take_h 13 ?_ rfl (by kernel_rfl) (by kernel_rfl) (by kernel_rfl) (fun _ _ _ h => h) (Or.inl ⟨by kernel_rfl, ?_⟩) (by assumption) ?_
          rotate_left
          · (intro w hSw; (try dsimp only at hSw); go_simp; try (with_reducible rfl))
          try simp only [Act.put, List.setIfInBounds_toArray, List.set_cons_zero, List.set_cons_succ]
          refine take_h 14 ?_ rfl (by kernel_rfl) (by kernel_rfl) (by kernel_rfl) (fun _ _ _ h => h) (Or.inl ⟨by kernel_rfl, ?_⟩) (by assumption) ?_
          rotate_left
          · (intro w hSw; (try dsimp only at hSw); go_simp; try (with_reducible rfl))
          try simp only [Act.put, List.setIfInBounds_toArray, List.set_cons_zero, List.set_cons_succ]
          refine take_h 15 ?_ rfl (by kernel_rfl) (by kernel_rfl) (by kernel_rfl) (fun _ _ _ h => h) (Or.inl ⟨by kernel_rfl, ?_⟩) (by assumption) ?_
          rotate_left
          · (intro w hSw; (try dsimp only at hSw); go_simp; try (with_reducible rfl))
          try simp only [Act.put, List.setIfInBounds_toArray, List.set_cons_zero, List.set_cons_succ]
          refine wpAnyH_done (by kernel_rfl) ?_ _
          clear hHeld
          go_wp2
          go_ret2
          exact ⟨by rw [← HA.out, ← HF.out]; rfl, HB1.out⟩
      · have HF : Seal (hasB l d = false) := ⟨by
          cases h : hasB l d with
          | false => rfl
          | true =>
            have := ((has_iff_at HU.out).1 h).1
            rw [← HA.out, HL.out] at this; omega⟩
        have q5 : ¬ (i : Int) < (len : Int) := by omega
        have q6 : decide ((i : Int) < (len : Int)) = false := decide_eq_false q5
        clear hH hlt
        go_wp2_with fail
        go_quiet (fail)
        go_wp2
        go_ret2
        exact ⟨by rw [← HA.out, HF.out]; rfl, ⟨HBw.out.os, HBw.out.tape, HBw.out.output, HBw.out.size, HBw.out.block⟩⟩
end Frk
