/- The reference's lists of digests: Before, Used, Has, Few, Same. -/
import Derived.Test.YtllbjakfjpjfnaaGreatDoorVxgGen
import Derived.Test.YtllbjakfjpjfnaaGreatDoorVxgDio
namespace Frk
open Go Go.RowKit Go.Proofs
set_option maxRecDepth 100000

theorem u8_ne (x y : UInt8) : ((x.toNat : Int) != (y.toNat : Int)) = (x != y) := by
  rw [Bool.eq_iff_iff, bne_iff_ne, bne_iff_ne]
  constructor
  · intro h e; exact h (by rw [e])
  · intro h e; exact h (UInt8.toNat_inj.1 (by omega))

set_option maxHeartbeats 1000000 in
theorem rbefore_any (x y : Bytes) (w : World) (hx : x.length = 32) (hy : y.length = 32) :
    Calls Tryz.prog 54 #[.agg (x.map B).toArray, .agg (y.map B).toArray] w fun e w' => e = .returned (.bool (blt x y)) ∧ Below w.heap.size w w' := by
  obtain ⟨X, hX⟩ : ∃ X : World, X = (w.alloc (.cells (x.map B).toArray 42)).alloc (.cells (y.map B).toArray 42) := ⟨_, rfl⟩
  have hXb : Seal (Below w.heap.size w X) := ⟨by rw [hX]; exact ((Below.refl _ w).alloc (Nat.le_refl _) _).alloc (by simp) _⟩
  have hX0 : Seal (X.heap[w.heap.size]? = some (.cells (x.map B).toArray 42 (0, 0))) := ⟨by rw [hX]; exact heap_alloc2_old w _ _⟩
  have hX1 : Seal (X.heap[w.heap.size + 1]? = some (.cells (y.map B).toArray 42 (0, 0))) := ⟨by rw [hX]; exact heap_alloc2_new w _ _⟩
  have HX := Seal.mk hx
  have HY := Seal.mk hy
  clear hx hy
  go_enter Tryz.func54, Tryz.ntmps54
  go_wp2
  rw [← hX]
  clear hX
  go_loopw [5] (fun i wr => ∃ k : Nat, k ≤ 32 ∧ i = .int .i64 k ∧ Seal ((∃ n, wr = X.drewN n) ∧ ∀ j, j < k → x.getD j 0 = y.getD j 0)) (fun i _ => 32 - (intOf i).toNat)
  case atStart => exact ⟨0, by omega, rfl, ⟨⟨0, rfl⟩, fun j hj => by omega⟩⟩
  case round =>
    obtain ⟨k, hk, rfl, hH⟩ := hrel
    obtain ⟨n, hwr⟩ := hH.out.1
    have HE : Seal (∀ j, j < k → x.getD j 0 = y.getD j 0) := ⟨hH.out.2⟩
    subst hwr
    clear hH
    by_cases hlt : k < 32
    · have c0 : X.cell? ⟨w.heap.size, k, none⟩ = some (.int .u8 ((x.getD k 0).toNat : Int)) := by
        have := cellB (rangeAt_row (cs := x.map B) hX0.out) (i := k) (by rw [HX.out]; exact hlt)
        rwa [Nat.zero_add] at this
      have c1 : X.cell? ⟨w.heap.size + 1, k, none⟩ = some (.int .u8 ((y.getD k 0).toNat : Int)) := by
        have := cellB (rangeAt_row (cs := y.map B) hX1.out) (i := k) (by rw [HY.out]; exact hlt)
        rwa [Nat.zero_add] at this
      have q1 : (k : Int) < 32 := by omega
      have q2 : (0 : Int) ≤ (k : Int) := by omega
      obtain ⟨p, hp⟩ : ∃ p, (x.getD k 0).toNat = p := ⟨_, rfl⟩
      obtain ⟨q, hq⟩ : ∃ q, (y.getD k 0).toNat = q := ⟨_, rfl⟩
      have hpq : ((p : Int) != (q : Int)) = (x.getD k 0 != y.getD k 0) := by rw [← hp, ← hq]; exact u8_ne _ _
      have HPQ : Seal ((x.getD k 0).toNat = p ∧ (y.getD k 0).toNat = q) := ⟨hp, hq⟩
      rw [hp] at c0
      rw [hq] at c1
      clear hp hq
      by_cases hne : x.getD k 0 = y.getD k 0
      · have hb : ((p : Int) != (q : Int)) = false := by rw [hpq, hne]; simp
        have HN : Seal (∀ j, j < k + 1 → x.getD j 0 = y.getD j 0) := ⟨fun j hj => by
          by_cases e : j = k
          · subst e; exact hne
          · exact HE.out j (by omega)⟩
        clear hne HE hpq
        go_wp2_with fail
        go_quiet (fail)
        go_wp2
        go_roundw
        case rel => exact ⟨k + 1, by omega, by go_num, ⟨⟨_, rfl⟩, HN.out⟩⟩
        case measure => simp [intOf]; omega
      · have hb : ((p : Int) != (q : Int)) = true := by rw [hpq]; simpa using hne
        have HF : Seal (blt x y = decide (p < q)) := ⟨by
          rw [blt_first k (by rw [HX.out, HY.out]) (by rw [HX.out]; exact hlt) HE.out hne, HPQ.out.1, HPQ.out.2]⟩
        clear hne HE hpq
        go_wp2_with fail
        go_quiet (fail)
        go_wp2_with fail
        go_quiet (fail)
        go_wp2
        go_ret
        exact ⟨ret_bool (by rw [HF.out]; try simp), hXb.out.os, hXb.out.tape, hXb.out.output, hXb.out.size, hXb.out.block⟩
    · obtain rfl : k = 32 := by omega
      have HF : Seal (blt x y = false) := ⟨by
        have : x = y := bytes_ext (by rw [HX.out, HY.out]) (fun j hj => HE.out j (by rw [HX.out] at hj; exact hj))
        rw [this]; exact blt_irrefl y⟩
      clear HE
      rw [show ((32 : Nat) : Int) = 32 from rfl]
      go_wp2
      go_ret
      exact ⟨ret_bool HF.out.symm, hXb.out.os, hXb.out.tape, hXb.out.output, hXb.out.size, hXb.out.block⟩

theorem IsD.drew {w : World} {a : Option Addr} {len cap : Nat} {l : List Bytes} (h : IsD w a len cap l) : IsD w.drew a len cap l := h.of_heap ⟨rfl, rfl, rfl, Nat.le_refl _, fun _ _ => rfl⟩

set_option maxHeartbeats 2000000 in
theorem rused_any (a : Option Addr) (len cap : Nat) (l : List Bytes) (w : World) (hd : IsD w a len cap l) :
    Calls Tryz.prog 31 #[.slice a len cap] w fun e w' => e = .returned (.bool (usedB l)) ∧ Below w.heap.size w w' := by
  have HD := Seal.mk hd
  have hll := hd.llen
  have hlm := hd.lmax
  clear hd
  go_enter Tryz.func31, Tryz.ntmps31
  go_wp2
  go_loopw [3] (fun i wr => ∃ k : Nat, 1 ≤ k ∧ (k ≤ len ∨ k = 1) ∧ i = .int .i64 k ∧ Seal (Below w.heap.size w wr ∧ ∀ j, j + 1 < k → blt (l.getD j []) (l.getD (j + 1) []) = true)) (fun i _ => len - (intOf i).toNat)
  case atStart => exact ⟨1, by omega, .inr rfl, rfl, ⟨Below.refl _ _, fun j hj => by omega⟩⟩
  case round =>
    obtain ⟨k, hk1, hk, rfl, hH⟩ := hrel
    by_cases hlt : k < len
    · have HDr := HD.out.of_heap hH.out.1
      rcases HDr.at_ with h0 | ⟨g, off, rfl, hr, hg⟩
      · omega
      · obtain ⟨x, hx⟩ : ∃ x, x = l.getD (k - 1) [] := ⟨_, rfl⟩
        obtain ⟨y, hy⟩ : ∃ y, y = l.getD k [] := ⟨_, rfl⟩
        have r1 := range_dg hr HDr.each (i := k - 1) (by omega)
        have r2 := range_dg hr HDr.each (i := k) (by omega)
        have x32 := getD_len HDr.each (i := k - 1) (by omega)
        have y32 := getD_len HDr.each (i := k) (by omega)
        rw [← hx] at r1 x32
        rw [← hy] at r2 y32
        have HC : Seal (∀ W, Calls Tryz.prog 54 #[.agg (x.map B).toArray, .agg (y.map B).toArray] W fun e w' => e = .returned (.bool (blt x y)) ∧ Below W.heap.size W w') := ⟨fun W => rbefore_any x y W x32 y32⟩
        have i1 := dg_info x x32
        have i2 := dg_info y y32
        have ut := Tryz.underlying42
        have q1 : IntKind.i64.wrap ((k : Int) - 1) = k - 1 := IntWalk.i64_in _ (by omega)
        have q2 : ((k : Int) - 1).toNat = k - 1 := by omega
        have q3 : 0 ≤ (k : Int) - 1 := by omega
        have q4 : (k : Int) - 1 < (len : Int) := by omega
        have q5 : (k : Int) < (len : Int) := by omega
        have q6 : 1 ≤ (k : Int) := by omega
        have HX := Seal.mk hx
        have HY := Seal.mk hy
        clear hr HDr hll hx hy x32 y32
        go_wp2_with fail
        refine wp_region_held_drew (S := fun w' => w'.rangeAt g (off + (k - 1) * 32) (x.map B) ∧ w'.rangeAt g (off + k * 32) (y.map B)) (by kernel_rfl) ⟨r1, r2⟩ (fun hHeld => ?_)
        refine take_h 0 ?_ rfl (by kernel_rfl) (by kernel_rfl) (by kernel_rfl) (fun _ _ _ h => h) (Or.inl ⟨by kernel_rfl, ?_⟩) (by assumption) ?_
        rotate_left
        · (intro w hSw; (try dsimp only at hSw); go_simp; try (with_reducible rfl))
        try simp only [Act.put, List.setIfInBounds_toArray, List.set_cons_zero, List.set_cons_succ]
        refine take_h 1 ?_ rfl (by kernel_rfl) (by kernel_rfl) (by kernel_rfl) (fun _ _ _ h => h) (Or.inl ⟨by kernel_rfl, ?_⟩) (by assumption) ?_
        rotate_left
        · (intro w hSw; (try dsimp only at hSw); go_simp; try (with_reducible rfl))
        try simp only [Act.put, List.setIfInBounds_toArray, List.set_cons_zero, List.set_cons_succ]
        refine take_h 2 ?_ rfl (by kernel_rfl) (by kernel_rfl) (by kernel_rfl) (fun _ _ _ h => h) (Or.inl ⟨by kernel_rfl, ?_⟩) (by assumption) ?_
        rotate_left
        · (intro w hSw; (try dsimp only at hSw); go_simp; try (with_reducible rfl))
        try simp only [Act.put, List.setIfInBounds_toArray, List.set_cons_zero, List.set_cons_succ]
        refine take_h 3 ?_ rfl (by kernel_rfl) (by kernel_rfl) (by kernel_rfl) (fun _ _ _ h => h) (Or.inl ⟨by kernel_rfl, ?_⟩) (by assumption) ?_
        rotate_left
        · (intro w hSw; (try dsimp only at hSw); go_simp; try (with_reducible rfl))
        try simp only [Act.put, List.setIfInBounds_toArray, List.set_cons_zero, List.set_cons_succ]
        refine take_h 4 _ rfl (by kernel_rfl) (by kernel_rfl) (by kernel_rfl) (fun _ _ _ h => h) (yieldsIf_load_mid (by kernel_rfl) 42 (.tmp 13) rfl g (off + (k - 1) * 32) rfl (x.map B) _ (fun w hSw => hSw.1) ut rfl i1) (by assumption) ?_
        try simp only [Act.put, List.setIfInBounds_toArray, List.set_cons_zero, List.set_cons_succ]
        refine take_h 5 ?_ rfl (by kernel_rfl) (by kernel_rfl) (by kernel_rfl) (fun _ _ _ h => h) (Or.inl ⟨by kernel_rfl, ?_⟩) (by assumption) ?_
        rotate_left
        · (intro w hSw; (try dsimp only at hSw); go_simp; try (with_reducible rfl))
        try simp only [Act.put, List.setIfInBounds_toArray, List.set_cons_zero, List.set_cons_succ]
        refine take_h 6 ?_ rfl (by kernel_rfl) (by kernel_rfl) (by kernel_rfl) (fun _ _ _ h => h) (Or.inl ⟨by kernel_rfl, ?_⟩) (by assumption) ?_
        rotate_left
        · (intro w hSw; (try dsimp only at hSw); go_simp; try (with_reducible rfl))
        try simp only [Act.put, List.setIfInBounds_toArray, List.set_cons_zero, List.set_cons_succ]
        refine take_h 7 ?_ rfl (by kernel_rfl) (by kernel_rfl) (by kernel_rfl) (fun _ _ _ h => h) (Or.inl ⟨by kernel_rfl, ?_⟩) (by assumption) ?_
        rotate_left
        · (intro w hSw; (try dsimp only at hSw); go_simp; try (with_reducible rfl))
        try simp only [Act.put, List.setIfInBounds_toArray, List.set_cons_zero, List.set_cons_succ]
        refine take_h 8 _ rfl (by kernel_rfl) (by kernel_rfl) (by kernel_rfl) (fun _ _ _ h => h) (yieldsIf_load_mid (by kernel_rfl) 42 (.tmp 17) rfl g (off + k * 32) rfl (y.map B) _ (fun w hSw => hSw.2) ut rfl i2) (by assumption) ?_
        try simp only [Act.put, List.setIfInBounds_toArray, List.set_cons_zero, List.set_cons_succ]
        refine call_h 9 rfl (by kernel_rfl) 54 #[.agg (x.map B).toArray, .agg (y.map B).toArray] (by kernel_rfl) (by go_simp) ?_
        refine (HC.out wr.drew).mono ?_
        rintro e w1 ⟨rfl, hb1⟩
        have hb2 : Below wr.heap.size wr w1 := ⟨hb1.os, hb1.tape, hb1.output, hb1.size, hb1.block⟩
        have HB1 : Seal (Below w.heap.size w w1) := ⟨hH.out.1.trans (hb2.mono hH.out.1.size)⟩
        refine ⟨_, rfl, ⟨rangeAt_below' r1 hb2, rangeAt_below' r2 hb2⟩, fun hHeld2 => ?_⟩
        clear hHeld hb1 hb2 HC r1 r2 q1 q2 q3 q4 i1 i2 ut
        have HNB : Seal (blt x y = false → usedB l = false) := ⟨fun hc => by
          cases hu : usedB l with
          | false => rfl
          | true =>
            have := (usedB_iff l).1 hu (k - 1) (by rw [HD.out.llen]; omega)
            rw [show k - 1 + 1 = k from by omega, ← HX.out, ← HY.out, hc] at this
            cases this⟩
        have HLB : Seal (blt x y = true → blt (l.getD (k - 1) []) (l.getD k []) = true) := ⟨fun hc => by rw [← HX.out, ← HY.out]; exact hc⟩
        generalize blt x y = c at *
        try simp only [Act.put, List.setIfInBounds_toArray, List.set_cons_zero, List.set_cons_succ]
        cases c
        · skip
          refine take_h 10 ?_ rfl (by kernel_rfl) (by kernel_rfl) (by kernel_rfl) (fun _ _ _ h => h) (Or.inl ⟨by kernel_rfl, ?_⟩) (by assumption) ?_
          rotate_left
          · (intro w hSw; (try dsimp only at hSw); go_simp; try (with_reducible rfl))
          try simp only [Act.put, List.setIfInBounds_toArray, List.set_cons_zero, List.set_cons_succ]
          refine wpAnyH_done (by kernel_rfl) ?_ _
          have HN := HNB.out rfl
          have HN := Seal.mk HN
          clear hHeld2 HLB HNB
          go_wp2
          go_ret
          exact ⟨ret_bool HN.out.symm, HB1.out⟩
        · skip
          refine take_h 10 ?_ rfl (by kernel_rfl) (by kernel_rfl) (by kernel_rfl) (fun _ _ _ h => h) (Or.inl ⟨by kernel_rfl, ?_⟩) (by assumption) ?_
          rotate_left
          · (intro w hSw; (try dsimp only at hSw); go_simp; try (with_reducible rfl))
          try simp only [Act.put, List.setIfInBounds_toArray, List.set_cons_zero, List.set_cons_succ]
          refine wpAnyH_done (by kernel_rfl) ?_ _
          have HL := Seal.mk (HLB.out rfl)
          clear hHeld2 HLB HNB
          go_wp2
          go_roundw
          case rel =>
            refine ⟨k + 1, by omega, .inl hlt, by go_num, ⟨HB1.out, fun j hj => ?_⟩⟩
            by_cases hjk : j + 1 < k
            · exact hH.out.2 j hjk
            · have e1 : j = k - 1 := by omega
              have e2 : j + 1 = k := by omega
              rw [e2, e1]; exact HL.out
          case measure => simp [intOf]; omega
    · have HU : Seal (usedB l = true) := ⟨(usedB_iff l).2 (fun i hi => hH.out.2 i (by rw [HD.out.llen] at hi; omega))⟩
      have HB1 : Seal (Below w.heap.size w wr) := ⟨hH.out.1⟩
      have hnl : ¬ (k : Int) < (len : Int) := by omega
      clear hH
      go_wp2
      go_ret
      exact ⟨ret_bool HU.out.symm, HB1.out⟩

theorem has_take_succ {l : List Bytes} {k : Nat} {d : Bytes} (hk : k < l.length) : d ∈ l.take (k + 1) ↔ d ∈ l.take k ∨ l.getD k [] = d := by
  rw [List.take_succ_eq_append_getElem hk, List.mem_append, List.mem_singleton, List.getD_eq_getElem?_getD, List.getElem?_eq_getElem hk]
  simp only [Option.getD_some]
  exact ⟨fun h => h.imp_right Eq.symm, fun h => h.imp_right Eq.symm⟩

set_option maxHeartbeats 2000000 in
theorem rhas_any (a : Option Addr) (len cap : Nat) (l : List Bytes) (d : Bytes) (w : World) (hd : IsD w a len cap l) (h32 : d.length = 32) :
    Calls Tryz.prog 33 #[.slice a len cap, .agg (d.map B).toArray] w fun e w' => e = .returned (.bool (hasB l d)) ∧ Below w.heap.size w w' := by
  have HD := Seal.mk hd
  have hll := hd.llen
  have hlm := hd.lmax
  have H32 := Seal.mk h32
  obtain ⟨X, hX⟩ : ∃ X : World, X = w.alloc (.cells (d.map B).toArray 42) := ⟨_, rfl⟩
  have hXb : Seal (Below w.heap.size w X) := ⟨by rw [hX]; exact below_alloc _ _⟩
  have hXr : Seal (X.rangeAt w.heap.size 0 (d.map B)) := ⟨by rw [hX]; exact rangeAt_new w _ _ _⟩
  clear hd h32
  go_enter Tryz.func33, Tryz.ntmps33
  go_wp2
  rw [← hX]
  clear hX
  go_loopw [5] (fun i wr => ∃ k : Nat, k ≤ len ∧ i = .int .i64 k ∧ Seal (Below X.heap.size X wr ∧ ¬ d ∈ l.take k)) (fun i _ => len - (intOf i).toNat)
  case atStart => exact ⟨0, by omega, rfl, ⟨Below.refl _ _, by simp⟩⟩
  case round =>
    obtain ⟨k, hk, rfl, hH⟩ := hrel
    by_cases hlt : k < len
    · have HDr := (HD.out.of_heap hXb.out).of_heap hH.out.1
      rcases HDr.at_ with h0 | ⟨g, off, rfl, hr, hg⟩
      · omega
      · obtain ⟨x, hx⟩ : ∃ x, x = l.getD k [] := ⟨_, rfl⟩
        have r1 := range_dg hr HDr.each (i := k) (by omega)
        have x32 := getD_len HDr.each (i := k) (by omega)
        rw [← hx] at r1 x32
        have r2 : wr.rangeAt w.heap.size 0 (d.map B) := rangeAt_below' hXr.out hH.out.1
        have i1 := dg_info x x32
        have i2 := dg_info d H32.out
        have ut := Tryz.underlying42
        obtain ⟨t, ht⟩ : ∃ t, (x == d) = t := ⟨_, rfl⟩
        have heq : ∀ W, (Op.equalIn 10000 42 (.agg (x.map B).toArray) (.agg (d.map B).toArray)).run Tryz.prog W = .ok t W := fun W => by rw [← ht]; exact eqDig _ _ x32 H32.out W
        have HM : Seal (d ∈ l.take (k + 1) ↔ t = true) := ⟨by
          rw [has_take_succ (by omega), ← hx, ← ht, beq_iff_eq]
          exact ⟨fun h => h.resolve_left hH.out.2, .inr⟩⟩
        have q5 : (k : Int) < (len : Int) := by omega
        have q6 : (0 : Int) ≤ (k : Int) := by omega
        clear hr HDr hll hx x32 ht
        go_wp2_with fail
        refine wp_region_held_drew (S := fun w' => w'.rangeAt g (off + k * 32) (x.map B) ∧ w'.rangeAt w.heap.size 0 (d.map B)) (by kernel_rfl) ⟨r1, r2⟩ (fun hHeld => ?_)
        refine take_h 0 ?_ rfl (by kernel_rfl) (by kernel_rfl) (by kernel_rfl) (fun _ _ _ h => h) (Or.inl ⟨by kernel_rfl, ?_⟩) (by assumption) ?_
        rotate_left
        · (intro w hSw; (try dsimp only at hSw); go_simp; try (with_reducible rfl))
        try simp only [Act.put, List.setIfInBounds_toArray, List.set_cons_zero, List.set_cons_succ]
        refine take_h 1 ?_ rfl (by kernel_rfl) (by kernel_rfl) (by kernel_rfl) (fun _ _ _ h => h) (Or.inl ⟨by kernel_rfl, ?_⟩) (by assumption) ?_
        rotate_left
        · (intro w hSw; (try dsimp only at hSw); go_simp; try (with_reducible rfl))
        try simp only [Act.put, List.setIfInBounds_toArray, List.set_cons_zero, List.set_cons_succ]
        refine take_h 2 ?_ rfl (by kernel_rfl) (by kernel_rfl) (by kernel_rfl) (fun _ _ _ h => h) (Or.inl ⟨by kernel_rfl, ?_⟩) (by assumption) ?_
        rotate_left
        · (intro w hSw; (try dsimp only at hSw); go_simp; try (with_reducible rfl))
        try simp only [Act.put, List.setIfInBounds_toArray, List.set_cons_zero, List.set_cons_succ]
        refine take_h 3 _ rfl (by kernel_rfl) (by kernel_rfl) (by kernel_rfl) (fun _ _ _ h => h) (yieldsIf_load_mid (by kernel_rfl) 42 (.tmp 14) rfl g (off + k * 32) rfl (x.map B) _ (fun w hSw => hSw.1) ut rfl i1) (by assumption) ?_
        try simp only [Act.put, List.setIfInBounds_toArray, List.set_cons_zero, List.set_cons_succ]
        refine take_h 4 _ rfl (by kernel_rfl) (by kernel_rfl) (by kernel_rfl) (fun _ _ _ h => h) (yieldsIf_load_mid (by kernel_rfl) 42 (.tmp 3) rfl w.heap.size 0 rfl (d.map B) _ (fun w hSw => hSw.2) ut rfl i2) (by assumption) ?_
        try simp only [Act.put, List.setIfInBounds_toArray, List.set_cons_zero, List.set_cons_succ]
        refine take_h 5 ?_ rfl (by kernel_rfl) (by kernel_rfl) (by kernel_rfl) (fun _ _ _ h => h) (Or.inl ⟨by kernel_rfl, ?_⟩) (by assumption) ?_
        rotate_left
        · (intro w hSw; (try dsimp only at hSw); go_simp; try (with_reducible rfl))
        try simp only [Act.put, List.setIfInBounds_toArray, List.set_cons_zero, List.set_cons_succ]
        refine wpAnyH_done (by kernel_rfl) ?_ _
        have HB1 : Seal (Below X.heap.size X wr.drew) := ⟨⟨hH.out.1.os, hH.out.1.tape, hH.out.1.output, hH.out.1.size, hH.out.1.block⟩⟩
        clear hHeld r1 r2 i1 i2 ut heq
        cases t
        · have HN : Seal (¬ d ∈ l.take (k + 1)) := ⟨fun h => by have := HM.out.1 h; cases this⟩
          clear HM
          go_wp2
          go_roundw
          case rel => exact ⟨k + 1, by omega, by go_num, ⟨HB1.out, HN.out⟩⟩
          case measure => simp [intOf]; omega
        · have HY : Seal (hasB l d = true) := ⟨(hasB_iff l d).2 (List.mem_of_mem_take (HM.out.2 rfl))⟩
          clear HM
          go_wp2
          go_ret
          exact ⟨ret_bool HY.out.symm, hXb.out.trans (HB1.out.mono hXb.out.size)⟩
    · obtain rfl : k = len := by omega
      have HN : Seal (hasB l d = false) := ⟨by
        cases h : hasB l d with
        | false => rfl
        | true => exact absurd ((hasB_iff l d).1 h) (by have := hH.out.2; rwa [List.take_of_length_le (by omega)] at this)⟩
      have HB1 : Seal (Below X.heap.size X wr) := ⟨hH.out.1⟩
      clear hH
      go_wp2
      go_ret
      exact ⟨ret_bool HN.out.symm, hXb.out.trans (HB1.out.mono hXb.out.size)⟩

theorem take_succ_eq {l r : List Bytes} {k : Nat} (hl : k < l.length) (hr : k < r.length) (h : l.take k = r.take k) : (l.getD k [] = r.getD k [] → l.take (k + 1) = r.take (k + 1)) ∧ (l = r → l.getD k [] = r.getD k []) := by
  refine ⟨fun e => ?_, fun e => by rw [e]⟩
  rw [List.take_succ_eq_append_getElem hl, List.take_succ_eq_append_getElem hr, h]
  rw [List.getD_eq_getElem?_getD, List.getD_eq_getElem?_getD, List.getElem?_eq_getElem hl, List.getElem?_eq_getElem hr] at e
  simp only [Option.getD_some] at e
  rw [e]

set_option maxHeartbeats 2000000 in
theorem rsame_any (a b : Option Addr) (la ca lb cb : Nat) (l r : List Bytes) (w : World) (hd : IsD w a la ca l) (hd2 : IsD w b lb cb r) :
    Calls Tryz.prog 10 #[.slice a la ca, .slice b lb cb] w fun e w' => e = .returned (.bool (l == r)) ∧ Below w.heap.size w w' := by
  have HD := Seal.mk hd
  have HD2 := Seal.mk hd2
  have hlm := hd.lmax
  have hlm2 := hd2.lmax
  have HLL : Seal (l.length = la ∧ r.length = lb) := ⟨hd.llen, hd2.llen⟩
  clear hd hd2
  go_enter Tryz.func10, Tryz.ntmps10
  by_cases hne : la = lb
  · subst hne
    go_wp2
    go_loopw [5] (fun i wr => ∃ k : Nat, k ≤ la ∧ i = .int .i64 k ∧ Seal (Below w.heap.size w wr ∧ l.take k = r.take k)) (fun i _ => la - (intOf i).toNat)
    case atStart => exact ⟨0, by omega, rfl, ⟨Below.refl _ _, by simp⟩⟩
    case round =>
      obtain ⟨k, hk, rfl, hH⟩ := hrel
      by_cases hlt : k < la
      · have HDr := HD.out.of_heap hH.out.1
        have HDr2 := HD2.out.of_heap hH.out.1
        rcases HDr.at_ with h0 | ⟨g, off, rfl, hr, hg⟩
        · omega
        rcases HDr2.at_ with h0 | ⟨g2, off2, rfl, hr2, hg2⟩
        · omega
        obtain ⟨x, hx⟩ : ∃ x, x = l.getD k [] := ⟨_, rfl⟩
        obtain ⟨y, hy⟩ : ∃ y, y = r.getD k [] := ⟨_, rfl⟩
        have r1 := range_dg hr HDr.each (i := k) (by rw [HLL.out.1]; exact hlt)
        have x32 := getD_len HDr.each (i := k) (by rw [HLL.out.1]; exact hlt)
        have r2 := range_dg hr2 HDr2.each (i := k) (by rw [HLL.out.2]; exact hlt)
        have y32 := getD_len HDr2.each (i := k) (by rw [HLL.out.2]; exact hlt)
        rw [← hx] at r1 x32
        rw [← hy] at r2 y32
        have i1 := dg_info x x32
        have i2 := dg_info y y32
        have ut := Tryz.underlying42
        obtain ⟨t, ht⟩ : ∃ t, (x == y) = t := ⟨_, rfl⟩
        have heq : ∀ W, (Op.equalIn 10000 42 (.agg (x.map B).toArray) (.agg (y.map B).toArray)).run Tryz.prog W = .ok t W := fun W => by rw [← ht]; exact eqDig _ _ x32 y32 W
        have HM : Seal ((t = true → l.take (k + 1) = r.take (k + 1)) ∧ (t = false → (l == r) = false)) := ⟨by
          have := take_succ_eq (by rw [HLL.out.1]; exact hlt) (by rw [HLL.out.2]; exact hlt) hH.out.2
          rw [← hx, ← hy] at this
          refine ⟨fun e => this.1 (by rw [e] at ht; exact eq_of_beq ht), fun e => ?_⟩
          cases hb : (l == r) with
          | false => rfl
          | true =>
            have := this.2 (eq_of_beq hb)
            rw [← ht, this] at e
            simp at e⟩
        have q5 : (k : Int) < (la : Int) := by omega
        have q6 : (0 : Int) ≤ (k : Int) := by omega
        clear hr hr2 HDr HDr2 hx hy x32 y32 ht
        go_wp2_with fail
        refine wp_region_held_drew (S := fun w' => w'.rangeAt g (off + k * 32) (x.map B) ∧ w'.rangeAt g2 (off2 + k * 32) (y.map B)) (by kernel_rfl) ⟨r1, r2⟩ (fun hHeld => ?_)
        refine take_h 0 ?_ rfl (by kernel_rfl) (by kernel_rfl) (by kernel_rfl) (fun _ _ _ h => h) (Or.inl ⟨by kernel_rfl, ?_⟩) (by assumption) ?_
        rotate_left
        · (intro w hSw; (try dsimp only at hSw); go_simp; try (with_reducible rfl))
        try simp only [Act.put, List.setIfInBounds_toArray, List.set_cons_zero, List.set_cons_succ]
        refine take_h 1 ?_ rfl (by kernel_rfl) (by kernel_rfl) (by kernel_rfl) (fun _ _ _ h => h) (Or.inl ⟨by kernel_rfl, ?_⟩) (by assumption) ?_
        rotate_left
        · (intro w hSw; (try dsimp only at hSw); go_simp; try (with_reducible rfl))
        try simp only [Act.put, List.setIfInBounds_toArray, List.set_cons_zero, List.set_cons_succ]
        refine take_h 2 ?_ rfl (by kernel_rfl) (by kernel_rfl) (by kernel_rfl) (fun _ _ _ h => h) (Or.inl ⟨by kernel_rfl, ?_⟩) (by assumption) ?_
        rotate_left
        · (intro w hSw; (try dsimp only at hSw); go_simp; try (with_reducible rfl))
        try simp only [Act.put, List.setIfInBounds_toArray, List.set_cons_zero, List.set_cons_succ]
        refine take_h 3 _ rfl (by kernel_rfl) (by kernel_rfl) (by kernel_rfl) (fun _ _ _ h => h) (yieldsIf_load_mid (by kernel_rfl) 42 (.tmp 19) rfl g (off + k * 32) rfl (x.map B) _ (fun w hSw => hSw.1) ut rfl i1) (by assumption) ?_
        try simp only [Act.put, List.setIfInBounds_toArray, List.set_cons_zero, List.set_cons_succ]
        refine take_h 4 ?_ rfl (by kernel_rfl) (by kernel_rfl) (by kernel_rfl) (fun _ _ _ h => h) (Or.inl ⟨by kernel_rfl, ?_⟩) (by assumption) ?_
        rotate_left
        · (intro w hSw; (try dsimp only at hSw); go_simp; try (with_reducible rfl))
        try simp only [Act.put, List.setIfInBounds_toArray, List.set_cons_zero, List.set_cons_succ]
        refine take_h 5 ?_ rfl (by kernel_rfl) (by kernel_rfl) (by kernel_rfl) (fun _ _ _ h => h) (Or.inl ⟨by kernel_rfl, ?_⟩) (by assumption) ?_
        rotate_left
        · (intro w hSw; (try dsimp only at hSw); go_simp; try (with_reducible rfl))
        try simp only [Act.put, List.setIfInBounds_toArray, List.set_cons_zero, List.set_cons_succ]
        refine take_h 6 ?_ rfl (by kernel_rfl) (by kernel_rfl) (by kernel_rfl) (fun _ _ _ h => h) (Or.inl ⟨by kernel_rfl, ?_⟩) (by assumption) ?_
        rotate_left
        · (intro w hSw; (try dsimp only at hSw); go_simp; try (with_reducible rfl))
        try simp only [Act.put, List.setIfInBounds_toArray, List.set_cons_zero, List.set_cons_succ]
        refine take_h 7 _ rfl (by kernel_rfl) (by kernel_rfl) (by kernel_rfl) (fun _ _ _ h => h) (yieldsIf_load_mid (by kernel_rfl) 42 (.tmp 23) rfl g2 (off2 + k * 32) rfl (y.map B) _ (fun w hSw => hSw.2) ut rfl i2) (by assumption) ?_
        try simp only [Act.put, List.setIfInBounds_toArray, List.set_cons_zero, List.set_cons_succ]
        refine take_h 8 ?_ rfl (by kernel_rfl) (by kernel_rfl) (by kernel_rfl) (fun _ _ _ h => h) (Or.inl ⟨by kernel_rfl, ?_⟩) (by assumption) ?_
        rotate_left
        · (intro w hSw; (try dsimp only at hSw); go_simp; try (with_reducible rfl))
        try simp only [Act.put, List.setIfInBounds_toArray, List.set_cons_zero, List.set_cons_succ]
        refine wpAnyH_done (by kernel_rfl) ?_ _
        have HB1 : Seal (Below w.heap.size w wr.drew) := ⟨⟨hH.out.1.os, hH.out.1.tape, hH.out.1.output, hH.out.1.size, hH.out.1.block⟩⟩
        clear hHeld r1 r2 i1 i2 ut heq
        cases t
        · have HN := Seal.mk (HM.out.2 rfl)
          clear HM
          go_wp2
          go_ret
          exact ⟨ret_bool HN.out.symm, HB1.out⟩
        · have HN := Seal.mk (HM.out.1 rfl)
          clear HM
          go_wp2
          go_roundw
          case rel => exact ⟨k + 1, by omega, by go_num, ⟨HB1.out, HN.out⟩⟩
          case measure => simp [intOf]; omega
      · obtain rfl : k = la := by omega
        have HN : Seal ((l == r) = true) := ⟨by
          have := hH.out.2
          rw [List.take_of_length_le (by rw [HLL.out.1]; omega), List.take_of_length_le (by rw [HLL.out.2]; omega)] at this
          rw [this]; simp⟩
        have HB1 : Seal (Below w.heap.size w wr) := ⟨hH.out.1⟩
        clear hH
        go_wp2
        go_ret
        exact ⟨ret_bool HN.out.symm, HB1.out⟩
  · have q : ¬ (la : Int) = (lb : Int) := by omega
    have HN : Seal ((l == r) = false) := ⟨by
      cases hb : (l == r) with
      | false => rfl
      | true => exact absurd (by rw [← HLL.out.1, ← HLL.out.2, eq_of_beq hb]) hne⟩
    go_wp2
    go_ret
    exact ⟨ret_bool HN.out.symm, Below.refl _ _⟩

/-- an append of digests to a list of the call's own -/
theorem run_app_d (w : World) (ty : TypeId) (base n m c : Nat) (v : Value) (l1 l2 : List Bytes) (hown : OwnD w base v n l1) (ad : Addr) (hl : l2.length = m) (he : ∀ d ∈ l2, d.length = 32) (hc : ∀ j u, (dcells l2)[j]? = some u → w.cell? (ad.add j) = some u) (hn : n + m ≤ 1099511627776) (hbase : base ≤ w.heap.size) :
    ∃ v' w', (Builtin.append_ #[24, 24] ty #[v, .slice (some ad) m c]).run Tryz.prog w = .ok v' w' ∧ OwnD w' base v' (n + m) (l1 ++ l2) ∧ w.grownBy w' v.ownBlock ∧ (v'.ownBlock = v.ownBlock ∨ v'.ownBlock = some w.heap.size) := by
  obtain ⟨i0, hi, hz0, hz1, hz2⟩ := info_parts info_dg
  obtain ⟨v', w', h1, h2, h3, _, h5⟩ := run_append_own_at (P := Tryz.prog) w base 24 ty 42 i0 _ 32 32 Tryz.underlying24 hi hz0 hz1 hz2 (by rfl) (by decide) v n (dcells l1) hown ad m c (dcells l2) (by rw [dcells_length l2 he, hl]) hc (dcells_one l2) (by unfold maxLen; omega) (by omega) hbase
  refine ⟨v', w', h1, ?_, h3, h5⟩
  unfold OwnD
  rw [show dcells (l1 ++ l2) = dcells l1 ++ dcells l2 from by unfold dcells; simp]
  exact h2

theorem run_app_none (w : World) (ty : TypeId) (base n : Nat) (v : Value) (l1 : List Bytes) (hown : OwnD w base v n l1) : (Builtin.append_ #[24, 24] ty #[v, .slice none 0 0]).run Tryz.prog w = .ok v w := by
  obtain ⟨i0, hi, _, _, _⟩ := info_parts info_dg
  exact run_append_owned_none (P := Tryz.prog) (w := w) base 24 ty 42 i0 32 Tryz.underlying24 hi v n (dcells l1) hown

theorem dcells_take (l : List Bytes) (k : Nat) (he : ∀ d ∈ l, d.length = 32) : dcells (l.take k) = (dcells l).take (k * 32) := by
  unfold dcells; rw [flat_take l k he, List.map_take]
theorem dcells_drop (l : List Bytes) (k : Nat) (he : ∀ d ∈ l, d.length = 32) : dcells (l.drop k) = (dcells l).drop (k * 32) := by
  unfold dcells; rw [flat_drop l k he, List.map_drop]

/-- what Put returns -/
def PutPost (l : List Bytes) (w : World) (e : Ending) (w' : World) : Prop :=
  ∃ g n c, e = .returned (.slice (some ⟨g, 0, none⟩) n c) ∧ Seal (IsD w' (some ⟨g, 0, none⟩) n c l) ∧ Below w.heap.size w w'

theorem own_empty (w : World) (base : Nat) (hb : base ≤ w.heap.size) : OwnD (w.alloc (.cells #[] 42)) base (.slice (some ⟨w.heap.size, 0, none⟩) 0 0) 0 [] :=
  ⟨by simp [dcells], .inr ⟨w.heap.size, 0, #[], rfl, hb, heap_alloc_new w _, Nat.le_refl _, by unfold maxLen; omega, by simp, by simp [dcells]⟩⟩

/-- one digest more -/
theorem put_one (k : Nat) (l1 : List Bytes) (d : Bytes) (h32 : d.length = 32) (hk : k ≤ 4096) (W : World) (base vb : Nat) (v : Value) (ty : TypeId) (ho : OwnD W base v k l1) (hv : W.heap[vb]? = some (.cells (d.map B).toArray 42 (0, 0))) (hb : base ≤ W.heap.size) :
    ∃ v2 W2, (Builtin.append_ #[24, 24] ty #[v, .slice (some ⟨vb, 0, none⟩) 1 1]).run Tryz.prog W = .ok v2 W2 ∧ OwnD W2 base v2 (k + 1) (l1 ++ [d]) ∧ Below base W W2 := by
  obtain ⟨v2, W2, h1, h2, h3, _⟩ := run_app_d W ty base k 1 1 v l1 [d] ho ⟨vb, 0, none⟩ rfl (by simpa using h32) (by
    rw [show dcells [d] = d.map B from by simp [dcells]]
    exact World.news_of_block hv) (by omega) hb
  exact ⟨v2, W2, h1, h2, below_own ho hb h3⟩

/-- the first part of a list, into a new row -/
theorem put_head (V : World) (g off len cap k : Nat) (l : List Bytes) (hd : IsD V (some ⟨g, off, none⟩) len cap l) (hk : k ≤ len) (hlen : len < 4096) (W : World) (b0 : Nat) (ty : TypeId) (hO : OwnD W V.heap.size (.slice (some ⟨b0, 0, none⟩) 0 0) 0 []) (hb : Below V.heap.size V W) (hs : V.heap.size ≤ W.heap.size) :
    ∃ v1 W1, (Builtin.append_ #[24, 24] ty #[.slice (some ⟨b0, 0, none⟩) 0 0, .slice (some ⟨g, off, none⟩) k cap]).run Tryz.prog W = .ok v1 W1 ∧ OwnD W1 V.heap.size v1 k (l.take k) ∧ W.grownBy W1 (some b0) ∧ Below V.heap.size W W1 := by
  have he : ∀ d ∈ l.take k, d.length = 32 := fun d h => hd.each d (List.mem_of_mem_take h)
  obtain ⟨v1, W1, h1, h2, h3, _⟩ := run_app_d W ty V.heap.size 0 k cap _ [] (l.take k) hO ⟨g, off, none⟩ (by rw [List.length_take, hd.llen]; omega) he (fun j u hj => by
    rcases hd.at_ with h0 | ⟨g', off', e, hr, hg⟩
    · obtain rfl : k = 0 := by omega
      simp [dcells] at hj
    · cases e
      rw [Addr.add_mid]
      have hj' : (dcells l)[j]? = some u := by
        rw [dcells_take l k hd.each, List.getElem?_take] at hj
        split at hj
        · exact hj
        · cases hj
      exact (World.cell?_of_block (w := V) (hb.block g hg)).trans (hr j u hj')) (by omega) hs
  rw [Nat.zero_add, List.nil_append] at h2
  exact ⟨v1, W1, h1, h2, h3, below_own hO hs h3⟩

/-- the rest of a list -/
theorem put_rest (V : World) (g off len cap k c : Nat) (l : List Bytes) (d : Bytes) (hd : IsD V (some ⟨g, off, none⟩) len cap l) (hk : k ≤ len) (hke : k = atB l d) (hlen : len < 4096) (W : World) (v : Value) (ty : TypeId) (hO : OwnD W V.heap.size v (k + 1) (l.take k ++ [d])) (hb : Below V.heap.size V W) (ad : Addr) (had : 0 < len - k → ad = ⟨g, off + k * 32, none⟩) :
    ∃ v3 W4, (Builtin.append_ #[24, 24] ty #[v, .slice (some ad) (len - k) c]).run Tryz.prog W = .ok v3 W4 ∧ OwnD W4 V.heap.size v3 (len + 1) (putB l d) ∧ Below V.heap.size W W4 := by
  have he : ∀ d ∈ l.drop k, d.length = 32 := fun d h => hd.each d (List.mem_of_mem_drop h)
  obtain ⟨v1, W1, h1, h2, h3, _⟩ := run_app_d W ty V.heap.size (k + 1) (len - k) c v (l.take k ++ [d]) (l.drop k) hO ad (by rw [List.length_drop, hd.llen]) he (fun j u hj => by
    by_cases h0 : 0 < len - k
    · rw [had h0]
      rcases hd.at_ with h0 | ⟨g', off', e, hr, hg⟩
      · omega
      · cases e
        rw [Addr.add_mid]
        have hj' : (dcells l)[k * 32 + j]? = some u := by
          rw [dcells_drop l k hd.each, List.getElem?_drop] at hj
          exact hj
        have := hr _ u hj'
        rw [← Nat.add_assoc] at this
        exact (World.cell?_of_block (w := V) (hb.block g hg)).trans this
    · rw [List.drop_of_length_le (by rw [hd.llen]; omega)] at hj
      simp [dcells] at hj) (by omega) hb.size
  rw [show k + 1 + (len - k) = len + 1 from by omega, show l.take k ++ [d] ++ l.drop k = putB l d from by unfold putB; rw [← hke]; simp] at h2
  exact ⟨v1, W1, h1, h2, below_own hO hb.size h3⟩

theorem wpList_append_run1 {P : Program} {ops : Array Oper} {rest : List Oper} {o : Oper} {a : Act} {w w' : World} {Q : Exit → Act → World → Prop} (hgd : o.guard = none) (s x : Operand) (t tn ty : TypeId) (hty : o.type = ty)
    (ho : o.op = .call { callee := .builtin .append, args := #[s, x], argTypes := #[t, tn] }) (sv xv v : Value) (hs : a.eval s = sv) (hx : a.eval x = xv)
    (hrun : (Builtin.append_ #[t, tn] ty #[sv, xv]).run P w = .ok v w') (h : wpList P ops Q rest (a.put o.dst v) w') : wpList P ops Q (o :: rest) a w :=
  wpList_plain hgd fun K hK => by
    subst hty
    unfold Oper.wp
    simp [execOp, ho, resolve, invoke, builtin, hs, hx, hrun, Result.andThen]
    exact hK _ _ h

theorem putPost_of {W w : World} {base n : Nat} {v : Value} {l : List Bytes} (h : OwnD W base v (n + 1) l) (hl : l.length = n + 1) (he : ∀ d ∈ l, d.length = 32) (hn : n + 1 ≤ 1099511627776) (hb : Below w.heap.size w W) : PutPost l w (.returned v) W := by
  have h' := h
  obtain ⟨g, c, rfl, _⟩ := World.ownsRow.form h (Nat.succ_pos n)
  exact ⟨g, n + 1, c, rfl, ⟨disD_own h' hl he hn⟩, hb⟩
set_option maxHeartbeats 4000000 in
theorem rput_some (g off : Nat) (len cap : Nat) (l : List Bytes) (d : Bytes) (w : World) (hd : IsD w (some ⟨g, off, none⟩) len cap l) (h32 : d.length = 32) (hlen : len < 4096) :
    Calls Tryz.prog 35 #[.slice (some ⟨g, off, none⟩) len cap, .agg (d.map B).toArray] w (PutPost (putB l d) w) := by
  have HD := Seal.mk hd
  have hll := hd.llen
  have hlc := hd.lcap
  have hcm := hd.cmax
  have hat := atB_le l d
  rw [hll] at hat
  have H32 := Seal.mk h32
  obtain ⟨X, hX⟩ : ∃ X : World, X = w.alloc (.cells (d.map B).toArray 42) := ⟨_, rfl⟩
  have hXb : Seal (Below w.heap.size w X) := ⟨by rw [hX]; exact below_alloc _ _⟩
  have hXr : Seal (X.rangeAt w.heap.size 0 (d.map B)) := ⟨by rw [hX]; exact rangeAt_new w _ _ _⟩
  have hXs : Seal (w.heap.size < X.heap.size) := ⟨by rw [hX, size_alloc]; omega⟩
  have HLL := Seal.mk hll
  clear hd h32 hll
  go_enter Tryz.func35, Tryz.ntmps35
  go_wp2
  rw [← hX]
  clear hX
  go_loopw [5] (fun i wr => ∃ k : Nat, k ≤ atB l d ∧ i = .int .i64 k ∧ Seal (Below X.heap.size X wr)) (fun i _ => atB l d - (intOf i).toNat)
  case atStart => exact ⟨0, by omega, rfl, ⟨Below.refl _ _⟩⟩
  case round =>
    obtain ⟨k, hk, rfl, hH⟩ := hrel
    have HDr := (HD.out.of_heap hXb.out).of_heap hH.out
    have r2 : wr.rangeAt w.heap.size 0 (d.map B) := rangeAt_below' hXr.out hH.out
    have i2 := dg_info d H32.out
    have ut := Tryz.underlying42
    by_cases hlt : k < len
    · rcases HDr.at_ with h0 | ⟨g', off', eg, hr, hg⟩
      · omega
      · cases eg
        obtain ⟨x, hx⟩ : ∃ x, x = l.getD k [] := ⟨_, rfl⟩
        have r1 := range_dg hr HDr.each (i := k) (by rw [HLL.out]; omega)
        have x32 := getD_len HDr.each (i := k) (by rw [HLL.out]; omega)
        rw [← hx] at r1 x32
        have i1 := dg_info x x32
        have HC : Seal (∀ W, Calls Tryz.prog 54 #[.agg (x.map B).toArray, .agg (d.map B).toArray] W fun e w' => e = .returned (.bool (blt x d)) ∧ Below W.heap.size W w') := ⟨fun W => rbefore_any x d W x32 H32.out⟩
        have q5 : (k : Int) < (len : Int) := by omega
        have q6 : (0 : Int) ≤ (k : Int) := by omega
        have HX := Seal.mk hx
        clear hr HDr hx x32
        go_wp2_with fail
        refine wp_region_held_drew (S := fun w' => w'.rangeAt g (off + k * 32) (x.map B) ∧ w'.rangeAt w.heap.size 0 (d.map B)) (by kernel_rfl) ⟨r1, r2⟩ (fun hHeld => ?_)
        refine take_h 0 ?_ rfl (by kernel_rfl) (by kernel_rfl) (by kernel_rfl) (fun _ _ _ h => h) (Or.inl ⟨by kernel_rfl, ?_⟩) (by assumption) ?_
        rotate_left
        · (intro w hSw; (try dsimp only at hSw); go_simp; try (with_reducible rfl))
        try simp only [Act.put, List.setIfInBounds_toArray, List.set_cons_zero, List.set_cons_succ]
        refine take_h 1 ?_ rfl (by kernel_rfl) (by kernel_rfl) (by kernel_rfl) (fun _ _ _ h => h) (Or.inl ⟨by kernel_rfl, ?_⟩) (by assumption) ?_
        rotate_left
        · (intro w hSw; (try dsimp only at hSw); go_simp; try (with_reducible rfl))
        try simp only [Act.put, List.setIfInBounds_toArray, List.set_cons_zero, List.set_cons_succ]
        refine take_h 2 ?_ rfl (by kernel_rfl) (by kernel_rfl) (by kernel_rfl) (fun _ _ _ h => h) (Or.inl ⟨by kernel_rfl, ?_⟩) (by assumption) ?_
        rotate_left
        · (intro w hSw; (try dsimp only at hSw); go_simp; try (with_reducible rfl))
        try simp only [Act.put, List.setIfInBounds_toArray, List.set_cons_zero, List.set_cons_succ]
        refine take_h 3 ?_ rfl (by kernel_rfl) (by kernel_rfl) (by kernel_rfl) (fun _ _ _ h => h) (Or.inl ⟨by kernel_rfl, ?_⟩) (by assumption) ?_
        rotate_left
        · (intro w hSw; (try dsimp only at hSw); go_simp; try (with_reducible rfl))
        try simp only [Act.put, List.setIfInBounds_toArray, List.set_cons_zero, List.set_cons_succ]
        refine take_h 4 ?_ rfl (by kernel_rfl) (by kernel_rfl) (by kernel_rfl) (fun _ _ _ h => h) (Or.inl ⟨by kernel_rfl, ?_⟩) (by assumption) ?_
        rotate_left
        · (intro w hSw; (try dsimp only at hSw); go_simp; try (with_reducible rfl))
        try simp only [Act.put, List.setIfInBounds_toArray, List.set_cons_zero, List.set_cons_succ]
        refine take_h 5 ?_ rfl (by kernel_rfl) (by kernel_rfl) (by kernel_rfl) (fun _ _ _ h => h) (Or.inl ⟨by kernel_rfl, ?_⟩) (by assumption) ?_
        rotate_left
        · (intro w hSw; (try dsimp only at hSw); go_simp; try (with_reducible rfl))
        try simp only [Act.put, List.setIfInBounds_toArray, List.set_cons_zero, List.set_cons_succ]
        refine take_h 6 ?_ rfl (by kernel_rfl) (by kernel_rfl) (by kernel_rfl) (fun _ _ _ h => h) (Or.inl ⟨by kernel_rfl, ?_⟩) (by assumption) ?_
        rotate_left
        · (intro w hSw; (try dsimp only at hSw); go_simp; try (with_reducible rfl))
        try simp only [Act.put, List.setIfInBounds_toArray, List.set_cons_zero, List.set_cons_succ]
        refine take_h 7 ?_ rfl (by kernel_rfl) (by kernel_rfl) (by kernel_rfl) (fun _ _ _ h => h) (Or.inl ⟨by kernel_rfl, ?_⟩) (by assumption) ?_
        rotate_left
        · (intro w hSw; (try dsimp only at hSw); go_simp; try (with_reducible rfl))
        try simp only [Act.put, List.setIfInBounds_toArray, List.set_cons_zero, List.set_cons_succ]
        refine take_h 8 _ rfl (by kernel_rfl) (by kernel_rfl) (by kernel_rfl) (fun _ _ _ h => h) (yieldsIf_load_mid (by kernel_rfl) 42 (.tmp 14) rfl g (off + k * 32) rfl (x.map B) _ (fun w hSw => hSw.1) ut rfl i1) (by assumption) ?_
        try simp only [Act.put, List.setIfInBounds_toArray, List.set_cons_zero, List.set_cons_succ]
        refine take_h 9 _ rfl (by kernel_rfl) (by kernel_rfl) (by kernel_rfl) (fun _ _ _ h => h) (yieldsIf_load_mid (by kernel_rfl) 42 (.tmp 3) rfl w.heap.size 0 rfl (d.map B) _ (fun w hSw => hSw.2) ut rfl i2) (by assumption) ?_
        try simp only [Act.put, List.setIfInBounds_toArray, List.set_cons_zero, List.set_cons_succ]
        refine call_h 10 rfl (by kernel_rfl) 54 #[.agg (x.map B).toArray, .agg (d.map B).toArray] (by kernel_rfl) (by go_simp) ?_
        refine (HC.out wr.drew).mono ?_
        rintro e w1 ⟨rfl, hb1⟩
        have hb2 : Below wr.heap.size wr w1 := ⟨hb1.os, hb1.tape, hb1.output, hb1.size, hb1.block⟩
        have HB1 : Seal (Below X.heap.size X w1) := ⟨hH.out.trans (hb2.mono hH.out.size)⟩
        refine ⟨_, rfl, ⟨rangeAt_below' r1 hb2, rangeAt_below' r2 hb2⟩, fun hHeld2 => ?_⟩
        clear hHeld hb1 hb2 HC r1 r2 i1 i2 ut
        have HY : Seal (blt x d = true → k < atB l d) := ⟨fun h => by
          rcases Nat.lt_or_ge k (atB l d) with h1 | h1
          · exact h1
          · have e : k = atB l d := by omega
            have := atB_end l d (by rw [HLL.out, ← e]; exact hlt)
            rw [← e, ← HX.out, h] at this
            cases this⟩
        have HN : Seal (blt x d = false → k = atB l d) := ⟨fun h => by
          rcases Nat.lt_or_ge k (atB l d) with h1 | h1
          · have := atB_lt l d k h1
            rw [← HX.out, h] at this
            cases this
          · omega⟩
        generalize blt x d = c at *
        try simp only [Act.put, List.setIfInBounds_toArray, List.set_cons_zero, List.set_cons_succ]
        cases c
        · have hke := HN.out rfl
          have HKE := Seal.mk hke
          clear HN HY hke
          refine take_h 11 ?_ rfl (by kernel_rfl) (by kernel_rfl) (by kernel_rfl) (fun _ _ _ h => h) (Or.inl ⟨by kernel_rfl, ?_⟩) (by assumption) ?_
          rotate_left
          · (intro w hSw; (try dsimp only at hSw); go_simp; try (with_reducible rfl))
          try simp only [Act.put, List.setIfInBounds_toArray, List.set_cons_zero, List.set_cons_succ]
          refine wpAnyH_done (by kernel_rfl) ?_ _
          clear hHeld2
          go_wp2_with fail
          have HBV : Seal (Below w.heap.size w w1) := ⟨hXb.out.trans (HB1.out.mono hXb.out.size)⟩
          have rV : (w1).rangeAt w.heap.size 0 (d.map B) := rangeAt_below' hXr.out HB1.out
          have hVs : w.heap.size < (w1).heap.size := Nat.lt_of_lt_of_le hXs.out (HB1.out).size
          have HDV : Seal (IsD w1 (some ⟨g, off, none⟩) len cap l) := ⟨(HD.out.of_heap hXb.out).of_heap HB1.out⟩
          have i2 := dg_info d H32.out
          have ut := Tryz.underlying42
          have s1 : (0 : Int) ≤ (k : Int) := by omega
          have s2 : (k : Int) ≤ (cap : Int) := by omega
          have s3 : (k : Int) ≤ (len : Int) := by omega
          refine wp_region_held_drew (S := fun w' => w'.rangeAt w.heap.size 0 (d.map B)) (by kernel_rfl) rV (fun hHeld => ?_)
          refine take_h 1 ?_ rfl (by kernel_rfl) (by kernel_rfl) (by kernel_rfl) (fun _ _ _ h => h) (Or.inl ⟨by kernel_rfl, ?_⟩) (by assumption) ?_
          rotate_left
          · (intro w hSw; (try dsimp only at hSw); go_simp; try (with_reducible rfl))
          try simp only [Act.put, List.setIfInBounds_toArray, List.set_cons_zero, List.set_cons_succ]
          refine take_h 2 ?_ rfl (by kernel_rfl) (by kernel_rfl) (by kernel_rfl) (fun _ _ _ h => h) (Or.inl ⟨by kernel_rfl, ?_⟩) (by assumption) ?_
          rotate_left
          · (intro w hSw; (try dsimp only at hSw); go_simp; try (with_reducible rfl))
          try simp only [Act.put, List.setIfInBounds_toArray, List.set_cons_zero, List.set_cons_succ]
          refine take_h 3 ?_ rfl (by kernel_rfl) (by kernel_rfl) (by kernel_rfl) (fun _ _ _ h => h) (Or.inl ⟨by kernel_rfl, ?_⟩) (by assumption) ?_
          rotate_left
          · (intro w hSw; (try dsimp only at hSw); go_simp; try (with_reducible rfl))
          try simp only [Act.put, List.setIfInBounds_toArray, List.set_cons_zero, List.set_cons_succ]
          refine take_h 5 _ rfl (by kernel_rfl) (by kernel_rfl) (by kernel_rfl) (fun _ _ _ h => h) (yieldsIf_load_mid (by kernel_rfl) 42 (.tmp 3) rfl w.heap.size 0 rfl (d.map B) _ (fun w hSw => hSw) ut rfl i2) (by assumption) ?_
          try simp only [Act.put, List.setIfInBounds_toArray, List.set_cons_zero, List.set_cons_succ]
          refine wpAnyH_ready (rs := [0, 6]) (by kernel_rfl) (by simp) (oper_b 0 (.slice (some ⟨(w1).heap.size, 0, none⟩) 0 0) ((w1).drew.alloc (.cells #[] 42)) rfl (by kernel_rfl) (by go_simp) (World.rangeAt_alloc hHeld _) (fun hHeld2 => ?_) (oper_b 6 (.slice (some ⟨(w1).heap.size, 0, none⟩) 1 1) ((w1).drew.alloc (.cells (d.map B).toArray 42)) rfl (by kernel_rfl) (by have h32 := H32.out; go_simp; rw [fold_all (by simp [h32])]) (World.rangeAt_alloc hHeld _) (fun hHeld2 => ?_) AllReadyH.nil))
          · obtain ⟨W0, hW0⟩ : ∃ W0, W0 = (w1).drew.alloc (.cells #[] 42) := ⟨_, rfl⟩
            have o0 : OwnD W0 (w1).heap.size (.slice (some ⟨(w1).heap.size, 0, none⟩) 0 0) 0 [] := by rw [hW0]; exact own_empty (w1).drew (w1).heap.size (Nat.le_refl _)
            have b0 : Below (w1).heap.size w1 W0 := by rw [hW0]; exact (below_drewn w1).alloc (Nat.le_refl _) _
            have z0 : W0.heap.size = (w1).heap.size + 1 := by rw [hW0]; exact size_alloc (w1).drew _
            rw [← hW0] at hHeld2 ⊢
            clear hHeld hW0
            obtain ⟨v1, W1, run1, o1, g1, bl1⟩ := put_head w1 g off len cap k l HDV.out (by omega) hlen W0 (w1).heap.size 24 o0 b0 (by omega)
            have S1 : W1.rangeAt w.heap.size 0 (d.map B) := rangeAt_below hHeld2 bl1 hVs
            have zz1 := bl1.size
            try simp only [Act.put, List.setIfInBounds_toArray, List.set_cons_zero, List.set_cons_succ]
            refine wpAnyH_ready (rs := [4, 6]) (by kernel_rfl) (by simp) (oper_b 4 v1 W1 rfl (by kernel_rfl) (exec_append1 (.tmp 21) (.tmp 24) 24 24 24 rfl rfl _ _ _ rfl rfl run1) S1 (fun hHeld3 => ?_) (oper_b 6 (.slice (some ⟨W0.heap.size, 0, none⟩) 1 1) (W0.alloc (.cells (d.map B).toArray 42)) rfl (by kernel_rfl) (by have h32 := H32.out; clear z0 zz1; go_simp; rw [fold_all (by simp [h32])]) (World.rangeAt_alloc hHeld2 _) (fun hHeld3 => ?_) AllReadyH.nil))
            · clear hHeld2 run1
              try simp only [Act.put, List.setIfInBounds_toArray, List.set_cons_zero, List.set_cons_succ]
              refine oper_h 6 (.slice (some ⟨W1.heap.size, 0, none⟩) 1 1) (W1.alloc (.cells (d.map B).toArray 42)) rfl (by kernel_rfl) (by kernel_rfl) (by have h32 := H32.out; clear z0 zz1; go_simp; rw [fold_all (by simp [h32])]) (World.rangeAt_alloc hHeld3 _) (fun hHeld4 => ?_)
              clear hHeld3
              try simp only [Act.put, List.setIfInBounds_toArray, List.set_cons_zero, List.set_cons_succ]
              obtain ⟨v2, W3, run7, o7, bl7⟩ := put_one k (l.take k) d H32.out (by omega) (W1.alloc (.cells (d.map B).toArray 42)) (w1).heap.size W1.heap.size v1 24 (World.ownsRow.alloc o1 _) (heap_alloc_new W1 _) (by rw [size_alloc]; omega)
              have bW3 : Below (w1).heap.size w1 W3 := ((b0.trans bl1).alloc (by omega) _).trans bl7
              clear o0 b0 z0 o1 g1 bl1 S1 zz1
              refine oper_h 7 v2 W3 rfl (by kernel_rfl) (by kernel_rfl) (exec_append1 (.tmp 25) (.tmp 27) 24 24 24 rfl rfl _ _ _ rfl rfl run7) (rangeAt_below hHeld4 bl7 hVs) (fun hHeld5 => ?_)
              clear hHeld4
              try simp only [Act.put, List.setIfInBounds_toArray, List.set_cons_zero, List.set_cons_succ]
              refine take_h 8 ?_ rfl (by kernel_rfl) (by kernel_rfl) (by kernel_rfl) (fun _ _ _ h => h) (Or.inl ⟨by kernel_rfl, ?_⟩) (by assumption) ?_
              rotate_left
              · (intro w hSw; (try dsimp only at hSw); go_simp; try (with_reducible rfl))
              try simp only [Act.put, List.setIfInBounds_toArray, List.set_cons_zero, List.set_cons_succ]
              refine wpAnyH_done (by kernel_rfl) ?_ _
              clear hHeld5 rV i2 ut
              have O7 := Seal.mk o7
              have BW := Seal.mk bW3
              clear o7 bW3 bl7 run7
              by_cases hck : cap = k
              · have hck' : ¬ (k : Int) < (cap : Int) := by omega
                obtain ⟨v3, W4, hr9, o9, bl9⟩ := put_rest w1 g off len cap k 0 l d HDV.out (by omega) HKE.out hlen W3 v2 24 O7.out BW.out ⟨g, off, none⟩ (fun h => by omega)
                have HR9 := Seal.mk hr9
                clear hr9
                go_wp2_with (refine wpList_append_run1 rfl (.tmp 29) (.tmp 32) 24 24 24 rfl rfl v2 (.slice (some ⟨g, off, none⟩) (len - k) 0) v3 rfl rfl HR9.out ?_)
                go_ret
                exact putPost_of o9 (by rw [← HLL.out]; exact putB_length l d) (fun x hx => by
                  rcases (mem_putB l d x).1 hx with rfl | h
                  · exact H32.out
                  · exact HD.out.each x h) (by omega) (HBV.out.trans ((BW.out.trans bl9).mono HBV.out.size))
              · have hck' : (k : Int) < (cap : Int) := by omega
                obtain ⟨v3, W4, hr9, o9, bl9⟩ := put_rest w1 g off len cap k (cap - k) l d HDV.out (by omega) HKE.out hlen W3 v2 24 O7.out BW.out ⟨g, off + k * 32, none⟩ (fun _ => rfl)
                have HR9 := Seal.mk hr9
                clear hr9
                go_wp2_with (refine wpList_append_run1 rfl (.tmp 29) (.tmp 32) 24 24 24 rfl rfl v2 (.slice (some ⟨g, off + k * 32, none⟩) (len - k) (cap - k)) v3 rfl rfl HR9.out ?_)
                go_ret
                exact putPost_of o9 (by rw [← HLL.out]; exact putB_length l d) (fun x hx => by
                  rcases (mem_putB l d x).1 hx with rfl | h
                  · exact H32.out
                  · exact HD.out.each x h) (by omega) (HBV.out.trans ((BW.out.trans bl9).mono HBV.out.size))
            · clear hHeld2 run1 o1 g1 bl1 S1 zz1
              try simp only [Act.put, List.setIfInBounds_toArray, List.set_cons_zero, List.set_cons_succ]
              obtain ⟨v1, W1, run1, o1, g1, bl1⟩ := put_head w1 g off len cap k l HDV.out (by omega) hlen (W0.alloc (.cells (d.map B).toArray 42)) (w1).heap.size 24 (World.ownsRow.alloc o0 _) (b0.alloc (by omega) _) (by rw [size_alloc]; omega)
              have hv1 := row_keeps g1 (heap_alloc_new W0 _) (by omega)
              refine oper_h 4 v1 W1 rfl (by kernel_rfl) (by kernel_rfl) (exec_append1 (.tmp 21) (.tmp 24) 24 24 24 rfl rfl _ _ _ rfl rfl run1) (rangeAt_below hHeld3 bl1 hVs) (fun hHeld4 => ?_)
              clear hHeld3 run1
              try simp only [Act.put, List.setIfInBounds_toArray, List.set_cons_zero, List.set_cons_succ]
              have zz1 := bl1.size
              rw [size_alloc] at zz1
              obtain ⟨v2, W3, run7, o7, bl7⟩ := put_one k (l.take k) d H32.out (by omega) W1 (w1).heap.size W0.heap.size v1 24 o1 hv1 (by omega)
              have bW3 : Below (w1).heap.size w1 W3 := ((b0.alloc (by omega) _).trans bl1).trans bl7
              clear o0 b0 z0 o1 g1 bl1 hv1 zz1
              refine oper_h 7 v2 W3 rfl (by kernel_rfl) (by kernel_rfl) (exec_append1 (.tmp 25) (.tmp 27) 24 24 24 rfl rfl _ _ _ rfl rfl run7) (rangeAt_below hHeld4 bl7 hVs) (fun hHeld5 => ?_)
              clear hHeld4
              try simp only [Act.put, List.setIfInBounds_toArray, List.set_cons_zero, List.set_cons_succ]
              refine take_h 8 ?_ rfl (by kernel_rfl) (by kernel_rfl) (by kernel_rfl) (fun _ _ _ h => h) (Or.inl ⟨by kernel_rfl, ?_⟩) (by assumption) ?_
              rotate_left
              · (intro w hSw; (try dsimp only at hSw); go_simp; try (with_reducible rfl))
              try simp only [Act.put, List.setIfInBounds_toArray, List.set_cons_zero, List.set_cons_succ]
              refine wpAnyH_done (by kernel_rfl) ?_ _
              clear hHeld5 rV i2 ut
              have O7 := Seal.mk o7
              have BW := Seal.mk bW3
              clear o7 bW3 bl7 run7
              by_cases hck : cap = k
              · have hck' : ¬ (k : Int) < (cap : Int) := by omega
                obtain ⟨v3, W4, hr9, o9, bl9⟩ := put_rest w1 g off len cap k 0 l d HDV.out (by omega) HKE.out hlen W3 v2 24 O7.out BW.out ⟨g, off, none⟩ (fun h => by omega)
                have HR9 := Seal.mk hr9
                clear hr9
                go_wp2_with (refine wpList_append_run1 rfl (.tmp 29) (.tmp 32) 24 24 24 rfl rfl v2 (.slice (some ⟨g, off, none⟩) (len - k) 0) v3 rfl rfl HR9.out ?_)
                go_ret
                exact putPost_of o9 (by rw [← HLL.out]; exact putB_length l d) (fun x hx => by
                  rcases (mem_putB l d x).1 hx with rfl | h
                  · exact H32.out
                  · exact HD.out.each x h) (by omega) (HBV.out.trans ((BW.out.trans bl9).mono HBV.out.size))
              · have hck' : (k : Int) < (cap : Int) := by omega
                obtain ⟨v3, W4, hr9, o9, bl9⟩ := put_rest w1 g off len cap k (cap - k) l d HDV.out (by omega) HKE.out hlen W3 v2 24 O7.out BW.out ⟨g, off + k * 32, none⟩ (fun _ => rfl)
                have HR9 := Seal.mk hr9
                clear hr9
                go_wp2_with (refine wpList_append_run1 rfl (.tmp 29) (.tmp 32) 24 24 24 rfl rfl v2 (.slice (some ⟨g, off + k * 32, none⟩) (len - k) (cap - k)) v3 rfl rfl HR9.out ?_)
                go_ret
                exact putPost_of o9 (by rw [← HLL.out]; exact putB_length l d) (fun x hx => by
                  rcases (mem_putB l d x).1 hx with rfl | h
                  · exact H32.out
                  · exact HD.out.each x h) (by omega) (HBV.out.trans ((BW.out.trans bl9).mono HBV.out.size))
          · obtain ⟨W6, hW6⟩ : ∃ W6, W6 = (w1).drew.alloc (.cells (d.map B).toArray 42) := ⟨_, rfl⟩
            have b6 : Below (w1).heap.size w1 W6 := by rw [hW6]; exact (below_drewn w1).alloc (Nat.le_refl _) _
            have n6 : W6.heap[(w1).heap.size]? = some (.cells (d.map B).toArray 42 (0, 0)) := by rw [hW6]; exact heap_alloc_new (w1).drew _
            have z6 : W6.heap.size = (w1).heap.size + 1 := by rw [hW6]; exact size_alloc (w1).drew _
            rw [← hW6] at hHeld2 ⊢
            clear hHeld hW6
            try simp only [Act.put, List.setIfInBounds_toArray, List.set_cons_zero, List.set_cons_succ]
            refine oper_h 0 (.slice (some ⟨W6.heap.size, 0, none⟩) 0 0) (W6.alloc (.cells #[] 42)) rfl (by kernel_rfl) (by kernel_rfl) (by clear z6; go_simp) (World.rangeAt_alloc hHeld2 _) (fun hHeld3 => ?_)
            clear hHeld2
            try simp only [Act.put, List.setIfInBounds_toArray, List.set_cons_zero, List.set_cons_succ]
            have n7 : (W6.alloc (.cells #[] 42)).heap[(w1).heap.size]? = some (.cells (d.map B).toArray 42 (0, 0)) := by rw [Below.heap_alloc _ _ _ (by omega)]; exact n6
            obtain ⟨v1, W1, run1, o1, g1, bl1⟩ := put_head w1 g off len cap k l HDV.out (by omega) hlen (W6.alloc (.cells #[] 42)) W6.heap.size 24 (own_empty W6 (w1).heap.size (by omega)) (b6.alloc (by omega) _) (by rw [size_alloc]; omega)
            have hv1 := row_keeps g1 n7 (by omega)
            refine oper_h 4 v1 W1 rfl (by kernel_rfl) (by kernel_rfl) (exec_append1 (.tmp 21) (.tmp 24) 24 24 24 rfl rfl _ _ _ rfl rfl run1) (rangeAt_below hHeld3 bl1 hVs) (fun hHeld4 => ?_)
            clear hHeld3 run1
            try simp only [Act.put, List.setIfInBounds_toArray, List.set_cons_zero, List.set_cons_succ]
            have zz1 := bl1.size
            rw [size_alloc] at zz1
            obtain ⟨v2, W3, run7, o7, bl7⟩ := put_one k (l.take k) d H32.out (by omega) W1 (w1).heap.size (w1).heap.size v1 24 o1 hv1 (by omega)
            have bW3 : Below (w1).heap.size w1 W3 := ((b6.alloc (by omega) _).trans bl1).trans bl7
            clear b6 n6 n7 z6 o1 g1 bl1 hv1 zz1
            refine oper_h 7 v2 W3 rfl (by kernel_rfl) (by kernel_rfl) (exec_append1 (.tmp 25) (.tmp 27) 24 24 24 rfl rfl _ _ _ rfl rfl run7) (rangeAt_below hHeld4 bl7 hVs) (fun hHeld5 => ?_)
            clear hHeld4
            try simp only [Act.put, List.setIfInBounds_toArray, List.set_cons_zero, List.set_cons_succ]
            refine take_h 8 ?_ rfl (by kernel_rfl) (by kernel_rfl) (by kernel_rfl) (fun _ _ _ h => h) (Or.inl ⟨by kernel_rfl, ?_⟩) (by assumption) ?_
            rotate_left
            · (intro w hSw; (try dsimp only at hSw); go_simp; try (with_reducible rfl))
            try simp only [Act.put, List.setIfInBounds_toArray, List.set_cons_zero, List.set_cons_succ]
            refine wpAnyH_done (by kernel_rfl) ?_ _
            clear hHeld5 rV i2 ut
            have O7 := Seal.mk o7
            have BW := Seal.mk bW3
            clear o7 bW3 bl7 run7
            by_cases hck : cap = k
            · have hck' : ¬ (k : Int) < (cap : Int) := by omega
              obtain ⟨v3, W4, hr9, o9, bl9⟩ := put_rest w1 g off len cap k 0 l d HDV.out (by omega) HKE.out hlen W3 v2 24 O7.out BW.out ⟨g, off, none⟩ (fun h => by omega)
              have HR9 := Seal.mk hr9
              clear hr9
              go_wp2_with (refine wpList_append_run1 rfl (.tmp 29) (.tmp 32) 24 24 24 rfl rfl v2 (.slice (some ⟨g, off, none⟩) (len - k) 0) v3 rfl rfl HR9.out ?_)
              go_ret
              exact putPost_of o9 (by rw [← HLL.out]; exact putB_length l d) (fun x hx => by
                rcases (mem_putB l d x).1 hx with rfl | h
                · exact H32.out
                · exact HD.out.each x h) (by omega) (HBV.out.trans ((BW.out.trans bl9).mono HBV.out.size))
            · have hck' : (k : Int) < (cap : Int) := by omega
              obtain ⟨v3, W4, hr9, o9, bl9⟩ := put_rest w1 g off len cap k (cap - k) l d HDV.out (by omega) HKE.out hlen W3 v2 24 O7.out BW.out ⟨g, off + k * 32, none⟩ (fun _ => rfl)
              have HR9 := Seal.mk hr9
              clear hr9
              go_wp2_with (refine wpList_append_run1 rfl (.tmp 29) (.tmp 32) 24 24 24 rfl rfl v2 (.slice (some ⟨g, off + k * 32, none⟩) (len - k) (cap - k)) v3 rfl rfl HR9.out ?_)
              go_ret
              exact putPost_of o9 (by rw [← HLL.out]; exact putB_length l d) (fun x hx => by
                rcases (mem_putB l d x).1 hx with rfl | h
                · exact H32.out
                · exact HD.out.each x h) (by omega) (HBV.out.trans ((BW.out.trans bl9).mono HBV.out.size))
        · have hkl := HY.out rfl
          clear HN HY
          refine take_h 11 ?_ rfl (by kernel_rfl) (by kernel_rfl) (by kernel_rfl) (fun _ _ _ h => h) (Or.inl ⟨by kernel_rfl, ?_⟩) (by assumption) ?_
          rotate_left
          · (intro w hSw; (try dsimp only at hSw); go_simp; try (with_reducible rfl))
          try simp only [Act.put, List.setIfInBounds_toArray, List.set_cons_zero, List.set_cons_succ]
          refine wpAnyH_done (by kernel_rfl) ?_ _
          clear hHeld2
          go_wp2
          go_roundw
          case rel => exact ⟨k + 1, by omega, by go_num, HB1⟩
          case measure => simp [intOf]; omega
    · have hke : k = atB l d := by omega
      have HKE := Seal.mk hke
      clear hke r2 i2 ut HDr
      have q5 : ¬ (k : Int) < (len : Int) := by omega
      have q6 : decide ((k : Int) < (len : Int)) = false := decide_eq_false q5
      go_wp2_with fail
      refine wp_region_held_drew (S := fun w' => True) (by kernel_rfl) trivial (fun hHeld => ?_)
      refine take_h 0 ?_ rfl (by kernel_rfl) (by kernel_rfl) (by kernel_rfl) (fun _ _ _ h => h) (Or.inl ⟨by kernel_rfl, ?_⟩) (by assumption) ?_
      rotate_left
      · (intro w hSw; (try dsimp only at hSw); go_simp; try (with_reducible rfl))
      try simp only [Act.put, List.setIfInBounds_toArray, List.set_cons_zero, List.set_cons_succ]
      refine take_h 1 ?_ rfl (by kernel_rfl) (by kernel_rfl) (by kernel_rfl) (fun _ _ _ h => h) (Or.inl ⟨by kernel_rfl, ?_⟩) (by assumption) ?_
      rotate_left
      · (intro w hSw; (try dsimp only at hSw); go_simp; try (with_reducible rfl))
      try simp only [Act.put, List.setIfInBounds_toArray, List.set_cons_zero, List.set_cons_succ]
      refine take_h 2 ?_ rfl (by kernel_rfl) (by kernel_rfl) (by kernel_rfl) (fun _ _ _ h => h) (Or.inl ⟨by kernel_rfl, ?_⟩) (by assumption) ?_
      rotate_left
      · (intro w hSw; (try dsimp only at hSw); go_simp; try (with_reducible rfl))
      try simp only [Act.put, List.setIfInBounds_toArray, List.set_cons_zero, List.set_cons_succ]
      refine take_h 3 ?_ rfl (by kernel_rfl) (by kernel_rfl) (by kernel_rfl) (fun _ _ _ h => h) (Or.inl ⟨by kernel_rfl, ?_⟩) (by assumption) ?_
      rotate_left
      · (intro w hSw; (try dsimp only at hSw); go_simp; try (with_reducible rfl))
      try simp only [Act.put, List.setIfInBounds_toArray, List.set_cons_zero, List.set_cons_succ]
      refine take_h 4 ?_ rfl (by kernel_rfl) (by kernel_rfl) (by kernel_rfl) (fun _ _ _ h => h) (Or.inl ⟨by kernel_rfl, ?_⟩) (by assumption) ?_
      rotate_left
      · (intro w hSw; (try dsimp only at hSw); go_simp; try (with_reducible rfl))
      try simp only [Act.put, List.setIfInBounds_toArray, List.set_cons_zero, List.set_cons_succ]
      refine take_h 5 undef rfl (by kernel_rfl) (by kernel_rfl) (by kernel_rfl) (fun _ _ _ h => h) (Or.inr ⟨by kernel_rfl, rfl⟩) (by assumption) ?_
      try simp only [Act.put, List.setIfInBounds_toArray, List.set_cons_zero, List.set_cons_succ]
      refine take_h 6 undef rfl (by kernel_rfl) (by kernel_rfl) (by kernel_rfl) (fun _ _ _ h => h) (Or.inr ⟨by kernel_rfl, rfl⟩) (by assumption) ?_
      try simp only [Act.put, List.setIfInBounds_toArray, List.set_cons_zero, List.set_cons_succ]
      refine take_h 7 undef rfl (by kernel_rfl) (by kernel_rfl) (by kernel_rfl) (fun _ _ _ h => h) (Or.inr ⟨by kernel_rfl, rfl⟩) (by assumption) ?_
      try simp only [Act.put, List.setIfInBounds_toArray, List.set_cons_zero, List.set_cons_succ]
      refine take_h 8 undef rfl (by kernel_rfl) (by kernel_rfl) (by kernel_rfl) (fun _ _ _ h => h) (Or.inr ⟨by kernel_rfl, rfl⟩) (by assumption) ?_
      try simp only [Act.put, List.setIfInBounds_toArray, List.set_cons_zero, List.set_cons_succ]
      refine take_h 9 undef rfl (by kernel_rfl) (by kernel_rfl) (by kernel_rfl) (fun _ _ _ h => h) (Or.inr ⟨by kernel_rfl, rfl⟩) (by assumption) ?_
      try simp only [Act.put, List.setIfInBounds_toArray, List.set_cons_zero, List.set_cons_succ]
      refine take_h 10 undef rfl (by kernel_rfl) (by kernel_rfl) (by kernel_rfl) (fun _ _ _ h => h) (Or.inr ⟨by kernel_rfl, rfl⟩) (by assumption) ?_
      try simp only [Act.put, List.setIfInBounds_toArray, List.set_cons_zero, List.set_cons_succ]
      refine take_h 11 ?_ rfl (by kernel_rfl) (by kernel_rfl) (by kernel_rfl) (fun _ _ _ h => h) (Or.inl ⟨by kernel_rfl, ?_⟩) (by assumption) ?_
      rotate_left
      · (intro w hSw; (try dsimp only at hSw); go_simp; try (with_reducible rfl))
      try simp only [Act.put, List.setIfInBounds_toArray, List.set_cons_zero, List.set_cons_succ]
      refine wpAnyH_done (by kernel_rfl) ?_ _
      have HB1 : Seal (Below X.heap.size X wr.drew) := ⟨⟨hH.out.os, hH.out.tape, hH.out.output, hH.out.size, hH.out.block⟩⟩
      clear hHeld q6
      obtain ⟨V, hV⟩ : ∃ V, V = wr.drew := ⟨_, rfl⟩
      rw [← hV] at HB1 ⊢
      clear hV
      go_wp2_with fail
      have HBV : Seal (Below w.heap.size w V) := ⟨hXb.out.trans (HB1.out.mono hXb.out.size)⟩
      have rV : (V).rangeAt w.heap.size 0 (d.map B) := rangeAt_below' hXr.out HB1.out
      have hVs : w.heap.size < (V).heap.size := Nat.lt_of_lt_of_le hXs.out (HB1.out).size
      have HDV : Seal (IsD V (some ⟨g, off, none⟩) len cap l) := ⟨(HD.out.of_heap hXb.out).of_heap HB1.out⟩
      have i2 := dg_info d H32.out
      have ut := Tryz.underlying42
      have s1 : (0 : Int) ≤ (k : Int) := by omega
      have s2 : (k : Int) ≤ (cap : Int) := by omega
      have s3 : (k : Int) ≤ (len : Int) := by omega
      refine wp_region_held_drew (S := fun w' => w'.rangeAt w.heap.size 0 (d.map B)) (by kernel_rfl) rV (fun hHeld => ?_)
      refine take_h 1 ?_ rfl (by kernel_rfl) (by kernel_rfl) (by kernel_rfl) (fun _ _ _ h => h) (Or.inl ⟨by kernel_rfl, ?_⟩) (by assumption) ?_
      rotate_left
      · (intro w hSw; (try dsimp only at hSw); go_simp; try (with_reducible rfl))
      try simp only [Act.put, List.setIfInBounds_toArray, List.set_cons_zero, List.set_cons_succ]
      refine take_h 2 ?_ rfl (by kernel_rfl) (by kernel_rfl) (by kernel_rfl) (fun _ _ _ h => h) (Or.inl ⟨by kernel_rfl, ?_⟩) (by assumption) ?_
      rotate_left
      · (intro w hSw; (try dsimp only at hSw); go_simp; try (with_reducible rfl))
      try simp only [Act.put, List.setIfInBounds_toArray, List.set_cons_zero, List.set_cons_succ]
      refine take_h 3 ?_ rfl (by kernel_rfl) (by kernel_rfl) (by kernel_rfl) (fun _ _ _ h => h) (Or.inl ⟨by kernel_rfl, ?_⟩) (by assumption) ?_
      rotate_left
      · (intro w hSw; (try dsimp only at hSw); go_simp; try (with_reducible rfl))
      try simp only [Act.put, List.setIfInBounds_toArray, List.set_cons_zero, List.set_cons_succ]
      refine take_h 5 _ rfl (by kernel_rfl) (by kernel_rfl) (by kernel_rfl) (fun _ _ _ h => h) (yieldsIf_load_mid (by kernel_rfl) 42 (.tmp 3) rfl w.heap.size 0 rfl (d.map B) _ (fun w hSw => hSw) ut rfl i2) (by assumption) ?_
      try simp only [Act.put, List.setIfInBounds_toArray, List.set_cons_zero, List.set_cons_succ]
      refine wpAnyH_ready (rs := [0, 6]) (by kernel_rfl) (by simp) (oper_b 0 (.slice (some ⟨(V).heap.size, 0, none⟩) 0 0) ((V).drew.alloc (.cells #[] 42)) rfl (by kernel_rfl) (by go_simp) (World.rangeAt_alloc hHeld _) (fun hHeld2 => ?_) (oper_b 6 (.slice (some ⟨(V).heap.size, 0, none⟩) 1 1) ((V).drew.alloc (.cells (d.map B).toArray 42)) rfl (by kernel_rfl) (by have h32 := H32.out; go_simp; rw [fold_all (by simp [h32])]) (World.rangeAt_alloc hHeld _) (fun hHeld2 => ?_) AllReadyH.nil))
      · obtain ⟨W0, hW0⟩ : ∃ W0, W0 = (V).drew.alloc (.cells #[] 42) := ⟨_, rfl⟩
        have o0 : OwnD W0 (V).heap.size (.slice (some ⟨(V).heap.size, 0, none⟩) 0 0) 0 [] := by rw [hW0]; exact own_empty (V).drew (V).heap.size (Nat.le_refl _)
        have b0 : Below (V).heap.size V W0 := by rw [hW0]; exact (below_drewn V).alloc (Nat.le_refl _) _
        have z0 : W0.heap.size = (V).heap.size + 1 := by rw [hW0]; exact size_alloc (V).drew _
        rw [← hW0] at hHeld2 ⊢
        clear hHeld hW0
        obtain ⟨v1, W1, run1, o1, g1, bl1⟩ := put_head V g off len cap k l HDV.out (by omega) hlen W0 (V).heap.size 24 o0 b0 (by omega)
        have S1 : W1.rangeAt w.heap.size 0 (d.map B) := rangeAt_below hHeld2 bl1 hVs
        have zz1 := bl1.size
        try simp only [Act.put, List.setIfInBounds_toArray, List.set_cons_zero, List.set_cons_succ]
        refine wpAnyH_ready (rs := [4, 6]) (by kernel_rfl) (by simp) (oper_b 4 v1 W1 rfl (by kernel_rfl) (exec_append1 (.tmp 21) (.tmp 24) 24 24 24 rfl rfl _ _ _ rfl rfl run1) S1 (fun hHeld3 => ?_) (oper_b 6 (.slice (some ⟨W0.heap.size, 0, none⟩) 1 1) (W0.alloc (.cells (d.map B).toArray 42)) rfl (by kernel_rfl) (by have h32 := H32.out; clear z0 zz1; go_simp; rw [fold_all (by simp [h32])]) (World.rangeAt_alloc hHeld2 _) (fun hHeld3 => ?_) AllReadyH.nil))
        · clear hHeld2 run1
          try simp only [Act.put, List.setIfInBounds_toArray, List.set_cons_zero, List.set_cons_succ]
          refine oper_h 6 (.slice (some ⟨W1.heap.size, 0, none⟩) 1 1) (W1.alloc (.cells (d.map B).toArray 42)) rfl (by kernel_rfl) (by kernel_rfl) (by have h32 := H32.out; clear z0 zz1; go_simp; rw [fold_all (by simp [h32])]) (World.rangeAt_alloc hHeld3 _) (fun hHeld4 => ?_)
          clear hHeld3
          try simp only [Act.put, List.setIfInBounds_toArray, List.set_cons_zero, List.set_cons_succ]
          obtain ⟨v2, W3, run7, o7, bl7⟩ := put_one k (l.take k) d H32.out (by omega) (W1.alloc (.cells (d.map B).toArray 42)) (V).heap.size W1.heap.size v1 24 (World.ownsRow.alloc o1 _) (heap_alloc_new W1 _) (by rw [size_alloc]; omega)
          have bW3 : Below (V).heap.size V W3 := ((b0.trans bl1).alloc (by omega) _).trans bl7
          clear o0 b0 z0 o1 g1 bl1 S1 zz1
          refine oper_h 7 v2 W3 rfl (by kernel_rfl) (by kernel_rfl) (exec_append1 (.tmp 25) (.tmp 27) 24 24 24 rfl rfl _ _ _ rfl rfl run7) (rangeAt_below hHeld4 bl7 hVs) (fun hHeld5 => ?_)
          clear hHeld4
          try simp only [Act.put, List.setIfInBounds_toArray, List.set_cons_zero, List.set_cons_succ]
          refine take_h 8 ?_ rfl (by kernel_rfl) (by kernel_rfl) (by kernel_rfl) (fun _ _ _ h => h) (Or.inl ⟨by kernel_rfl, ?_⟩) (by assumption) ?_
          rotate_left
          · (intro w hSw; (try dsimp only at hSw); go_simp; try (with_reducible rfl))
          try simp only [Act.put, List.setIfInBounds_toArray, List.set_cons_zero, List.set_cons_succ]
          refine wpAnyH_done (by kernel_rfl) ?_ _
          clear hHeld5 rV i2 ut
          have O7 := Seal.mk o7
          have BW := Seal.mk bW3
          clear o7 bW3 bl7 run7
          by_cases hck : cap = k
          · have hck' : ¬ (k : Int) < (cap : Int) := by omega
            obtain ⟨v3, W4, hr9, o9, bl9⟩ := put_rest V g off len cap k 0 l d HDV.out (by omega) HKE.out hlen W3 v2 24 O7.out BW.out ⟨g, off, none⟩ (fun h => by omega)
            have HR9 := Seal.mk hr9
            clear hr9
            go_wp2_with (refine wpList_append_run1 rfl (.tmp 29) (.tmp 32) 24 24 24 rfl rfl v2 (.slice (some ⟨g, off, none⟩) (len - k) 0) v3 rfl rfl HR9.out ?_)
            go_ret
            exact putPost_of o9 (by rw [← HLL.out]; exact putB_length l d) (fun x hx => by
              rcases (mem_putB l d x).1 hx with rfl | h
              · exact H32.out
              · exact HD.out.each x h) (by omega) (HBV.out.trans ((BW.out.trans bl9).mono HBV.out.size))
          · have hck' : (k : Int) < (cap : Int) := by omega
            obtain ⟨v3, W4, hr9, o9, bl9⟩ := put_rest V g off len cap k (cap - k) l d HDV.out (by omega) HKE.out hlen W3 v2 24 O7.out BW.out ⟨g, off + k * 32, none⟩ (fun _ => rfl)
            have HR9 := Seal.mk hr9
            clear hr9
            go_wp2_with (refine wpList_append_run1 rfl (.tmp 29) (.tmp 32) 24 24 24 rfl rfl v2 (.slice (some ⟨g, off + k * 32, none⟩) (len - k) (cap - k)) v3 rfl rfl HR9.out ?_)
            go_ret
            exact putPost_of o9 (by rw [← HLL.out]; exact putB_length l d) (fun x hx => by
              rcases (mem_putB l d x).1 hx with rfl | h
              · exact H32.out
              · exact HD.out.each x h) (by omega) (HBV.out.trans ((BW.out.trans bl9).mono HBV.out.size))
        · clear hHeld2 run1 o1 g1 bl1 S1 zz1
          try simp only [Act.put, List.setIfInBounds_toArray, List.set_cons_zero, List.set_cons_succ]
          obtain ⟨v1, W1, run1, o1, g1, bl1⟩ := put_head V g off len cap k l HDV.out (by omega) hlen (W0.alloc (.cells (d.map B).toArray 42)) (V).heap.size 24 (World.ownsRow.alloc o0 _) (b0.alloc (by omega) _) (by rw [size_alloc]; omega)
          have hv1 := row_keeps g1 (heap_alloc_new W0 _) (by omega)
          refine oper_h 4 v1 W1 rfl (by kernel_rfl) (by kernel_rfl) (exec_append1 (.tmp 21) (.tmp 24) 24 24 24 rfl rfl _ _ _ rfl rfl run1) (rangeAt_below hHeld3 bl1 hVs) (fun hHeld4 => ?_)
          clear hHeld3 run1
          try simp only [Act.put, List.setIfInBounds_toArray, List.set_cons_zero, List.set_cons_succ]
          have zz1 := bl1.size
          rw [size_alloc] at zz1
          obtain ⟨v2, W3, run7, o7, bl7⟩ := put_one k (l.take k) d H32.out (by omega) W1 (V).heap.size W0.heap.size v1 24 o1 hv1 (by omega)
          have bW3 : Below (V).heap.size V W3 := ((b0.alloc (by omega) _).trans bl1).trans bl7
          clear o0 b0 z0 o1 g1 bl1 hv1 zz1
          refine oper_h 7 v2 W3 rfl (by kernel_rfl) (by kernel_rfl) (exec_append1 (.tmp 25) (.tmp 27) 24 24 24 rfl rfl _ _ _ rfl rfl run7) (rangeAt_below hHeld4 bl7 hVs) (fun hHeld5 => ?_)
          clear hHeld4
          try simp only [Act.put, List.setIfInBounds_toArray, List.set_cons_zero, List.set_cons_succ]
          refine take_h 8 ?_ rfl (by kernel_rfl) (by kernel_rfl) (by kernel_rfl) (fun _ _ _ h => h) (Or.inl ⟨by kernel_rfl, ?_⟩) (by assumption) ?_
          rotate_left
          · (intro w hSw; (try dsimp only at hSw); go_simp; try (with_reducible rfl))
          try simp only [Act.put, List.setIfInBounds_toArray, List.set_cons_zero, List.set_cons_succ]
          refine wpAnyH_done (by kernel_rfl) ?_ _
          clear hHeld5 rV i2 ut
          have O7 := Seal.mk o7
          have BW := Seal.mk bW3
          clear o7 bW3 bl7 run7
          by_cases hck : cap = k
          · have hck' : ¬ (k : Int) < (cap : Int) := by omega
            obtain ⟨v3, W4, hr9, o9, bl9⟩ := put_rest V g off len cap k 0 l d HDV.out (by omega) HKE.out hlen W3 v2 24 O7.out BW.out ⟨g, off, none⟩ (fun h => by omega)
            have HR9 := Seal.mk hr9
            clear hr9
            go_wp2_with (refine wpList_append_run1 rfl (.tmp 29) (.tmp 32) 24 24 24 rfl rfl v2 (.slice (some ⟨g, off, none⟩) (len - k) 0) v3 rfl rfl HR9.out ?_)
            go_ret
            exact putPost_of o9 (by rw [← HLL.out]; exact putB_length l d) (fun x hx => by
              rcases (mem_putB l d x).1 hx with rfl | h
              · exact H32.out
              · exact HD.out.each x h) (by omega) (HBV.out.trans ((BW.out.trans bl9).mono HBV.out.size))
          · have hck' : (k : Int) < (cap : Int) := by omega
            obtain ⟨v3, W4, hr9, o9, bl9⟩ := put_rest V g off len cap k (cap - k) l d HDV.out (by omega) HKE.out hlen W3 v2 24 O7.out BW.out ⟨g, off + k * 32, none⟩ (fun _ => rfl)
            have HR9 := Seal.mk hr9
            clear hr9
            go_wp2_with (refine wpList_append_run1 rfl (.tmp 29) (.tmp 32) 24 24 24 rfl rfl v2 (.slice (some ⟨g, off + k * 32, none⟩) (len - k) (cap - k)) v3 rfl rfl HR9.out ?_)
            go_ret
            exact putPost_of o9 (by rw [← HLL.out]; exact putB_length l d) (fun x hx => by
              rcases (mem_putB l d x).1 hx with rfl | h
              · exact H32.out
              · exact HD.out.each x h) (by omega) (HBV.out.trans ((BW.out.trans bl9).mono HBV.out.size))
      · obtain ⟨W6, hW6⟩ : ∃ W6, W6 = (V).drew.alloc (.cells (d.map B).toArray 42) := ⟨_, rfl⟩
        have b6 : Below (V).heap.size V W6 := by rw [hW6]; exact (below_drewn V).alloc (Nat.le_refl _) _
        have n6 : W6.heap[(V).heap.size]? = some (.cells (d.map B).toArray 42 (0, 0)) := by rw [hW6]; exact heap_alloc_new (V).drew _
        have z6 : W6.heap.size = (V).heap.size + 1 := by rw [hW6]; exact size_alloc (V).drew _
        rw [← hW6] at hHeld2 ⊢
        clear hHeld hW6
        try simp only [Act.put, List.setIfInBounds_toArray, List.set_cons_zero, List.set_cons_succ]
        refine oper_h 0 (.slice (some ⟨W6.heap.size, 0, none⟩) 0 0) (W6.alloc (.cells #[] 42)) rfl (by kernel_rfl) (by kernel_rfl) (by clear z6; go_simp) (World.rangeAt_alloc hHeld2 _) (fun hHeld3 => ?_)
        clear hHeld2
        try simp only [Act.put, List.setIfInBounds_toArray, List.set_cons_zero, List.set_cons_succ]
        have n7 : (W6.alloc (.cells #[] 42)).heap[(V).heap.size]? = some (.cells (d.map B).toArray 42 (0, 0)) := by rw [Below.heap_alloc _ _ _ (by omega)]; exact n6
        obtain ⟨v1, W1, run1, o1, g1, bl1⟩ := put_head V g off len cap k l HDV.out (by omega) hlen (W6.alloc (.cells #[] 42)) W6.heap.size 24 (own_empty W6 (V).heap.size (by omega)) (b6.alloc (by omega) _) (by rw [size_alloc]; omega)
        have hv1 := row_keeps g1 n7 (by omega)
        refine oper_h 4 v1 W1 rfl (by kernel_rfl) (by kernel_rfl) (exec_append1 (.tmp 21) (.tmp 24) 24 24 24 rfl rfl _ _ _ rfl rfl run1) (rangeAt_below hHeld3 bl1 hVs) (fun hHeld4 => ?_)
        clear hHeld3 run1
        try simp only [Act.put, List.setIfInBounds_toArray, List.set_cons_zero, List.set_cons_succ]
        have zz1 := bl1.size
        rw [size_alloc] at zz1
        obtain ⟨v2, W3, run7, o7, bl7⟩ := put_one k (l.take k) d H32.out (by omega) W1 (V).heap.size (V).heap.size v1 24 o1 hv1 (by omega)
        have bW3 : Below (V).heap.size V W3 := ((b6.alloc (by omega) _).trans bl1).trans bl7
        clear b6 n6 n7 z6 o1 g1 bl1 hv1 zz1
        refine oper_h 7 v2 W3 rfl (by kernel_rfl) (by kernel_rfl) (exec_append1 (.tmp 25) (.tmp 27) 24 24 24 rfl rfl _ _ _ rfl rfl run7) (rangeAt_below hHeld4 bl7 hVs) (fun hHeld5 => ?_)
        clear hHeld4
        try simp only [Act.put, List.setIfInBounds_toArray, List.set_cons_zero, List.set_cons_succ]
        refine take_h 8 ?_ rfl (by kernel_rfl) (by kernel_rfl) (by kernel_rfl) (fun _ _ _ h => h) (Or.inl ⟨by kernel_rfl, ?_⟩) (by assumption) ?_
        rotate_left
        · (intro w hSw; (try dsimp only at hSw); go_simp; try (with_reducible rfl))
        try simp only [Act.put, List.setIfInBounds_toArray, List.set_cons_zero, List.set_cons_succ]
        refine wpAnyH_done (by kernel_rfl) ?_ _
        clear hHeld5 rV i2 ut
        have O7 := Seal.mk o7
        have BW := Seal.mk bW3
        clear o7 bW3 bl7 run7
        by_cases hck : cap = k
        · have hck' : ¬ (k : Int) < (cap : Int) := by omega
          obtain ⟨v3, W4, hr9, o9, bl9⟩ := put_rest V g off len cap k 0 l d HDV.out (by omega) HKE.out hlen W3 v2 24 O7.out BW.out ⟨g, off, none⟩ (fun h => by omega)
          have HR9 := Seal.mk hr9
          clear hr9
          go_wp2_with (refine wpList_append_run1 rfl (.tmp 29) (.tmp 32) 24 24 24 rfl rfl v2 (.slice (some ⟨g, off, none⟩) (len - k) 0) v3 rfl rfl HR9.out ?_)
          go_ret
          exact putPost_of o9 (by rw [← HLL.out]; exact putB_length l d) (fun x hx => by
            rcases (mem_putB l d x).1 hx with rfl | h
            · exact H32.out
            · exact HD.out.each x h) (by omega) (HBV.out.trans ((BW.out.trans bl9).mono HBV.out.size))
        · have hck' : (k : Int) < (cap : Int) := by omega
          obtain ⟨v3, W4, hr9, o9, bl9⟩ := put_rest V g off len cap k (cap - k) l d HDV.out (by omega) HKE.out hlen W3 v2 24 O7.out BW.out ⟨g, off + k * 32, none⟩ (fun _ => rfl)
          have HR9 := Seal.mk hr9
          clear hr9
          go_wp2_with (refine wpList_append_run1 rfl (.tmp 29) (.tmp 32) 24 24 24 rfl rfl v2 (.slice (some ⟨g, off + k * 32, none⟩) (len - k) (cap - k)) v3 rfl rfl HR9.out ?_)
          go_ret
          exact putPost_of o9 (by rw [← HLL.out]; exact putB_length l d) (fun x hx => by
            rcases (mem_putB l d x).1 hx with rfl | h
            · exact H32.out
            · exact HD.out.each x h) (by omega) (HBV.out.trans ((BW.out.trans bl9).mono HBV.out.size))

theorem put_head0 (a : Option Addr) (base : Nat) (W : World) (b0 : Nat) (ty : TypeId) (hO : OwnD W base (.slice (some ⟨b0, 0, none⟩) 0 0) 0 []) (hs : base ≤ W.heap.size) :
    ∃ v1 W1, (Builtin.append_ #[24, 24] ty #[.slice (some ⟨b0, 0, none⟩) 0 0, .slice a 0 0]).run Tryz.prog W = .ok v1 W1 ∧ OwnD W1 base v1 0 [] ∧ W.grownBy W1 (some b0) ∧ Below base W W1 := by
  cases a with
  | none => exact ⟨_, W, run_app_none W ty base 0 _ [] hO, hO, ⟨rfl, rfl, rfl, Nat.le_refl _, fun _ _ _ => rfl⟩, Below.refl _ _⟩
  | some ad =>
    obtain ⟨v1, W1, h1, h2, h3, _⟩ := run_app_d W ty base 0 0 0 _ [] [] hO ad rfl (by simp) (fun j u hj => by simp [dcells] at hj) (by omega) hs
    exact ⟨v1, W1, h1, h2, h3, below_own hO hs h3⟩

theorem put_rest0 (a : Option Addr) (base : Nat) (W : World) (v : Value) (d : Bytes) (ty : TypeId) (hO : OwnD W base v 1 [d]) (hs : base ≤ W.heap.size) :
    ∃ v1 W1, (Builtin.append_ #[24, 24] ty #[v, .slice a 0 0]).run Tryz.prog W = .ok v1 W1 ∧ OwnD W1 base v1 1 [d] ∧ Below base W W1 := by
  cases a with
  | none => exact ⟨v, W, run_app_none W ty base 1 v [d] hO, hO, Below.refl _ _⟩
  | some ad =>
    obtain ⟨v1, W1, h1, h2, h3, _⟩ := run_app_d W ty base 1 0 0 v [d] [] hO ad rfl (by simp) (fun j u hj => by simp [dcells] at hj) (by omega) hs
    exact ⟨v1, W1, h1, h2, below_own hO hs h3⟩

set_option maxHeartbeats 4000000 in
theorem rput_none (a : Option Addr) (d : Bytes) (w : World) (h32 : d.length = 32) :
    Calls Tryz.prog 35 #[.slice a 0 0, .agg (d.map B).toArray] w (PutPost [d] w) := by
  have H32 := Seal.mk h32
  obtain ⟨X, hX⟩ : ∃ X : World, X = w.alloc (.cells (d.map B).toArray 42) := ⟨_, rfl⟩
  have hXb : Seal (Below w.heap.size w X) := ⟨by rw [hX]; exact below_alloc _ _⟩
  have hXr : Seal (X.rangeAt w.heap.size 0 (d.map B)) := ⟨by rw [hX]; exact rangeAt_new w _ _ _⟩
  have hXs : Seal (w.heap.size < X.heap.size) := ⟨by rw [hX, size_alloc]; omega⟩
  clear h32
  go_enter Tryz.func35, Tryz.ntmps35
  go_wp2
  rw [← hX]
  clear hX
  go_loopw [5] (fun i wr => ∃ k : Nat, k ≤ 0 ∧ i = .int .i64 k ∧ Seal (Below X.heap.size X wr)) (fun i _ => 0 - (intOf i).toNat)
  case atStart => exact ⟨0, by omega, rfl, ⟨Below.refl _ _⟩⟩
  case round =>
    obtain ⟨k, hk, rfl, hH⟩ := hrel
    obtain rfl : k = 0 := by omega
    go_wp2_with fail
    refine wp_region_held_drew (S := fun w' => True) (by kernel_rfl) trivial (fun hHeld => ?_)
    refine take_h 0 ?_ rfl (by kernel_rfl) (by kernel_rfl) (by kernel_rfl) (fun _ _ _ h => h) (Or.inl ⟨by kernel_rfl, ?_⟩) (by assumption) ?_
    rotate_left
    · (intro w hSw; (try dsimp only at hSw); go_simp; try (with_reducible rfl))
    try simp only [Act.put, List.setIfInBounds_toArray, List.set_cons_zero, List.set_cons_succ]
    refine take_h 1 ?_ rfl (by kernel_rfl) (by kernel_rfl) (by kernel_rfl) (fun _ _ _ h => h) (Or.inl ⟨by kernel_rfl, ?_⟩) (by assumption) ?_
    rotate_left
    · (intro w hSw; (try dsimp only at hSw); go_simp; try (with_reducible rfl))
    try simp only [Act.put, List.setIfInBounds_toArray, List.set_cons_zero, List.set_cons_succ]
    refine take_h 2 ?_ rfl (by kernel_rfl) (by kernel_rfl) (by kernel_rfl) (fun _ _ _ h => h) (Or.inl ⟨by kernel_rfl, ?_⟩) (by assumption) ?_
    rotate_left
    · (intro w hSw; (try dsimp only at hSw); go_simp; try (with_reducible rfl))
    try simp only [Act.put, List.setIfInBounds_toArray, List.set_cons_zero, List.set_cons_succ]
    refine take_h 3 ?_ rfl (by kernel_rfl) (by kernel_rfl) (by kernel_rfl) (fun _ _ _ h => h) (Or.inl ⟨by kernel_rfl, ?_⟩) (by assumption) ?_
    rotate_left
    · (intro w hSw; (try dsimp only at hSw); go_simp; try (with_reducible rfl))
    try simp only [Act.put, List.setIfInBounds_toArray, List.set_cons_zero, List.set_cons_succ]
    refine take_h 4 ?_ rfl (by kernel_rfl) (by kernel_rfl) (by kernel_rfl) (fun _ _ _ h => h) (Or.inl ⟨by kernel_rfl, ?_⟩) (by assumption) ?_
    rotate_left
    · (intro w hSw; (try dsimp only at hSw); go_simp; try (with_reducible rfl))
    try simp only [Act.put, List.setIfInBounds_toArray, List.set_cons_zero, List.set_cons_succ]
    refine take_h 5 undef rfl (by kernel_rfl) (by kernel_rfl) (by kernel_rfl) (fun _ _ _ h => h) (Or.inr ⟨by kernel_rfl, rfl⟩) (by assumption) ?_
    try simp only [Act.put, List.setIfInBounds_toArray, List.set_cons_zero, List.set_cons_succ]
    refine take_h 6 undef rfl (by kernel_rfl) (by kernel_rfl) (by kernel_rfl) (fun _ _ _ h => h) (Or.inr ⟨by kernel_rfl, rfl⟩) (by assumption) ?_
    try simp only [Act.put, List.setIfInBounds_toArray, List.set_cons_zero, List.set_cons_succ]
    refine take_h 7 undef rfl (by kernel_rfl) (by kernel_rfl) (by kernel_rfl) (fun _ _ _ h => h) (Or.inr ⟨by kernel_rfl, rfl⟩) (by assumption) ?_
    try simp only [Act.put, List.setIfInBounds_toArray, List.set_cons_zero, List.set_cons_succ]
    refine take_h 8 undef rfl (by kernel_rfl) (by kernel_rfl) (by kernel_rfl) (fun _ _ _ h => h) (Or.inr ⟨by kernel_rfl, rfl⟩) (by assumption) ?_
    try simp only [Act.put, List.setIfInBounds_toArray, List.set_cons_zero, List.set_cons_succ]
    refine take_h 9 undef rfl (by kernel_rfl) (by kernel_rfl) (by kernel_rfl) (fun _ _ _ h => h) (Or.inr ⟨by kernel_rfl, rfl⟩) (by assumption) ?_
    try simp only [Act.put, List.setIfInBounds_toArray, List.set_cons_zero, List.set_cons_succ]
    refine take_h 10 undef rfl (by kernel_rfl) (by kernel_rfl) (by kernel_rfl) (fun _ _ _ h => h) (Or.inr ⟨by kernel_rfl, rfl⟩) (by assumption) ?_
    try simp only [Act.put, List.setIfInBounds_toArray, List.set_cons_zero, List.set_cons_succ]
    refine take_h 11 ?_ rfl (by kernel_rfl) (by kernel_rfl) (by kernel_rfl) (fun _ _ _ h => h) (Or.inl ⟨by kernel_rfl, ?_⟩) (by assumption) ?_
    rotate_left
    · (intro w hSw; (try dsimp only at hSw); go_simp; try (with_reducible rfl))
    try simp only [Act.put, List.setIfInBounds_toArray, List.set_cons_zero, List.set_cons_succ]
    refine wpAnyH_done (by kernel_rfl) ?_ _
    have HB1 : Seal (Below X.heap.size X wr.drew) := ⟨⟨hH.out.os, hH.out.tape, hH.out.output, hH.out.size, hH.out.block⟩⟩
    clear hHeld
    obtain ⟨V, hV⟩ : ∃ V, V = wr.drew := ⟨_, rfl⟩
    rw [← hV] at HB1 ⊢
    clear hV
    go_wp2_with fail
    have HBV : Seal (Below w.heap.size w V) := ⟨hXb.out.trans (HB1.out.mono hXb.out.size)⟩
    have rV : (V).rangeAt w.heap.size 0 (d.map B) := rangeAt_below' hXr.out HB1.out
    have hVs : w.heap.size < (V).heap.size := Nat.lt_of_lt_of_le hXs.out (HB1.out).size
    have i2 := dg_info d H32.out
    have ut := Tryz.underlying42
    refine wp_region_held_drew (S := fun w' => w'.rangeAt w.heap.size 0 (d.map B)) (by kernel_rfl) rV (fun hHeld => ?_)
    refine take_h 1 ?_ rfl (by kernel_rfl) (by kernel_rfl) (by kernel_rfl) (fun _ _ _ h => h) (Or.inl ⟨by kernel_rfl, ?_⟩) (by assumption) ?_
    rotate_left
    · (intro w hSw; (try dsimp only at hSw); go_simp; try (with_reducible rfl))
    try simp only [Act.put, List.setIfInBounds_toArray, List.set_cons_zero, List.set_cons_succ]
    refine take_h 2 ?_ rfl (by kernel_rfl) (by kernel_rfl) (by kernel_rfl) (fun _ _ _ h => h) (Or.inl ⟨by kernel_rfl, ?_⟩) (by assumption) ?_
    rotate_left
    · (intro w hSw; (try dsimp only at hSw); go_simp; try (with_reducible rfl))
    try simp only [Act.put, List.setIfInBounds_toArray, List.set_cons_zero, List.set_cons_succ]
    refine take_h 3 ?_ rfl (by kernel_rfl) (by kernel_rfl) (by kernel_rfl) (fun _ _ _ h => h) (Or.inl ⟨by kernel_rfl, ?_⟩) (by assumption) ?_
    rotate_left
    · (intro w hSw; (try dsimp only at hSw); go_simp; try (with_reducible rfl))
    try simp only [Act.put, List.setIfInBounds_toArray, List.set_cons_zero, List.set_cons_succ]
    refine take_h 5 _ rfl (by kernel_rfl) (by kernel_rfl) (by kernel_rfl) (fun _ _ _ h => h) (yieldsIf_load_mid (by kernel_rfl) 42 (.tmp 3) rfl w.heap.size 0 rfl (d.map B) _ (fun w hSw => hSw) ut rfl i2) (by assumption) ?_
    try simp only [Act.put, List.setIfInBounds_toArray, List.set_cons_zero, List.set_cons_succ]
    refine wpAnyH_ready (rs := [0, 6]) (by kernel_rfl) (by simp) (oper_b 0 (.slice (some ⟨(V).heap.size, 0, none⟩) 0 0) ((V).drew.alloc (.cells #[] 42)) rfl (by kernel_rfl) (by go_simp) (World.rangeAt_alloc hHeld _) (fun hHeld2 => ?_) (oper_b 6 (.slice (some ⟨(V).heap.size, 0, none⟩) 1 1) ((V).drew.alloc (.cells (d.map B).toArray 42)) rfl (by kernel_rfl) (by have h32 := H32.out; go_simp; rw [fold_all (by simp [h32])]) (World.rangeAt_alloc hHeld _) (fun hHeld2 => ?_) AllReadyH.nil))
    · obtain ⟨W0, hW0⟩ : ∃ W0, W0 = (V).drew.alloc (.cells #[] 42) := ⟨_, rfl⟩
      have o0 : OwnD W0 (V).heap.size (.slice (some ⟨(V).heap.size, 0, none⟩) 0 0) 0 [] := by rw [hW0]; exact own_empty (V).drew (V).heap.size (Nat.le_refl _)
      have b0 : Below (V).heap.size V W0 := by rw [hW0]; exact (below_drewn V).alloc (Nat.le_refl _) _
      have z0 : W0.heap.size = (V).heap.size + 1 := by rw [hW0]; exact size_alloc (V).drew _
      rw [← hW0] at hHeld2 ⊢
      clear hHeld hW0
      obtain ⟨v1, W1, run1, o1, g1, bl1⟩ := put_head0 a (V).heap.size W0 (V).heap.size 24 o0 (by omega)
      have S1 : W1.rangeAt w.heap.size 0 (d.map B) := rangeAt_below hHeld2 bl1 hVs
      have zz1 := bl1.size
      try simp only [Act.put, List.setIfInBounds_toArray, List.set_cons_zero, List.set_cons_succ]
      refine wpAnyH_ready (rs := [4, 6]) (by kernel_rfl) (by simp) (oper_b 4 v1 W1 rfl (by kernel_rfl) (exec_append1 (.tmp 21) (.tmp 24) 24 24 24 rfl rfl _ _ _ rfl rfl run1) S1 (fun hHeld3 => ?_) (oper_b 6 (.slice (some ⟨W0.heap.size, 0, none⟩) 1 1) (W0.alloc (.cells (d.map B).toArray 42)) rfl (by kernel_rfl) (by have h32 := H32.out; clear z0 zz1; go_simp; rw [fold_all (by simp [h32])]) (World.rangeAt_alloc hHeld2 _) (fun hHeld3 => ?_) AllReadyH.nil))
      · clear hHeld2 run1
        try simp only [Act.put, List.setIfInBounds_toArray, List.set_cons_zero, List.set_cons_succ]
        refine oper_h 6 (.slice (some ⟨W1.heap.size, 0, none⟩) 1 1) (W1.alloc (.cells (d.map B).toArray 42)) rfl (by kernel_rfl) (by kernel_rfl) (by have h32 := H32.out; clear z0 zz1; go_simp; rw [fold_all (by simp [h32])]) (World.rangeAt_alloc hHeld3 _) (fun hHeld4 => ?_)
        clear hHeld3
        try simp only [Act.put, List.setIfInBounds_toArray, List.set_cons_zero, List.set_cons_succ]
        obtain ⟨v2, W3, run7, o7, bl7⟩ := put_one 0 [] d H32.out (by omega) (W1.alloc (.cells (d.map B).toArray 42)) (V).heap.size W1.heap.size v1 24 (World.ownsRow.alloc o1 _) (heap_alloc_new W1 _) (by rw [size_alloc]; omega)
        have bW3 : Below (V).heap.size V W3 := ((b0.trans bl1).alloc (by omega) _).trans bl7
        clear o0 b0 z0 o1 g1 bl1 S1 zz1
        refine oper_h 7 v2 W3 rfl (by kernel_rfl) (by kernel_rfl) (exec_append1 (.tmp 25) (.tmp 27) 24 24 24 rfl rfl _ _ _ rfl rfl run7) (rangeAt_below hHeld4 bl7 hVs) (fun hHeld5 => ?_)
        clear hHeld4
        try simp only [Act.put, List.setIfInBounds_toArray, List.set_cons_zero, List.set_cons_succ]
        refine take_h 8 ?_ rfl (by kernel_rfl) (by kernel_rfl) (by kernel_rfl) (fun _ _ _ h => h) (Or.inl ⟨by kernel_rfl, ?_⟩) (by assumption) ?_
        rotate_left
        · (intro w hSw; (try dsimp only at hSw); go_simp; try (with_reducible rfl))
        try simp only [Act.put, List.setIfInBounds_toArray, List.set_cons_zero, List.set_cons_succ]
        refine wpAnyH_done (by kernel_rfl) ?_ _
        clear hHeld5 rV i2 ut
        have O7 := Seal.mk o7
        have BW := Seal.mk bW3
        clear o7 bW3 bl7 run7
        obtain ⟨v3, W4, hr9, o9, bl9⟩ := put_rest0 a (V).heap.size W3 v2 d 24 O7.out BW.out.size
        have HR9 := Seal.mk hr9
        clear hr9
        go_wp2_with (refine wpList_append_run1 rfl (.tmp 29) (.tmp 32) 24 24 24 rfl rfl v2 (.slice a 0 0) v3 rfl rfl HR9.out ?_)
        go_ret
        exact putPost_of (n := 0) o9 rfl (fun x hx => by rw [List.mem_singleton.1 hx]; exact H32.out) (by omega) (HBV.out.trans ((BW.out.trans bl9).mono HBV.out.size))
      · clear hHeld2 run1 o1 g1 bl1 S1 zz1
        try simp only [Act.put, List.setIfInBounds_toArray, List.set_cons_zero, List.set_cons_succ]
        obtain ⟨v1, W1, run1, o1, g1, bl1⟩ := put_head0 a (V).heap.size (W0.alloc (.cells (d.map B).toArray 42)) (V).heap.size 24 (World.ownsRow.alloc o0 _) (by rw [size_alloc]; omega)
        have hv1 := row_keeps g1 (heap_alloc_new W0 _) (by omega)
        refine oper_h 4 v1 W1 rfl (by kernel_rfl) (by kernel_rfl) (exec_append1 (.tmp 21) (.tmp 24) 24 24 24 rfl rfl _ _ _ rfl rfl run1) (rangeAt_below hHeld3 bl1 hVs) (fun hHeld4 => ?_)
        clear hHeld3 run1
        try simp only [Act.put, List.setIfInBounds_toArray, List.set_cons_zero, List.set_cons_succ]
        have zz1 := bl1.size
        rw [size_alloc] at zz1
        obtain ⟨v2, W3, run7, o7, bl7⟩ := put_one 0 [] d H32.out (by omega) W1 (V).heap.size W0.heap.size v1 24 o1 hv1 (by omega)
        have bW3 : Below (V).heap.size V W3 := ((b0.alloc (by omega) _).trans bl1).trans bl7
        clear o0 b0 z0 o1 g1 bl1 hv1 zz1
        refine oper_h 7 v2 W3 rfl (by kernel_rfl) (by kernel_rfl) (exec_append1 (.tmp 25) (.tmp 27) 24 24 24 rfl rfl _ _ _ rfl rfl run7) (rangeAt_below hHeld4 bl7 hVs) (fun hHeld5 => ?_)
        clear hHeld4
        try simp only [Act.put, List.setIfInBounds_toArray, List.set_cons_zero, List.set_cons_succ]
        refine take_h 8 ?_ rfl (by kernel_rfl) (by kernel_rfl) (by kernel_rfl) (fun _ _ _ h => h) (Or.inl ⟨by kernel_rfl, ?_⟩) (by assumption) ?_
        rotate_left
        · (intro w hSw; (try dsimp only at hSw); go_simp; try (with_reducible rfl))
        try simp only [Act.put, List.setIfInBounds_toArray, List.set_cons_zero, List.set_cons_succ]
        refine wpAnyH_done (by kernel_rfl) ?_ _
        clear hHeld5 rV i2 ut
        have O7 := Seal.mk o7
        have BW := Seal.mk bW3
        clear o7 bW3 bl7 run7
        obtain ⟨v3, W4, hr9, o9, bl9⟩ := put_rest0 a (V).heap.size W3 v2 d 24 O7.out BW.out.size
        have HR9 := Seal.mk hr9
        clear hr9
        go_wp2_with (refine wpList_append_run1 rfl (.tmp 29) (.tmp 32) 24 24 24 rfl rfl v2 (.slice a 0 0) v3 rfl rfl HR9.out ?_)
        go_ret
        exact putPost_of (n := 0) o9 rfl (fun x hx => by rw [List.mem_singleton.1 hx]; exact H32.out) (by omega) (HBV.out.trans ((BW.out.trans bl9).mono HBV.out.size))
    · obtain ⟨W6, hW6⟩ : ∃ W6, W6 = (V).drew.alloc (.cells (d.map B).toArray 42) := ⟨_, rfl⟩
      have b6 : Below (V).heap.size V W6 := by rw [hW6]; exact (below_drewn V).alloc (Nat.le_refl _) _
      have n6 : W6.heap[(V).heap.size]? = some (.cells (d.map B).toArray 42 (0, 0)) := by rw [hW6]; exact heap_alloc_new (V).drew _
      have z6 : W6.heap.size = (V).heap.size + 1 := by rw [hW6]; exact size_alloc (V).drew _
      rw [← hW6] at hHeld2 ⊢
      clear hHeld hW6
      try simp only [Act.put, List.setIfInBounds_toArray, List.set_cons_zero, List.set_cons_succ]
      refine oper_h 0 (.slice (some ⟨W6.heap.size, 0, none⟩) 0 0) (W6.alloc (.cells #[] 42)) rfl (by kernel_rfl) (by kernel_rfl) (by clear z6; go_simp) (World.rangeAt_alloc hHeld2 _) (fun hHeld3 => ?_)
      clear hHeld2
      try simp only [Act.put, List.setIfInBounds_toArray, List.set_cons_zero, List.set_cons_succ]
      have n7 : (W6.alloc (.cells #[] 42)).heap[(V).heap.size]? = some (.cells (d.map B).toArray 42 (0, 0)) := by rw [Below.heap_alloc _ _ _ (by omega)]; exact n6
      obtain ⟨v1, W1, run1, o1, g1, bl1⟩ := put_head0 a (V).heap.size (W6.alloc (.cells #[] 42)) W6.heap.size 24 (own_empty W6 (V).heap.size (by omega)) (by rw [size_alloc]; omega)
      have hv1 := row_keeps g1 n7 (by omega)
      refine oper_h 4 v1 W1 rfl (by kernel_rfl) (by kernel_rfl) (exec_append1 (.tmp 21) (.tmp 24) 24 24 24 rfl rfl _ _ _ rfl rfl run1) (rangeAt_below hHeld3 bl1 hVs) (fun hHeld4 => ?_)
      clear hHeld3 run1
      try simp only [Act.put, List.setIfInBounds_toArray, List.set_cons_zero, List.set_cons_succ]
      have zz1 := bl1.size
      rw [size_alloc] at zz1
      obtain ⟨v2, W3, run7, o7, bl7⟩ := put_one 0 [] d H32.out (by omega) W1 (V).heap.size (V).heap.size v1 24 o1 hv1 (by omega)
      have bW3 : Below (V).heap.size V W3 := ((b6.alloc (by omega) _).trans bl1).trans bl7
      clear b6 n6 n7 z6 o1 g1 bl1 hv1 zz1
      refine oper_h 7 v2 W3 rfl (by kernel_rfl) (by kernel_rfl) (exec_append1 (.tmp 25) (.tmp 27) 24 24 24 rfl rfl _ _ _ rfl rfl run7) (rangeAt_below hHeld4 bl7 hVs) (fun hHeld5 => ?_)
      clear hHeld4
      try simp only [Act.put, List.setIfInBounds_toArray, List.set_cons_zero, List.set_cons_succ]
      refine take_h 8 ?_ rfl (by kernel_rfl) (by kernel_rfl) (by kernel_rfl) (fun _ _ _ h => h) (Or.inl ⟨by kernel_rfl, ?_⟩) (by assumption) ?_
      rotate_left
      · (intro w hSw; (try dsimp only at hSw); go_simp; try (with_reducible rfl))
      try simp only [Act.put, List.setIfInBounds_toArray, List.set_cons_zero, List.set_cons_succ]
      refine wpAnyH_done (by kernel_rfl) ?_ _
      clear hHeld5 rV i2 ut
      have O7 := Seal.mk o7
      have BW := Seal.mk bW3
      clear o7 bW3 bl7 run7
      obtain ⟨v3, W4, hr9, o9, bl9⟩ := put_rest0 a (V).heap.size W3 v2 d 24 O7.out BW.out.size
      have HR9 := Seal.mk hr9
      clear hr9
      go_wp2_with (refine wpList_append_run1 rfl (.tmp 29) (.tmp 32) 24 24 24 rfl rfl v2 (.slice a 0 0) v3 rfl rfl HR9.out ?_)
      go_ret
      exact putPost_of (n := 0) o9 rfl (fun x hx => by rw [List.mem_singleton.1 hx]; exact H32.out) (by omega) (HBV.out.trans ((BW.out.trans bl9).mono HBV.out.size))

theorem rput_any (a : Option Addr) (len cap : Nat) (l : List Bytes) (d : Bytes) (w : World) (hd : IsD w a len cap l) (ha : cap = 0 ∨ ∃ g off, a = some ⟨g, off, none⟩) (h32 : d.length = 32) (hlen : len < 4096) :
    Calls Tryz.prog 35 #[.slice a len cap, .agg (d.map B).toArray] w (PutPost (putB l d) w) := by
  rcases ha with rfl | ⟨g, off, rfl⟩
  · obtain rfl : len = 0 := by have := hd.lcap; omega
    obtain rfl : l = [] := List.eq_nil_of_length_eq_zero hd.llen
    exact rput_none a d w h32
  · exact rput_some g off len cap l d w hd h32 hlen

end Frk
