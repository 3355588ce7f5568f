/- The reference's lists of digests: Before, Used, Has, Few, Same. -/
import Derived.Test.YtllbjakfjpjfnaaDoorVwgRsg
import Derived.Test.YtllbjakfjpjfnaaDoorVwDin
namespace Frk
open Go Go.RowKit Go.Proofs
set_option maxRecDepth 100000

theorem below_drewn (w : World) : Below w.heap.size w w.drew := ⟨rfl, rfl, rfl, Nat.le_refl _, fun _ _ => rfl⟩

theorem u8_ne (x y : UInt8) : ((x.toNat : Int) != (y.toNat : Int)) = (x != y) := by
  rw [Bool.eq_iff_iff, bne_iff_ne, bne_iff_ne]
  constructor
  · intro h e; exact h (by rw [e])
  · intro h e; exact h (UInt8.toNat_inj.1 (by omega))

set_option maxHeartbeats 1000000 in
theorem rbefore_any (x y : Bytes) (w : World) (hx : x.length = 32) (hy : y.length = 32) :
    Calls Tryd.prog 33 #[.agg (x.map B).toArray, .agg (y.map B).toArray] w fun e w' => e = .returned (.bool (blt x y)) ∧ Below w.heap.size w w' := by
  obtain ⟨X, hX⟩ : ∃ X : World, X = (w.alloc (.cells (x.map B).toArray 44)).alloc (.cells (y.map B).toArray 44) := ⟨_, rfl⟩
  have hXb : Seal (Below w.heap.size w X) := ⟨by rw [hX]; exact ((Below.refl _ w).alloc (Nat.le_refl _) _).alloc (by simp) _⟩
  have hX0 : Seal (X.heap[w.heap.size]? = some (.cells (x.map B).toArray 44 (0, 0))) := ⟨by rw [hX]; exact heap_alloc2_old w _ _⟩
  have hX1 : Seal (X.heap[w.heap.size + 1]? = some (.cells (y.map B).toArray 44 (0, 0))) := ⟨by rw [hX]; exact heap_alloc2_new w _ _⟩
  have HX := Seal.mk hx
  have HY := Seal.mk hy
  clear hx hy
  go_enter Tryd.func33, Tryd.ntmps33
  go_wp2
  rw [← hX]
  clear hX
  go_loopw [5] (fun i wr => ∃ k : Nat, k ≤ 32 ∧ i = .int .i64 k ∧ Seal ((∃ n, wr = X.drewN n) ∧ ∀ j, j < k → x.getD j 0 = y.getD j 0)) (fun i _ => 32 - (intOf i).toNat)
  case atStart => exact ⟨0, by omega, rfl, ⟨⟨0, rfl⟩, fun j hj => by omega⟩⟩
  case round =>
    obtain ⟨k, hk, rfl, hH⟩ := hrel
    obtain ⟨n, hwr⟩ := hH.out.1
    have HE : Seal (∀ j, j < k → x.getD j 0 = y.getD j 0) := ⟨hH.out.2⟩
    subst hwr
    clear hH
    by_cases hlt : k < 32
    · have c0 : X.cell? ⟨w.heap.size, k, none⟩ = some (.int .u8 ((x.getD k 0).toNat : Int)) := by
        have := cellB (rangeAt_row (cs := x.map B) hX0.out) (i := k) (by rw [HX.out]; exact hlt)
        rwa [Nat.zero_add] at this
      have c1 : X.cell? ⟨w.heap.size + 1, k, none⟩ = some (.int .u8 ((y.getD k 0).toNat : Int)) := by
        have := cellB (rangeAt_row (cs := y.map B) hX1.out) (i := k) (by rw [HY.out]; exact hlt)
        rwa [Nat.zero_add] at this
      have q1 : (k : Int) < 32 := by omega
      have q2 : (0 : Int) ≤ (k : Int) := by omega
      obtain ⟨p, hp⟩ : ∃ p, (x.getD k 0).toNat = p := ⟨_, rfl⟩
      obtain ⟨q, hq⟩ : ∃ q, (y.getD k 0).toNat = q := ⟨_, rfl⟩
      have hpq : ((p : Int) != (q : Int)) = (x.getD k 0 != y.getD k 0) := by rw [← hp, ← hq]; exact u8_ne _ _
      have HPQ : Seal ((x.getD k 0).toNat = p ∧ (y.getD k 0).toNat = q) := ⟨hp, hq⟩
      rw [hp] at c0
      rw [hq] at c1
      clear hp hq
      by_cases hne : x.getD k 0 = y.getD k 0
      · have hb : ((p : Int) != (q : Int)) = false := by rw [hpq, hne]; simp
        have HN : Seal (∀ j, j < k + 1 → x.getD j 0 = y.getD j 0) := ⟨fun j hj => by
          by_cases e : j = k
          · subst e; exact hne
          · exact HE.out j (by omega)⟩
        clear hne HE hpq
        go_wp2_with fail
        go_quiet (fail)
        go_wp2
        go_roundw
        case rel => exact ⟨k + 1, by omega, by go_num, ⟨⟨_, rfl⟩, HN.out⟩⟩
        case measure => simp [intOf]; omega
      · have hb : ((p : Int) != (q : Int)) = true := by rw [hpq]; simpa using hne
        have HF : Seal (blt x y = decide (p < q)) := ⟨by
          rw [blt_first k (by rw [HX.out, HY.out]) (by rw [HX.out]; exact hlt) HE.out hne, HPQ.out.1, HPQ.out.2]⟩
        clear hne HE hpq
        go_wp2_with fail
        go_quiet (fail)
        go_wp2_with fail
        go_quiet (fail)
        go_wp2
        go_ret
        exact ⟨ret_bool (by rw [HF.out]; try simp), hXb.out.os, hXb.out.tape, hXb.out.output, hXb.out.size, hXb.out.block⟩
    · obtain rfl : k = 32 := by omega
      have HF : Seal (blt x y = false) := ⟨by
        have : x = y := bytes_ext (by rw [HX.out, HY.out]) (fun j hj => HE.out j (by rw [HX.out] at hj; exact hj))
        rw [this]; exact blt_irrefl y⟩
      clear HE
      rw [show ((32 : Nat) : Int) = 32 from rfl]
      go_wp2
      go_ret
      exact ⟨ret_bool HF.out.symm, hXb.out.os, hXb.out.tape, hXb.out.output, hXb.out.size, hXb.out.block⟩

theorem IsD.drew {w : World} {a : Option Addr} {len cap : Nat} {l : List Bytes} (h : IsD w a len cap l) : IsD w.drew a len cap l := h.of_heap ⟨rfl, rfl, rfl, Nat.le_refl _, fun _ _ => rfl⟩

set_option maxHeartbeats 2000000 in
theorem rused_any (a : Option Addr) (len cap : Nat) (l : List Bytes) (w : World) (hd : IsD w a len cap l) :
    Calls Tryd.prog 9 #[.slice a len cap] w fun e w' => e = .returned (.bool (usedB l)) ∧ Below w.heap.size w w' := by
  have HD := Seal.mk hd
  have hll := hd.llen
  have hlm := hd.lmax
  clear hd
  go_enter Tryd.func9, Tryd.ntmps9
  go_wp2
  go_loopw [3] (fun i wr => ∃ k : Nat, 1 ≤ k ∧ (k ≤ len ∨ k = 1) ∧ i = .int .i64 k ∧ Seal (Below w.heap.size w wr ∧ ∀ j, j + 1 < k → blt (l.getD j []) (l.getD (j + 1) []) = true)) (fun i _ => len - (intOf i).toNat)
  case atStart => exact ⟨1, by omega, .inr rfl, rfl, ⟨Below.refl _ _, fun j hj => by omega⟩⟩
  case round =>
    obtain ⟨k, hk1, hk, rfl, hH⟩ := hrel
    by_cases hlt : k < len
    · have HDr := HD.out.of_heap hH.out.1
      rcases HDr.at_ with h0 | ⟨g, off, rfl, hr, hg⟩
      · omega
      · obtain ⟨x, hx⟩ : ∃ x, x = l.getD (k - 1) [] := ⟨_, rfl⟩
        obtain ⟨y, hy⟩ : ∃ y, y = l.getD k [] := ⟨_, rfl⟩
        have r1 := range_dg hr HDr.each (i := k - 1) (by omega)
        have r2 := range_dg hr HDr.each (i := k) (by omega)
        have x32 := getD_len HDr.each (i := k - 1) (by omega)
        have y32 := getD_len HDr.each (i := k) (by omega)
        rw [← hx] at r1 x32
        rw [← hy] at r2 y32
        have HC : Seal (∀ W, Calls Tryd.prog 33 #[.agg (x.map B).toArray, .agg (y.map B).toArray] W fun e w' => e = .returned (.bool (blt x y)) ∧ Below W.heap.size W w') := ⟨fun W => rbefore_any x y W x32 y32⟩
        have i1 := dg_info x x32
        have i2 := dg_info y y32
        have ut := Tryd.underlying44
        have q1 : IntKind.i64.wrap ((k : Int) - 1) = k - 1 := IntWalk.i64_in _ (by omega)
        have q2 : ((k : Int) - 1).toNat = k - 1 := by omega
        have q3 : 0 ≤ (k : Int) - 1 := by omega
        have q4 : (k : Int) - 1 < (len : Int) := by omega
        have q5 : (k : Int) < (len : Int) := by omega
        have q6 : 1 ≤ (k : Int) := by omega
        have HX := Seal.mk hx
        have HY := Seal.mk hy
        clear hr HDr hll hx hy x32 y32
        go_wp2_with fail
        refine wp_region_held_drew (S := fun w' => w'.rangeAt g (off + (k - 1) * 32) (x.map B) ∧ w'.rangeAt g (off + k * 32) (y.map B)) (by kernel_rfl) ⟨r1, r2⟩ (fun hHeld => ?_)
        refine take_h 0 ?_ rfl (by kernel_rfl) (by kernel_rfl) (by kernel_rfl) (fun _ _ _ h => h) (Or.inl ⟨by kernel_rfl, ?_⟩) (by assumption) ?_
        rotate_left
        · (intro w hSw; (try dsimp only at hSw); go_simp; try (with_reducible rfl))
        try simp only [Act.put, List.setIfInBounds_toArray, List.set_cons_zero, List.set_cons_succ]
        refine take_h 1 ?_ rfl (by kernel_rfl) (by kernel_rfl) (by kernel_rfl) (fun _ _ _ h => h) (Or.inl ⟨by kernel_rfl, ?_⟩) (by assumption) ?_
        rotate_left
        · (intro w hSw; (try dsimp only at hSw); go_simp; try (with_reducible rfl))
        try simp only [Act.put, List.setIfInBounds_toArray, List.set_cons_zero, List.set_cons_succ]
        refine take_h 2 ?_ rfl (by kernel_rfl) (by kernel_rfl) (by kernel_rfl) (fun _ _ _ h => h) (Or.inl ⟨by kernel_rfl, ?_⟩) (by assumption) ?_
        rotate_left
        · (intro w hSw; (try dsimp only at hSw); go_simp; try (with_reducible rfl))
        try simp only [Act.put, List.setIfInBounds_toArray, List.set_cons_zero, List.set_cons_succ]
        refine take_h 3 ?_ rfl (by kernel_rfl) (by kernel_rfl) (by kernel_rfl) (fun _ _ _ h => h) (Or.inl ⟨by kernel_rfl, ?_⟩) (by assumption) ?_
        rotate_left
        · (intro w hSw; (try dsimp only at hSw); go_simp; try (with_reducible rfl))
        try simp only [Act.put, List.setIfInBounds_toArray, List.set_cons_zero, List.set_cons_succ]
        refine take_h 4 _ rfl (by kernel_rfl) (by kernel_rfl) (by kernel_rfl) (fun _ _ _ h => h) (yieldsIf_load_mid (by kernel_rfl) 44 (.tmp 13) rfl g (off + (k - 1) * 32) rfl (x.map B) _ (fun w hSw => hSw.1) ut rfl i1) (by assumption) ?_
        try simp only [Act.put, List.setIfInBounds_toArray, List.set_cons_zero, List.set_cons_succ]
        refine take_h 5 ?_ rfl (by kernel_rfl) (by kernel_rfl) (by kernel_rfl) (fun _ _ _ h => h) (Or.inl ⟨by kernel_rfl, ?_⟩) (by assumption) ?_
        rotate_left
        · (intro w hSw; (try dsimp only at hSw); go_simp; try (with_reducible rfl))
        try simp only [Act.put, List.setIfInBounds_toArray, List.set_cons_zero, List.set_cons_succ]
        refine take_h 6 ?_ rfl (by kernel_rfl) (by kernel_rfl) (by kernel_rfl) (fun _ _ _ h => h) (Or.inl ⟨by kernel_rfl, ?_⟩) (by assumption) ?_
        rotate_left
        · (intro w hSw; (try dsimp only at hSw); go_simp; try (with_reducible rfl))
        try simp only [Act.put, List.setIfInBounds_toArray, List.set_cons_zero, List.set_cons_succ]
        refine take_h 7 ?_ rfl (by kernel_rfl) (by kernel_rfl) (by kernel_rfl) (fun _ _ _ h => h) (Or.inl ⟨by kernel_rfl, ?_⟩) (by assumption) ?_
        rotate_left
        · (intro w hSw; (try dsimp only at hSw); go_simp; try (with_reducible rfl))
        try simp only [Act.put, List.setIfInBounds_toArray, List.set_cons_zero, List.set_cons_succ]
        refine take_h 8 _ rfl (by kernel_rfl) (by kernel_rfl) (by kernel_rfl) (fun _ _ _ h => h) (yieldsIf_load_mid (by kernel_rfl) 44 (.tmp 17) rfl g (off + k * 32) rfl (y.map B) _ (fun w hSw => hSw.2) ut rfl i2) (by assumption) ?_
        try simp only [Act.put, List.setIfInBounds_toArray, List.set_cons_zero, List.set_cons_succ]
        refine call_h 9 rfl (by kernel_rfl) 33 #[.agg (x.map B).toArray, .agg (y.map B).toArray] (by kernel_rfl) (by go_simp) ?_
        refine (HC.out wr.drew).mono ?_
        rintro e w1 ⟨rfl, hb1⟩
        have hb2 : Below wr.heap.size wr w1 := ⟨hb1.os, hb1.tape, hb1.output, hb1.size, hb1.block⟩
        have HB1 : Seal (Below w.heap.size w w1) := ⟨hH.out.1.trans (hb2.mono hH.out.1.size)⟩
        refine ⟨_, rfl, ⟨rangeAt_below' r1 hb2, rangeAt_below' r2 hb2⟩, fun hHeld2 => ?_⟩
        clear hHeld hb1 hb2 HC r1 r2 q1 q2 q3 q4 i1 i2 ut
        have HNB : Seal (blt x y = false → usedB l = false) := ⟨fun hc => by
          cases hu : usedB l with
          | false => rfl
          | true =>
            have := (usedB_iff l).1 hu (k - 1) (by rw [HD.out.llen]; omega)
            rw [show k - 1 + 1 = k from by omega, ← HX.out, ← HY.out, hc] at this
            cases this⟩
        have HLB : Seal (blt x y = true → blt (l.getD (k - 1) []) (l.getD k []) = true) := ⟨fun hc => by rw [← HX.out, ← HY.out]; exact hc⟩
        generalize blt x y = c at *
        try simp only [Act.put, List.setIfInBounds_toArray, List.set_cons_zero, List.set_cons_succ]
        cases c
        · skip
          refine take_h 10 ?_ rfl (by kernel_rfl) (by kernel_rfl) (by kernel_rfl) (fun _ _ _ h => h) (Or.inl ⟨by kernel_rfl, ?_⟩) (by assumption) ?_
          rotate_left
          · (intro w hSw; (try dsimp only at hSw); go_simp; try (with_reducible rfl))
          try simp only [Act.put, List.setIfInBounds_toArray, List.set_cons_zero, List.set_cons_succ]
          refine wpAnyH_done (by kernel_rfl) ?_ _
          have HN := HNB.out rfl
          have HN := Seal.mk HN
          clear hHeld2 HLB HNB
          go_wp2
          go_ret
          exact ⟨ret_bool HN.out.symm, HB1.out⟩
        · skip
          refine take_h 10 ?_ rfl (by kernel_rfl) (by kernel_rfl) (by kernel_rfl) (fun _ _ _ h => h) (Or.inl ⟨by kernel_rfl, ?_⟩) (by assumption) ?_
          rotate_left
          · (intro w hSw; (try dsimp only at hSw); go_simp; try (with_reducible rfl))
          try simp only [Act.put, List.setIfInBounds_toArray, List.set_cons_zero, List.set_cons_succ]
          refine wpAnyH_done (by kernel_rfl) ?_ _
          have HL := Seal.mk (HLB.out rfl)
          clear hHeld2 HLB HNB
          go_wp2
          go_roundw
          case rel =>
            refine ⟨k + 1, by omega, .inl hlt, by go_num, ⟨HB1.out, fun j hj => ?_⟩⟩
            by_cases hjk : j + 1 < k
            · exact hH.out.2 j hjk
            · have e1 : j = k - 1 := by omega
              have e2 : j + 1 = k := by omega
              rw [e2, e1]; exact HL.out
          case measure => simp [intOf]; omega
    · have HU : Seal (usedB l = true) := ⟨(usedB_iff l).2 (fun i hi => hH.out.2 i (by rw [HD.out.llen] at hi; omega))⟩
      have HB1 : Seal (Below w.heap.size w wr) := ⟨hH.out.1⟩
      have hnl : ¬ (k : Int) < (len : Int) := by omega
      clear hH
      go_wp2
      go_ret
      exact ⟨ret_bool HU.out.symm, HB1.out⟩

theorem has_take_succ {l : List Bytes} {k : Nat} {d : Bytes} (hk : k < l.length) : d ∈ l.take (k + 1) ↔ d ∈ l.take k ∨ l.getD k [] = d := by
  rw [List.take_succ_eq_append_getElem hk, List.mem_append, List.mem_singleton, List.getD_eq_getElem?_getD, List.getElem?_eq_getElem hk]
  simp only [Option.getD_some]
  exact ⟨fun h => h.imp_right Eq.symm, fun h => h.imp_right Eq.symm⟩

set_option maxHeartbeats 2000000 in
theorem rhas_any (a : Option Addr) (len cap : Nat) (l : List Bytes) (d : Bytes) (w : World) (hd : IsD w a len cap l) (h32 : d.length = 32) :
    Calls Tryd.prog 10 #[.slice a len cap, .agg (d.map B).toArray] w fun e w' => e = .returned (.bool (hasB l d)) ∧ Below w.heap.size w w' := by
  have HD := Seal.mk hd
  have hll := hd.llen
  have hlm := hd.lmax
  have H32 := Seal.mk h32
  obtain ⟨X, hX⟩ : ∃ X : World, X = w.alloc (.cells (d.map B).toArray 44) := ⟨_, rfl⟩
  have hXb : Seal (Below w.heap.size w X) := ⟨by rw [hX]; exact below_alloc _ _⟩
  have hXr : Seal (X.rangeAt w.heap.size 0 (d.map B)) := ⟨by rw [hX]; exact rangeAt_new w _ _ _⟩
  clear hd h32
  go_enter Tryd.func10, Tryd.ntmps10
  go_wp2
  rw [← hX]
  clear hX
  go_loopw [5] (fun i wr => ∃ k : Nat, k ≤ len ∧ i = .int .i64 k ∧ Seal (Below X.heap.size X wr ∧ ¬ d ∈ l.take k)) (fun i _ => len - (intOf i).toNat)
  case atStart => exact ⟨0, by omega, rfl, ⟨Below.refl _ _, by simp⟩⟩
  case round =>
    obtain ⟨k, hk, rfl, hH⟩ := hrel
    by_cases hlt : k < len
    · have HDr := (HD.out.of_heap hXb.out).of_heap hH.out.1
      rcases HDr.at_ with h0 | ⟨g, off, rfl, hr, hg⟩
      · omega
      · obtain ⟨x, hx⟩ : ∃ x, x = l.getD k [] := ⟨_, rfl⟩
        have r1 := range_dg hr HDr.each (i := k) (by omega)
        have x32 := getD_len HDr.each (i := k) (by omega)
        rw [← hx] at r1 x32
        have r2 : wr.rangeAt w.heap.size 0 (d.map B) := rangeAt_below' hXr.out hH.out.1
        have i1 := dg_info x x32
        have i2 := dg_info d H32.out
        have ut := Tryd.underlying44
        obtain ⟨t, ht⟩ : ∃ t, (x == d) = t := ⟨_, rfl⟩
        have heq : ∀ W, (Op.equalIn 10000 44 (.agg (x.map B).toArray) (.agg (d.map B).toArray)).run Tryd.prog W = .ok t W := fun W => by rw [← ht]; exact eqDig _ _ x32 H32.out W
        have HM : Seal (d ∈ l.take (k + 1) ↔ t = true) := ⟨by
          rw [has_take_succ (by omega), ← hx, ← ht, beq_iff_eq]
          exact ⟨fun h => h.resolve_left hH.out.2, .inr⟩⟩
        have q5 : (k : Int) < (len : Int) := by omega
        have q6 : (0 : Int) ≤ (k : Int) := by omega
        clear hr HDr hll hx x32 ht
        go_wp2_with fail
        refine wp_region_held_drew (S := fun w' => w'.rangeAt g (off + k * 32) (x.map B) ∧ w'.rangeAt w.heap.size 0 (d.map B)) (by kernel_rfl) ⟨r1, r2⟩ (fun hHeld => ?_)
        refine take_h 0 ?_ rfl (by kernel_rfl) (by kernel_rfl) (by kernel_rfl) (fun _ _ _ h => h) (Or.inl ⟨by kernel_rfl, ?_⟩) (by assumption) ?_
        rotate_left
        · (intro w hSw; (try dsimp only at hSw); go_simp; try (with_reducible rfl))
        try simp only [Act.put, List.setIfInBounds_toArray, List.set_cons_zero, List.set_cons_succ]
        refine take_h 1 ?_ rfl (by kernel_rfl) (by kernel_rfl) (by kernel_rfl) (fun _ _ _ h => h) (Or.inl ⟨by kernel_rfl, ?_⟩) (by assumption) ?_
        rotate_left
        · (intro w hSw; (try dsimp only at hSw); go_simp; try (with_reducible rfl))
        try simp only [Act.put, List.setIfInBounds_toArray, List.set_cons_zero, List.set_cons_succ]
        refine take_h 2 ?_ rfl (by kernel_rfl) (by kernel_rfl) (by kernel_rfl) (fun _ _ _ h => h) (Or.inl ⟨by kernel_rfl, ?_⟩) (by assumption) ?_
        rotate_left
        · (intro w hSw; (try dsimp only at hSw); go_simp; try (with_reducible rfl))
        try simp only [Act.put, List.setIfInBounds_toArray, List.set_cons_zero, List.set_cons_succ]
        refine take_h 3 _ rfl (by kernel_rfl) (by kernel_rfl) (by kernel_rfl) (fun _ _ _ h => h) (yieldsIf_load_mid (by kernel_rfl) 44 (.tmp 14) rfl g (off + k * 32) rfl (x.map B) _ (fun w hSw => hSw.1) ut rfl i1) (by assumption) ?_
        try simp only [Act.put, List.setIfInBounds_toArray, List.set_cons_zero, List.set_cons_succ]
        refine take_h 4 _ rfl (by kernel_rfl) (by kernel_rfl) (by kernel_rfl) (fun _ _ _ h => h) (yieldsIf_load_mid (by kernel_rfl) 44 (.tmp 3) rfl w.heap.size 0 rfl (d.map B) _ (fun w hSw => hSw.2) ut rfl i2) (by assumption) ?_
        try simp only [Act.put, List.setIfInBounds_toArray, List.set_cons_zero, List.set_cons_succ]
        refine take_h 5 ?_ rfl (by kernel_rfl) (by kernel_rfl) (by kernel_rfl) (fun _ _ _ h => h) (Or.inl ⟨by kernel_rfl, ?_⟩) (by assumption) ?_
        rotate_left
        · (intro w hSw; (try dsimp only at hSw); go_simp; try (with_reducible rfl))
        try simp only [Act.put, List.setIfInBounds_toArray, List.set_cons_zero, List.set_cons_succ]
        refine wpAnyH_done (by kernel_rfl) ?_ _
        have HB1 : Seal (Below X.heap.size X wr.drew) := ⟨⟨hH.out.1.os, hH.out.1.tape, hH.out.1.output, hH.out.1.size, hH.out.1.block⟩⟩
        clear hHeld r1 r2 i1 i2 ut heq
        cases t
        · have HN : Seal (¬ d ∈ l.take (k + 1)) := ⟨fun h => by have := HM.out.1 h; cases this⟩
          clear HM
          go_wp2
          go_roundw
          case rel => exact ⟨k + 1, by omega, by go_num, ⟨HB1.out, HN.out⟩⟩
          case measure => simp [intOf]; omega
        · have HY : Seal (hasB l d = true) := ⟨(hasB_iff l d).2 (List.mem_of_mem_take (HM.out.2 rfl))⟩
          clear HM
          go_wp2
          go_ret
          exact ⟨ret_bool HY.out.symm, hXb.out.trans (HB1.out.mono hXb.out.size)⟩
    · obtain rfl : k = len := by omega
      have HN : Seal (hasB l d = false) := ⟨by
        cases h : hasB l d with
        | false => rfl
        | true => exact absurd ((hasB_iff l d).1 h) (by have := hH.out.2; rwa [List.take_of_length_le (by omega)] at this)⟩
      have HB1 : Seal (Below X.heap.size X wr) := ⟨hH.out.1⟩
      clear hH
      go_wp2
      go_ret
      exact ⟨ret_bool HN.out.symm, hXb.out.trans (HB1.out.mono hXb.out.size)⟩

theorem take_succ_eq {l r : List Bytes} {k : Nat} (hl : k < l.length) (hr : k < r.length) (h : l.take k = r.take k) : (l.getD k [] = r.getD k [] → l.take (k + 1) = r.take (k + 1)) ∧ (l = r → l.getD k [] = r.getD k []) := by
  refine ⟨fun e => ?_, fun e => by rw [e]⟩
  rw [List.take_succ_eq_append_getElem hl, List.take_succ_eq_append_getElem hr, h]
  rw [List.getD_eq_getElem?_getD, List.getD_eq_getElem?_getD, List.getElem?_eq_getElem hl, List.getElem?_eq_getElem hr] at e
  simp only [Option.getD_some] at e
  rw [e]

set_option maxHeartbeats 2000000 in
theorem rsame_any (a b : Option Addr) (la ca lb cb : Nat) (l r : List Bytes) (w : World) (hd : IsD w a la ca l) (hd2 : IsD w b lb cb r) :
    Calls Tryd.prog 13 #[.slice a la ca, .slice b lb cb] w fun e w' => e = .returned (.bool (l == r)) ∧ Below w.heap.size w w' := by
  have HD := Seal.mk hd
  have HD2 := Seal.mk hd2
  have hlm := hd.lmax
  have hlm2 := hd2.lmax
  have HLL : Seal (l.length = la ∧ r.length = lb) := ⟨hd.llen, hd2.llen⟩
  clear hd hd2
  go_enter Tryd.func13, Tryd.ntmps13
  by_cases hne : la = lb
  · subst hne
    go_wp2
    go_loopw [5] (fun i wr => ∃ k : Nat, k ≤ la ∧ i = .int .i64 k ∧ Seal (Below w.heap.size w wr ∧ l.take k = r.take k)) (fun i _ => la - (intOf i).toNat)
    case atStart => exact ⟨0, by omega, rfl, ⟨Below.refl _ _, by simp⟩⟩
    case round =>
      obtain ⟨k, hk, rfl, hH⟩ := hrel
      by_cases hlt : k < la
      · have HDr := HD.out.of_heap hH.out.1
        have HDr2 := HD2.out.of_heap hH.out.1
        rcases HDr.at_ with h0 | ⟨g, off, rfl, hr, hg⟩
        · omega
        rcases HDr2.at_ with h0 | ⟨g2, off2, rfl, hr2, hg2⟩
        · omega
        obtain ⟨x, hx⟩ : ∃ x, x = l.getD k [] := ⟨_, rfl⟩
        obtain ⟨y, hy⟩ : ∃ y, y = r.getD k [] := ⟨_, rfl⟩
        have r1 := range_dg hr HDr.each (i := k) (by rw [HLL.out.1]; exact hlt)
        have x32 := getD_len HDr.each (i := k) (by rw [HLL.out.1]; exact hlt)
        have r2 := range_dg hr2 HDr2.each (i := k) (by rw [HLL.out.2]; exact hlt)
        have y32 := getD_len HDr2.each (i := k) (by rw [HLL.out.2]; exact hlt)
        rw [← hx] at r1 x32
        rw [← hy] at r2 y32
        have i1 := dg_info x x32
        have i2 := dg_info y y32
        have ut := Tryd.underlying44
        obtain ⟨t, ht⟩ : ∃ t, (x == y) = t := ⟨_, rfl⟩
        have heq : ∀ W, (Op.equalIn 10000 44 (.agg (x.map B).toArray) (.agg (y.map B).toArray)).run Tryd.prog W = .ok t W := fun W => by rw [← ht]; exact eqDig _ _ x32 y32 W
        have HM : Seal ((t = true → l.take (k + 1) = r.take (k + 1)) ∧ (t = false → (l == r) = false)) := ⟨by
          have := take_succ_eq (by rw [HLL.out.1]; exact hlt) (by rw [HLL.out.2]; exact hlt) hH.out.2
          rw [← hx, ← hy] at this
          refine ⟨fun e => this.1 (by rw [e] at ht; exact eq_of_beq ht), fun e => ?_⟩
          cases hb : (l == r) with
          | false => rfl
          | true =>
            have := this.2 (eq_of_beq hb)
            rw [← ht, this] at e
            simp at e⟩
        have q5 : (k : Int) < (la : Int) := by omega
        have q6 : (0 : Int) ≤ (k : Int) := by omega
        clear hr hr2 HDr HDr2 hx hy x32 y32 ht
        go_wp2_with fail
        refine wp_region_held_drew (S := fun w' => w'.rangeAt g (off + k * 32) (x.map B) ∧ w'.rangeAt g2 (off2 + k * 32) (y.map B)) (by kernel_rfl) ⟨r1, r2⟩ (fun hHeld => ?_)
        refine take_h 0 ?_ rfl (by kernel_rfl) (by kernel_rfl) (by kernel_rfl) (fun _ _ _ h => h) (Or.inl ⟨by kernel_rfl, ?_⟩) (by assumption) ?_
        rotate_left
        · (intro w hSw; (try dsimp only at hSw); go_simp; try (with_reducible rfl))
        try simp only [Act.put, List.setIfInBounds_toArray, List.set_cons_zero, List.set_cons_succ]
        refine take_h 1 ?_ rfl (by kernel_rfl) (by kernel_rfl) (by kernel_rfl) (fun _ _ _ h => h) (Or.inl ⟨by kernel_rfl, ?_⟩) (by assumption) ?_
        rotate_left
        · (intro w hSw; (try dsimp only at hSw); go_simp; try (with_reducible rfl))
        try simp only [Act.put, List.setIfInBounds_toArray, List.set_cons_zero, List.set_cons_succ]
        refine take_h 2 ?_ rfl (by kernel_rfl) (by kernel_rfl) (by kernel_rfl) (fun _ _ _ h => h) (Or.inl ⟨by kernel_rfl, ?_⟩) (by assumption) ?_
        rotate_left
        · (intro w hSw; (try dsimp only at hSw); go_simp; try (with_reducible rfl))
        try simp only [Act.put, List.setIfInBounds_toArray, List.set_cons_zero, List.set_cons_succ]
        refine take_h 3 _ rfl (by kernel_rfl) (by kernel_rfl) (by kernel_rfl) (fun _ _ _ h => h) (yieldsIf_load_mid (by kernel_rfl) 44 (.tmp 19) rfl g (off + k * 32) rfl (x.map B) _ (fun w hSw => hSw.1) ut rfl i1) (by assumption) ?_
        try simp only [Act.put, List.setIfInBounds_toArray, List.set_cons_zero, List.set_cons_succ]
        refine take_h 4 ?_ rfl (by kernel_rfl) (by kernel_rfl) (by kernel_rfl) (fun _ _ _ h => h) (Or.inl ⟨by kernel_rfl, ?_⟩) (by assumption) ?_
        rotate_left
        · (intro w hSw; (try dsimp only at hSw); go_simp; try (with_reducible rfl))
        try simp only [Act.put, List.setIfInBounds_toArray, List.set_cons_zero, List.set_cons_succ]
        refine take_h 5 ?_ rfl (by kernel_rfl) (by kernel_rfl) (by kernel_rfl) (fun _ _ _ h => h) (Or.inl ⟨by kernel_rfl, ?_⟩) (by assumption) ?_
        rotate_left
        · (intro w hSw; (try dsimp only at hSw); go_simp; try (with_reducible rfl))
        try simp only [Act.put, List.setIfInBounds_toArray, List.set_cons_zero, List.set_cons_succ]
        refine take_h 6 ?_ rfl (by kernel_rfl) (by kernel_rfl) (by kernel_rfl) (fun _ _ _ h => h) (Or.inl ⟨by kernel_rfl, ?_⟩) (by assumption) ?_
        rotate_left
        · (intro w hSw; (try dsimp only at hSw); go_simp; try (with_reducible rfl))
        try simp only [Act.put, List.setIfInBounds_toArray, List.set_cons_zero, List.set_cons_succ]
        refine take_h 7 _ rfl (by kernel_rfl) (by kernel_rfl) (by kernel_rfl) (fun _ _ _ h => h) (yieldsIf_load_mid (by kernel_rfl) 44 (.tmp 23) rfl g2 (off2 + k * 32) rfl (y.map B) _ (fun w hSw => hSw.2) ut rfl i2) (by assumption) ?_
        try simp only [Act.put, List.setIfInBounds_toArray, List.set_cons_zero, List.set_cons_succ]
        refine take_h 8 ?_ rfl (by kernel_rfl) (by kernel_rfl) (by kernel_rfl) (fun _ _ _ h => h) (Or.inl ⟨by kernel_rfl, ?_⟩) (by assumption) ?_
        rotate_left
        · (intro w hSw; (try dsimp only at hSw); go_simp; try (with_reducible rfl))
        try simp only [Act.put, List.setIfInBounds_toArray, List.set_cons_zero, List.set_cons_succ]
        refine wpAnyH_done (by kernel_rfl) ?_ _
        have HB1 : Seal (Below w.heap.size w wr.drew) := ⟨⟨hH.out.1.os, hH.out.1.tape, hH.out.1.output, hH.out.1.size, hH.out.1.block⟩⟩
        clear hHeld r1 r2 i1 i2 ut heq
        cases t
        · have HN := Seal.mk (HM.out.2 rfl)
          clear HM
          go_wp2
          go_ret
          exact ⟨ret_bool HN.out.symm, HB1.out⟩
        · have HN := Seal.mk (HM.out.1 rfl)
          clear HM
          go_wp2
          go_roundw
          case rel => exact ⟨k + 1, by omega, by go_num, ⟨HB1.out, HN.out⟩⟩
          case measure => simp [intOf]; omega
      · obtain rfl : k = la := by omega
        have HN : Seal ((l == r) = true) := ⟨by
          have := hH.out.2
          rw [List.take_of_length_le (by rw [HLL.out.1]; omega), List.take_of_length_le (by rw [HLL.out.2]; omega)] at this
          rw [this]; simp⟩
        have HB1 : Seal (Below w.heap.size w wr) := ⟨hH.out.1⟩
        clear hH
        go_wp2
        go_ret
        exact ⟨ret_bool HN.out.symm, HB1.out⟩
  · have q : ¬ (la : Int) = (lb : Int) := by omega
    have HN : Seal ((l == r) = false) := ⟨by
      cases hb : (l == r) with
      | false => rfl
      | true => exact absurd (by rw [← HLL.out.1, ← HLL.out.2, eq_of_beq hb]) hne⟩
    go_wp2
    go_ret
    exact ⟨ret_bool HN.out.symm, Below.refl _ _⟩

/-- what Put returns -/
def PutPost (l : List Bytes) (w : World) (e : Ending) (w' : World) : Prop :=
  ∃ g n c, e = .returned (.slice (some ⟨g, 0, none⟩) n c) ∧ Seal (IsD w' (some ⟨g, 0, none⟩) n c l) ∧ Below w.heap.size w w'

end Frk
