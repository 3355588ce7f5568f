/- Law 44: the search of postings and of numbers; find; Check. -/
import Derived.Test.YtnpnboldjbljaaaDoorVfDpc
namespace Frk
open Go Go.RowKit Go.Proofs
set_option maxRecDepth 100000

theorem midZ_bits (i j : Nat) (_h : i + j < 9223372036854775808) : ((i : Int) + (j : Int)) / 2 = (((i + j) / 2 : Nat) : Int) := by omega

set_option maxHeartbeats 2000000 in
theorem dsearchP_any (a : Option Addr) (len cap : Nat) (l : List Po) (q : Po) (w : World) (hd : IsPs w a len cap l) (h32 : ∀ x ∈ l, x.S.length = 32) (q32 : q.S.length = 32) (hu : RisK Po.o l) :
    Calls Tryd.prog 64 #[.slice a len cap, .agg q.C.toArray, .func (.func 40) #[] #[]] w fun e w' => e = .returned (.tuple #[.int .i64 (atK Po.o l q.o : Nat), .bool (hasK Po.o l q.o)]) ∧ Below w.heap.size w w' := by
  have HL := Seal.mk hd.llen
  have hlm := hd.lmax
  have HU := Seal.mk hu
  have H32 := Seal.mk h32
  obtain ⟨CQ, hCQ⟩ : ∃ C, C = q.C := ⟨_, rfl⟩
  have iq : (Tryd.prog.info? 31).map (·.size) = some CQ.length := by rw [hCQ]; exact Po.C_info q32
  have ut := Tryd.underlying31
  have HC : Seal (∀ (x : Po) W, Calls Tryd.prog 40 #[.agg x.C.toArray, .agg CQ.toArray] W fun e w' => e = .returned (.int .i64 (cmpZ x.o q.o)) ∧ Below W.heap.size W w') := ⟨fun x W => by rw [hCQ]; exact byOrder_any x q W⟩
  obtain ⟨X, hX⟩ : ∃ X : World, Seal (X = w.alloc (.cells CQ.toArray 31)) := ⟨_, ⟨rfl⟩⟩
  have hXb : Seal (Below w.heap.size w X) := ⟨by rw [hX.out]; exact below_alloc _ _⟩
  have hXr : Seal (X.rangeAt w.heap.size 0 CQ) := ⟨by rw [hX.out]; exact rangeAt_new w _ _ _⟩
  have HD : Seal (IsPs X a len cap l) := ⟨hd.below hXb.out⟩
  rw [← hCQ]
  clear hd hu h32 hCQ q32
  go_enter Tryd.func64, Tryd.ntmps64
  go_wp2
  rw [← hX.out]
  go_loopw [9, 10] (fun lo hi wr => ∃ i j : Nat, i ≤ j ∧ j ≤ len ∧ lo = .int .i64 i ∧ hi = .int .i64 j ∧ Seal (Below X.heap.size X wr ∧ (∀ t x, t < i → l[t]? = some x → x.o < q.o) ∧ (∀ x, l[j]? = some x → ¬ x.o < q.o))) (fun lo hi _ => (intOf hi - intOf lo).toNat)
  case atStart => exact ⟨0, len, by omega, by omega, rfl, rfl, ⟨by rw [hX.out]; exact Below.refl _ _, fun t x ht => by omega, fun x hx => by have := (List.getElem?_eq_some_iff.1 hx).1; have := HL.out; omega⟩⟩
  case round =>
    obtain ⟨i, j, hij, hj, rfl, rfl, hH⟩ := hrel
    by_cases hlt : i < j
    · have HDr := HD.out.below hH.out.1
      have rX := rangeAt_below' hXr.out hH.out.1
      rcases HDr.at_ with h0 | ⟨g, off, rfl, hr, hg⟩
      · omega
      · obtain ⟨m, hm⟩ : ∃ m, m = (i + j) / 2 := ⟨_, rfl⟩
        have hm1 : i ≤ m ∧ m < j := by omega
        have q0 := midZ_bits i j (by omega)
        rw [← hm] at q0
        obtain ⟨x, hx⟩ : ∃ x, l[m]? = some x := ⟨_, List.getElem?_eq_getElem (by have := HL.out; omega)⟩
        have r1 := rangeC_row hr HDr.each hx
        obtain ⟨CX, hCX⟩ : ∃ C, C = x.C := ⟨_, rfl⟩
        have HC1 : Seal (∀ W, Calls Tryd.prog 40 #[.agg CX.toArray, .agg CQ.toArray] W fun e w' => e = .returned (.int .i64 (cmpZ x.o q.o)) ∧ Below W.heap.size W w') := ⟨fun W => by rw [hCX]; exact HC.out x W⟩
        have i2 : (Tryd.prog.info? 31).map (·.size) = some CX.length := by rw [hCX]; exact Po.C_info (H32.out x (List.mem_of_getElem? hx))
        rw [← hCX] at r1
        have HX := Seal.mk hx
        have HM := Seal.mk hm
        have q5 : (m : Int) < (len : Int) := by omega
        clear hr HDr hx hm hCX
        go_wp2_with fail
        go_still_tail 6, (by kernel_rfl)
        refine wpStill_load_mid rfl 31 (.tmp 27) rfl g (off + m * 33) rfl CX _ r1 ut rfl i2 ?_
        refine wpStill_load_mid rfl 31 (.tmp 4) rfl w.heap.size 0 rfl CQ _ rX ut rfl iq ?_
        refine wpStill_nil ?_
        change wpList _ _ _ _ _ wr.drew
        go_wp2_with fail
        refine (HC1.out _).mono ?_
        rintro e w1 ⟨rfl, hb1⟩
        have HB1 : Seal (Below X.heap.size X w1) := ⟨hH.out.1.trans ((show Below wr.heap.size wr w1 from ⟨hb1.os, hb1.tape, hb1.output, hb1.size, hb1.block⟩).mono hH.out.1.size)⟩
        clear hb1 HC1 r1 rX q0
        obtain ⟨c, hc0⟩ : ∃ c, c = cmpZ x.o q.o := ⟨_, rfl⟩
        have HC2 := Seal.mk hc0
        rw [← hc0]
        clear hc0
        by_cases hc : c < 0
        · have HL1 : Seal (x.o < q.o) := ⟨cmpZ_neg.1 (by have := HC2.out; omega)⟩
          clear HC2
          go_wp2
          go_roundw
          case rel =>
            refine ⟨m + 1, j, by omega, hj, by go_num, rfl, ⟨HB1.out, fun t y ht hy => ?_, fun y hy => by have := hH.out.2.2 y hy; omega⟩⟩
            by_cases htm : t = m
            · subst htm
              rw [HX.out] at hy
              cases hy
              exact HL1.out
            · have := HU.out.lt (show t < m by omega) hy HX.out
              have := HL1.out
              omega
          case measure => simp [intOf]; omega
        · have HL1 : Seal (¬ x.o < q.o) := ⟨fun h => hc (by have := HC2.out; have := cmpZ_neg.2 h; omega)⟩
          clear HC2
          go_wp2
          go_roundw
          case rel => exact ⟨i, m, hm1.1, by omega, rfl, rfl, ⟨HB1.out, hH.out.2.1, fun y hy => by rw [HX.out] at hy; cases hy; have := HL1.out; omega⟩⟩
          case measure => simp [intOf]; omega
    · obtain rfl : i = j := by omega
      have HA : Seal (i = atK Po.o l q.o) := ⟨atK_unique (by rw [HL.out]; exact hj) hH.out.2.1 hH.out.2.2⟩
      have HBw : Seal (Below w.heap.size w wr) := ⟨hXb.out.trans (hH.out.1.mono hXb.out.size)⟩
      by_cases hil : i < len
      · have HDr := HD.out.below hH.out.1
        have rX := rangeAt_below' hXr.out hH.out.1
        rcases HDr.at_ with h0 | ⟨g, off, rfl, hr, hg⟩
        · omega
        · obtain ⟨x, hx⟩ : ∃ x, l[i]? = some x := ⟨_, List.getElem?_eq_getElem (by have := HL.out; omega)⟩
          have r1 := rangeC_row hr HDr.each hx
          obtain ⟨CX, hCX⟩ : ∃ C, C = x.C := ⟨_, rfl⟩
          have HC1 : Seal (∀ W, Calls Tryd.prog 40 #[.agg CX.toArray, .agg CQ.toArray] W fun e w' => e = .returned (.int .i64 (cmpZ x.o q.o)) ∧ Below W.heap.size W w') := ⟨fun W => by rw [hCX]; exact HC.out x W⟩
          have i2 : (Tryd.prog.info? 31).map (·.size) = some CX.length := by rw [hCX]; exact Po.C_info (H32.out x (List.mem_of_getElem? hx))
          rw [← hCX] at r1
          have HF : Seal ((cmpZ x.o q.o == 0) = hasK Po.o l q.o) := ⟨by
            rw [Bool.eq_iff_iff, hasK_at HU.out, ← HA.out, beq_iff_eq, cmpZ_zero]
            constructor
            · intro h; exact ⟨x, hx, h⟩
            · rintro ⟨y, hy, e⟩
              rw [hx] at hy
              cases hy
              exact e⟩
          have q5 : (i : Int) < (len : Int) := by omega
          clear hr HDr hx hlt hCX
          go_wp2_with fail
          refine wp_region_held_drew (S := fun w' => w'.rangeAt g (off + i * 33) CX ∧ w'.rangeAt w.heap.size 0 CQ) (by kernel_rfl) ⟨r1, rX⟩ (fun hHeld => ?_)
          refine take_h 0 ?_ rfl (by kernel_rfl) (by kernel_rfl) (by kernel_rfl) (fun _ _ _ h => h) (Or.inl ⟨by kernel_rfl, ?_⟩) (by assumption) ?_
          rotate_left
          · (intro w hSw; (try dsimp only at hSw); go_simp; try (with_reducible rfl))
          try simp only [Act.put, List.setIfInBounds_toArray, List.set_cons_zero, List.set_cons_succ]
          refine take_h 1 ?_ rfl (by kernel_rfl) (by kernel_rfl) (by kernel_rfl) (fun _ _ _ h => h) (Or.inl ⟨by kernel_rfl, ?_⟩) (by assumption) ?_
          rotate_left
          · (intro w hSw; (try dsimp only at hSw); go_simp; try (with_reducible rfl))
          try simp only [Act.put, List.setIfInBounds_toArray, List.set_cons_zero, List.set_cons_succ]
          refine take_h 2 ?_ rfl (by kernel_rfl) (by kernel_rfl) (by kernel_rfl) (fun _ _ _ h => h) (Or.inl ⟨by kernel_rfl, ?_⟩) (by assumption) ?_
          rotate_left
          · (intro w hSw; (try dsimp only at hSw); go_simp; try (with_reducible rfl))
          try simp only [Act.put, List.setIfInBounds_toArray, List.set_cons_zero, List.set_cons_succ]
          refine take_h 3 ?_ rfl (by kernel_rfl) (by kernel_rfl) (by kernel_rfl) (fun _ _ _ h => h) (Or.inl ⟨by kernel_rfl, ?_⟩) (by assumption) ?_
          rotate_left
          · (intro w hSw; (try dsimp only at hSw); go_simp; try (with_reducible rfl))
          try simp only [Act.put, List.setIfInBounds_toArray, List.set_cons_zero, List.set_cons_succ]
          refine take_h 4 ?_ rfl (by kernel_rfl) (by kernel_rfl) (by kernel_rfl) (fun _ _ _ h => h) (Or.inl ⟨by kernel_rfl, ?_⟩) (by assumption) ?_
          rotate_left
          · (intro w hSw; (try dsimp only at hSw); go_simp; try (with_reducible rfl))
          try simp only [Act.put, List.setIfInBounds_toArray, List.set_cons_zero, List.set_cons_succ]
          refine take_h 5 ?_ rfl (by kernel_rfl) (by kernel_rfl) (by kernel_rfl) (fun _ _ _ h => h) (Or.inl ⟨by kernel_rfl, ?_⟩) (by assumption) ?_
          rotate_left
          · (intro w hSw; (try dsimp only at hSw); go_simp; try (with_reducible rfl))
          try simp only [Act.put, List.setIfInBounds_toArray, List.set_cons_zero, List.set_cons_succ]
          refine take_h 6 ?_ rfl (by kernel_rfl) (by kernel_rfl) (by kernel_rfl) (fun _ _ _ h => h) (Or.inl ⟨by kernel_rfl, ?_⟩) (by assumption) ?_
          rotate_left
          · (intro w hSw; (try dsimp only at hSw); go_simp; try (with_reducible rfl))
          try simp only [Act.put, List.setIfInBounds_toArray, List.set_cons_zero, List.set_cons_succ]
          refine take_h 7 ?_ rfl (by kernel_rfl) (by kernel_rfl) (by kernel_rfl) (fun _ _ _ h => h) (Or.inl ⟨by kernel_rfl, ?_⟩) (by assumption) ?_
          rotate_left
          · (intro w hSw; (try dsimp only at hSw); go_simp; try (with_reducible rfl))
          try simp only [Act.put, List.setIfInBounds_toArray, List.set_cons_zero, List.set_cons_succ]
          refine take_h 8 ?_ rfl (by kernel_rfl) (by kernel_rfl) (by kernel_rfl) (fun _ _ _ h => h) (Or.inl ⟨by kernel_rfl, ?_⟩) (by assumption) ?_
          rotate_left
          · (intro w hSw; (try dsimp only at hSw); go_simp; try (with_reducible rfl))
          try simp only [Act.put, List.setIfInBounds_toArray, List.set_cons_zero, List.set_cons_succ]
          refine take_h 9 _ rfl (by kernel_rfl) (by kernel_rfl) (by kernel_rfl) (fun _ _ _ h => h) (yieldsIf_load_mid (by kernel_rfl) 31 (.tmp 43) rfl g (off + i * 33) rfl CX _ (fun w hSw => hSw.1) ut rfl i2) (by assumption) ?_
          try simp only [Act.put, List.setIfInBounds_toArray, List.set_cons_zero, List.set_cons_succ]
          refine take_h 10 _ rfl (by kernel_rfl) (by kernel_rfl) (by kernel_rfl) (fun _ _ _ h => h) (yieldsIf_load_mid (by kernel_rfl) 31 (.tmp 4) rfl w.heap.size 0 rfl CQ _ (fun w hSw => hSw.2) ut rfl iq) (by assumption) ?_
          try simp only [Act.put, List.setIfInBounds_toArray, List.set_cons_zero, List.set_cons_succ]
          refine call_h 11 rfl (by kernel_rfl) 40 #[.agg CX.toArray, .agg CQ.toArray] (by kernel_rfl) (by go_simp) ?_
          refine (HC1.out _).mono ?_
          rintro e w1 ⟨rfl, hb1⟩
          refine ⟨_, rfl, ⟨rangeAt_below' hHeld.1 hb1, rangeAt_below' hHeld.2 hb1⟩, fun hHeld2 => ?_⟩
          try simp only [Act.put, List.setIfInBounds_toArray, List.set_cons_zero, List.set_cons_succ]
          have HB1 : Seal (Below w.heap.size w w1) := ⟨HBw.out.trans ((show Below wr.heap.size wr w1 from ⟨hb1.os, hb1.tape, hb1.output, hb1.size, hb1.block⟩).mono HBw.out.size)⟩
          obtain ⟨c, hc0⟩ : ∃ c, c = cmpZ x.o q.o := ⟨_, rfl⟩
          rw [← hc0] at HF ⊢
          clear hb1 hHeld hc0
          refine take_h 12 ?_ rfl (by kernel_rfl) (by kernel_rfl) (by kernel_rfl) (fun _ _ _ h => h) (Or.inl ⟨by kernel_rfl, ?_⟩) (by assumption) ?_
          rotate_left
          · (intro w hSw; (try dsimp only at hSw); go_simp; try (with_reducible rfl))
          try simp only [Act.put, List.setIfInBounds_toArray, List.set_cons_zero, List.set_cons_succ]
          refine take_h 13 ?_ rfl (by kernel_rfl) (by kernel_rfl) (by kernel_rfl) (fun _ _ _ h => h) (Or.inl ⟨by kernel_rfl, ?_⟩) (by assumption) ?_
          rotate_left
          · (intro w hSw; (try dsimp only at hSw); go_simp; try (with_reducible rfl))
          try simp only [Act.put, List.setIfInBounds_toArray, List.set_cons_zero, List.set_cons_succ]
          refine take_h 14 ?_ rfl (by kernel_rfl) (by kernel_rfl) (by kernel_rfl) (fun _ _ _ h => h) (Or.inl ⟨by kernel_rfl, ?_⟩) (by assumption) ?_
          rotate_left
          · (intro w hSw; (try dsimp only at hSw); go_simp; try (with_reducible rfl))
          try simp only [Act.put, List.setIfInBounds_toArray, List.set_cons_zero, List.set_cons_succ]
          refine take_h 15 ?_ rfl (by kernel_rfl) (by kernel_rfl) (by kernel_rfl) (fun _ _ _ h => h) (Or.inl ⟨by kernel_rfl, ?_⟩) (by assumption) ?_
          rotate_left
          · (intro w hSw; (try dsimp only at hSw); go_simp; try (with_reducible rfl))
          try simp only [Act.put, List.setIfInBounds_toArray, List.set_cons_zero, List.set_cons_succ]
          refine wpAnyH_done (by kernel_rfl) ?_ _
          clear hHeld2
          go_wp2
          go_ret2
          exact ⟨by rw [← HA.out, ← HF.out]; rfl, HB1.out⟩
      · have HF : Seal (hasK Po.o l q.o = false) := ⟨by
          cases h : hasK Po.o l q.o with
          | false => rfl
          | true =>
            obtain ⟨x, hx, _⟩ := (hasK_at HU.out).1 h
            rw [← HA.out] at hx
            have := (List.getElem?_eq_some_iff.1 hx).1
            have := HL.out
            omega⟩
        have q5 : ¬ (i : Int) < (len : Int) := by omega
        have q6 : decide ((i : Int) < (len : Int)) = false := decide_eq_false q5
        clear hH hlt
        go_wp2_with fail
        go_quiet (fail)
        go_wp2
        go_ret2
        exact ⟨by rw [← HA.out, HF.out]; rfl, ⟨HBw.out.os, HBw.out.tape, HBw.out.output, HBw.out.size, HBw.out.block⟩⟩

set_option maxHeartbeats 2000000 in
theorem dsearchI_any (a : Option Addr) (len cap : Nat) (l : List Int) (n : Int) (w : World) (hd : IsIs w a len cap l) (hu : RisK idI l) :
    Calls Tryd.prog 55 #[.slice a len cap, .int .i64 n] w fun e w' => e = .returned (.tuple #[.int .i64 (atK idI l n : Nat), .bool (hasK idI l n)]) ∧ Below w.heap.size w w' := by
  have HL := Seal.mk hd.llen
  have hlm := hd.lmax
  have HU := Seal.mk hu
  have HD := Seal.mk hd
  clear hd hu
  go_enter Tryd.func55, Tryd.ntmps55
  go_wp2
  go_loopw [7, 8] (fun lo hi wr => ∃ i j : Nat, i ≤ j ∧ j ≤ len ∧ lo = .int .i64 i ∧ hi = .int .i64 j ∧ Seal (Below w.heap.size w wr ∧ (∀ t x, t < i → l[t]? = some x → x < n) ∧ (∀ x, l[j]? = some x → ¬ x < n))) (fun lo hi _ => (intOf hi - intOf lo).toNat)
  case atStart => exact ⟨0, len, by omega, by omega, rfl, rfl, ⟨Below.refl _ _, fun t x ht => by omega, fun x hx => by have := (List.getElem?_eq_some_iff.1 hx).1; have := HL.out; omega⟩⟩
  case round =>
    obtain ⟨i, j, hij, hj, rfl, rfl, hH⟩ := hrel
    by_cases hlt : i < j
    · have HDr := HD.out.below hH.out.1
      rcases HDr.at_ with h0 | ⟨g, off, rfl, hr, hg⟩
      · omega
      · obtain ⟨m, hm⟩ : ∃ m, m = (i + j) / 2 := ⟨_, rfl⟩
        have hm1 : i ≤ m ∧ m < j := by omega
        have q0 := midZ_bits i j (by omega)
        rw [← hm] at q0
        obtain ⟨x, hx⟩ : ∃ x, l[m]? = some x := ⟨_, List.getElem?_eq_getElem (by have := HL.out; omega)⟩
        have c1 : wr.cell? ⟨g, off + m, none⟩ = some (.int .i64 x) := by have := rangeC_row hr HDr.each hx 0 (.int .i64 x) rfl; simpa using this
        have HX := Seal.mk hx
        have HM := Seal.mk hm
        have q5 : (m : Int) < (len : Int) := by omega
        have q6 : (0 : Int) ≤ (m : Int) := by omega
        clear hr HDr hx hm
        go_wp2_with fail
        refine (dless_any x n _).mono ?_
        rintro e w1 ⟨rfl, rfl⟩
        clear c1 q0
        by_cases hc : x < n
        · have HL1 := Seal.mk hc
          rw [decide_eq_true hc]
          clear hc
          go_wp2
          go_roundw
          case rel =>
            refine ⟨m + 1, j, by omega, hj, by go_num, rfl, ⟨hH.out.1, fun t y ht hy => ?_, fun y hy => by have := hH.out.2.2 y hy; omega⟩⟩
            by_cases htm : t = m
            · subst htm
              rw [HX.out] at hy
              cases hy
              exact HL1.out
            · have : y < x := HU.out.lt (show t < m by omega) hy HX.out
              have := HL1.out
              omega
          case measure => simp [intOf]; omega
        · have HL1 := Seal.mk hc
          rw [decide_eq_false hc]
          clear hc
          go_wp2
          go_roundw
          case rel => exact ⟨i, m, hm1.1, by omega, rfl, rfl, ⟨hH.out.1, hH.out.2.1, fun y hy => by rw [HX.out] at hy; cases hy; have := HL1.out; omega⟩⟩
          case measure => simp [intOf]; omega
    · obtain rfl : i = j := by omega
      have HA : Seal (i = atK idI l n) := ⟨atK_unique (by rw [HL.out]; exact hj) hH.out.2.1 hH.out.2.2⟩
      have HB := Seal.mk hH.out.1
      by_cases hil : i < len
      · have HDr := HD.out.below hH.out.1
        rcases HDr.at_ with h0 | ⟨g, off, rfl, hr, hg⟩
        · omega
        · obtain ⟨x, hx⟩ : ∃ x, l[i]? = some x := ⟨_, List.getElem?_eq_getElem (by have := HL.out; omega)⟩
          have c1 : wr.cell? ⟨g, off + i, none⟩ = some (.int .i64 x) := by have := rangeC_row hr HDr.each hx 0 (.int .i64 x) rfl; simpa using this
          have q5 : (i : Int) < (len : Int) := by omega
          have q6 : (0 : Int) ≤ (i : Int) := by omega
          have HF : Seal (hasK idI l n = decide (x = n)) := ⟨by
            rw [Bool.eq_iff_iff, hasK_at HU.out, ← HA.out, decide_eq_true_eq]
            constructor
            · rintro ⟨y, hy, e⟩
              rw [hx] at hy
              cases hy
              exact e
            · intro h; exact ⟨x, hx, h⟩⟩
          clear hr HDr hx hlt hH
          by_cases hxn : x = n
          · subst hxn
            go_wp2_with (first | (go_at_call 82; refine (disnan2_any _ _).mono ?_; rintro e w' ⟨rfl, rfl⟩))
            go_ret2
            exact ⟨by rw [← HA.out, HF.out]; simp, HB.out⟩
          · have z1 : (x == n) = false := by simp [hxn]
            go_wp2_with (first | (go_at_call 82; refine (disnan2_any _ _).mono ?_; rintro e w' ⟨rfl, rfl⟩))
            go_ret2
            exact ⟨by rw [← HA.out, HF.out]; simp [hxn], HB.out⟩
      · have HF : Seal (hasK idI l n = false) := ⟨by
          cases h : hasK idI l n with
          | false => rfl
          | true =>
            obtain ⟨x, hx, _⟩ := (hasK_at HU.out).1 h
            rw [← HA.out] at hx
            have := (List.getElem?_eq_some_iff.1 hx).1
            have := HL.out
            omega⟩
        have q5 : ¬ (i : Int) < (len : Int) := by omega
        clear hH hlt
        go_wp2
        go_ret2
        exact ⟨by rw [← HA.out, HF.out]; rfl, HB.out⟩
end Frk
