/- Law 44: postings and numbers compared, lists of them that rise, their search. -/
import Derived.Test.YtnpnboldjbljaaaDoorVfgDpa
namespace Frk
open Go Go.RowKit Go.Proofs
set_option maxRecDepth 100000

theorem disnan_any (x : Int) (w : World) : Calls Tryd.prog 68 #[.int .i64 x] w fun e w' => e = .returned (.bool false) ∧ w = w' := by
  go_enter Tryd.func68, Tryd.ntmps68
  go_wp2
  go_ret
  exact ⟨ret_bool (by simp), rfl⟩
theorem disnan2_any (x : Int) (w : World) : Calls Tryd.prog 82 #[.int .i64 x] w fun e w' => e = .returned (.bool false) ∧ w = w' := by
  go_enter Tryd.func82, Tryd.ntmps82
  go_wp2
  go_ret
  exact ⟨ret_bool (by simp), rfl⟩
def cmpZ (x y : Int) : Int := if x < y then -1 else if x > y then 1 else 0
theorem cmpZ_neg {x y : Int} : cmpZ x y < 0 ↔ x < y := by
  unfold cmpZ
  split
  · simp; assumption
  · split
    · simp; omega
    · simp; omega
theorem cmpZ_zero {x y : Int} : cmpZ x y = 0 ↔ x = y := by
  unfold cmpZ
  split
  · simp; omega
  · split
    · simp; omega
    · simp; omega
theorem dcmp_any (x y : Int) (w : World) : Calls Tryd.prog 42 #[.int .i64 x, .int .i64 y] w fun e w' => e = .returned (.int .i64 (cmpZ x y)) ∧ w = w' := by
  rcases Int.lt_trichotomy x y with h | h | h
  · have e : cmpZ x y = -1 := by unfold cmpZ; rw [if_pos h]
    rw [e]
    clear e
    go_enter Tryd.func42, Tryd.ntmps42
    go_wp2_with (first | (go_at_call 68; refine (disnan_any _ _).mono ?_; rintro e w' ⟨rfl, rfl⟩))
    go_ret
    exact ⟨rfl, rfl⟩
  · have e : cmpZ x y = 0 := by unfold cmpZ; rw [if_neg (by omega), if_neg (by omega)]
    rw [e]
    have h1 : ¬ x < y := by omega
    have h2 : ¬ y < x := by omega
    clear e h
    go_enter Tryd.func42, Tryd.ntmps42
    go_wp2_with (first | (go_at_call 68; refine (disnan_any _ _).mono ?_; rintro e w' ⟨rfl, rfl⟩))
    go_ret
    exact ⟨rfl, rfl⟩
  · have e : cmpZ x y = 1 := by unfold cmpZ; rw [if_neg (by omega), if_pos h]
    rw [e]
    have h1 : ¬ x < y := by omega
    clear e
    go_enter Tryd.func42, Tryd.ntmps42
    go_wp2_with (first | (go_at_call 68; refine (disnan_any _ _).mono ?_; rintro e w' ⟨rfl, rfl⟩))
    go_ret
    exact ⟨rfl, rfl⟩
theorem dless_any (x y : Int) (w : World) : Calls Tryd.prog 81 #[.int .i64 x, .int .i64 y] w fun e w' => e = .returned (.bool (decide (x < y))) ∧ w = w' := by
  go_enter Tryd.func81, Tryd.ntmps81
  go_wp2_with (first | (go_at_call 68; refine (disnan_any _ _).mono ?_; rintro e w' ⟨rfl, rfl⟩))
  go_ret
  exact ⟨rfl, rfl⟩

theorem Po.C_info {q : Po} (h : q.S.length = 32) : (Tryd.prog.info? 31).map (·.size) = some q.C.length := by rw [Po.C_len h]; kernel_rfl

theorem byOrder_any (x y : Po) (w : World) : Calls Tryd.prog 40 #[.agg x.C.toArray, .agg y.C.toArray] w fun e w' => e = .returned (.int .i64 (cmpZ x.o y.o)) ∧ Below w.heap.size w w' := by
  obtain ⟨CA, hCA⟩ : ∃ C, C = x.C := ⟨_, rfl⟩
  obtain ⟨CB, hCB⟩ : ∃ C, C = y.C := ⟨_, rfl⟩
  obtain ⟨a, ha⟩ : ∃ a, a = x.o := ⟨_, rfl⟩
  obtain ⟨b, hb⟩ : ∃ a, a = y.o := ⟨_, rfl⟩
  obtain ⟨X, hX⟩ : ∃ X : World, X = (w.alloc (.cells CA.toArray 31)).alloc (.cells CB.toArray 31) := ⟨_, rfl⟩
  have HB : Seal (Below w.heap.size w X) := ⟨by rw [hX]; exact ((Below.refl _ w).alloc (Nat.le_refl _) _).alloc (by simp) _⟩
  have cA : X.cell? ⟨w.heap.size, 0, none⟩ = some (.int .i64 a) := by
    rw [hX, cell_of_row _ _ _ _ _ _ (heap_alloc2_old w _ _), hCA, ha]; rfl
  have cB : X.cell? ⟨w.heap.size + 1, 0, none⟩ = some (.int .i64 b) := by
    rw [hX, cell_of_row _ _ _ _ _ _ (heap_alloc2_new w _ _), hCB, hb]; rfl
  rw [← hCA, ← hCB, ← ha, ← hb]
  clear hCA hCB ha hb
  go_enter Tryd.func40, Tryd.ntmps40
  go_upto_region 1 with (fail)
  rw [← hX]
  clear hX
  go_wp2_with fail
  refine (dcmp_any a b _).mono ?_
  rintro e w1 ⟨rfl, rfl⟩
  go_wp2
  go_ret
  exact ⟨rfl, HB.out⟩

theorem wrong_any (x : Po) (w : World) : Calls Tryd.prog 37 #[.agg x.C.toArray] w fun e w' => e = .returned (.bool (!okP x)) ∧ Below w.heap.size w w' := by
  obtain ⟨CA, hCA⟩ : ∃ C, C = x.C := ⟨_, rfl⟩
  obtain ⟨a, ha⟩ : ∃ a, a = x.o := ⟨_, rfl⟩
  obtain ⟨X, hX⟩ : ∃ X : World, X = w.alloc (.cells CA.toArray 31) := ⟨_, rfl⟩
  have HB : Seal (Below w.heap.size w X) := ⟨by rw [hX]; exact below_alloc _ _⟩
  have cA : X.cell? ⟨w.heap.size, 0, none⟩ = some (.int .i64 a) := by
    rw [hX, cell_of_row _ _ _ _ _ _ (heap_alloc_new w _), hCA, ha]; rfl
  unfold okP
  rw [← hCA, ← ha]
  clear hCA ha
  by_cases h0 : 0 ≤ a
  · have q0 : ¬ a < 0 := by omega
    by_cases h1 : a ≤ 1048576
    · have q1 : ¬ 1048576 < a := by omega
      rw [decide_eq_true h0, decide_eq_true h1]
      clear h0 h1
      go_enter Tryd.func37, Tryd.ntmps37
      go_upto_region 1 with (fail)
      rw [← hX]
      clear hX
      go_wp2
      go_ret
      exact ⟨rfl, HB.out⟩
    · have q1 : 1048576 < a := by omega
      rw [decide_eq_true h0, decide_eq_false h1]
      clear h0 h1
      go_enter Tryd.func37, Tryd.ntmps37
      go_upto_region 1 with (fail)
      rw [← hX]
      clear hX
      go_wp2
      go_ret
      exact ⟨rfl, HB.out⟩
  · have q0 : a < 0 := by omega
    rw [decide_eq_false h0]
    clear h0
    go_enter Tryd.func37, Tryd.ntmps37
    go_upto_region 1 with (fail)
    rw [← hX]
    clear hX
    go_wp2
    go_ret
    exact ⟨rfl, HB.out⟩

set_option maxHeartbeats 2000000 in
theorem drisI_any (a : Option Addr) (len cap : Nat) (l : List Int) (w : World) (hd : IsIs w a len cap l) :
    Calls Tryd.prog 41 #[.slice a len cap, .func (.func 42) #[] #[]] w fun e w' => e = .returned (.bool (risB idI l)) ∧ Below w.heap.size w w' := by
  have HD := Seal.mk hd
  have hll := hd.llen
  have hlm := hd.lmax
  clear hd
  go_enter Tryd.func41, Tryd.ntmps41
  go_wp2
  go_loopw [5] (fun i wr => ∃ k : Nat, 1 ≤ k ∧ (k ≤ len ∨ k = 1) ∧ i = .int .i64 k ∧ Seal (Below w.heap.size w wr ∧ ∀ (j : Nat) (x y : Int), j + 1 < k → l[j]? = some x → l[j + 1]? = some y → x < y)) (fun i _ => len - (intOf i).toNat)
  case atStart => exact ⟨1, by omega, .inr rfl, rfl, ⟨Below.refl _ _, fun j x y hj => by omega⟩⟩
  case round =>
    obtain ⟨k, hk1, hk, rfl, hH⟩ := hrel
    by_cases hlt : k < len
    · have HDr := HD.out.below hH.out.1
      rcases HDr.at_ with h0 | ⟨g, off, rfl, hr, hg⟩
      · omega
      · obtain ⟨x, hx⟩ : ∃ x, l[k - 1]? = some x := ⟨_, List.getElem?_eq_getElem (by omega)⟩
        obtain ⟨y, hy⟩ : ∃ y, l[k]? = some y := ⟨_, List.getElem?_eq_getElem (by omega)⟩
        have r1 := rangeC_row hr HDr.each hx
        have r2 := rangeC_row hr HDr.each hy
        have c1 : wr.cell? ⟨g, off + (k - 1), none⟩ = some (.int .i64 x) := by have := r1 0 (.int .i64 x) rfl; simpa using this
        have c2 : wr.cell? ⟨g, off + k, none⟩ = some (.int .i64 y) := by have := r2 0 (.int .i64 y) rfl; simpa using this
        clear r1 r2
        have q1 : IntKind.i64.wrap ((k : Int) - 1) = k - 1 := IntWalk.i64_in _ (by omega)
        have q2 : ((k : Int) - 1).toNat = k - 1 := by omega
        have q3 : 0 ≤ (k : Int) - 1 := by omega
        have q4 : (k : Int) - 1 < (len : Int) := by omega
        have q5 : (k : Int) < (len : Int) := by omega
        have q6 : 1 ≤ (k : Int) := by omega
        have HX := Seal.mk hx
        have HY := Seal.mk hy
        clear hr HDr hll hx hy
        go_wp2_with fail
        go_still_tail 10, (by kernel_rfl)
        change wpList _ _ _ _ _ wr.drew
        go_wp2_with fail
        refine (dcmp_any x y _).mono ?_
        rintro e w1 ⟨rfl, rfl⟩
        have HB1 : Seal (Below w.heap.size w wr.drew) := ⟨hH.out.1.trans ((show Below wr.heap.size wr wr.drew from ⟨rfl, rfl, rfl, Nat.le_refl _, fun _ _ => rfl⟩).mono hH.out.1.size)⟩
        clear q1 q2 q3 q4 c1 c2
        obtain ⟨c, hc⟩ : ∃ c, c = cmpZ x y := ⟨_, rfl⟩
        have HC2 := Seal.mk hc
        rw [← hc]
        clear hc
        by_cases hc : 0 ≤ c
        · have HN : Seal (risB idI l = false) := ⟨by
            cases hu : risB idI l with
            | false => rfl
            | true =>
              have h1 := risB_steps.1 hu (k - 1) x y HX.out (by rw [show k - 1 + 1 = k from by omega]; exact HY.out)
              have h2 : cmpZ x y < 0 := cmpZ_neg.2 h1
              have := HC2.out
              omega⟩
          clear HC2
          go_wp2
          go_ret
          exact ⟨ret_bool HN.out.symm, HB1.out⟩
        · have HL : Seal (x < y) := ⟨cmpZ_neg.1 (by have := HC2.out; omega)⟩
          clear HC2
          go_wp2
          go_roundw
          case rel =>
            refine ⟨k + 1, by omega, .inl hlt, by go_num, ⟨HB1.out, fun j x' y' hj hx' hy' => ?_⟩⟩
            by_cases hjk : j + 1 < k
            · exact hH.out.2 j x' y' hjk hx' hy'
            · obtain rfl : j = k - 1 := by omega
              rw [show k - 1 + 1 = k from by omega, HY.out] at hy'
              rw [HX.out] at hx'
              cases hx'
              cases hy'
              exact HL.out
          case measure => simp [intOf]; omega
    · have HN : Seal (risB idI l = true) := ⟨risB_steps.2 fun j x y hx hy => hH.out.2 j x y (by have h1 := (List.getElem?_eq_some_iff.1 hy).1; omega) hx hy⟩
      have HB1 := Seal.mk hH.out.1
      have q5 : ¬ (k : Int) < (len : Int) := by omega
      clear hH
      go_wp2
      go_ret
      exact ⟨ret_bool HN.out.symm, HB1.out⟩

set_option maxHeartbeats 2000000 in
theorem drisP_any (a : Option Addr) (len cap : Nat) (l : List Po) (w : World) (hd : IsPs w a len cap l) (h32 : ∀ x ∈ l, x.S.length = 32) :
    Calls Tryd.prog 39 #[.slice a len cap, .func (.func 40) #[] #[]] w fun e w' => e = .returned (.bool (risB Po.o l)) ∧ Below w.heap.size w w' := by
  have HD := Seal.mk hd
  have hll := hd.llen
  have hlm := hd.lmax
  have H32 := Seal.mk h32
  clear h32
  clear hd
  go_enter Tryd.func39, Tryd.ntmps39
  go_wp2
  go_loopw [5] (fun i wr => ∃ k : Nat, 1 ≤ k ∧ (k ≤ len ∨ k = 1) ∧ i = .int .i64 k ∧ Seal (Below w.heap.size w wr ∧ ∀ (j : Nat) (x y : Po), j + 1 < k → l[j]? = some x → l[j + 1]? = some y → x.o < y.o)) (fun i _ => len - (intOf i).toNat)
  case atStart => exact ⟨1, by omega, .inr rfl, rfl, ⟨Below.refl _ _, fun j x y hj => by omega⟩⟩
  case round =>
    obtain ⟨k, hk1, hk, rfl, hH⟩ := hrel
    by_cases hlt : k < len
    · have HDr := HD.out.below hH.out.1
      rcases HDr.at_ with h0 | ⟨g, off, rfl, hr, hg⟩
      · omega
      · obtain ⟨x, hx⟩ : ∃ x, l[k - 1]? = some x := ⟨_, List.getElem?_eq_getElem (by omega)⟩
        obtain ⟨y, hy⟩ : ∃ y, l[k]? = some y := ⟨_, List.getElem?_eq_getElem (by omega)⟩
        have r1 := rangeC_row hr HDr.each hx
        have r2 := rangeC_row hr HDr.each hy
        have x32 := H32.out x (List.mem_of_getElem? hx)
        have y32 := H32.out y (List.mem_of_getElem? hy)
        obtain ⟨CX, hCX⟩ : ∃ C, C = x.C := ⟨_, rfl⟩
        obtain ⟨CY, hCY⟩ : ∃ C, C = y.C := ⟨_, rfl⟩
        have HC : Seal (∀ W, Calls Tryd.prog 40 #[.agg CX.toArray, .agg CY.toArray] W fun e w' => e = .returned (.int .i64 (cmpZ x.o y.o)) ∧ Below W.heap.size W w') := ⟨fun W => by rw [hCX, hCY]; exact byOrder_any x y W⟩
        have i1 : (Tryd.prog.info? 31).map (·.size) = some CX.length := by rw [hCX]; exact Po.C_info x32
        have i2 : (Tryd.prog.info? 31).map (·.size) = some CY.length := by rw [hCY]; exact Po.C_info y32
        rw [← hCX] at r1
        rw [← hCY] at r2
        have ut := Tryd.underlying31
        clear hCX hCY x32 y32
        have q1 : IntKind.i64.wrap ((k : Int) - 1) = k - 1 := IntWalk.i64_in _ (by omega)
        have q2 : ((k : Int) - 1).toNat = k - 1 := by omega
        have q3 : 0 ≤ (k : Int) - 1 := by omega
        have q4 : (k : Int) - 1 < (len : Int) := by omega
        have q5 : (k : Int) < (len : Int) := by omega
        have q6 : 1 ≤ (k : Int) := by omega
        have HX := Seal.mk hx
        have HY := Seal.mk hy
        clear hr HDr hll hx hy
        go_wp2_with fail
        go_still_tail 10, (by kernel_rfl)
        refine wpStill_load_mid rfl 31 (.tmp 16) rfl g (off + (k - 1) * 33) rfl CX _ r1 ut rfl i1 ?_
        repeat still_step
        refine wpStill_load_mid rfl 31 (.tmp 20) rfl g (off + k * 33) rfl CY _ r2 ut rfl i2 ?_
        refine wpStill_nil ?_
        change wpList _ _ _ _ _ wr.drew
        go_wp2_with fail
        refine (HC.out _).mono ?_
        rintro e w1 ⟨rfl, hb1⟩
        have HB1 : Seal (Below w.heap.size w w1) := ⟨hH.out.1.trans ((show Below wr.heap.size wr w1 from ⟨hb1.os, hb1.tape, hb1.output, hb1.size, hb1.block⟩).mono hH.out.1.size)⟩
        clear hb1
        clear q1 q2 q3 q4 i1 i2 ut r1 r2 HC
        obtain ⟨c, hc⟩ : ∃ c, c = cmpZ x.o y.o := ⟨_, rfl⟩
        have HC2 := Seal.mk hc
        rw [← hc]
        clear hc
        by_cases hc : 0 ≤ c
        · have HN : Seal (risB Po.o l = false) := ⟨by
            cases hu : risB Po.o l with
            | false => rfl
            | true =>
              have h1 := risB_steps.1 hu (k - 1) x y HX.out (by rw [show k - 1 + 1 = k from by omega]; exact HY.out)
              have h2 : cmpZ x.o y.o < 0 := cmpZ_neg.2 h1
              have := HC2.out
              omega⟩
          clear HC2
          go_wp2
          go_ret
          exact ⟨ret_bool HN.out.symm, HB1.out⟩
        · have HL : Seal (x.o < y.o) := ⟨cmpZ_neg.1 (by have := HC2.out; omega)⟩
          clear HC2
          go_wp2
          go_roundw
          case rel =>
            refine ⟨k + 1, by omega, .inl hlt, by go_num, ⟨HB1.out, fun j x' y' hj hx' hy' => ?_⟩⟩
            by_cases hjk : j + 1 < k
            · exact hH.out.2 j x' y' hjk hx' hy'
            · obtain rfl : j = k - 1 := by omega
              rw [show k - 1 + 1 = k from by omega, HY.out] at hy'
              rw [HX.out] at hx'
              cases hx'
              cases hy'
              exact HL.out
          case measure => simp [intOf]; omega
    · have HN : Seal (risB Po.o l = true) := ⟨risB_steps.2 fun j x y hx hy => hH.out.2 j x y (by have h1 := (List.getElem?_eq_some_iff.1 hy).1; omega) hx hy⟩
      have HB1 := Seal.mk hH.out.1
      have q5 : ¬ (k : Int) < (len : Int) := by omega
      clear hH
      go_wp2
      go_ret
      exact ⟨ret_bool HN.out.symm, HB1.out⟩

set_option maxHeartbeats 2000000 in
theorem dindex_any (a : Option Addr) (len cap : Nat) (l : List Po) (w : World) (hd : IsPs w a len cap l) (h32 : ∀ x ∈ l, x.S.length = 32) :
    Calls Tryd.prog 67 #[.slice a len cap, .func (.func 37) #[] #[]] w fun e w' => ∃ i : Int, e = .returned (.int .i64 i) ∧ Seal (decide (0 ≤ i) = !l.all okP) ∧ Below w.heap.size w w' := by
  have HD := Seal.mk hd
  have H32 := Seal.mk h32
  have hll := hd.llen
  have hlm := hd.lmax
  clear hd h32
  go_enter Tryd.func67, Tryd.ntmps67
  go_wp2
  go_loopw [8] (fun i wr => ∃ k : Nat, k ≤ len ∧ i = .int .i64 k ∧ Seal (Below w.heap.size w wr ∧ ∀ (j : Nat) (x : Po), j < k → l[j]? = some x → okP x = true)) (fun i _ => len - (intOf i).toNat)
  case atStart => exact ⟨0, by omega, rfl, ⟨Below.refl _ _, fun j x hj => by omega⟩⟩
  case round =>
    obtain ⟨k, hk, rfl, hH⟩ := hrel
    by_cases hlt : k < len
    · have HDr := HD.out.below hH.out.1
      rcases HDr.at_ with h0 | ⟨g, off, rfl, hr, hg⟩
      · omega
      · obtain ⟨x, hx⟩ : ∃ x, l[k]? = some x := ⟨_, List.getElem?_eq_getElem (by omega)⟩
        have r1 := rangeC_row hr HDr.each hx
        have x32 := H32.out x (List.mem_of_getElem? hx)
        obtain ⟨CX, hCX⟩ : ∃ C, C = x.C := ⟨_, rfl⟩
        obtain ⟨b, hb⟩ : ∃ b, b = okP x := ⟨_, rfl⟩
        have HC : Seal (∀ W, Calls Tryd.prog 37 #[.agg CX.toArray] W fun e w' => e = .returned (.bool (!b)) ∧ Below W.heap.size W w') := ⟨fun W => by rw [hCX, hb]; exact wrong_any x W⟩
        have i1 : (Tryd.prog.info? 31).map (·.size) = some CX.length := by rw [hCX]; exact Po.C_info x32
        rw [← hCX] at r1
        have ut := Tryd.underlying31
        have q5 : (k : Int) < (len : Int) := by omega
        have q6 : (0 : Int) ≤ (k : Int) := by omega
        have HX := Seal.mk hx
        have HBb := Seal.mk hb
        clear hr HDr hx hCX x32 hb
        go_wp2_with (first
          | (refine wpList_load_mid rfl 31 (.tmp 14) rfl g (off + k * 33) rfl CX _ r1 ut rfl i1 ?_; (try simp only [Act.put, List.setIfInBounds_toArray, List.set_cons_zero, List.set_cons_succ]))
          | refine (HC.out _).mono ?_)
        rintro e w1 ⟨rfl, hb1⟩
        have HB1 := Seal.mk (hH.out.1.trans (hb1.mono hH.out.1.size))
        clear hb1 HC r1 i1 ut
        cases b with
        | false =>
          have HN : Seal (l.all okP = false) := ⟨List.all_eq_false.2 ⟨x, List.mem_of_getElem? HX.out, by rw [← HBb.out]; simp⟩⟩
          go_wp2
          go_ret
          exact ⟨_, rfl, ⟨by rw [HN.out]; simp⟩, HB1.out⟩
        | true =>
          go_wp2
          go_roundw
          case rel =>
            refine ⟨k + 1, by omega, by go_num, ⟨HB1.out, fun j y hj hy => ?_⟩⟩
            by_cases hjk : j < k
            · exact hH.out.2 j y hjk hy
            · obtain rfl : j = k := by omega
              rw [HX.out] at hy
              cases hy
              exact HBb.out.symm
          case measure => simp [intOf]; omega
    · have HN : Seal (l.all okP = true) := ⟨List.all_eq_true.2 fun x hx => by
        obtain ⟨j, hj⟩ := List.mem_iff_getElem?.1 hx
        exact hH.out.2 j x (by have := (List.getElem?_eq_some_iff.1 hj).1; omega) hj⟩
      have HB1 := Seal.mk hH.out.1
      have q5 : ¬ (k : Int) < (len : Int) := by omega
      clear hH
      go_wp2
      go_ret
      exact ⟨_, rfl, ⟨by rw [HN.out]; simp⟩, HB1.out⟩
theorem dcontains_any (a : Option Addr) (len cap : Nat) (l : List Po) (w : World) (hd : IsPs w a len cap l) (h32 : ∀ x ∈ l, x.S.length = 32) :
    Calls Tryd.prog 38 #[.slice a len cap, .func (.func 37) #[] #[]] w fun e w' => e = .returned (.bool (!l.all okP)) ∧ Below w.heap.size w w' := by
  have HI := Seal.mk (dindex_any a len cap l w hd h32)
  clear hd h32
  go_enter Tryd.func38, Tryd.ntmps38
  go_wp2_with fail
  refine HI.out.mono ?_
  rintro e w1 ⟨i, rfl, hi, hb⟩
  have HB := Seal.mk hb
  clear hb HI
  go_wp2
  go_ret
  exact ⟨ret_bool hi.out, HB.out⟩

end Frk
