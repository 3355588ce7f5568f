/- receipts: word, all, the text of a letter, Check; the reference's. -/
import Derived.Test.YtgdhjapnploaoaaDoorOtg
import Derived.Test.YtgdhjapnploaoaaDoorEnv
import Derived.Test.YtgdhjapnploaoaaDoorRsg
import Derived.Test.YtgdhjapnploaoaaDoorRus
import Derived.WalkSpells
import Derived.Test.YtgdhjapnploaoaaDoorVer
import Derived.Test.YtgdhjapnploaoaaDoorLawA
import Derived.Test.YtgdhjapnploaoaaDoorEal
namespace Frk
open Go Go.RowKit Go.Proofs
set_option maxRecDepth 100000


set_option maxHeartbeats 1000000 in
theorem rclist_any (g off k cap : Nat) (ns : List Int) (w : World) (hk : ns.length = k) (hkc : k ≤ cap) (hk0 : 0 < k) (hk9 : k ≤ 1000) (hc : ∀ j n, ns[j]? = some n → w.cell? ⟨g, off + j, none⟩ = some (.int .i64 n)) (hok : ∀ n ∈ ns, -9223372036854775808 ≤ n ∧ n ≤ 9223372036854775807) :
    Calls Tryd.prog 61 #[.slice (some ⟨g, off, none⟩) k cap] w (ListPost (encL (lfs ns)) w) := by
  have HK := Seal.mk hk
  have HC := Seal.mk hc
  have HO := Seal.mk hok
  have HKx : Seal ((ns.map Arg.i).length = k) := ⟨by rw [List.length_map]; exact hk⟩
  obtain ⟨i0, hi, hz0, hz1, hz2⟩ := info_parts info_val
  have HI := Seal.mk (And.intro hi (And.intro hz0 (And.intro hz1 hz2)))
  clear hk hc hok hi hz0 hz1 hz2
  go_enter Tryd.func61, Tryd.ntmps61
  go_wp2
  go_loopw [11] (fun i wr => ListRel (ns.map Arg.i) w i wr) (fun i _ => k - (intOf i).toNat)
  case atStart => exact ⟨0, .slice none 0 0, Nat.zero_le _, rfl, ⟨heap_alloc_new w _⟩, ⟨World.ownsRow_nil _ _ _ _⟩, ⟨below_alloc w _⟩⟩
  case round =>
    obtain ⟨j, v, hj, rfl, hrow, hown, hb⟩ := hrel
    rw [HKx.out] at hj
    have hBz := hb.out.size
    have hBs : w.heap.size < wr.heap.size := (Array.getElem?_eq_some_iff.1 hrow.out).1
    have c3 : wr.cell? ⟨w.heap.size, 3, none⟩ = some v := by rw [cell_of_row _ _ _ _ _ _ hrow.out]; rfl
    have hne : some w.heap.size ≠ v.ownBlock := fun e => by have := (hown.out.lt _ e.symm).1; omega
    by_cases hlt : j < k
    · obtain ⟨n, hx⟩ : ∃ n, ns[j]? = some n := ⟨_, List.getElem?_eq_getElem (by rw [HK.out]; exact hlt)⟩
      have hcx : wr.cell? ⟨g, off + j, none⟩ = some (.int .i64 n) := (hb.out.cell (p := ⟨g, off + j, none⟩) (block_lt_of_cell (HC.out j n hx))).trans (HC.out j n hx)
      have hx' : (ns.map Arg.i)[j]? = some (Arg.i n) := by rw [List.getElem?_map, hx]; rfl
      have HT := Seal.mk (leafCells_take (ns.map Arg.i) j (Arg.i n) hx')
      clear hx hx'
      go_wp2_with (at_builtin; refine wpList_append_lies _ rfl (.tmp 16) (.tmp 19) 41 rfl (w.heap.size + 1) 43 i0 _ 4 56 Tryd.underlying41 HI.out.1 HI.out.2.1 HI.out.2.2.1 HI.out.2.2.2 rfl (by decide) v j (leafCells ((ns.map Arg.i).take j)) rfl (hown.out.alloc _) ⟨wr.heap.size, 0, none⟩ 1 1 (Lf.i n).cells rfl rfl (World.news_of_block (heap_alloc_new wr _)) (by simp [Lf.cells, Value.oneCell']) (by decide) (by unfold maxLen; omega) (by omega) (by simp; omega) _ rfl ?_; intro g1 cap1 w1 hown1 hgrow1 hat hlt1; have hr1 : w1.heap[w.heap.size]? = some (.cells #[.int .i64 3, .int .i64 0, .string ByteArray.empty, v] 43) := (hgrow1.block _ (by simp; omega) hne).trans ((Below.heap_alloc wr _ _ hBs).trans hrow.out); have c1 : w1.cell? ⟨w.heap.size, 3, none⟩ = some v := by { rw [cell_of_row _ _ _ _ _ _ hr1]; rfl }; have f1 : w1.frozen? ⟨w.heap.size, 3, none⟩ = false := frozen_of_row _ _ _ _ _ hr1; have HR1 := Seal.mk hr1; have HG1 := Seal.mk hgrow1; have HW1 := Seal.mk hown1; clear hr1 hgrow1 hown1)
      refine ⟨ListRel.next (by rw [HKx.out]; exact hlt) HT.out hb.out HR1.out hown.out HG1.out hBs HW1.out, ?_⟩
      simp only [intOf]; omega
    · obtain rfl : j = k := by omega
      obtain ⟨g2, cap2, rfl, _, hg2⟩ := hown.out.form hk0
      have HA : Seal (LeavesAt wr g2 0 (lfs ns)) := ⟨fun q y hy r c hrc => by
        obtain ⟨n, hx, rfl⟩ : ∃ n, ns[q]? = some n ∧ Lf.i n = y := by
          unfold lfs at hy
          rw [List.getElem?_map] at hy
          cases h : ns[q]? with
          | none => rw [h] at hy; cases hy
          | some x => rw [h] at hy; exact ⟨x, rfl, by simpa using hy⟩
        have h1 := leafCells_at (ns.map Arg.i) q (Arg.i n) (by rw [List.getElem?_map, hx]; rfl) r c hrc
        have h2 := hown.out.cells (g := g2) rfl (q * 4 + r) c (by rw [List.take_of_length_le (by rw [HKx.out]; exact Nat.le_refl _)]; exact h1)
        rw [Addr.add_mid] at h2
        rw [Nat.add_assoc]; exact h2⟩
      have HQ : Seal (j ≤ cap2) := ⟨by
        rcases hown.out.2 with ⟨e, _⟩ | ⟨_, _, _, hv, _, _, hle, _⟩
        · cases e
        · cases hv; exact hle⟩
      have HE : Seal _ := ⟨encode_any g2 0 j cap2 (lfs ns) wr (by unfold lfs; rw [List.length_map]; exact HK.out) HQ.out (by rw [wgts_lfs, HK.out]; omega) hk0 HA.out hg2 (fun y hy => by
        unfold lfs at hy
        obtain ⟨n, hn, rfl⟩ := List.mem_map.1 hy
        exact HO.out n hn)⟩
      have c0 : wr.cell? ⟨w.heap.size, 0, none⟩ = some (.int .i64 3) := by rw [cell_of_row _ _ _ _ _ _ hrow.out]; rfl
      have c1 : wr.cell? ⟨w.heap.size, 1, none⟩ = some (.int .i64 0) := by rw [cell_of_row _ _ _ _ _ _ hrow.out]; rfl
      have c2 : wr.cell? ⟨w.heap.size, 2, none⟩ = some (.string ByteArray.empty) := by rw [cell_of_row _ _ _ _ _ _ hrow.out]; rfl
      have HB := Seal.mk hb
      clear hrow hown hne HA HQ HC HO hb
      go_wp2_with (go_at_call 14; refine HE.out.mono ?_; rintro e w2 ⟨g', n', cap', hn', rfl, hf⟩)
      go_ret
      exact ⟨g', n', cap', hn', rfl, ⟨hf.out.1, hf.out.2.1, hf.out.2.2.1, hf.out.2.2.2.1, HB.out.out.trans (hf.out.2.2.2.2.mono hBz)⟩⟩

def wdB (n : Int) : Bool := decide (0 < n) && decide (n ≤ 1073741789)
theorem word_at (x : Int) (t : Bool) (w : World) (ht : wdB x = t) : Calls Tryd.prog 28 #[.int .i64 x] w fun e w' => e = .returned (.bool t) ∧ w = w' := by
  unfold wdB at ht
  have HT := Seal.mk ht
  clear ht
  by_cases h0 : 0 < x
  · by_cases h1 : x ≤ 1073741789
    · have HF : Seal (t = true) := ⟨by rw [← HT.out, decide_eq_true h0, decide_eq_true h1]; rfl⟩
      go_enter Tryd.func28, Tryd.ntmps28
      go_wp2
      go_ret
      exact ⟨ret_bool HF.out.symm, rfl⟩
    · have HF : Seal (t = false) := ⟨by rw [← HT.out, decide_eq_false h1]; simp⟩
      go_enter Tryd.func28, Tryd.ntmps28
      go_wp2
      go_ret
      exact ⟨ret_bool HF.out.symm, rfl⟩
  · have HF : Seal (t = false) := ⟨by rw [← HT.out, decide_eq_false h0]; simp⟩
    go_enter Tryd.func28, Tryd.ntmps28
    go_wp2
    go_ret
    exact ⟨ret_bool HF.out.symm, rfl⟩
theorem rword_at (x : Int) (t : Bool) (w : World) (ht : wdB x = t) : Calls Tryd.prog 30 #[.int .i64 x] w fun e w' => e = .returned (.bool t) ∧ w = w' := by
  unfold wdB at ht
  have HT := Seal.mk ht
  clear ht
  by_cases h0 : 0 < x
  · by_cases h1 : x ≤ 1073741789
    · have HF : Seal (t = true) := ⟨by rw [← HT.out, decide_eq_true h0, decide_eq_true h1]; rfl⟩
      go_enter Tryd.func30, Tryd.ntmps30
      go_wp2
      go_ret
      exact ⟨ret_bool HF.out.symm, rfl⟩
    · have HF : Seal (t = false) := ⟨by rw [← HT.out, decide_eq_false h1]; simp⟩
      go_enter Tryd.func30, Tryd.ntmps30
      go_wp2
      go_ret
      exact ⟨ret_bool HF.out.symm, rfl⟩
  · have HF : Seal (t = false) := ⟨by rw [← HT.out, decide_eq_false h0]; simp⟩
    go_enter Tryd.func30, Tryd.ntmps30
    go_wp2
    go_ret
    exact ⟨ret_bool HF.out.symm, rfl⟩

set_option maxHeartbeats 1000000 in
theorem all_three (g off cap : Nat) (a b c : Int) (w : World) (c0 : w.cell? ⟨g, off, none⟩ = some (.int .i64 a)) (c1 : w.cell? ⟨g, off + 1, none⟩ = some (.int .i64 b)) (c2 : w.cell? ⟨g, off + 2, none⟩ = some (.int .i64 c)) :
    Calls Tryd.prog 27 #[.slice (some ⟨g, off, none⟩) 3 cap, .func (.func 28) #[] #[]] w fun e w' => e = .returned (.bool (wdB a && (wdB b && wdB c))) ∧ w = w' := by
  go_enter Tryd.func27, Tryd.ntmps27
  go_wp2
  refine wp_loop_rounds 4 ?_
  rw [rounds_succ]
  go_wp2_with fail
  cases ha : wdB a with
  | false =>
    refine (word_at _ _ _ ha).mono ?_
    rintro e w1 ⟨rfl, rfl⟩
    go_wp2
    go_ret
    exact ⟨ret_bool (by simp [*]), rfl⟩
  | true =>
    refine (word_at _ _ _ ha).mono ?_
    rintro e w1 ⟨rfl, rfl⟩
    go_wp2
    rw [rounds_succ]
    go_wp2_with fail
    cases hb : wdB b with
    | false =>
      refine (word_at _ _ _ hb).mono ?_
      rintro e w1 ⟨rfl, rfl⟩
      go_wp2
      go_ret
      exact ⟨ret_bool (by simp [*]), rfl⟩
    | true =>
      refine (word_at _ _ _ hb).mono ?_
      rintro e w1 ⟨rfl, rfl⟩
      go_wp2
      rw [rounds_succ]
      go_wp2_with fail
      cases hc : wdB c with
      | false =>
        refine (word_at _ _ _ hc).mono ?_
        rintro e w1 ⟨rfl, rfl⟩
        go_wp2
        go_ret
        exact ⟨ret_bool (by simp [*]), rfl⟩
      | true =>
        refine (word_at _ _ _ hc).mono ?_
        rintro e w1 ⟨rfl, rfl⟩
        go_wp2
        rw [rounds_succ]
        go_wp2
        go_ret
        exact ⟨ret_bool (by simp [*]), rfl⟩

set_option maxHeartbeats 1000000 in
theorem all_two (g off cap : Nat) (a b : Int) (w : World) (c0 : w.cell? ⟨g, off, none⟩ = some (.int .i64 a)) (c1 : w.cell? ⟨g, off + 1, none⟩ = some (.int .i64 b)) :
    Calls Tryd.prog 27 #[.slice (some ⟨g, off, none⟩) 2 cap, .func (.func 28) #[] #[]] w fun e w' => e = .returned (.bool (wdB a && wdB b)) ∧ w = w' := by
  go_enter Tryd.func27, Tryd.ntmps27
  go_wp2
  refine wp_loop_rounds 3 ?_
  rw [rounds_succ]
  go_wp2_with fail
  cases ha : wdB a with
  | false =>
    refine (word_at _ _ _ ha).mono ?_
    rintro e w1 ⟨rfl, rfl⟩
    go_wp2
    go_ret
    exact ⟨ret_bool (by simp [*]), rfl⟩
  | true =>
    refine (word_at _ _ _ ha).mono ?_
    rintro e w1 ⟨rfl, rfl⟩
    go_wp2
    rw [rounds_succ]
    go_wp2_with fail
    cases hb : wdB b with
    | false =>
      refine (word_at _ _ _ hb).mono ?_
      rintro e w1 ⟨rfl, rfl⟩
      go_wp2
      go_ret
      exact ⟨ret_bool (by simp [*]), rfl⟩
    | true =>
      refine (word_at _ _ _ hb).mono ?_
      rintro e w1 ⟨rfl, rfl⟩
      go_wp2
      rw [rounds_succ]
      go_wp2
      go_ret
      exact ⟨ret_bool (by simp [*]), rfl⟩

/-- the text of a letter -/
def rcT (a b c : Int) : Bytes := encL (lfs [a, b, c])
theorem rcT_len (a b c : Int) : (rcT a b c).length ≤ 60 := by
  have h := encL_length (lfs [a, b, c])
  rw [wgts_lfs] at h
  simp at h
  unfold rcT; omega

theorem rctext_any (a b c : Int) (w : World) (ha : I64 a) (hb : I64 b) (hc : I64 c) :
    Calls Tryd.prog 29 #[.agg #[.int .i64 a, .int .i64 b, .int .i64 c]] w (ListPost (rcT a b c) w) := by
  have HL := Seal.mk (rclist_any w.heap.size 0 3 3 [a, b, c] (w.alloc (.cells #[.int .i64 a, .int .i64 b, .int .i64 c] 69)) rfl (Nat.le_refl _) (by decide) (by decide) (fun j n hn => by
    rw [cell_of_row _ _ _ _ _ _ (heap_alloc_new w _), Nat.zero_add]
    match j, hn with
    | 0, hn => simpa using hn
    | 1, hn => simpa using hn
    | 2, hn => simpa using hn
    | j + 3, hn => simp at hn) (fun n hn => by
    simp only [List.mem_cons, List.not_mem_nil, or_false] at hn
    rcases hn with rfl | rfl | rfl <;> assumption))
  clear ha hb hc
  go_enter Tryd.func29, Tryd.ntmps29
  go_wp2_with fail
  refine HL.out.mono ?_
  rintro e w2 ⟨g', n', cap', hn', rfl, hf⟩
  have HB : Seal (Below w.heap.size w w2) := ⟨(below_alloc w _).trans (hf.out.2.2.2.2.mono (by rw [size_alloc]; omega))⟩
  go_wp2
  go_ret
  exact ⟨g', n', cap', hn', rfl, ⟨hf.out.1, hf.out.2.1, hf.out.2.2.1, hf.out.2.2.2.1, HB.out⟩⟩

/-- do words acknowledge a letter? -/
def rcB (key a b c y z : Int) : Bool := (wdB y && wdB z) && vrB key (rcT a b c) (y - 1) (z - 1)
theorem wdB_iff (n : Int) : wdB n = true ↔ 0 < n ∧ n ≤ 1073741789 := by unfold wdB; simp

set_option maxHeartbeats 1000000 in
theorem rccheck_no (key a b c x y z : Int) (t : Bool) (w : World) (ht : (wdB y && wdB z) = t) (h0 : t = false) :
    Calls Tryd.prog 12 #[.int .i64 key, .agg #[.int .i64 a, .int .i64 b, .int .i64 c], .agg #[.int .i64 x, .int .i64 y, .int .i64 z]] w fun e w' => e = .returned (.bool false) ∧ Below w.heap.size w w' := by
  obtain ⟨X, hX⟩ : ∃ X : World, X = (w.alloc (.cells #[.int .i64 a, .int .i64 b, .int .i64 c] 23)).alloc (.cells #[.int .i64 x, .int .i64 y, .int .i64 z] 23) := ⟨_, rfl⟩
  have hXb : Seal (Below w.heap.size w X) := ⟨by rw [hX]; exact ((Below.refl _ w).alloc (Nat.le_refl _) _).alloc (by simp) _⟩
  have hX0 : X.heap[w.heap.size]? = some (.cells #[.int .i64 a, .int .i64 b, .int .i64 c] 23 (0, 0)) := by rw [hX]; exact heap_alloc2_old w _ _
  have hX1 : X.heap[w.heap.size + 1]? = some (.cells #[.int .i64 x, .int .i64 y, .int .i64 z] 23 (0, 0)) := by rw [hX]; exact heap_alloc2_new w _ _
  have c0 : X.cell? ⟨w.heap.size, 0, none⟩ = some (.int .i64 a) := by rw [cell_of_row _ _ _ _ _ _ hX0]; rfl
  have c1 : X.cell? ⟨w.heap.size, 1, none⟩ = some (.int .i64 b) := by rw [cell_of_row _ _ _ _ _ _ hX0]; rfl
  have c2 : X.cell? ⟨w.heap.size, 2, none⟩ = some (.int .i64 c) := by rw [cell_of_row _ _ _ _ _ _ hX0]; rfl
  have d1 : X.cell? ⟨w.heap.size + 1, 1, none⟩ = some (.int .i64 y) := by rw [cell_of_row _ _ _ _ _ _ hX1]; rfl
  have d2 : X.cell? ⟨w.heap.size + 1, 2, none⟩ = some (.int .i64 z) := by rw [cell_of_row _ _ _ _ _ _ hX1]; rfl
  clear hX0 hX1
  have HA : Seal (∀ W : World, W.cell? ⟨w.heap.size + 1, 1, none⟩ = some (.int .i64 y) → W.cell? ⟨w.heap.size + 1, 2, none⟩ = some (.int .i64 z) → Calls Tryd.prog 27 #[.slice (some ⟨w.heap.size + 1, 1, none⟩) 2 2, .func (.func 28) #[] #[]] W fun e w' => e = .returned (.bool t) ∧ W = w') := ⟨fun W h1 h2 => by rw [← ht]; exact all_two (w.heap.size + 1) 1 2 y z W h1 h2⟩
  clear ht
  go_enter Tryd.func12, Tryd.ntmps12
  go_upto_region 1 with (fail)
  rw [← hX]
  clear hX
  refine wp_region_held_drew (S := fun w' => w'.cell? ⟨w.heap.size, 0, none⟩ = some (.int .i64 a) ∧ w'.cell? ⟨w.heap.size, 1, none⟩ = some (.int .i64 b) ∧ w'.cell? ⟨w.heap.size, 2, none⟩ = some (.int .i64 c) ∧ w'.cell? ⟨w.heap.size + 1, 1, none⟩ = some (.int .i64 y) ∧ w'.cell? ⟨w.heap.size + 1, 2, none⟩ = some (.int .i64 z)) (by kernel_rfl) ⟨c0, c1, c2, d1, d2⟩ (fun hHeld => ?_)
  refine take_h 0 ?_ rfl (by kernel_rfl) (by kernel_rfl) (by kernel_rfl) (fun _ _ _ h => h) (Or.inl ⟨by kernel_rfl, ?_⟩) (by assumption) ?_
  rotate_left
  · (intro w hSw; (try dsimp only at hSw); go_simp; try (with_reducible rfl))
  try simp only [Act.put, List.setIfInBounds_toArray, List.set_cons_zero, List.set_cons_succ]
  refine call_h 1 rfl (by kernel_rfl) 27 #[.slice (some ⟨w.heap.size + 1, 1, none⟩) 2 2, .func (.func 28) #[] #[]] (by kernel_rfl) (by go_simp) ?_
  refine (HA.out X.drew hHeld.2.2.2.1 hHeld.2.2.2.2).mono ?_
  rintro e w1 ⟨rfl, rfl⟩
  have HB1 : Seal (Below w.heap.size w X.drew) := ⟨hXb.out.os, hXb.out.tape, hXb.out.output, hXb.out.size, hXb.out.block⟩
  refine ⟨_, rfl, hHeld, fun hHeld2 => ?_⟩
  obtain ⟨w1, hw1⟩ : ∃ w1, w1 = X.drew := ⟨_, rfl⟩
  rw [← hw1] at HB1 hHeld2 ⊢
  clear hHeld hw1 c0 c1 c2 d1 d2
  try simp only [Act.put, List.setIfInBounds_toArray, List.set_cons_zero, List.set_cons_succ]
  subst h0
  refine take_h 2 ?_ rfl (by kernel_rfl) (by kernel_rfl) (by kernel_rfl) (fun _ _ _ h => h) (Or.inl ⟨by kernel_rfl, ?_⟩) (by assumption) ?_
  rotate_left
  · (intro w hSw; (try dsimp only at hSw); go_simp; try (with_reducible rfl))
  try simp only [Act.put, List.setIfInBounds_toArray, List.set_cons_zero, List.set_cons_succ]
  refine take_h 3 undef rfl (by kernel_rfl) (by kernel_rfl) (by kernel_rfl) (fun _ _ _ h => h) (Or.inr ⟨by kernel_rfl, rfl⟩) (by assumption) ?_
  try simp only [Act.put, List.setIfInBounds_toArray, List.set_cons_zero, List.set_cons_succ]
  refine take_h 4 undef rfl (by kernel_rfl) (by kernel_rfl) (by kernel_rfl) (fun _ _ _ h => h) (Or.inr ⟨by kernel_rfl, rfl⟩) (by assumption) ?_
  try simp only [Act.put, List.setIfInBounds_toArray, List.set_cons_zero, List.set_cons_succ]
  refine take_h 5 undef rfl (by kernel_rfl) (by kernel_rfl) (by kernel_rfl) (fun _ _ _ h => h) (Or.inr ⟨by kernel_rfl, rfl⟩) (by assumption) ?_
  try simp only [Act.put, List.setIfInBounds_toArray, List.set_cons_zero, List.set_cons_succ]
  refine take_h 6 undef rfl (by kernel_rfl) (by kernel_rfl) (by kernel_rfl) (fun _ _ _ h => h) (Or.inr ⟨by kernel_rfl, rfl⟩) (by assumption) ?_
  try simp only [Act.put, List.setIfInBounds_toArray, List.set_cons_zero, List.set_cons_succ]
  refine take_h 7 undef rfl (by kernel_rfl) (by kernel_rfl) (by kernel_rfl) (fun _ _ _ h => h) (Or.inr ⟨by kernel_rfl, rfl⟩) (by assumption) ?_
  try simp only [Act.put, List.setIfInBounds_toArray, List.set_cons_zero, List.set_cons_succ]
  refine take_h 8 undef rfl (by kernel_rfl) (by kernel_rfl) (by kernel_rfl) (fun _ _ _ h => h) (Or.inr ⟨by kernel_rfl, rfl⟩) (by assumption) ?_
  try simp only [Act.put, List.setIfInBounds_toArray, List.set_cons_zero, List.set_cons_succ]
  refine take_h 9 undef rfl (by kernel_rfl) (by kernel_rfl) (by kernel_rfl) (fun _ _ _ h => h) (Or.inr ⟨by kernel_rfl, rfl⟩) (by assumption) ?_
  try simp only [Act.put, List.setIfInBounds_toArray, List.set_cons_zero, List.set_cons_succ]
  refine take_h 10 undef rfl (by kernel_rfl) (by kernel_rfl) (by kernel_rfl) (fun _ _ _ h => h) (Or.inr ⟨by kernel_rfl, rfl⟩) (by assumption) ?_
  try simp only [Act.put, List.setIfInBounds_toArray, List.set_cons_zero, List.set_cons_succ]
  refine take_h 11 undef rfl (by kernel_rfl) (by kernel_rfl) (by kernel_rfl) (fun _ _ _ h => h) (Or.inr ⟨by kernel_rfl, rfl⟩) (by assumption) ?_
  try simp only [Act.put, List.setIfInBounds_toArray, List.set_cons_zero, List.set_cons_succ]
  refine take_h 12 undef rfl (by kernel_rfl) (by kernel_rfl) (by kernel_rfl) (fun _ _ _ h => h) (Or.inr ⟨by kernel_rfl, rfl⟩) (by assumption) ?_
  try simp only [Act.put, List.setIfInBounds_toArray, List.set_cons_zero, List.set_cons_succ]
  refine take_h 13 undef rfl (by kernel_rfl) (by kernel_rfl) (by kernel_rfl) (fun _ _ _ h => h) (Or.inr ⟨by kernel_rfl, rfl⟩) (by assumption) ?_
  try simp only [Act.put, List.setIfInBounds_toArray, List.set_cons_zero, List.set_cons_succ]
  refine take_h 14 undef rfl (by kernel_rfl) (by kernel_rfl) (by kernel_rfl) (fun _ _ _ h => h) (Or.inr ⟨by kernel_rfl, rfl⟩) (by assumption) ?_
  try simp only [Act.put, List.setIfInBounds_toArray, List.set_cons_zero, List.set_cons_succ]
  refine take_h 15 ?_ rfl (by kernel_rfl) (by kernel_rfl) (by kernel_rfl) (fun _ _ _ h => h) (Or.inl ⟨by kernel_rfl, ?_⟩) (by assumption) ?_
  rotate_left
  · (intro w hSw; (try dsimp only at hSw); go_simp; try (with_reducible rfl))
  try simp only [Act.put, List.setIfInBounds_toArray, List.set_cons_zero, List.set_cons_succ]
  refine take_h 16 ?_ rfl (by kernel_rfl) (by kernel_rfl) (by kernel_rfl) (fun _ _ _ h => h) (Or.inl ⟨by kernel_rfl, ?_⟩) (by assumption) ?_
  rotate_left
  · (intro w hSw; (try dsimp only at hSw); go_simp; try (with_reducible rfl))
  try simp only [Act.put, List.setIfInBounds_toArray, List.set_cons_zero, List.set_cons_succ]
  refine wpAnyH_done (by kernel_rfl) ?_ _
  clear hHeld2
  go_wp2
  go_ret
  exact ⟨rfl, HB1.out⟩
set_option maxHeartbeats 2000000 in
theorem rccheck_yes (key a b c x y z : Int) (t r : Bool) (w : World) (hG : Glob w) (ha : I64 a) (hb : I64 b) (hc : I64 c) (ht : (wdB y && wdB z) = t) (h0 : t = true) (hr : Seal (vrB key (rcT a b c) (y - 1) (z - 1) = r)) :
    Calls Tryd.prog 12 #[.int .i64 key, .agg #[.int .i64 a, .int .i64 b, .int .i64 c], .agg #[.int .i64 x, .int .i64 y, .int .i64 z]] w fun e w' => e = .returned (.bool r) ∧ Below w.heap.size w w' := by
  have HG := Seal.mk hG
  have HT : Seal (∀ W, Calls Tryd.prog 29 #[.agg #[.int .i64 a, .int .i64 b, .int .i64 c]] W (ListPost (rcT a b c) W)) := ⟨fun W => rctext_any a b c W ha hb hc⟩
  have hyz : (0 < y ∧ y ≤ 1073741789) ∧ 0 < z ∧ z ≤ 1073741789 := by
    rw [h0] at ht
    simp only [Bool.and_eq_true] at ht
    exact ⟨(wdB_iff _).1 ht.1, (wdB_iff _).1 ht.2⟩
  have w1y : IntKind.i64.wrap (y - 1) = y - 1 := IntWalk.i64_in _ (by omega)
  have w1z : IntKind.i64.wrap (z - 1) = z - 1 := IntWalk.i64_in _ (by omega)
  clear hG ha hb hc hyz
  obtain ⟨X, hX⟩ : ∃ X : World, X = (w.alloc (.cells #[.int .i64 a, .int .i64 b, .int .i64 c] 23)).alloc (.cells #[.int .i64 x, .int .i64 y, .int .i64 z] 23) := ⟨_, rfl⟩
  have hXb : Seal (Below w.heap.size w X) := ⟨by rw [hX]; exact ((Below.refl _ w).alloc (Nat.le_refl _) _).alloc (by simp) _⟩
  have hX0 : X.heap[w.heap.size]? = some (.cells #[.int .i64 a, .int .i64 b, .int .i64 c] 23 (0, 0)) := by rw [hX]; exact heap_alloc2_old w _ _
  have hX1 : X.heap[w.heap.size + 1]? = some (.cells #[.int .i64 x, .int .i64 y, .int .i64 z] 23 (0, 0)) := by rw [hX]; exact heap_alloc2_new w _ _
  have c0 : X.cell? ⟨w.heap.size, 0, none⟩ = some (.int .i64 a) := by rw [cell_of_row _ _ _ _ _ _ hX0]; rfl
  have c1 : X.cell? ⟨w.heap.size, 1, none⟩ = some (.int .i64 b) := by rw [cell_of_row _ _ _ _ _ _ hX0]; rfl
  have c2 : X.cell? ⟨w.heap.size, 2, none⟩ = some (.int .i64 c) := by rw [cell_of_row _ _ _ _ _ _ hX0]; rfl
  have d1 : X.cell? ⟨w.heap.size + 1, 1, none⟩ = some (.int .i64 y) := by rw [cell_of_row _ _ _ _ _ _ hX1]; rfl
  have d2 : X.cell? ⟨w.heap.size + 1, 2, none⟩ = some (.int .i64 z) := by rw [cell_of_row _ _ _ _ _ _ hX1]; rfl
  clear hX0 hX1
  have HA : Seal (∀ W : World, W.cell? ⟨w.heap.size + 1, 1, none⟩ = some (.int .i64 y) → W.cell? ⟨w.heap.size + 1, 2, none⟩ = some (.int .i64 z) → Calls Tryd.prog 27 #[.slice (some ⟨w.heap.size + 1, 1, none⟩) 2 2, .func (.func 28) #[] #[]] W fun e w' => e = .returned (.bool t) ∧ W = w') := ⟨fun W h1 h2 => by rw [← ht]; exact all_two (w.heap.size + 1) 1 2 y z W h1 h2⟩
  clear ht
  go_enter Tryd.func12, Tryd.ntmps12
  go_upto_region 1 with (fail)
  rw [← hX]
  clear hX
  refine wp_region_held_drew (S := fun w' => w'.cell? ⟨w.heap.size, 0, none⟩ = some (.int .i64 a) ∧ w'.cell? ⟨w.heap.size, 1, none⟩ = some (.int .i64 b) ∧ w'.cell? ⟨w.heap.size, 2, none⟩ = some (.int .i64 c) ∧ w'.cell? ⟨w.heap.size + 1, 1, none⟩ = some (.int .i64 y) ∧ w'.cell? ⟨w.heap.size + 1, 2, none⟩ = some (.int .i64 z)) (by kernel_rfl) ⟨c0, c1, c2, d1, d2⟩ (fun hHeld => ?_)
  refine take_h 0 ?_ rfl (by kernel_rfl) (by kernel_rfl) (by kernel_rfl) (fun _ _ _ h => h) (Or.inl ⟨by kernel_rfl, ?_⟩) (by assumption) ?_
  rotate_left
  · (intro w hSw; (try dsimp only at hSw); go_simp; try (with_reducible rfl))
  try simp only [Act.put, List.setIfInBounds_toArray, List.set_cons_zero, List.set_cons_succ]
  refine call_h 1 rfl (by kernel_rfl) 27 #[.slice (some ⟨w.heap.size + 1, 1, none⟩) 2 2, .func (.func 28) #[] #[]] (by kernel_rfl) (by go_simp) ?_
  refine (HA.out X.drew hHeld.2.2.2.1 hHeld.2.2.2.2).mono ?_
  rintro e w1 ⟨rfl, rfl⟩
  have HB1 : Seal (Below w.heap.size w X.drew) := ⟨hXb.out.os, hXb.out.tape, hXb.out.output, hXb.out.size, hXb.out.block⟩
  refine ⟨_, rfl, hHeld, fun hHeld2 => ?_⟩
  obtain ⟨w1, hw1⟩ : ∃ w1, w1 = X.drew := ⟨_, rfl⟩
  rw [← hw1] at HB1 hHeld2 ⊢
  clear hHeld hw1 c0 c1 c2 d1 d2
  try simp only [Act.put, List.setIfInBounds_toArray, List.set_cons_zero, List.set_cons_succ]
  subst h0
  refine take_h 2 ?_ rfl (by kernel_rfl) (by kernel_rfl) (by kernel_rfl) (fun _ _ _ h => h) (Or.inl ⟨by kernel_rfl, ?_⟩) (by assumption) ?_
  rotate_left
  · (intro w hSw; (try dsimp only at hSw); go_simp; try (with_reducible rfl))
  try simp only [Act.put, List.setIfInBounds_toArray, List.set_cons_zero, List.set_cons_succ]
  refine take_h 3 ?_ rfl (by kernel_rfl) (by kernel_rfl) (by kernel_rfl) (fun _ _ _ h => h) (Or.inl ⟨by kernel_rfl, ?_⟩) (by assumption) ?_
  rotate_left
  · (intro w hSw; (try dsimp only at hSw); go_simp; try (with_reducible rfl))
  try simp only [Act.put, List.setIfInBounds_toArray, List.set_cons_zero, List.set_cons_succ]
  refine take_h 4 ?_ rfl (by kernel_rfl) (by kernel_rfl) (by kernel_rfl) (fun _ _ _ h => h) (Or.inl ⟨by kernel_rfl, ?_⟩) (by assumption) ?_
  rotate_left
  · (intro w hSw; (try dsimp only at hSw); go_simp; try (with_reducible rfl))
  try simp only [Act.put, List.setIfInBounds_toArray, List.set_cons_zero, List.set_cons_succ]
  refine take_h 5 ?_ rfl (by kernel_rfl) (by kernel_rfl) (by kernel_rfl) (fun _ _ _ h => h) (Or.inl ⟨by kernel_rfl, ?_⟩) (by assumption) ?_
  rotate_left
  · (intro w hSw; (try dsimp only at hSw); go_simp; try (with_reducible rfl))
  try simp only [Act.put, List.setIfInBounds_toArray, List.set_cons_zero, List.set_cons_succ]
  refine take_h 7 ?_ rfl (by kernel_rfl) (by kernel_rfl) (by kernel_rfl) (fun _ _ _ h => h) (Or.inl ⟨by kernel_rfl, ?_⟩) (by assumption) ?_
  rotate_left
  · (intro w hSw; (try dsimp only at hSw); go_simp; try (with_reducible rfl))
  try simp only [Act.put, List.setIfInBounds_toArray, List.set_cons_zero, List.set_cons_succ]
  refine take_h 8 ?_ rfl (by kernel_rfl) (by kernel_rfl) (by kernel_rfl) (fun _ _ _ h => h) (Or.inl ⟨by kernel_rfl, ?_⟩) (by assumption) ?_
  rotate_left
  · (intro w hSw; (try dsimp only at hSw); go_simp; try (with_reducible rfl))
  try simp only [Act.put, List.setIfInBounds_toArray, List.set_cons_zero, List.set_cons_succ]
  refine take_h 9 ?_ rfl (by kernel_rfl) (by kernel_rfl) (by kernel_rfl) (fun _ _ _ h => h) (Or.inl ⟨by kernel_rfl, ?_⟩) (by assumption) ?_
  rotate_left
  · (intro w hSw; (try dsimp only at hSw); go_simp; try (with_reducible rfl))
  try simp only [Act.put, List.setIfInBounds_toArray, List.set_cons_zero, List.set_cons_succ]
  refine take_h 10 ?_ rfl (by kernel_rfl) (by kernel_rfl) (by kernel_rfl) (fun _ _ _ h => h) (Or.inl ⟨by kernel_rfl, ?_⟩) (by assumption) ?_
  rotate_left
  · (intro w hSw; (try dsimp only at hSw); go_simp; try (with_reducible rfl))
  try simp only [Act.put, List.setIfInBounds_toArray, List.set_cons_zero, List.set_cons_succ]
  refine take_h 11 ?_ rfl (by kernel_rfl) (by kernel_rfl) (by kernel_rfl) (fun _ _ _ h => h) (Or.inl ⟨by kernel_rfl, ?_⟩) (by assumption) ?_
  rotate_left
  · (intro w hSw; (try dsimp only at hSw); go_simp; try (with_reducible rfl))
  try simp only [Act.put, List.setIfInBounds_toArray, List.set_cons_zero, List.set_cons_succ]
  refine take_h 12 ?_ rfl (by kernel_rfl) (by kernel_rfl) (by kernel_rfl) (fun _ _ _ h => h) (Or.inl ⟨by kernel_rfl, ?_⟩) (by assumption) ?_
  rotate_left
  · (intro w hSw; (try dsimp only at hSw); go_simp; try (with_reducible rfl))
  try simp only [Act.put, List.setIfInBounds_toArray, List.set_cons_zero, List.set_cons_succ]
  refine take_h 13 ?_ rfl (by kernel_rfl) (by kernel_rfl) (by kernel_rfl) (fun _ _ _ h => h) (Or.inl ⟨by kernel_rfl, ?_⟩) (by assumption) ?_
  rotate_left
  · (intro w hSw; (try dsimp only at hSw); go_simp; try (with_reducible rfl))
  try simp only [Act.put, List.setIfInBounds_toArray, List.set_cons_zero, List.set_cons_succ]
  refine call_h 6 rfl (by kernel_rfl) 29 #[.agg #[.int .i64 a, .int .i64 b, .int .i64 c]] (by kernel_rfl) (by go_simp) ?_
  refine (HT.out w1).mono ?_
  rintro e w2 ⟨g', n', c', hn, rfl, hf⟩
  have hb2 := hf.out.2.2.2.2
  have HB2 : Seal (Below w.heap.size w w2) := ⟨HB1.out.trans (hb2.mono HB1.out.size)⟩
  refine ⟨_, rfl, ⟨cell_later hb2 hHeld2.1, cell_later hb2 hHeld2.2.1, cell_later hb2 hHeld2.2.2.1, cell_later hb2 hHeld2.2.2.2.1, cell_later hb2 hHeld2.2.2.2.2⟩, fun hHeld3 => ?_⟩
  have hL := rcT_len a b c
  have hIB : IsB w2 (some ⟨g', 0, none⟩) n' c' (rcT a b c) := ⟨hn.out, hf.out.1, by rw [← hn.out]; omega, hf.out.2.1, .inr ⟨g', 0, rfl, hf.out.2.2.2.1, hf.out.2.2.1⟩⟩
  have HVC : Seal (Calls Tryd.prog 15 #[.int .i64 key, .slice (some ⟨g', 0, none⟩) n' c', .agg #[.int .i64 (y - 1), .int .i64 (z - 1)]] w2 fun e w' => e = .returned (.bool r) ∧ Below w2.heap.size w2 w') := ⟨by rw [← hr.out]; exact verify_any key (y - 1) (z - 1) (some ⟨g', 0, none⟩) n' c' (rcT a b c) w2 hIB (by rw [← hn.out]; omega) (HG.out.below HB2.out)⟩
  clear hHeld2 hb2 hIB hf hL
  try simp only [Act.put, List.setIfInBounds_toArray, List.set_cons_zero, List.set_cons_succ]
  refine call_h 14 rfl (by kernel_rfl) 15 #[.int .i64 key, .slice (some ⟨g', 0, none⟩) n' c', .agg #[.int .i64 (y - 1), .int .i64 (z - 1)]] (by kernel_rfl) (by go_simp) ?_
  refine HVC.out.mono ?_
  rintro e w3 ⟨rfl, hb3⟩
  have HB3 : Seal (Below w.heap.size w w3) := ⟨HB2.out.trans (hb3.mono HB2.out.size)⟩
  refine ⟨_, rfl, ⟨cell_later hb3 hHeld3.1, cell_later hb3 hHeld3.2.1, cell_later hb3 hHeld3.2.2.1, cell_later hb3 hHeld3.2.2.2.1, cell_later hb3 hHeld3.2.2.2.2⟩, fun hHeld4 => ?_⟩
  clear hHeld3 hb3 HVC
  try simp only [Act.put, List.setIfInBounds_toArray, List.set_cons_zero, List.set_cons_succ]
  refine take_h 15 ?_ rfl (by kernel_rfl) (by kernel_rfl) (by kernel_rfl) (fun _ _ _ h => h) (Or.inl ⟨by kernel_rfl, ?_⟩) (by assumption) ?_
  rotate_left
  · (intro w hSw; (try dsimp only at hSw); go_simp; try (with_reducible rfl))
  try simp only [Act.put, List.setIfInBounds_toArray, List.set_cons_zero, List.set_cons_succ]
  refine take_h 16 ?_ rfl (by kernel_rfl) (by kernel_rfl) (by kernel_rfl) (fun _ _ _ h => h) (Or.inl ⟨by kernel_rfl, ?_⟩) (by assumption) ?_
  rotate_left
  · (intro w hSw; (try dsimp only at hSw); go_simp; try (with_reducible rfl))
  try simp only [Act.put, List.setIfInBounds_toArray, List.set_cons_zero, List.set_cons_succ]
  refine wpAnyH_done (by kernel_rfl) ?_ _
  clear hHeld4
  go_wp2
  go_ret
  exact ⟨rfl, HB3.out⟩

theorem rccheck_any (key a b c x y z : Int) (w : World) (hG : Glob w) (ha : I64 a) (hb : I64 b) (hc : I64 c) :
    Calls Tryd.prog 12 #[.int .i64 key, .agg #[.int .i64 a, .int .i64 b, .int .i64 c], .agg #[.int .i64 x, .int .i64 y, .int .i64 z]] w fun e w' => e = .returned (.bool (rcB key a b c y z)) ∧ Below w.heap.size w w' := by
  unfold rcB
  cases ht : (wdB y && wdB z) with
  | false => exact rccheck_no key a b c x y z false w ht rfl
  | true =>
    rw [Bool.true_and]
    exact rccheck_yes key a b c x y z true _ w hG ha hb hc ht rfl ⟨rfl⟩

/-! ## the reference -/
theorem rints_new (ns : List Int) (k H : Nat) (w : World) (hH : w.heap.size = H) (hk : ns.length = k) (hk0 : 0 < k) (hk9 : k ≤ 1000) (cs : Array Value) (hcs : cs.toList = ns.map (Value.int .i64)) :
    Calls Tryd.prog 70 #[.slice (some ⟨H, 0, none⟩) k k] (w.alloc (.cells cs 3)) (IntsPost (lfs ns) k (w.alloc (.cells cs 3))) := by
  subst hH
  refine rints_any w.heap.size 0 k k ns _ hk (Nat.le_refl _) hk0 hk9 (fun j n hn => ?_)
  rw [cell_of_row _ _ _ _ _ _ (heap_alloc_new w _), Nat.zero_add, ← Array.getElem?_toList, hcs, List.getElem?_map, hn]; rfl

set_option maxHeartbeats 1000000 in
theorem rtext43_any (a b c : Int) (w : World) (ha : I64 a) (hb : I64 b) (hc : I64 c) :
    Calls Tryd.prog 32 #[.agg #[.int .i64 a, .int .i64 b, .int .i64 c]] w (ListPost (rcT a b c) w) := by
  have HI := Seal.mk (And.intro ha (And.intro hb hc))
  have HN : Seal (∀ cs : Array Value, cs = #[.int .i64 a, .int .i64 b, .int .i64 c] → Calls Tryd.prog 70 #[.slice (some ⟨w.heap.size + 1, 0, none⟩) 3 3] ((w.alloc (.cells #[.int .i64 a, .int .i64 b, .int .i64 c] 23)).alloc (.cells cs 3)) (IntsPost (lfs [a, b, c]) 3 ((w.alloc (.cells #[.int .i64 a, .int .i64 b, .int .i64 c] 23)).alloc (.cells cs 3)))) := ⟨fun cs hcs => rints_new [a, b, c] 3 (w.heap.size + 1) _ (size_alloc _ _) rfl (by decide) (by decide) cs (by rw [hcs]; rfl)⟩
  clear ha hb hc
  go_enter Tryd.func32, Tryd.ntmps32
  go_wp2_with fail
  refine (HN.out _ rfl).mono ?_
  rintro e w2 ⟨g2, cp, rfl, hO, hb2⟩
  have HB2 : Seal (Below w.heap.size w w2) := ⟨((below_alloc w _).trans ((below_alloc _ _).mono (by rw [size_alloc]; omega))).trans (hb2.mono (by rw [size_alloc, size_alloc]; omega))⟩
  have HE : Seal _ := ⟨rencode_any g2 0 3 cp (lfs [a, b, c]) w2 rfl hO.out.1 (by rw [wgts_lfs]; simp) hO.out.2.2.1 hO.out.2.1 (fun y hy => by
    simp only [lfs, List.map_cons, List.map_nil, List.mem_cons, List.not_mem_nil, or_false] at hy
    rcases hy with rfl | rfl | rfl
    · exact HI.out.1
    · exact HI.out.2.1
    · exact HI.out.2.2)⟩
  clear hb2 HN hO
  go_wp2_with fail
  refine HE.out.mono ?_
  rintro e w3 ⟨g', n', c', rfl, hS⟩
  have hS : Seal (Stg w2 w3 g' n' c' (rcT a b c)) := hS
  have hL := rcT_len a b c
  have hIB := hS.out.isB (by rw [← hS.out.len]; omega)
  have HF : Seal ((rcT a b c).length = n' ∧ n' ≤ c' ∧ c' ≤ 9223372036854775807 ∧ Below w.heap.size w w3) := ⟨hS.out.len, hIB.lcap, hIB.cmax, HB2.out.trans (hS.out.bel.mono HB2.out.size)⟩
  have HA : Seal (g' < w3.heap.size ∧ w3.rangeAt g' 0 ((rcT a b c).map B)) := ⟨by
    rcases hIB.at_ with h0 | ⟨g0, o0, e, hr, hg⟩
    · exfalso
      have h1 := hS.out.len
      rw [h0] at h1
      simp [rcT, encL] at h1
    · cases e
      exact ⟨hg, hr⟩⟩
  clear HE hS hIB hL
  go_wp2
  go_ret
  exact ⟨g', n', c', ⟨HF.out.1⟩, rfl, ⟨HF.out.2.1, HF.out.2.2.1, HA.out.1, HA.out.2, HF.out.2.2.2⟩⟩

set_option maxHeartbeats 2000000 in
theorem rcheck43_any (key a b c x y z : Int) (w : World) (ha : I64 a) (hb : I64 b) (hc : I64 c) :
    Calls Tryd.prog 13 #[.int .i64 key, .agg #[.int .i64 a, .int .i64 b, .int .i64 c], .agg #[.int .i64 x, .int .i64 y, .int .i64 z]] w fun e w' => e = .returned (.bool (rcB key a b c y z)) ∧ Below w.heap.size w w' := by
  have HT : Seal (∀ W, Calls Tryd.prog 32 #[.agg #[.int .i64 a, .int .i64 b, .int .i64 c]] W (ListPost (rcT a b c) W)) := ⟨fun W => rtext43_any a b c W ha hb hc⟩
  clear ha hb hc
  cases hy : wdB y with
  | false =>
    have hR : Seal (rcB key a b c y z = false) := ⟨by unfold rcB; rw [hy]; rfl⟩
    obtain ⟨X, hX⟩ : ∃ X : World, X = (w.alloc (.cells #[.int .i64 a, .int .i64 b, .int .i64 c] 23)).alloc (.cells #[.int .i64 x, .int .i64 y, .int .i64 z] 23) := ⟨_, rfl⟩
    have hXb : Seal (Below w.heap.size w X) := ⟨by rw [hX]; exact ((Below.refl _ w).alloc (Nat.le_refl _) _).alloc (by simp) _⟩
    have hX0 : X.heap[w.heap.size]? = some (.cells #[.int .i64 a, .int .i64 b, .int .i64 c] 23 (0, 0)) := by rw [hX]; exact heap_alloc2_old w _ _
    have hX1 : X.heap[w.heap.size + 1]? = some (.cells #[.int .i64 x, .int .i64 y, .int .i64 z] 23 (0, 0)) := by rw [hX]; exact heap_alloc2_new w _ _
    have c0 : X.cell? ⟨w.heap.size, 0, none⟩ = some (.int .i64 a) := by rw [cell_of_row _ _ _ _ _ _ hX0]; rfl
    have c1 : X.cell? ⟨w.heap.size, 1, none⟩ = some (.int .i64 b) := by rw [cell_of_row _ _ _ _ _ _ hX0]; rfl
    have c2 : X.cell? ⟨w.heap.size, 2, none⟩ = some (.int .i64 c) := by rw [cell_of_row _ _ _ _ _ _ hX0]; rfl
    have d1 : X.cell? ⟨w.heap.size + 1, 1, none⟩ = some (.int .i64 y) := by rw [cell_of_row _ _ _ _ _ _ hX1]; rfl
    have d2 : X.cell? ⟨w.heap.size + 1, 2, none⟩ = some (.int .i64 z) := by rw [cell_of_row _ _ _ _ _ _ hX1]; rfl
    clear hX0 hX1
    go_enter Tryd.func13, Tryd.ntmps13
    go_upto_region 1 with (fail)
    rw [← hX]
    clear hX
    go_wp2_with fail
    refine (rword_at y _ X hy).mono ?_
    rintro e w1 ⟨rfl, rfl⟩
    go_wp2
    go_ret
    exact ⟨ret_bool hR.out.symm, hXb.out⟩
  | true =>
    cases hz : wdB z with
    | false =>
      have hR : Seal (rcB key a b c y z = false) := ⟨by unfold rcB; rw [hy, hz]; rfl⟩
      obtain ⟨X, hX⟩ : ∃ X : World, X = (w.alloc (.cells #[.int .i64 a, .int .i64 b, .int .i64 c] 23)).alloc (.cells #[.int .i64 x, .int .i64 y, .int .i64 z] 23) := ⟨_, rfl⟩
      have hXb : Seal (Below w.heap.size w X) := ⟨by rw [hX]; exact ((Below.refl _ w).alloc (Nat.le_refl _) _).alloc (by simp) _⟩
      have hX0 : X.heap[w.heap.size]? = some (.cells #[.int .i64 a, .int .i64 b, .int .i64 c] 23 (0, 0)) := by rw [hX]; exact heap_alloc2_old w _ _
      have hX1 : X.heap[w.heap.size + 1]? = some (.cells #[.int .i64 x, .int .i64 y, .int .i64 z] 23 (0, 0)) := by rw [hX]; exact heap_alloc2_new w _ _
      have c0 : X.cell? ⟨w.heap.size, 0, none⟩ = some (.int .i64 a) := by rw [cell_of_row _ _ _ _ _ _ hX0]; rfl
      have c1 : X.cell? ⟨w.heap.size, 1, none⟩ = some (.int .i64 b) := by rw [cell_of_row _ _ _ _ _ _ hX0]; rfl
      have c2 : X.cell? ⟨w.heap.size, 2, none⟩ = some (.int .i64 c) := by rw [cell_of_row _ _ _ _ _ _ hX0]; rfl
      have d1 : X.cell? ⟨w.heap.size + 1, 1, none⟩ = some (.int .i64 y) := by rw [cell_of_row _ _ _ _ _ _ hX1]; rfl
      have d2 : X.cell? ⟨w.heap.size + 1, 2, none⟩ = some (.int .i64 z) := by rw [cell_of_row _ _ _ _ _ _ hX1]; rfl
      clear hX0 hX1
      go_enter Tryd.func13, Tryd.ntmps13
      go_upto_region 1 with (fail)
      rw [← hX]
      clear hX
      go_wp2_with fail
      refine (rword_at y _ X hy).mono ?_
      rintro e w1 ⟨rfl, rfl⟩
      go_wp2_with fail
      refine (rword_at z _ X hz).mono ?_
      rintro e w1 ⟨rfl, rfl⟩
      go_wp2
      go_ret
      exact ⟨ret_bool hR.out.symm, hXb.out⟩
    | true =>
      have hR : Seal (rcB key a b c y z = vrB key (rcT a b c) (y - 1) (z - 1)) := ⟨by unfold rcB; rw [hy, hz]; rfl⟩
      have h1 := (wdB_iff y).1 hy
      have h2 := (wdB_iff z).1 hz
      have w1y : IntKind.i64.wrap (y - 1) = y - 1 := IntWalk.i64_in _ (by omega)
      have w1z : IntKind.i64.wrap (z - 1) = z - 1 := IntWalk.i64_in _ (by omega)
      rw [hR.out]
      clear h1 h2
      obtain ⟨X, hX⟩ : ∃ X : World, X = (w.alloc (.cells #[.int .i64 a, .int .i64 b, .int .i64 c] 23)).alloc (.cells #[.int .i64 x, .int .i64 y, .int .i64 z] 23) := ⟨_, rfl⟩
      have hXb : Seal (Below w.heap.size w X) := ⟨by rw [hX]; exact ((Below.refl _ w).alloc (Nat.le_refl _) _).alloc (by simp) _⟩
      have hX0 : X.heap[w.heap.size]? = some (.cells #[.int .i64 a, .int .i64 b, .int .i64 c] 23 (0, 0)) := by rw [hX]; exact heap_alloc2_old w _ _
      have hX1 : X.heap[w.heap.size + 1]? = some (.cells #[.int .i64 x, .int .i64 y, .int .i64 z] 23 (0, 0)) := by rw [hX]; exact heap_alloc2_new w _ _
      have c0 : X.cell? ⟨w.heap.size, 0, none⟩ = some (.int .i64 a) := by rw [cell_of_row _ _ _ _ _ _ hX0]; rfl
      have c1 : X.cell? ⟨w.heap.size, 1, none⟩ = some (.int .i64 b) := by rw [cell_of_row _ _ _ _ _ _ hX0]; rfl
      have c2 : X.cell? ⟨w.heap.size, 2, none⟩ = some (.int .i64 c) := by rw [cell_of_row _ _ _ _ _ _ hX0]; rfl
      have d1 : X.cell? ⟨w.heap.size + 1, 1, none⟩ = some (.int .i64 y) := by rw [cell_of_row _ _ _ _ _ _ hX1]; rfl
      have d2 : X.cell? ⟨w.heap.size + 1, 2, none⟩ = some (.int .i64 z) := by rw [cell_of_row _ _ _ _ _ _ hX1]; rfl
      clear hX0 hX1
      go_enter Tryd.func13, Tryd.ntmps13
      go_upto_region 1 with (fail)
      rw [← hX]
      clear hX
      go_wp2_with fail
      refine (rword_at y _ X hy).mono ?_
      rintro e w1 ⟨rfl, rfl⟩
      go_wp2_with fail
      refine (rword_at z _ X hz).mono ?_
      rintro e w1 ⟨rfl, rfl⟩
      go_upto_region 3 with (fail)
      refine wp_region_held_drew (S := fun w' => w'.cell? ⟨w.heap.size, 0, none⟩ = some (.int .i64 a) ∧ w'.cell? ⟨w.heap.size, 1, none⟩ = some (.int .i64 b) ∧ w'.cell? ⟨w.heap.size, 2, none⟩ = some (.int .i64 c) ∧ w'.cell? ⟨w.heap.size + 1, 1, none⟩ = some (.int .i64 y) ∧ w'.cell? ⟨w.heap.size + 1, 2, none⟩ = some (.int .i64 z)) (by kernel_rfl) ⟨c0, c1, c2, d1, d2⟩ (fun hHeld => ?_)
      clear c0 c1 c2 d1 d2
      refine take_h 0 ?_ rfl (by kernel_rfl) (by kernel_rfl) (by kernel_rfl) (fun _ _ _ h => h) (Or.inl ⟨by kernel_rfl, ?_⟩) (by assumption) ?_
      rotate_left
      · (intro w hSw; (try dsimp only at hSw); go_simp; try (with_reducible rfl))
      try simp only [Act.put, List.setIfInBounds_toArray, List.set_cons_zero, List.set_cons_succ]
      refine take_h 1 ?_ rfl (by kernel_rfl) (by kernel_rfl) (by kernel_rfl) (fun _ _ _ h => h) (Or.inl ⟨by kernel_rfl, ?_⟩) (by assumption) ?_
      rotate_left
      · (intro w hSw; (try dsimp only at hSw); go_simp; try (with_reducible rfl))
      try simp only [Act.put, List.setIfInBounds_toArray, List.set_cons_zero, List.set_cons_succ]
      refine take_h 3 ?_ rfl (by kernel_rfl) (by kernel_rfl) (by kernel_rfl) (fun _ _ _ h => h) (Or.inl ⟨by kernel_rfl, ?_⟩) (by assumption) ?_
      rotate_left
      · (intro w hSw; (try dsimp only at hSw); go_simp; try (with_reducible rfl))
      try simp only [Act.put, List.setIfInBounds_toArray, List.set_cons_zero, List.set_cons_succ]
      refine take_h 4 ?_ rfl (by kernel_rfl) (by kernel_rfl) (by kernel_rfl) (fun _ _ _ h => h) (Or.inl ⟨by kernel_rfl, ?_⟩) (by assumption) ?_
      rotate_left
      · (intro w hSw; (try dsimp only at hSw); go_simp; try (with_reducible rfl))
      try simp only [Act.put, List.setIfInBounds_toArray, List.set_cons_zero, List.set_cons_succ]
      refine take_h 5 ?_ rfl (by kernel_rfl) (by kernel_rfl) (by kernel_rfl) (fun _ _ _ h => h) (Or.inl ⟨by kernel_rfl, ?_⟩) (by assumption) ?_
      rotate_left
      · (intro w hSw; (try dsimp only at hSw); go_simp; try (with_reducible rfl))
      try simp only [Act.put, List.setIfInBounds_toArray, List.set_cons_zero, List.set_cons_succ]
      refine take_h 6 ?_ rfl (by kernel_rfl) (by kernel_rfl) (by kernel_rfl) (fun _ _ _ h => h) (Or.inl ⟨by kernel_rfl, ?_⟩) (by assumption) ?_
      rotate_left
      · (intro w hSw; (try dsimp only at hSw); go_simp; try (with_reducible rfl))
      try simp only [Act.put, List.setIfInBounds_toArray, List.set_cons_zero, List.set_cons_succ]
      refine take_h 7 ?_ rfl (by kernel_rfl) (by kernel_rfl) (by kernel_rfl) (fun _ _ _ h => h) (Or.inl ⟨by kernel_rfl, ?_⟩) (by assumption) ?_
      rotate_left
      · (intro w hSw; (try dsimp only at hSw); go_simp; try (with_reducible rfl))
      try simp only [Act.put, List.setIfInBounds_toArray, List.set_cons_zero, List.set_cons_succ]
      refine take_h 8 ?_ rfl (by kernel_rfl) (by kernel_rfl) (by kernel_rfl) (fun _ _ _ h => h) (Or.inl ⟨by kernel_rfl, ?_⟩) (by assumption) ?_
      rotate_left
      · (intro w hSw; (try dsimp only at hSw); go_simp; try (with_reducible rfl))
      try simp only [Act.put, List.setIfInBounds_toArray, List.set_cons_zero, List.set_cons_succ]
      refine take_h 9 ?_ rfl (by kernel_rfl) (by kernel_rfl) (by kernel_rfl) (fun _ _ _ h => h) (Or.inl ⟨by kernel_rfl, ?_⟩) (by assumption) ?_
      rotate_left
      · (intro w hSw; (try dsimp only at hSw); go_simp; try (with_reducible rfl))
      try simp only [Act.put, List.setIfInBounds_toArray, List.set_cons_zero, List.set_cons_succ]
      refine call_h 2 rfl (by kernel_rfl) 32 #[.agg #[.int .i64 a, .int .i64 b, .int .i64 c]] (by kernel_rfl) (by go_simp) ?_
      refine (HT.out X.drew).mono ?_
      rintro e w2 ⟨g', n', c', hn, rfl, hf⟩
      have hb2 := hf.out.2.2.2.2
      have hb2' : Below X.heap.size X w2 := ⟨hb2.os, hb2.tape, hb2.output, hb2.size, hb2.block⟩
      have HB2 : Seal (Below w.heap.size w w2) := ⟨hXb.out.trans (hb2'.mono hXb.out.size)⟩
      refine ⟨_, rfl, ⟨cell_later hb2 hHeld.1, cell_later hb2 hHeld.2.1, cell_later hb2 hHeld.2.2.1, cell_later hb2 hHeld.2.2.2.1, cell_later hb2 hHeld.2.2.2.2⟩, fun hHeld3 => ?_⟩
      have hL := rcT_len a b c
      have hIB : IsB w2 (some ⟨g', 0, none⟩) n' c' (rcT a b c) := ⟨hn.out, hf.out.1, by rw [← hn.out]; omega, hf.out.2.1, .inr ⟨g', 0, rfl, hf.out.2.2.2.1, hf.out.2.2.1⟩⟩
      have HVC := Seal.mk (rverify_any key (y - 1) (z - 1) (some ⟨g', 0, none⟩) n' c' (rcT a b c) w2 hIB (by rw [← hn.out]; omega))
      clear hHeld hb2 hb2' hIB hf hL
      try simp only [Act.put, List.setIfInBounds_toArray, List.set_cons_zero, List.set_cons_succ]
      refine call_h 10 rfl (by kernel_rfl) 34 #[.int .i64 key, .slice (some ⟨g', 0, none⟩) n' c', .agg #[.int .i64 (y - 1), .int .i64 (z - 1)]] (by kernel_rfl) (by go_simp) ?_
      refine HVC.out.mono ?_
      rintro e w3 ⟨rfl, hb3⟩
      have HB3 : Seal (Below w.heap.size w w3) := ⟨HB2.out.trans (hb3.mono HB2.out.size)⟩
      refine ⟨_, rfl, ⟨cell_later hb3 hHeld3.1, cell_later hb3 hHeld3.2.1, cell_later hb3 hHeld3.2.2.1, cell_later hb3 hHeld3.2.2.2.1, cell_later hb3 hHeld3.2.2.2.2⟩, fun hHeld4 => ?_⟩
      clear hHeld3 hb3 HVC
      try simp only [Act.put, List.setIfInBounds_toArray, List.set_cons_zero, List.set_cons_succ]
      refine take_h 11 ?_ rfl (by kernel_rfl) (by kernel_rfl) (by kernel_rfl) (fun _ _ _ h => h) (Or.inl ⟨by kernel_rfl, ?_⟩) (by assumption) ?_
      rotate_left
      · (intro w hSw; (try dsimp only at hSw); go_simp; try (with_reducible rfl))
      try simp only [Act.put, List.setIfInBounds_toArray, List.set_cons_zero, List.set_cons_succ]
      refine wpAnyH_done (by kernel_rfl) ?_ _
      clear hHeld4
      go_wp2
      go_ret
      exact ⟨rfl, HB3.out⟩

theorem fold_lay_at (k : Nat) : ∀ (L : List Value) (j : Nat) (Z : List Value), k + j + L.length ≤ Z.length → (L.zipIdx j).foldl (fun cs x => cs.setIfInBounds (k + x.2) x.1) Z.toArray = (lay Z (k + j) L).toArray
  | [], j, Z, _ => by rw [lay_nil]; rfl
  | v :: L, j, Z, h => by
    have hk : k + j < Z.length := by simp at h; omega
    rw [List.zipIdx_cons, List.foldl_cons, List.setIfInBounds_toArray, fold_lay_at k L (j + 1) (Z.set (k + j) v) (by simp at h ⊢; omega), ← Nat.add_assoc, lay_cons hk]

theorem fold_ans {C : List Value} (h : C.length = 36) (a b c : Int) : C.zipIdx.foldl (fun (cs : Array Value) (x : Value × Nat) => cs.setIfInBounds (3 + x.2) x.1) ((.int .i64 a :: .int .i64 b :: .int .i64 c :: .int .i64 0 :: .int .i64 0 :: .int .i64 0 :: .int .i64 0 :: .int .u8 0 :: .int .u8 0 :: .int .u8 0 :: .int .u8 0 :: .int .u8 0 :: .int .u8 0 :: .int .u8 0 :: .int .u8 0 :: .int .u8 0 :: .int .u8 0 :: .int .u8 0 :: .int .u8 0 :: .int .u8 0 :: .int .u8 0 :: .int .u8 0 :: .int .u8 0 :: .int .u8 0 :: .int .u8 0 :: .int .u8 0 :: .int .u8 0 :: .int .u8 0 :: .int .u8 0 :: .int .u8 0 :: .int .u8 0 :: .int .u8 0 :: .int .u8 0 :: .int .u8 0 :: .int .u8 0 :: .int .u8 0 :: .int .u8 0 :: .int .u8 0 :: .int .u8 0 :: [] : List Value)).toArray = (.int .i64 a :: .int .i64 b :: .int .i64 c :: C : List Value).toArray := by
  have h1 := fold_lay_at 3 C 0 ((.int .i64 a :: .int .i64 b :: .int .i64 c :: .int .i64 0 :: .int .i64 0 :: .int .i64 0 :: .int .i64 0 :: .int .u8 0 :: .int .u8 0 :: .int .u8 0 :: .int .u8 0 :: .int .u8 0 :: .int .u8 0 :: .int .u8 0 :: .int .u8 0 :: .int .u8 0 :: .int .u8 0 :: .int .u8 0 :: .int .u8 0 :: .int .u8 0 :: .int .u8 0 :: .int .u8 0 :: .int .u8 0 :: .int .u8 0 :: .int .u8 0 :: .int .u8 0 :: .int .u8 0 :: .int .u8 0 :: .int .u8 0 :: .int .u8 0 :: .int .u8 0 :: .int .u8 0 :: .int .u8 0 :: .int .u8 0 :: .int .u8 0 :: .int .u8 0 :: .int .u8 0 :: .int .u8 0 :: .int .u8 0 :: [] : List Value)) (by rw [h]; exact Nat.le_refl 39)
  rw [Nat.add_zero] at h1
  rw [h1]
  unfold lay
  rw [h]
  rw [List.drop_of_length_le (Nat.le_refl 39), List.append_nil]
  rfl

set_option maxHeartbeats 2000000 in
theorem rcm_key (x a b c L K P Q r0 r1 r2 : Int) (T : Bytes) (w : World) (hT : T.length = 32) (hx : x < 1 ∨ ¬ x < 1 ∧ 1073741789 ≤ x) :
    Calls Tryd.prog 10 #[.int .i64 x, .agg #[.int .i64 a, .int .i64 b, .int .i64 c], .agg (retC L K P Q T).toArray, .agg #[.int .i64 r0, .int .i64 r1, .int .i64 r2]] w fun e w' => e = .returned (.tuple #[.agg #[.int .i64 0, .int .i64 0, .int .i64 0, .int .i64 0, .int .i64 0, .int .i64 0], .int .i64 110]) ∧ Below w.heap.size w w' := by
  rcases hx with h0 | ⟨h0, h1⟩
  ·
    obtain ⟨C, hC⟩ : ∃ C, C = retC L K P Q T := ⟨_, rfl⟩
    have IC : Seal ((Tryd.prog.info? 29).map (·.size) = some C.toArray.size) := ⟨by rw [hC, List.size_toArray]; exact retC_info hT⟩
    have LC : Seal (C.length = 36) := ⟨by rw [hC]; exact retC_len hT⟩
    have OC : Seal (∀ u ∈ C, u.oneCell' = true) := ⟨by rw [hC]; exact retC_one _ _ _ _ _⟩
    have HCq := Seal.mk hC
    obtain ⟨Z, hZ⟩ : ∃ Z : Array Value, Z = #[.int .i64 0, .int .i64 0, .int .i64 0, .int .i64 0, .int .i64 0, .int .i64 0] := ⟨_, rfl⟩
    have IZ : Seal ((Tryd.prog.info? 32).map (·.size) = some Z.size) := ⟨by rw [hZ]; kernel_rfl⟩
    have OZ : Seal (Z.all (·.oneCell') = true) := ⟨by rw [hZ]; simp [Value.oneCell']⟩
    have HZq := Seal.mk hZ
    obtain ⟨X, hX⟩ : ∃ X : World, X = (((w.alloc (.cells #[.int .i64 a, .int .i64 b, .int .i64 c] 23)).alloc (.cells C.toArray 29)).alloc (.cells #[.int .i64 r0, .int .i64 r1, .int .i64 r2] 22)).alloc (.cells #[.int .i64 0, .int .i64 0, .int .i64 0, .int .i64 0, .int .i64 0, .int .i64 0] 32) := ⟨_, rfl⟩
    have hXb : Seal (Below w.heap.size w X) := ⟨by rw [hX]; exact ((((Below.refl _ w).alloc (Nat.le_refl _) _).alloc (by simp) _).alloc (by simp <;> omega) _).alloc (by simp <;> omega) _⟩
    have hXs : Seal (X.heap.size = w.heap.size + 4) := ⟨by rw [hX]; simp⟩
    have hX0 : X.heap[w.heap.size]? = some (.cells #[.int .i64 a, .int .i64 b, .int .i64 c] 23 (0, 0)) := by rw [hX, Below.heap_alloc _ _ _ (by simp <;> omega), Below.heap_alloc _ _ _ (by simp <;> omega), Below.heap_alloc _ _ _ (by simp)]; exact heap_alloc_new w _
    have hX1 : Seal (X.heap[w.heap.size + 1]? = some (.cells C.toArray 29 (0, 0))) := ⟨by rw [hX, Below.heap_alloc _ _ _ (by simp <;> omega), Below.heap_alloc _ _ _ (by simp)]; have := heap_alloc_new (w.alloc (.cells #[.int .i64 a, .int .i64 b, .int .i64 c] 23)) (.cells C.toArray 29); rwa [size_alloc] at this⟩
    have hX2 : X.heap[w.heap.size + 1 + 1]? = some (.cells #[.int .i64 r0, .int .i64 r1, .int .i64 r2] 22 (0, 0)) := by rw [hX, Below.heap_alloc _ _ _ (by simp)]; have := heap_alloc_new ((w.alloc (.cells #[.int .i64 a, .int .i64 b, .int .i64 c] 23)).alloc (.cells C.toArray 29)) (.cells #[.int .i64 r0, .int .i64 r1, .int .i64 r2] 22); rwa [size_alloc, size_alloc] at this
    have hX3 : Seal (X.heap[w.heap.size + 1 + 1 + 1]? = some (.cells Z 32 (0, 0))) := ⟨by rw [hX, hZ]; have := heap_alloc_new (((w.alloc (.cells #[.int .i64 a, .int .i64 b, .int .i64 c] 23)).alloc (.cells C.toArray 29)).alloc (.cells #[.int .i64 r0, .int .i64 r1, .int .i64 r2] 22)) (.cells #[.int .i64 0, .int .i64 0, .int .i64 0, .int .i64 0, .int .i64 0, .int .i64 0] 32); rwa [size_alloc, size_alloc, size_alloc] at this⟩
    have a0 : X.cell? ⟨w.heap.size, 0, none⟩ = some (.int .i64 a) := by rw [cell_of_row _ _ _ _ _ _ hX0]; rfl
    have a1 : X.cell? ⟨w.heap.size, 1, none⟩ = some (.int .i64 b) := by rw [cell_of_row _ _ _ _ _ _ hX0]; rfl
    have a2 : X.cell? ⟨w.heap.size, 2, none⟩ = some (.int .i64 c) := by rw [cell_of_row _ _ _ _ _ _ hX0]; rfl
    have s0 : X.cell? ⟨w.heap.size + 1 + 1, 0, none⟩ = some (.int .i64 r0) := by rw [cell_of_row _ _ _ _ _ _ hX2]; rfl
    have s1 : X.cell? ⟨w.heap.size + 1 + 1, 1, none⟩ = some (.int .i64 r1) := by rw [cell_of_row _ _ _ _ _ _ hX2]; rfl
    have s2 : X.cell? ⟨w.heap.size + 1 + 1, 2, none⟩ = some (.int .i64 r2) := by rw [cell_of_row _ _ _ _ _ _ hX2]; rfl
    have HSr := Seal.mk (And.intro s0 (And.intro s1 s2))
    rw [← hC]
    clear hC hZ hX0 hX2 s0 s1 s2
    go_enter Tryd.func10, Tryd.ntmps10
    go_upto_region 1 with (fail)
    rw [← hX]
    clear hX
    have hfold := fold_ans LC.out a b c
    obtain ⟨D, hD⟩ : ∃ D, D = (.int .i64 a :: .int .i64 b :: .int .i64 c :: C : List Value) := ⟨_, rfl⟩
    rw [← hD] at hfold
    have ID : Seal ((Tryd.prog.info? 71).map (·.size) = some D.length) := ⟨by rw [hD, List.length_cons, List.length_cons, List.length_cons, LC.out]; kernel_rfl⟩
    have LD : Seal (((.int .i64 0 :: .int .i64 0 :: .int .i64 0 :: .int .i64 0 :: .int .i64 0 :: .int .i64 0 :: .int .i64 0 :: .int .u8 0 :: .int .u8 0 :: .int .u8 0 :: .int .u8 0 :: .int .u8 0 :: .int .u8 0 :: .int .u8 0 :: .int .u8 0 :: .int .u8 0 :: .int .u8 0 :: .int .u8 0 :: .int .u8 0 :: .int .u8 0 :: .int .u8 0 :: .int .u8 0 :: .int .u8 0 :: .int .u8 0 :: .int .u8 0 :: .int .u8 0 :: .int .u8 0 :: .int .u8 0 :: .int .u8 0 :: .int .u8 0 :: .int .u8 0 :: .int .u8 0 :: .int .u8 0 :: .int .u8 0 :: .int .u8 0 :: .int .u8 0 :: .int .u8 0 :: .int .u8 0 :: .int .u8 0 :: [] : List Value)).length = D.length) := ⟨by show 39 = D.length; rw [hD, List.length_cons, List.length_cons, List.length_cons, LC.out]⟩
    have OD : Seal (∀ u ∈ D, u.oneCell' = true) := ⟨by
      rw [hD]
      intro u hu
      simp only [List.mem_cons] at hu
      rcases hu with rfl | rfl | rfl | hu
      · rfl
      · rfl
      · rfl
      · exact OC.out u hu⟩
    have HDq := Seal.mk hD
    have cC := LC.out
    have irC : (Tryd.prog.info? 29).map (·.size) = some 36 := by kernel_rfl
    clear hD
    go_upto_region 2 with (first | (refine wpList_load_row rfl 29 (.tmp 6) rfl (w.heap.size + 1) rfl 29 C.toArray (0, 0) _ hX1.out Tryd.underlying29 rfl IC.out ?_) | (refine wpList_store_new rfl 71 (.tmp 10) (.tmp 15) rfl (.int .i64 0 :: .int .i64 0 :: .int .i64 0 :: .int .i64 0 :: .int .i64 0 :: .int .i64 0 :: .int .i64 0 :: .int .u8 0 :: .int .u8 0 :: .int .u8 0 :: .int .u8 0 :: .int .u8 0 :: .int .u8 0 :: .int .u8 0 :: .int .u8 0 :: .int .u8 0 :: .int .u8 0 :: .int .u8 0 :: .int .u8 0 :: .int .u8 0 :: .int .u8 0 :: .int .u8 0 :: .int .u8 0 :: .int .u8 0 :: .int .u8 0 :: .int .u8 0 :: .int .u8 0 :: .int .u8 0 :: .int .u8 0 :: .int .u8 0 :: .int .u8 0 :: .int .u8 0 :: .int .u8 0 :: .int .u8 0 :: .int .u8 0 :: .int .u8 0 :: .int .u8 0 :: .int .u8 0 :: .int .u8 0 :: [] : List Value) D 71 rfl rfl ID.out LD.out OD.out ?_))
    obtain ⟨Y, hY⟩ : ∃ Y, Y = X.alloc (.cells D.toArray 71) := ⟨_, rfl⟩
    have HYb : Seal (Below w.heap.size w Y) := ⟨by rw [hY]; exact hXb.out.alloc hXb.out.size _⟩
    have HYx : Seal (Below X.heap.size X Y) := ⟨by rw [hY]; exact below_alloc _ _⟩
    have hYd : Y.heap[X.heap.size]? = some (.cells D.toArray 71 (0, 0)) := by rw [hY]; exact heap_alloc_new X _
    have HYz : Seal (Y.heap[w.heap.size + 1 + 1 + 1]? = some (.cells Z 32 (0, 0))) := ⟨blk HYx.out (Array.getElem?_eq_some_iff.1 hX3.out).1 hX3.out⟩
    have d0 : Y.cell? ⟨X.heap.size, 0, none⟩ = some (.int .i64 a) := by rw [cell_of_row _ _ _ _ _ _ hYd, HDq.out]; rfl
    have d1 : Y.cell? ⟨X.heap.size, 1, none⟩ = some (.int .i64 b) := by rw [cell_of_row _ _ _ _ _ _ hYd, HDq.out]; rfl
    have d2 : Y.cell? ⟨X.heap.size, 2, none⟩ = some (.int .i64 c) := by rw [cell_of_row _ _ _ _ _ _ hYd, HDq.out]; rfl
    have HR : Seal (Y.rangeAt X.heap.size 3 C) := ⟨by
      have := rangeAt_drop (rangeAt_row hYd) 3
      rw [HDq.out, Nat.zero_add] at this
      exact this⟩
    rw [← hY]
    clear hY hYd a0 a1 a2 hfold cC irC
    go_wp2_with (first | (refine wpList_load_row rfl 32 (.tmp 8) rfl (w.heap.size + 1 + 1 + 1) rfl 32 Z (0, 0) _ HYz.out Tryd.underlying32 rfl IZ.out ?_) | (refine wpList_store_row rfl 32 (.tmp 8) (.tmp 22) rfl (w.heap.size + 1 + 1 + 1) Z rfl rfl 32 Z HYz.out IZ.out rfl OZ.out ?_))
    exact bodyPost_ret (results_row_tmp (fn := Tryd.f10) rfl _ _ (w.heap.size + 1 + 1 + 1) 32 Z (0, 0) _ _ rfl rfl (setRow_heap _ _ _ _ _ _ HYz.out) Tryd.underlying32 rfl IZ.out) rfl ⟨by rw [HZq.out]; rfl, below_row HYb.out (by omega) _⟩
  ·
    obtain ⟨C, hC⟩ : ∃ C, C = retC L K P Q T := ⟨_, rfl⟩
    have IC : Seal ((Tryd.prog.info? 29).map (·.size) = some C.toArray.size) := ⟨by rw [hC, List.size_toArray]; exact retC_info hT⟩
    have LC : Seal (C.length = 36) := ⟨by rw [hC]; exact retC_len hT⟩
    have OC : Seal (∀ u ∈ C, u.oneCell' = true) := ⟨by rw [hC]; exact retC_one _ _ _ _ _⟩
    have HCq := Seal.mk hC
    obtain ⟨Z, hZ⟩ : ∃ Z : Array Value, Z = #[.int .i64 0, .int .i64 0, .int .i64 0, .int .i64 0, .int .i64 0, .int .i64 0] := ⟨_, rfl⟩
    have IZ : Seal ((Tryd.prog.info? 32).map (·.size) = some Z.size) := ⟨by rw [hZ]; kernel_rfl⟩
    have OZ : Seal (Z.all (·.oneCell') = true) := ⟨by rw [hZ]; simp [Value.oneCell']⟩
    have HZq := Seal.mk hZ
    obtain ⟨X, hX⟩ : ∃ X : World, X = (((w.alloc (.cells #[.int .i64 a, .int .i64 b, .int .i64 c] 23)).alloc (.cells C.toArray 29)).alloc (.cells #[.int .i64 r0, .int .i64 r1, .int .i64 r2] 22)).alloc (.cells #[.int .i64 0, .int .i64 0, .int .i64 0, .int .i64 0, .int .i64 0, .int .i64 0] 32) := ⟨_, rfl⟩
    have hXb : Seal (Below w.heap.size w X) := ⟨by rw [hX]; exact ((((Below.refl _ w).alloc (Nat.le_refl _) _).alloc (by simp) _).alloc (by simp <;> omega) _).alloc (by simp <;> omega) _⟩
    have hXs : Seal (X.heap.size = w.heap.size + 4) := ⟨by rw [hX]; simp⟩
    have hX0 : X.heap[w.heap.size]? = some (.cells #[.int .i64 a, .int .i64 b, .int .i64 c] 23 (0, 0)) := by rw [hX, Below.heap_alloc _ _ _ (by simp <;> omega), Below.heap_alloc _ _ _ (by simp <;> omega), Below.heap_alloc _ _ _ (by simp)]; exact heap_alloc_new w _
    have hX1 : Seal (X.heap[w.heap.size + 1]? = some (.cells C.toArray 29 (0, 0))) := ⟨by rw [hX, Below.heap_alloc _ _ _ (by simp <;> omega), Below.heap_alloc _ _ _ (by simp)]; have := heap_alloc_new (w.alloc (.cells #[.int .i64 a, .int .i64 b, .int .i64 c] 23)) (.cells C.toArray 29); rwa [size_alloc] at this⟩
    have hX2 : X.heap[w.heap.size + 1 + 1]? = some (.cells #[.int .i64 r0, .int .i64 r1, .int .i64 r2] 22 (0, 0)) := by rw [hX, Below.heap_alloc _ _ _ (by simp)]; have := heap_alloc_new ((w.alloc (.cells #[.int .i64 a, .int .i64 b, .int .i64 c] 23)).alloc (.cells C.toArray 29)) (.cells #[.int .i64 r0, .int .i64 r1, .int .i64 r2] 22); rwa [size_alloc, size_alloc] at this
    have hX3 : Seal (X.heap[w.heap.size + 1 + 1 + 1]? = some (.cells Z 32 (0, 0))) := ⟨by rw [hX, hZ]; have := heap_alloc_new (((w.alloc (.cells #[.int .i64 a, .int .i64 b, .int .i64 c] 23)).alloc (.cells C.toArray 29)).alloc (.cells #[.int .i64 r0, .int .i64 r1, .int .i64 r2] 22)) (.cells #[.int .i64 0, .int .i64 0, .int .i64 0, .int .i64 0, .int .i64 0, .int .i64 0] 32); rwa [size_alloc, size_alloc, size_alloc] at this⟩
    have a0 : X.cell? ⟨w.heap.size, 0, none⟩ = some (.int .i64 a) := by rw [cell_of_row _ _ _ _ _ _ hX0]; rfl
    have a1 : X.cell? ⟨w.heap.size, 1, none⟩ = some (.int .i64 b) := by rw [cell_of_row _ _ _ _ _ _ hX0]; rfl
    have a2 : X.cell? ⟨w.heap.size, 2, none⟩ = some (.int .i64 c) := by rw [cell_of_row _ _ _ _ _ _ hX0]; rfl
    have s0 : X.cell? ⟨w.heap.size + 1 + 1, 0, none⟩ = some (.int .i64 r0) := by rw [cell_of_row _ _ _ _ _ _ hX2]; rfl
    have s1 : X.cell? ⟨w.heap.size + 1 + 1, 1, none⟩ = some (.int .i64 r1) := by rw [cell_of_row _ _ _ _ _ _ hX2]; rfl
    have s2 : X.cell? ⟨w.heap.size + 1 + 1, 2, none⟩ = some (.int .i64 r2) := by rw [cell_of_row _ _ _ _ _ _ hX2]; rfl
    have HSr := Seal.mk (And.intro s0 (And.intro s1 s2))
    rw [← hC]
    clear hC hZ hX0 hX2 s0 s1 s2
    go_enter Tryd.func10, Tryd.ntmps10
    go_upto_region 1 with (fail)
    rw [← hX]
    clear hX
    have hfold := fold_ans LC.out a b c
    obtain ⟨D, hD⟩ : ∃ D, D = (.int .i64 a :: .int .i64 b :: .int .i64 c :: C : List Value) := ⟨_, rfl⟩
    rw [← hD] at hfold
    have ID : Seal ((Tryd.prog.info? 71).map (·.size) = some D.length) := ⟨by rw [hD, List.length_cons, List.length_cons, List.length_cons, LC.out]; kernel_rfl⟩
    have LD : Seal (((.int .i64 0 :: .int .i64 0 :: .int .i64 0 :: .int .i64 0 :: .int .i64 0 :: .int .i64 0 :: .int .i64 0 :: .int .u8 0 :: .int .u8 0 :: .int .u8 0 :: .int .u8 0 :: .int .u8 0 :: .int .u8 0 :: .int .u8 0 :: .int .u8 0 :: .int .u8 0 :: .int .u8 0 :: .int .u8 0 :: .int .u8 0 :: .int .u8 0 :: .int .u8 0 :: .int .u8 0 :: .int .u8 0 :: .int .u8 0 :: .int .u8 0 :: .int .u8 0 :: .int .u8 0 :: .int .u8 0 :: .int .u8 0 :: .int .u8 0 :: .int .u8 0 :: .int .u8 0 :: .int .u8 0 :: .int .u8 0 :: .int .u8 0 :: .int .u8 0 :: .int .u8 0 :: .int .u8 0 :: .int .u8 0 :: [] : List Value)).length = D.length) := ⟨by show 39 = D.length; rw [hD, List.length_cons, List.length_cons, List.length_cons, LC.out]⟩
    have OD : Seal (∀ u ∈ D, u.oneCell' = true) := ⟨by
      rw [hD]
      intro u hu
      simp only [List.mem_cons] at hu
      rcases hu with rfl | rfl | rfl | hu
      · rfl
      · rfl
      · rfl
      · exact OC.out u hu⟩
    have HDq := Seal.mk hD
    have cC := LC.out
    have irC : (Tryd.prog.info? 29).map (·.size) = some 36 := by kernel_rfl
    clear hD
    go_upto_region 2 with (first | (refine wpList_load_row rfl 29 (.tmp 6) rfl (w.heap.size + 1) rfl 29 C.toArray (0, 0) _ hX1.out Tryd.underlying29 rfl IC.out ?_) | (refine wpList_store_new rfl 71 (.tmp 10) (.tmp 15) rfl (.int .i64 0 :: .int .i64 0 :: .int .i64 0 :: .int .i64 0 :: .int .i64 0 :: .int .i64 0 :: .int .i64 0 :: .int .u8 0 :: .int .u8 0 :: .int .u8 0 :: .int .u8 0 :: .int .u8 0 :: .int .u8 0 :: .int .u8 0 :: .int .u8 0 :: .int .u8 0 :: .int .u8 0 :: .int .u8 0 :: .int .u8 0 :: .int .u8 0 :: .int .u8 0 :: .int .u8 0 :: .int .u8 0 :: .int .u8 0 :: .int .u8 0 :: .int .u8 0 :: .int .u8 0 :: .int .u8 0 :: .int .u8 0 :: .int .u8 0 :: .int .u8 0 :: .int .u8 0 :: .int .u8 0 :: .int .u8 0 :: .int .u8 0 :: .int .u8 0 :: .int .u8 0 :: .int .u8 0 :: .int .u8 0 :: [] : List Value) D 71 rfl rfl ID.out LD.out OD.out ?_))
    obtain ⟨Y, hY⟩ : ∃ Y, Y = X.alloc (.cells D.toArray 71) := ⟨_, rfl⟩
    have HYb : Seal (Below w.heap.size w Y) := ⟨by rw [hY]; exact hXb.out.alloc hXb.out.size _⟩
    have HYx : Seal (Below X.heap.size X Y) := ⟨by rw [hY]; exact below_alloc _ _⟩
    have hYd : Y.heap[X.heap.size]? = some (.cells D.toArray 71 (0, 0)) := by rw [hY]; exact heap_alloc_new X _
    have HYz : Seal (Y.heap[w.heap.size + 1 + 1 + 1]? = some (.cells Z 32 (0, 0))) := ⟨blk HYx.out (Array.getElem?_eq_some_iff.1 hX3.out).1 hX3.out⟩
    have d0 : Y.cell? ⟨X.heap.size, 0, none⟩ = some (.int .i64 a) := by rw [cell_of_row _ _ _ _ _ _ hYd, HDq.out]; rfl
    have d1 : Y.cell? ⟨X.heap.size, 1, none⟩ = some (.int .i64 b) := by rw [cell_of_row _ _ _ _ _ _ hYd, HDq.out]; rfl
    have d2 : Y.cell? ⟨X.heap.size, 2, none⟩ = some (.int .i64 c) := by rw [cell_of_row _ _ _ _ _ _ hYd, HDq.out]; rfl
    have HR : Seal (Y.rangeAt X.heap.size 3 C) := ⟨by
      have := rangeAt_drop (rangeAt_row hYd) 3
      rw [HDq.out, Nat.zero_add] at this
      exact this⟩
    rw [← hY]
    clear hY hYd a0 a1 a2 hfold cC irC
    go_wp2_with (first | (refine wpList_load_row rfl 32 (.tmp 8) rfl (w.heap.size + 1 + 1 + 1) rfl 32 Z (0, 0) _ HYz.out Tryd.underlying32 rfl IZ.out ?_) | (refine wpList_store_row rfl 32 (.tmp 8) (.tmp 22) rfl (w.heap.size + 1 + 1 + 1) Z rfl rfl 32 Z HYz.out IZ.out rfl OZ.out ?_))
    exact bodyPost_ret (results_row_tmp (fn := Tryd.f10) rfl _ _ (w.heap.size + 1 + 1 + 1) 32 Z (0, 0) _ _ rfl rfl (setRow_heap _ _ _ _ _ _ HYz.out) Tryd.underlying32 rfl IZ.out) rfl ⟨by rw [HZq.out]; rfl, below_row HYb.out (by omega) _⟩

set_option maxHeartbeats 2000000 in
theorem rcm_word (x a b c L K P Q r0 r1 r2 : Int) (T : Bytes) (w : World) (hT : T.length = 32) (h0 : ¬ x < 1) (h1 : ¬ 1073741789 ≤ x) (hwd : Seal ((wdB a && (wdB b && wdB c)) = false)) :
    Calls Tryd.prog 10 #[.int .i64 x, .agg #[.int .i64 a, .int .i64 b, .int .i64 c], .agg (retC L K P Q T).toArray, .agg #[.int .i64 r0, .int .i64 r1, .int .i64 r2]] w fun e w' => e = .returned (.tuple #[.agg #[.int .i64 0, .int .i64 0, .int .i64 0, .int .i64 0, .int .i64 0, .int .i64 0], .int .i64 430]) ∧ Below w.heap.size w w' := by
  obtain ⟨C, hC⟩ : ∃ C, C = retC L K P Q T := ⟨_, rfl⟩
  have IC : Seal ((Tryd.prog.info? 29).map (·.size) = some C.toArray.size) := ⟨by rw [hC, List.size_toArray]; exact retC_info hT⟩
  have LC : Seal (C.length = 36) := ⟨by rw [hC]; exact retC_len hT⟩
  have OC : Seal (∀ u ∈ C, u.oneCell' = true) := ⟨by rw [hC]; exact retC_one _ _ _ _ _⟩
  have HCq := Seal.mk hC
  obtain ⟨Z, hZ⟩ : ∃ Z : Array Value, Z = #[.int .i64 0, .int .i64 0, .int .i64 0, .int .i64 0, .int .i64 0, .int .i64 0] := ⟨_, rfl⟩
  have IZ : Seal ((Tryd.prog.info? 32).map (·.size) = some Z.size) := ⟨by rw [hZ]; kernel_rfl⟩
  have OZ : Seal (Z.all (·.oneCell') = true) := ⟨by rw [hZ]; simp [Value.oneCell']⟩
  have HZq := Seal.mk hZ
  obtain ⟨X, hX⟩ : ∃ X : World, X = (((w.alloc (.cells #[.int .i64 a, .int .i64 b, .int .i64 c] 23)).alloc (.cells C.toArray 29)).alloc (.cells #[.int .i64 r0, .int .i64 r1, .int .i64 r2] 22)).alloc (.cells #[.int .i64 0, .int .i64 0, .int .i64 0, .int .i64 0, .int .i64 0, .int .i64 0] 32) := ⟨_, rfl⟩
  have hXb : Seal (Below w.heap.size w X) := ⟨by rw [hX]; exact ((((Below.refl _ w).alloc (Nat.le_refl _) _).alloc (by simp) _).alloc (by simp <;> omega) _).alloc (by simp <;> omega) _⟩
  have hXs : Seal (X.heap.size = w.heap.size + 4) := ⟨by rw [hX]; simp⟩
  have hX0 : X.heap[w.heap.size]? = some (.cells #[.int .i64 a, .int .i64 b, .int .i64 c] 23 (0, 0)) := by rw [hX, Below.heap_alloc _ _ _ (by simp <;> omega), Below.heap_alloc _ _ _ (by simp <;> omega), Below.heap_alloc _ _ _ (by simp)]; exact heap_alloc_new w _
  have hX1 : Seal (X.heap[w.heap.size + 1]? = some (.cells C.toArray 29 (0, 0))) := ⟨by rw [hX, Below.heap_alloc _ _ _ (by simp <;> omega), Below.heap_alloc _ _ _ (by simp)]; have := heap_alloc_new (w.alloc (.cells #[.int .i64 a, .int .i64 b, .int .i64 c] 23)) (.cells C.toArray 29); rwa [size_alloc] at this⟩
  have hX2 : X.heap[w.heap.size + 1 + 1]? = some (.cells #[.int .i64 r0, .int .i64 r1, .int .i64 r2] 22 (0, 0)) := by rw [hX, Below.heap_alloc _ _ _ (by simp)]; have := heap_alloc_new ((w.alloc (.cells #[.int .i64 a, .int .i64 b, .int .i64 c] 23)).alloc (.cells C.toArray 29)) (.cells #[.int .i64 r0, .int .i64 r1, .int .i64 r2] 22); rwa [size_alloc, size_alloc] at this
  have hX3 : Seal (X.heap[w.heap.size + 1 + 1 + 1]? = some (.cells Z 32 (0, 0))) := ⟨by rw [hX, hZ]; have := heap_alloc_new (((w.alloc (.cells #[.int .i64 a, .int .i64 b, .int .i64 c] 23)).alloc (.cells C.toArray 29)).alloc (.cells #[.int .i64 r0, .int .i64 r1, .int .i64 r2] 22)) (.cells #[.int .i64 0, .int .i64 0, .int .i64 0, .int .i64 0, .int .i64 0, .int .i64 0] 32); rwa [size_alloc, size_alloc, size_alloc] at this⟩
  have a0 : X.cell? ⟨w.heap.size, 0, none⟩ = some (.int .i64 a) := by rw [cell_of_row _ _ _ _ _ _ hX0]; rfl
  have a1 : X.cell? ⟨w.heap.size, 1, none⟩ = some (.int .i64 b) := by rw [cell_of_row _ _ _ _ _ _ hX0]; rfl
  have a2 : X.cell? ⟨w.heap.size, 2, none⟩ = some (.int .i64 c) := by rw [cell_of_row _ _ _ _ _ _ hX0]; rfl
  have s0 : X.cell? ⟨w.heap.size + 1 + 1, 0, none⟩ = some (.int .i64 r0) := by rw [cell_of_row _ _ _ _ _ _ hX2]; rfl
  have s1 : X.cell? ⟨w.heap.size + 1 + 1, 1, none⟩ = some (.int .i64 r1) := by rw [cell_of_row _ _ _ _ _ _ hX2]; rfl
  have s2 : X.cell? ⟨w.heap.size + 1 + 1, 2, none⟩ = some (.int .i64 r2) := by rw [cell_of_row _ _ _ _ _ _ hX2]; rfl
  have HSr := Seal.mk (And.intro s0 (And.intro s1 s2))
  rw [← hC]
  clear hC hZ hX0 hX2 s0 s1 s2
  go_enter Tryd.func10, Tryd.ntmps10
  go_upto_region 1 with (fail)
  rw [← hX]
  clear hX
  have hfold := fold_ans LC.out a b c
  obtain ⟨D, hD⟩ : ∃ D, D = (.int .i64 a :: .int .i64 b :: .int .i64 c :: C : List Value) := ⟨_, rfl⟩
  rw [← hD] at hfold
  have ID : Seal ((Tryd.prog.info? 71).map (·.size) = some D.length) := ⟨by rw [hD, List.length_cons, List.length_cons, List.length_cons, LC.out]; kernel_rfl⟩
  have LD : Seal (((.int .i64 0 :: .int .i64 0 :: .int .i64 0 :: .int .i64 0 :: .int .i64 0 :: .int .i64 0 :: .int .i64 0 :: .int .u8 0 :: .int .u8 0 :: .int .u8 0 :: .int .u8 0 :: .int .u8 0 :: .int .u8 0 :: .int .u8 0 :: .int .u8 0 :: .int .u8 0 :: .int .u8 0 :: .int .u8 0 :: .int .u8 0 :: .int .u8 0 :: .int .u8 0 :: .int .u8 0 :: .int .u8 0 :: .int .u8 0 :: .int .u8 0 :: .int .u8 0 :: .int .u8 0 :: .int .u8 0 :: .int .u8 0 :: .int .u8 0 :: .int .u8 0 :: .int .u8 0 :: .int .u8 0 :: .int .u8 0 :: .int .u8 0 :: .int .u8 0 :: .int .u8 0 :: .int .u8 0 :: .int .u8 0 :: [] : List Value)).length = D.length) := ⟨by show 39 = D.length; rw [hD, List.length_cons, List.length_cons, List.length_cons, LC.out]⟩
  have OD : Seal (∀ u ∈ D, u.oneCell' = true) := ⟨by
    rw [hD]
    intro u hu
    simp only [List.mem_cons] at hu
    rcases hu with rfl | rfl | rfl | hu
    · rfl
    · rfl
    · rfl
    · exact OC.out u hu⟩
  have HDq := Seal.mk hD
  have cC := LC.out
  have irC : (Tryd.prog.info? 29).map (·.size) = some 36 := by kernel_rfl
  clear hD
  go_upto_region 2 with (first | (refine wpList_load_row rfl 29 (.tmp 6) rfl (w.heap.size + 1) rfl 29 C.toArray (0, 0) _ hX1.out Tryd.underlying29 rfl IC.out ?_) | (refine wpList_store_new rfl 71 (.tmp 10) (.tmp 15) rfl (.int .i64 0 :: .int .i64 0 :: .int .i64 0 :: .int .i64 0 :: .int .i64 0 :: .int .i64 0 :: .int .i64 0 :: .int .u8 0 :: .int .u8 0 :: .int .u8 0 :: .int .u8 0 :: .int .u8 0 :: .int .u8 0 :: .int .u8 0 :: .int .u8 0 :: .int .u8 0 :: .int .u8 0 :: .int .u8 0 :: .int .u8 0 :: .int .u8 0 :: .int .u8 0 :: .int .u8 0 :: .int .u8 0 :: .int .u8 0 :: .int .u8 0 :: .int .u8 0 :: .int .u8 0 :: .int .u8 0 :: .int .u8 0 :: .int .u8 0 :: .int .u8 0 :: .int .u8 0 :: .int .u8 0 :: .int .u8 0 :: .int .u8 0 :: .int .u8 0 :: .int .u8 0 :: .int .u8 0 :: .int .u8 0 :: [] : List Value) D 71 rfl rfl ID.out LD.out OD.out ?_))
  obtain ⟨Y, hY⟩ : ∃ Y, Y = X.alloc (.cells D.toArray 71) := ⟨_, rfl⟩
  have HYb : Seal (Below w.heap.size w Y) := ⟨by rw [hY]; exact hXb.out.alloc hXb.out.size _⟩
  have HYx : Seal (Below X.heap.size X Y) := ⟨by rw [hY]; exact below_alloc _ _⟩
  have hYd : Y.heap[X.heap.size]? = some (.cells D.toArray 71 (0, 0)) := by rw [hY]; exact heap_alloc_new X _
  have HYz : Seal (Y.heap[w.heap.size + 1 + 1 + 1]? = some (.cells Z 32 (0, 0))) := ⟨blk HYx.out (Array.getElem?_eq_some_iff.1 hX3.out).1 hX3.out⟩
  have d0 : Y.cell? ⟨X.heap.size, 0, none⟩ = some (.int .i64 a) := by rw [cell_of_row _ _ _ _ _ _ hYd, HDq.out]; rfl
  have d1 : Y.cell? ⟨X.heap.size, 1, none⟩ = some (.int .i64 b) := by rw [cell_of_row _ _ _ _ _ _ hYd, HDq.out]; rfl
  have d2 : Y.cell? ⟨X.heap.size, 2, none⟩ = some (.int .i64 c) := by rw [cell_of_row _ _ _ _ _ _ hYd, HDq.out]; rfl
  have HR : Seal (Y.rangeAt X.heap.size 3 C) := ⟨by
    have := rangeAt_drop (rangeAt_row hYd) 3
    rw [HDq.out, Nat.zero_add] at this
    exact this⟩
  rw [← hY]
  clear hY hYd a0 a1 a2 hfold cC irC
  have HA : Seal (Calls Tryd.prog 27 #[.slice (some ⟨X.heap.size, 0, none⟩) 3 3, .func (.func 28) #[] #[]] Y fun e w' => e = .returned (.bool false) ∧ Y = w') := ⟨by rw [← hwd.out]; exact all_three X.heap.size 0 3 a b c Y d0 d1 d2⟩
  go_wp2_with fail
  refine HA.out.mono ?_
  rintro e w1 ⟨rfl, rfl⟩
  go_wp2_with (first | (refine wpList_load_row rfl 32 (.tmp 8) rfl (w.heap.size + 1 + 1 + 1) rfl 32 Z (0, 0) _ HYz.out Tryd.underlying32 rfl IZ.out ?_) | (refine wpList_store_row rfl 32 (.tmp 8) (.tmp 28) rfl (w.heap.size + 1 + 1 + 1) Z rfl rfl 32 Z HYz.out IZ.out rfl OZ.out ?_))
  exact bodyPost_ret (results_row_tmp (fn := Tryd.f10) rfl _ _ (w.heap.size + 1 + 1 + 1) 32 Z (0, 0) _ _ rfl rfl (setRow_heap _ _ _ _ _ _ HYz.out) Tryd.underlying32 rfl IZ.out) rfl ⟨by rw [HZq.out]; rfl, below_row HYb.out (by omega) _⟩

set_option maxHeartbeats 4000000 in
theorem rcm_ok (x a b c L K P Q r0 r1 r2 E S x0 y0 x1 y1 x2 y2 e0 : Int) (T : Bytes) (w : World) (hG : Glob w) (hT : T.length = 32) (h0 : ¬ x < 1) (h1 : ¬ 1073741789 ≤ x) (hwd : Seal ((wdB a && (wdB b && wdB c)) = true))
    (HTx : Seal (∀ W, Calls Tryd.prog 29 #[.agg #[.int .i64 a, .int .i64 b, .int .i64 c]] W (ListPost (rcT a b c) W)))
    (HSg : Seal (∀ W g n cap, Glob W → IsB W g n cap (rcT a b c) → n ≤ 1099511627776 → Calls Tryd.prog 17 #[.int .i64 x, .slice g n cap] W fun e w' => e = .returned (.tuple #[.agg #[.int .i64 E, .int .i64 S], .int .i64 0]) ∧ Below W.heap.size W w'))
    (HES : 0 ≤ E ∧ E < 1073741789 ∧ 0 ≤ S ∧ S < 1073741789)
    (HU : Seal (∀ W, Glob W → Calls Tryd.prog 24 #[.agg (retC L K P Q T).toArray, .agg #[.int .i64 (E + 1), .int .i64 (S + 1)], .agg #[.int .i64 r0, .int .i64 r1, .int .i64 r2]] W fun e' w' => e' = .returned (.tuple #[.agg #[.int .i64 x0, .int .i64 y0, .int .i64 x1, .int .i64 y1, .int .i64 x2, .int .i64 y2], .int .i64 e0]) ∧ Below W.heap.size W w')) :
    Calls Tryd.prog 10 #[.int .i64 x, .agg #[.int .i64 a, .int .i64 b, .int .i64 c], .agg (retC L K P Q T).toArray, .agg #[.int .i64 r0, .int .i64 r1, .int .i64 r2]] w fun e w' => e = .returned (.tuple #[.agg #[.int .i64 x0, .int .i64 y0, .int .i64 x1, .int .i64 y1, .int .i64 x2, .int .i64 y2], .int .i64 e0]) ∧ Below w.heap.size w w' := by
  have HG := Seal.mk hG
  obtain ⟨e1, e2, e3, e4⟩ := HES
  clear hG
  obtain ⟨M, hM⟩ : ∃ M : Array Value, M = #[.int .i64 x0, .int .i64 y0, .int .i64 x1, .int .i64 y1, .int .i64 x2, .int .i64 y2] := ⟨_, rfl⟩
  have IM : Seal ((Tryd.prog.info? 32).map (·.size) = some M.size) := ⟨by rw [hM]; kernel_rfl⟩
  have OM : Seal (M.all (·.oneCell') = true) := ⟨by rw [hM]; simp [Value.oneCell']⟩
  have HMs : Seal (6 = M.size) := ⟨by rw [hM]; rfl⟩
  rw [← hM] at HU ⊢
  clear hM
  have HU' := HU
  clear HU
  obtain ⟨C, hC⟩ : ∃ C, C = retC L K P Q T := ⟨_, rfl⟩
  have IC : Seal ((Tryd.prog.info? 29).map (·.size) = some C.toArray.size) := ⟨by rw [hC, List.size_toArray]; exact retC_info hT⟩
  have LC : Seal (C.length = 36) := ⟨by rw [hC]; exact retC_len hT⟩
  have OC : Seal (∀ u ∈ C, u.oneCell' = true) := ⟨by rw [hC]; exact retC_one _ _ _ _ _⟩
  have HCq := Seal.mk hC
  obtain ⟨Z, hZ⟩ : ∃ Z : Array Value, Z = #[.int .i64 0, .int .i64 0, .int .i64 0, .int .i64 0, .int .i64 0, .int .i64 0] := ⟨_, rfl⟩
  have IZ : Seal ((Tryd.prog.info? 32).map (·.size) = some Z.size) := ⟨by rw [hZ]; kernel_rfl⟩
  have OZ : Seal (Z.all (·.oneCell') = true) := ⟨by rw [hZ]; simp [Value.oneCell']⟩
  have HZq := Seal.mk hZ
  obtain ⟨X, hX⟩ : ∃ X : World, X = (((w.alloc (.cells #[.int .i64 a, .int .i64 b, .int .i64 c] 23)).alloc (.cells C.toArray 29)).alloc (.cells #[.int .i64 r0, .int .i64 r1, .int .i64 r2] 22)).alloc (.cells #[.int .i64 0, .int .i64 0, .int .i64 0, .int .i64 0, .int .i64 0, .int .i64 0] 32) := ⟨_, rfl⟩
  have hXb : Seal (Below w.heap.size w X) := ⟨by rw [hX]; exact ((((Below.refl _ w).alloc (Nat.le_refl _) _).alloc (by simp) _).alloc (by simp <;> omega) _).alloc (by simp <;> omega) _⟩
  have hXs : Seal (X.heap.size = w.heap.size + 4) := ⟨by rw [hX]; simp⟩
  have hX0 : X.heap[w.heap.size]? = some (.cells #[.int .i64 a, .int .i64 b, .int .i64 c] 23 (0, 0)) := by rw [hX, Below.heap_alloc _ _ _ (by simp <;> omega), Below.heap_alloc _ _ _ (by simp <;> omega), Below.heap_alloc _ _ _ (by simp)]; exact heap_alloc_new w _
  have hX1 : Seal (X.heap[w.heap.size + 1]? = some (.cells C.toArray 29 (0, 0))) := ⟨by rw [hX, Below.heap_alloc _ _ _ (by simp <;> omega), Below.heap_alloc _ _ _ (by simp)]; have := heap_alloc_new (w.alloc (.cells #[.int .i64 a, .int .i64 b, .int .i64 c] 23)) (.cells C.toArray 29); rwa [size_alloc] at this⟩
  have hX2 : X.heap[w.heap.size + 1 + 1]? = some (.cells #[.int .i64 r0, .int .i64 r1, .int .i64 r2] 22 (0, 0)) := by rw [hX, Below.heap_alloc _ _ _ (by simp)]; have := heap_alloc_new ((w.alloc (.cells #[.int .i64 a, .int .i64 b, .int .i64 c] 23)).alloc (.cells C.toArray 29)) (.cells #[.int .i64 r0, .int .i64 r1, .int .i64 r2] 22); rwa [size_alloc, size_alloc] at this
  have hX3 : Seal (X.heap[w.heap.size + 1 + 1 + 1]? = some (.cells Z 32 (0, 0))) := ⟨by rw [hX, hZ]; have := heap_alloc_new (((w.alloc (.cells #[.int .i64 a, .int .i64 b, .int .i64 c] 23)).alloc (.cells C.toArray 29)).alloc (.cells #[.int .i64 r0, .int .i64 r1, .int .i64 r2] 22)) (.cells #[.int .i64 0, .int .i64 0, .int .i64 0, .int .i64 0, .int .i64 0, .int .i64 0] 32); rwa [size_alloc, size_alloc, size_alloc] at this⟩
  have a0 : X.cell? ⟨w.heap.size, 0, none⟩ = some (.int .i64 a) := by rw [cell_of_row _ _ _ _ _ _ hX0]; rfl
  have a1 : X.cell? ⟨w.heap.size, 1, none⟩ = some (.int .i64 b) := by rw [cell_of_row _ _ _ _ _ _ hX0]; rfl
  have a2 : X.cell? ⟨w.heap.size, 2, none⟩ = some (.int .i64 c) := by rw [cell_of_row _ _ _ _ _ _ hX0]; rfl
  have s0 : X.cell? ⟨w.heap.size + 1 + 1, 0, none⟩ = some (.int .i64 r0) := by rw [cell_of_row _ _ _ _ _ _ hX2]; rfl
  have s1 : X.cell? ⟨w.heap.size + 1 + 1, 1, none⟩ = some (.int .i64 r1) := by rw [cell_of_row _ _ _ _ _ _ hX2]; rfl
  have s2 : X.cell? ⟨w.heap.size + 1 + 1, 2, none⟩ = some (.int .i64 r2) := by rw [cell_of_row _ _ _ _ _ _ hX2]; rfl
  have HSr := Seal.mk (And.intro s0 (And.intro s1 s2))
  rw [← hC]
  clear hC hZ hX0 hX2 s0 s1 s2
  go_enter Tryd.func10, Tryd.ntmps10
  go_upto_region 1 with (fail)
  rw [← hX]
  clear hX
  have HU : Seal (∀ W, Glob W → Calls Tryd.prog 24 #[.agg C.toArray, .agg #[.int .i64 (E + 1), .int .i64 (S + 1)], .agg #[.int .i64 r0, .int .i64 r1, .int .i64 r2]] W fun e' w' => e' = .returned (.tuple #[.agg M, .int .i64 e0]) ∧ Below W.heap.size W w') := ⟨by rw [HCq.out]; exact HU'.out⟩
  have SZ : Seal (Z.size = M.size) := ⟨by rw [HZq.out, ← HMs.out]; rfl⟩
  clear HU'
  have hfold := fold_ans LC.out a b c
  obtain ⟨D, hD⟩ : ∃ D, D = (.int .i64 a :: .int .i64 b :: .int .i64 c :: C : List Value) := ⟨_, rfl⟩
  rw [← hD] at hfold
  have ID : Seal ((Tryd.prog.info? 71).map (·.size) = some D.length) := ⟨by rw [hD, List.length_cons, List.length_cons, List.length_cons, LC.out]; kernel_rfl⟩
  have LD : Seal (((.int .i64 0 :: .int .i64 0 :: .int .i64 0 :: .int .i64 0 :: .int .i64 0 :: .int .i64 0 :: .int .i64 0 :: .int .u8 0 :: .int .u8 0 :: .int .u8 0 :: .int .u8 0 :: .int .u8 0 :: .int .u8 0 :: .int .u8 0 :: .int .u8 0 :: .int .u8 0 :: .int .u8 0 :: .int .u8 0 :: .int .u8 0 :: .int .u8 0 :: .int .u8 0 :: .int .u8 0 :: .int .u8 0 :: .int .u8 0 :: .int .u8 0 :: .int .u8 0 :: .int .u8 0 :: .int .u8 0 :: .int .u8 0 :: .int .u8 0 :: .int .u8 0 :: .int .u8 0 :: .int .u8 0 :: .int .u8 0 :: .int .u8 0 :: .int .u8 0 :: .int .u8 0 :: .int .u8 0 :: .int .u8 0 :: [] : List Value)).length = D.length) := ⟨by show 39 = D.length; rw [hD, List.length_cons, List.length_cons, List.length_cons, LC.out]⟩
  have OD : Seal (∀ u ∈ D, u.oneCell' = true) := ⟨by
    rw [hD]
    intro u hu
    simp only [List.mem_cons] at hu
    rcases hu with rfl | rfl | rfl | hu
    · rfl
    · rfl
    · rfl
    · exact OC.out u hu⟩
  have HDq := Seal.mk hD
  have cC := LC.out
  have irC : (Tryd.prog.info? 29).map (·.size) = some 36 := by kernel_rfl
  clear hD
  go_upto_region 2 with (first | (refine wpList_load_row rfl 29 (.tmp 6) rfl (w.heap.size + 1) rfl 29 C.toArray (0, 0) _ hX1.out Tryd.underlying29 rfl IC.out ?_) | (refine wpList_store_new rfl 71 (.tmp 10) (.tmp 15) rfl (.int .i64 0 :: .int .i64 0 :: .int .i64 0 :: .int .i64 0 :: .int .i64 0 :: .int .i64 0 :: .int .i64 0 :: .int .u8 0 :: .int .u8 0 :: .int .u8 0 :: .int .u8 0 :: .int .u8 0 :: .int .u8 0 :: .int .u8 0 :: .int .u8 0 :: .int .u8 0 :: .int .u8 0 :: .int .u8 0 :: .int .u8 0 :: .int .u8 0 :: .int .u8 0 :: .int .u8 0 :: .int .u8 0 :: .int .u8 0 :: .int .u8 0 :: .int .u8 0 :: .int .u8 0 :: .int .u8 0 :: .int .u8 0 :: .int .u8 0 :: .int .u8 0 :: .int .u8 0 :: .int .u8 0 :: .int .u8 0 :: .int .u8 0 :: .int .u8 0 :: .int .u8 0 :: .int .u8 0 :: .int .u8 0 :: [] : List Value) D 71 rfl rfl ID.out LD.out OD.out ?_))
  obtain ⟨Y, hY⟩ : ∃ Y, Y = X.alloc (.cells D.toArray 71) := ⟨_, rfl⟩
  have HYb : Seal (Below w.heap.size w Y) := ⟨by rw [hY]; exact hXb.out.alloc hXb.out.size _⟩
  have HYx : Seal (Below X.heap.size X Y) := ⟨by rw [hY]; exact below_alloc _ _⟩
  have hYd : Y.heap[X.heap.size]? = some (.cells D.toArray 71 (0, 0)) := by rw [hY]; exact heap_alloc_new X _
  have HYz : Seal (Y.heap[w.heap.size + 1 + 1 + 1]? = some (.cells Z 32 (0, 0))) := ⟨blk HYx.out (Array.getElem?_eq_some_iff.1 hX3.out).1 hX3.out⟩
  have d0 : Y.cell? ⟨X.heap.size, 0, none⟩ = some (.int .i64 a) := by rw [cell_of_row _ _ _ _ _ _ hYd, HDq.out]; rfl
  have d1 : Y.cell? ⟨X.heap.size, 1, none⟩ = some (.int .i64 b) := by rw [cell_of_row _ _ _ _ _ _ hYd, HDq.out]; rfl
  have d2 : Y.cell? ⟨X.heap.size, 2, none⟩ = some (.int .i64 c) := by rw [cell_of_row _ _ _ _ _ _ hYd, HDq.out]; rfl
  have HR : Seal (Y.rangeAt X.heap.size 3 C) := ⟨by
    have := rangeAt_drop (rangeAt_row hYd) 3
    rw [HDq.out, Nat.zero_add] at this
    exact this⟩
  rw [← hY]
  clear hY hYd a0 a1 a2 hfold cC irC
  have HA : Seal (Calls Tryd.prog 27 #[.slice (some ⟨X.heap.size, 0, none⟩) 3 3, .func (.func 28) #[] #[]] Y fun e w' => e = .returned (.bool true) ∧ Y = w') := ⟨by rw [← hwd.out]; exact all_three X.heap.size 0 3 a b c Y d0 d1 d2⟩
  go_wp2_with fail
  refine HA.out.mono ?_
  rintro e w1 ⟨rfl, rfl⟩
  go_wp2_with fail
  refine (HTx.out Y).mono ?_
  rintro e w2 ⟨g', n', c', hn, rfl, hf⟩
  have hb2 := hf.out.2.2.2.2
  have HB2 : Seal (Below w.heap.size w w2) := ⟨HYb.out.trans (hb2.mono HYb.out.size)⟩
  have hL := rcT_len a b c
  have HIB : Seal (IsB w2 (some ⟨g', 0, none⟩) n' c' (rcT a b c) ∧ n' ≤ 1099511627776) := ⟨⟨hn.out, hf.out.1, by rw [← hn.out]; omega, hf.out.2.1, .inr ⟨g', 0, rfl, hf.out.2.2.2.1, hf.out.2.2.1⟩⟩, by rw [← hn.out]; omega⟩
  have HY2 : Seal (Below Y.heap.size Y w2) := ⟨hb2⟩
  clear hf hb2 hL d0 d1 d2 HA
  go_wp2_with fail
  refine (HSg.out w2 _ n' c' (HG.out.below HB2.out) HIB.out.1 HIB.out.2).mono ?_
  rintro e w3 ⟨rfl, hb3⟩
  have HB3 : Seal (Below w.heap.size w w3) := ⟨HB2.out.trans (hb3.mono HB2.out.size)⟩
  have hb4 : Below Y.heap.size Y w3 := HY2.out.trans (hb3.mono HY2.out.size)
  have hb5 : Below X.heap.size X w3 := HYx.out.trans (hb4.mono HYx.out.size)
  have HBa : Seal (Below w.heap.size w (w3.alloc (.cells #[.int .i64 E, .int .i64 S] 46))) := ⟨HB3.out.alloc HB3.out.size _⟩
  have HRa : Seal ((w3.alloc (.cells #[.int .i64 E, .int .i64 S] 46)).rangeAt X.heap.size 3 C) := ⟨World.rangeAt_alloc (rangeAt_below' HR.out hb4) _⟩
  have HZa : Seal ((w3.alloc (.cells #[.int .i64 E, .int .i64 S] 46)).heap[w.heap.size + 1 + 1 + 1]? = some (.cells Z 32 (0, 0))) := ⟨by
    have h1 := blk hb4 (Array.getElem?_eq_some_iff.1 HYz.out).1 HYz.out
    exact (Below.heap_alloc w3 _ _ (Array.getElem?_eq_some_iff.1 h1).1).trans h1⟩
  have t0 := cell_allocd (cell_later hb5 HSr.out.1) (.cells #[.int .i64 E, .int .i64 S] 46)
  have t1 := cell_allocd (cell_later hb5 HSr.out.2.1) (.cells #[.int .i64 E, .int .i64 S] 46)
  have t2 := cell_allocd (cell_later hb5 HSr.out.2.2) (.cells #[.int .i64 E, .int .i64 S] 46)
  have ICl : Seal ((Tryd.prog.info? 29).map (·.size) = some C.length) := ⟨IC.out⟩
  clear hb3 hb4 hb5 HIB HY2 HR HYz
  go_wp2_with (refine wpList_load_mid rfl 29 (.tmp 41) rfl X.heap.size 3 rfl C _ HRa.out Tryd.underlying29 rfl ICl.out ?_)
  refine (HU.out _ (HG.out.below HBa.out)).mono ?_
  rintro e w4 ⟨rfl, hb⟩
  have HB4 : Seal (Below w.heap.size w w4) := ⟨HBa.out.trans (hb.mono HBa.out.size)⟩
  have HZ4 : Seal (w4.heap[w.heap.size + 1 + 1 + 1]? = some (.cells Z 32 (0, 0))) := ⟨blk hb (Array.getElem?_eq_some_iff.1 HZa.out).1 HZa.out⟩
  clear hb t0 t1 t2 HZa HRa
  go_wp2_with (refine wpList_store_row rfl 32 (.tmp 8) (.tmp 52) rfl (w.heap.size + 1 + 1 + 1) M rfl rfl 32 Z HZ4.out IM.out SZ.out OM.out ?_)
  exact bodyPost_ret (results_row_tmp (fn := Tryd.f10) rfl _ _ (w.heap.size + 1 + 1 + 1) 32 M (0, 0) _ _ rfl rfl (setRow_heap _ _ _ _ _ _ HZ4.out) Tryd.underlying32 rfl IM.out) rfl ⟨rfl, below_row HB4.out (by omega) _⟩

/-! ## the reference -/
set_option maxHeartbeats 2000000 in
theorem rm43_key (x a b c L K P Q r0 r1 r2 : Int) (T : Bytes) (w : World) (hT : T.length = 32) (hx : x < 1 ∨ ¬ x < 1 ∧ 1073741789 ≤ x) :
    Calls Tryd.prog 11 #[.int .i64 x, .agg #[.int .i64 a, .int .i64 b, .int .i64 c], .agg (retC L K P Q T).toArray, .agg #[.int .i64 r0, .int .i64 r1, .int .i64 r2]] w fun e w' => e = .returned (.tuple #[.agg #[.int .i64 0, .int .i64 0, .int .i64 0, .int .i64 0, .int .i64 0, .int .i64 0], .int .i64 110]) ∧ Below w.heap.size w w' := by
  rcases hx with h0 | ⟨h0, h1⟩
  ·
    obtain ⟨C, hC⟩ : ∃ C, C = retC L K P Q T := ⟨_, rfl⟩
    have IC : Seal ((Tryd.prog.info? 29).map (·.size) = some C.toArray.size) := ⟨by rw [hC, List.size_toArray]; exact retC_info hT⟩
    have LC : Seal (C.length = 36) := ⟨by rw [hC]; exact retC_len hT⟩
    have OC : Seal (∀ u ∈ C, u.oneCell' = true) := ⟨by rw [hC]; exact retC_one _ _ _ _ _⟩
    have HCq := Seal.mk hC
    obtain ⟨Z, hZ⟩ : ∃ Z : Array Value, Z = #[.int .i64 0, .int .i64 0, .int .i64 0, .int .i64 0, .int .i64 0, .int .i64 0] := ⟨_, rfl⟩
    have IZ : Seal ((Tryd.prog.info? 32).map (·.size) = some Z.size) := ⟨by rw [hZ]; kernel_rfl⟩
    have OZ : Seal (Z.all (·.oneCell') = true) := ⟨by rw [hZ]; simp [Value.oneCell']⟩
    have HZq := Seal.mk hZ
    obtain ⟨X, hX⟩ : ∃ X : World, X = (((w.alloc (.cells #[.int .i64 a, .int .i64 b, .int .i64 c] 23)).alloc (.cells C.toArray 29)).alloc (.cells #[.int .i64 r0, .int .i64 r1, .int .i64 r2] 22)).alloc (.cells #[.int .i64 0, .int .i64 0, .int .i64 0, .int .i64 0, .int .i64 0, .int .i64 0] 32) := ⟨_, rfl⟩
    have hXb : Seal (Below w.heap.size w X) := ⟨by rw [hX]; exact ((((Below.refl _ w).alloc (Nat.le_refl _) _).alloc (by simp) _).alloc (by simp <;> omega) _).alloc (by simp <;> omega) _⟩
    have hXs : Seal (X.heap.size = w.heap.size + 4) := ⟨by rw [hX]; simp⟩
    have hX0 : X.heap[w.heap.size]? = some (.cells #[.int .i64 a, .int .i64 b, .int .i64 c] 23 (0, 0)) := by rw [hX, Below.heap_alloc _ _ _ (by simp <;> omega), Below.heap_alloc _ _ _ (by simp <;> omega), Below.heap_alloc _ _ _ (by simp)]; exact heap_alloc_new w _
    have hX1 : Seal (X.heap[w.heap.size + 1]? = some (.cells C.toArray 29 (0, 0))) := ⟨by rw [hX, Below.heap_alloc _ _ _ (by simp <;> omega), Below.heap_alloc _ _ _ (by simp)]; have := heap_alloc_new (w.alloc (.cells #[.int .i64 a, .int .i64 b, .int .i64 c] 23)) (.cells C.toArray 29); rwa [size_alloc] at this⟩
    have hX2 : X.heap[w.heap.size + 1 + 1]? = some (.cells #[.int .i64 r0, .int .i64 r1, .int .i64 r2] 22 (0, 0)) := by rw [hX, Below.heap_alloc _ _ _ (by simp)]; have := heap_alloc_new ((w.alloc (.cells #[.int .i64 a, .int .i64 b, .int .i64 c] 23)).alloc (.cells C.toArray 29)) (.cells #[.int .i64 r0, .int .i64 r1, .int .i64 r2] 22); rwa [size_alloc, size_alloc] at this
    have hX3 : Seal (X.heap[w.heap.size + 1 + 1 + 1]? = some (.cells Z 32 (0, 0))) := ⟨by rw [hX, hZ]; have := heap_alloc_new (((w.alloc (.cells #[.int .i64 a, .int .i64 b, .int .i64 c] 23)).alloc (.cells C.toArray 29)).alloc (.cells #[.int .i64 r0, .int .i64 r1, .int .i64 r2] 22)) (.cells #[.int .i64 0, .int .i64 0, .int .i64 0, .int .i64 0, .int .i64 0, .int .i64 0] 32); rwa [size_alloc, size_alloc, size_alloc] at this⟩
    have a0 : X.cell? ⟨w.heap.size, 0, none⟩ = some (.int .i64 a) := by rw [cell_of_row _ _ _ _ _ _ hX0]; rfl
    have a1 : X.cell? ⟨w.heap.size, 1, none⟩ = some (.int .i64 b) := by rw [cell_of_row _ _ _ _ _ _ hX0]; rfl
    have a2 : X.cell? ⟨w.heap.size, 2, none⟩ = some (.int .i64 c) := by rw [cell_of_row _ _ _ _ _ _ hX0]; rfl
    have s0 : X.cell? ⟨w.heap.size + 1 + 1, 0, none⟩ = some (.int .i64 r0) := by rw [cell_of_row _ _ _ _ _ _ hX2]; rfl
    have s1 : X.cell? ⟨w.heap.size + 1 + 1, 1, none⟩ = some (.int .i64 r1) := by rw [cell_of_row _ _ _ _ _ _ hX2]; rfl
    have s2 : X.cell? ⟨w.heap.size + 1 + 1, 2, none⟩ = some (.int .i64 r2) := by rw [cell_of_row _ _ _ _ _ _ hX2]; rfl
    have HSr := Seal.mk (And.intro s0 (And.intro s1 s2))
    rw [← hC]
    clear hC hZ hX0 hX2 s0 s1 s2
    go_enter Tryd.func11, Tryd.ntmps11
    go_upto_region 1 with (fail)
    rw [← hX]
    clear hX
    have HZl : Seal (X.heap[w.heap.size + 1 + 1 + 1]? = some (.cells #[.int .i64 0, .int .i64 0, .int .i64 0, .int .i64 0, .int .i64 0, .int .i64 0] 32 (0, 0))) := ⟨by rw [← HZq.out]; exact hX3.out⟩
    go_wp2_with (refine wpList_store_row rfl 32 (.tmp 8) (.tmp 18) rfl (w.heap.size + 1 + 1 + 1) #[.int .i64 0, .int .i64 0, .int .i64 0, .int .i64 0, .int .i64 0, .int .i64 0] rfl rfl 32 #[.int .i64 0, .int .i64 0, .int .i64 0, .int .i64 0, .int .i64 0, .int .i64 0] HZl.out (by kernel_rfl) rfl (by simp [Value.oneCell']) ?_)
    exact bodyPost_ret (results_row_tmp (fn := Tryd.f11) rfl _ _ (w.heap.size + 1 + 1 + 1) 32 #[.int .i64 0, .int .i64 0, .int .i64 0, .int .i64 0, .int .i64 0, .int .i64 0] (0, 0) _ _ rfl rfl (setRow_heap _ _ _ _ _ _ HZl.out) Tryd.underlying32 rfl (by kernel_rfl)) rfl ⟨rfl, below_row hXb.out (by omega) _⟩
  ·
    obtain ⟨C, hC⟩ : ∃ C, C = retC L K P Q T := ⟨_, rfl⟩
    have IC : Seal ((Tryd.prog.info? 29).map (·.size) = some C.toArray.size) := ⟨by rw [hC, List.size_toArray]; exact retC_info hT⟩
    have LC : Seal (C.length = 36) := ⟨by rw [hC]; exact retC_len hT⟩
    have OC : Seal (∀ u ∈ C, u.oneCell' = true) := ⟨by rw [hC]; exact retC_one _ _ _ _ _⟩
    have HCq := Seal.mk hC
    obtain ⟨Z, hZ⟩ : ∃ Z : Array Value, Z = #[.int .i64 0, .int .i64 0, .int .i64 0, .int .i64 0, .int .i64 0, .int .i64 0] := ⟨_, rfl⟩
    have IZ : Seal ((Tryd.prog.info? 32).map (·.size) = some Z.size) := ⟨by rw [hZ]; kernel_rfl⟩
    have OZ : Seal (Z.all (·.oneCell') = true) := ⟨by rw [hZ]; simp [Value.oneCell']⟩
    have HZq := Seal.mk hZ
    obtain ⟨X, hX⟩ : ∃ X : World, X = (((w.alloc (.cells #[.int .i64 a, .int .i64 b, .int .i64 c] 23)).alloc (.cells C.toArray 29)).alloc (.cells #[.int .i64 r0, .int .i64 r1, .int .i64 r2] 22)).alloc (.cells #[.int .i64 0, .int .i64 0, .int .i64 0, .int .i64 0, .int .i64 0, .int .i64 0] 32) := ⟨_, rfl⟩
    have hXb : Seal (Below w.heap.size w X) := ⟨by rw [hX]; exact ((((Below.refl _ w).alloc (Nat.le_refl _) _).alloc (by simp) _).alloc (by simp <;> omega) _).alloc (by simp <;> omega) _⟩
    have hXs : Seal (X.heap.size = w.heap.size + 4) := ⟨by rw [hX]; simp⟩
    have hX0 : X.heap[w.heap.size]? = some (.cells #[.int .i64 a, .int .i64 b, .int .i64 c] 23 (0, 0)) := by rw [hX, Below.heap_alloc _ _ _ (by simp <;> omega), Below.heap_alloc _ _ _ (by simp <;> omega), Below.heap_alloc _ _ _ (by simp)]; exact heap_alloc_new w _
    have hX1 : Seal (X.heap[w.heap.size + 1]? = some (.cells C.toArray 29 (0, 0))) := ⟨by rw [hX, Below.heap_alloc _ _ _ (by simp <;> omega), Below.heap_alloc _ _ _ (by simp)]; have := heap_alloc_new (w.alloc (.cells #[.int .i64 a, .int .i64 b, .int .i64 c] 23)) (.cells C.toArray 29); rwa [size_alloc] at this⟩
    have hX2 : X.heap[w.heap.size + 1 + 1]? = some (.cells #[.int .i64 r0, .int .i64 r1, .int .i64 r2] 22 (0, 0)) := by rw [hX, Below.heap_alloc _ _ _ (by simp)]; have := heap_alloc_new ((w.alloc (.cells #[.int .i64 a, .int .i64 b, .int .i64 c] 23)).alloc (.cells C.toArray 29)) (.cells #[.int .i64 r0, .int .i64 r1, .int .i64 r2] 22); rwa [size_alloc, size_alloc] at this
    have hX3 : Seal (X.heap[w.heap.size + 1 + 1 + 1]? = some (.cells Z 32 (0, 0))) := ⟨by rw [hX, hZ]; have := heap_alloc_new (((w.alloc (.cells #[.int .i64 a, .int .i64 b, .int .i64 c] 23)).alloc (.cells C.toArray 29)).alloc (.cells #[.int .i64 r0, .int .i64 r1, .int .i64 r2] 22)) (.cells #[.int .i64 0, .int .i64 0, .int .i64 0, .int .i64 0, .int .i64 0, .int .i64 0] 32); rwa [size_alloc, size_alloc, size_alloc] at this⟩
    have a0 : X.cell? ⟨w.heap.size, 0, none⟩ = some (.int .i64 a) := by rw [cell_of_row _ _ _ _ _ _ hX0]; rfl
    have a1 : X.cell? ⟨w.heap.size, 1, none⟩ = some (.int .i64 b) := by rw [cell_of_row _ _ _ _ _ _ hX0]; rfl
    have a2 : X.cell? ⟨w.heap.size, 2, none⟩ = some (.int .i64 c) := by rw [cell_of_row _ _ _ _ _ _ hX0]; rfl
    have s0 : X.cell? ⟨w.heap.size + 1 + 1, 0, none⟩ = some (.int .i64 r0) := by rw [cell_of_row _ _ _ _ _ _ hX2]; rfl
    have s1 : X.cell? ⟨w.heap.size + 1 + 1, 1, none⟩ = some (.int .i64 r1) := by rw [cell_of_row _ _ _ _ _ _ hX2]; rfl
    have s2 : X.cell? ⟨w.heap.size + 1 + 1, 2, none⟩ = some (.int .i64 r2) := by rw [cell_of_row _ _ _ _ _ _ hX2]; rfl
    have HSr := Seal.mk (And.intro s0 (And.intro s1 s2))
    rw [← hC]
    clear hC hZ hX0 hX2 s0 s1 s2
    go_enter Tryd.func11, Tryd.ntmps11
    go_upto_region 1 with (fail)
    rw [← hX]
    clear hX
    have HZl : Seal (X.heap[w.heap.size + 1 + 1 + 1]? = some (.cells #[.int .i64 0, .int .i64 0, .int .i64 0, .int .i64 0, .int .i64 0, .int .i64 0] 32 (0, 0))) := ⟨by rw [← HZq.out]; exact hX3.out⟩
    go_wp2_with (refine wpList_store_row rfl 32 (.tmp 8) (.tmp 18) rfl (w.heap.size + 1 + 1 + 1) #[.int .i64 0, .int .i64 0, .int .i64 0, .int .i64 0, .int .i64 0, .int .i64 0] rfl rfl 32 #[.int .i64 0, .int .i64 0, .int .i64 0, .int .i64 0, .int .i64 0, .int .i64 0] HZl.out (by kernel_rfl) rfl (by simp [Value.oneCell']) ?_)
    exact bodyPost_ret (results_row_tmp (fn := Tryd.f11) rfl _ _ (w.heap.size + 1 + 1 + 1) 32 #[.int .i64 0, .int .i64 0, .int .i64 0, .int .i64 0, .int .i64 0, .int .i64 0] (0, 0) _ _ rfl rfl (setRow_heap _ _ _ _ _ _ HZl.out) Tryd.underlying32 rfl (by kernel_rfl)) rfl ⟨rfl, below_row hXb.out (by omega) _⟩
set_option maxHeartbeats 4000000 in
theorem rm43_word (x a b c L K P Q r0 r1 r2 : Int) (T : Bytes) (w : World) (hT : T.length = 32) (h0 : ¬ x < 1) (h1 : ¬ 1073741789 ≤ x) (hwd : (wdB a && (wdB b && wdB c)) = false) :
    Calls Tryd.prog 11 #[.int .i64 x, .agg #[.int .i64 a, .int .i64 b, .int .i64 c], .agg (retC L K P Q T).toArray, .agg #[.int .i64 r0, .int .i64 r1, .int .i64 r2]] w fun e w' => e = .returned (.tuple #[.agg #[.int .i64 0, .int .i64 0, .int .i64 0, .int .i64 0, .int .i64 0, .int .i64 0], .int .i64 430]) ∧ Below w.heap.size w w' := by
  cases ha : wdB a with
  | false =>
    clear hwd
    obtain ⟨C, hC⟩ : ∃ C, C = retC L K P Q T := ⟨_, rfl⟩
    have IC : Seal ((Tryd.prog.info? 29).map (·.size) = some C.toArray.size) := ⟨by rw [hC, List.size_toArray]; exact retC_info hT⟩
    have LC : Seal (C.length = 36) := ⟨by rw [hC]; exact retC_len hT⟩
    have OC : Seal (∀ u ∈ C, u.oneCell' = true) := ⟨by rw [hC]; exact retC_one _ _ _ _ _⟩
    have HCq := Seal.mk hC
    obtain ⟨Z, hZ⟩ : ∃ Z : Array Value, Z = #[.int .i64 0, .int .i64 0, .int .i64 0, .int .i64 0, .int .i64 0, .int .i64 0] := ⟨_, rfl⟩
    have IZ : Seal ((Tryd.prog.info? 32).map (·.size) = some Z.size) := ⟨by rw [hZ]; kernel_rfl⟩
    have OZ : Seal (Z.all (·.oneCell') = true) := ⟨by rw [hZ]; simp [Value.oneCell']⟩
    have HZq := Seal.mk hZ
    obtain ⟨X, hX⟩ : ∃ X : World, X = (((w.alloc (.cells #[.int .i64 a, .int .i64 b, .int .i64 c] 23)).alloc (.cells C.toArray 29)).alloc (.cells #[.int .i64 r0, .int .i64 r1, .int .i64 r2] 22)).alloc (.cells #[.int .i64 0, .int .i64 0, .int .i64 0, .int .i64 0, .int .i64 0, .int .i64 0] 32) := ⟨_, rfl⟩
    have hXb : Seal (Below w.heap.size w X) := ⟨by rw [hX]; exact ((((Below.refl _ w).alloc (Nat.le_refl _) _).alloc (by simp) _).alloc (by simp <;> omega) _).alloc (by simp <;> omega) _⟩
    have hXs : Seal (X.heap.size = w.heap.size + 4) := ⟨by rw [hX]; simp⟩
    have hX0 : X.heap[w.heap.size]? = some (.cells #[.int .i64 a, .int .i64 b, .int .i64 c] 23 (0, 0)) := by rw [hX, Below.heap_alloc _ _ _ (by simp <;> omega), Below.heap_alloc _ _ _ (by simp <;> omega), Below.heap_alloc _ _ _ (by simp)]; exact heap_alloc_new w _
    have hX1 : Seal (X.heap[w.heap.size + 1]? = some (.cells C.toArray 29 (0, 0))) := ⟨by rw [hX, Below.heap_alloc _ _ _ (by simp <;> omega), Below.heap_alloc _ _ _ (by simp)]; have := heap_alloc_new (w.alloc (.cells #[.int .i64 a, .int .i64 b, .int .i64 c] 23)) (.cells C.toArray 29); rwa [size_alloc] at this⟩
    have hX2 : X.heap[w.heap.size + 1 + 1]? = some (.cells #[.int .i64 r0, .int .i64 r1, .int .i64 r2] 22 (0, 0)) := by rw [hX, Below.heap_alloc _ _ _ (by simp)]; have := heap_alloc_new ((w.alloc (.cells #[.int .i64 a, .int .i64 b, .int .i64 c] 23)).alloc (.cells C.toArray 29)) (.cells #[.int .i64 r0, .int .i64 r1, .int .i64 r2] 22); rwa [size_alloc, size_alloc] at this
    have hX3 : Seal (X.heap[w.heap.size + 1 + 1 + 1]? = some (.cells Z 32 (0, 0))) := ⟨by rw [hX, hZ]; have := heap_alloc_new (((w.alloc (.cells #[.int .i64 a, .int .i64 b, .int .i64 c] 23)).alloc (.cells C.toArray 29)).alloc (.cells #[.int .i64 r0, .int .i64 r1, .int .i64 r2] 22)) (.cells #[.int .i64 0, .int .i64 0, .int .i64 0, .int .i64 0, .int .i64 0, .int .i64 0] 32); rwa [size_alloc, size_alloc, size_alloc] at this⟩
    have a0 : X.cell? ⟨w.heap.size, 0, none⟩ = some (.int .i64 a) := by rw [cell_of_row _ _ _ _ _ _ hX0]; rfl
    have a1 : X.cell? ⟨w.heap.size, 1, none⟩ = some (.int .i64 b) := by rw [cell_of_row _ _ _ _ _ _ hX0]; rfl
    have a2 : X.cell? ⟨w.heap.size, 2, none⟩ = some (.int .i64 c) := by rw [cell_of_row _ _ _ _ _ _ hX0]; rfl
    have s0 : X.cell? ⟨w.heap.size + 1 + 1, 0, none⟩ = some (.int .i64 r0) := by rw [cell_of_row _ _ _ _ _ _ hX2]; rfl
    have s1 : X.cell? ⟨w.heap.size + 1 + 1, 1, none⟩ = some (.int .i64 r1) := by rw [cell_of_row _ _ _ _ _ _ hX2]; rfl
    have s2 : X.cell? ⟨w.heap.size + 1 + 1, 2, none⟩ = some (.int .i64 r2) := by rw [cell_of_row _ _ _ _ _ _ hX2]; rfl
    have HSr := Seal.mk (And.intro s0 (And.intro s1 s2))
    rw [← hC]
    clear hC hZ hX0 hX2 s0 s1 s2
    go_enter Tryd.func11, Tryd.ntmps11
    go_upto_region 1 with (fail)
    rw [← hX]
    clear hX
    go_wp2_with fail
    refine (rword_at a _ X ha).mono ?_
    rintro e w1 ⟨rfl, rfl⟩
    have HZl : Seal (X.heap[w.heap.size + 1 + 1 + 1]? = some (.cells #[.int .i64 0, .int .i64 0, .int .i64 0, .int .i64 0, .int .i64 0, .int .i64 0] 32 (0, 0))) := ⟨by rw [← HZq.out]; exact hX3.out⟩
    go_wp2_with (refine wpList_store_row rfl 32 (.tmp 8) (.tmp 35) rfl (w.heap.size + 1 + 1 + 1) #[.int .i64 0, .int .i64 0, .int .i64 0, .int .i64 0, .int .i64 0, .int .i64 0] rfl rfl 32 #[.int .i64 0, .int .i64 0, .int .i64 0, .int .i64 0, .int .i64 0, .int .i64 0] HZl.out (by kernel_rfl) rfl (by simp [Value.oneCell']) ?_)
    exact bodyPost_ret (results_row_tmp (fn := Tryd.f11) rfl _ _ (w.heap.size + 1 + 1 + 1) 32 #[.int .i64 0, .int .i64 0, .int .i64 0, .int .i64 0, .int .i64 0, .int .i64 0] (0, 0) _ _ rfl rfl (setRow_heap _ _ _ _ _ _ HZl.out) Tryd.underlying32 rfl (by kernel_rfl)) rfl ⟨rfl, below_row hXb.out (by omega) _⟩
  | true =>
    cases hb : wdB b with
    | false =>
      clear hwd
      obtain ⟨C, hC⟩ : ∃ C, C = retC L K P Q T := ⟨_, rfl⟩
      have IC : Seal ((Tryd.prog.info? 29).map (·.size) = some C.toArray.size) := ⟨by rw [hC, List.size_toArray]; exact retC_info hT⟩
      have LC : Seal (C.length = 36) := ⟨by rw [hC]; exact retC_len hT⟩
      have OC : Seal (∀ u ∈ C, u.oneCell' = true) := ⟨by rw [hC]; exact retC_one _ _ _ _ _⟩
      have HCq := Seal.mk hC
      obtain ⟨Z, hZ⟩ : ∃ Z : Array Value, Z = #[.int .i64 0, .int .i64 0, .int .i64 0, .int .i64 0, .int .i64 0, .int .i64 0] := ⟨_, rfl⟩
      have IZ : Seal ((Tryd.prog.info? 32).map (·.size) = some Z.size) := ⟨by rw [hZ]; kernel_rfl⟩
      have OZ : Seal (Z.all (·.oneCell') = true) := ⟨by rw [hZ]; simp [Value.oneCell']⟩
      have HZq := Seal.mk hZ
      obtain ⟨X, hX⟩ : ∃ X : World, X = (((w.alloc (.cells #[.int .i64 a, .int .i64 b, .int .i64 c] 23)).alloc (.cells C.toArray 29)).alloc (.cells #[.int .i64 r0, .int .i64 r1, .int .i64 r2] 22)).alloc (.cells #[.int .i64 0, .int .i64 0, .int .i64 0, .int .i64 0, .int .i64 0, .int .i64 0] 32) := ⟨_, rfl⟩
      have hXb : Seal (Below w.heap.size w X) := ⟨by rw [hX]; exact ((((Below.refl _ w).alloc (Nat.le_refl _) _).alloc (by simp) _).alloc (by simp <;> omega) _).alloc (by simp <;> omega) _⟩
      have hXs : Seal (X.heap.size = w.heap.size + 4) := ⟨by rw [hX]; simp⟩
      have hX0 : X.heap[w.heap.size]? = some (.cells #[.int .i64 a, .int .i64 b, .int .i64 c] 23 (0, 0)) := by rw [hX, Below.heap_alloc _ _ _ (by simp <;> omega), Below.heap_alloc _ _ _ (by simp <;> omega), Below.heap_alloc _ _ _ (by simp)]; exact heap_alloc_new w _
      have hX1 : Seal (X.heap[w.heap.size + 1]? = some (.cells C.toArray 29 (0, 0))) := ⟨by rw [hX, Below.heap_alloc _ _ _ (by simp <;> omega), Below.heap_alloc _ _ _ (by simp)]; have := heap_alloc_new (w.alloc (.cells #[.int .i64 a, .int .i64 b, .int .i64 c] 23)) (.cells C.toArray 29); rwa [size_alloc] at this⟩
      have hX2 : X.heap[w.heap.size + 1 + 1]? = some (.cells #[.int .i64 r0, .int .i64 r1, .int .i64 r2] 22 (0, 0)) := by rw [hX, Below.heap_alloc _ _ _ (by simp)]; have := heap_alloc_new ((w.alloc (.cells #[.int .i64 a, .int .i64 b, .int .i64 c] 23)).alloc (.cells C.toArray 29)) (.cells #[.int .i64 r0, .int .i64 r1, .int .i64 r2] 22); rwa [size_alloc, size_alloc] at this
      have hX3 : Seal (X.heap[w.heap.size + 1 + 1 + 1]? = some (.cells Z 32 (0, 0))) := ⟨by rw [hX, hZ]; have := heap_alloc_new (((w.alloc (.cells #[.int .i64 a, .int .i64 b, .int .i64 c] 23)).alloc (.cells C.toArray 29)).alloc (.cells #[.int .i64 r0, .int .i64 r1, .int .i64 r2] 22)) (.cells #[.int .i64 0, .int .i64 0, .int .i64 0, .int .i64 0, .int .i64 0, .int .i64 0] 32); rwa [size_alloc, size_alloc, size_alloc] at this⟩
      have a0 : X.cell? ⟨w.heap.size, 0, none⟩ = some (.int .i64 a) := by rw [cell_of_row _ _ _ _ _ _ hX0]; rfl
      have a1 : X.cell? ⟨w.heap.size, 1, none⟩ = some (.int .i64 b) := by rw [cell_of_row _ _ _ _ _ _ hX0]; rfl
      have a2 : X.cell? ⟨w.heap.size, 2, none⟩ = some (.int .i64 c) := by rw [cell_of_row _ _ _ _ _ _ hX0]; rfl
      have s0 : X.cell? ⟨w.heap.size + 1 + 1, 0, none⟩ = some (.int .i64 r0) := by rw [cell_of_row _ _ _ _ _ _ hX2]; rfl
      have s1 : X.cell? ⟨w.heap.size + 1 + 1, 1, none⟩ = some (.int .i64 r1) := by rw [cell_of_row _ _ _ _ _ _ hX2]; rfl
      have s2 : X.cell? ⟨w.heap.size + 1 + 1, 2, none⟩ = some (.int .i64 r2) := by rw [cell_of_row _ _ _ _ _ _ hX2]; rfl
      have HSr := Seal.mk (And.intro s0 (And.intro s1 s2))
      rw [← hC]
      clear hC hZ hX0 hX2 s0 s1 s2
      go_enter Tryd.func11, Tryd.ntmps11
      go_upto_region 1 with (fail)
      rw [← hX]
      clear hX
      go_wp2_with fail
      refine (rword_at a _ X ha).mono ?_
      rintro e w1 ⟨rfl, rfl⟩
      go_wp2_with fail
      refine (rword_at b _ X hb).mono ?_
      rintro e w1 ⟨rfl, rfl⟩
      have HZl : Seal (X.heap[w.heap.size + 1 + 1 + 1]? = some (.cells #[.int .i64 0, .int .i64 0, .int .i64 0, .int .i64 0, .int .i64 0, .int .i64 0] 32 (0, 0))) := ⟨by rw [← HZq.out]; exact hX3.out⟩
      go_wp2_with (refine wpList_store_row rfl 32 (.tmp 8) (.tmp 35) rfl (w.heap.size + 1 + 1 + 1) #[.int .i64 0, .int .i64 0, .int .i64 0, .int .i64 0, .int .i64 0, .int .i64 0] rfl rfl 32 #[.int .i64 0, .int .i64 0, .int .i64 0, .int .i64 0, .int .i64 0, .int .i64 0] HZl.out (by kernel_rfl) rfl (by simp [Value.oneCell']) ?_)
      exact bodyPost_ret (results_row_tmp (fn := Tryd.f11) rfl _ _ (w.heap.size + 1 + 1 + 1) 32 #[.int .i64 0, .int .i64 0, .int .i64 0, .int .i64 0, .int .i64 0, .int .i64 0] (0, 0) _ _ rfl rfl (setRow_heap _ _ _ _ _ _ HZl.out) Tryd.underlying32 rfl (by kernel_rfl)) rfl ⟨rfl, below_row hXb.out (by omega) _⟩
    | true =>
      have hc : wdB c = false := by rw [ha, hb] at hwd; simpa using hwd
      clear hwd
      obtain ⟨C, hC⟩ : ∃ C, C = retC L K P Q T := ⟨_, rfl⟩
      have IC : Seal ((Tryd.prog.info? 29).map (·.size) = some C.toArray.size) := ⟨by rw [hC, List.size_toArray]; exact retC_info hT⟩
      have LC : Seal (C.length = 36) := ⟨by rw [hC]; exact retC_len hT⟩
      have OC : Seal (∀ u ∈ C, u.oneCell' = true) := ⟨by rw [hC]; exact retC_one _ _ _ _ _⟩
      have HCq := Seal.mk hC
      obtain ⟨Z, hZ⟩ : ∃ Z : Array Value, Z = #[.int .i64 0, .int .i64 0, .int .i64 0, .int .i64 0, .int .i64 0, .int .i64 0] := ⟨_, rfl⟩
      have IZ : Seal ((Tryd.prog.info? 32).map (·.size) = some Z.size) := ⟨by rw [hZ]; kernel_rfl⟩
      have OZ : Seal (Z.all (·.oneCell') = true) := ⟨by rw [hZ]; simp [Value.oneCell']⟩
      have HZq := Seal.mk hZ
      obtain ⟨X, hX⟩ : ∃ X : World, X = (((w.alloc (.cells #[.int .i64 a, .int .i64 b, .int .i64 c] 23)).alloc (.cells C.toArray 29)).alloc (.cells #[.int .i64 r0, .int .i64 r1, .int .i64 r2] 22)).alloc (.cells #[.int .i64 0, .int .i64 0, .int .i64 0, .int .i64 0, .int .i64 0, .int .i64 0] 32) := ⟨_, rfl⟩
      have hXb : Seal (Below w.heap.size w X) := ⟨by rw [hX]; exact ((((Below.refl _ w).alloc (Nat.le_refl _) _).alloc (by simp) _).alloc (by simp <;> omega) _).alloc (by simp <;> omega) _⟩
      have hXs : Seal (X.heap.size = w.heap.size + 4) := ⟨by rw [hX]; simp⟩
      have hX0 : X.heap[w.heap.size]? = some (.cells #[.int .i64 a, .int .i64 b, .int .i64 c] 23 (0, 0)) := by rw [hX, Below.heap_alloc _ _ _ (by simp <;> omega), Below.heap_alloc _ _ _ (by simp <;> omega), Below.heap_alloc _ _ _ (by simp)]; exact heap_alloc_new w _
      have hX1 : Seal (X.heap[w.heap.size + 1]? = some (.cells C.toArray 29 (0, 0))) := ⟨by rw [hX, Below.heap_alloc _ _ _ (by simp <;> omega), Below.heap_alloc _ _ _ (by simp)]; have := heap_alloc_new (w.alloc (.cells #[.int .i64 a, .int .i64 b, .int .i64 c] 23)) (.cells C.toArray 29); rwa [size_alloc] at this⟩
      have hX2 : X.heap[w.heap.size + 1 + 1]? = some (.cells #[.int .i64 r0, .int .i64 r1, .int .i64 r2] 22 (0, 0)) := by rw [hX, Below.heap_alloc _ _ _ (by simp)]; have := heap_alloc_new ((w.alloc (.cells #[.int .i64 a, .int .i64 b, .int .i64 c] 23)).alloc (.cells C.toArray 29)) (.cells #[.int .i64 r0, .int .i64 r1, .int .i64 r2] 22); rwa [size_alloc, size_alloc] at this
      have hX3 : Seal (X.heap[w.heap.size + 1 + 1 + 1]? = some (.cells Z 32 (0, 0))) := ⟨by rw [hX, hZ]; have := heap_alloc_new (((w.alloc (.cells #[.int .i64 a, .int .i64 b, .int .i64 c] 23)).alloc (.cells C.toArray 29)).alloc (.cells #[.int .i64 r0, .int .i64 r1, .int .i64 r2] 22)) (.cells #[.int .i64 0, .int .i64 0, .int .i64 0, .int .i64 0, .int .i64 0, .int .i64 0] 32); rwa [size_alloc, size_alloc, size_alloc] at this⟩
      have a0 : X.cell? ⟨w.heap.size, 0, none⟩ = some (.int .i64 a) := by rw [cell_of_row _ _ _ _ _ _ hX0]; rfl
      have a1 : X.cell? ⟨w.heap.size, 1, none⟩ = some (.int .i64 b) := by rw [cell_of_row _ _ _ _ _ _ hX0]; rfl
      have a2 : X.cell? ⟨w.heap.size, 2, none⟩ = some (.int .i64 c) := by rw [cell_of_row _ _ _ _ _ _ hX0]; rfl
      have s0 : X.cell? ⟨w.heap.size + 1 + 1, 0, none⟩ = some (.int .i64 r0) := by rw [cell_of_row _ _ _ _ _ _ hX2]; rfl
      have s1 : X.cell? ⟨w.heap.size + 1 + 1, 1, none⟩ = some (.int .i64 r1) := by rw [cell_of_row _ _ _ _ _ _ hX2]; rfl
      have s2 : X.cell? ⟨w.heap.size + 1 + 1, 2, none⟩ = some (.int .i64 r2) := by rw [cell_of_row _ _ _ _ _ _ hX2]; rfl
      have HSr := Seal.mk (And.intro s0 (And.intro s1 s2))
      rw [← hC]
      clear hC hZ hX0 hX2 s0 s1 s2
      go_enter Tryd.func11, Tryd.ntmps11
      go_upto_region 1 with (fail)
      rw [← hX]
      clear hX
      go_wp2_with fail
      refine (rword_at a _ X ha).mono ?_
      rintro e w1 ⟨rfl, rfl⟩
      go_wp2_with fail
      refine (rword_at b _ X hb).mono ?_
      rintro e w1 ⟨rfl, rfl⟩
      go_wp2_with fail
      refine (rword_at c _ X hc).mono ?_
      rintro e w1 ⟨rfl, rfl⟩
      have HZl : Seal (X.heap[w.heap.size + 1 + 1 + 1]? = some (.cells #[.int .i64 0, .int .i64 0, .int .i64 0, .int .i64 0, .int .i64 0, .int .i64 0] 32 (0, 0))) := ⟨by rw [← HZq.out]; exact hX3.out⟩
      go_wp2_with (refine wpList_store_row rfl 32 (.tmp 8) (.tmp 35) rfl (w.heap.size + 1 + 1 + 1) #[.int .i64 0, .int .i64 0, .int .i64 0, .int .i64 0, .int .i64 0, .int .i64 0] rfl rfl 32 #[.int .i64 0, .int .i64 0, .int .i64 0, .int .i64 0, .int .i64 0, .int .i64 0] HZl.out (by kernel_rfl) rfl (by simp [Value.oneCell']) ?_)
      exact bodyPost_ret (results_row_tmp (fn := Tryd.f11) rfl _ _ (w.heap.size + 1 + 1 + 1) 32 #[.int .i64 0, .int .i64 0, .int .i64 0, .int .i64 0, .int .i64 0, .int .i64 0] (0, 0) _ _ rfl rfl (setRow_heap _ _ _ _ _ _ HZl.out) Tryd.underlying32 rfl (by kernel_rfl)) rfl ⟨rfl, below_row hXb.out (by omega) _⟩

set_option maxHeartbeats 4000000 in
theorem rm43_ok (x a b c L K P Q r0 r1 r2 E S x0 y0 x1 y1 x2 y2 e0 : Int) (T : Bytes) (w : World) (hG : Glob w) (hT : T.length = 32) (h0 : ¬ x < 1) (h1 : ¬ 1073741789 ≤ x) (ha : wdB a = true) (hb' : wdB b = true) (hc : wdB c = true)
    (HTx : Seal (∀ W, Calls Tryd.prog 32 #[.agg #[.int .i64 a, .int .i64 b, .int .i64 c]] W (ListPost (rcT a b c) W)))
    (HSg : Seal (∀ W g n cap, Glob W → IsB W g n cap (rcT a b c) → n ≤ 1099511627776 → Calls Tryd.prog 31 #[.int .i64 x, .slice g n cap] W fun e w' => e = .returned (.tuple #[.agg #[.int .i64 E, .int .i64 S], .int .i64 0]) ∧ Below W.heap.size W w'))
    (HES : 0 ≤ E ∧ E < 1073741789 ∧ 0 ≤ S ∧ S < 1073741789)
    (HU : Seal (∀ W, Glob W → Calls Tryd.prog 33 #[.agg (retC L K P Q T).toArray, .agg #[.int .i64 (E + 1), .int .i64 (S + 1)], .agg #[.int .i64 r0, .int .i64 r1, .int .i64 r2]] W fun e' w' => e' = .returned (.tuple #[.agg #[.int .i64 x0, .int .i64 y0, .int .i64 x1, .int .i64 y1, .int .i64 x2, .int .i64 y2], .int .i64 e0]) ∧ Below W.heap.size W w')) :
    Calls Tryd.prog 11 #[.int .i64 x, .agg #[.int .i64 a, .int .i64 b, .int .i64 c], .agg (retC L K P Q T).toArray, .agg #[.int .i64 r0, .int .i64 r1, .int .i64 r2]] w fun e w' => e = .returned (.tuple #[.agg #[.int .i64 x0, .int .i64 y0, .int .i64 x1, .int .i64 y1, .int .i64 x2, .int .i64 y2], .int .i64 e0]) ∧ Below w.heap.size w w' := by
  have HG := Seal.mk hG
  obtain ⟨e1, e2, e3, e4⟩ := HES
  clear hG
  obtain ⟨M, hM⟩ : ∃ M : Array Value, M = #[.int .i64 x0, .int .i64 y0, .int .i64 x1, .int .i64 y1, .int .i64 x2, .int .i64 y2] := ⟨_, rfl⟩
  have IM : Seal ((Tryd.prog.info? 32).map (·.size) = some M.size) := ⟨by rw [hM]; kernel_rfl⟩
  have OM : Seal (M.all (·.oneCell') = true) := ⟨by rw [hM]; simp [Value.oneCell']⟩
  have HMs : Seal (6 = M.size) := ⟨by rw [hM]; rfl⟩
  rw [← hM] at HU ⊢
  clear hM
  have HU' := HU
  clear HU
  obtain ⟨C, hC⟩ : ∃ C, C = retC L K P Q T := ⟨_, rfl⟩
  have IC : Seal ((Tryd.prog.info? 29).map (·.size) = some C.toArray.size) := ⟨by rw [hC, List.size_toArray]; exact retC_info hT⟩
  have LC : Seal (C.length = 36) := ⟨by rw [hC]; exact retC_len hT⟩
  have OC : Seal (∀ u ∈ C, u.oneCell' = true) := ⟨by rw [hC]; exact retC_one _ _ _ _ _⟩
  have HCq := Seal.mk hC
  obtain ⟨Z, hZ⟩ : ∃ Z : Array Value, Z = #[.int .i64 0, .int .i64 0, .int .i64 0, .int .i64 0, .int .i64 0, .int .i64 0] := ⟨_, rfl⟩
  have IZ : Seal ((Tryd.prog.info? 32).map (·.size) = some Z.size) := ⟨by rw [hZ]; kernel_rfl⟩
  have OZ : Seal (Z.all (·.oneCell') = true) := ⟨by rw [hZ]; simp [Value.oneCell']⟩
  have HZq := Seal.mk hZ
  obtain ⟨X, hX⟩ : ∃ X : World, X = (((w.alloc (.cells #[.int .i64 a, .int .i64 b, .int .i64 c] 23)).alloc (.cells C.toArray 29)).alloc (.cells #[.int .i64 r0, .int .i64 r1, .int .i64 r2] 22)).alloc (.cells #[.int .i64 0, .int .i64 0, .int .i64 0, .int .i64 0, .int .i64 0, .int .i64 0] 32) := ⟨_, rfl⟩
  have hXb : Seal (Below w.heap.size w X) := ⟨by rw [hX]; exact ((((Below.refl _ w).alloc (Nat.le_refl _) _).alloc (by simp) _).alloc (by simp <;> omega) _).alloc (by simp <;> omega) _⟩
  have hXs : Seal (X.heap.size = w.heap.size + 4) := ⟨by rw [hX]; simp⟩
  have hX0 : X.heap[w.heap.size]? = some (.cells #[.int .i64 a, .int .i64 b, .int .i64 c] 23 (0, 0)) := by rw [hX, Below.heap_alloc _ _ _ (by simp <;> omega), Below.heap_alloc _ _ _ (by simp <;> omega), Below.heap_alloc _ _ _ (by simp)]; exact heap_alloc_new w _
  have hX1 : Seal (X.heap[w.heap.size + 1]? = some (.cells C.toArray 29 (0, 0))) := ⟨by rw [hX, Below.heap_alloc _ _ _ (by simp <;> omega), Below.heap_alloc _ _ _ (by simp)]; have := heap_alloc_new (w.alloc (.cells #[.int .i64 a, .int .i64 b, .int .i64 c] 23)) (.cells C.toArray 29); rwa [size_alloc] at this⟩
  have hX2 : X.heap[w.heap.size + 1 + 1]? = some (.cells #[.int .i64 r0, .int .i64 r1, .int .i64 r2] 22 (0, 0)) := by rw [hX, Below.heap_alloc _ _ _ (by simp)]; have := heap_alloc_new ((w.alloc (.cells #[.int .i64 a, .int .i64 b, .int .i64 c] 23)).alloc (.cells C.toArray 29)) (.cells #[.int .i64 r0, .int .i64 r1, .int .i64 r2] 22); rwa [size_alloc, size_alloc] at this
  have hX3 : Seal (X.heap[w.heap.size + 1 + 1 + 1]? = some (.cells Z 32 (0, 0))) := ⟨by rw [hX, hZ]; have := heap_alloc_new (((w.alloc (.cells #[.int .i64 a, .int .i64 b, .int .i64 c] 23)).alloc (.cells C.toArray 29)).alloc (.cells #[.int .i64 r0, .int .i64 r1, .int .i64 r2] 22)) (.cells #[.int .i64 0, .int .i64 0, .int .i64 0, .int .i64 0, .int .i64 0, .int .i64 0] 32); rwa [size_alloc, size_alloc, size_alloc] at this⟩
  have a0 : X.cell? ⟨w.heap.size, 0, none⟩ = some (.int .i64 a) := by rw [cell_of_row _ _ _ _ _ _ hX0]; rfl
  have a1 : X.cell? ⟨w.heap.size, 1, none⟩ = some (.int .i64 b) := by rw [cell_of_row _ _ _ _ _ _ hX0]; rfl
  have a2 : X.cell? ⟨w.heap.size, 2, none⟩ = some (.int .i64 c) := by rw [cell_of_row _ _ _ _ _ _ hX0]; rfl
  have s0 : X.cell? ⟨w.heap.size + 1 + 1, 0, none⟩ = some (.int .i64 r0) := by rw [cell_of_row _ _ _ _ _ _ hX2]; rfl
  have s1 : X.cell? ⟨w.heap.size + 1 + 1, 1, none⟩ = some (.int .i64 r1) := by rw [cell_of_row _ _ _ _ _ _ hX2]; rfl
  have s2 : X.cell? ⟨w.heap.size + 1 + 1, 2, none⟩ = some (.int .i64 r2) := by rw [cell_of_row _ _ _ _ _ _ hX2]; rfl
  have HSr := Seal.mk (And.intro s0 (And.intro s1 s2))
  rw [← hC]
  clear hC hZ hX0 hX2 s0 s1 s2
  go_enter Tryd.func11, Tryd.ntmps11
  go_upto_region 1 with (fail)
  rw [← hX]
  clear hX
  have HU : Seal (∀ W, Glob W → Calls Tryd.prog 33 #[.agg C.toArray, .agg #[.int .i64 (E + 1), .int .i64 (S + 1)], .agg #[.int .i64 r0, .int .i64 r1, .int .i64 r2]] W fun e' w' => e' = .returned (.tuple #[.agg M, .int .i64 e0]) ∧ Below W.heap.size W w') := ⟨by rw [HCq.out]; exact HU'.out⟩
  have SZ : Seal (Z.size = M.size) := ⟨by rw [HZq.out, ← HMs.out]; rfl⟩
  clear HU'
  go_wp2_with fail
  refine (rword_at a _ X ha).mono ?_
  rintro e w1 ⟨rfl, rfl⟩
  go_wp2_with fail
  refine (rword_at b _ X hb').mono ?_
  rintro e w1 ⟨rfl, rfl⟩
  go_wp2_with fail
  refine (rword_at c _ X hc).mono ?_
  rintro e w1 ⟨rfl, rfl⟩
  go_wp2_with fail
  refine (HTx.out X).mono ?_
  rintro e w2 ⟨g', n', c', hn, rfl, hf⟩
  have hb2 := hf.out.2.2.2.2
  have HB2 : Seal (Below w.heap.size w w2) := ⟨hXb.out.trans (hb2.mono hXb.out.size)⟩
  have hL := rcT_len a b c
  have HIB : Seal (IsB w2 (some ⟨g', 0, none⟩) n' c' (rcT a b c) ∧ n' ≤ 1099511627776) := ⟨⟨hn.out, hf.out.1, by rw [← hn.out]; omega, hf.out.2.1, .inr ⟨g', 0, rfl, hf.out.2.2.2.1, hf.out.2.2.1⟩⟩, by rw [← hn.out]; omega⟩
  have HY2 : Seal (Below X.heap.size X w2) := ⟨hb2⟩
  clear hf hb2 hL a0 a1 a2
  go_wp2_with fail
  refine (HSg.out w2 _ n' c' (HG.out.below HB2.out) HIB.out.1 HIB.out.2).mono ?_
  rintro e w3 ⟨rfl, hb3⟩
  have HB3 : Seal (Below w.heap.size w w3) := ⟨HB2.out.trans (hb3.mono HB2.out.size)⟩
  have hb5 : Below X.heap.size X w3 := HY2.out.trans (hb3.mono HY2.out.size)
  have HBa : Seal (Below w.heap.size w (w3.alloc (.cells #[.int .i64 E, .int .i64 S] 46))) := ⟨HB3.out.alloc HB3.out.size _⟩
  have keepa : ∀ k o, X.heap[k]? = some o → (w3.alloc (.cells #[.int .i64 E, .int .i64 S] 46)).heap[k]? = some o := fun k o h => by
    have h1 := blk hb5 (Array.getElem?_eq_some_iff.1 h).1 h
    exact (Below.heap_alloc w3 _ _ (Array.getElem?_eq_some_iff.1 h1).1).trans h1
  have HCa := Seal.mk (keepa _ _ hX1.out)
  have HZa := Seal.mk (keepa _ _ hX3.out)
  have t0 := cell_allocd (cell_later hb5 HSr.out.1) (.cells #[.int .i64 E, .int .i64 S] 46)
  have t1 := cell_allocd (cell_later hb5 HSr.out.2.1) (.cells #[.int .i64 E, .int .i64 S] 46)
  have t2 := cell_allocd (cell_later hb5 HSr.out.2.2) (.cells #[.int .i64 E, .int .i64 S] 46)
  clear hb3 hb5 HIB HY2 keepa
  go_wp2_with (refine wpList_load_row rfl 29 (.tmp 6) rfl (w.heap.size + 1) rfl 29 C.toArray (0, 0) _ HCa.out Tryd.underlying29 rfl IC.out ?_)
  refine (HU.out _ (HG.out.below HBa.out)).mono ?_
  rintro e w4 ⟨rfl, hb⟩
  have HB4 : Seal (Below w.heap.size w w4) := ⟨HBa.out.trans (hb.mono HBa.out.size)⟩
  have HZ4 : Seal (w4.heap[w.heap.size + 1 + 1 + 1]? = some (.cells Z 32 (0, 0))) := ⟨blk hb (Array.getElem?_eq_some_iff.1 HZa.out).1 HZa.out⟩
  clear hb t0 t1 t2 HZa HCa
  go_wp2_with (refine wpList_store_row rfl 32 (.tmp 8) (.tmp 53) rfl (w.heap.size + 1 + 1 + 1) M rfl rfl 32 Z HZ4.out IM.out SZ.out OM.out ?_)
  exact bodyPost_ret (results_row_tmp (fn := Tryd.f11) rfl _ _ (w.heap.size + 1 + 1 + 1) 32 M (0, 0) _ _ rfl rfl (setRow_heap _ _ _ _ _ _ HZ4.out) Tryd.underlying32 rfl IM.out) rfl ⟨rfl, below_row HB4.out (by omega) _⟩

/-- what Make returns -/
def rcF (x a b c : Int) (t : Bool) (K P Q r0 r1 r2 : Int) : Int × Int × Int × Int × Int × Int × Int :=
  if 1 ≤ x ∧ x < 1073741789 then (if (wdB a && (wdB b && wdB c)) = true then useF t K P Q ((sgE x (rcT a b c) : Nat) + 1) (sgS x (rcT a b c) + 1) r0 r1 r2 else (0, 0, 0, 0, 0, 0, 430)) else (0, 0, 0, 0, 0, 0, 110)

theorem sgES_rng (x : Int) (b : Bytes) : 0 ≤ ((sgE x b : Nat) : Int) ∧ ((sgE x b : Nat) : Int) < 1073741789 ∧ 0 ≤ sgS x b ∧ sgS x b < 1073741789 := by
  have h1 := sgE_lt x b
  have h2 := sgS_rng x b
  omega

theorem rcmake_at (x a b c L K P Q r0 r1 r2 x0 y0 x1 y1 x2 y2 e0 : Int) (T : Bytes) (w : World) (hG : Glob w) (ha : I64 a) (hb : I64 b) (hc : I64 c) (hL : I64 L) (hK : I64 K) (hP : I64 P) (hQ : I64 Q) (hT : T.length = 32) (hr0 : I64 r0) (hr1 : I64 r1) (hr2 : I64 r2)
    (h : Seal (rcF x a b c (chkB L K P Q T) K P Q r0 r1 r2 = (x0, y0, x1, y1, x2, y2, e0))) :
    Calls Tryd.prog 10 #[.int .i64 x, .agg #[.int .i64 a, .int .i64 b, .int .i64 c], .agg (retC L K P Q T).toArray, .agg #[.int .i64 r0, .int .i64 r1, .int .i64 r2]] w fun e w' => e = .returned (.tuple #[.agg #[.int .i64 x0, .int .i64 y0, .int .i64 x1, .int .i64 y1, .int .i64 x2, .int .i64 y2], .int .i64 e0]) ∧ Below w.heap.size w w' := by
  have h' := h.out
  unfold rcF at h'
  by_cases hx : 1 ≤ x ∧ x < 1073741789
  · rw [if_pos hx] at h'
    by_cases hw : (wdB a && (wdB b && wdB c)) = true
    · rw [if_pos hw] at h'
      exact rcm_ok x a b c L K P Q r0 r1 r2 _ _ x0 y0 x1 y1 x2 y2 e0 T w hG hT (by omega) (by omega) ⟨hw⟩ ⟨fun W => rctext_any a b c W ha hb hc⟩
        ⟨fun W g n cap g1 h1 h2 => sign_yes x g n cap (rcT a b c) W hx.1 hx.2 h1 h2 g1⟩ (sgES_rng x (rcT a b c))
        ⟨fun W g1 => ouse_any L K P Q _ _ r0 r1 r2 x0 y0 x1 y1 x2 y2 e0 T W g1 hL hK hP hQ hT hr0 hr1 hr2 ⟨h'⟩⟩
    · rw [if_neg hw] at h'
      simp only [Prod.mk.injEq] at h'
      obtain ⟨rfl, rfl, rfl, rfl, rfl, rfl, rfl⟩ := h'
      exact rcm_word x a b c L K P Q r0 r1 r2 T w hT (by omega) (by omega) ⟨by simpa using hw⟩
  · rw [if_neg hx] at h'
    simp only [Prod.mk.injEq] at h'
    obtain ⟨rfl, rfl, rfl, rfl, rfl, rfl, rfl⟩ := h'
    exact rcm_key x a b c L K P Q r0 r1 r2 T w hT (by omega)

theorem rmake43_at (x a b c L K P Q r0 r1 r2 x0 y0 x1 y1 x2 y2 e0 : Int) (T : Bytes) (w : World) (hG : Glob w) (ha : I64 a) (hb : I64 b) (hc : I64 c) (hL : I64 L) (hK : I64 K) (hP : I64 P) (hQ : I64 Q) (hT : T.length = 32) (hr0 : I64 r0) (hr1 : I64 r1) (hr2 : I64 r2)
    (h : Seal (rcF x a b c (chkB L K P Q T) K P Q r0 r1 r2 = (x0, y0, x1, y1, x2, y2, e0))) :
    Calls Tryd.prog 11 #[.int .i64 x, .agg #[.int .i64 a, .int .i64 b, .int .i64 c], .agg (retC L K P Q T).toArray, .agg #[.int .i64 r0, .int .i64 r1, .int .i64 r2]] w fun e w' => e = .returned (.tuple #[.agg #[.int .i64 x0, .int .i64 y0, .int .i64 x1, .int .i64 y1, .int .i64 x2, .int .i64 y2], .int .i64 e0]) ∧ Below w.heap.size w w' := by
  have h' := h.out
  unfold rcF at h'
  by_cases hx : 1 ≤ x ∧ x < 1073741789
  · rw [if_pos hx] at h'
    by_cases hw : (wdB a && (wdB b && wdB c)) = true
    · rw [if_pos hw] at h'
      have hw2 : wdB a = true ∧ wdB b = true ∧ wdB c = true := by simpa using hw
      exact rm43_ok x a b c L K P Q r0 r1 r2 _ _ x0 y0 x1 y1 x2 y2 e0 T w hG hT (by omega) (by omega) hw2.1 hw2.2.1 hw2.2.2 ⟨fun W => rtext43_any a b c W ha hb hc⟩
        ⟨fun W g n cap g1 h1 h2 => rsign_yes x g n cap (rcT a b c) W hx.1 hx.2 h1 h2⟩ (sgES_rng x (rcT a b c))
        ⟨fun W g1 => ruse_any L K P Q _ _ r0 r1 r2 x0 y0 x1 y1 x2 y2 e0 T W g1 hL hK hP hQ hT hr0 hr1 hr2 ⟨h'⟩⟩
    · rw [if_neg hw] at h'
      simp only [Prod.mk.injEq] at h'
      obtain ⟨rfl, rfl, rfl, rfl, rfl, rfl, rfl⟩ := h'
      exact rm43_word x a b c L K P Q r0 r1 r2 T w hT (by omega) (by omega) (by simpa using hw)
  · rw [if_neg hx] at h'
    simp only [Prod.mk.injEq] at h'
    obtain ⟨rfl, rfl, rfl, rfl, rfl, rfl, rfl⟩ := h'
    exact rm43_key x a b c L K P Q r0 r1 r2 T w hT (by omega)

theorem mp_pwneg {a : Nat} (ha : Vd a) {e : Nat} (he : e < P) (n : Int) : mp (mp e (pw a n)) (pw a (-n)) = e := by
  rw [mp_assoc, show mp (pw a n) (pw a (-n)) = 1 from pw_neg ha n, mp_one he]
theorem nuB_elB {n : Int} (h1 : 1 ≤ n) (h2 : n ≤ 1073741789) : nuB (elB n) = n := by
  unfold nuB elB
  split <;> split <;> omega
/-- what a cipher is once the secret n is taken off, that was sealed with the key of n -/
theorem off_seal {n r : Int} {a e : Nat} (ha : a = pw 4 r) (he : e < P) {b : Nat} (hb : b = mp e (pw (pw 4 n) r)) :
    ((mp b (pw a (-n)) : Nat) : Int) = e := by
  rw [hb, ha, pw_pw vd4, pw_pw vd4, Int.mul_comm n r, show r * -n = -(r * n) from by rw [Int.mul_neg], mp_pwneg vd4 he]
set_option maxHeartbeats 8000000 in
theorem rcsane_core (y z s0 s1 s2 s3 s4 s5 u0 u1 u2 u3 u4 u5 : Int) (Xl : List Value) (w : World) (hG : Glob w)
    (IX : Seal ((Tryd.prog.info? 29).map (·.size) = some Xl.length)) (LX : Seal ((.int .i64 0 :: .int .i64 0 :: .int .i64 0 :: .int .i64 0 :: .int .u8 0 :: .int .u8 0 :: .int .u8 0 :: .int .u8 0 :: .int .u8 0 :: .int .u8 0 :: .int .u8 0 :: .int .u8 0 :: .int .u8 0 :: .int .u8 0 :: .int .u8 0 :: .int .u8 0 :: .int .u8 0 :: .int .u8 0 :: .int .u8 0 :: .int .u8 0 :: .int .u8 0 :: .int .u8 0 :: .int .u8 0 :: .int .u8 0 :: .int .u8 0 :: .int .u8 0 :: .int .u8 0 :: .int .u8 0 :: .int .u8 0 :: .int .u8 0 :: .int .u8 0 :: .int .u8 0 :: .int .u8 0 :: .int .u8 0 :: .int .u8 0 :: .int .u8 0 :: [] : List Value).length = Xl.length)) (OX : Seal (∀ u ∈ Xl, u.oneCell' = true))
    (H1 : Seal (∀ W, Glob W → Calls Tryd.prog 16 #[.int .i64 0, .int .i64 64, .int .i64 9, .int .i64 5] W fun e w' => e = .returned (.tuple #[.agg Xl.toArray, .int .i64 0]) ∧ Below W.heap.size W w'))
    (H2 : Seal (∀ W, Glob W → Calls Tryd.prog 10 #[.int .i64 5, .agg #[.int .i64 7, .int .i64 1, .int .i64 1048576], .agg Xl.toArray, .agg #[.int .i64 1, .int .i64 2, .int .i64 3]] W fun e w' => e = .returned (.tuple #[.agg #[.int .i64 s0, .int .i64 s1, .int .i64 s2, .int .i64 s3, .int .i64 s4, .int .i64 s5], .int .i64 0]) ∧ Below W.heap.size W w'))
    (H3 : Seal (∀ W, Glob W → Calls Tryd.prog 21 #[.int .i64 3, .agg #[.int .i64 s0, .int .i64 s1, .int .i64 s2, .int .i64 s3, .int .i64 s4, .int .i64 s5]] W fun e w' => e = .returned (.tuple #[.agg #[.int .i64 u0, .int .i64 u1, .int .i64 u2, .int .i64 u3, .int .i64 u4, .int .i64 u5], .int .i64 0]) ∧ Below W.heap.size W w'))
    (H4 : Seal (∀ W, Glob W → Calls Tryd.prog 22 #[.agg #[.int .i64 u0, .int .i64 u1, .int .i64 u2, .int .i64 u3, .int .i64 u4, .int .i64 u5]] W fun e w' => e = .returned (.tuple #[.agg #[.int .i64 9, .int .i64 y, .int .i64 z], .int .i64 0]) ∧ Below W.heap.size W w'))
    (H5 : Seal (∀ W, Glob W → Calls Tryd.prog 10 #[.int .i64 0, .agg #[.int .i64 7, .int .i64 1, .int .i64 1048576], .agg Xl.toArray, .agg #[.int .i64 0, .int .i64 0, .int .i64 0]] W fun e w' => e = .returned (.tuple #[.agg #[.int .i64 0, .int .i64 0, .int .i64 0, .int .i64 0, .int .i64 0, .int .i64 0], .int .i64 110]) ∧ Below W.heap.size W w'))
    (H6 : Seal (∀ W, Glob W → Calls Tryd.prog 10 #[.int .i64 5, .agg #[.int .i64 0, .int .i64 1, .int .i64 1], .agg Xl.toArray, .agg #[.int .i64 0, .int .i64 0, .int .i64 0]] W fun e w' => e = .returned (.tuple #[.agg #[.int .i64 0, .int .i64 0, .int .i64 0, .int .i64 0, .int .i64 0, .int .i64 0], .int .i64 430]) ∧ Below W.heap.size W w'))
    (H7 : Seal (∀ W, Glob W → Calls Tryd.prog 10 #[.int .i64 5, .agg #[.int .i64 7, .int .i64 1, .int .i64 1048576], .agg (List.toArray (.int .i64 0 :: .int .i64 0 :: .int .i64 0 :: .int .i64 0 :: .int .u8 0 :: .int .u8 0 :: .int .u8 0 :: .int .u8 0 :: .int .u8 0 :: .int .u8 0 :: .int .u8 0 :: .int .u8 0 :: .int .u8 0 :: .int .u8 0 :: .int .u8 0 :: .int .u8 0 :: .int .u8 0 :: .int .u8 0 :: .int .u8 0 :: .int .u8 0 :: .int .u8 0 :: .int .u8 0 :: .int .u8 0 :: .int .u8 0 :: .int .u8 0 :: .int .u8 0 :: .int .u8 0 :: .int .u8 0 :: .int .u8 0 :: .int .u8 0 :: .int .u8 0 :: .int .u8 0 :: .int .u8 0 :: .int .u8 0 :: .int .u8 0 :: .int .u8 0 :: []) : Array Value), .agg #[.int .i64 0, .int .i64 0, .int .i64 0]] W fun e w' => e = .returned (.tuple #[.agg #[.int .i64 0, .int .i64 0, .int .i64 0, .int .i64 0, .int .i64 0, .int .i64 0], .int .i64 160]) ∧ Below W.heap.size W w'))
    (H8 : Seal (∀ W, Glob W → Calls Tryd.prog 12 #[.int .i64 1024, .agg #[.int .i64 7, .int .i64 1, .int .i64 1048576], .agg #[.int .i64 9, .int .i64 y, .int .i64 z]] W fun e w' => e = .returned (.bool true) ∧ Below W.heap.size W w'))
    (H9 : Seal (∀ W, Glob W → Calls Tryd.prog 12 #[.int .i64 1024, .agg #[.int .i64 7, .int .i64 1, .int .i64 1048576], .agg #[.int .i64 8, .int .i64 y, .int .i64 z]] W fun e w' => e = .returned (.bool true) ∧ Below W.heap.size W w'))
    (H10 : Seal (∀ W, Glob W → Calls Tryd.prog 12 #[.int .i64 2, .agg #[.int .i64 7, .int .i64 1, .int .i64 1048576], .agg #[.int .i64 9, .int .i64 y, .int .i64 z]] W fun e w' => e = .returned (.bool false) ∧ Below W.heap.size W w'))
    (H11 : Seal (∀ W, Glob W → Calls Tryd.prog 12 #[.int .i64 1024, .agg #[.int .i64 7, .int .i64 1, .int .i64 1048576], .agg #[.int .i64 9, .int .i64 0, .int .i64 0]] W fun e w' => e = .returned (.bool false) ∧ Below W.heap.size W w')) :
    Calls Tryd.prog 9 #[] w fun e w' => e = .returned (.bool true) ∧ Below w.heap.size w w' := by
  have HE0 : Seal (Env w none 0 0 [] []) := ⟨⟨hG, isB_nil w, by intro p hp; cases hp⟩⟩
  have HB0 : Seal (Below w.heap.size w w) := ⟨Below.refl _ _⟩
  have IXa : Seal ((Tryd.prog.info? 29).map (·.size) = some Xl.toArray.size) := ⟨by rw [List.size_toArray]; exact IX.out⟩
  have IW := Seal.mk (show (Tryd.prog.info? 23).map (·.size) = some 3 by kernel_rfl)
  have IS := Seal.mk (show (Tryd.prog.info? 32).map (·.size) = some 6 by kernel_rfl)
  clear hG
  go_enter Tryd.func9, Tryd.ntmps9
  have HE := Seal.mk (HE0.out.push (.cells #[.int .i64 7, .int .i64 1, .int .i64 1048576] 23))
  have HB := Seal.mk (HB0.out.alloc (Nat.le_refl _) (.cells #[.int .i64 7, .int .i64 1, .int .i64 1048576] 23))
  clear HE0 HB0
  go_wp2_with fail
  refine (H1.out _ HE.out.glob).mono ?_
  rintro e w1 ⟨rfl, hb⟩
  have HE' := Seal.mk ((HE.out.below hb).push (.cells Xl.toArray 29))
  have HB' := Seal.mk ((HB.out.trans (hb.mono HB.out.size)).alloc (Nat.le_trans HB.out.size hb.size) (.cells Xl.toArray 29))
  clear hb HE HB
  have HE := HE'
  have HB := HB'
  clear HE' HB'
  go_wp2_with (first | (refine wpList_store_new rfl 29 (.tmp 2) (.tmp 20) rfl (.int .i64 0 :: .int .i64 0 :: .int .i64 0 :: .int .i64 0 :: .int .u8 0 :: .int .u8 0 :: .int .u8 0 :: .int .u8 0 :: .int .u8 0 :: .int .u8 0 :: .int .u8 0 :: .int .u8 0 :: .int .u8 0 :: .int .u8 0 :: .int .u8 0 :: .int .u8 0 :: .int .u8 0 :: .int .u8 0 :: .int .u8 0 :: .int .u8 0 :: .int .u8 0 :: .int .u8 0 :: .int .u8 0 :: .int .u8 0 :: .int .u8 0 :: .int .u8 0 :: .int .u8 0 :: .int .u8 0 :: .int .u8 0 :: .int .u8 0 :: .int .u8 0 :: .int .u8 0 :: .int .u8 0 :: .int .u8 0 :: .int .u8 0 :: .int .u8 0 :: [] : List Value) Xl 29 rfl rfl IX.out LX.out OX.out ?_) | (refine wpList_load_row rfl 23 (.tmp 1) rfl (w.heap.size) rfl 23 #[.int .i64 7, .int .i64 1, .int .i64 1048576] (0, 0) _ (HE.out.keep (w.heap.size, .cells #[.int .i64 7, .int .i64 1, .int .i64 1048576] 23) (by simp)) Tryd.underlying23 rfl IW.out ?_) | (refine wpList_load_row rfl 29 (.tmp 2) rfl (w1.heap.size) rfl 29 Xl.toArray (0, 0) _ (HE.out.keep (w1.heap.size, .cells Xl.toArray 29) (by simp)) Tryd.underlying29 rfl IXa.out ?_))
  refine (H2.out _ HE.out.glob).mono ?_
  rintro e w2 ⟨rfl, hb⟩
  have HE' := Seal.mk ((HE.out.below hb).push (.cells #[.int .i64 s0, .int .i64 s1, .int .i64 s2, .int .i64 s3, .int .i64 s4, .int .i64 s5] 32))
  have HB' := Seal.mk ((HB.out.trans (hb.mono HB.out.size)).alloc (Nat.le_trans HB.out.size hb.size) (.cells #[.int .i64 s0, .int .i64 s1, .int .i64 s2, .int .i64 s3, .int .i64 s4, .int .i64 s5] 32))
  clear hb HE HB
  have HE := HE'
  have HB := HB'
  clear HE' HB'
  go_wp2_with (refine wpList_load_row rfl 32 (.tmp 4) rfl (w2.heap.size) rfl 32 #[.int .i64 s0, .int .i64 s1, .int .i64 s2, .int .i64 s3, .int .i64 s4, .int .i64 s5] (0, 0) _ (HE.out.keep (w2.heap.size, .cells #[.int .i64 s0, .int .i64 s1, .int .i64 s2, .int .i64 s3, .int .i64 s4, .int .i64 s5] 32) (by simp)) Tryd.underlying32 rfl IS.out ?_)
  refine (H3.out _ HE.out.glob).mono ?_
  rintro e w3 ⟨rfl, hb⟩
  have HE' := Seal.mk ((HE.out.below hb).push (.cells #[.int .i64 u0, .int .i64 u1, .int .i64 u2, .int .i64 u3, .int .i64 u4, .int .i64 u5] 32))
  have HB' := Seal.mk ((HB.out.trans (hb.mono HB.out.size)).alloc (Nat.le_trans HB.out.size hb.size) (.cells #[.int .i64 u0, .int .i64 u1, .int .i64 u2, .int .i64 u3, .int .i64 u4, .int .i64 u5] 32))
  clear hb HE HB
  have HE := HE'
  have HB := HB'
  clear HE' HB'
  go_wp2_with (refine wpList_load_row rfl 32 (.tmp 6) rfl (w3.heap.size) rfl 32 #[.int .i64 u0, .int .i64 u1, .int .i64 u2, .int .i64 u3, .int .i64 u4, .int .i64 u5] (0, 0) _ (HE.out.keep (w3.heap.size, .cells #[.int .i64 u0, .int .i64 u1, .int .i64 u2, .int .i64 u3, .int .i64 u4, .int .i64 u5] 32) (by simp)) Tryd.underlying32 rfl IS.out ?_)
  refine (H4.out _ HE.out.glob).mono ?_
  rintro e w4 ⟨rfl, hb⟩
  have HE' := Seal.mk ((HE.out.below hb).push (.cells #[.int .i64 9, .int .i64 y, .int .i64 z] 23))
  have HB' := Seal.mk ((HB.out.trans (hb.mono HB.out.size)).alloc (Nat.le_trans HB.out.size hb.size) (.cells #[.int .i64 9, .int .i64 y, .int .i64 z] 23))
  clear hb HE HB
  have HE := HE'
  have HB := HB'
  clear HE' HB'
  go_wp2_with (first | (refine wpList_load_row rfl 23 (.tmp 1) rfl (w.heap.size) rfl 23 #[.int .i64 7, .int .i64 1, .int .i64 1048576] (0, 0) _ (HE.out.keep (w.heap.size, .cells #[.int .i64 7, .int .i64 1, .int .i64 1048576] 23) (by simp)) Tryd.underlying23 rfl IW.out ?_) | (refine wpList_load_row rfl 29 (.tmp 2) rfl (w1.heap.size) rfl 29 Xl.toArray (0, 0) _ (HE.out.keep (w1.heap.size, .cells Xl.toArray 29) (by simp)) Tryd.underlying29 rfl IXa.out ?_))
  refine (H5.out _ HE.out.glob).mono ?_
  rintro e w5 ⟨rfl, hb⟩
  have HE' := Seal.mk ((HE.out.below hb).push (.cells #[.int .i64 0, .int .i64 0, .int .i64 0, .int .i64 0, .int .i64 0, .int .i64 0] 32))
  have HB' := Seal.mk ((HB.out.trans (hb.mono HB.out.size)).alloc (Nat.le_trans HB.out.size hb.size) (.cells #[.int .i64 0, .int .i64 0, .int .i64 0, .int .i64 0, .int .i64 0, .int .i64 0] 32))
  clear hb HE HB
  have HE := HE'
  have HB := HB'
  clear HE' HB'
  go_wp2_with (first | (refine wpList_load_row rfl 23 (.tmp 1) rfl (w.heap.size) rfl 23 #[.int .i64 7, .int .i64 1, .int .i64 1048576] (0, 0) _ (HE.out.keep (w.heap.size, .cells #[.int .i64 7, .int .i64 1, .int .i64 1048576] 23) (by simp)) Tryd.underlying23 rfl IW.out ?_) | (refine wpList_load_row rfl 29 (.tmp 2) rfl (w1.heap.size) rfl 29 Xl.toArray (0, 0) _ (HE.out.keep (w1.heap.size, .cells Xl.toArray 29) (by simp)) Tryd.underlying29 rfl IXa.out ?_))
  refine (H6.out _ HE.out.glob).mono ?_
  rintro e w6 ⟨rfl, hb⟩
  have HE' := Seal.mk ((HE.out.below hb).push (.cells #[.int .i64 0, .int .i64 0, .int .i64 0, .int .i64 0, .int .i64 0, .int .i64 0] 32))
  have HB' := Seal.mk ((HB.out.trans (hb.mono HB.out.size)).alloc (Nat.le_trans HB.out.size hb.size) (.cells #[.int .i64 0, .int .i64 0, .int .i64 0, .int .i64 0, .int .i64 0, .int .i64 0] 32))
  clear hb HE HB
  have HE := HE'
  have HB := HB'
  clear HE' HB'
  go_wp2_with (first | (refine wpList_load_row rfl 23 (.tmp 1) rfl (w.heap.size) rfl 23 #[.int .i64 7, .int .i64 1, .int .i64 1048576] (0, 0) _ (HE.out.keep (w.heap.size, .cells #[.int .i64 7, .int .i64 1, .int .i64 1048576] 23) (by simp)) Tryd.underlying23 rfl IW.out ?_) | (refine wpList_load_row rfl 29 (.tmp 2) rfl (w1.heap.size) rfl 29 Xl.toArray (0, 0) _ (HE.out.keep (w1.heap.size, .cells Xl.toArray 29) (by simp)) Tryd.underlying29 rfl IXa.out ?_))
  refine (H7.out _ HE.out.glob).mono ?_
  rintro e w7 ⟨rfl, hb⟩
  have HE' := Seal.mk ((HE.out.below hb).push (.cells #[.int .i64 0, .int .i64 0, .int .i64 0, .int .i64 0, .int .i64 0, .int .i64 0] 32))
  have HB' := Seal.mk ((HB.out.trans (hb.mono HB.out.size)).alloc (Nat.le_trans HB.out.size hb.size) (.cells #[.int .i64 0, .int .i64 0, .int .i64 0, .int .i64 0, .int .i64 0, .int .i64 0] 32))
  clear hb HE HB
  have HE := HE'
  have HB := HB'
  clear HE' HB'
  have HE2 := Seal.mk (HE.out.push (.cells #[.int .i64 8, .int .i64 y, .int .i64 z] 23))
  have HB2 := Seal.mk (HB.out.alloc HB.out.size (.cells #[.int .i64 8, .int .i64 y, .int .i64 z] 23))
  have ra := HE2.out.keep (w.heap.size, .cells #[.int .i64 7, .int .i64 1, .int .i64 1048576] 23) (by simp)
  have a0 := (cell_of_row _ _ 0 _ _ _ ra).trans (show _ = some (Value.int .i64 7) from rfl)
  have a1 := (cell_of_row _ _ 1 _ _ _ ra).trans (show _ = some (Value.int .i64 1) from rfl)
  have a2 := (cell_of_row _ _ 2 _ _ _ ra).trans (show _ = some (Value.int .i64 1048576) from rfl)
  have rb := HE2.out.keep (w4.heap.size, .cells #[.int .i64 9, .int .i64 y, .int .i64 z] 23) (by simp)
  have b0 := (cell_of_row _ _ 0 _ _ _ rb).trans (show _ = some (Value.int .i64 9) from rfl)
  have b1 := (cell_of_row _ _ 1 _ _ _ rb).trans (show _ = some (Value.int .i64 y) from rfl)
  have b2 := (cell_of_row _ _ 2 _ _ _ rb).trans (show _ = some (Value.int .i64 z) from rfl)
  have rd := heap_alloc_new (w7.alloc (.cells #[.int .i64 0, .int .i64 0, .int .i64 0, .int .i64 0, .int .i64 0, .int .i64 0] 32)) (.cells #[.int .i64 8, .int .i64 y, .int .i64 z] 23)
  rw [size_alloc] at rd
  have d0 := (cell_of_row _ _ 0 _ _ _ rd).trans (show _ = some (Value.int .i64 8) from rfl)
  have d1 := (cell_of_row _ _ 1 _ _ _ rd).trans (show _ = some (Value.int .i64 y) from rfl)
  have d2 := (cell_of_row _ _ 2 _ _ _ rd).trans (show _ = some (Value.int .i64 z) from rfl)
  dsimp only at a0 a1 a2 b0 b1 b2 d0 d1 d2
  clear ra rb rd
  obtain ⟨G, hG⟩ : ∃ G : World → Prop, G = fun w' => w'.cell? ⟨w.heap.size, 0, none⟩ = some (.int .i64 7) ∧ w'.cell? ⟨w.heap.size, 1, none⟩ = some (.int .i64 1) ∧ w'.cell? ⟨w.heap.size, 2, none⟩ = some (.int .i64 1048576) ∧ w'.cell? ⟨w4.heap.size, 0, none⟩ = some (.int .i64 9) ∧ w'.cell? ⟨w4.heap.size, 1, none⟩ = some (.int .i64 y) ∧ w'.cell? ⟨w4.heap.size, 2, none⟩ = some (.int .i64 z) ∧ w'.cell? ⟨(w7.heap.size + 1), 0, none⟩ = some (.int .i64 8) ∧ w'.cell? ⟨(w7.heap.size + 1), 1, none⟩ = some (.int .i64 y) ∧ w'.cell? ⟨(w7.heap.size + 1), 2, none⟩ = some (.int .i64 z) := ⟨_, rfl⟩
  have KG : Seal (∀ u v : World, Below u.heap.size u v → G u → G v) := ⟨by rw [hG]; exact fun u v hb h => ⟨cell_later hb h.1, cell_later hb h.2.1, cell_later hb h.2.2.1, cell_later hb h.2.2.2.1, cell_later hb h.2.2.2.2.1, cell_later hb h.2.2.2.2.2.1, cell_later hb h.2.2.2.2.2.2.1, cell_later hb h.2.2.2.2.2.2.2.1, cell_later hb h.2.2.2.2.2.2.2.2⟩⟩
  have G2 : Seal (G ((w7.alloc (.cells #[.int .i64 0, .int .i64 0, .int .i64 0, .int .i64 0, .int .i64 0, .int .i64 0] 32)).alloc (.cells #[.int .i64 8, .int .i64 y, .int .i64 z] 23))) := ⟨by rw [hG]; exact ⟨a0, a1, a2, b0, b1, b2, d0, d1, d2⟩⟩
  have HGq := Seal.mk hG
  clear hG
  go_wp2_with (refine wpList_load_row rfl 23 (.tmp 8) rfl (w4.heap.size) rfl 23 #[.int .i64 9, .int .i64 y, .int .i64 z] (0, 0) _ (HE.out.keep (w4.heap.size, .cells #[.int .i64 9, .int .i64 y, .int .i64 z] 23) (by simp)) Tryd.underlying23 rfl IW.out ?_)
  refine (H8.out _ HE2.out.glob).mono ?_
  rintro e w8 ⟨rfl, hb⟩
  have G3 := KG.out _ _ hb G2.out
  have HE3 := Seal.mk (HE2.out.below hb)
  have HB3 := Seal.mk (HB2.out.trans (hb.mono HB2.out.size))
  clear hb G2 HE2 HB2 a0 a1 a2 b0 b1 b2 d0 d1 d2
  have G2 := Seal.mk G3
  have HE2 := HE3
  have HB2 := HB3
  rw [HGq.out] at G3
  obtain ⟨a0, a1, a2, b0, b1, b2, d0, d1, d2⟩ := G3
  clear HE3 HB3
  go_wp2_with fail
  refine (H9.out _ HE2.out.glob).mono ?_
  rintro e w9 ⟨rfl, hb⟩
  have G3 := KG.out _ _ hb G2.out
  have HE3 := Seal.mk (HE2.out.below hb)
  have HB3 := Seal.mk (HB2.out.trans (hb.mono HB2.out.size))
  clear hb G2 HE2 HB2 a0 a1 a2 b0 b1 b2 d0 d1 d2
  have G2 := Seal.mk G3
  have HE2 := HE3
  have HB2 := HB3
  rw [HGq.out] at G3
  obtain ⟨a0, a1, a2, b0, b1, b2, d0, d1, d2⟩ := G3
  clear HE3 HB3
  go_wp2_with fail
  refine (H10.out _ HE2.out.glob).mono ?_
  rintro e w10 ⟨rfl, hb⟩
  have G3 := KG.out _ _ hb G2.out
  have HE3 := Seal.mk (HE2.out.below hb)
  have HB3 := Seal.mk (HB2.out.trans (hb.mono HB2.out.size))
  clear hb G2 HE2 HB2 a0 a1 a2 b0 b1 b2 d0 d1 d2
  have G2 := Seal.mk G3
  have HE2 := HE3
  have HB2 := HB3
  rw [HGq.out] at G3
  obtain ⟨a0, a1, a2, b0, b1, b2, d0, d1, d2⟩ := G3
  clear HE3 HB3
  go_wp2_with fail
  refine (H11.out _ HE2.out.glob).mono ?_
  rintro e w11 ⟨rfl, hb⟩
  have G3 := KG.out _ _ hb G2.out
  have HE3 := Seal.mk (HE2.out.below hb)
  have HB3 := Seal.mk (HB2.out.trans (hb.mono HB2.out.size))
  clear hb G2 HE2 HB2 a0 a1 a2 b0 b1 b2 d0 d1 d2
  have G2 := Seal.mk G3
  have HE2 := HE3
  have HB2 := HB3
  rw [HGq.out] at G3
  obtain ⟨a0, a1, a2, b0, b1, b2, d0, d1, d2⟩ := G3
  clear HE3 HB3
  go_wp2_with fail
  go_ret
  exact ⟨rfl, HB2.out⟩

theorem vv9 : vd 9 = true := by decide +kernel
theorem vv64 : vd 64 = true := by decide +kernel
theorem vv1024 : vd 1024 = true := by decide +kernel
theorem vvQ : vd 1073742100 = true := by decide +kernel
theorem vvn2 : vd 2 = false := by decide +kernel
theorem vvn0 : vd 0 = false := by decide +kernel
theorem pw45 : pw 4 5 = 1024 := by rw [pw_q]; decide +kernel
theorem pw645 : pw 64 5 = 1073741824 := by rw [pw_q]; decide +kernel
theorem pw43 : pw 4 3 = 64 := by rw [pw_q]; decide +kernel
def rcX : Bytes := rtag 0 64 1024 1073742100
theorem rcX_len : rcX.length = 32 := sha_length _
theorem rcmk : makeF 0 64 9 5 = (0, 64, 1024, 1073742100, rcX, 0) := by
  unfold makeF
  rw [if_neg (by decide), if_pos vv64, if_pos (by decide), show elB 9 = 9 from by unfold elB; rw [if_pos vv9]]
  show (0, 64, ((mp 1 (pw 4 5) : Nat) : Int), ((mp 9 (pw 64 5) : Nat) : Int), rtag 0 64 ((mp 1 (pw 4 5) : Nat) : Int) ((mp 9 (pw 64 5) : Nat) : Int), 0) = _
  rw [pw45, pw645, show mp 1 1024 = 1024 from by decide, show mp 9 1073741824 = 1073742100 from by decide]
  rfl
theorem rcchk : chkB 0 64 1024 1073742100 rcX = true := by
  unfold chkB
  rw [vv64, vv1024, vvQ]
  simp [rcX]
theorem rcchk0 : chkB 0 0 0 0 zb32 = false := by
  unfold chkB
  rw [vvn0]
  simp
theorem i64r {n : Int} (h : decide (-9223372036854775808 ≤ n) && decide (n ≤ 9223372036854775807) = true) : I64 n := by
  simp only [Bool.and_eq_true, decide_eq_true_eq] at h
  exact h
/-- the words of the letter that sane makes, hidden -/
def rcL (E S : Int) : Fin 3 → Int × Int
  | 0 => (((mp 1024 (pw 4 1) : Nat) : Int), ((mp 1073742100 (pw 64 1) : Nat) : Int))
  | 1 => (((mp 1 (pw 4 2) : Nat) : Int), ((mp (elB (E + 1)).toNat (pw 64 2) : Nat) : Int))
  | 2 => (((mp 1 (pw 4 3) : Nat) : Int), ((mp (elB (S + 1)).toNat (pw 64 3) : Nat) : Int))
theorem vd_cast {n : Int} (h : vd n = true) : ∃ a : Nat, n = a ∧ Vd a ∧ a < P := by
  obtain ⟨a, rfl, ha⟩ := vd_of_vd h
  exact ⟨a, rfl, ha, ha.2.1⟩
theorem rcL_ok {E S : Int} (hE : 0 ≤ E ∧ E < 1073741789) (hS : 0 ≤ S ∧ S < 1073741789) : okL (rcL E S) := by
  have h64 : Vd 64 := (vd_iff _).1 vv64
  have hm : ∀ {a b : Nat}, Vd a → Vd b → vd ((mp a b : Nat) : Int) = true := fun ha hb => (vd_iff _).2 (ha.mp hb)
  have v1 : Vd 1 := (vd_iff _).1 (by decide +kernel)
  intro j
  rcases fin3e j with rfl | rfl | rfl
  · exact ⟨hm ((vd_iff _).1 vv1024) (Vd.pw vd4 1), hm ((vd_iff _).1 vvQ) (Vd.pw h64 1)⟩
  · obtain ⟨a, e, ha, _⟩ := vd_cast (elB_vd (show 1 ≤ E + 1 by omega) (by omega))
    refine ⟨hm v1 (Vd.pw vd4 2), ?_⟩
    show vd ((mp (elB (E + 1)).toNat (pw 64 2) : Nat) : Int) = true
    rw [e]; exact hm ha (Vd.pw h64 2)
  · obtain ⟨a, e, ha, _⟩ := vd_cast (elB_vd (show 1 ≤ S + 1 by omega) (by omega))
    refine ⟨hm v1 (Vd.pw vd4 3), ?_⟩
    show vd ((mp (elB (S + 1)).toNat (pw 64 3) : Nat) : Int) = true
    rw [e]; exact hm ha (Vd.pw h64 3)

theorem off0 : (offP 3 (((mp 1024 (pw 4 1) : Nat) : Int), ((mp 1073742100 (pw 64 1) : Nat) : Int))).2 = 9 := by
  show ((mp (mp 1073742100 (pw 64 1)) (pw (mp 1024 (pw 4 1)) (-3)) : Nat) : Int) = 9
  rw [pw_q 64, pw_q 4, pw_q]
  decide +kernel
theorem offn {n r : Int} (h1 : 1 ≤ n) (h2 : n ≤ 1073741789) : (offP 3 (((mp 1 (pw 4 r) : Nat) : Int), ((mp (elB n).toNat (pw 64 r) : Nat) : Int))).2 = elB n := by
  obtain ⟨a, e, _, ha⟩ := vd_cast (elB_vd h1 h2)
  rw [e]
  show ((mp (mp a (pw 64 r)) (pw (mp 1 (pw 4 r)) (-3)) : Nat) : Int) = (a : Int)
  exact off_seal (n := 3) (r := r) (by rw [one_mp (pw_lt _ _)]) ha (by rw [pw43])
theorem rcread {E S : Int} (hE : 0 ≤ E ∧ E < 1073741789) (hS : 0 ≤ S ∧ S < 1073741789) :
    nuB (offP 3 (rcL E S 0)).2 = 9 ∧ nuB (offP 3 (rcL E S 1)).2 = E + 1 ∧ nuB (offP 3 (rcL E S 2)).2 = S + 1 := by
  refine ⟨?_, ?_, ?_⟩
  · show nuB (offP 3 (((mp 1024 (pw 4 1) : Nat) : Int), ((mp 1073742100 (pw 64 1) : Nat) : Int))).2 = 9
    rw [off0]; decide
  · show nuB (offP 3 (((mp 1 (pw 4 2) : Nat) : Int), ((mp (elB (E + 1)).toNat (pw 64 2) : Nat) : Int))).2 = E + 1
    rw [offn (by omega) (by omega), nuB_elB (by omega) (by omega)]
  · show nuB (offP 3 (((mp 1 (pw 4 3) : Nat) : Int), ((mp (elB (S + 1)).toNat (pw 64 3) : Nat) : Int))).2 = S + 1
    rw [offn (by omega) (by omega), nuB_elB (by omega) (by omega)]
theorem rcmake1 : rcF 5 7 1 1048576 (chkB 0 64 1024 1073742100 rcX) 64 1024 1073742100 1 2 3 =
    ((rcL (sgE 5 (rcT 7 1 1048576) : Nat) (sgS 5 (rcT 7 1 1048576)) 0).1, (rcL (sgE 5 (rcT 7 1 1048576) : Nat) (sgS 5 (rcT 7 1 1048576)) 0).2,
     (rcL (sgE 5 (rcT 7 1 1048576) : Nat) (sgS 5 (rcT 7 1 1048576)) 1).1, (rcL (sgE 5 (rcT 7 1 1048576) : Nat) (sgS 5 (rcT 7 1 1048576)) 1).2,
     (rcL (sgE 5 (rcT 7 1 1048576) : Nat) (sgS 5 (rcT 7 1 1048576)) 2).1, (rcL (sgE 5 (rcT 7 1 1048576) : Nat) (sgS 5 (rcT 7 1 1048576)) 2).2, 0) := by
  obtain ⟨h1, h2, h3, h4⟩ := sgES_rng 5 (rcT 7 1 1048576)
  rw [rcchk]
  unfold rcF useF
  generalize ((sgE 5 (rcT 7 1 1048576) : Nat) : Int) = E at *
  generalize sgS 5 (rcT 7 1 1048576) = S at *
  rw [if_pos (by decide), if_pos (by decide), if_pos rfl, if_pos (by omega), if_pos (by omega)]
  rfl
theorem rcB_yes : rcB 1024 7 1 1048576 ((sgE 5 (rcT 7 1 1048576) : Nat) + 1) (sgS 5 (rcT 7 1 1048576) + 1) = true := by
  obtain ⟨h1, h2, h3, h4⟩ := sgES_rng 5 (rcT 7 1 1048576)
  have sr := sign_right 5 (rcT 7 1 1048576)
  rw [pw45, show ((1024 : Nat) : Int) = 1024 from rfl] at sr
  unfold rcB
  rw [(wdB_iff _).2 (by omega), (wdB_iff _).2 (by omega), Int.add_sub_cancel, Int.add_sub_cancel, sr]
  rfl
theorem rcB_key2 (a b c y z : Int) : rcB 2 a b c y z = false := by
  unfold rcB vrB
  rw [vvn2]
  simp
theorem rcB_zero (key a b c : Int) : rcB key a b c 0 0 = false := by
  unfold rcB
  rw [show wdB 0 = false from rfl]
  rfl

set_option maxHeartbeats 1000000 in
theorem rcsane_any (w : World) (hG : Glob w) : Calls Tryd.prog 9 #[] w fun e w' => e = .returned (.bool true) ∧ Below w.heap.size w w' := by
  have hr := sgES_rng 5 (rcT 7 1 1048576)
  have hE : 0 ≤ ((sgE 5 (rcT 7 1 1048576) : Nat) : Int) ∧ ((sgE 5 (rcT 7 1 1048576) : Nat) : Int) < 1073741789 := ⟨hr.1, hr.2.1⟩
  have hS : 0 ≤ sgS 5 (rcT 7 1 1048576) ∧ sgS 5 (rcT 7 1 1048576) < 1073741789 := hr.2.2
  obtain ⟨L, hL⟩ : ∃ L, L = rcL (sgE 5 (rcT 7 1 1048576) : Nat) (sgS 5 (rcT 7 1 1048576)) := ⟨_, rfl⟩
  have ok : okL L := by rw [hL]; exact rcL_ok hE hS
  have ok2 : okL (fun j => offP 3 (L j)) := fun j => offP_ok (ok j)
  have hm := rcmake1
  rw [← hL] at hm
  obtain ⟨n0, n1, n2⟩ := rcread hE hS
  rw [← hL] at n0 n1 n2
  have rl : ∀ M : Fin 3 → Int × Int, (rowL M).toArray = #[.int .i64 (M 0).1, .int .i64 (M 0).2, .int .i64 (M 1).1, .int .i64 (M 1).2, .int .i64 (M 2).1, .int .i64 (M 2).2] := fun M => rfl
  have ir := retC_info (L := 0) (K := 64) (P := 1024) (Q := 1073742100) rcX_len
  have il : (retC 0 64 1024 1073742100 rcX).length = 36 := retC_len rcX_len
  have bnd : ∀ n : Int, 0 ≤ n ∧ n < 1073741789 → I64 n := fun n h => ⟨by omega, by omega⟩
  refine rcsane_core ((sgE 5 (rcT 7 1 1048576) : Nat) + 1) (sgS 5 (rcT 7 1 1048576) + 1) (L 0).1 (L 0).2 (L 1).1 (L 1).2 (L 2).1 (L 2).2
    (offP 3 (L 0)).1 (offP 3 (L 0)).2 (offP 3 (L 1)).1 (offP 3 (L 1)).2 (offP 3 (L 2)).1 (offP 3 (L 2)).2 (retC 0 64 1024 1073742100 rcX) w hG
    ⟨ir⟩ ⟨by rw [il]; rfl⟩ ⟨retC_one _ _ _ _ _⟩
    ⟨fun W g => omake_at 0 64 9 5 _ _ _ _ _ _ W g (by decide) (by decide) (by decide) (by decide) ⟨rcmk⟩⟩
    ⟨fun W g => rcmake_at 5 7 1 1048576 0 64 1024 1073742100 1 2 3 _ _ _ _ _ _ _ rcX W g (i64r rfl) (i64r rfl) (i64r rfl) (i64r rfl) (i64r rfl) (i64r rfl) (i64r rfl) rcX_len (i64r rfl) (i64r rfl) (i64r rfl) ⟨hm⟩⟩
    ⟨fun W g => by rw [← rl, show (#[.int .i64 (offP 3 (L 0)).1, .int .i64 (offP 3 (L 0)).2, .int .i64 (offP 3 (L 1)).1, .int .i64 (offP 3 (L 1)).2, .int .i64 (offP 3 (L 2)).1, .int .i64 (offP 3 (L 2)).2] : Array Value) = (rowL fun j => offP 3 (L j)).toArray from rfl]; exact estrip_yes 3 L W ok (by decide) (by decide)⟩
    ⟨fun W g => by
      have := eread_any (fun j => offP 3 (L j)) W ok2
      rw [n0, n1, n2] at this
      exact this⟩
    ⟨fun W g => rcmake_at 0 7 1 1048576 0 64 1024 1073742100 0 0 0 _ _ _ _ _ _ _ rcX W g (i64r rfl) (i64r rfl) (i64r rfl) (i64r rfl) (i64r rfl) (i64r rfl) (i64r rfl) rcX_len (i64r rfl) (i64r rfl) (i64r rfl) ⟨by unfold rcF; rw [if_neg (by decide)]⟩⟩
    ⟨fun W g => rcmake_at 5 0 1 1 0 64 1024 1073742100 0 0 0 _ _ _ _ _ _ _ rcX W g (i64r rfl) (i64r rfl) (i64r rfl) (i64r rfl) (i64r rfl) (i64r rfl) (i64r rfl) rcX_len (i64r rfl) (i64r rfl) (i64r rfl) ⟨by unfold rcF; rw [if_pos (by decide), if_neg (by decide)]⟩⟩
    ⟨fun W g => by
      rw [retC_zero]
      exact rcmake_at 5 7 1 1048576 0 0 0 0 0 0 0 _ _ _ _ _ _ _ zb32 W g (i64r rfl) (i64r rfl) (i64r rfl) (i64r rfl) (i64r rfl) (i64r rfl) (i64r rfl) zb32_len (i64r rfl) (i64r rfl) (i64r rfl) ⟨by unfold rcF; rw [if_pos (by decide), if_pos (by decide), rcchk0]; unfold useF; rw [if_neg (by decide)]⟩⟩
    ⟨fun W g => by
      have := rccheck_any 1024 7 1 1048576 9 ((sgE 5 (rcT 7 1 1048576) : Nat) + 1) (sgS 5 (rcT 7 1 1048576) + 1) W g (i64r rfl) (i64r rfl) (i64r rfl)
      rw [rcB_yes] at this; exact this⟩
    ⟨fun W g => by
      have := rccheck_any 1024 7 1 1048576 8 ((sgE 5 (rcT 7 1 1048576) : Nat) + 1) (sgS 5 (rcT 7 1 1048576) + 1) W g (i64r rfl) (i64r rfl) (i64r rfl)
      rw [rcB_yes] at this; exact this⟩
    ⟨fun W g => by
      have := rccheck_any 2 7 1 1048576 9 ((sgE 5 (rcT 7 1 1048576) : Nat) + 1) (sgS 5 (rcT 7 1 1048576) + 1) W g (i64r rfl) (i64r rfl) (i64r rfl)
      rw [rcB_key2] at this; exact this⟩
    ⟨fun W g => by
      have := rccheck_any 1024 7 1 1048576 9 0 0 W g (i64r rfl) (i64r rfl) (i64r rfl)
      rw [rcB_zero] at this; exact this⟩
end Frk
