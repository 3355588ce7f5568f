/- onetime's Check. -/
import Derived.Test.YtemoomfnmiodeaaGreatDoorVugElm
import Derived.Test.YtemoomfnmiodeaaGreatDoorVugDin
import Derived.BigQuiet
import Derived.Test.YtemoomfnmiodeaaGreatDoorVuRow
import Derived.Deep.Cut
namespace Frk
open Go Go.RowKit Go.Proofs
set_option maxRecDepth 100000

set_option maxHeartbeats 1000000 in
theorem ocheck_low (L K P Q : Int) (C : List Value) (w : World)
    (hc : RetHead C L K P Q) (hl : L < 0) :
    Calls Tryz.prog 44 #[.agg C.toArray] w fun e w' => e = .returned (.int .i64 160) ∧ Below w.heap.size w w' := by
  obtain ⟨hc0, hc1, hc2, hc3⟩ := hc
  obtain ⟨X, hX⟩ : ∃ X : World, X = (w.alloc (.cells C.toArray 28)) := ⟨_, rfl⟩
  have hXb : Seal (Below w.heap.size w X) := ⟨by rw [hX]; exact (Below.refl _ w).alloc (Nat.le_refl _) _⟩
  have hXn : Seal (X.heap[w.heap.size]? = some (.cells C.toArray 28 (0, 0))) := ⟨by rw [hX]; exact heap_alloc_new w _⟩
  have k0 : X.cell? ⟨w.heap.size, 0, none⟩ = some (.int .i64 L) := by rw [cell_of_row _ _ _ _ _ _ hXn.out]; simpa using hc0
  have k1 : X.cell? ⟨w.heap.size, 1, none⟩ = some (.int .i64 K) := by rw [cell_of_row _ _ _ _ _ _ hXn.out]; simpa using hc1
  have k2 : X.cell? ⟨w.heap.size, 2, none⟩ = some (.int .i64 P) := by rw [cell_of_row _ _ _ _ _ _ hXn.out]; simpa using hc2
  have k3 : X.cell? ⟨w.heap.size, 3, none⟩ = some (.int .i64 Q) := by rw [cell_of_row _ _ _ _ _ _ hXn.out]; simpa using hc3
  go_enter Tryz.func44, Tryz.ntmps44
  go_wp2_with fail
  rw [← hX]
  clear hX hc0 hc1 hc2 hc3
  go_quiet ((fail))
  all_goals
    go_wp2
    go_ret
    exact ⟨rfl, hXb.out.os, hXb.out.tape, hXb.out.output, hXb.out.size, hXb.out.block⟩
set_option maxHeartbeats 1000000 in
theorem ocheck_high (L K P Q : Int) (C : List Value) (w : World)
    (hc : RetHead C L K P Q) (hl : decide (L < 0) = false) (hm : 64 ≤ L) :
    Calls Tryz.prog 44 #[.agg C.toArray] w fun e w' => e = .returned (.int .i64 160) ∧ Below w.heap.size w w' := by
  obtain ⟨hc0, hc1, hc2, hc3⟩ := hc
  obtain ⟨X, hX⟩ : ∃ X : World, X = (w.alloc (.cells C.toArray 28)) := ⟨_, rfl⟩
  have hXb : Seal (Below w.heap.size w X) := ⟨by rw [hX]; exact (Below.refl _ w).alloc (Nat.le_refl _) _⟩
  have hXn : Seal (X.heap[w.heap.size]? = some (.cells C.toArray 28 (0, 0))) := ⟨by rw [hX]; exact heap_alloc_new w _⟩
  have k0 : X.cell? ⟨w.heap.size, 0, none⟩ = some (.int .i64 L) := by rw [cell_of_row _ _ _ _ _ _ hXn.out]; simpa using hc0
  have k1 : X.cell? ⟨w.heap.size, 1, none⟩ = some (.int .i64 K) := by rw [cell_of_row _ _ _ _ _ _ hXn.out]; simpa using hc1
  have k2 : X.cell? ⟨w.heap.size, 2, none⟩ = some (.int .i64 P) := by rw [cell_of_row _ _ _ _ _ _ hXn.out]; simpa using hc2
  have k3 : X.cell? ⟨w.heap.size, 3, none⟩ = some (.int .i64 Q) := by rw [cell_of_row _ _ _ _ _ _ hXn.out]; simpa using hc3
  go_enter Tryz.func44, Tryz.ntmps44
  go_wp2_with fail
  rw [← hX]
  clear hX hc0 hc1 hc2 hc3
  go_quiet ((fail))
  all_goals
    go_wp2
    go_ret
    exact ⟨rfl, hXb.out.os, hXb.out.tape, hXb.out.output, hXb.out.size, hXb.out.block⟩
set_option maxHeartbeats 1000000 in
theorem ocheck_key (L K P Q : Int) (C : List Value) (w : World)
    (hc : RetHead C L K P Q) (hl : decide (L < 0) = false) (hm : decide (64 ≤ L) = false) (HA : Seal (vd K = false)) :
    Calls Tryz.prog 44 #[.agg C.toArray] w fun e w' => e = .returned (.int .i64 160) ∧ Below w.heap.size w w' := by
  obtain ⟨hc0, hc1, hc2, hc3⟩ := hc
  obtain ⟨X, hX⟩ : ∃ X : World, X = (w.alloc (.cells C.toArray 28)) := ⟨_, rfl⟩
  have hXb : Seal (Below w.heap.size w X) := ⟨by rw [hX]; exact (Below.refl _ w).alloc (Nat.le_refl _) _⟩
  have hXn : Seal (X.heap[w.heap.size]? = some (.cells C.toArray 28 (0, 0))) := ⟨by rw [hX]; exact heap_alloc_new w _⟩
  have k0 : X.cell? ⟨w.heap.size, 0, none⟩ = some (.int .i64 L) := by rw [cell_of_row _ _ _ _ _ _ hXn.out]; simpa using hc0
  have k1 : X.cell? ⟨w.heap.size, 1, none⟩ = some (.int .i64 K) := by rw [cell_of_row _ _ _ _ _ _ hXn.out]; simpa using hc1
  have k2 : X.cell? ⟨w.heap.size, 2, none⟩ = some (.int .i64 P) := by rw [cell_of_row _ _ _ _ _ _ hXn.out]; simpa using hc2
  have k3 : X.cell? ⟨w.heap.size, 3, none⟩ = some (.int .i64 Q) := by rw [cell_of_row _ _ _ _ _ _ hXn.out]; simpa using hc3
  go_enter Tryz.func44, Tryz.ntmps44
  go_wp2_with fail
  rw [← hX]
  clear hX hc0 hc1 hc2 hc3
  go_quiet ((go_at_call 63; exact Calls.quiet_of_same ((valid_at1 K false _ HA.out).mono fun _ _ h => ⟨h.1, h.2.symm⟩)))
  all_goals
    go_wp2
    go_ret
    exact ⟨rfl, hXb.out.os, hXb.out.tape, hXb.out.output, hXb.out.size, hXb.out.block⟩
set_option maxHeartbeats 1000000 in
theorem ocheck_toa (L K P Q : Int) (C : List Value) (w : World)
    (hc : RetHead C L K P Q) (hl : decide (L < 0) = false) (hm : decide (64 ≤ L) = false) (HA : Seal (vd K = true)) (HB : Seal (vd P = false)) :
    Calls Tryz.prog 44 #[.agg C.toArray] w fun e w' => e = .returned (.int .i64 160) ∧ Below w.heap.size w w' := by
  obtain ⟨hc0, hc1, hc2, hc3⟩ := hc
  obtain ⟨X, hX⟩ : ∃ X : World, X = (w.alloc (.cells C.toArray 28)) := ⟨_, rfl⟩
  have hXb : Seal (Below w.heap.size w X) := ⟨by rw [hX]; exact (Below.refl _ w).alloc (Nat.le_refl _) _⟩
  have hXn : Seal (X.heap[w.heap.size]? = some (.cells C.toArray 28 (0, 0))) := ⟨by rw [hX]; exact heap_alloc_new w _⟩
  have k0 : X.cell? ⟨w.heap.size, 0, none⟩ = some (.int .i64 L) := by rw [cell_of_row _ _ _ _ _ _ hXn.out]; simpa using hc0
  have k1 : X.cell? ⟨w.heap.size, 1, none⟩ = some (.int .i64 K) := by rw [cell_of_row _ _ _ _ _ _ hXn.out]; simpa using hc1
  have k2 : X.cell? ⟨w.heap.size, 2, none⟩ = some (.int .i64 P) := by rw [cell_of_row _ _ _ _ _ _ hXn.out]; simpa using hc2
  have k3 : X.cell? ⟨w.heap.size, 3, none⟩ = some (.int .i64 Q) := by rw [cell_of_row _ _ _ _ _ _ hXn.out]; simpa using hc3
  go_enter Tryz.func44, Tryz.ntmps44
  go_wp2_with fail
  rw [← hX]
  clear hX hc0 hc1 hc2 hc3
  go_quiet ((go_at_call 63; exact Calls.quiet_of_same ((valid_at1 _ _ _ (Seal.out (by assumption))).mono fun _ _ h => ⟨h.1, h.2.symm⟩)))
  all_goals
    go_wp2
    go_ret
    exact ⟨rfl, hXb.out.os, hXb.out.tape, hXb.out.output, hXb.out.size, hXb.out.block⟩
set_option maxHeartbeats 1000000 in
theorem ocheck_tob (L K P Q : Int) (C : List Value) (w : World)
    (hc : RetHead C L K P Q) (hl : decide (L < 0) = false) (hm : decide (64 ≤ L) = false) (HA : Seal (vd K = true)) (HB : Seal (vd P = true)) (HC : Seal (vd Q = false)) :
    Calls Tryz.prog 44 #[.agg C.toArray] w fun e w' => e = .returned (.int .i64 160) ∧ Below w.heap.size w w' := by
  obtain ⟨hc0, hc1, hc2, hc3⟩ := hc
  obtain ⟨X, hX⟩ : ∃ X : World, X = (w.alloc (.cells C.toArray 28)) := ⟨_, rfl⟩
  have hXb : Seal (Below w.heap.size w X) := ⟨by rw [hX]; exact (Below.refl _ w).alloc (Nat.le_refl _) _⟩
  have hXn : Seal (X.heap[w.heap.size]? = some (.cells C.toArray 28 (0, 0))) := ⟨by rw [hX]; exact heap_alloc_new w _⟩
  have k0 : X.cell? ⟨w.heap.size, 0, none⟩ = some (.int .i64 L) := by rw [cell_of_row _ _ _ _ _ _ hXn.out]; simpa using hc0
  have k1 : X.cell? ⟨w.heap.size, 1, none⟩ = some (.int .i64 K) := by rw [cell_of_row _ _ _ _ _ _ hXn.out]; simpa using hc1
  have k2 : X.cell? ⟨w.heap.size, 2, none⟩ = some (.int .i64 P) := by rw [cell_of_row _ _ _ _ _ _ hXn.out]; simpa using hc2
  have k3 : X.cell? ⟨w.heap.size, 3, none⟩ = some (.int .i64 Q) := by rw [cell_of_row _ _ _ _ _ _ hXn.out]; simpa using hc3
  go_enter Tryz.func44, Tryz.ntmps44
  go_wp2_with fail
  rw [← hX]
  clear hX hc0 hc1 hc2 hc3
  go_quiet ((go_at_call 63; exact Calls.quiet_of_same ((valid_at1 _ _ _ (Seal.out (by assumption))).mono fun _ _ h => ⟨h.1, h.2.symm⟩)))
  all_goals
    go_wp2
    go_ret
    exact ⟨rfl, hXb.out.os, hXb.out.tape, hXb.out.output, hXb.out.size, hXb.out.block⟩

/-- a return's cells -/
def retC (L K P Q : Int) (T : Bytes) : List Value := [.int .i64 L, .int .i64 K, .int .i64 P, .int .i64 Q] ++ T.map B
theorem retC_len {L K P Q : Int} {T : Bytes} (h : T.length = 32) : (retC L K P Q T).length = 36 := by simp [retC, h]
theorem retC_one (L K P Q : Int) (T : Bytes) : ∀ u ∈ retC L K P Q T, u.oneCell' = true := by
  intro u hu
  unfold retC at hu
  rcases List.mem_append.1 hu with h | h
  · simp only [List.mem_cons, List.not_mem_nil, or_false] at h
    rcases h with rfl | rfl | rfl | rfl <;> rfl
  · obtain ⟨b, _, rfl⟩ := List.mem_map.1 h
    rfl
theorem retC_head (L K P Q : Int) (T : Bytes) : RetHead (retC L K P Q T) L K P Q := ⟨rfl, rfl, rfl, rfl⟩
theorem retC_info {L K P Q : Int} {T : Bytes} (h : T.length = 32) : (Tryz.prog.info? 28).map (·.size) = some (retC L K P Q T).length := by rw [retC_len h]; kernel_rfl

set_option maxHeartbeats 4000000 in
theorem ocheck_tag (L K P Q : Int) (T : Bytes) (t : Bool) (C : List Value) (w : World) (hG : Glob w)
    (hok : ∀ n ∈ [L, K, P, Q], -9223372036854775808 ≤ n ∧ n ≤ 9223372036854775807) (hT : T.length = 32) (ht : (T == rtag L K P Q) = t)
    (hC : C = retC L K P Q T) (hl : decide (L < 0) = false) (hm : decide (64 ≤ L) = false) (HA : Seal (vd K = true)) (HB : Seal (vd P = true)) (HC : Seal (vd Q = true)) :
    Calls Tryz.prog 44 #[.agg C.toArray] w fun e w' => e = .returned (.int .i64 (if t = true then 0 else 160)) ∧ Below w.heap.size w w' := by
  have H1 : Seal ((Tryz.prog.info? 28).map (·.size) = some C.length) := ⟨by rw [hC]; exact retC_info hT⟩
  have H2 : Seal (C.length = 36) := ⟨by rw [hC]; exact retC_len hT⟩
  have H3 : Seal (∀ u ∈ C, u.oneCell' = true) := ⟨by rw [hC]; exact retC_one _ _ _ _ _⟩
  obtain ⟨X, hX⟩ : ∃ X : World, X = (w.alloc (.cells C.toArray 28)) := ⟨_, rfl⟩
  have hXb : Seal (Below w.heap.size w X) := ⟨by rw [hX]; exact (Below.refl _ w).alloc (Nat.le_refl _) _⟩
  have hXn : Seal (X.heap[w.heap.size]? = some (.cells C.toArray 28 (0, 0))) := ⟨by rw [hX]; exact heap_alloc_new w _⟩
  have hXr : X.rangeAt w.heap.size 0 C := rangeAt_row hXn.out
  have hXd : X.rangeAt w.heap.size 4 (T.map B) := by
    have := rangeAt_drop hXr 4
    rw [hC] at this
    simpa [retC] using this
  have k0 : X.cell? ⟨w.heap.size, 0, none⟩ = some (.int .i64 L) := by rw [cell_of_row _ _ _ _ _ _ hXn.out, hC]; rfl
  have k1 : X.cell? ⟨w.heap.size, 1, none⟩ = some (.int .i64 K) := by rw [cell_of_row _ _ _ _ _ _ hXn.out, hC]; rfl
  have k2 : X.cell? ⟨w.heap.size, 2, none⟩ = some (.int .i64 P) := by rw [cell_of_row _ _ _ _ _ _ hXn.out, hC]; rfl
  have k3 : X.cell? ⟨w.heap.size, 3, none⟩ = some (.int .i64 Q) := by rw [cell_of_row _ _ _ _ _ _ hXn.out, hC]; rfl
  have HT : Seal (∀ W : World, Glob W → Calls Tryz.prog 64 #[.agg C.toArray] W fun e w' => e = .returned (.agg ((rtag L K P Q).map B).toArray) ∧ Below W.heap.size W w') :=
    ⟨fun W hGW => otag_any L K P Q C W hGW hok (by rw [hC]; exact retC_head _ _ _ _ _) H1 H2 H3⟩
  have HGX : Seal (Glob X) := ⟨hG.below hXb.out⟩
  have heq : ∀ W, (Op.equalIn 10000 26 (.agg (T.map B).toArray) (.agg ((rtag L K P Q).map B).toArray)).run Tryz.prog W = .ok t W := fun W => by rw [← ht]; exact eqDig _ _ hT (sha_length _) W
  have i1 := dg_info T hT
  have i2 := H1.out
  have ut := Tryz.underlying26
  have u2 := Tryz.underlying28
  clear hok hG ht hC H1 H2 H3 hXn
  generalize rtag L K P Q = RT at *
  go_enter Tryz.func44, Tryz.ntmps44
  go_wp2_with fail
  rw [← hX]
  clear hX
  refine wp_region_held_drew (S := fun w' => w'.cell? ⟨w.heap.size, 0, none⟩ = some (.int .i64 L) ∧ w'.cell? ⟨w.heap.size, 1, none⟩ = some (.int .i64 K) ∧ w'.cell? ⟨w.heap.size, 2, none⟩ = some (.int .i64 P) ∧ w'.cell? ⟨w.heap.size, 3, none⟩ = some (.int .i64 Q) ∧ w'.rangeAt w.heap.size 4 (T.map B) ∧ w'.rangeAt w.heap.size 0 C) (by kernel_rfl) ⟨k0, k1, k2, k3, hXd, hXr⟩ (fun hHeld => ?_)
  refine take_h 0 ?_ rfl (by kernel_rfl) (by kernel_rfl) (by kernel_rfl) (fun _ _ _ h => h) (Or.inl ⟨by kernel_rfl, ?_⟩) (by assumption) ?_
  rotate_left
  · (intro w hSw; (try dsimp only at hSw); go_simp; try (with_reducible rfl))
  try simp only [Act.put, List.setIfInBounds_toArray, List.set_cons_zero, List.set_cons_succ]
  refine take_h 1 ?_ rfl (by kernel_rfl) (by kernel_rfl) (by kernel_rfl) (fun _ _ _ h => h) (Or.inl ⟨by kernel_rfl, ?_⟩) (by assumption) ?_
  rotate_left
  · (intro w hSw; (try dsimp only at hSw); go_simp; try (with_reducible rfl))
  try simp only [Act.put, List.setIfInBounds_toArray, List.set_cons_zero, List.set_cons_succ]
  refine take_h 2 ?_ rfl (by kernel_rfl) (by kernel_rfl) (by kernel_rfl) (fun _ _ _ h => h) (Or.inl ⟨by kernel_rfl, ?_⟩) (by assumption) ?_
  rotate_left
  · (intro w hSw; (try dsimp only at hSw); go_simp; try (with_reducible rfl))
  try simp only [Act.put, List.setIfInBounds_toArray, List.set_cons_zero, List.set_cons_succ]
  refine take_h 3 ?_ rfl (by kernel_rfl) (by kernel_rfl) (by kernel_rfl) (fun _ _ _ h => h) (Or.inl ⟨by kernel_rfl, ?_⟩) (by assumption) ?_
  rotate_left
  · (intro w hSw; (try dsimp only at hSw); go_simp; try (with_reducible rfl))
  try simp only [Act.put, List.setIfInBounds_toArray, List.set_cons_zero, List.set_cons_succ]
  refine take_h 4 ?_ rfl (by kernel_rfl) (by kernel_rfl) (by kernel_rfl) (fun _ _ _ h => h) (Or.inl ⟨by kernel_rfl, ?_⟩) (by assumption) ?_
  rotate_left
  · (intro w hSw; (try dsimp only at hSw); go_simp; try (with_reducible rfl))
  try simp only [Act.put, List.setIfInBounds_toArray, List.set_cons_zero, List.set_cons_succ]
  refine take_h 5 ?_ rfl (by kernel_rfl) (by kernel_rfl) (by kernel_rfl) (fun _ _ _ h => h) (Or.inl ⟨by kernel_rfl, ?_⟩) (by assumption) ?_
  rotate_left
  · (intro w hSw; (try dsimp only at hSw); go_simp; try (with_reducible rfl))
  try simp only [Act.put, List.setIfInBounds_toArray, List.set_cons_zero, List.set_cons_succ]
  refine take_h 6 ?_ rfl (by kernel_rfl) (by kernel_rfl) (by kernel_rfl) (fun _ _ _ h => h) (Or.inl ⟨by kernel_rfl, ?_⟩) (by assumption) ?_
  rotate_left
  · (intro w hSw; (try dsimp only at hSw); go_simp; try (with_reducible rfl))
  try simp only [Act.put, List.setIfInBounds_toArray, List.set_cons_zero, List.set_cons_succ]
  refine take_h 7 ?_ rfl (by kernel_rfl) (by kernel_rfl) (by kernel_rfl) (fun _ _ _ h => h) (Or.inl ⟨by kernel_rfl, ?_⟩) (by assumption) ?_
  rotate_left
  · (intro w hSw; (try dsimp only at hSw); go_simp; try (with_reducible rfl))
  try simp only [Act.put, List.setIfInBounds_toArray, List.set_cons_zero, List.set_cons_succ]
  refine take_h 8 ?_ rfl (by kernel_rfl) (by kernel_rfl) (by kernel_rfl) (fun _ _ _ h => h) (Or.inl ⟨by kernel_rfl, ?_⟩) (by assumption) ?_
  rotate_left
  · (intro w hSw; (try dsimp only at hSw); go_simp; try (with_reducible rfl))
  try simp only [Act.put, List.setIfInBounds_toArray, List.set_cons_zero, List.set_cons_succ]
  refine take_h 9 ?_ rfl (by kernel_rfl) (by kernel_rfl) (by kernel_rfl) (fun _ _ _ h => h) (Or.inl ⟨by kernel_rfl, ?_⟩) (by assumption) ?_
  rotate_left
  · (intro w hSw; (try dsimp only at hSw); go_simp; try (with_reducible rfl))
  try simp only [Act.put, List.setIfInBounds_toArray, List.set_cons_zero, List.set_cons_succ]
  refine take_h 10 ?_ rfl (by kernel_rfl) (by kernel_rfl) (by kernel_rfl) (fun _ _ _ h => h) (Or.inl ⟨by kernel_rfl, ?_⟩) (by assumption) ?_
  rotate_left
  · (intro w hSw; (try dsimp only at hSw); go_simp; try (with_reducible rfl))
  try simp only [Act.put, List.setIfInBounds_toArray, List.set_cons_zero, List.set_cons_succ]
  refine call_h 11 rfl (by kernel_rfl) 63 #[.int .i64 K] (by kernel_rfl) (by go_simp) ?_
  refine (valid_at1 K true _ HA.out).mono ?_
  rintro e w' ⟨rfl, rfl⟩
  refine ⟨_, rfl, by assumption, fun _ => ?_⟩
  try simp only [Act.put, List.setIfInBounds_toArray, List.set_cons_zero, List.set_cons_succ]
  refine take_h 12 ?_ rfl (by kernel_rfl) (by kernel_rfl) (by kernel_rfl) (fun _ _ _ h => h) (Or.inl ⟨by kernel_rfl, ?_⟩) (by assumption) ?_
  rotate_left
  · (intro w hSw; (try dsimp only at hSw); go_simp; try (with_reducible rfl))
  try simp only [Act.put, List.setIfInBounds_toArray, List.set_cons_zero, List.set_cons_succ]
  refine take_h 13 ?_ rfl (by kernel_rfl) (by kernel_rfl) (by kernel_rfl) (fun _ _ _ h => h) (Or.inl ⟨by kernel_rfl, ?_⟩) (by assumption) ?_
  rotate_left
  · (intro w hSw; (try dsimp only at hSw); go_simp; try (with_reducible rfl))
  try simp only [Act.put, List.setIfInBounds_toArray, List.set_cons_zero, List.set_cons_succ]
  refine take_h 14 ?_ rfl (by kernel_rfl) (by kernel_rfl) (by kernel_rfl) (fun _ _ _ h => h) (Or.inl ⟨by kernel_rfl, ?_⟩) (by assumption) ?_
  rotate_left
  · (intro w hSw; (try dsimp only at hSw); go_simp; try (with_reducible rfl))
  try simp only [Act.put, List.setIfInBounds_toArray, List.set_cons_zero, List.set_cons_succ]
  refine take_h 15 ?_ rfl (by kernel_rfl) (by kernel_rfl) (by kernel_rfl) (fun _ _ _ h => h) (Or.inl ⟨by kernel_rfl, ?_⟩) (by assumption) ?_
  rotate_left
  · (intro w hSw; (try dsimp only at hSw); go_simp; try (with_reducible rfl))
  try simp only [Act.put, List.setIfInBounds_toArray, List.set_cons_zero, List.set_cons_succ]
  refine take_h 16 ?_ rfl (by kernel_rfl) (by kernel_rfl) (by kernel_rfl) (fun _ _ _ h => h) (Or.inl ⟨by kernel_rfl, ?_⟩) (by assumption) ?_
  rotate_left
  · (intro w hSw; (try dsimp only at hSw); go_simp; try (with_reducible rfl))
  try simp only [Act.put, List.setIfInBounds_toArray, List.set_cons_zero, List.set_cons_succ]
  refine take_h 17 ?_ rfl (by kernel_rfl) (by kernel_rfl) (by kernel_rfl) (fun _ _ _ h => h) (Or.inl ⟨by kernel_rfl, ?_⟩) (by assumption) ?_
  rotate_left
  · (intro w hSw; (try dsimp only at hSw); go_simp; try (with_reducible rfl))
  try simp only [Act.put, List.setIfInBounds_toArray, List.set_cons_zero, List.set_cons_succ]
  refine call_h 18 rfl (by kernel_rfl) 63 #[.int .i64 P] (by kernel_rfl) (by go_simp) ?_
  refine (valid_at1 P true _ HB.out).mono ?_
  rintro e w' ⟨rfl, rfl⟩
  refine ⟨_, rfl, by assumption, fun _ => ?_⟩
  try simp only [Act.put, List.setIfInBounds_toArray, List.set_cons_zero, List.set_cons_succ]
  refine take_h 19 ?_ rfl (by kernel_rfl) (by kernel_rfl) (by kernel_rfl) (fun _ _ _ h => h) (Or.inl ⟨by kernel_rfl, ?_⟩) (by assumption) ?_
  rotate_left
  · (intro w hSw; (try dsimp only at hSw); go_simp; try (with_reducible rfl))
  try simp only [Act.put, List.setIfInBounds_toArray, List.set_cons_zero, List.set_cons_succ]
  refine take_h 20 ?_ rfl (by kernel_rfl) (by kernel_rfl) (by kernel_rfl) (fun _ _ _ h => h) (Or.inl ⟨by kernel_rfl, ?_⟩) (by assumption) ?_
  rotate_left
  · (intro w hSw; (try dsimp only at hSw); go_simp; try (with_reducible rfl))
  try simp only [Act.put, List.setIfInBounds_toArray, List.set_cons_zero, List.set_cons_succ]
  refine take_h 21 ?_ rfl (by kernel_rfl) (by kernel_rfl) (by kernel_rfl) (fun _ _ _ h => h) (Or.inl ⟨by kernel_rfl, ?_⟩) (by assumption) ?_
  rotate_left
  · (intro w hSw; (try dsimp only at hSw); go_simp; try (with_reducible rfl))
  try simp only [Act.put, List.setIfInBounds_toArray, List.set_cons_zero, List.set_cons_succ]
  refine take_h 22 ?_ rfl (by kernel_rfl) (by kernel_rfl) (by kernel_rfl) (fun _ _ _ h => h) (Or.inl ⟨by kernel_rfl, ?_⟩) (by assumption) ?_
  rotate_left
  · (intro w hSw; (try dsimp only at hSw); go_simp; try (with_reducible rfl))
  try simp only [Act.put, List.setIfInBounds_toArray, List.set_cons_zero, List.set_cons_succ]
  refine take_h 23 ?_ rfl (by kernel_rfl) (by kernel_rfl) (by kernel_rfl) (fun _ _ _ h => h) (Or.inl ⟨by kernel_rfl, ?_⟩) (by assumption) ?_
  rotate_left
  · (intro w hSw; (try dsimp only at hSw); go_simp; try (with_reducible rfl))
  try simp only [Act.put, List.setIfInBounds_toArray, List.set_cons_zero, List.set_cons_succ]
  refine take_h 24 ?_ rfl (by kernel_rfl) (by kernel_rfl) (by kernel_rfl) (fun _ _ _ h => h) (Or.inl ⟨by kernel_rfl, ?_⟩) (by assumption) ?_
  rotate_left
  · (intro w hSw; (try dsimp only at hSw); go_simp; try (with_reducible rfl))
  try simp only [Act.put, List.setIfInBounds_toArray, List.set_cons_zero, List.set_cons_succ]
  refine call_h 25 rfl (by kernel_rfl) 63 #[.int .i64 Q] (by kernel_rfl) (by go_simp) ?_
  refine (valid_at1 Q true _ HC.out).mono ?_
  rintro e w' ⟨rfl, rfl⟩
  refine ⟨_, rfl, by assumption, fun _ => ?_⟩
  try simp only [Act.put, List.setIfInBounds_toArray, List.set_cons_zero, List.set_cons_succ]
  refine take_h 26 ?_ rfl (by kernel_rfl) (by kernel_rfl) (by kernel_rfl) (fun _ _ _ h => h) (Or.inl ⟨by kernel_rfl, ?_⟩) (by assumption) ?_
  rotate_left
  · (intro w hSw; (try dsimp only at hSw); go_simp; try (with_reducible rfl))
  try simp only [Act.put, List.setIfInBounds_toArray, List.set_cons_zero, List.set_cons_succ]
  refine take_h 27 ?_ rfl (by kernel_rfl) (by kernel_rfl) (by kernel_rfl) (fun _ _ _ h => h) (Or.inl ⟨by kernel_rfl, ?_⟩) (by assumption) ?_
  rotate_left
  · (intro w hSw; (try dsimp only at hSw); go_simp; try (with_reducible rfl))
  try simp only [Act.put, List.setIfInBounds_toArray, List.set_cons_zero, List.set_cons_succ]
  refine take_h 28 ?_ rfl (by kernel_rfl) (by kernel_rfl) (by kernel_rfl) (fun _ _ _ h => h) (Or.inl ⟨by kernel_rfl, ?_⟩) (by assumption) ?_
  rotate_left
  · (intro w hSw; (try dsimp only at hSw); go_simp; try (with_reducible rfl))
  try simp only [Act.put, List.setIfInBounds_toArray, List.set_cons_zero, List.set_cons_succ]
  refine take_h 29 ?_ rfl (by kernel_rfl) (by kernel_rfl) (by kernel_rfl) (fun _ _ _ h => h) (Or.inl ⟨by kernel_rfl, ?_⟩) (by assumption) ?_
  rotate_left
  · (intro w hSw; (try dsimp only at hSw); go_simp; try (with_reducible rfl))
  try simp only [Act.put, List.setIfInBounds_toArray, List.set_cons_zero, List.set_cons_succ]
  refine take_h 30 _ rfl (by kernel_rfl) (by kernel_rfl) (by kernel_rfl) (fun _ _ _ h => h) (yieldsIf_load_mid (by kernel_rfl) 26 (.tmp 32) rfl w.heap.size 4 rfl (T.map B) _ (fun w hSw => hSw.2.2.2.2.1) ut rfl i1) (by assumption) ?_
  try simp only [Act.put, List.setIfInBounds_toArray, List.set_cons_zero, List.set_cons_succ]
  refine take_h 31 _ rfl (by kernel_rfl) (by kernel_rfl) (by kernel_rfl) (fun _ _ _ h => h) (yieldsIf_load_mid (by kernel_rfl) 28 (.tmp 1) rfl w.heap.size 0 rfl C _ (fun w hSw => hSw.2.2.2.2.2) u2 rfl i2) (by assumption) ?_
  try simp only [Act.put, List.setIfInBounds_toArray, List.set_cons_zero, List.set_cons_succ]
  refine call_h 32 rfl (by kernel_rfl) 64 #[.agg C.toArray] (by kernel_rfl) (by go_simp) ?_
  refine (HT.out X.drew ⟨HGX.out.start, HGX.out.nums⟩).mono ?_
  rintro e w1 ⟨rfl, hb1⟩
  have hb2 : Below X.heap.size X w1 := ⟨hb1.os, hb1.tape, hb1.output, hb1.size, hb1.block⟩
  have HB1 : Seal (Below w.heap.size w w1) := ⟨hXb.out.trans (hb2.mono hXb.out.size)⟩
  refine ⟨_, rfl, ⟨cell_later hb2 k0, cell_later hb2 k1, cell_later hb2 k2, cell_later hb2 k3, rangeAt_below' hXd hb2, rangeAt_below' hXr hb2⟩, fun hHeld2 => ?_⟩
  clear hHeld hb1 hb2 hXr hXd k0 k1 k2 k3
  try simp only [Act.put, List.setIfInBounds_toArray, List.set_cons_zero, List.set_cons_succ]
  refine take_h 33 ?_ rfl (by kernel_rfl) (by kernel_rfl) (by kernel_rfl) (fun _ _ _ h => h) (Or.inl ⟨by kernel_rfl, ?_⟩) (by assumption) ?_
  rotate_left
  · (intro w hSw; (try dsimp only at hSw); go_simp; try (with_reducible rfl))
  try simp only [Act.put, List.setIfInBounds_toArray, List.set_cons_zero, List.set_cons_succ]
  refine take_h 34 ?_ rfl (by kernel_rfl) (by kernel_rfl) (by kernel_rfl) (fun _ _ _ h => h) (Or.inl ⟨by kernel_rfl, ?_⟩) (by assumption) ?_
  rotate_left
  · (intro w hSw; (try dsimp only at hSw); go_simp; try (with_reducible rfl))
  try simp only [Act.put, List.setIfInBounds_toArray, List.set_cons_zero, List.set_cons_succ]
  refine wpAnyH_done (by kernel_rfl) ?_ _
  clear hHeld2
  cases t
  all_goals
    go_wp2
    go_ret
    exact ⟨rfl, HB1.out⟩

/-- what Make returns: the four numbers, the tag, the error -/
def makeF (L K al r : Int) : Int × Int × Int × Int × Bytes × Int :=
  if L < 0 ∨ 64 ≤ L then (0, 0, 0, 0, zb32, 160) else if vd K = true then (if 1 ≤ al ∧ al ≤ 1073741789 then
    (L, K, ((mp (1 : Int).toNat (pw 4 r) : Nat) : Int), ((mp (elB al).toNat (pw K.toNat r) : Nat) : Int), rtag L K ((mp (1 : Int).toNat (pw 4 r) : Nat) : Int) ((mp (elB al).toNat (pw K.toNat r) : Nat) : Int), 0)
    else (0, 0, 0, 0, zb32, 160)) else (0, 0, 0, 0, zb32, 90)

theorem retC_zero : (List.toArray (.int .i64 0 :: .int .i64 0 :: .int .i64 0 :: .int .i64 0 :: .int .u8 0 :: .int .u8 0 :: .int .u8 0 :: .int .u8 0 :: .int .u8 0 :: .int .u8 0 :: .int .u8 0 :: .int .u8 0 :: .int .u8 0 :: .int .u8 0 :: .int .u8 0 :: .int .u8 0 :: .int .u8 0 :: .int .u8 0 :: .int .u8 0 :: .int .u8 0 :: .int .u8 0 :: .int .u8 0 :: .int .u8 0 :: .int .u8 0 :: .int .u8 0 :: .int .u8 0 :: .int .u8 0 :: .int .u8 0 :: .int .u8 0 :: .int .u8 0 :: .int .u8 0 :: .int .u8 0 :: .int .u8 0 :: .int .u8 0 :: .int .u8 0 :: .int .u8 0 :: []) : Array Value) = (retC 0 0 0 0 zb32).toArray := by kernel_rfl
theorem info_ret : (Tryz.prog.info? 28).map (·.size) = some (List.toArray (.int .i64 0 :: .int .i64 0 :: .int .i64 0 :: .int .i64 0 :: .int .u8 0 :: .int .u8 0 :: .int .u8 0 :: .int .u8 0 :: .int .u8 0 :: .int .u8 0 :: .int .u8 0 :: .int .u8 0 :: .int .u8 0 :: .int .u8 0 :: .int .u8 0 :: .int .u8 0 :: .int .u8 0 :: .int .u8 0 :: .int .u8 0 :: .int .u8 0 :: .int .u8 0 :: .int .u8 0 :: .int .u8 0 :: .int .u8 0 :: .int .u8 0 :: .int .u8 0 :: .int .u8 0 :: .int .u8 0 :: .int .u8 0 :: .int .u8 0 :: .int .u8 0 :: .int .u8 0 :: .int .u8 0 :: .int .u8 0 :: .int .u8 0 :: .int .u8 0 :: []) : Array Value).size := by kernel_rfl

theorem one_ret : ((List.toArray (.int .i64 0 :: .int .i64 0 :: .int .i64 0 :: .int .i64 0 :: .int .u8 0 :: .int .u8 0 :: .int .u8 0 :: .int .u8 0 :: .int .u8 0 :: .int .u8 0 :: .int .u8 0 :: .int .u8 0 :: .int .u8 0 :: .int .u8 0 :: .int .u8 0 :: .int .u8 0 :: .int .u8 0 :: .int .u8 0 :: .int .u8 0 :: .int .u8 0 :: .int .u8 0 :: .int .u8 0 :: .int .u8 0 :: .int .u8 0 :: .int .u8 0 :: .int .u8 0 :: .int .u8 0 :: .int .u8 0 :: .int .u8 0 :: .int .u8 0 :: .int .u8 0 :: .int .u8 0 :: .int .u8 0 :: .int .u8 0 :: .int .u8 0 :: .int .u8 0 :: []) : Array Value)).all (·.oneCell') = true := by rw [retC_zero]; exact all_oneCell_toArray (retC_one _ _ _ _ _)
set_option maxHeartbeats 1000000 in
theorem omake_low (L K al r : Int) (w : World) (hl : L < 0) :
    Calls Tryz.prog 43 #[.int .i64 L, .int .i64 K, .int .i64 al, .int .i64 r] w fun e w' => e = .returned (.tuple #[.agg (retC 0 0 0 0 zb32).toArray, .int .i64 160]) ∧ Below w.heap.size w w' := by
  obtain ⟨X, hX⟩ : ∃ X : World, X = w.alloc (.cells (List.toArray (.int .i64 0 :: .int .i64 0 :: .int .i64 0 :: .int .i64 0 :: .int .u8 0 :: .int .u8 0 :: .int .u8 0 :: .int .u8 0 :: .int .u8 0 :: .int .u8 0 :: .int .u8 0 :: .int .u8 0 :: .int .u8 0 :: .int .u8 0 :: .int .u8 0 :: .int .u8 0 :: .int .u8 0 :: .int .u8 0 :: .int .u8 0 :: .int .u8 0 :: .int .u8 0 :: .int .u8 0 :: .int .u8 0 :: .int .u8 0 :: .int .u8 0 :: .int .u8 0 :: .int .u8 0 :: .int .u8 0 :: .int .u8 0 :: .int .u8 0 :: .int .u8 0 :: .int .u8 0 :: .int .u8 0 :: .int .u8 0 :: .int .u8 0 :: .int .u8 0 :: []) : Array Value) 28) := ⟨_, rfl⟩
  have hXb : Seal (Below w.heap.size w X) := ⟨by rw [hX]; exact below_alloc _ _⟩
  obtain ⟨RZ, hRZ⟩ : ∃ RZ : Array Value, RZ = (List.toArray (.int .i64 0 :: .int .i64 0 :: .int .i64 0 :: .int .i64 0 :: .int .u8 0 :: .int .u8 0 :: .int .u8 0 :: .int .u8 0 :: .int .u8 0 :: .int .u8 0 :: .int .u8 0 :: .int .u8 0 :: .int .u8 0 :: .int .u8 0 :: .int .u8 0 :: .int .u8 0 :: .int .u8 0 :: .int .u8 0 :: .int .u8 0 :: .int .u8 0 :: .int .u8 0 :: .int .u8 0 :: .int .u8 0 :: .int .u8 0 :: .int .u8 0 :: .int .u8 0 :: .int .u8 0 :: .int .u8 0 :: .int .u8 0 :: .int .u8 0 :: .int .u8 0 :: .int .u8 0 :: .int .u8 0 :: .int .u8 0 :: .int .u8 0 :: .int .u8 0 :: []) : Array Value) := ⟨_, rfl⟩
  have hXn : Seal (X.heap[w.heap.size]? = some (.cells RZ 28 (0, 0))) := ⟨by rw [hX, hRZ]; exact heap_alloc_new w _⟩
  have HI : Seal ((Tryz.prog.info? 28).map (·.size) = some RZ.size) := ⟨by rw [hRZ]; exact info_ret⟩
  have H1 : Seal (RZ.all (·.oneCell') = true) := ⟨by rw [hRZ]; exact one_ret⟩
  have HE : Seal (RZ = (retC 0 0 0 0 zb32).toArray) := ⟨by rw [hRZ]; exact retC_zero⟩
  clear hRZ
  go_enter Tryz.func43, Tryz.ntmps43
  go_upto_region 1 with (fail)
  rw [← hX]
  clear hX
  go_wp2_with (first | (fail) | (refine wpList_load_row rfl 28 (.tmp 8) rfl w.heap.size rfl 28 RZ (0, 0) _ hXn.out Tryz.underlying28 rfl HI.out ?_) | (refine wpList_store_row rfl 28 (.tmp 8) (.tmp 17) rfl w.heap.size RZ rfl rfl 28 RZ hXn.out HI.out rfl H1.out ?_))
  exact bodyPost_ret (results_row_tmp (fn := Tryz.f43) rfl _ _ w.heap.size 28 RZ (0, 0) _ _ rfl rfl (setRow_heap _ _ _ _ _ _ hXn.out) Tryz.underlying28 rfl HI.out) rfl ⟨by rw [HE.out]; rfl, below_row hXb.out (Nat.le_refl _) _⟩
set_option maxHeartbeats 1000000 in
theorem omake_high (L K al r : Int) (w : World) (hl : decide (L < 0) = false) (hm : 64 ≤ L) :
    Calls Tryz.prog 43 #[.int .i64 L, .int .i64 K, .int .i64 al, .int .i64 r] w fun e w' => e = .returned (.tuple #[.agg (retC 0 0 0 0 zb32).toArray, .int .i64 160]) ∧ Below w.heap.size w w' := by
  obtain ⟨X, hX⟩ : ∃ X : World, X = w.alloc (.cells (List.toArray (.int .i64 0 :: .int .i64 0 :: .int .i64 0 :: .int .i64 0 :: .int .u8 0 :: .int .u8 0 :: .int .u8 0 :: .int .u8 0 :: .int .u8 0 :: .int .u8 0 :: .int .u8 0 :: .int .u8 0 :: .int .u8 0 :: .int .u8 0 :: .int .u8 0 :: .int .u8 0 :: .int .u8 0 :: .int .u8 0 :: .int .u8 0 :: .int .u8 0 :: .int .u8 0 :: .int .u8 0 :: .int .u8 0 :: .int .u8 0 :: .int .u8 0 :: .int .u8 0 :: .int .u8 0 :: .int .u8 0 :: .int .u8 0 :: .int .u8 0 :: .int .u8 0 :: .int .u8 0 :: .int .u8 0 :: .int .u8 0 :: .int .u8 0 :: .int .u8 0 :: []) : Array Value) 28) := ⟨_, rfl⟩
  have hXb : Seal (Below w.heap.size w X) := ⟨by rw [hX]; exact below_alloc _ _⟩
  obtain ⟨RZ, hRZ⟩ : ∃ RZ : Array Value, RZ = (List.toArray (.int .i64 0 :: .int .i64 0 :: .int .i64 0 :: .int .i64 0 :: .int .u8 0 :: .int .u8 0 :: .int .u8 0 :: .int .u8 0 :: .int .u8 0 :: .int .u8 0 :: .int .u8 0 :: .int .u8 0 :: .int .u8 0 :: .int .u8 0 :: .int .u8 0 :: .int .u8 0 :: .int .u8 0 :: .int .u8 0 :: .int .u8 0 :: .int .u8 0 :: .int .u8 0 :: .int .u8 0 :: .int .u8 0 :: .int .u8 0 :: .int .u8 0 :: .int .u8 0 :: .int .u8 0 :: .int .u8 0 :: .int .u8 0 :: .int .u8 0 :: .int .u8 0 :: .int .u8 0 :: .int .u8 0 :: .int .u8 0 :: .int .u8 0 :: .int .u8 0 :: []) : Array Value) := ⟨_, rfl⟩
  have hXn : Seal (X.heap[w.heap.size]? = some (.cells RZ 28 (0, 0))) := ⟨by rw [hX, hRZ]; exact heap_alloc_new w _⟩
  have HI : Seal ((Tryz.prog.info? 28).map (·.size) = some RZ.size) := ⟨by rw [hRZ]; exact info_ret⟩
  have H1 : Seal (RZ.all (·.oneCell') = true) := ⟨by rw [hRZ]; exact one_ret⟩
  have HE : Seal (RZ = (retC 0 0 0 0 zb32).toArray) := ⟨by rw [hRZ]; exact retC_zero⟩
  clear hRZ
  go_enter Tryz.func43, Tryz.ntmps43
  go_upto_region 1 with (fail)
  rw [← hX]
  clear hX
  go_wp2_with (first | (fail) | (refine wpList_load_row rfl 28 (.tmp 8) rfl w.heap.size rfl 28 RZ (0, 0) _ hXn.out Tryz.underlying28 rfl HI.out ?_) | (refine wpList_store_row rfl 28 (.tmp 8) (.tmp 17) rfl w.heap.size RZ rfl rfl 28 RZ hXn.out HI.out rfl H1.out ?_))
  exact bodyPost_ret (results_row_tmp (fn := Tryz.f43) rfl _ _ w.heap.size 28 RZ (0, 0) _ _ rfl rfl (setRow_heap _ _ _ _ _ _ hXn.out) Tryz.underlying28 rfl HI.out) rfl ⟨by rw [HE.out]; rfl, below_row hXb.out (Nat.le_refl _) _⟩
set_option maxHeartbeats 1000000 in
theorem omake_key (L K al r : Int) (w : World) (hl : decide (L < 0) = false) (hm : decide (64 ≤ L) = false) (HA : Seal (vd K = false)) :
    Calls Tryz.prog 43 #[.int .i64 L, .int .i64 K, .int .i64 al, .int .i64 r] w fun e w' => e = .returned (.tuple #[.agg (retC 0 0 0 0 zb32).toArray, .int .i64 90]) ∧ Below w.heap.size w w' := by
  obtain ⟨X, hX⟩ : ∃ X : World, X = w.alloc (.cells (List.toArray (.int .i64 0 :: .int .i64 0 :: .int .i64 0 :: .int .i64 0 :: .int .u8 0 :: .int .u8 0 :: .int .u8 0 :: .int .u8 0 :: .int .u8 0 :: .int .u8 0 :: .int .u8 0 :: .int .u8 0 :: .int .u8 0 :: .int .u8 0 :: .int .u8 0 :: .int .u8 0 :: .int .u8 0 :: .int .u8 0 :: .int .u8 0 :: .int .u8 0 :: .int .u8 0 :: .int .u8 0 :: .int .u8 0 :: .int .u8 0 :: .int .u8 0 :: .int .u8 0 :: .int .u8 0 :: .int .u8 0 :: .int .u8 0 :: .int .u8 0 :: .int .u8 0 :: .int .u8 0 :: .int .u8 0 :: .int .u8 0 :: .int .u8 0 :: .int .u8 0 :: []) : Array Value) 28) := ⟨_, rfl⟩
  have hXb : Seal (Below w.heap.size w X) := ⟨by rw [hX]; exact below_alloc _ _⟩
  obtain ⟨RZ, hRZ⟩ : ∃ RZ : Array Value, RZ = (List.toArray (.int .i64 0 :: .int .i64 0 :: .int .i64 0 :: .int .i64 0 :: .int .u8 0 :: .int .u8 0 :: .int .u8 0 :: .int .u8 0 :: .int .u8 0 :: .int .u8 0 :: .int .u8 0 :: .int .u8 0 :: .int .u8 0 :: .int .u8 0 :: .int .u8 0 :: .int .u8 0 :: .int .u8 0 :: .int .u8 0 :: .int .u8 0 :: .int .u8 0 :: .int .u8 0 :: .int .u8 0 :: .int .u8 0 :: .int .u8 0 :: .int .u8 0 :: .int .u8 0 :: .int .u8 0 :: .int .u8 0 :: .int .u8 0 :: .int .u8 0 :: .int .u8 0 :: .int .u8 0 :: .int .u8 0 :: .int .u8 0 :: .int .u8 0 :: .int .u8 0 :: []) : Array Value) := ⟨_, rfl⟩
  have hXn : Seal (X.heap[w.heap.size]? = some (.cells RZ 28 (0, 0))) := ⟨by rw [hX, hRZ]; exact heap_alloc_new w _⟩
  have HI : Seal ((Tryz.prog.info? 28).map (·.size) = some RZ.size) := ⟨by rw [hRZ]; exact info_ret⟩
  have H1 : Seal (RZ.all (·.oneCell') = true) := ⟨by rw [hRZ]; exact one_ret⟩
  have HE : Seal (RZ = (retC 0 0 0 0 zb32).toArray) := ⟨by rw [hRZ]; exact retC_zero⟩
  clear hRZ
  go_enter Tryz.func43, Tryz.ntmps43
  go_upto_region 1 with (fail)
  rw [← hX]
  clear hX
  go_wp2_with (first | (go_at_call 63; refine (valid_at1 K false _ HA.out).mono ?_; rintro e w' ⟨rfl, rfl⟩) | (refine wpList_load_row rfl 28 (.tmp 8) rfl w.heap.size rfl 28 RZ (0, 0) _ hXn.out Tryz.underlying28 rfl HI.out ?_) | (refine wpList_store_row rfl 28 (.tmp 8) (.tmp 21) rfl w.heap.size RZ rfl rfl 28 RZ hXn.out HI.out rfl H1.out ?_))
  exact bodyPost_ret (results_row_tmp (fn := Tryz.f43) rfl _ _ w.heap.size 28 RZ (0, 0) _ _ rfl rfl (setRow_heap _ _ _ _ _ _ hXn.out) Tryz.underlying28 rfl HI.out) rfl ⟨by rw [HE.out]; rfl, below_row hXb.out (Nat.le_refl _) _⟩
set_option maxHeartbeats 1000000 in
theorem omake_ali (L K al r : Int) (w : World) (hl : decide (L < 0) = false) (hm : decide (64 ≤ L) = false) (HA : Seal (vd K = true)) (HB : Seal (al < 1 ∨ 1073741789 < al)) :
    Calls Tryz.prog 43 #[.int .i64 L, .int .i64 K, .int .i64 al, .int .i64 r] w fun e w' => e = .returned (.tuple #[.agg (retC 0 0 0 0 zb32).toArray, .int .i64 160]) ∧ Below w.heap.size w w' := by
  obtain ⟨X, hX⟩ : ∃ X : World, X = w.alloc (.cells (List.toArray (.int .i64 0 :: .int .i64 0 :: .int .i64 0 :: .int .i64 0 :: .int .u8 0 :: .int .u8 0 :: .int .u8 0 :: .int .u8 0 :: .int .u8 0 :: .int .u8 0 :: .int .u8 0 :: .int .u8 0 :: .int .u8 0 :: .int .u8 0 :: .int .u8 0 :: .int .u8 0 :: .int .u8 0 :: .int .u8 0 :: .int .u8 0 :: .int .u8 0 :: .int .u8 0 :: .int .u8 0 :: .int .u8 0 :: .int .u8 0 :: .int .u8 0 :: .int .u8 0 :: .int .u8 0 :: .int .u8 0 :: .int .u8 0 :: .int .u8 0 :: .int .u8 0 :: .int .u8 0 :: .int .u8 0 :: .int .u8 0 :: .int .u8 0 :: .int .u8 0 :: []) : Array Value) 28) := ⟨_, rfl⟩
  have hXb : Seal (Below w.heap.size w X) := ⟨by rw [hX]; exact below_alloc _ _⟩
  obtain ⟨RZ, hRZ⟩ : ∃ RZ : Array Value, RZ = (List.toArray (.int .i64 0 :: .int .i64 0 :: .int .i64 0 :: .int .i64 0 :: .int .u8 0 :: .int .u8 0 :: .int .u8 0 :: .int .u8 0 :: .int .u8 0 :: .int .u8 0 :: .int .u8 0 :: .int .u8 0 :: .int .u8 0 :: .int .u8 0 :: .int .u8 0 :: .int .u8 0 :: .int .u8 0 :: .int .u8 0 :: .int .u8 0 :: .int .u8 0 :: .int .u8 0 :: .int .u8 0 :: .int .u8 0 :: .int .u8 0 :: .int .u8 0 :: .int .u8 0 :: .int .u8 0 :: .int .u8 0 :: .int .u8 0 :: .int .u8 0 :: .int .u8 0 :: .int .u8 0 :: .int .u8 0 :: .int .u8 0 :: .int .u8 0 :: .int .u8 0 :: []) : Array Value) := ⟨_, rfl⟩
  have hXn : Seal (X.heap[w.heap.size]? = some (.cells RZ 28 (0, 0))) := ⟨by rw [hX, hRZ]; exact heap_alloc_new w _⟩
  have HI : Seal ((Tryz.prog.info? 28).map (·.size) = some RZ.size) := ⟨by rw [hRZ]; exact info_ret⟩
  have H1 : Seal (RZ.all (·.oneCell') = true) := ⟨by rw [hRZ]; exact one_ret⟩
  have HE : Seal (RZ = (retC 0 0 0 0 zb32).toArray) := ⟨by rw [hRZ]; exact retC_zero⟩
  clear hRZ
  go_enter Tryz.func43, Tryz.ntmps43
  go_upto_region 1 with (fail)
  rw [← hX]
  clear hX
  go_wp2_with (first | (first | (go_at_call 63; refine (valid_at1 K true _ HA.out).mono ?_; rintro e w' ⟨rfl, rfl⟩) | (go_at_call 45; refine (element_no al _ HB.out).mono ?_; rintro e w' ⟨rfl, rfl⟩)) | (refine wpList_load_row rfl 28 (.tmp 8) rfl w.heap.size rfl 28 RZ (0, 0) _ hXn.out Tryz.underlying28 rfl HI.out ?_) | (refine wpList_store_row rfl 28 (.tmp 8) (.tmp 29) rfl w.heap.size RZ rfl rfl 28 RZ hXn.out HI.out rfl H1.out ?_))
  exact bodyPost_ret (results_row_tmp (fn := Tryz.f43) rfl _ _ w.heap.size 28 RZ (0, 0) _ _ rfl rfl (setRow_heap _ _ _ _ _ _ hXn.out) Tryz.underlying28 rfl HI.out) rfl ⟨by rw [HE.out]; rfl, below_row hXb.out (Nat.le_refl _) _⟩

theorem elB_vd {n : Int} (h1 : 1 ≤ n) (h2 : n ≤ 1073741789) : vd (elB n) = true := by
  unfold elB
  cases hv : vd n with
  | true => rw [if_pos rfl]; exact hv
  | false =>
    rw [if_neg (by decide)]
    obtain ⟨m, rfl⟩ : ∃ m : Nat, n = m := ⟨n.toNat, by omega⟩
    have hm : 0 < m ∧ m < P := ⟨by omega, by show m < 2147483579; omega⟩
    have hnv : ¬ Vd m := fun h => by rw [(vd_iff m).2 h] at hv; cases hv
    have := (vd_iff (P - m)).2 ((vd_opp hm.1 hm.2).2 hnv)
    rw [show ((P - m : Nat) : Int) = 2147483579 - (m : Int) from by have := hm.2; unfold P at *; omega] at this
    exact this

theorem lay_retC {L K p q : Int} {S T : Bytes} (hS : S.length = 32) (hT : T.length = 32) : lay (retC L K p q S) 4 (T.map B) = retC L K p q T := by
  unfold lay retC
  rw [List.take_left' (by rfl), List.drop_of_length_le (by simp [hS, hT]), List.append_nil]

set_option maxHeartbeats 2000000 in
theorem omake_yes (L K al r p q : Int) (w : World) (hG : Glob w) (hok : ∀ n ∈ [L, K, p, q], -9223372036854775808 ≤ n ∧ n ≤ 9223372036854775807) (r1 : -9223372036854775808 ≤ r) (r2 : r ≤ 9223372036854775807)
    (hl : decide (L < 0) = false) (hm : decide (64 ≤ L) = false) (HA : Seal (vd K = true)) (h1 : 1 ≤ al) (h2 : al ≤ 1073741789)
    (hp : Seal (((mp (1 : Int).toNat (pw 4 r) : Nat) : Int) = p)) (hq : Seal (((mp (elB al).toNat (pw K.toNat r) : Nat) : Int) = q)) :
    Calls Tryz.prog 43 #[.int .i64 L, .int .i64 K, .int .i64 al, .int .i64 r] w fun e w' => e = .returned (.tuple #[.agg (retC L K p q (rtag L K p q)).toArray, .int .i64 0]) ∧ Below w.heap.size w w' := by
  obtain ⟨X, hX⟩ : ∃ X : World, X = w.alloc (.cells (List.toArray (.int .i64 0 :: .int .i64 0 :: .int .i64 0 :: .int .i64 0 :: .int .u8 0 :: .int .u8 0 :: .int .u8 0 :: .int .u8 0 :: .int .u8 0 :: .int .u8 0 :: .int .u8 0 :: .int .u8 0 :: .int .u8 0 :: .int .u8 0 :: .int .u8 0 :: .int .u8 0 :: .int .u8 0 :: .int .u8 0 :: .int .u8 0 :: .int .u8 0 :: .int .u8 0 :: .int .u8 0 :: .int .u8 0 :: .int .u8 0 :: .int .u8 0 :: .int .u8 0 :: .int .u8 0 :: .int .u8 0 :: .int .u8 0 :: .int .u8 0 :: .int .u8 0 :: .int .u8 0 :: .int .u8 0 :: .int .u8 0 :: .int .u8 0 :: .int .u8 0 :: []) : Array Value) 28) := ⟨_, rfl⟩
  have hXb : Seal (Below w.heap.size w X) := ⟨by rw [hX]; exact below_alloc _ _⟩
  have hXs : Seal (w.heap.size < X.heap.size) := ⟨by rw [hX, size_alloc]; omega⟩
  obtain ⟨RZ, hRZ⟩ : ∃ RZ : Array Value, RZ = (List.toArray (.int .i64 0 :: .int .i64 0 :: .int .i64 0 :: .int .i64 0 :: .int .u8 0 :: .int .u8 0 :: .int .u8 0 :: .int .u8 0 :: .int .u8 0 :: .int .u8 0 :: .int .u8 0 :: .int .u8 0 :: .int .u8 0 :: .int .u8 0 :: .int .u8 0 :: .int .u8 0 :: .int .u8 0 :: .int .u8 0 :: .int .u8 0 :: .int .u8 0 :: .int .u8 0 :: .int .u8 0 :: .int .u8 0 :: .int .u8 0 :: .int .u8 0 :: .int .u8 0 :: .int .u8 0 :: .int .u8 0 :: .int .u8 0 :: .int .u8 0 :: .int .u8 0 :: .int .u8 0 :: .int .u8 0 :: .int .u8 0 :: .int .u8 0 :: .int .u8 0 :: []) : Array Value) := ⟨_, rfl⟩
  have hXn : Seal (X.heap[w.heap.size]? = some (.cells RZ 28 (0, 0))) := ⟨by rw [hX, hRZ]; exact heap_alloc_new w _⟩
  obtain ⟨E, hE⟩ : ∃ E : Int, elB al = E := ⟨_, rfl⟩
  have hEv : vd E = true := by rw [← hE]; exact elB_vd h1 h2
  have HE : Seal (elB al = E) := ⟨hE⟩
  have HS : Seal (∀ W, Calls Tryz.prog 47 #[.int .i64 K, .agg #[.int .i64 1, .int .i64 E], .int .i64 r] W fun e w' => e = .returned (.agg #[.int .i64 p, .int .i64 q]) ∧ Below W.heap.size W w') :=
    ⟨fun W => oseal_yes K 1 E r p q W HA.out (by decide +kernel) hEv r1 r2 hp (by rw [← hE]; exact hq)⟩
  obtain ⟨C1, hC1⟩ : ∃ C1, C1 = retC L K p q zb32 := ⟨_, rfl⟩
  have I1 : Seal ((Tryz.prog.info? 28).map (·.size) = some C1.length) := ⟨by rw [hC1]; exact retC_info zb32_len⟩
  have I2 : Seal (C1.length = 36) := ⟨by rw [hC1]; exact retC_len zb32_len⟩
  have I3 : Seal (∀ u ∈ C1, u.oneCell' = true) := ⟨by rw [hC1]; exact retC_one _ _ _ _ _⟩
  have HT : Seal (∀ W : World, Glob W → Calls Tryz.prog 64 #[.agg C1.toArray] W fun e w' => e = .returned (.agg ((rtag L K p q).map B).toArray) ∧ Below W.heap.size W w') :=
    ⟨fun W hGW => otag_any L K p q C1 W hGW hok (by rw [hC1]; exact retC_head _ _ _ _ _) I1 I2 I3⟩
  have HG : Seal (Glob w) := ⟨hG⟩
  have HC1 : Seal (C1 = retC L K p q zb32) := ⟨hC1⟩
  have HRT : Seal ((rtag L K p q).length = 32) := ⟨sha_length _⟩
  have hCL : Seal ((List.toArray (.int .i64 L :: .int .i64 K :: .int .i64 p :: .int .i64 q :: .int .u8 0 :: .int .u8 0 :: .int .u8 0 :: .int .u8 0 :: .int .u8 0 :: .int .u8 0 :: .int .u8 0 :: .int .u8 0 :: .int .u8 0 :: .int .u8 0 :: .int .u8 0 :: .int .u8 0 :: .int .u8 0 :: .int .u8 0 :: .int .u8 0 :: .int .u8 0 :: .int .u8 0 :: .int .u8 0 :: .int .u8 0 :: .int .u8 0 :: .int .u8 0 :: .int .u8 0 :: .int .u8 0 :: .int .u8 0 :: .int .u8 0 :: .int .u8 0 :: .int .u8 0 :: .int .u8 0 :: .int .u8 0 :: .int .u8 0 :: .int .u8 0 :: .int .u8 0 :: []) : Array Value) = C1.toArray) := ⟨by rw [hC1]; rfl⟩
  have K4 : Seal ((Tryz.prog.info? 28).map (·.size) = some C1.toArray.size) := ⟨by rw [List.size_toArray]; exact I1.out⟩
  have K1 : Seal ((Tryz.prog.info? 28).map (·.size) = some (List.toArray (.int .i64 L :: .int .i64 K :: .int .i64 p :: .int .i64 q :: .int .u8 0 :: .int .u8 0 :: .int .u8 0 :: .int .u8 0 :: .int .u8 0 :: .int .u8 0 :: .int .u8 0 :: .int .u8 0 :: .int .u8 0 :: .int .u8 0 :: .int .u8 0 :: .int .u8 0 :: .int .u8 0 :: .int .u8 0 :: .int .u8 0 :: .int .u8 0 :: .int .u8 0 :: .int .u8 0 :: .int .u8 0 :: .int .u8 0 :: .int .u8 0 :: .int .u8 0 :: .int .u8 0 :: .int .u8 0 :: .int .u8 0 :: .int .u8 0 :: .int .u8 0 :: .int .u8 0 :: .int .u8 0 :: .int .u8 0 :: .int .u8 0 :: .int .u8 0 :: []) : Array Value).size) := ⟨by rw [hCL.out]; exact K4.out⟩
  have K2 : Seal (RZ.size = (List.toArray (.int .i64 L :: .int .i64 K :: .int .i64 p :: .int .i64 q :: .int .u8 0 :: .int .u8 0 :: .int .u8 0 :: .int .u8 0 :: .int .u8 0 :: .int .u8 0 :: .int .u8 0 :: .int .u8 0 :: .int .u8 0 :: .int .u8 0 :: .int .u8 0 :: .int .u8 0 :: .int .u8 0 :: .int .u8 0 :: .int .u8 0 :: .int .u8 0 :: .int .u8 0 :: .int .u8 0 :: .int .u8 0 :: .int .u8 0 :: .int .u8 0 :: .int .u8 0 :: .int .u8 0 :: .int .u8 0 :: .int .u8 0 :: .int .u8 0 :: .int .u8 0 :: .int .u8 0 :: .int .u8 0 :: .int .u8 0 :: .int .u8 0 :: .int .u8 0 :: []) : Array Value).size) := ⟨by rw [hRZ]; rfl⟩
  have K3 : Seal ((List.toArray (.int .i64 L :: .int .i64 K :: .int .i64 p :: .int .i64 q :: .int .u8 0 :: .int .u8 0 :: .int .u8 0 :: .int .u8 0 :: .int .u8 0 :: .int .u8 0 :: .int .u8 0 :: .int .u8 0 :: .int .u8 0 :: .int .u8 0 :: .int .u8 0 :: .int .u8 0 :: .int .u8 0 :: .int .u8 0 :: .int .u8 0 :: .int .u8 0 :: .int .u8 0 :: .int .u8 0 :: .int .u8 0 :: .int .u8 0 :: .int .u8 0 :: .int .u8 0 :: .int .u8 0 :: .int .u8 0 :: .int .u8 0 :: .int .u8 0 :: .int .u8 0 :: .int .u8 0 :: .int .u8 0 :: .int .u8 0 :: .int .u8 0 :: .int .u8 0 :: []) : Array Value).all (·.oneCell') = true) := ⟨by rw [hCL.out]; exact all_oneCell_toArray I3.out⟩
  clear hok hp hq hE hEv hRZ hC1 hG r1 r2
  generalize rtag L K p q = RT at *
  go_enter Tryz.func43, Tryz.ntmps43
  go_upto_region 1 with (fail)
  rw [← hX]
  clear hX
  go_wp2_with (first | (go_at_call 63; refine (valid_at1 K true _ HA.out).mono ?_; rintro e w' ⟨rfl, rfl⟩) | (go_at_call 45; refine (element_yes al E _ h1 h2 HE).mono ?_; rintro e w' ⟨rfl, rfl⟩) | (go_at_call 47; refine (HS.out _).mono ?_; rintro e w1 ⟨rfl, hb1⟩; have HB1 : Seal (Below w.heap.size w w1) := ⟨hXb.out.trans (hb1.mono hXb.out.size)⟩; have HZ1 : Seal (w1.heap[w.heap.size]? = some (.cells RZ 28 (0, 0))) := ⟨(hb1.block _ hXs.out).trans hXn.out⟩; clear hb1) | (refine wpList_store_row rfl 28 (.tmp 8) (.tmp 37) rfl w.heap.size (List.toArray (.int .i64 L :: .int .i64 K :: .int .i64 p :: .int .i64 q :: .int .u8 0 :: .int .u8 0 :: .int .u8 0 :: .int .u8 0 :: .int .u8 0 :: .int .u8 0 :: .int .u8 0 :: .int .u8 0 :: .int .u8 0 :: .int .u8 0 :: .int .u8 0 :: .int .u8 0 :: .int .u8 0 :: .int .u8 0 :: .int .u8 0 :: .int .u8 0 :: .int .u8 0 :: .int .u8 0 :: .int .u8 0 :: .int .u8 0 :: .int .u8 0 :: .int .u8 0 :: .int .u8 0 :: .int .u8 0 :: .int .u8 0 :: .int .u8 0 :: .int .u8 0 :: .int .u8 0 :: .int .u8 0 :: .int .u8 0 :: .int .u8 0 :: .int .u8 0 :: []) : Array Value) rfl rfl 28 RZ HZ1.out K1.out K2.out K3.out ?_; rw [hCL.out]) | (refine wpList_load_row rfl 28 (.tmp 8) rfl w.heap.size rfl 28 C1.toArray (0, 0) _ (setRow_heap _ _ _ _ _ _ HZ1.out) Tryz.underlying28 rfl K4.out ?_))
  have HZ2 : Seal ((w1.setRow w.heap.size C1.toArray).heap[w.heap.size]? = some (.cells C1.toArray 28 (0, 0))) := ⟨setRow_heap _ _ _ _ _ _ HZ1.out⟩
  have HB2 : Seal (Below w.heap.size w (w1.setRow w.heap.size C1.toArray)) := ⟨below_row HB1.out (Nat.le_refl _) _⟩
  obtain ⟨W2, hW2⟩ : ∃ W2, W2 = w1.setRow w.heap.size C1.toArray := ⟨_, rfl⟩
  rw [← hW2] at HZ2 HB2 ⊢
  clear hW2
  refine (HT.out W2 (HG.out.below HB2.out)).mono ?_
  rintro e w3 ⟨rfl, hb3⟩
  have HZ3 : Seal (w3.heap[w.heap.size]? = some (.cells C1.toArray 28 (0, 0))) := ⟨blk hb3 (Array.getElem?_eq_some_iff.1 HZ2.out).1 HZ2.out⟩
  have HB3 : Seal (Below w.heap.size w w3) := ⟨HB2.out.trans (hb3.mono HB2.out.size)⟩
  clear hb3
  obtain ⟨C2, hC2⟩ : ∃ C2, C2 = lay C1 4 (RT.map B) := ⟨_, rfl⟩
  have HC2 : Seal (C2 = retC L K p q RT) := ⟨by rw [hC2, HC1.out]; exact lay_retC zb32_len HRT.out⟩
  have HL2 : Seal (lay C1 4 (RT.map B) = C2) := ⟨hC2.symm⟩
  clear hC2
  have J1 : Seal ((Tryz.prog.info? 28).map (·.size) = some C2.toArray.size) := ⟨by rw [HC2.out, List.size_toArray]; exact retC_info HRT.out⟩
  have J2 : Seal (4 + (RT.map B).length ≤ C1.length) := ⟨by rw [I2.out, List.length_map, HRT.out]; decide⟩
  have J3 : Seal (C2.toArray.all (·.oneCell') = true) := ⟨by rw [HC2.out]; exact all_oneCell_toArray (retC_one _ _ _ _ _)⟩
  have J4 : Seal ((Tryz.prog.info? 26).map (·.size) = some (RT.map B).length) := ⟨dg_info RT HRT.out⟩
  have HZ4 : Seal ((w3.setRow w.heap.size C2.toArray).heap[w.heap.size]? = some (.cells C2.toArray 28 (0, 0))) := ⟨setRow_heap _ _ _ _ _ _ HZ3.out⟩
  have HB4 : Seal (Below w.heap.size w (w3.setRow w.heap.size C2.toArray)) := ⟨below_row HB3.out (Nat.le_refl _) _⟩
  go_wp2_with (first | (refine wpList_store_at rfl 26 (.tmp 40) (.tmp 39) rfl w.heap.size 4 (RT.map B) rfl rfl 28 C1 HZ3.out J4.out J2.out (digest_one RT) ?_; rw [HL2.out]) | (refine wpList_load_row rfl 28 (.tmp 8) rfl w.heap.size rfl 28 C2.toArray (0, 0) _ HZ4.out Tryz.underlying28 rfl J1.out ?_) | (refine wpList_store_row rfl 28 (.tmp 8) (.tmp 41) rfl w.heap.size C2.toArray rfl rfl 28 C2.toArray HZ4.out J1.out rfl J3.out ?_))
  exact bodyPost_ret (results_row_tmp (fn := Tryz.f43) rfl _ _ w.heap.size 28 C2.toArray (0, 0) _ _ rfl rfl (setRow_heap _ _ _ _ _ _ HZ4.out) Tryz.underlying28 rfl J1.out) rfl ⟨by rw [HC2.out]; rfl, below_row HB4.out (Nat.le_refl _) _⟩

theorem omake_at (L K al r a b c d e : Int) (T : Bytes) (w : World) (hG : Glob w) (hL : -9223372036854775808 ≤ L ∧ L ≤ 9223372036854775807) (hK : -9223372036854775808 ≤ K ∧ K ≤ 9223372036854775807) (r1 : -9223372036854775808 ≤ r) (r2 : r ≤ 9223372036854775807)
    (h : Seal (makeF L K al r = (a, b, c, d, T, e))) :
    Calls Tryz.prog 43 #[.int .i64 L, .int .i64 K, .int .i64 al, .int .i64 r] w fun e' w' => e' = .returned (.tuple #[.agg (retC a b c d T).toArray, .int .i64 e]) ∧ Below w.heap.size w w' := by
  have h' := h.out
  unfold makeF at h'
  by_cases h1 : L < 0 ∨ 64 ≤ L
  · rw [if_pos h1] at h'
    simp only [Prod.mk.injEq] at h'
    obtain ⟨rfl, rfl, rfl, rfl, rfl, rfl⟩ := h'
    rcases h1 with h1 | h1
    · exact omake_low L K al r w h1
    · exact omake_high L K al r w (decide_eq_false (by omega)) h1
  · rw [if_neg h1] at h'
    have hl : decide (L < 0) = false := decide_eq_false (by omega)
    have hm : decide (64 ≤ L) = false := decide_eq_false (by omega)
    cases hk : vd K with
    | false =>
      rw [hk, if_neg (by decide)] at h'
      simp only [Prod.mk.injEq] at h'
      obtain ⟨rfl, rfl, rfl, rfl, rfl, rfl⟩ := h'
      exact omake_key L K al r w hl hm ⟨hk⟩
    | true =>
      rw [hk, if_pos rfl] at h'
      by_cases h2 : 1 ≤ al ∧ al ≤ 1073741789
      · rw [if_pos h2] at h'
        simp only [Prod.mk.injEq] at h'
        obtain ⟨rfl, rfl, hc, hd, hT, rfl⟩ := h'
        rw [hc, hd] at hT
        have b1 := mp_lt (1 : Int).toNat (pw 4 r)
        have b2 := mp_lt (elB al).toNat (pw K.toNat r)
        unfold P at b1 b2
        have := omake_yes L K al r c d w hG (by
          intro n hn
          simp only [List.mem_cons, List.not_mem_nil, or_false] at hn
          rcases hn with rfl | rfl | rfl | rfl
          · exact hL
          · exact hK
          · omega
          · omega) r1 r2 hl hm ⟨hk⟩ h2.1 h2.2 ⟨hc⟩ ⟨hd⟩
        rw [hT] at this
        exact this
      · rw [if_neg h2] at h'
        simp only [Prod.mk.injEq] at h'
        obtain ⟨rfl, rfl, rfl, rfl, rfl, rfl⟩ := h'
        exact omake_ali L K al r w hl hm ⟨hk⟩ ⟨by omega⟩

/-- is a return address right? -/
def chkB (L K P Q : Int) (T : Bytes) : Bool := decide (0 ≤ L) && decide (L < 64) && vd K && vd P && vd Q && (T == rtag L K P Q)
theorem ocheck_any (L K P Q : Int) (T : Bytes) (t : Bool) (w : World) (hG : Glob w) (hL : I64 L) (hK : I64 K) (hP : I64 P) (hQ : I64 Q) (hT : T.length = 32) (ht : chkB L K P Q T = t) :
    Calls Tryz.prog 44 #[.agg (retC L K P Q T).toArray] w fun e w' => e = .returned (.int .i64 (if t = true then 0 else 160)) ∧ Below w.heap.size w w' := by
  have hh := retC_head L K P Q T
  subst ht
  unfold chkB
  by_cases h1 : L < 0
  · rw [decide_eq_false (show ¬ 0 ≤ L by omega)]
    exact ocheck_low L K P Q _ w hh h1
  · have hl : decide (L < 0) = false := decide_eq_false h1
    rw [decide_eq_true (show 0 ≤ L by omega)]
    by_cases h2 : 64 ≤ L
    · rw [decide_eq_false (show ¬ L < 64 by omega)]
      exact ocheck_high L K P Q _ w hh hl h2
    · have hm : decide (64 ≤ L) = false := decide_eq_false h2
      rw [decide_eq_true (show L < 64 by omega)]
      cases h3 : vd K with
      | false => exact ocheck_key L K P Q _ w hh hl hm ⟨h3⟩
      | true =>
        cases h4 : vd P with
        | false => exact ocheck_toa L K P Q _ w hh hl hm ⟨h3⟩ ⟨h4⟩
        | true =>
          cases h5 : vd Q with
          | false => exact ocheck_tob L K P Q _ w hh hl hm ⟨h3⟩ ⟨h4⟩ ⟨h5⟩
          | true =>
            have hok : ∀ n ∈ [L, K, P, Q], -9223372036854775808 ≤ n ∧ n ≤ 9223372036854775807 := by
              intro n hn
              simp only [List.mem_cons, List.not_mem_nil, or_false] at hn
              rcases hn with rfl | rfl | rfl | rfl
              · exact hL
              · exact hK
              · exact hP
              · exact hQ
            exact ocheck_tag L K P Q T (T == rtag L K P Q) _ w hG hok hT rfl rfl hl hm ⟨h3⟩ ⟨h4⟩ ⟨h5⟩

/-- what Spend returns: the list, the error -/
def spendF (c : Bool) (l : List Bytes) (d : Bytes) (bad : Int) : List Bytes × Int :=
  if c = true then (if usedB l = true then (if hasB l d = true then ([], 161) else if 4096 ≤ l.length then ([], 2) else (putB l d, 0)) else ([], bad)) else ([], bad)

/-- a list of digests and an error, returned -/
def DigPost (l : List Bytes) (x : Int) (w : World) (e : Ending) (w' : World) : Prop :=
  ∃ a len cap, e = .returned (.tuple #[.slice a len cap, .int .i64 x]) ∧ Seal (IsD w' a len cap l) ∧ Below w.heap.size w w'

theorem below_drewn_o (w : World) : Below w.heap.size w w.drew := ⟨rfl, rfl, rfl, Nat.le_refl _, fun _ _ => rfl⟩

end Frk
