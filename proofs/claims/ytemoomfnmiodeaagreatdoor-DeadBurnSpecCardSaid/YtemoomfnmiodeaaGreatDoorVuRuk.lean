/- The reference's Ints; its Tag of a return address. -/
import Derived.Test.YtemoomfnmiodeaaGreatDoorVugElm
import Derived.Test.YtemoomfnmiodeaaGreatDoorVugHaa
import Derived.Test.YtemoomfnmiodeaaGreatDoorVuOuk
import Derived.BigQuiet
namespace Frk
open Go Go.RowKit Go.Proofs
set_option maxRecDepth 100000

/-- what Ints returns: a list that bears these leaves -/
def IntsPost_k (xs : List Lf) (k : Nat) (w : World) (e : Ending) (w' : World) : Prop :=
  ∃ g c, e = .returned (.agg #[.int .i64 3, .int .i64 0, .string ByteArray.empty, .slice (some ⟨g, 0, none⟩) k c]) ∧ Seal (k ≤ c ∧ g < w'.heap.size ∧ LeavesAt w' g 0 xs ∧ w'.ownsRow w.heap.size 111 4 (.slice (some ⟨g, 0, none⟩) k c) k (xs.flatMap Lf.cells)) ∧ Below w.heap.size w w'

set_option maxHeartbeats 4000000 in
theorem rints_any_k (g off k cap : Nat) (ns : List Int) (w : World) (hk : ns.length = k) (hkc : k ≤ cap) (hk0 : 0 < k) (hk9 : k ≤ 1000) (hc : ∀ j n, ns[j]? = some n → w.cell? ⟨g, off + j, none⟩ = some (.int .i64 n)) :
    Calls Tryz.prog 101 #[.slice (some ⟨g, off, none⟩) k cap] w (IntsPost_k (lfs ns) k w) := by
  have HK := Seal.mk hk
  have HC := Seal.mk hc
  have HKx : Seal ((ns.map Arg.i).length = k) := ⟨by rw [List.length_map]; exact hk⟩
  obtain ⟨i0, hi, hz0, hz1, hz2⟩ := info_parts info_val
  have HI := Seal.mk (And.intro hi (And.intro hz0 (And.intro hz1 hz2)))
  obtain ⟨Y, hY⟩ : ∃ Y : World, Y = w.alloc (.cells #[.int .i64 0, .int .i64 0, .string ByteArray.empty, .slice none 0 0] 111) := ⟨_, rfl⟩
  have hYb : Seal (Below w.heap.size w Y) := ⟨by rw [hY]; exact below_alloc _ _⟩
  have hYs : Y.heap.size = w.heap.size + 1 := by rw [hY, size_alloc]
  have HYs := Seal.mk hYs
  obtain ⟨X, hX⟩ : ∃ X : World, X = Y.alloc (.cells #[.int .i64 3, .int .i64 0, .string ByteArray.empty, .slice none 0 0] 111) := ⟨_, rfl⟩
  have hXn : Seal (X.heap[Y.heap.size]? = some (.cells #[.int .i64 3, .int .i64 0, .string ByteArray.empty, .slice none 0 0] 111)) := ⟨by rw [hX]; exact heap_alloc_new _ _⟩
  have hXb : Seal (Below Y.heap.size Y X) := ⟨by rw [hX]; exact below_alloc _ _⟩
  have hXY : Seal (X = (w.alloc (.cells #[.int .i64 0, .int .i64 0, .string ⟨#[]⟩, .slice none 0 0] 111)).alloc (.cells #[.int .i64 3, .int .i64 0, .string ⟨#[]⟩, .slice none 0 0] 111)) := ⟨by rw [hX, hY]; rfl⟩
  have HYr : Seal (Y.heap[w.heap.size]? = some (.cells #[.int .i64 0, .int .i64 0, .string ByteArray.empty, .slice none 0 0] 111 (0, 0))) := ⟨by rw [hY]; exact heap_alloc_new _ _⟩
  clear hk hc hi hz0 hz1 hz2 hY hX
  go_enter Tryz.func101, Tryz.ntmps101
  go_wp2
  rw [← hXY.out]
  rw [← hYs]
  clear hYs
  go_loopw [4] (fun i wr => ListRel (ns.map Arg.i) Y i wr) (fun i _ => k - (intOf i).toNat)
  case atStart => exact ⟨0, .slice none 0 0, Nat.zero_le _, rfl, hXn, ⟨World.ownsRow_nil _ _ _ _⟩, hXb⟩
  case round =>
    obtain ⟨j, v, hj, rfl, hrow, hown, hb⟩ := hrel
    rw [HKx.out] at hj
    have hBz := hb.out.size
    have hBs : Y.heap.size < wr.heap.size := (Array.getElem?_eq_some_iff.1 hrow.out).1
    have c3 : wr.cell? ⟨Y.heap.size, 3, none⟩ = some v := by rw [cell_of_row _ _ _ _ _ _ hrow.out]; rfl
    have hne : some Y.heap.size ≠ v.ownBlock := fun e => by have := (hown.out.lt _ e.symm).1; omega
    by_cases hlt : j < k
    · obtain ⟨n, hx⟩ : ∃ n, ns[j]? = some n := ⟨_, List.getElem?_eq_getElem (by rw [HK.out]; exact hlt)⟩
      have hcy : Y.cell? ⟨g, off + j, none⟩ = some (.int .i64 n) := (hYb.out.cell (p := ⟨g, off + j, none⟩) (block_lt_of_cell (HC.out j n hx))).trans (HC.out j n hx)
      have hcx : wr.cell? ⟨g, off + j, none⟩ = some (.int .i64 n) := (hb.out.cell (p := ⟨g, off + j, none⟩) (block_lt_of_cell hcy)).trans hcy
      have hx' : (ns.map Arg.i)[j]? = some (Arg.i n) := by rw [List.getElem?_map, hx]; rfl
      have HT := Seal.mk (leafCells_take (ns.map Arg.i) j (Arg.i n) hx')
      have hgb : g < Y.heap.size := block_lt_of_cell hcy
      clear hx hx' hcy
      have q1 : (j : Int) < (k : Int) := by omega
      have q2 : (0 : Int) ≤ (j : Int) := by omega
      go_wp2_with fail
      refine wp_region_heldT 10 (S := fun w' => w'.cell? ⟨Y.heap.size, 3, none⟩ = some v ∧ w'.cell? ⟨g, off + j, none⟩ = some (.int .i64 n)) (by kernel_rfl) ⟨c3, hcx⟩ (fun hHeld => ?_)
      refine take_t 0 ?_ rfl (by kernel_rfl) (by kernel_rfl) (by kernel_rfl) (by kernel_rfl) (fun _ _ _ h => h) (Or.inl ⟨by kernel_rfl, ?_⟩) (by assumption) ?_
      rotate_left
      · (intro w hSw; (try dsimp only at hSw); go_simp; try (with_reducible rfl))
      try simp only [Act.put, List.setIfInBounds_toArray, List.set_cons_zero, List.set_cons_succ]
      refine take_t 1 ?_ rfl (by kernel_rfl) (by kernel_rfl) (by kernel_rfl) (by kernel_rfl) (fun _ _ _ h => h) (Or.inl ⟨by kernel_rfl, ?_⟩) (by assumption) ?_
      rotate_left
      · (intro w hSw; (try dsimp only at hSw); go_simp; try (with_reducible rfl))
      try simp only [Act.put, List.setIfInBounds_toArray, List.set_cons_zero, List.set_cons_succ]
      refine take_t 2 ?_ rfl (by kernel_rfl) (by kernel_rfl) (by kernel_rfl) (by kernel_rfl) (fun _ _ _ h => h) (Or.inl ⟨by kernel_rfl, ?_⟩) (by assumption) ?_
      rotate_left
      · (intro w hSw; (try dsimp only at hSw); go_simp; try (with_reducible rfl))
      try simp only [Act.put, List.setIfInBounds_toArray, List.set_cons_zero, List.set_cons_succ]
      refine take_t 3 ?_ rfl (by kernel_rfl) (by kernel_rfl) (by kernel_rfl) (by kernel_rfl) (fun _ _ _ h => h) (Or.inl ⟨by kernel_rfl, ?_⟩) (by assumption) ?_
      rotate_left
      · (intro w hSw; (try dsimp only at hSw); go_simp; try (with_reducible rfl))
      try simp only [Act.put, List.setIfInBounds_toArray, List.set_cons_zero, List.set_cons_succ]
      refine take_t 4 ?_ rfl (by kernel_rfl) (by kernel_rfl) (by kernel_rfl) (by kernel_rfl) (fun _ _ _ h => h) (Or.inl ⟨by kernel_rfl, ?_⟩) (by assumption) ?_
      rotate_left
      · (intro w hSw; (try dsimp only at hSw); go_simp; try (with_reducible rfl))
      try simp only [Act.put, List.setIfInBounds_toArray, List.set_cons_zero, List.set_cons_succ]
      refine take_t 5 ?_ rfl (by kernel_rfl) (by kernel_rfl) (by kernel_rfl) (by kernel_rfl) (fun _ _ _ h => h) (Or.inl ⟨by kernel_rfl, ?_⟩) (by assumption) ?_
      rotate_left
      · (intro w hSw; (try dsimp only at hSw); go_simp; try (with_reducible rfl))
      try simp only [Act.put, List.setIfInBounds_toArray, List.set_cons_zero, List.set_cons_succ]
      refine call_t 6 rfl (by kernel_rfl) 122 #[.int .i64 n] (by kernel_rfl) (by go_simp) ?_
      refine (rint_any n wr.drew).mono ?_
      rintro e w1 ⟨rfl, hb1⟩
      have hb2 : Below wr.heap.size wr w1 := ⟨hb1.os, hb1.tape, hb1.output, hb1.size, hb1.block⟩
      have HB1 : Seal (Below Y.heap.size Y w1) := ⟨hb.out.trans (hb2.mono hb.out.size)⟩
      have HR1 : Seal (w1.heap[Y.heap.size]? = some (.cells #[.int .i64 3, .int .i64 0, .string ByteArray.empty, v] 111)) := ⟨blk hb2 hBs hrow.out⟩
      have HO1 : Seal (w1.ownsRow (Y.heap.size + 1) 111 4 v j (leafCells ((ns.map Arg.i).take j))) := ⟨ownsRow_below hown.out hb2⟩
      refine ⟨_, rfl, ⟨cell_later hb2 c3, cell_later hb2 hcx⟩, fun hHeld2 => ?_⟩
      have hs1 : Y.heap.size < w1.heap.size := Nat.lt_of_lt_of_le hBs hb2.size
      clear hHeld hb1 hb2 c3 hcx
      try simp only [Act.put, List.setIfInBounds_toArray, List.set_cons_zero, List.set_cons_succ]
      refine oper_t 7 (.slice (some ⟨w1.heap.size, 0, none⟩) 1 1) (w1.alloc (.cells #[.int .i64 1, .int .i64 n, .string ByteArray.empty, .slice none 0 0] 111)) rfl (by kernel_rfl) (by kernel_rfl) (by go_simp) ⟨cell_allocd hHeld2.1 _, cell_allocd hHeld2.2 _⟩ (fun hHeld3 => ?_)
      clear hHeld2
      try simp only [Act.put, List.setIfInBounds_toArray, List.set_cons_zero, List.set_cons_succ]
      obtain ⟨g1, cap1, w2, hrun, hown1, hgrow1, hat, hlt1⟩ := run_append_lies (P := Tryz.prog) (w := w1.alloc (.cells #[.int .i64 1, .int .i64 n, .string ByteArray.empty, .slice none 0 0] 111)) 109 109 (Y.heap.size + 1) 111 i0 _ 4 56 Tryz.underlying109 HI.out.1 HI.out.2.1 HI.out.2.2.1 HI.out.2.2.2 rfl (by decide) v j (leafCells ((ns.map Arg.i).take j)) (HO1.out.alloc _) ⟨w1.heap.size, 0, none⟩ 1 1 (Lf.i n).cells rfl (World.news_of_block (heap_alloc_new w1 _)) (by simp [Lf.cells, Value.oneCell']) (by decide) (by unfold maxLen; omega) (by omega) (by simp; omega) _ rfl
      have hr2 : w2.heap[Y.heap.size]? = some (.cells #[.int .i64 3, .int .i64 0, .string ByteArray.empty, v] 111) := (hgrow1.block _ (by simp; omega) hne).trans ((Below.heap_alloc w1 _ _ hs1).trans HR1.out)
      have c1 : w2.cell? ⟨Y.heap.size, 3, none⟩ = some v := by rw [cell_of_row _ _ _ _ _ _ hr2]; rfl
      have f1 : w2.frozen? ⟨Y.heap.size, 3, none⟩ = false := frozen_of_row _ _ _ _ _ hr2
      have hgv : some g ≠ v.ownBlock := fun e => by have := (hown.out.lt _ e.symm).1; omega
      refine oper_t 8 (.slice (some ⟨g1, 0, none⟩) (j + 1) cap1) w2 rfl (by kernel_rfl) (by kernel_rfl) (exec_append (.tmp 13) (.tmp 19) 109 109 rfl _ _ _ rfl rfl (fun ty => hrun)) ⟨c1, (hgrow1.cell_far ⟨g, off + j, none⟩ (by simp; omega) hgv).trans hHeld3.2⟩ (fun hHeld4 => ?_)
      clear hHeld3
      try simp only [Act.put, List.setIfInBounds_toArray, List.set_cons_zero, List.set_cons_succ]
      refine take_t 9 ?_ rfl (by kernel_rfl) (by kernel_rfl) (by kernel_rfl) (by kernel_rfl) (fun _ _ _ h => h) (Or.inl ⟨by kernel_rfl, ?_⟩) (by assumption) ?_
      rotate_left
      · (intro w hSw; (try dsimp only at hSw); go_simp; try (with_reducible rfl))
      try simp only [Act.put, List.setIfInBounds_toArray, List.set_cons_zero, List.set_cons_succ]
      have HN := Seal.mk (ListRel.next (by rw [HKx.out]; exact hlt) HT.out HB1.out hr2 HO1.out hgrow1 hs1 hown1)
      refine last_t (w2.setCell ⟨Y.heap.size, 3, none⟩ (.slice (some ⟨g1, 0, none⟩) (j + 1) cap1)) rfl (by kernel_rfl) (by kernel_rfl) (by kernel_rfl) (by go_simp) ?_
      clear hHeld4 c1 f1
      go_wp2
      refine ⟨HN.out, ?_⟩
      simp only [intOf]; omega
    · obtain rfl : j = k := by omega
      obtain ⟨g2, cap2, rfl, hgY, hg2⟩ := hown.out.form hk0
      have hgY := (hown.out.lt g2 rfl).1
      have HA : Seal (LeavesAt wr g2 0 (lfs ns)) := ⟨fun q y hy r c hrc => by
        obtain ⟨n, hx, rfl⟩ : ∃ n, ns[q]? = some n ∧ Lf.i n = y := by
          unfold lfs at hy
          rw [List.getElem?_map] at hy
          cases h : ns[q]? with
          | none => rw [h] at hy; cases hy
          | some x => rw [h] at hy; exact ⟨x, rfl, by simpa using hy⟩
        have h1 := leafCells_at (ns.map Arg.i) q (Arg.i n) (by rw [List.getElem?_map, hx]; rfl) r c hrc
        have h2 := hown.out.cells (g := g2) rfl (q * 4 + r) c (by rw [List.take_of_length_le (by rw [HKx.out]; exact Nat.le_refl _)]; exact h1)
        rw [Addr.add_mid] at h2
        rw [Nat.add_assoc]; exact h2⟩
      have HQ : Seal (j ≤ cap2) := ⟨by
        rcases hown.out.2 with ⟨e, _⟩ | ⟨_, _, _, hv, _, _, hle, _⟩
        · cases e
        · cases hv; exact hle⟩
      have HOw : Seal (wr.ownsRow (w.heap.size + 1) 111 4 (.slice (some ⟨g2, 0, none⟩) j cap2) j ((lfs ns).flatMap Lf.cells)) := ⟨by
        have h1 := hown.out
        rw [List.take_of_length_le (by rw [HKx.out]; exact Nat.le_refl _)] at h1
        have e : leafCells (ns.map Arg.i) = (lfs ns).flatMap Lf.cells := by
          unfold leafCells lfs
          rw [List.flatMap_map, List.flatMap_map]
          rfl
        rw [e] at h1
        refine ⟨h1.1, ?_⟩
        rcases h1.2 with h | ⟨g3, c3', cu, hv, hb3, hrest⟩
        · exact .inl h
        · exact .inr ⟨g3, c3', cu, hv, by have := HYs.out; omega, hrest⟩⟩
      have c30 : wr.cell? ⟨Y.heap.size, 0, none⟩ = some (.int .i64 3) := by rw [cell_of_row _ _ _ _ _ _ hrow.out]; rfl
      have c31 : wr.cell? ⟨Y.heap.size, 1, none⟩ = some (.int .i64 0) := by rw [cell_of_row _ _ _ _ _ _ hrow.out]; rfl
      have c32 : wr.cell? ⟨Y.heap.size, 2, none⟩ = some (.string ByteArray.empty) := by rw [cell_of_row _ _ _ _ _ _ hrow.out]; rfl
      have HZ : Seal (wr.heap[w.heap.size]? = some (.cells #[.int .i64 0, .int .i64 0, .string ByteArray.empty, .slice none 0 0] 111 (0, 0))) := ⟨(hb.out.block _ (by have := HYs.out; omega)).trans HYr.out⟩
      have z0 : wr.cell? ⟨w.heap.size, 0, none⟩ = some (.int .i64 0) := by rw [cell_of_row _ _ _ _ _ _ HZ.out]; rfl
      have z1 : wr.cell? ⟨w.heap.size, 1, none⟩ = some (.int .i64 0) := by rw [cell_of_row _ _ _ _ _ _ HZ.out]; rfl
      have z2 : wr.cell? ⟨w.heap.size, 2, none⟩ = some (.string ByteArray.empty) := by rw [cell_of_row _ _ _ _ _ _ HZ.out]; rfl
      have z3 : wr.cell? ⟨w.heap.size, 3, none⟩ = some (.slice none 0 0) := by rw [cell_of_row _ _ _ _ _ _ HZ.out]; rfl
      have f0 : wr.frozen? ⟨w.heap.size, 0, none⟩ = false := frozen_of_row _ _ _ _ _ HZ.out
      have f1 : wr.frozen? ⟨w.heap.size, 1, none⟩ = false := frozen_of_row _ _ _ _ _ HZ.out
      have f2 : wr.frozen? ⟨w.heap.size, 2, none⟩ = false := frozen_of_row _ _ _ _ _ HZ.out
      have f3 : wr.frozen? ⟨w.heap.size, 3, none⟩ = false := frozen_of_row _ _ _ _ _ HZ.out
      have HBw : Seal (Below w.heap.size w wr) := ⟨hYb.out.trans (hb.out.mono hYb.out.size)⟩
      have hgw : g2 ≠ w.heap.size := by have := HYs.out; omega
      clear hrow hown hne HC hb hgY
      go_wp2
      have hr9 := heap_setCell_row (cs := [.int .i64 3, .int .i64 0, .string ByteArray.empty, .slice none 0 0]) (i := 3) (.slice (some ⟨g2, 0, none⟩) j cap2) (heap_setCell_row (cs := [.int .i64 3, .int .i64 0, .string ByteArray.empty, .slice none 0 0]) (i := 2) (.string ByteArray.empty) (heap_setCell_row (cs := [.int .i64 3, .int .i64 0, .string ByteArray.empty, .slice none 0 0]) (i := 1) (.int .i64 0) (heap_setCell_row (cs := [.int .i64 0, .int .i64 0, .string ByteArray.empty, .slice none 0 0]) (i := 0) (.int .i64 3) HZ.out)))
      have hot : ∀ k, k ≠ w.heap.size → ((((wr.setCell ⟨w.heap.size, 0, none⟩ (.int .i64 3)).setCell ⟨w.heap.size, 1, none⟩ (.int .i64 0)).setCell ⟨w.heap.size, 2, none⟩ (.string ByteArray.empty)).setCell ⟨w.heap.size, 3, none⟩ (.slice (some ⟨g2, 0, none⟩) j cap2)).heap[k]? = wr.heap[k]? := fun k hk =>
        (Below.heap_setCell _ _ _ k hk).trans ((Below.heap_setCell _ _ _ k hk).trans ((Below.heap_setCell _ _ _ k hk).trans (Below.heap_setCell _ _ _ k hk)))
      refine bodyPost_ret (results_cell_row (fn := Tryz.f101) rfl _ _ w.heap.size 111 #[.int .i64 3, .int .i64 0, .string ByteArray.empty, .slice (some ⟨g2, 0, none⟩) j cap2] (0, 0) _ rfl hr9 Tryz.underlying111 rfl (by kernel_rfl)) rfl ⟨g2, cap2, rfl, ⟨HQ.out, ?_, ?_, ?_⟩, ?_⟩
      · simpa using hg2
      · intro q y hy r c hrc
        exact (World.cell?_of_block (w := wr) (hot g2 hgw)).trans (HA.out q y hy r c hrc)
      · refine ⟨HOw.out.1, ?_⟩
        rcases HOw.out.2 with h | ⟨g3, c3', cu, hv, hb3, hh, hrest⟩
        · exact .inl h
        · exact .inr ⟨g3, c3', cu, hv, by omega, (hot g3 (by omega)).trans hh, hrest⟩
      · exact (((HBw.out.setCell (p := ⟨w.heap.size, 0, none⟩) (Nat.le_refl _) _).setCell (p := ⟨w.heap.size, 1, none⟩) (Nat.le_refl _) _).setCell (p := ⟨w.heap.size, 2, none⟩) (Nat.le_refl _) _).setCell (p := ⟨w.heap.size, 3, none⟩) (Nat.le_refl _) _

set_option maxHeartbeats 1000000 in
theorem rtag_any (L K P Q : Int) (C : List Value) (w : World) (_hG : Glob w)
    (hok : ∀ n ∈ [L, K, P, Q], -9223372036854775808 ≤ n ∧ n ≤ 9223372036854775807)
    (hc : RetHead C L K P Q)
    (H1 : Seal ((Tryz.prog.info? 28).map (·.size) = some C.length)) (H2 : Seal (C.length = 36)) (H3 : Seal (∀ u ∈ C, u.oneCell' = true)) :
    Calls Tryz.prog 83 #[.agg C.toArray] w fun e w' => e = .returned (.agg ((rtag L K P Q).map B).toArray) ∧ Below w.heap.size w w' := by
  have _ := H1
  have _ := H2
  have _ := H3
  obtain ⟨hc0, hc1, hc2, hc3⟩ := hc
  obtain ⟨X, hX⟩ : ∃ X : World, X = ((w.alloc (.cells C.toArray 28)).alloc (.cells #[.int .u8 0, .int .u8 0, .int .u8 0, .int .u8 0, .int .u8 0, .int .u8 0, .int .u8 0, .int .u8 0, .int .u8 0, .int .u8 0, .int .u8 0, .int .u8 0, .int .u8 0, .int .u8 0, .int .u8 0, .int .u8 0, .int .u8 0, .int .u8 0, .int .u8 0, .int .u8 0, .int .u8 0, .int .u8 0, .int .u8 0, .int .u8 0, .int .u8 0, .int .u8 0, .int .u8 0, .int .u8 0, .int .u8 0, .int .u8 0, .int .u8 0, .int .u8 0] 26)).alloc (.cells #[.int .i64 L, .int .i64 K, .int .i64 P, .int .i64 Q] 3) := ⟨_, rfl⟩
  have hXb : Seal (Below w.heap.size w X) := ⟨by rw [hX]; exact (((Below.refl _ w).alloc (Nat.le_refl _) _).alloc (by rw [size_alloc]; omega) _).alloc (by rw [size_alloc, size_alloc]; omega) _⟩
  have hXs : Seal (X.heap.size = w.heap.size + 3) := ⟨by rw [hX, size_alloc, size_alloc, size_alloc]⟩
  have hXn : Seal (X.heap[w.heap.size + 1]? = some (.cells #[.int .u8 0, .int .u8 0, .int .u8 0, .int .u8 0, .int .u8 0, .int .u8 0, .int .u8 0, .int .u8 0, .int .u8 0, .int .u8 0, .int .u8 0, .int .u8 0, .int .u8 0, .int .u8 0, .int .u8 0, .int .u8 0, .int .u8 0, .int .u8 0, .int .u8 0, .int .u8 0, .int .u8 0, .int .u8 0, .int .u8 0, .int .u8 0, .int .u8 0, .int .u8 0, .int .u8 0, .int .u8 0, .int .u8 0, .int .u8 0, .int .u8 0, .int .u8 0] 26 (0, 0))) := ⟨by
    rw [hX, Below.heap_alloc _ _ _ (by rw [size_alloc, size_alloc]; omega)]
    exact heap_alloc2_new w _ _⟩
  have hXr : X.heap[w.heap.size + 1 + 1]? = some (.cells #[.int .i64 L, .int .i64 K, .int .i64 P, .int .i64 Q] 3 (0, 0)) := by
    rw [hX]
    have := heap_alloc_new ((w.alloc (.cells C.toArray 28)).alloc (.cells #[.int .u8 0, .int .u8 0, .int .u8 0, .int .u8 0, .int .u8 0, .int .u8 0, .int .u8 0, .int .u8 0, .int .u8 0, .int .u8 0, .int .u8 0, .int .u8 0, .int .u8 0, .int .u8 0, .int .u8 0, .int .u8 0, .int .u8 0, .int .u8 0, .int .u8 0, .int .u8 0, .int .u8 0, .int .u8 0, .int .u8 0, .int .u8 0, .int .u8 0, .int .u8 0, .int .u8 0, .int .u8 0, .int .u8 0, .int .u8 0, .int .u8 0, .int .u8 0] 26)) (.cells #[.int .i64 L, .int .i64 K, .int .i64 P, .int .i64 Q] 3)
    rwa [size_alloc, size_alloc] at this
  have HT : Seal (Calls Tryz.prog 101 #[.slice (some ⟨w.heap.size + 1 + 1, 0, none⟩) 4 4] X (IntsPost_k (lfs [L, K, P, Q]) 4 X)) := ⟨rints_any_k (w.heap.size + 1 + 1) 0 4 4 [L, K, P, Q] X rfl (Nat.le_refl _) (by decide) (by decide) (fun j n hj => by
    rw [Nat.zero_add, cell_of_row _ _ _ _ _ _ hXr]
    match j, hj with
    | 0, hj => cases hj; rfl
    | 1, hj => cases hj; rfl
    | 2, hj => cases hj; rfl
    | 3, hj => cases hj; rfl)⟩
  have HF : Seal (∀ y ∈ lfs [L, K, P, Q], y.fits) := ⟨fun y hy => by
    unfold lfs at hy
    obtain ⟨n, hn, rfl⟩ := List.mem_map.1 hy
    exact hok n hn⟩
  have HW : Seal (wgts (lfs [L, K, P, Q]) = 44) := ⟨by rw [wgts_lfs]; rfl⟩
  have HN : Seal ((lfs [L, K, P, Q]).length = 4) := ⟨rfl⟩
  have HL : Seal ((encL (lfs [L, K, P, Q])).length ≤ 55) := ⟨by have := encL_length (lfs [L, K, P, Q]); rw [wgts_lfs] at this; exact this⟩
  have HR : Seal (tagged tReturn (encL (lfs [L, K, P, Q])) = rtag L K P Q) := ⟨rfl⟩
  generalize lfs [L, K, P, Q] = T at HT HL HR HF HW HN
  clear hXr hok
  go_enter Tryz.func83, Tryz.ntmps83
  go_wp2_with fail
  rw [hX] at HT
  refine HT.out.mono ?_
  rw [← hX]
  clear hX
  rintro e w1 ⟨g1, c1, rfl, hI, hb1⟩
  have HB1 : Seal (Below w.heap.size w w1) := ⟨hXb.out.trans (hb1.mono hXb.out.size)⟩
  have HZ1 : Seal (w1.heap[w.heap.size + 1]? = some (.cells #[.int .u8 0, .int .u8 0, .int .u8 0, .int .u8 0, .int .u8 0, .int .u8 0, .int .u8 0, .int .u8 0, .int .u8 0, .int .u8 0, .int .u8 0, .int .u8 0, .int .u8 0, .int .u8 0, .int .u8 0, .int .u8 0, .int .u8 0, .int .u8 0, .int .u8 0, .int .u8 0, .int .u8 0, .int .u8 0, .int .u8 0, .int .u8 0, .int .u8 0, .int .u8 0, .int .u8 0, .int .u8 0, .int .u8 0, .int .u8 0, .int .u8 0, .int .u8 0] 26 (0, 0))) := ⟨(hb1.block _ (by rw [hXs.out]; omega)).trans hXn.out⟩
  have HE : Seal _ := ⟨rencode_any g1 0 4 c1 T w1 HN.out hI.out.1 (by rw [HW.out]; decide) hI.out.2.2.1 hI.out.2.1 HF.out⟩
  clear hb1 hI
  go_wp2_with fail
  refine HE.out.mono ?_
  rintro e w2 ⟨g2, n2, c2, rfl, hS⟩
  have hn2 : n2 ≤ 55 := by have := hS.out.len; have := HL.out; omega
  have HB2 : Seal (Below w.heap.size w w2) := ⟨HB1.out.trans (hS.out.bel.mono HB1.out.size)⟩
  have hz1 := (Array.getElem?_eq_some_iff.1 HZ1.out).1
  have HZ2 : Seal (w2.heap[w.heap.size + 1]? = some (.cells #[.int .u8 0, .int .u8 0, .int .u8 0, .int .u8 0, .int .u8 0, .int .u8 0, .int .u8 0, .int .u8 0, .int .u8 0, .int .u8 0, .int .u8 0, .int .u8 0, .int .u8 0, .int .u8 0, .int .u8 0, .int .u8 0, .int .u8 0, .int .u8 0, .int .u8 0, .int .u8 0, .int .u8 0, .int .u8 0, .int .u8 0, .int .u8 0, .int .u8 0, .int .u8 0, .int .u8 0, .int .u8 0, .int .u8 0, .int .u8 0, .int .u8 0, .int .u8 0] 26 (0, 0))) := ⟨(hS.out.bel.block _ hz1).trans HZ1.out⟩
  have HC : Seal _ := ⟨rtagged_any ⟨tReturn.toArray⟩ (some ⟨g2, 0, none⟩) n2 c2 (encL T) w2 (hS.out.isB (by omega)) (by decide) (by omega)⟩
  have HCr : Seal (Calls Tryz.prog 51 #[.string ⟨tReturn.toArray⟩, .slice (some ⟨g2, 0, none⟩) n2 c2] w2 fun e w' => e = .returned (.agg ((rtag L K P Q).map B).toArray) ∧ Below w2.heap.size w2 w') := ⟨by rw [← HR.out]; exact HC.out⟩
  have HE1 : Seal ((Tryz.prog.info? 26).map (·.size) = some ((rtag L K P Q).map B).toArray.size) := ⟨by rw [List.size_toArray]; exact sha_info _⟩
  have HE2 : Seal (((rtag L K P Q).map B).toArray.size = 32) := ⟨by rw [List.size_toArray, List.length_map]; exact sha_length _⟩
  have HE3 : Seal (((rtag L K P Q).map B).toArray.all (·.oneCell') = true) := ⟨by simp [Value.oneCell']⟩
  obtain ⟨E, hE⟩ : ∃ E, Seal (E = ((rtag L K P Q).map B).toArray) := ⟨_, ⟨rfl⟩⟩
  rw [← hE.out] at HE1 HE2 HE3 HCr
  have hz2 : w.heap.size + 1 < w2.heap.size := (Array.getElem?_eq_some_iff.1 HZ2.out).1
  clear HC hS HE
  go_wp2_with (first | (go_at_call 51; refine HCr.out.mono ?_; rintro e w4 ⟨rfl, hb4⟩; have HZ4 := Seal.mk ((hb4.block _ hz2).trans HZ2.out); have HB5 := Seal.mk (HB2.out.trans (hb4.mono (by omega))); clear hb4) | (refine wpList_store_row rfl 26 (.tmp 2) (.tmp 22) rfl (w.heap.size + 1) E rfl rfl 26 _ HZ4.out HE1.out HE2.out.symm HE3.out ?_))
  refine bodyPost_ret (results_cell_row (fn := Tryz.f83) rfl _ _ (w.heap.size + 1) 26 E (0, 0) _ rfl (setRow_heap _ _ _ _ _ _ HZ4.out) Tryz.underlying26 rfl HE1.out) rfl ⟨by rw [hE.out], below_row HB5.out (Nat.le_succ _) _⟩

set_option maxHeartbeats 1000000 in
theorem rocheck_low (L K P Q : Int) (C : List Value) (w : World)
    (hc : RetHead C L K P Q) (hl : L < 0) :
    Calls Tryz.prog 59 #[.agg C.toArray] w fun e w' => e = .returned (.int .i64 160) ∧ Below w.heap.size w w' := by
  obtain ⟨hc0, hc1, hc2, hc3⟩ := hc
  obtain ⟨X, hX⟩ : ∃ X : World, X = (w.alloc (.cells C.toArray 28)) := ⟨_, rfl⟩
  have hXb : Seal (Below w.heap.size w X) := ⟨by rw [hX]; exact (Below.refl _ w).alloc (Nat.le_refl _) _⟩
  have hXn : Seal (X.heap[w.heap.size]? = some (.cells C.toArray 28 (0, 0))) := ⟨by rw [hX]; exact heap_alloc_new w _⟩
  have k0 : X.cell? ⟨w.heap.size, 0, none⟩ = some (.int .i64 L) := by rw [cell_of_row _ _ _ _ _ _ hXn.out]; simpa using hc0
  have k1 : X.cell? ⟨w.heap.size, 1, none⟩ = some (.int .i64 K) := by rw [cell_of_row _ _ _ _ _ _ hXn.out]; simpa using hc1
  have k2 : X.cell? ⟨w.heap.size, 2, none⟩ = some (.int .i64 P) := by rw [cell_of_row _ _ _ _ _ _ hXn.out]; simpa using hc2
  have k3 : X.cell? ⟨w.heap.size, 3, none⟩ = some (.int .i64 Q) := by rw [cell_of_row _ _ _ _ _ _ hXn.out]; simpa using hc3
  go_enter Tryz.func59, Tryz.ntmps59
  go_wp2_with fail
  rw [← hX]
  clear hX hc0 hc1 hc2 hc3
  go_quiet ((fail))
  all_goals
    go_wp2
    go_ret
    exact ⟨rfl, hXb.out.os, hXb.out.tape, hXb.out.output, hXb.out.size, hXb.out.block⟩
set_option maxHeartbeats 1000000 in
theorem rocheck_high (L K P Q : Int) (C : List Value) (w : World)
    (hc : RetHead C L K P Q) (hl : decide (L < 0) = false) (hm : 64 ≤ L) :
    Calls Tryz.prog 59 #[.agg C.toArray] w fun e w' => e = .returned (.int .i64 160) ∧ Below w.heap.size w w' := by
  obtain ⟨hc0, hc1, hc2, hc3⟩ := hc
  obtain ⟨X, hX⟩ : ∃ X : World, X = (w.alloc (.cells C.toArray 28)) := ⟨_, rfl⟩
  have hXb : Seal (Below w.heap.size w X) := ⟨by rw [hX]; exact (Below.refl _ w).alloc (Nat.le_refl _) _⟩
  have hXn : Seal (X.heap[w.heap.size]? = some (.cells C.toArray 28 (0, 0))) := ⟨by rw [hX]; exact heap_alloc_new w _⟩
  have k0 : X.cell? ⟨w.heap.size, 0, none⟩ = some (.int .i64 L) := by rw [cell_of_row _ _ _ _ _ _ hXn.out]; simpa using hc0
  have k1 : X.cell? ⟨w.heap.size, 1, none⟩ = some (.int .i64 K) := by rw [cell_of_row _ _ _ _ _ _ hXn.out]; simpa using hc1
  have k2 : X.cell? ⟨w.heap.size, 2, none⟩ = some (.int .i64 P) := by rw [cell_of_row _ _ _ _ _ _ hXn.out]; simpa using hc2
  have k3 : X.cell? ⟨w.heap.size, 3, none⟩ = some (.int .i64 Q) := by rw [cell_of_row _ _ _ _ _ _ hXn.out]; simpa using hc3
  go_enter Tryz.func59, Tryz.ntmps59
  go_wp2_with fail
  rw [← hX]
  clear hX hc0 hc1 hc2 hc3
  go_quiet ((fail))
  all_goals
    go_wp2
    go_ret
    exact ⟨rfl, hXb.out.os, hXb.out.tape, hXb.out.output, hXb.out.size, hXb.out.block⟩
set_option maxHeartbeats 1000000 in
theorem rocheck_key (L K P Q : Int) (C : List Value) (w : World)
    (hc : RetHead C L K P Q) (hl : decide (L < 0) = false) (hm : decide (64 ≤ L) = false) (HA : Seal (vd K = false)) :
    Calls Tryz.prog 59 #[.agg C.toArray] w fun e w' => e = .returned (.int .i64 160) ∧ Below w.heap.size w w' := by
  obtain ⟨hc0, hc1, hc2, hc3⟩ := hc
  obtain ⟨X, hX⟩ : ∃ X : World, X = (w.alloc (.cells C.toArray 28)) := ⟨_, rfl⟩
  have hXb : Seal (Below w.heap.size w X) := ⟨by rw [hX]; exact (Below.refl _ w).alloc (Nat.le_refl _) _⟩
  have hXn : Seal (X.heap[w.heap.size]? = some (.cells C.toArray 28 (0, 0))) := ⟨by rw [hX]; exact heap_alloc_new w _⟩
  have k0 : X.cell? ⟨w.heap.size, 0, none⟩ = some (.int .i64 L) := by rw [cell_of_row _ _ _ _ _ _ hXn.out]; simpa using hc0
  have k1 : X.cell? ⟨w.heap.size, 1, none⟩ = some (.int .i64 K) := by rw [cell_of_row _ _ _ _ _ _ hXn.out]; simpa using hc1
  have k2 : X.cell? ⟨w.heap.size, 2, none⟩ = some (.int .i64 P) := by rw [cell_of_row _ _ _ _ _ _ hXn.out]; simpa using hc2
  have k3 : X.cell? ⟨w.heap.size, 3, none⟩ = some (.int .i64 Q) := by rw [cell_of_row _ _ _ _ _ _ hXn.out]; simpa using hc3
  go_enter Tryz.func59, Tryz.ntmps59
  go_wp2_with fail
  rw [← hX]
  clear hX hc0 hc1 hc2 hc3
  go_quiet ((go_at_call 82; exact Calls.quiet_of_same ((rvalid_at K false _ HA.out).mono fun _ _ h => ⟨h.1, h.2.symm⟩)))
  all_goals
    go_wp2
    go_ret
    exact ⟨rfl, hXb.out.os, hXb.out.tape, hXb.out.output, hXb.out.size, hXb.out.block⟩
set_option maxHeartbeats 1000000 in
theorem rocheck_toa (L K P Q : Int) (C : List Value) (w : World)
    (hc : RetHead C L K P Q) (hl : decide (L < 0) = false) (hm : decide (64 ≤ L) = false) (HA : Seal (vd K = true)) (HB : Seal (vd P = false)) :
    Calls Tryz.prog 59 #[.agg C.toArray] w fun e w' => e = .returned (.int .i64 160) ∧ Below w.heap.size w w' := by
  obtain ⟨hc0, hc1, hc2, hc3⟩ := hc
  obtain ⟨X, hX⟩ : ∃ X : World, X = (w.alloc (.cells C.toArray 28)) := ⟨_, rfl⟩
  have hXb : Seal (Below w.heap.size w X) := ⟨by rw [hX]; exact (Below.refl _ w).alloc (Nat.le_refl _) _⟩
  have hXn : Seal (X.heap[w.heap.size]? = some (.cells C.toArray 28 (0, 0))) := ⟨by rw [hX]; exact heap_alloc_new w _⟩
  have k0 : X.cell? ⟨w.heap.size, 0, none⟩ = some (.int .i64 L) := by rw [cell_of_row _ _ _ _ _ _ hXn.out]; simpa using hc0
  have k1 : X.cell? ⟨w.heap.size, 1, none⟩ = some (.int .i64 K) := by rw [cell_of_row _ _ _ _ _ _ hXn.out]; simpa using hc1
  have k2 : X.cell? ⟨w.heap.size, 2, none⟩ = some (.int .i64 P) := by rw [cell_of_row _ _ _ _ _ _ hXn.out]; simpa using hc2
  have k3 : X.cell? ⟨w.heap.size, 3, none⟩ = some (.int .i64 Q) := by rw [cell_of_row _ _ _ _ _ _ hXn.out]; simpa using hc3
  go_enter Tryz.func59, Tryz.ntmps59
  go_wp2_with fail
  rw [← hX]
  clear hX hc0 hc1 hc2 hc3
  go_quiet ((go_at_call 82; exact Calls.quiet_of_same ((rvalid_at _ _ _ (Seal.out (by assumption))).mono fun _ _ h => ⟨h.1, h.2.symm⟩)))
  all_goals
    go_wp2
    go_ret
    exact ⟨rfl, hXb.out.os, hXb.out.tape, hXb.out.output, hXb.out.size, hXb.out.block⟩
set_option maxHeartbeats 1000000 in
theorem rocheck_tob (L K P Q : Int) (C : List Value) (w : World)
    (hc : RetHead C L K P Q) (hl : decide (L < 0) = false) (hm : decide (64 ≤ L) = false) (HA : Seal (vd K = true)) (HB : Seal (vd P = true)) (HC : Seal (vd Q = false)) :
    Calls Tryz.prog 59 #[.agg C.toArray] w fun e w' => e = .returned (.int .i64 160) ∧ Below w.heap.size w w' := by
  obtain ⟨hc0, hc1, hc2, hc3⟩ := hc
  obtain ⟨X, hX⟩ : ∃ X : World, X = (w.alloc (.cells C.toArray 28)) := ⟨_, rfl⟩
  have hXb : Seal (Below w.heap.size w X) := ⟨by rw [hX]; exact (Below.refl _ w).alloc (Nat.le_refl _) _⟩
  have hXn : Seal (X.heap[w.heap.size]? = some (.cells C.toArray 28 (0, 0))) := ⟨by rw [hX]; exact heap_alloc_new w _⟩
  have k0 : X.cell? ⟨w.heap.size, 0, none⟩ = some (.int .i64 L) := by rw [cell_of_row _ _ _ _ _ _ hXn.out]; simpa using hc0
  have k1 : X.cell? ⟨w.heap.size, 1, none⟩ = some (.int .i64 K) := by rw [cell_of_row _ _ _ _ _ _ hXn.out]; simpa using hc1
  have k2 : X.cell? ⟨w.heap.size, 2, none⟩ = some (.int .i64 P) := by rw [cell_of_row _ _ _ _ _ _ hXn.out]; simpa using hc2
  have k3 : X.cell? ⟨w.heap.size, 3, none⟩ = some (.int .i64 Q) := by rw [cell_of_row _ _ _ _ _ _ hXn.out]; simpa using hc3
  go_enter Tryz.func59, Tryz.ntmps59
  go_wp2_with fail
  rw [← hX]
  clear hX hc0 hc1 hc2 hc3
  go_quiet ((go_at_call 82; exact Calls.quiet_of_same ((rvalid_at _ _ _ (Seal.out (by assumption))).mono fun _ _ h => ⟨h.1, h.2.symm⟩)))
  all_goals
    go_wp2
    go_ret
    exact ⟨rfl, hXb.out.os, hXb.out.tape, hXb.out.output, hXb.out.size, hXb.out.block⟩

set_option maxHeartbeats 4000000 in
theorem rocheck_tag (L K P Q : Int) (T : Bytes) (t : Bool) (C : List Value) (w : World) (hG : Glob w)
    (hok : ∀ n ∈ [L, K, P, Q], -9223372036854775808 ≤ n ∧ n ≤ 9223372036854775807) (hT : T.length = 32) (ht : (T == rtag L K P Q) = t)
    (hC : C = retC L K P Q T) (hl : decide (L < 0) = false) (hm : decide (64 ≤ L) = false) (HA : Seal (vd K = true)) (HB : Seal (vd P = true)) (HC : Seal (vd Q = true)) :
    Calls Tryz.prog 59 #[.agg C.toArray] w fun e w' => e = .returned (.int .i64 (if t = true then 0 else 160)) ∧ Below w.heap.size w w' := by
  have H1 : Seal ((Tryz.prog.info? 28).map (·.size) = some C.length) := ⟨by rw [hC]; exact retC_info hT⟩
  have H2 : Seal (C.length = 36) := ⟨by rw [hC]; exact retC_len hT⟩
  have H3 : Seal (∀ u ∈ C, u.oneCell' = true) := ⟨by rw [hC]; exact retC_one _ _ _ _ _⟩
  obtain ⟨X, hX⟩ : ∃ X : World, X = (w.alloc (.cells C.toArray 28)) := ⟨_, rfl⟩
  have hXb : Seal (Below w.heap.size w X) := ⟨by rw [hX]; exact (Below.refl _ w).alloc (Nat.le_refl _) _⟩
  have hXn : Seal (X.heap[w.heap.size]? = some (.cells C.toArray 28 (0, 0))) := ⟨by rw [hX]; exact heap_alloc_new w _⟩
  have hXr : X.rangeAt w.heap.size 0 C := rangeAt_row hXn.out
  have hXd : X.rangeAt w.heap.size 4 (T.map B) := by
    have := rangeAt_drop hXr 4
    rw [hC] at this
    simpa [retC] using this
  have k0 : X.cell? ⟨w.heap.size, 0, none⟩ = some (.int .i64 L) := by rw [cell_of_row _ _ _ _ _ _ hXn.out, hC]; rfl
  have k1 : X.cell? ⟨w.heap.size, 1, none⟩ = some (.int .i64 K) := by rw [cell_of_row _ _ _ _ _ _ hXn.out, hC]; rfl
  have k2 : X.cell? ⟨w.heap.size, 2, none⟩ = some (.int .i64 P) := by rw [cell_of_row _ _ _ _ _ _ hXn.out, hC]; rfl
  have k3 : X.cell? ⟨w.heap.size, 3, none⟩ = some (.int .i64 Q) := by rw [cell_of_row _ _ _ _ _ _ hXn.out, hC]; rfl
  have HT : Seal (∀ W : World, Glob W → Calls Tryz.prog 83 #[.agg C.toArray] W fun e w' => e = .returned (.agg ((rtag L K P Q).map B).toArray) ∧ Below W.heap.size W w') :=
    ⟨fun W hGW => rtag_any L K P Q C W hGW hok (by rw [hC]; exact retC_head _ _ _ _ _) H1 H2 H3⟩
  have HGX : Seal (Glob X) := ⟨hG.below hXb.out⟩
  have heq : ∀ W, (Op.equalIn 10000 26 (.agg (T.map B).toArray) (.agg ((rtag L K P Q).map B).toArray)).run Tryz.prog W = .ok t W := fun W => by rw [← ht]; exact eqDig _ _ hT (sha_length _) W
  have i1 := dg_info T hT
  have i2 := H1.out
  have ut := Tryz.underlying26
  have u2 := Tryz.underlying28
  clear hok hG ht hC H1 H2 H3 hXn
  generalize rtag L K P Q = RT at *
  go_enter Tryz.func59, Tryz.ntmps59
  go_wp2_with fail
  rw [← hX]
  clear hX
  refine wp_region_held_drew (S := fun w' => w'.cell? ⟨w.heap.size, 0, none⟩ = some (.int .i64 L) ∧ w'.cell? ⟨w.heap.size, 1, none⟩ = some (.int .i64 K) ∧ w'.cell? ⟨w.heap.size, 2, none⟩ = some (.int .i64 P) ∧ w'.cell? ⟨w.heap.size, 3, none⟩ = some (.int .i64 Q) ∧ w'.rangeAt w.heap.size 4 (T.map B) ∧ w'.rangeAt w.heap.size 0 C) (by kernel_rfl) ⟨k0, k1, k2, k3, hXd, hXr⟩ (fun hHeld => ?_)
  refine take_h 0 ?_ rfl (by kernel_rfl) (by kernel_rfl) (by kernel_rfl) (fun _ _ _ h => h) (Or.inl ⟨by kernel_rfl, ?_⟩) (by assumption) ?_
  rotate_left
  · (intro w hSw; (try dsimp only at hSw); go_simp; try (with_reducible rfl))
  try simp only [Act.put, List.setIfInBounds_toArray, List.set_cons_zero, List.set_cons_succ]
  refine take_h 1 ?_ rfl (by kernel_rfl) (by kernel_rfl) (by kernel_rfl) (fun _ _ _ h => h) (Or.inl ⟨by kernel_rfl, ?_⟩) (by assumption) ?_
  rotate_left
  · (intro w hSw; (try dsimp only at hSw); go_simp; try (with_reducible rfl))
  try simp only [Act.put, List.setIfInBounds_toArray, List.set_cons_zero, List.set_cons_succ]
  refine take_h 2 ?_ rfl (by kernel_rfl) (by kernel_rfl) (by kernel_rfl) (fun _ _ _ h => h) (Or.inl ⟨by kernel_rfl, ?_⟩) (by assumption) ?_
  rotate_left
  · (intro w hSw; (try dsimp only at hSw); go_simp; try (with_reducible rfl))
  try simp only [Act.put, List.setIfInBounds_toArray, List.set_cons_zero, List.set_cons_succ]
  refine take_h 3 ?_ rfl (by kernel_rfl) (by kernel_rfl) (by kernel_rfl) (fun _ _ _ h => h) (Or.inl ⟨by kernel_rfl, ?_⟩) (by assumption) ?_
  rotate_left
  · (intro w hSw; (try dsimp only at hSw); go_simp; try (with_reducible rfl))
  try simp only [Act.put, List.setIfInBounds_toArray, List.set_cons_zero, List.set_cons_succ]
  refine take_h 4 ?_ rfl (by kernel_rfl) (by kernel_rfl) (by kernel_rfl) (fun _ _ _ h => h) (Or.inl ⟨by kernel_rfl, ?_⟩) (by assumption) ?_
  rotate_left
  · (intro w hSw; (try dsimp only at hSw); go_simp; try (with_reducible rfl))
  try simp only [Act.put, List.setIfInBounds_toArray, List.set_cons_zero, List.set_cons_succ]
  refine take_h 5 ?_ rfl (by kernel_rfl) (by kernel_rfl) (by kernel_rfl) (fun _ _ _ h => h) (Or.inl ⟨by kernel_rfl, ?_⟩) (by assumption) ?_
  rotate_left
  · (intro w hSw; (try dsimp only at hSw); go_simp; try (with_reducible rfl))
  try simp only [Act.put, List.setIfInBounds_toArray, List.set_cons_zero, List.set_cons_succ]
  refine take_h 6 ?_ rfl (by kernel_rfl) (by kernel_rfl) (by kernel_rfl) (fun _ _ _ h => h) (Or.inl ⟨by kernel_rfl, ?_⟩) (by assumption) ?_
  rotate_left
  · (intro w hSw; (try dsimp only at hSw); go_simp; try (with_reducible rfl))
  try simp only [Act.put, List.setIfInBounds_toArray, List.set_cons_zero, List.set_cons_succ]
  refine take_h 7 ?_ rfl (by kernel_rfl) (by kernel_rfl) (by kernel_rfl) (fun _ _ _ h => h) (Or.inl ⟨by kernel_rfl, ?_⟩) (by assumption) ?_
  rotate_left
  · (intro w hSw; (try dsimp only at hSw); go_simp; try (with_reducible rfl))
  try simp only [Act.put, List.setIfInBounds_toArray, List.set_cons_zero, List.set_cons_succ]
  refine take_h 8 ?_ rfl (by kernel_rfl) (by kernel_rfl) (by kernel_rfl) (fun _ _ _ h => h) (Or.inl ⟨by kernel_rfl, ?_⟩) (by assumption) ?_
  rotate_left
  · (intro w hSw; (try dsimp only at hSw); go_simp; try (with_reducible rfl))
  try simp only [Act.put, List.setIfInBounds_toArray, List.set_cons_zero, List.set_cons_succ]
  refine take_h 9 ?_ rfl (by kernel_rfl) (by kernel_rfl) (by kernel_rfl) (fun _ _ _ h => h) (Or.inl ⟨by kernel_rfl, ?_⟩) (by assumption) ?_
  rotate_left
  · (intro w hSw; (try dsimp only at hSw); go_simp; try (with_reducible rfl))
  try simp only [Act.put, List.setIfInBounds_toArray, List.set_cons_zero, List.set_cons_succ]
  refine take_h 10 ?_ rfl (by kernel_rfl) (by kernel_rfl) (by kernel_rfl) (fun _ _ _ h => h) (Or.inl ⟨by kernel_rfl, ?_⟩) (by assumption) ?_
  rotate_left
  · (intro w hSw; (try dsimp only at hSw); go_simp; try (with_reducible rfl))
  try simp only [Act.put, List.setIfInBounds_toArray, List.set_cons_zero, List.set_cons_succ]
  refine call_h 11 rfl (by kernel_rfl) 82 #[.int .i64 K] (by kernel_rfl) (by go_simp) ?_
  refine (rvalid_at K true _ HA.out).mono ?_
  rintro e w' ⟨rfl, rfl⟩
  refine ⟨_, rfl, by assumption, fun _ => ?_⟩
  try simp only [Act.put, List.setIfInBounds_toArray, List.set_cons_zero, List.set_cons_succ]
  refine take_h 12 ?_ rfl (by kernel_rfl) (by kernel_rfl) (by kernel_rfl) (fun _ _ _ h => h) (Or.inl ⟨by kernel_rfl, ?_⟩) (by assumption) ?_
  rotate_left
  · (intro w hSw; (try dsimp only at hSw); go_simp; try (with_reducible rfl))
  try simp only [Act.put, List.setIfInBounds_toArray, List.set_cons_zero, List.set_cons_succ]
  refine take_h 13 ?_ rfl (by kernel_rfl) (by kernel_rfl) (by kernel_rfl) (fun _ _ _ h => h) (Or.inl ⟨by kernel_rfl, ?_⟩) (by assumption) ?_
  rotate_left
  · (intro w hSw; (try dsimp only at hSw); go_simp; try (with_reducible rfl))
  try simp only [Act.put, List.setIfInBounds_toArray, List.set_cons_zero, List.set_cons_succ]
  refine take_h 14 ?_ rfl (by kernel_rfl) (by kernel_rfl) (by kernel_rfl) (fun _ _ _ h => h) (Or.inl ⟨by kernel_rfl, ?_⟩) (by assumption) ?_
  rotate_left
  · (intro w hSw; (try dsimp only at hSw); go_simp; try (with_reducible rfl))
  try simp only [Act.put, List.setIfInBounds_toArray, List.set_cons_zero, List.set_cons_succ]
  refine take_h 15 ?_ rfl (by kernel_rfl) (by kernel_rfl) (by kernel_rfl) (fun _ _ _ h => h) (Or.inl ⟨by kernel_rfl, ?_⟩) (by assumption) ?_
  rotate_left
  · (intro w hSw; (try dsimp only at hSw); go_simp; try (with_reducible rfl))
  try simp only [Act.put, List.setIfInBounds_toArray, List.set_cons_zero, List.set_cons_succ]
  refine take_h 16 ?_ rfl (by kernel_rfl) (by kernel_rfl) (by kernel_rfl) (fun _ _ _ h => h) (Or.inl ⟨by kernel_rfl, ?_⟩) (by assumption) ?_
  rotate_left
  · (intro w hSw; (try dsimp only at hSw); go_simp; try (with_reducible rfl))
  try simp only [Act.put, List.setIfInBounds_toArray, List.set_cons_zero, List.set_cons_succ]
  refine take_h 17 ?_ rfl (by kernel_rfl) (by kernel_rfl) (by kernel_rfl) (fun _ _ _ h => h) (Or.inl ⟨by kernel_rfl, ?_⟩) (by assumption) ?_
  rotate_left
  · (intro w hSw; (try dsimp only at hSw); go_simp; try (with_reducible rfl))
  try simp only [Act.put, List.setIfInBounds_toArray, List.set_cons_zero, List.set_cons_succ]
  refine call_h 18 rfl (by kernel_rfl) 82 #[.int .i64 P] (by kernel_rfl) (by go_simp) ?_
  refine (rvalid_at P true _ HB.out).mono ?_
  rintro e w' ⟨rfl, rfl⟩
  refine ⟨_, rfl, by assumption, fun _ => ?_⟩
  try simp only [Act.put, List.setIfInBounds_toArray, List.set_cons_zero, List.set_cons_succ]
  refine take_h 19 ?_ rfl (by kernel_rfl) (by kernel_rfl) (by kernel_rfl) (fun _ _ _ h => h) (Or.inl ⟨by kernel_rfl, ?_⟩) (by assumption) ?_
  rotate_left
  · (intro w hSw; (try dsimp only at hSw); go_simp; try (with_reducible rfl))
  try simp only [Act.put, List.setIfInBounds_toArray, List.set_cons_zero, List.set_cons_succ]
  refine take_h 20 ?_ rfl (by kernel_rfl) (by kernel_rfl) (by kernel_rfl) (fun _ _ _ h => h) (Or.inl ⟨by kernel_rfl, ?_⟩) (by assumption) ?_
  rotate_left
  · (intro w hSw; (try dsimp only at hSw); go_simp; try (with_reducible rfl))
  try simp only [Act.put, List.setIfInBounds_toArray, List.set_cons_zero, List.set_cons_succ]
  refine take_h 21 ?_ rfl (by kernel_rfl) (by kernel_rfl) (by kernel_rfl) (fun _ _ _ h => h) (Or.inl ⟨by kernel_rfl, ?_⟩) (by assumption) ?_
  rotate_left
  · (intro w hSw; (try dsimp only at hSw); go_simp; try (with_reducible rfl))
  try simp only [Act.put, List.setIfInBounds_toArray, List.set_cons_zero, List.set_cons_succ]
  refine take_h 22 ?_ rfl (by kernel_rfl) (by kernel_rfl) (by kernel_rfl) (fun _ _ _ h => h) (Or.inl ⟨by kernel_rfl, ?_⟩) (by assumption) ?_
  rotate_left
  · (intro w hSw; (try dsimp only at hSw); go_simp; try (with_reducible rfl))
  try simp only [Act.put, List.setIfInBounds_toArray, List.set_cons_zero, List.set_cons_succ]
  refine take_h 23 ?_ rfl (by kernel_rfl) (by kernel_rfl) (by kernel_rfl) (fun _ _ _ h => h) (Or.inl ⟨by kernel_rfl, ?_⟩) (by assumption) ?_
  rotate_left
  · (intro w hSw; (try dsimp only at hSw); go_simp; try (with_reducible rfl))
  try simp only [Act.put, List.setIfInBounds_toArray, List.set_cons_zero, List.set_cons_succ]
  refine take_h 24 ?_ rfl (by kernel_rfl) (by kernel_rfl) (by kernel_rfl) (fun _ _ _ h => h) (Or.inl ⟨by kernel_rfl, ?_⟩) (by assumption) ?_
  rotate_left
  · (intro w hSw; (try dsimp only at hSw); go_simp; try (with_reducible rfl))
  try simp only [Act.put, List.setIfInBounds_toArray, List.set_cons_zero, List.set_cons_succ]
  refine call_h 25 rfl (by kernel_rfl) 82 #[.int .i64 Q] (by kernel_rfl) (by go_simp) ?_
  refine (rvalid_at Q true _ HC.out).mono ?_
  rintro e w' ⟨rfl, rfl⟩
  refine ⟨_, rfl, by assumption, fun _ => ?_⟩
  try simp only [Act.put, List.setIfInBounds_toArray, List.set_cons_zero, List.set_cons_succ]
  refine take_h 26 ?_ rfl (by kernel_rfl) (by kernel_rfl) (by kernel_rfl) (fun _ _ _ h => h) (Or.inl ⟨by kernel_rfl, ?_⟩) (by assumption) ?_
  rotate_left
  · (intro w hSw; (try dsimp only at hSw); go_simp; try (with_reducible rfl))
  try simp only [Act.put, List.setIfInBounds_toArray, List.set_cons_zero, List.set_cons_succ]
  refine take_h 27 ?_ rfl (by kernel_rfl) (by kernel_rfl) (by kernel_rfl) (fun _ _ _ h => h) (Or.inl ⟨by kernel_rfl, ?_⟩) (by assumption) ?_
  rotate_left
  · (intro w hSw; (try dsimp only at hSw); go_simp; try (with_reducible rfl))
  try simp only [Act.put, List.setIfInBounds_toArray, List.set_cons_zero, List.set_cons_succ]
  refine take_h 28 ?_ rfl (by kernel_rfl) (by kernel_rfl) (by kernel_rfl) (fun _ _ _ h => h) (Or.inl ⟨by kernel_rfl, ?_⟩) (by assumption) ?_
  rotate_left
  · (intro w hSw; (try dsimp only at hSw); go_simp; try (with_reducible rfl))
  try simp only [Act.put, List.setIfInBounds_toArray, List.set_cons_zero, List.set_cons_succ]
  refine take_h 29 ?_ rfl (by kernel_rfl) (by kernel_rfl) (by kernel_rfl) (fun _ _ _ h => h) (Or.inl ⟨by kernel_rfl, ?_⟩) (by assumption) ?_
  rotate_left
  · (intro w hSw; (try dsimp only at hSw); go_simp; try (with_reducible rfl))
  try simp only [Act.put, List.setIfInBounds_toArray, List.set_cons_zero, List.set_cons_succ]
  refine take_h 30 _ rfl (by kernel_rfl) (by kernel_rfl) (by kernel_rfl) (fun _ _ _ h => h) (yieldsIf_load_mid (by kernel_rfl) 26 (.tmp 32) rfl w.heap.size 4 rfl (T.map B) _ (fun w hSw => hSw.2.2.2.2.1) ut rfl i1) (by assumption) ?_
  try simp only [Act.put, List.setIfInBounds_toArray, List.set_cons_zero, List.set_cons_succ]
  refine take_h 31 _ rfl (by kernel_rfl) (by kernel_rfl) (by kernel_rfl) (fun _ _ _ h => h) (yieldsIf_load_mid (by kernel_rfl) 28 (.tmp 1) rfl w.heap.size 0 rfl C _ (fun w hSw => hSw.2.2.2.2.2) u2 rfl i2) (by assumption) ?_
  try simp only [Act.put, List.setIfInBounds_toArray, List.set_cons_zero, List.set_cons_succ]
  refine call_h 32 rfl (by kernel_rfl) 83 #[.agg C.toArray] (by kernel_rfl) (by go_simp) ?_
  refine (HT.out X.drew ⟨HGX.out.start, HGX.out.nums⟩).mono ?_
  rintro e w1 ⟨rfl, hb1⟩
  have hb2 : Below X.heap.size X w1 := ⟨hb1.os, hb1.tape, hb1.output, hb1.size, hb1.block⟩
  have HB1 : Seal (Below w.heap.size w w1) := ⟨hXb.out.trans (hb2.mono hXb.out.size)⟩
  refine ⟨_, rfl, ⟨cell_later hb2 k0, cell_later hb2 k1, cell_later hb2 k2, cell_later hb2 k3, rangeAt_below' hXd hb2, rangeAt_below' hXr hb2⟩, fun hHeld2 => ?_⟩
  clear hHeld hb1 hb2 hXr hXd k0 k1 k2 k3
  try simp only [Act.put, List.setIfInBounds_toArray, List.set_cons_zero, List.set_cons_succ]
  refine take_h 33 ?_ rfl (by kernel_rfl) (by kernel_rfl) (by kernel_rfl) (fun _ _ _ h => h) (Or.inl ⟨by kernel_rfl, ?_⟩) (by assumption) ?_
  rotate_left
  · (intro w hSw; (try dsimp only at hSw); go_simp; try (with_reducible rfl))
  try simp only [Act.put, List.setIfInBounds_toArray, List.set_cons_zero, List.set_cons_succ]
  refine take_h 34 ?_ rfl (by kernel_rfl) (by kernel_rfl) (by kernel_rfl) (fun _ _ _ h => h) (Or.inl ⟨by kernel_rfl, ?_⟩) (by assumption) ?_
  rotate_left
  · (intro w hSw; (try dsimp only at hSw); go_simp; try (with_reducible rfl))
  try simp only [Act.put, List.setIfInBounds_toArray, List.set_cons_zero, List.set_cons_succ]
  refine wpAnyH_done (by kernel_rfl) ?_ _
  clear hHeld2
  cases t
  all_goals
    go_wp2
    go_ret
    exact ⟨rfl, HB1.out⟩
theorem rocheck_any (L K P Q : Int) (T : Bytes) (t : Bool) (w : World) (hG : Glob w) (hL : I64 L) (hK : I64 K) (hP : I64 P) (hQ : I64 Q) (hT : T.length = 32) (ht : chkB L K P Q T = t) :
    Calls Tryz.prog 59 #[.agg (retC L K P Q T).toArray] w fun e w' => e = .returned (.int .i64 (if t = true then 0 else 160)) ∧ Below w.heap.size w w' := by
  have hh := retC_head L K P Q T
  subst ht
  unfold chkB
  by_cases h1 : L < 0
  · rw [decide_eq_false (show ¬ 0 ≤ L by omega)]
    exact rocheck_low L K P Q _ w hh h1
  · have hl : decide (L < 0) = false := decide_eq_false h1
    rw [decide_eq_true (show 0 ≤ L by omega)]
    by_cases h2 : 64 ≤ L
    · rw [decide_eq_false (show ¬ L < 64 by omega)]
      exact rocheck_high L K P Q _ w hh hl h2
    · have hm : decide (64 ≤ L) = false := decide_eq_false h2
      rw [decide_eq_true (show L < 64 by omega)]
      cases h3 : vd K with
      | false => exact rocheck_key L K P Q _ w hh hl hm ⟨h3⟩
      | true =>
        cases h4 : vd P with
        | false => exact rocheck_toa L K P Q _ w hh hl hm ⟨h3⟩ ⟨h4⟩
        | true =>
          cases h5 : vd Q with
          | false => exact rocheck_tob L K P Q _ w hh hl hm ⟨h3⟩ ⟨h4⟩ ⟨h5⟩
          | true =>
            have hok : ∀ n ∈ [L, K, P, Q], -9223372036854775808 ≤ n ∧ n ≤ 9223372036854775807 := by
              intro n hn
              simp only [List.mem_cons, List.not_mem_nil, or_false] at hn
              rcases hn with rfl | rfl | rfl | rfl
              · exact hL
              · exact hK
              · exact hP
              · exact hQ
            exact rocheck_tag L K P Q T (T == rtag L K P Q) _ w hG hok hT rfl rfl hl hm ⟨h3⟩ ⟨h4⟩ ⟨h5⟩

end Frk
