/- Hand-overs: between, formed, slotOf. -/
import Derived.Test.YtllbjakfjpjfnaaGreatDoorVxgGen
import Derived.Test.YtllbjakfjpjfnaaGreatDoorVxgEqd
import Derived.Test.YtllbjakfjpjfnaaGreatDoorVxHaa
import Derived.Test.YtllbjakfjpjfnaaGreatDoorVxgRsg
import Derived.BigQuiet
import Derived.WalkSpells
namespace Frk
open Go Go.RowKit Go.Proofs
set_option maxRecDepth 100000

/-- a hand-over -/
structure Hd where
  (L A R leg fr to mn : Int)
  T : Bytes
  (tm E S : Int)

/-- its cells -/
def Hd.C (h : Hd) : List Value := ([.int .i64 h.L, .int .i64 h.A, .int .i64 h.R, .int .i64 h.leg, .int .i64 h.fr, .int .i64 h.to, .int .i64 h.mn] ++ h.T.map B) ++ [.int .i64 h.tm, .int .i64 h.E, .int .i64 h.S]
structure Hd.ok (h : Hd) : Prop where
  t32 : h.T.length = 32
  iL : I64 h.L
  iA : I64 h.A
  iR : I64 h.R
  ileg : I64 h.leg
  ifr : I64 h.fr
  ito : I64 h.to
  imn : I64 h.mn
  itm : I64 h.tm

/-- the cells of a hand-over that lies in a block -/
structure HdAt (w : World) (g : Nat) (h : Hd) : Prop where
  c0 : w.cell? ⟨g, 0, none⟩ = some (.int .i64 h.L)
  c1 : w.cell? ⟨g, 1, none⟩ = some (.int .i64 h.A)
  c2 : w.cell? ⟨g, 2, none⟩ = some (.int .i64 h.R)
  c3 : w.cell? ⟨g, 3, none⟩ = some (.int .i64 h.leg)
  c4 : w.cell? ⟨g, 4, none⟩ = some (.int .i64 h.fr)
  c5 : w.cell? ⟨g, 5, none⟩ = some (.int .i64 h.to)
  c6 : w.cell? ⟨g, 6, none⟩ = some (.int .i64 h.mn)
  c39 : w.cell? ⟨g, 39, none⟩ = some (.int .i64 h.tm)
  c40 : w.cell? ⟨g, 40, none⟩ = some (.int .i64 h.E)
  c41 : w.cell? ⟨g, 41, none⟩ = some (.int .i64 h.S)
  txt : w.rangeAt g 7 (h.T.map B)
def btB (x lo hi : Int) : Bool := decide (lo ≤ x) && decide (x ≤ hi)
/-- is a hand-over in form? -/
def Hd.fm (h : Hd) : Bool := ((btB h.A 0 2097151 && btB h.R 0 2097151 && btB h.tm 0 2097151) && (btB h.fr 0 23 && btB h.to (-1) 23 && (h.fr != h.to))) && (btB h.L 0 63 && btB h.leg 0 8 && btB h.mn 0 64)

/-- are two hand-overs equal? -/
def hdB (a b : Hd) : Bool := (a.L == b.L && (a.A == b.A && a.R == b.R)) && (a.leg == b.leg && (a.fr == b.fr && (a.to == b.to && (a.mn == b.mn && (a.T == b.T && (a.tm == b.tm && (a.E == b.E && a.S == b.S)))))))

/-- what Ints returns: a list that bears these leaves -/
def IntsPost (xs : List Lf) (k : Nat) (w : World) (e : Ending) (w' : World) : Prop :=
  ∃ g c, e = .returned (.agg #[.int .i64 3, .int .i64 0, .string ByteArray.empty, .slice (some ⟨g, 0, none⟩) k c]) ∧ Seal (k ≤ c ∧ g < w'.heap.size ∧ LeavesAt w' g 0 xs ∧ w'.ownsRow w.heap.size 51 4 (.slice (some ⟨g, 0, none⟩) k c) k (xs.flatMap Lf.cells)) ∧ Below w.heap.size w w'

set_option maxHeartbeats 4000000 in
theorem rints_any (g off k cap : Nat) (ns : List Int) (w : World) (hk : ns.length = k) (hkc : k ≤ cap) (hk0 : 0 < k) (hk9 : k ≤ 1000) (hc : ∀ j n, ns[j]? = some n → w.cell? ⟨g, off + j, none⟩ = some (.int .i64 n)) :
    Calls Tryz.prog 113 #[.slice (some ⟨g, off, none⟩) k cap] w (IntsPost (lfs ns) k w) := by
  have HK := Seal.mk hk
  have HC := Seal.mk hc
  have HKx : Seal ((ns.map Arg.i).length = k) := ⟨by rw [List.length_map]; exact hk⟩
  obtain ⟨i0, hi, hz0, hz1, hz2⟩ := info_parts info_val
  have HI := Seal.mk (And.intro hi (And.intro hz0 (And.intro hz1 hz2)))
  obtain ⟨Y, hY⟩ : ∃ Y : World, Y = w.alloc (.cells #[.int .i64 0, .int .i64 0, .string ByteArray.empty, .slice none 0 0] 51) := ⟨_, rfl⟩
  have hYb : Seal (Below w.heap.size w Y) := ⟨by rw [hY]; exact below_alloc _ _⟩
  have hYs : Y.heap.size = w.heap.size + 1 := by rw [hY, size_alloc]
  have HYs := Seal.mk hYs
  obtain ⟨X, hX⟩ : ∃ X : World, X = Y.alloc (.cells #[.int .i64 3, .int .i64 0, .string ByteArray.empty, .slice none 0 0] 51) := ⟨_, rfl⟩
  have hXn : Seal (X.heap[Y.heap.size]? = some (.cells #[.int .i64 3, .int .i64 0, .string ByteArray.empty, .slice none 0 0] 51)) := ⟨by rw [hX]; exact heap_alloc_new _ _⟩
  have hXb : Seal (Below Y.heap.size Y X) := ⟨by rw [hX]; exact below_alloc _ _⟩
  have hXY : Seal (X = (w.alloc (.cells #[.int .i64 0, .int .i64 0, .string ⟨#[]⟩, .slice none 0 0] 51)).alloc (.cells #[.int .i64 3, .int .i64 0, .string ⟨#[]⟩, .slice none 0 0] 51)) := ⟨by rw [hX, hY]; rfl⟩
  have HYr : Seal (Y.heap[w.heap.size]? = some (.cells #[.int .i64 0, .int .i64 0, .string ByteArray.empty, .slice none 0 0] 51 (0, 0))) := ⟨by rw [hY]; exact heap_alloc_new _ _⟩
  clear hk hc hi hz0 hz1 hz2 hY hX
  go_enter Tryz.func113, Tryz.ntmps113
  go_wp2
  rw [← hXY.out]
  rw [← hYs]
  clear hYs
  go_loopw [4] (fun i wr => ListRel (ns.map Arg.i) Y i wr) (fun i _ => k - (intOf i).toNat)
  case atStart => exact ⟨0, .slice none 0 0, Nat.zero_le _, rfl, hXn, ⟨World.ownsRow_nil _ _ _ _⟩, hXb⟩
  case round =>
    obtain ⟨j, v, hj, rfl, hrow, hown, hb⟩ := hrel
    rw [HKx.out] at hj
    have hBz := hb.out.size
    have hBs : Y.heap.size < wr.heap.size := (Array.getElem?_eq_some_iff.1 hrow.out).1
    have c3 : wr.cell? ⟨Y.heap.size, 3, none⟩ = some v := by rw [cell_of_row _ _ _ _ _ _ hrow.out]; rfl
    have hne : some Y.heap.size ≠ v.ownBlock := fun e => by have := (hown.out.lt _ e.symm).1; omega
    by_cases hlt : j < k
    · obtain ⟨n, hx⟩ : ∃ n, ns[j]? = some n := ⟨_, List.getElem?_eq_getElem (by rw [HK.out]; exact hlt)⟩
      have hcy : Y.cell? ⟨g, off + j, none⟩ = some (.int .i64 n) := (hYb.out.cell (p := ⟨g, off + j, none⟩) (block_lt_of_cell (HC.out j n hx))).trans (HC.out j n hx)
      have hcx : wr.cell? ⟨g, off + j, none⟩ = some (.int .i64 n) := (hb.out.cell (p := ⟨g, off + j, none⟩) (block_lt_of_cell hcy)).trans hcy
      have hx' : (ns.map Arg.i)[j]? = some (Arg.i n) := by rw [List.getElem?_map, hx]; rfl
      have HT := Seal.mk (leafCells_take (ns.map Arg.i) j (Arg.i n) hx')
      have hgb : g < Y.heap.size := block_lt_of_cell hcy
      clear hx hx' hcy
      have q1 : (j : Int) < (k : Int) := by omega
      have q2 : (0 : Int) ≤ (j : Int) := by omega
      go_wp2_with fail
      refine wp_region_heldT 10 (S := fun w' => w'.cell? ⟨Y.heap.size, 3, none⟩ = some v ∧ w'.cell? ⟨g, off + j, none⟩ = some (.int .i64 n)) (by kernel_rfl) ⟨c3, hcx⟩ (fun hHeld => ?_)
      refine take_t 0 ?_ rfl (by kernel_rfl) (by kernel_rfl) (by kernel_rfl) (by kernel_rfl) (fun _ _ _ h => h) (Or.inl ⟨by kernel_rfl, ?_⟩) (by assumption) ?_
      rotate_left
      · (intro w hSw; (try dsimp only at hSw); go_simp; try (with_reducible rfl))
      try simp only [Act.put, List.setIfInBounds_toArray, List.set_cons_zero, List.set_cons_succ]
      refine take_t 1 ?_ rfl (by kernel_rfl) (by kernel_rfl) (by kernel_rfl) (by kernel_rfl) (fun _ _ _ h => h) (Or.inl ⟨by kernel_rfl, ?_⟩) (by assumption) ?_
      rotate_left
      · (intro w hSw; (try dsimp only at hSw); go_simp; try (with_reducible rfl))
      try simp only [Act.put, List.setIfInBounds_toArray, List.set_cons_zero, List.set_cons_succ]
      refine take_t 2 ?_ rfl (by kernel_rfl) (by kernel_rfl) (by kernel_rfl) (by kernel_rfl) (fun _ _ _ h => h) (Or.inl ⟨by kernel_rfl, ?_⟩) (by assumption) ?_
      rotate_left
      · (intro w hSw; (try dsimp only at hSw); go_simp; try (with_reducible rfl))
      try simp only [Act.put, List.setIfInBounds_toArray, List.set_cons_zero, List.set_cons_succ]
      refine take_t 3 ?_ rfl (by kernel_rfl) (by kernel_rfl) (by kernel_rfl) (by kernel_rfl) (fun _ _ _ h => h) (Or.inl ⟨by kernel_rfl, ?_⟩) (by assumption) ?_
      rotate_left
      · (intro w hSw; (try dsimp only at hSw); go_simp; try (with_reducible rfl))
      try simp only [Act.put, List.setIfInBounds_toArray, List.set_cons_zero, List.set_cons_succ]
      refine take_t 4 ?_ rfl (by kernel_rfl) (by kernel_rfl) (by kernel_rfl) (by kernel_rfl) (fun _ _ _ h => h) (Or.inl ⟨by kernel_rfl, ?_⟩) (by assumption) ?_
      rotate_left
      · (intro w hSw; (try dsimp only at hSw); go_simp; try (with_reducible rfl))
      try simp only [Act.put, List.setIfInBounds_toArray, List.set_cons_zero, List.set_cons_succ]
      refine take_t 5 ?_ rfl (by kernel_rfl) (by kernel_rfl) (by kernel_rfl) (by kernel_rfl) (fun _ _ _ h => h) (Or.inl ⟨by kernel_rfl, ?_⟩) (by assumption) ?_
      rotate_left
      · (intro w hSw; (try dsimp only at hSw); go_simp; try (with_reducible rfl))
      try simp only [Act.put, List.setIfInBounds_toArray, List.set_cons_zero, List.set_cons_succ]
      refine call_t 6 rfl (by kernel_rfl) 115 #[.int .i64 n] (by kernel_rfl) (by go_simp) ?_
      refine (rint_any n wr.drew).mono ?_
      rintro e w1 ⟨rfl, hb1⟩
      have hb2 : Below wr.heap.size wr w1 := ⟨hb1.os, hb1.tape, hb1.output, hb1.size, hb1.block⟩
      have HB1 : Seal (Below Y.heap.size Y w1) := ⟨hb.out.trans (hb2.mono hb.out.size)⟩
      have HR1 : Seal (w1.heap[Y.heap.size]? = some (.cells #[.int .i64 3, .int .i64 0, .string ByteArray.empty, v] 51)) := ⟨blk hb2 hBs hrow.out⟩
      have HO1 : Seal (w1.ownsRow (Y.heap.size + 1) 51 4 v j (leafCells ((ns.map Arg.i).take j))) := ⟨ownsRow_below hown.out hb2⟩
      refine ⟨_, rfl, ⟨cell_later hb2 c3, cell_later hb2 hcx⟩, fun hHeld2 => ?_⟩
      have hs1 : Y.heap.size < w1.heap.size := Nat.lt_of_lt_of_le hBs hb2.size
      clear hHeld hb1 hb2 c3 hcx
      try simp only [Act.put, List.setIfInBounds_toArray, List.set_cons_zero, List.set_cons_succ]
      refine oper_t 7 (.slice (some ⟨w1.heap.size, 0, none⟩) 1 1) (w1.alloc (.cells #[.int .i64 1, .int .i64 n, .string ByteArray.empty, .slice none 0 0] 51)) rfl (by kernel_rfl) (by kernel_rfl) (by go_simp) ⟨cell_allocd hHeld2.1 _, cell_allocd hHeld2.2 _⟩ (fun hHeld3 => ?_)
      clear hHeld2
      try simp only [Act.put, List.setIfInBounds_toArray, List.set_cons_zero, List.set_cons_succ]
      obtain ⟨g1, cap1, w2, hrun, hown1, hgrow1, hat, hlt1⟩ := run_append_lies (P := Tryz.prog) (w := w1.alloc (.cells #[.int .i64 1, .int .i64 n, .string ByteArray.empty, .slice none 0 0] 51)) 49 49 (Y.heap.size + 1) 51 i0 _ 4 56 Tryz.underlying49 HI.out.1 HI.out.2.1 HI.out.2.2.1 HI.out.2.2.2 rfl (by decide) v j (leafCells ((ns.map Arg.i).take j)) (HO1.out.alloc _) ⟨w1.heap.size, 0, none⟩ 1 1 (Lf.i n).cells rfl (World.news_of_block (heap_alloc_new w1 _)) (by simp [Lf.cells, Value.oneCell']) (by decide) (by unfold maxLen; omega) (by omega) (by simp; omega) _ rfl
      have hr2 : w2.heap[Y.heap.size]? = some (.cells #[.int .i64 3, .int .i64 0, .string ByteArray.empty, v] 51) := (hgrow1.block _ (by simp; omega) hne).trans ((Below.heap_alloc w1 _ _ hs1).trans HR1.out)
      have c1 : w2.cell? ⟨Y.heap.size, 3, none⟩ = some v := by rw [cell_of_row _ _ _ _ _ _ hr2]; rfl
      have f1 : w2.frozen? ⟨Y.heap.size, 3, none⟩ = false := frozen_of_row _ _ _ _ _ hr2
      have hgv : some g ≠ v.ownBlock := fun e => by have := (hown.out.lt _ e.symm).1; omega
      refine oper_t 8 (.slice (some ⟨g1, 0, none⟩) (j + 1) cap1) w2 rfl (by kernel_rfl) (by kernel_rfl) (exec_append (.tmp 13) (.tmp 19) 49 49 rfl _ _ _ rfl rfl (fun ty => hrun)) ⟨c1, (hgrow1.cell_far ⟨g, off + j, none⟩ (by simp; omega) hgv).trans hHeld3.2⟩ (fun hHeld4 => ?_)
      clear hHeld3
      try simp only [Act.put, List.setIfInBounds_toArray, List.set_cons_zero, List.set_cons_succ]
      refine take_t 9 ?_ rfl (by kernel_rfl) (by kernel_rfl) (by kernel_rfl) (by kernel_rfl) (fun _ _ _ h => h) (Or.inl ⟨by kernel_rfl, ?_⟩) (by assumption) ?_
      rotate_left
      · (intro w hSw; (try dsimp only at hSw); go_simp; try (with_reducible rfl))
      try simp only [Act.put, List.setIfInBounds_toArray, List.set_cons_zero, List.set_cons_succ]
      have HN := Seal.mk (ListRel.next (by rw [HKx.out]; exact hlt) HT.out HB1.out hr2 HO1.out hgrow1 hs1 hown1)
      refine last_t (w2.setCell ⟨Y.heap.size, 3, none⟩ (.slice (some ⟨g1, 0, none⟩) (j + 1) cap1)) rfl (by kernel_rfl) (by kernel_rfl) (by kernel_rfl) (by go_simp) ?_
      clear hHeld4 c1 f1
      go_wp2
      refine ⟨HN.out, ?_⟩
      simp only [intOf]; omega
    · obtain rfl : j = k := by omega
      obtain ⟨g2, cap2, rfl, hgY, hg2⟩ := hown.out.form hk0
      have hgY := (hown.out.lt g2 rfl).1
      have HA : Seal (LeavesAt wr g2 0 (lfs ns)) := ⟨fun q y hy r c hrc => by
        obtain ⟨n, hx, rfl⟩ : ∃ n, ns[q]? = some n ∧ Lf.i n = y := by
          unfold lfs at hy
          rw [List.getElem?_map] at hy
          cases h : ns[q]? with
          | none => rw [h] at hy; cases hy
          | some x => rw [h] at hy; exact ⟨x, rfl, by simpa using hy⟩
        have h1 := leafCells_at (ns.map Arg.i) q (Arg.i n) (by rw [List.getElem?_map, hx]; rfl) r c hrc
        have h2 := hown.out.cells (g := g2) rfl (q * 4 + r) c (by rw [List.take_of_length_le (by rw [HKx.out]; exact Nat.le_refl _)]; exact h1)
        rw [Addr.add_mid] at h2
        rw [Nat.add_assoc]; exact h2⟩
      have HQ : Seal (j ≤ cap2) := ⟨by
        rcases hown.out.2 with ⟨e, _⟩ | ⟨_, _, _, hv, _, _, hle, _⟩
        · cases e
        · cases hv; exact hle⟩
      have HOw : Seal (wr.ownsRow (w.heap.size + 1) 51 4 (.slice (some ⟨g2, 0, none⟩) j cap2) j ((lfs ns).flatMap Lf.cells)) := ⟨by
        have h1 := hown.out
        rw [List.take_of_length_le (by rw [HKx.out]; exact Nat.le_refl _)] at h1
        have e : leafCells (ns.map Arg.i) = (lfs ns).flatMap Lf.cells := by
          unfold leafCells lfs
          rw [List.flatMap_map, List.flatMap_map]
          rfl
        rw [e] at h1
        refine ⟨h1.1, ?_⟩
        rcases h1.2 with h | ⟨g3, c3', cu, hv, hb3, hrest⟩
        · exact .inl h
        · exact .inr ⟨g3, c3', cu, hv, by have := HYs.out; omega, hrest⟩⟩
      have c30 : wr.cell? ⟨Y.heap.size, 0, none⟩ = some (.int .i64 3) := by rw [cell_of_row _ _ _ _ _ _ hrow.out]; rfl
      have c31 : wr.cell? ⟨Y.heap.size, 1, none⟩ = some (.int .i64 0) := by rw [cell_of_row _ _ _ _ _ _ hrow.out]; rfl
      have c32 : wr.cell? ⟨Y.heap.size, 2, none⟩ = some (.string ByteArray.empty) := by rw [cell_of_row _ _ _ _ _ _ hrow.out]; rfl
      have HZ : Seal (wr.heap[w.heap.size]? = some (.cells #[.int .i64 0, .int .i64 0, .string ByteArray.empty, .slice none 0 0] 51 (0, 0))) := ⟨(hb.out.block _ (by have := HYs.out; omega)).trans HYr.out⟩
      have z0 : wr.cell? ⟨w.heap.size, 0, none⟩ = some (.int .i64 0) := by rw [cell_of_row _ _ _ _ _ _ HZ.out]; rfl
      have z1 : wr.cell? ⟨w.heap.size, 1, none⟩ = some (.int .i64 0) := by rw [cell_of_row _ _ _ _ _ _ HZ.out]; rfl
      have z2 : wr.cell? ⟨w.heap.size, 2, none⟩ = some (.string ByteArray.empty) := by rw [cell_of_row _ _ _ _ _ _ HZ.out]; rfl
      have z3 : wr.cell? ⟨w.heap.size, 3, none⟩ = some (.slice none 0 0) := by rw [cell_of_row _ _ _ _ _ _ HZ.out]; rfl
      have f0 : wr.frozen? ⟨w.heap.size, 0, none⟩ = false := frozen_of_row _ _ _ _ _ HZ.out
      have f1 : wr.frozen? ⟨w.heap.size, 1, none⟩ = false := frozen_of_row _ _ _ _ _ HZ.out
      have f2 : wr.frozen? ⟨w.heap.size, 2, none⟩ = false := frozen_of_row _ _ _ _ _ HZ.out
      have f3 : wr.frozen? ⟨w.heap.size, 3, none⟩ = false := frozen_of_row _ _ _ _ _ HZ.out
      have HBw : Seal (Below w.heap.size w wr) := ⟨hYb.out.trans (hb.out.mono hYb.out.size)⟩
      have hgw : g2 ≠ w.heap.size := by have := HYs.out; omega
      clear hrow hown hne HC hb hgY
      go_wp2
      have hr9 := heap_setCell_row (cs := [.int .i64 3, .int .i64 0, .string ByteArray.empty, .slice none 0 0]) (i := 3) (.slice (some ⟨g2, 0, none⟩) j cap2) (heap_setCell_row (cs := [.int .i64 3, .int .i64 0, .string ByteArray.empty, .slice none 0 0]) (i := 2) (.string ByteArray.empty) (heap_setCell_row (cs := [.int .i64 3, .int .i64 0, .string ByteArray.empty, .slice none 0 0]) (i := 1) (.int .i64 0) (heap_setCell_row (cs := [.int .i64 0, .int .i64 0, .string ByteArray.empty, .slice none 0 0]) (i := 0) (.int .i64 3) HZ.out)))
      have hot : ∀ k, k ≠ w.heap.size → ((((wr.setCell ⟨w.heap.size, 0, none⟩ (.int .i64 3)).setCell ⟨w.heap.size, 1, none⟩ (.int .i64 0)).setCell ⟨w.heap.size, 2, none⟩ (.string ByteArray.empty)).setCell ⟨w.heap.size, 3, none⟩ (.slice (some ⟨g2, 0, none⟩) j cap2)).heap[k]? = wr.heap[k]? := fun k hk =>
        (Below.heap_setCell _ _ _ k hk).trans ((Below.heap_setCell _ _ _ k hk).trans ((Below.heap_setCell _ _ _ k hk).trans (Below.heap_setCell _ _ _ k hk)))
      refine bodyPost_ret (results_cell_row (fn := Tryz.f113) rfl _ _ w.heap.size 51 #[.int .i64 3, .int .i64 0, .string ByteArray.empty, .slice (some ⟨g2, 0, none⟩) j cap2] (0, 0) _ rfl hr9 Tryz.underlying51 rfl (by kernel_rfl)) rfl ⟨g2, cap2, rfl, ⟨HQ.out, ?_, ?_, ?_⟩, ?_⟩
      · simpa using hg2
      · intro q y hy r c hrc
        exact (World.cell?_of_block (w := wr) (hot g2 hgw)).trans (HA.out q y hy r c hrc)
      · refine ⟨HOw.out.1, ?_⟩
        rcases HOw.out.2 with h | ⟨g3, c3', cu, hv, hb3, hh, hrest⟩
        · exact .inl h
        · exact .inr ⟨g3, c3', cu, hv, by omega, (hot g3 (by omega)).trans hh, hrest⟩
      · exact (((HBw.out.setCell (p := ⟨w.heap.size, 0, none⟩) (Nat.le_refl _) _).setCell (p := ⟨w.heap.size, 1, none⟩) (Nat.le_refl _) _).setCell (p := ⟨w.heap.size, 2, none⟩) (Nat.le_refl _) _).setCell (p := ⟨w.heap.size, 3, none⟩) (Nat.le_refl _) _

theorem htext_new (xs : List HA) (k H : Nat) (w : World) (hH : w.heap.size = H) (hk : xs.length = k) (hkm : k ≤ 1000) (hk0 : 0 < (xs.flatMap HA.lfs).length) (hk9 : (xs.flatMap HA.lfs).length ≤ 900) (hw : wgts (xs.flatMap HA.lfs) + 22 ≤ 140737488355328) (hok : ∀ x ∈ xs, x.ok) (hfit : ∀ y ∈ xs.flatMap HA.lfs, y.fits) (cs : Array Value) (hcs : cs.toList = xs.map HA.val) :
    Calls Tryz.prog 67 #[.slice (some ⟨H, 0, none⟩) k k] (w.alloc (.cells cs 20)) (ListPost (encL (xs.flatMap HA.lfs)) w) := by
  subst hH
  refine (htext_any w.heap.size 0 k k xs (w.alloc (.cells cs 20)) hk hkm hk0 hk9 hw (fun j x hx => ?_) hok hfit).mono ?_
  · rw [cell_of_row _ _ _ _ _ _ (heap_alloc_new w _), Nat.zero_add, ← Array.getElem?_toList, hcs, List.getElem?_map, hx]; rfl
  · rintro e w' ⟨g', n', cap', hn, rfl, hf⟩
    exact ⟨g', n', cap', hn, rfl, ⟨hf.out.1, hf.out.2.1, hf.out.2.2.1, hf.out.2.2.2.1, (below_alloc w _).trans (hf.out.2.2.2.2.mono (by rw [size_alloc]; omega))⟩⟩

/-- the text of a hand-over -/
def Hd.lf (h : Hd) : List Lf := [.i h.L, .i h.A, .i h.R, .i h.leg, .i h.fr, .i h.to, .i h.mn, .t h.T, .i h.tm]
def Hd.tx (h : Hd) : Bytes := encL h.lf
def Hd.ha (h : Hd) : List HA := [.r h.L h.A h.R, .i h.leg, .i h.fr, .i h.to, .i h.mn, .t h.T, .i h.tm]
theorem rints_new (ns : List Int) (k H : Nat) (w : World) (hH : w.heap.size = H) (hk : ns.length = k) (hk0 : 0 < k) (hk9 : k ≤ 1000) (cs : Array Value) (hcs : cs.toList = ns.map (Value.int .i64)) :
    Calls Tryz.prog 113 #[.slice (some ⟨H, 0, none⟩) k k] (w.alloc (.cells cs 3)) (IntsPost (lfs ns) k (w.alloc (.cells cs 3))) := by
  subst hH
  refine rints_any w.heap.size 0 k k ns _ hk (Nat.le_refl _) hk0 hk9 (fun j n hn => ?_)
  rw [cell_of_row _ _ _ _ _ _ (heap_alloc_new w _), Nat.zero_add, ← Array.getElem?_toList, hcs, List.getElem?_map, hn]; rfl

/-- is a hand-over signed? -/
def chB (key : Int) (h : Hd) : Bool := h.fm && vrB key h.tx h.E h.S
def Hd.sg (h : Hd) (E S : Int) : Hd := { h with E := E, S := S }
def hz : Hd := ⟨0, 0, 0, 0, 0, 0, 0, zb32, 0, 0, 0⟩
/-- what Make returns -/
def mkF (x : Int) (h : Hd) : Hd × Int := if btB x 1 1073741788 = true then (if h.fm = true then (h.sg (sgE x h.tx) (sgS x h.tx), 0) else (hz, 480)) else (hz, 110)

/-! ## the reference -/
/-- the same slot -/
def slB (a b : Hd) : Bool := (a.L == b.L && (a.A == b.A && a.R == b.R)) && (a.leg == b.leg && a.fr == b.fr)
/-- do hand-overs contradict each other? -/
def clB (a b : Hd) : Bool := a.fm && (b.fm && (slB a b && !(hdB (a.sg 0 0) (b.sg 0 0))))

end Frk
