/- Parts of the proof, joined. -/
import Derived.Test.YtnpnboldjbljaaaDoorVeRsm
import Derived.Test.YtnpnboldjbljaaaDoorVegEnv
import Derived.Lib.SlBytesConst
import Derived.Test.YtnpnboldjbljaaaDoorVegKit
import Derived.Test.YtnpnboldjbljaaaDoorProg
import Derived.BigQuiet
import Derived.Lib.Hide
import Derived.Test.YtnpnboldjbljaaaDoorVeRel
import Derived.Test.YtnpnboldjbljaaaDoorVegDpa
/- The reference's Tagged and Hash. -/
namespace Frk
open Go Go.RowKit Go.Proofs
set_option maxRecDepth 100000

set_option maxHeartbeats 2000000 in
theorem rtagged_any (tag : ByteArray) (a : Option Addr) (len cap : Nat) (l : Bytes) (w : World) (hb : IsB w a len cap l) (ht2 : tag.size ≤ 64) (hm : len + 200 ≤ 140737488355328) :
   Calls Tryd.prog 49 #[.string tag, .slice a len cap] w fun e w' => e = .returned (.agg ((tagged tag.data.toList l).map B).toArray) ∧ Below w.heap.size w w' := by
  obtain ⟨ct, W1, hrun, hW1⟩ := conv_str (w.alloc (.cells #[.int .u8 0, .int .u8 0, .int .u8 0, .int .u8 0, .int .u8 0, .int .u8 0, .int .u8 0, .int .u8 0, .int .u8 0, .int .u8 0, .int .u8 0, .int .u8 0, .int .u8 0, .int .u8 0, .int .u8 0, .int .u8 0, .int .u8 0, .int .u8 0, .int .u8 0, .int .u8 0, .int .u8 0, .int .u8 0, .int .u8 0, .int .u8 0, .int .u8 0, .int .u8 0, .int .u8 0, .int .u8 0, .int .u8 0, .int .u8 0, .int .u8 0, .int .u8 0] 29)) tag (by omega)
  have HB := Seal.mk hb
  have HL := Seal.mk hb.llen
  have hsz1 := hW1.out.2.2.2.2
  rw [size_alloc] at hrun hsz1
  have HS1 := Seal.mk hsz1
  have hr1 : W1.rangeAt (w.heap.size + 1) 0 (tag.data.toList.map B) := by have := hW1.out.2.1; rwa [size_alloc] at this
  have HC1 := Seal.mk (rsum_any (some ⟨w.heap.size + 1, 0, none⟩) tag.size ct tag.data.toList W1 ⟨by simp, hW1.out.2.2.1, by omega, hW1.out.2.2.2.1, .inr ⟨_, _, rfl, hr1, by omega⟩⟩ (by omega))
  clear hb hsz1 hr1
  go_enter Tryd.func49, Tryd.ntmps49
  have HD1 : Seal ((Tryd.prog.info? 29).map (·.size) = some ((sha tag.data.toList).map B).length) := ⟨sha_info _⟩
  have HD2 : Seal (((sha tag.data.toList).map B).length = 32) := ⟨by rw [List.length_map, sha_length]⟩
  have HD3 : Seal (∀ u ∈ (sha tag.data.toList).map B, u.oneCell' = true) := ⟨by simp [Value.oneCell']⟩
  obtain ⟨D, hD⟩ : ∃ D, Seal (D = (sha tag.data.toList).map B) := ⟨_, ⟨rfl⟩⟩
  rw [← hD.out] at HD1 HD2 HD3 HC1
  go_wp2_with fail
  refine HC1.out.mono ?_
  rintro e w2 ⟨rfl, hb2⟩
  have hs1 := HS1.out
  have hb0 : Below w.heap.size w w2 := (below_alloc w _).trans ((hW1.out.1.mono (by rw [size_alloc]; omega)).trans (hb2.mono (by omega)))
  have hz1 : W1.heap[w.heap.size]? = some (.cells #[.int .u8 0, .int .u8 0, .int .u8 0, .int .u8 0, .int .u8 0, .int .u8 0, .int .u8 0, .int .u8 0, .int .u8 0, .int .u8 0, .int .u8 0, .int .u8 0, .int .u8 0, .int .u8 0, .int .u8 0, .int .u8 0, .int .u8 0, .int .u8 0, .int .u8 0, .int .u8 0, .int .u8 0, .int .u8 0, .int .u8 0, .int .u8 0, .int .u8 0, .int .u8 0, .int .u8 0, .int .u8 0, .int .u8 0, .int .u8 0, .int .u8 0, .int .u8 0] 29 (0, 0)) := (hW1.out.1.block _ (by rw [size_alloc]; omega)).trans (heap_alloc_new w _)
  have hz2' : w2.heap[w.heap.size]? = some (.cells #[.int .u8 0, .int .u8 0, .int .u8 0, .int .u8 0, .int .u8 0, .int .u8 0, .int .u8 0, .int .u8 0, .int .u8 0, .int .u8 0, .int .u8 0, .int .u8 0, .int .u8 0, .int .u8 0, .int .u8 0, .int .u8 0, .int .u8 0, .int .u8 0, .int .u8 0, .int .u8 0, .int .u8 0, .int .u8 0, .int .u8 0, .int .u8 0, .int .u8 0, .int .u8 0, .int .u8 0, .int .u8 0, .int .u8 0, .int .u8 0, .int .u8 0, .int .u8 0] 29 (0, 0)) := (hb2.block _ (by omega)).trans hz1
  obtain ⟨Y, hY⟩ : ∃ Y : World, Seal (Y = w2.alloc (.cells D.toArray 29)) := ⟨_, ⟨rfl⟩⟩
  have hYb : Seal (Below w.heap.size w Y) := ⟨by rw [hY.out]; exact hb0.alloc hb0.size _⟩
  have hYz : Seal (Y.heap[w.heap.size]? = some (.cells #[.int .u8 0, .int .u8 0, .int .u8 0, .int .u8 0, .int .u8 0, .int .u8 0, .int .u8 0, .int .u8 0, .int .u8 0, .int .u8 0, .int .u8 0, .int .u8 0, .int .u8 0, .int .u8 0, .int .u8 0, .int .u8 0, .int .u8 0, .int .u8 0, .int .u8 0, .int .u8 0, .int .u8 0, .int .u8 0, .int .u8 0, .int .u8 0, .int .u8 0, .int .u8 0, .int .u8 0, .int .u8 0, .int .u8 0, .int .u8 0, .int .u8 0, .int .u8 0] 29 (0, 0))) := ⟨by rw [hY.out, Below.heap_alloc _ _ _ (Array.getElem?_eq_some_iff.1 hz2').1]; exact hz2'⟩
  have hYd : Seal (IsB Y (some ⟨w2.heap.size, 0, none⟩) 32 32 (sha tag.data.toList)) := ⟨by rw [hY.out, hD.out]; exact isB_new w2 _ 32 _ (0, 0) (sha_length _) (by decide)⟩
  have hS0 : Seal (Stg Y (Y.alloc (.cells #[] 5)) Y.heap.size 0 0 []) := ⟨stg_new Y [] 0 rfl (by decide)⟩
  have hI0 : Seal (IsB (Y.alloc (.cells #[] 5)) (some ⟨w2.heap.size, 0, none⟩) 32 32 (sha tag.data.toList)) := ⟨hYd.out.below (below_alloc _ _)⟩
  clear hz1 hz2' hb2 hb0 hs1 HC1 hrun hW1 HS1
  obtain ⟨E, hE⟩ : ∃ E : Array Value, Seal (E = ((sha (sha tag.data.toList ++ l)).map B).toArray) := ⟨_, ⟨rfl⟩⟩
  have HE1 : Seal ((Tryd.prog.info? 29).map (·.size) = some E.size) := ⟨by rw [hE.out, List.size_toArray]; exact sha_info _⟩
  have HE2 : Seal (E.size = 32) := ⟨by rw [hE.out, List.size_toArray, List.length_map, sha_length]⟩
  have HE3 : Seal (E.all (·.oneCell') = true) := ⟨by rw [hE.out]; simp [Value.oneCell']⟩
  go_wp2_with (first
    | (at_builtin; refine wpList_append_st rfl (.tmp 9) (.tmp 10) rfl Y Y.heap.size 0 0 [] (some ⟨w2.heap.size, 0, none⟩) 32 32 (sha tag.data.toList) rfl rfl hS0 hI0 (by omega) ?_
       intro g1 cap1 w3 hS3 _ _
       rw [Nat.zero_add] at hS3 ⊢
       rw [List.nil_append] at hS3
       have hI3 : Seal (IsB w3 a len cap l) := ⟨(HB.out.below hYb.out).below hS3.out.bel⟩
       clear hS0 hI0)
    | (at_builtin; refine wpList_append_st rfl (.tmp 11) (.tmp 12) rfl Y g1 32 cap1 (sha tag.data.toList) a len cap l rfl rfl hS3 hI3 (by omega) ?_
       intro g4 cap4 w4 hS4 _ _
       have hC4 : Seal _ := ⟨rsum_any (some ⟨g4, 0, none⟩) (32 + len) cap4 _ w4 (hS4.out.isB (by omega)) (by omega)⟩
       rw [← hE.out] at hC4
       have hB4 := Seal.mk (hYb.out.trans (hS4.out.bel.mono hYb.out.size))
       have hZ4 := Seal.mk ((hS4.out.bel.block _ (Array.getElem?_eq_some_iff.1 hYz.out).1).trans hYz.out)
       clear hS3 hI3 hS4)
    | (go_at_call 76; refine hC4.out.mono ?_; rintro e w5 ⟨rfl, hb5⟩
       have hZ5 := Seal.mk ((hb5.block _ (Array.getElem?_eq_some_iff.1 hZ4.out).1).trans hZ4.out)
       have hB5 := Seal.mk (hB4.out.trans (hb5.mono hB4.out.size))
       clear hb5)
    | (refine wpList_store_row rfl 29 (.tmp 4) (.tmp 14) rfl w.heap.size E rfl rfl 29 _ hZ5.out HE1.out HE2.out.symm HE3.out ?_)
    | (refine wpList_store_new rfl 29 (.tmp 5) (.tmp 8) rfl [.int .u8 0, .int .u8 0, .int .u8 0, .int .u8 0, .int .u8 0, .int .u8 0, .int .u8 0, .int .u8 0, .int .u8 0, .int .u8 0, .int .u8 0, .int .u8 0, .int .u8 0, .int .u8 0, .int .u8 0, .int .u8 0, .int .u8 0, .int .u8 0, .int .u8 0, .int .u8 0, .int .u8 0, .int .u8 0, .int .u8 0, .int .u8 0, .int .u8 0, .int .u8 0, .int .u8 0, .int .u8 0, .int .u8 0, .int .u8 0, .int .u8 0, .int .u8 0] D 29 rfl rfl HD1.out HD2.out.symm HD3.out ?_; rw [← hY.out]))
  refine bodyPost_ret (results_cell_row (fn := Tryd.f49) rfl _ _ w.heap.size 29 E (0, 0) _ rfl (setRow_heap _ _ _ _ _ _ hZ5.out) Tryd.underlying29 rfl HE1.out) rfl ⟨?_, below_row hB5.out (Nat.le_refl _) _⟩
  rw [hE.out]
  rfl

end Frk

/- The examples of signatures, reckoned. -/
namespace Frk
open Go Go.RowKit Go.Proofs
set_option maxRecDepth 100000

def tLetter : Bytes := [108, 101, 116, 116, 101, 114]
end Frk

/- The reference's Mod, Times, Power and Quotient. -/
namespace Frk
open Go Go.RowKit Go.Proofs
set_option maxRecDepth 100000

def pwqn (a n : Nat) : Nat := a ^ n % Q

/-- Q less 2 -/
def eQ : Nat := 1073741787
attribute [irreducible] eQ

/-- the quotient modulo Q -/
def quo (a b : Int) : Nat := lq a * pwqn (lq b) eQ % 1073741789
end Frk

/- The reference's sign: values, Hash. -/
namespace Frk
open Go Go.RowKit Go.Proofs
set_option maxRecDepth 100000

theorem rint_any (n : Int) (w : World) : Calls Tryd.prog 75 #[.int .i64 n] w fun e w' => e = .returned (.agg #[.int .i64 1, .int .i64 n, .string ByteArray.empty, .slice none 0 0]) ∧ Below w.heap.size w w' := by
  go_enter Tryd.func75, Tryd.ntmps75
  go_wp2
  refine bodyPost_ret (results_cell_row (fn := Tryd.f75) rfl _ _ w.heap.size 78 _ (0, 0) _ rfl (heap_alloc_new w _) Tryd.underlying78 rfl (by kernel_rfl)) rfl ⟨rfl, below_alloc _ _⟩

theorem IsB.drew {w : World} {a : Option Addr} {len cap : Nat} {l : Bytes} (h : IsB w a len cap l) : IsB w.drew a len cap l := ⟨h.llen, h.lcap, h.lmax, h.cmax, h.at_⟩

end Frk

/- The reference's Ints. -/
namespace Frk
open Go Go.RowKit Go.Proofs
set_option maxRecDepth 100000

/-- what Ints returns: a list that bears these leaves -/
def IntsPost (xs : List Lf) (k : Nat) (w : World) (e : Ending) (w' : World) : Prop :=
  ∃ g c, e = .returned (.agg #[.int .i64 3, .int .i64 0, .string ByteArray.empty, .slice (some ⟨g, 0, none⟩) k c]) ∧ Seal (k ≤ c ∧ g < w'.heap.size ∧ LeavesAt w' g 0 xs ∧ w'.ownsRow w.heap.size 78 4 (.slice (some ⟨g, 0, none⟩) k c) k (xs.flatMap Lf.cells)) ∧ Below w.heap.size w w'

set_option maxHeartbeats 4000000 in
theorem rints_any (g off k cap : Nat) (ns : List Int) (w : World) (hk : ns.length = k) (hkc : k ≤ cap) (hk0 : 0 < k) (hk9 : k ≤ 1000) (hc : ∀ j n, ns[j]? = some n → w.cell? ⟨g, off + j, none⟩ = some (.int .i64 n)) :
    Calls Tryd.prog 48 #[.slice (some ⟨g, off, none⟩) k cap] w (IntsPost (lfs ns) k w) := by
  have HK := Seal.mk hk
  have HC := Seal.mk hc
  have HKx : Seal ((ns.map Arg.i).length = k) := ⟨by rw [List.length_map]; exact hk⟩
  obtain ⟨i0, hi, hz0, hz1, hz2⟩ := info_parts info_val
  have HI := Seal.mk (And.intro hi (And.intro hz0 (And.intro hz1 hz2)))
  obtain ⟨Y, hY⟩ : ∃ Y : World, Y = w.alloc (.cells #[.int .i64 0, .int .i64 0, .string ByteArray.empty, .slice none 0 0] 78) := ⟨_, rfl⟩
  have hYb : Seal (Below w.heap.size w Y) := ⟨by rw [hY]; exact below_alloc _ _⟩
  have hYs : Y.heap.size = w.heap.size + 1 := by rw [hY, size_alloc]
  have HYs := Seal.mk hYs
  obtain ⟨X, hX⟩ : ∃ X : World, X = Y.alloc (.cells #[.int .i64 3, .int .i64 0, .string ByteArray.empty, .slice none 0 0] 78) := ⟨_, rfl⟩
  have hXn : Seal (X.heap[Y.heap.size]? = some (.cells #[.int .i64 3, .int .i64 0, .string ByteArray.empty, .slice none 0 0] 78)) := ⟨by rw [hX]; exact heap_alloc_new _ _⟩
  have hXb : Seal (Below Y.heap.size Y X) := ⟨by rw [hX]; exact below_alloc _ _⟩
  have hXY : Seal (X = (w.alloc (.cells #[.int .i64 0, .int .i64 0, .string ⟨#[]⟩, .slice none 0 0] 78)).alloc (.cells #[.int .i64 3, .int .i64 0, .string ⟨#[]⟩, .slice none 0 0] 78)) := ⟨by rw [hX, hY]; rfl⟩
  have HYr : Seal (Y.heap[w.heap.size]? = some (.cells #[.int .i64 0, .int .i64 0, .string ByteArray.empty, .slice none 0 0] 78 (0, 0))) := ⟨by rw [hY]; exact heap_alloc_new _ _⟩
  clear hk hc hi hz0 hz1 hz2 hY hX
  go_enter Tryd.func48, Tryd.ntmps48
  go_wp2
  rw [← hXY.out]
  rw [← hYs]
  clear hYs
  go_loopw [4] (fun i wr => ListRel (ns.map Arg.i) Y i wr) (fun i _ => k - (intOf i).toNat)
  case atStart => exact ⟨0, .slice none 0 0, Nat.zero_le _, rfl, hXn, ⟨World.ownsRow_nil _ _ _ _⟩, hXb⟩
  case round =>
    obtain ⟨j, v, hj, rfl, hrow, hown, hb⟩ := hrel
    rw [HKx.out] at hj
    have hBz := hb.out.size
    have hBs : Y.heap.size < wr.heap.size := (Array.getElem?_eq_some_iff.1 hrow.out).1
    have c3 : wr.cell? ⟨Y.heap.size, 3, none⟩ = some v := by rw [cell_of_row _ _ _ _ _ _ hrow.out]; rfl
    have hne : some Y.heap.size ≠ v.ownBlock := fun e => by have := (hown.out.lt _ e.symm).1; omega
    by_cases hlt : j < k
    · obtain ⟨n, hx⟩ : ∃ n, ns[j]? = some n := ⟨_, List.getElem?_eq_getElem (by rw [HK.out]; exact hlt)⟩
      have hcy : Y.cell? ⟨g, off + j, none⟩ = some (.int .i64 n) := (hYb.out.cell (p := ⟨g, off + j, none⟩) (block_lt_of_cell (HC.out j n hx))).trans (HC.out j n hx)
      have hcx : wr.cell? ⟨g, off + j, none⟩ = some (.int .i64 n) := (hb.out.cell (p := ⟨g, off + j, none⟩) (block_lt_of_cell hcy)).trans hcy
      have hx' : (ns.map Arg.i)[j]? = some (Arg.i n) := by rw [List.getElem?_map, hx]; rfl
      have HT := Seal.mk (leafCells_take (ns.map Arg.i) j (Arg.i n) hx')
      have hgb : g < Y.heap.size := block_lt_of_cell hcy
      clear hx hx' hcy
      have q1 : (j : Int) < (k : Int) := by omega
      have q2 : (0 : Int) ≤ (j : Int) := by omega
      go_wp2_with fail
      refine wp_region_heldT 10 (S := fun w' => w'.cell? ⟨Y.heap.size, 3, none⟩ = some v ∧ w'.cell? ⟨g, off + j, none⟩ = some (.int .i64 n)) (by kernel_rfl) ⟨c3, hcx⟩ (fun hHeld => ?_)
      refine take_t 0 ?_ rfl (by kernel_rfl) (by kernel_rfl) (by kernel_rfl) (by kernel_rfl) (fun _ _ _ h => h) (Or.inl ⟨by kernel_rfl, ?_⟩) (by assumption) ?_
      rotate_left
      · (intro w hSw; (try dsimp only at hSw); go_simp; try (with_reducible rfl))
      try simp only [Act.put, List.setIfInBounds_toArray, List.set_cons_zero, List.set_cons_succ]
      refine take_t 1 ?_ rfl (by kernel_rfl) (by kernel_rfl) (by kernel_rfl) (by kernel_rfl) (fun _ _ _ h => h) (Or.inl ⟨by kernel_rfl, ?_⟩) (by assumption) ?_
      rotate_left
      · (intro w hSw; (try dsimp only at hSw); go_simp; try (with_reducible rfl))
      try simp only [Act.put, List.setIfInBounds_toArray, List.set_cons_zero, List.set_cons_succ]
      refine take_t 2 ?_ rfl (by kernel_rfl) (by kernel_rfl) (by kernel_rfl) (by kernel_rfl) (fun _ _ _ h => h) (Or.inl ⟨by kernel_rfl, ?_⟩) (by assumption) ?_
      rotate_left
      · (intro w hSw; (try dsimp only at hSw); go_simp; try (with_reducible rfl))
      try simp only [Act.put, List.setIfInBounds_toArray, List.set_cons_zero, List.set_cons_succ]
      refine take_t 3 ?_ rfl (by kernel_rfl) (by kernel_rfl) (by kernel_rfl) (by kernel_rfl) (fun _ _ _ h => h) (Or.inl ⟨by kernel_rfl, ?_⟩) (by assumption) ?_
      rotate_left
      · (intro w hSw; (try dsimp only at hSw); go_simp; try (with_reducible rfl))
      try simp only [Act.put, List.setIfInBounds_toArray, List.set_cons_zero, List.set_cons_succ]
      refine take_t 4 ?_ rfl (by kernel_rfl) (by kernel_rfl) (by kernel_rfl) (by kernel_rfl) (fun _ _ _ h => h) (Or.inl ⟨by kernel_rfl, ?_⟩) (by assumption) ?_
      rotate_left
      · (intro w hSw; (try dsimp only at hSw); go_simp; try (with_reducible rfl))
      try simp only [Act.put, List.setIfInBounds_toArray, List.set_cons_zero, List.set_cons_succ]
      refine take_t 5 ?_ rfl (by kernel_rfl) (by kernel_rfl) (by kernel_rfl) (by kernel_rfl) (fun _ _ _ h => h) (Or.inl ⟨by kernel_rfl, ?_⟩) (by assumption) ?_
      rotate_left
      · (intro w hSw; (try dsimp only at hSw); go_simp; try (with_reducible rfl))
      try simp only [Act.put, List.setIfInBounds_toArray, List.set_cons_zero, List.set_cons_succ]
      refine call_t 6 rfl (by kernel_rfl) 75 #[.int .i64 n] (by kernel_rfl) (by go_simp) ?_
      refine (rint_any n wr.drew).mono ?_
      rintro e w1 ⟨rfl, hb1⟩
      have hb2 : Below wr.heap.size wr w1 := ⟨hb1.os, hb1.tape, hb1.output, hb1.size, hb1.block⟩
      have HB1 : Seal (Below Y.heap.size Y w1) := ⟨hb.out.trans (hb2.mono hb.out.size)⟩
      have HR1 : Seal (w1.heap[Y.heap.size]? = some (.cells #[.int .i64 3, .int .i64 0, .string ByteArray.empty, v] 78)) := ⟨blk hb2 hBs hrow.out⟩
      have HO1 : Seal (w1.ownsRow (Y.heap.size + 1) 78 4 v j (leafCells ((ns.map Arg.i).take j))) := ⟨ownsRow_below hown.out hb2⟩
      refine ⟨_, rfl, ⟨cell_later hb2 c3, cell_later hb2 hcx⟩, fun hHeld2 => ?_⟩
      have hs1 : Y.heap.size < w1.heap.size := Nat.lt_of_lt_of_le hBs hb2.size
      clear hHeld hb1 hb2 c3 hcx
      try simp only [Act.put, List.setIfInBounds_toArray, List.set_cons_zero, List.set_cons_succ]
      refine oper_t 7 (.slice (some ⟨w1.heap.size, 0, none⟩) 1 1) (w1.alloc (.cells #[.int .i64 1, .int .i64 n, .string ByteArray.empty, .slice none 0 0] 78)) rfl (by kernel_rfl) (by kernel_rfl) (by go_simp) ⟨cell_allocd hHeld2.1 _, cell_allocd hHeld2.2 _⟩ (fun hHeld3 => ?_)
      clear hHeld2
      try simp only [Act.put, List.setIfInBounds_toArray, List.set_cons_zero, List.set_cons_succ]
      obtain ⟨g1, cap1, w2, hrun, hown1, hgrow1, hat, hlt1⟩ := run_append_lies (P := Tryd.prog) (w := w1.alloc (.cells #[.int .i64 1, .int .i64 n, .string ByteArray.empty, .slice none 0 0] 78)) 76 76 (Y.heap.size + 1) 78 i0 _ 4 56 Tryd.underlying76 HI.out.1 HI.out.2.1 HI.out.2.2.1 HI.out.2.2.2 rfl (by decide) v j (leafCells ((ns.map Arg.i).take j)) (HO1.out.alloc _) ⟨w1.heap.size, 0, none⟩ 1 1 (Lf.i n).cells rfl (World.news_of_block (heap_alloc_new w1 _)) (by simp [Lf.cells, Value.oneCell']) (by decide) (by unfold maxLen; omega) (by omega) (by simp; omega) _ rfl
      have hr2 : w2.heap[Y.heap.size]? = some (.cells #[.int .i64 3, .int .i64 0, .string ByteArray.empty, v] 78) := (hgrow1.block _ (by simp; omega) hne).trans ((Below.heap_alloc w1 _ _ hs1).trans HR1.out)
      have c1 : w2.cell? ⟨Y.heap.size, 3, none⟩ = some v := by rw [cell_of_row _ _ _ _ _ _ hr2]; rfl
      have f1 : w2.frozen? ⟨Y.heap.size, 3, none⟩ = false := frozen_of_row _ _ _ _ _ hr2
      have hgv : some g ≠ v.ownBlock := fun e => by have := (hown.out.lt _ e.symm).1; omega
      refine oper_t 8 (.slice (some ⟨g1, 0, none⟩) (j + 1) cap1) w2 rfl (by kernel_rfl) (by kernel_rfl) (exec_append (.tmp 13) (.tmp 19) 76 76 rfl _ _ _ rfl rfl (fun ty => hrun)) ⟨c1, (hgrow1.cell_far ⟨g, off + j, none⟩ (by simp; omega) hgv).trans hHeld3.2⟩ (fun hHeld4 => ?_)
      clear hHeld3
      try simp only [Act.put, List.setIfInBounds_toArray, List.set_cons_zero, List.set_cons_succ]
      refine take_t 9 ?_ rfl (by kernel_rfl) (by kernel_rfl) (by kernel_rfl) (by kernel_rfl) (fun _ _ _ h => h) (Or.inl ⟨by kernel_rfl, ?_⟩) (by assumption) ?_
      rotate_left
      · (intro w hSw; (try dsimp only at hSw); go_simp; try (with_reducible rfl))
      try simp only [Act.put, List.setIfInBounds_toArray, List.set_cons_zero, List.set_cons_succ]
      have HN := Seal.mk (ListRel.next (by rw [HKx.out]; exact hlt) HT.out HB1.out hr2 HO1.out hgrow1 hs1 hown1)
      refine last_t (w2.setCell ⟨Y.heap.size, 3, none⟩ (.slice (some ⟨g1, 0, none⟩) (j + 1) cap1)) rfl (by kernel_rfl) (by kernel_rfl) (by kernel_rfl) (by go_simp) ?_
      clear hHeld4 c1 f1
      go_wp2
      refine ⟨HN.out, ?_⟩
      simp only [intOf]; omega
    · obtain rfl : j = k := by omega
      obtain ⟨g2, cap2, rfl, hgY, hg2⟩ := hown.out.form hk0
      have hgY := (hown.out.lt g2 rfl).1
      have HA : Seal (LeavesAt wr g2 0 (lfs ns)) := ⟨fun q y hy r c hrc => by
        obtain ⟨n, hx, rfl⟩ : ∃ n, ns[q]? = some n ∧ Lf.i n = y := by
          unfold lfs at hy
          rw [List.getElem?_map] at hy
          cases h : ns[q]? with
          | none => rw [h] at hy; cases hy
          | some x => rw [h] at hy; exact ⟨x, rfl, by simpa using hy⟩
        have h1 := leafCells_at (ns.map Arg.i) q (Arg.i n) (by rw [List.getElem?_map, hx]; rfl) r c hrc
        have h2 := hown.out.cells (g := g2) rfl (q * 4 + r) c (by rw [List.take_of_length_le (by rw [HKx.out]; exact Nat.le_refl _)]; exact h1)
        rw [Addr.add_mid] at h2
        rw [Nat.add_assoc]; exact h2⟩
      have HQ : Seal (j ≤ cap2) := ⟨by
        rcases hown.out.2 with ⟨e, _⟩ | ⟨_, _, _, hv, _, _, hle, _⟩
        · cases e
        · cases hv; exact hle⟩
      have HOw : Seal (wr.ownsRow (w.heap.size + 1) 78 4 (.slice (some ⟨g2, 0, none⟩) j cap2) j ((lfs ns).flatMap Lf.cells)) := ⟨by
        have h1 := hown.out
        rw [List.take_of_length_le (by rw [HKx.out]; exact Nat.le_refl _)] at h1
        have e : leafCells (ns.map Arg.i) = (lfs ns).flatMap Lf.cells := by
          unfold leafCells lfs
          rw [List.flatMap_map, List.flatMap_map]
          rfl
        rw [e] at h1
        refine ⟨h1.1, ?_⟩
        rcases h1.2 with h | ⟨g3, c3', cu, hv, hb3, hrest⟩
        · exact .inl h
        · exact .inr ⟨g3, c3', cu, hv, by have := HYs.out; omega, hrest⟩⟩
      have c30 : wr.cell? ⟨Y.heap.size, 0, none⟩ = some (.int .i64 3) := by rw [cell_of_row _ _ _ _ _ _ hrow.out]; rfl
      have c31 : wr.cell? ⟨Y.heap.size, 1, none⟩ = some (.int .i64 0) := by rw [cell_of_row _ _ _ _ _ _ hrow.out]; rfl
      have c32 : wr.cell? ⟨Y.heap.size, 2, none⟩ = some (.string ByteArray.empty) := by rw [cell_of_row _ _ _ _ _ _ hrow.out]; rfl
      have HZ : Seal (wr.heap[w.heap.size]? = some (.cells #[.int .i64 0, .int .i64 0, .string ByteArray.empty, .slice none 0 0] 78 (0, 0))) := ⟨(hb.out.block _ (by have := HYs.out; omega)).trans HYr.out⟩
      have z0 : wr.cell? ⟨w.heap.size, 0, none⟩ = some (.int .i64 0) := by rw [cell_of_row _ _ _ _ _ _ HZ.out]; rfl
      have z1 : wr.cell? ⟨w.heap.size, 1, none⟩ = some (.int .i64 0) := by rw [cell_of_row _ _ _ _ _ _ HZ.out]; rfl
      have z2 : wr.cell? ⟨w.heap.size, 2, none⟩ = some (.string ByteArray.empty) := by rw [cell_of_row _ _ _ _ _ _ HZ.out]; rfl
      have z3 : wr.cell? ⟨w.heap.size, 3, none⟩ = some (.slice none 0 0) := by rw [cell_of_row _ _ _ _ _ _ HZ.out]; rfl
      have f0 : wr.frozen? ⟨w.heap.size, 0, none⟩ = false := frozen_of_row _ _ _ _ _ HZ.out
      have f1 : wr.frozen? ⟨w.heap.size, 1, none⟩ = false := frozen_of_row _ _ _ _ _ HZ.out
      have f2 : wr.frozen? ⟨w.heap.size, 2, none⟩ = false := frozen_of_row _ _ _ _ _ HZ.out
      have f3 : wr.frozen? ⟨w.heap.size, 3, none⟩ = false := frozen_of_row _ _ _ _ _ HZ.out
      have HBw : Seal (Below w.heap.size w wr) := ⟨hYb.out.trans (hb.out.mono hYb.out.size)⟩
      have hgw : g2 ≠ w.heap.size := by have := HYs.out; omega
      clear hrow hown hne HC hb hgY
      go_wp2
      have hr9 := heap_setCell_row (cs := [.int .i64 3, .int .i64 0, .string ByteArray.empty, .slice none 0 0]) (i := 3) (.slice (some ⟨g2, 0, none⟩) j cap2) (heap_setCell_row (cs := [.int .i64 3, .int .i64 0, .string ByteArray.empty, .slice none 0 0]) (i := 2) (.string ByteArray.empty) (heap_setCell_row (cs := [.int .i64 3, .int .i64 0, .string ByteArray.empty, .slice none 0 0]) (i := 1) (.int .i64 0) (heap_setCell_row (cs := [.int .i64 0, .int .i64 0, .string ByteArray.empty, .slice none 0 0]) (i := 0) (.int .i64 3) HZ.out)))
      have hot : ∀ k, k ≠ w.heap.size → ((((wr.setCell ⟨w.heap.size, 0, none⟩ (.int .i64 3)).setCell ⟨w.heap.size, 1, none⟩ (.int .i64 0)).setCell ⟨w.heap.size, 2, none⟩ (.string ByteArray.empty)).setCell ⟨w.heap.size, 3, none⟩ (.slice (some ⟨g2, 0, none⟩) j cap2)).heap[k]? = wr.heap[k]? := fun k hk =>
        (Below.heap_setCell _ _ _ k hk).trans ((Below.heap_setCell _ _ _ k hk).trans ((Below.heap_setCell _ _ _ k hk).trans (Below.heap_setCell _ _ _ k hk)))
      refine bodyPost_ret (results_cell_row (fn := Tryd.f48) rfl _ _ w.heap.size 78 #[.int .i64 3, .int .i64 0, .string ByteArray.empty, .slice (some ⟨g2, 0, none⟩) j cap2] (0, 0) _ rfl hr9 Tryd.underlying78 rfl (by kernel_rfl)) rfl ⟨g2, cap2, rfl, ⟨HQ.out, ?_, ?_, ?_⟩, ?_⟩
      · simpa using hg2
      · intro q y hy r c hrc
        exact (World.cell?_of_block (w := wr) (hot g2 hgw)).trans (HA.out q y hy r c hrc)
      · refine ⟨HOw.out.1, ?_⟩
        rcases HOw.out.2 with h | ⟨g3, c3', cu, hv, hb3, hh, hrest⟩
        · exact .inl h
        · exact .inr ⟨g3, c3', cu, hv, by omega, (hot g3 (by omega)).trans hh, hrest⟩
      · exact (((HBw.out.setCell (p := ⟨w.heap.size, 0, none⟩) (Nat.le_refl _) _).setCell (p := ⟨w.heap.size, 1, none⟩) (Nat.le_refl _) _).setCell (p := ⟨w.heap.size, 2, none⟩) (Nat.le_refl _) _).setCell (p := ⟨w.heap.size, 3, none⟩) (Nat.le_refl _) _

end Frk

