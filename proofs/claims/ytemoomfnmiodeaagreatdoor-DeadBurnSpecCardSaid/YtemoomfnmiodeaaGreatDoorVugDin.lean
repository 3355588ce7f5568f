/- Parts of the proof, joined. -/
import Derived.Test.YtemoomfnmiodeaaGreatDoorVugElm
import Derived.Test.YtemoomfnmiodeaaGreatDoorVugSig
import Derived.Deep.AppendLies
import Derived.Lib.LazyBuf
import Derived.Test.YtemoomfnmiodeaaGreatDoorVuRow
import Derived.Deep.RegionHeldLaw
/- onetime's text of some numbers. -/
namespace Frk
open Go Go.RowKit Go.Proofs
set_option maxRecDepth 100000

set_option maxHeartbeats 1000000 in
theorem otext_any (g off k cap : Nat) (ns : List Int) (w : World) (hk : ns.length = k) (hkc : k ≤ cap) (hk0 : 0 < k) (hk9 : k ≤ 1000) (hc : ∀ j n, ns[j]? = some n → w.cell? ⟨g, off + j, none⟩ = some (.int .i64 n)) (hok : ∀ n ∈ ns, -9223372036854775808 ≤ n ∧ n ≤ 9223372036854775807) :
    Calls Tryz.prog 85 #[.slice (some ⟨g, off, none⟩) k cap] w (ListPost (encL (lfs ns)) w) := by
  have HK := Seal.mk hk
  have HC := Seal.mk hc
  have HO := Seal.mk hok
  have HKx : Seal ((ns.map Arg.i).length = k) := ⟨by rw [List.length_map]; exact hk⟩
  obtain ⟨i0, hi, hz0, hz1, hz2⟩ := info_parts info_val
  have HI := Seal.mk (And.intro hi (And.intro hz0 (And.intro hz1 hz2)))
  clear hk hc hok hi hz0 hz1 hz2
  go_enter Tryz.func85, Tryz.ntmps85
  go_wp2
  go_loopw [11] (fun i wr => ListRel (ns.map Arg.i) w i wr) (fun i _ => k - (intOf i).toNat)
  case atStart => exact ⟨0, .slice none 0 0, Nat.zero_le _, rfl, ⟨heap_alloc_new w _⟩, ⟨World.ownsRow_nil _ _ _ _⟩, ⟨below_alloc w _⟩⟩
  case round =>
    obtain ⟨j, v, hj, rfl, hrow, hown, hb⟩ := hrel
    rw [HKx.out] at hj
    have hBz := hb.out.size
    have hBs : w.heap.size < wr.heap.size := (Array.getElem?_eq_some_iff.1 hrow.out).1
    have c3 : wr.cell? ⟨w.heap.size, 3, none⟩ = some v := by rw [cell_of_row _ _ _ _ _ _ hrow.out]; rfl
    have hne : some w.heap.size ≠ v.ownBlock := fun e => by have := (hown.out.lt _ e.symm).1; omega
    by_cases hlt : j < k
    · obtain ⟨n, hx⟩ : ∃ n, ns[j]? = some n := ⟨_, List.getElem?_eq_getElem (by rw [HK.out]; exact hlt)⟩
      have hcx : wr.cell? ⟨g, off + j, none⟩ = some (.int .i64 n) := (hb.out.cell (p := ⟨g, off + j, none⟩) (block_lt_of_cell (HC.out j n hx))).trans (HC.out j n hx)
      have hx' : (ns.map Arg.i)[j]? = some (Arg.i n) := by rw [List.getElem?_map, hx]; rfl
      have HT := Seal.mk (leafCells_take (ns.map Arg.i) j (Arg.i n) hx')
      clear hx hx'
      go_wp2_with (at_builtin; refine wpList_append_lies _ rfl (.tmp 16) (.tmp 19) 109 rfl (w.heap.size + 1) 111 i0 _ 4 56 Tryz.underlying109 HI.out.1 HI.out.2.1 HI.out.2.2.1 HI.out.2.2.2 rfl (by decide) v j (leafCells ((ns.map Arg.i).take j)) rfl (hown.out.alloc _) ⟨wr.heap.size, 0, none⟩ 1 1 (Lf.i n).cells rfl rfl (World.news_of_block (heap_alloc_new wr _)) (by simp [Lf.cells, Value.oneCell']) (by decide) (by unfold maxLen; omega) (by omega) (by simp; omega) _ rfl ?_; intro g1 cap1 w1 hown1 hgrow1 hat hlt1; have hr1 : w1.heap[w.heap.size]? = some (.cells #[.int .i64 3, .int .i64 0, .string ByteArray.empty, v] 111) := (hgrow1.block _ (by simp; omega) hne).trans ((Below.heap_alloc wr _ _ hBs).trans hrow.out); have c1 : w1.cell? ⟨w.heap.size, 3, none⟩ = some v := by { rw [cell_of_row _ _ _ _ _ _ hr1]; rfl }; have f1 : w1.frozen? ⟨w.heap.size, 3, none⟩ = false := frozen_of_row _ _ _ _ _ hr1; have HR1 := Seal.mk hr1; have HG1 := Seal.mk hgrow1; have HW1 := Seal.mk hown1; clear hr1 hgrow1 hown1)
      refine ⟨ListRel.next (by rw [HKx.out]; exact hlt) HT.out hb.out HR1.out hown.out HG1.out hBs HW1.out, ?_⟩
      simp only [intOf]; omega
    · obtain rfl : j = k := by omega
      obtain ⟨g2, cap2, rfl, _, hg2⟩ := hown.out.form hk0
      have HA : Seal (LeavesAt wr g2 0 (lfs ns)) := ⟨fun q y hy r c hrc => by
        obtain ⟨n, hx, rfl⟩ : ∃ n, ns[q]? = some n ∧ Lf.i n = y := by
          unfold lfs at hy
          rw [List.getElem?_map] at hy
          cases h : ns[q]? with
          | none => rw [h] at hy; cases hy
          | some x => rw [h] at hy; exact ⟨x, rfl, by simpa using hy⟩
        have h1 := leafCells_at (ns.map Arg.i) q (Arg.i n) (by rw [List.getElem?_map, hx]; rfl) r c hrc
        have h2 := hown.out.cells (g := g2) rfl (q * 4 + r) c (by rw [List.take_of_length_le (by rw [HKx.out]; exact Nat.le_refl _)]; exact h1)
        rw [Addr.add_mid] at h2
        rw [Nat.add_assoc]; exact h2⟩
      have HQ : Seal (j ≤ cap2) := ⟨by
        rcases hown.out.2 with ⟨e, _⟩ | ⟨_, _, _, hv, _, _, hle, _⟩
        · cases e
        · cases hv; exact hle⟩
      have HE : Seal _ := ⟨encode_any g2 0 j cap2 (lfs ns) wr (by unfold lfs; rw [List.length_map]; exact HK.out) HQ.out (by rw [wgts_lfs, HK.out]; omega) hk0 HA.out hg2 (fun y hy => by
        unfold lfs at hy
        obtain ⟨n, hn, rfl⟩ := List.mem_map.1 hy
        exact HO.out n hn)⟩
      have c0 : wr.cell? ⟨w.heap.size, 0, none⟩ = some (.int .i64 3) := by rw [cell_of_row _ _ _ _ _ _ hrow.out]; rfl
      have c1 : wr.cell? ⟨w.heap.size, 1, none⟩ = some (.int .i64 0) := by rw [cell_of_row _ _ _ _ _ _ hrow.out]; rfl
      have c2 : wr.cell? ⟨w.heap.size, 2, none⟩ = some (.string ByteArray.empty) := by rw [cell_of_row _ _ _ _ _ _ hrow.out]; rfl
      have HB := Seal.mk hb
      clear hrow hown hne HA HQ HC HO hb
      go_wp2_with (go_at_call 73; refine HE.out.mono ?_; rintro e w2 ⟨g', n', cap', hn', rfl, hf⟩)
      go_ret
      exact ⟨g', n', cap', hn', rfl, ⟨hf.out.1, hf.out.2.1, hf.out.2.2.1, hf.out.2.2.2.1, HB.out.out.trans (hf.out.2.2.2.2.mono hBz)⟩⟩

theorem otimes_yes (a b n p : Int) (w : World) (ha : vd a = true) (hb : vd b = true) (n1 : -9223372036854775808 ≤ n) (n2 : n ≤ 9223372036854775807) (hp : Seal (((mp a.toNat (pw b.toNat n) : Nat) : Int) = p)) :
    Calls Tryz.prog 66 #[.int .i64 a, .int .i64 b, .int .i64 n] w fun e w' => e = .returned (.int .i64 p) ∧ Below w.heap.size w w' := by
  obtain ⟨q, hq⟩ : ∃ q : Int, ((pw b.toNat n : Nat) : Int) = q := ⟨_, rfl⟩
  have vq : vd q = true := by rw [← hq]; exact vd_pw hb n
  have HM : Seal (((mp a.toNat q.toNat : Nat) : Int) = p) := ⟨by rw [← hp.out, ← hq]; rfl⟩
  have HC : Seal (Calls Tryz.prog 86 #[.int .i64 b, .int .i64 n] w fun e w' => e = .returned (.tuple #[.int .i64 q, .int .i64 0]) ∧ Below w.heap.size w w') := ⟨by rw [← hq]; exact pow_yes b n w hb n1 n2⟩
  have HC2 : Seal (∀ w, Calls Tryz.prog 87 #[.int .i64 a, .int .i64 q] w fun e w' => e = .returned (.tuple #[.int .i64 p, .int .i64 0]) ∧ w = w') := ⟨fun w => by rw [← HM.out]; exact mul_yes a q w ha vq⟩
  clear ha hb hp hq vq
  go_enter Tryz.func66, Tryz.ntmps66
  go_wp2_with fail
  refine HC.out.mono ?_
  rintro e w1 ⟨rfl, hb1⟩
  have HB1 := Seal.mk hb1
  clear hb1 HC
  go_wp2_with fail
  refine (HC2.out _).mono ?_
  rintro e w' ⟨rfl, rfl⟩
  go_wp2
  go_ret
  exact ⟨rfl, HB1.out⟩

set_option maxHeartbeats 1000000 in
theorem oseal_yes (key A B r p q : Int) (w : World) (hk : vd key = true) (hA : vd A = true) (hB : vd B = true) (r1 : -9223372036854775808 ≤ r) (r2 : r ≤ 9223372036854775807)
    (hp : Seal (((mp A.toNat (pw 4 r) : Nat) : Int) = p)) (hq : Seal (((mp B.toNat (pw key.toNat r) : Nat) : Int) = q)) :
    Calls Tryz.prog 47 #[.int .i64 key, .agg #[.int .i64 A, .int .i64 B], .int .i64 r] w fun e w' => e = .returned (.agg #[.int .i64 p, .int .i64 q]) ∧ Below w.heap.size w w' := by
  have H1 : Seal (∀ w, Calls Tryz.prog 66 #[.int .i64 A, .int .i64 4, .int .i64 r] w fun e w' => e = .returned (.int .i64 p) ∧ Below w.heap.size w w') := ⟨fun w => otimes_yes A 4 r p w hA (by decide +kernel) r1 r2 hp⟩
  have H2 : Seal (∀ w, Calls Tryz.prog 66 #[.int .i64 B, .int .i64 key, .int .i64 r] w fun e w' => e = .returned (.int .i64 q) ∧ Below w.heap.size w w') := ⟨fun w => otimes_yes B key r q w hB hk r1 r2 hq⟩
  obtain ⟨X, hX⟩ : ∃ X : World, X = (w.alloc (.cells #[.int .i64 A, .int .i64 B] 24)).alloc (.cells #[.int .i64 0, .int .i64 0] 24) := ⟨_, rfl⟩
  have hXb : Seal (Below w.heap.size w X) := ⟨by rw [hX]; exact ((Below.refl _ w).alloc (Nat.le_refl _) _).alloc (by rw [size_alloc]; omega) _⟩
  have hXs : Seal (X.heap.size = w.heap.size + 2) := ⟨by rw [hX, size_alloc, size_alloc]⟩
  have hXo : Seal (X.heap[w.heap.size]? = some (.cells #[.int .i64 A, .int .i64 B] 24 (0, 0))) := ⟨by rw [hX]; exact heap_alloc2_old w _ _⟩
  have hXn : Seal (X.heap[w.heap.size + 1]? = some (.cells #[.int .i64 0, .int .i64 0] 24 (0, 0))) := ⟨by rw [hX]; exact heap_alloc2_new w _ _⟩
  have k0 : X.cell? ⟨w.heap.size, 0, none⟩ = some (.int .i64 A) := by rw [cell_of_row _ _ _ _ _ _ hXo.out]; rfl
  have k1 : X.cell? ⟨w.heap.size, 1, none⟩ = some (.int .i64 B) := by rw [cell_of_row _ _ _ _ _ _ hXo.out]; rfl
  have n0 : X.cell? ⟨w.heap.size + 1, 0, none⟩ = some (.int .i64 0) := by rw [cell_of_row _ _ _ _ _ _ hXn.out]; rfl
  have n1 : X.cell? ⟨w.heap.size + 1, 1, none⟩ = some (.int .i64 0) := by rw [cell_of_row _ _ _ _ _ _ hXn.out]; rfl
  clear hk hA hB hp hq
  go_enter Tryz.func47, Tryz.ntmps47
  go_wp2_with fail
  rw [← hX]
  clear hX
  go_region_held3 (fun w' => w'.cell? ⟨w.heap.size, 0, none⟩ = some (.int .i64 A) ∧ w'.cell? ⟨w.heap.size, 1, none⟩ = some (.int .i64 B)) (first | (go_keep; done) | exact hk1 | exact hk2 | exact hk3 | exact hk4 | exact hk5) (first
    | (go_at_call 66; first
       | (with_reducible refine (H1.out X.drew).mono ?_
          rintro e w1 ⟨rfl, hb1⟩
          have hb1' : Below X.heap.size X w1 := ⟨hb1.os, hb1.tape, hb1.output, hb1.size, hb1.block⟩
          have HB1 := Seal.mk hb1'
          have hk1 : w1.cell? ⟨w.heap.size, 0, none⟩ = some (.int .i64 A) ∧ w1.cell? ⟨w.heap.size, 1, none⟩ = some (.int .i64 B) := ⟨(hb1'.cell (p := ⟨w.heap.size, 0, none⟩) (by rw [hXs.out]; exact Nat.lt_succ_of_lt (Nat.lt_succ_self _))).trans k0, (hb1'.cell (p := ⟨w.heap.size, 1, none⟩) (by rw [hXs.out]; exact Nat.lt_succ_of_lt (Nat.lt_succ_self _))).trans k1⟩
          clear hb1 hb1')
       | (with_reducible refine (H2.out w1).mono ?_
          rintro e w2 ⟨rfl, hb2⟩
          have hb2' : Below X.heap.size X w2 := HB1.out.trans (hb2.mono HB1.out.size)
          have HB2 := Seal.mk hb2'
          have hk2 : w2.cell? ⟨w.heap.size, 0, none⟩ = some (.int .i64 A) ∧ w2.cell? ⟨w.heap.size, 1, none⟩ = some (.int .i64 B) := ⟨(hb2'.cell (p := ⟨w.heap.size, 0, none⟩) (by rw [hXs.out]; exact Nat.lt_succ_of_lt (Nat.lt_succ_self _))).trans k0, (hb2'.cell (p := ⟨w.heap.size, 1, none⟩) (by rw [hXs.out]; exact Nat.lt_succ_of_lt (Nat.lt_succ_self _))).trans k1⟩
          have hR2 : Seal (w2.heap[w.heap.size + 1]? = some (.cells #[.int .i64 0, .int .i64 0] 24 (0, 0))) := ⟨(hb2'.block _ (by rw [hXs.out]; omega)).trans hXn.out⟩
          have m0 : w2.cell? ⟨w.heap.size + 1, 0, none⟩ = some (.int .i64 0) := by rw [cell_of_row _ _ _ _ _ _ hR2.out]; rfl
          have m1 : w2.cell? ⟨w.heap.size + 1, 1, none⟩ = some (.int .i64 0) := by rw [cell_of_row _ _ _ _ _ _ hR2.out]; rfl
          have f0 : w2.frozen? ⟨w.heap.size + 1, 0, none⟩ = false := frozen_of_row _ _ _ _ _ hR2.out
          have f1 : w2.frozen? ⟨w.heap.size + 1, 1, none⟩ = false := frozen_of_row _ _ _ _ _ hR2.out
          clear hb2 hb2')))
  all_goals
    go_wp2
    have hr9 := heap_setCell_row (cs := [.int .i64 p, .int .i64 0]) (i := 1) (.int .i64 q) (heap_setCell_row (cs := [.int .i64 0, .int .i64 0]) (i := 0) (.int .i64 p) hR2.out)
    have hd0 := cell_of_row _ _ 0 _ _ _ hr9
    have hd1 := cell_of_row _ _ 1 _ _ _ hr9
    simp only [List.set_cons_zero, List.set_cons_succ] at hd0 hd1
    refine bodyPost_ret (v := .agg #[.int .i64 p, .int .i64 q]) (by simp [results, Tryz.results47, go_sem, hd0, hd1]) rfl ⟨rfl, ?_⟩
    exact ((hXb.out.trans (HB2.out.mono hXb.out.size)).setCell (p := ⟨w.heap.size + 1, 0, none⟩) (Nat.le_succ _) _).setCell (p := ⟨w.heap.size + 1, 1, none⟩) (Nat.le_succ _) _

def tReturn : Bytes := [114, 101, 116, 117, 114, 110]
/-- the tag of a return's four numbers -/
def rtag (L K P Q : Int) : Bytes := tagged tReturn (encL (lfs [L, K, P, Q]))

/-- a return's cells bear these four numbers -/
def RetHead (C : List Value) (L K P Q : Int) : Prop := C[0]? = some (.int .i64 L) ∧ C[1]? = some (.int .i64 K) ∧ C[2]? = some (.int .i64 P) ∧ C[3]? = some (.int .i64 Q)

set_option maxHeartbeats 1000000 in
theorem otag_any (L K P Q : Int) (C : List Value) (w : World) (hG : Glob w)
    (hok : ∀ n ∈ [L, K, P, Q], -9223372036854775808 ≤ n ∧ n ≤ 9223372036854775807)
    (hc : RetHead C L K P Q)
    (H1 : Seal ((Tryz.prog.info? 28).map (·.size) = some C.length)) (H2 : Seal (C.length = 36)) (H3 : Seal (∀ u ∈ C, u.oneCell' = true)) :
    Calls Tryz.prog 64 #[.agg C.toArray] w fun e w' => e = .returned (.agg ((rtag L K P Q).map B).toArray) ∧ Below w.heap.size w w' := by
  have _ := H1
  have _ := H2
  have _ := H3
  obtain ⟨hc0, hc1, hc2, hc3⟩ := hc
  obtain ⟨X, hX⟩ : ∃ X : World, X = ((w.alloc (.cells C.toArray 28)).alloc (.cells #[.int .u8 0, .int .u8 0, .int .u8 0, .int .u8 0, .int .u8 0, .int .u8 0, .int .u8 0, .int .u8 0, .int .u8 0, .int .u8 0, .int .u8 0, .int .u8 0, .int .u8 0, .int .u8 0, .int .u8 0, .int .u8 0, .int .u8 0, .int .u8 0, .int .u8 0, .int .u8 0, .int .u8 0, .int .u8 0, .int .u8 0, .int .u8 0, .int .u8 0, .int .u8 0, .int .u8 0, .int .u8 0, .int .u8 0, .int .u8 0, .int .u8 0, .int .u8 0] 26)).alloc (.cells #[.int .i64 L, .int .i64 K, .int .i64 P, .int .i64 Q] 3) := ⟨_, rfl⟩
  have hXb : Seal (Below w.heap.size w X) := ⟨by rw [hX]; exact (((Below.refl _ w).alloc (Nat.le_refl _) _).alloc (by rw [size_alloc]; omega) _).alloc (by rw [size_alloc, size_alloc]; omega) _⟩
  have hXs : Seal (X.heap.size = w.heap.size + 3) := ⟨by rw [hX, size_alloc, size_alloc, size_alloc]⟩
  have hXn : Seal (X.heap[w.heap.size + 1]? = some (.cells #[.int .u8 0, .int .u8 0, .int .u8 0, .int .u8 0, .int .u8 0, .int .u8 0, .int .u8 0, .int .u8 0, .int .u8 0, .int .u8 0, .int .u8 0, .int .u8 0, .int .u8 0, .int .u8 0, .int .u8 0, .int .u8 0, .int .u8 0, .int .u8 0, .int .u8 0, .int .u8 0, .int .u8 0, .int .u8 0, .int .u8 0, .int .u8 0, .int .u8 0, .int .u8 0, .int .u8 0, .int .u8 0, .int .u8 0, .int .u8 0, .int .u8 0, .int .u8 0] 26 (0, 0))) := ⟨by
    rw [hX, Below.heap_alloc _ _ _ (by rw [size_alloc, size_alloc]; omega)]
    exact heap_alloc2_new w _ _⟩
  have hXr : X.heap[w.heap.size + 1 + 1]? = some (.cells #[.int .i64 L, .int .i64 K, .int .i64 P, .int .i64 Q] 3 (0, 0)) := by
    rw [hX]
    have := heap_alloc_new ((w.alloc (.cells C.toArray 28)).alloc (.cells #[.int .u8 0, .int .u8 0, .int .u8 0, .int .u8 0, .int .u8 0, .int .u8 0, .int .u8 0, .int .u8 0, .int .u8 0, .int .u8 0, .int .u8 0, .int .u8 0, .int .u8 0, .int .u8 0, .int .u8 0, .int .u8 0, .int .u8 0, .int .u8 0, .int .u8 0, .int .u8 0, .int .u8 0, .int .u8 0, .int .u8 0, .int .u8 0, .int .u8 0, .int .u8 0, .int .u8 0, .int .u8 0, .int .u8 0, .int .u8 0, .int .u8 0, .int .u8 0] 26)) (.cells #[.int .i64 L, .int .i64 K, .int .i64 P, .int .i64 Q] 3)
    rwa [size_alloc, size_alloc] at this
  have HT : Seal (Calls Tryz.prog 85 #[.slice (some ⟨w.heap.size + 1 + 1, 0, none⟩) 4 4] X (ListPost (encL (lfs [L, K, P, Q])) X)) := ⟨otext_any (w.heap.size + 1 + 1) 0 4 4 [L, K, P, Q] X rfl (Nat.le_refl _) (by decide) (by decide) (fun j n hj => by
    rw [Nat.zero_add, cell_of_row _ _ _ _ _ _ hXr]
    match j, hj with
    | 0, hj => cases hj; rfl
    | 1, hj => cases hj; rfl
    | 2, hj => cases hj; rfl
    | 3, hj => cases hj; rfl) hok⟩
  have HL : Seal ((encL (lfs [L, K, P, Q])).length ≤ 55) := ⟨by have := encL_length (lfs [L, K, P, Q]); rw [wgts_lfs] at this; exact this⟩
  have HG : Seal (Glob X) := ⟨hG.below hXb.out⟩
  have HR : Seal (tagged tReturn (encL (lfs [L, K, P, Q])) = rtag L K P Q) := ⟨rfl⟩
  generalize encL (lfs [L, K, P, Q]) = T at HT HL HR
  clear hXr hok hG
  go_enter Tryz.func64, Tryz.ntmps64
  go_wp2_with fail
  rw [hX] at HT
  refine HT.out.mono ?_
  rw [← hX]
  clear hX
  rintro e w1 ⟨g1, n1, c1, hn1, rfl, hf1⟩
  have HG1 : Glob w1 := HG.out.below hf1.out.2.2.2.2
  have HC : Seal _ := ⟨tagged_some ⟨tReturn.toArray⟩ g1 0 n1 c1 T w1 HG1 (by decide) (by decide) hn1.out hf1.out.1 (by have := hn1.out; have := HL.out; omega) hf1.out.2.1 hf1.out.2.2.2.1 hf1.out.2.2.1⟩
  have HB1 : Seal (Below w.heap.size w w1) := ⟨hXb.out.trans (hf1.out.2.2.2.2.mono hXb.out.size)⟩
  have HZ1 : Seal (w1.heap[w.heap.size + 1]? = some (.cells #[.int .u8 0, .int .u8 0, .int .u8 0, .int .u8 0, .int .u8 0, .int .u8 0, .int .u8 0, .int .u8 0, .int .u8 0, .int .u8 0, .int .u8 0, .int .u8 0, .int .u8 0, .int .u8 0, .int .u8 0, .int .u8 0, .int .u8 0, .int .u8 0, .int .u8 0, .int .u8 0, .int .u8 0, .int .u8 0, .int .u8 0, .int .u8 0, .int .u8 0, .int .u8 0, .int .u8 0, .int .u8 0, .int .u8 0, .int .u8 0, .int .u8 0, .int .u8 0] 26 (0, 0))) := ⟨(hf1.out.2.2.2.2.block _ (by rw [hXs.out]; omega)).trans hXn.out⟩
  have HE1 : Seal ((Tryz.prog.info? 26).map (·.size) = some ((rtag L K P Q).map B).toArray.size) := ⟨by rw [List.size_toArray]; exact sha_info _⟩
  have HE2 : Seal (((rtag L K P Q).map B).toArray.size = 32) := ⟨by rw [List.size_toArray, List.length_map]; exact sha_length _⟩
  have HE3 : Seal (((rtag L K P Q).map B).toArray.all (·.oneCell') = true) := ⟨by simp [Value.oneCell']⟩
  have HCr : Seal (Calls Tryz.prog 48 #[.string ⟨tReturn.toArray⟩, .slice (some ⟨g1, 0, none⟩) n1 c1] w1 fun e w' => e = .returned (.agg ((rtag L K P Q).map B).toArray) ∧ Below w1.heap.size w1 w') := ⟨by rw [← HR.out]; exact HC.out⟩
  obtain ⟨E, hE⟩ : ∃ E, Seal (E = ((rtag L K P Q).map B).toArray) := ⟨_, ⟨rfl⟩⟩
  rw [← hE.out] at HE1 HE2 HE3 HCr
  have hz1 : w.heap.size + 1 < w1.heap.size := (Array.getElem?_eq_some_iff.1 HZ1.out).1
  clear HC hf1 HG1
  go_wp2_with (first | (go_at_call 48; refine HCr.out.mono ?_; rintro e w4 ⟨rfl, hb4⟩; have HZ4 := Seal.mk ((hb4.block _ hz1).trans HZ1.out); have HB5 := Seal.mk (HB1.out.trans (hb4.mono (by omega))); clear hb4) | (refine wpList_store_row rfl 26 (.tmp 2) (.tmp 15) rfl (w.heap.size + 1) E rfl rfl 26 _ HZ4.out HE1.out HE2.out.symm HE3.out ?_))
  refine bodyPost_ret (results_cell_row (fn := Tryz.f64) rfl _ _ (w.heap.size + 1) 26 E (0, 0) _ rfl (setRow_heap _ _ _ _ _ _ HZ4.out) Tryz.underlying26 rfl HE1.out) rfl ⟨by rw [hE.out], below_row HB5.out (Nat.le_succ _) _⟩
end Frk

/- slices.Clone at digests. -/
namespace Frk
open Go Go.RowKit Go.Proofs
set_option maxRecDepth 100000

/-- a slice of digests of the call's own -/
def OwnD (w : World) (base : Nat) (v : Value) (n : Nat) (l : List Bytes) : Prop := w.ownsRow base 26 32 v n (dcells l)

/-- what Insert leaves -/
def InsPost (base n : Nat) (l : List Bytes) (w : World) (e : Ending) (w' : World) : Prop :=
  ∃ g c, e = .returned (.slice (some ⟨g, 0, none⟩) (n + 1) c) ∧ Seal (OwnD w' base (.slice (some ⟨g, 0, none⟩) (n + 1) c) (n + 1) l) ∧ Below base w w'

theorem digest_one (d : Bytes) : ∀ u ∈ d.map B, u.oneCell' = true := by
  intro u hu
  obtain ⟨b, _, rfl⟩ := List.mem_map.1 hu
  rfl

/-- what insertion leaves in a new row -/
theorem lay_grow (A Z D E : List Value) :
    (lay (lay (A ++ Z) A.length D) (A.length + D.length) E).take (A.length + D.length + E.length) = A ++ D ++ E := by
  have e1 : lay (A ++ Z) A.length D = (A ++ D) ++ Z.drop D.length := by
    unfold lay
    rw [List.take_left, List.drop_append, List.drop_of_length_le (by omega), List.nil_append, show A.length + D.length - A.length = D.length from by omega]
  have e2 : lay ((A ++ D) ++ Z.drop D.length) (A.length + D.length) E = (A ++ D ++ E) ++ Z.drop (D.length + E.length) := by
    have hl : A.length + D.length = (A ++ D).length := by simp
    unfold lay
    rw [hl, List.take_left, List.drop_append, List.drop_of_length_le (by omega), List.nil_append, show (A ++ D).length + E.length - (A ++ D).length = E.length from by omega, List.drop_drop]
  rw [e1, e2, List.take_left' (by simp; omega)]

end Frk

