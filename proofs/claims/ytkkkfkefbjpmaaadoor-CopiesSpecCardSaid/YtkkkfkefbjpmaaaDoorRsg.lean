/- The reference's sign: values, Hash. -/
import Derived.Test.YtkkkfkefbjpmaaaDoorRel
import Derived.Test.YtkkkfkefbjpmaaaDoorRgh
import Derived.Test.YtkkkfkefbjpmaaaDoorRpw
namespace Frk
open Go Go.RowKit Go.Proofs
set_option maxRecDepth 100000

theorem rint_any (n : Int) (w : World) : Calls Tryd.prog 63 #[.int .i64 n] w fun e w' => e = .returned (.agg #[.int .i64 1, .int .i64 n, .string ByteArray.empty, .slice none 0 0]) ∧ Below w.heap.size w w' := by
  go_enter Tryd.func63, Tryd.ntmps63
  go_wp2
  refine bodyPost_ret (results_cell_row (fn := Tryd.f63) rfl _ _ w.heap.size 100 _ (0, 0) _ rfl (heap_alloc_new w _) Tryd.underlying100 rfl (by kernel_rfl)) rfl ⟨rfl, below_alloc _ _⟩

theorem rtext_any (s : ByteArray) (w : World) : Calls Tryd.prog 64 #[.string s] w fun e w' => e = .returned (.agg #[.int .i64 2, .int .i64 0, .string s, .slice none 0 0]) ∧ Below w.heap.size w w' := by
  go_enter Tryd.func64, Tryd.ntmps64
  go_wp2
  refine bodyPost_ret (results_cell_row (fn := Tryd.f64) rfl _ _ w.heap.size 100 _ (0, 0) _ rfl (heap_alloc_new w _) Tryd.underlying100 rfl (by kernel_rfl)) rfl ⟨rfl, below_alloc _ _⟩

theorem rlist_any (a : Option Addr) (n c : Nat) (w : World) : Calls Tryd.prog 62 #[.slice a n c] w fun e w' => e = .returned (.agg #[.int .i64 3, .int .i64 0, .string ByteArray.empty, .slice a n c]) ∧ Below w.heap.size w w' := by
  go_enter Tryd.func62, Tryd.ntmps62
  go_wp2
  refine bodyPost_ret (results_cell_row (fn := Tryd.f62) rfl _ _ w.heap.size 100 _ (0, 0) _ rfl (heap_alloc_new w _) Tryd.underlying100 rfl (by kernel_rfl)) rfl ⟨rfl, below_alloc _ _⟩

theorem IsB.drew {w : World} {a : Option Addr} {len cap : Nat} {l : Bytes} (h : IsB w a len cap l) : IsB w.drew a len cap l := ⟨h.llen, h.lcap, h.lmax, h.cmax, h.at_⟩

/-- leaves in a block that the text has made -/
theorem leavesAt_new (w : World) (xs : List Lf) (fr : Nat × Nat) (t : TypeId) : LeavesAt (w.alloc (.cells (xs.flatMap Lf.cells).toArray t fr)) w.heap.size 0 xs := by
  intro k x hx j c hc
  rw [cell_of_row _ _ _ _ _ _ (heap_alloc_new w _), Nat.zero_add]
  have key : ∀ (xs : List Lf) (k : Nat) (x : Lf), xs[k]? = some x → ∀ (j : Nat) (c : Value), x.cells[j]? = some c → (xs.flatMap Lf.cells)[k * 4 + j]? = some c := by
    intro xs
    induction xs with
    | nil => intro k x h; simp at h
    | cons y ys ih =>
      intro k x hx j c hc
      have hy : y.cells.length = 4 := by cases y <;> rfl
      cases k with
      | zero =>
        have e : y = x := by simpa using hx
        subst e
        have hj : j < 4 := by rw [← hy]; exact (List.getElem?_eq_some_iff.1 hc).1
        rw [List.flatMap_cons, List.getElem?_append_left (by omega), Nat.zero_mul, Nat.zero_add]; exact hc
      | succ k =>
        rw [List.flatMap_cons, List.getElem?_append_right (by omega), hy, show (k + 1) * 4 + j - 4 = k * 4 + j from by omega]
        exact ih k x (by simpa using hx) j c hc
  have := key xs k x hx j c hc
  simpa using this

set_option maxHeartbeats 1000000 in
theorem rhash_any (r key : Int) (a : Option Addr) (len cap : Nat) (b : Bytes) (w : World) (hb : IsB w a len cap b) (hl : len ≤ 1099511627776) (r1 : -9223372036854775808 ≤ r) (r2 : r ≤ 9223372036854775807) (k1 : -9223372036854775808 ≤ key) (k2 : key ≤ 9223372036854775807) :
    Calls Tryd.prog 25 #[.int .i64 r, .int .i64 key, .slice a len cap] w fun e w' => e = .returned (.int .i64 (sgHash r key b)) ∧ Below w.heap.size w w' := by
  have HI := Seal.mk hb
  have hcv := IsB.conv (w := w.drew) hb.drew
  have HW : Seal (wgts [.i r, .i key, .t b] = len + 33) := ⟨by simp [wgts, Lf.wgt, hb.llen]; omega⟩
  have HF : Seal (∀ y ∈ [Lf.i r, .i key, .t b], y.fits) := ⟨by
    intro y hy
    simp only [List.mem_cons, List.not_mem_nil, or_false] at hy
    rcases hy with rfl | rfl | rfl
    · exact ⟨r1, r2⟩
    · exact ⟨k1, k2⟩
    · show b.length < 2 ^ 63; rw [hb.llen]; omega⟩
  have HG : Seal (sgHash r key b = ghash tSign (encL [.i r, .i key, .t b])) := ⟨rfl⟩
  have HLN : Seal ((encL [.i r, .i key, .t b]).length ≤ len + 44) := ⟨by have := encL_length [.i r, .i key, .t b]; rw [HW.out] at this; omega⟩
  have HL0 := fun w3 => Seal.mk (leavesAt_new w3 [.i r, .i key, .t b] (0, 0) 100)
  clear hb
  go_enter Tryd.func25, Tryd.ntmps25
  go_wp2_with fail
  go_region_held3 (fun w' => (convert 47 9 (.slice a len cap)).run Tryd.prog w' = .ok (.string ⟨b.toArray⟩) w') (first | exact hcv | exact IsB.conv HI1.out | exact IsB.conv HI2.out | exact IsB.conv HI3.out | exact IsB.conv (HI3.out.below (below_alloc _ _)) | exact IsB.conv HI4.out | exact IsB.conv HI5.out) (first
    | (go_at_call 63; first
       | (with_reducible refine (rint_any r w.drew).mono ?_
          rintro e w1 ⟨rfl, hb1⟩
          have HB1 : Seal (Below w.heap.size w w1) := ⟨⟨hb1.os, hb1.tape, hb1.output, hb1.size, hb1.block⟩⟩
          have HI1 : Seal (IsB w1 a len cap b) := ⟨HI.out.below HB1.out⟩
          clear hb1 hcv)
       | (with_reducible refine (rint_any key w1).mono ?_
          rintro e w2 ⟨rfl, hb2⟩
          have HB2 : Seal (Below w.heap.size w w2) := ⟨HB1.out.trans (hb2.mono HB1.out.size)⟩
          have HI2 : Seal (IsB w2 a len cap b) := ⟨HI.out.below HB2.out⟩
          clear hb2 HB1 HI1))
    | (go_at_call 64; refine (rtext_any _ w2).mono ?_
       rintro e w3 ⟨rfl, hb3⟩
       have HB3 : Seal (Below w.heap.size w w3) := ⟨HB2.out.trans (hb3.mono HB2.out.size)⟩
       have HL3 := HL0 w3
       have HI3 : Seal (IsB w3 a len cap b) := ⟨HI.out.below HB3.out⟩
       clear hb3 HB2 HL0 HI2)
    | (go_at_call 62; refine (rlist_any _ _ _ _).mono ?_
       rintro e w4 ⟨rfl, hb4⟩
       have HL4 : Seal (LeavesAt w4 w3.heap.size 0 [.i r, .i key, .t b]) := ⟨HL3.out.below hb4 (by rw [size_alloc]; omega)⟩
       have HB4 : Seal (Below w.heap.size w w4 ∧ w3.heap.size < w4.heap.size) := ⟨(HB3.out.alloc HB3.out.size _).trans (hb4.mono (by rw [size_alloc]; have := HB3.out.size; omega)), by have := hb4.size; rw [size_alloc] at this; omega⟩
       have HC : Seal _ := ⟨rencode_any w3.heap.size 0 3 3 [.i r, .i key, .t b] w4 rfl (Nat.le_refl _) (by rw [HW.out]; omega) HL4.out HB4.out.2 HF.out⟩
       have HI4 : Seal (IsB w4 a len cap b) := ⟨HI.out.below HB4.out.1⟩
       clear hb4 HL3 HB3 HL4 HI3)
    | (go_at_call 61; refine HC.out.mono ?_
       rintro e w5 ⟨g5, n5, c5, rfl, hS5⟩
       have HB5 : Seal (Below w.heap.size w w5) := ⟨HB4.out.1.trans (hS5.out.bel.mono HB4.out.1.size)⟩
       have hn5 : n5 ≤ len + 44 := by have := HLN.out; rw [hS5.out.len] at this; omega
       have HC6 : Seal _ := ⟨rghash_any ⟨tSign.toArray⟩ (some ⟨g5, 0, none⟩) n5 c5 _ w5 (hS5.out.isB (by omega)) (by decide) (by omega)⟩
       have HI5 : Seal (IsB w5 a len cap b) := ⟨HI.out.below HB5.out⟩
       clear hS5 HB4 HC HI4))
  all_goals
    go_wp2_with (go_at_call 65; refine HC6.out.mono ?_; rintro e w6 ⟨rfl, hb6⟩)
    go_ret
    exact ⟨ret_i64 (by rw [HG.out]), HB5.out.trans (hb6.mono HB5.out.size)⟩

set_option maxHeartbeats 1000000 in
theorem rsign_no (x : Int) (v : Value) (w : World) (h : x < 1 ∨ 1073741789 ≤ x) :
    Calls Tryd.prog 49 #[.int .i64 x, v] w fun e w' => e = .returned (.tuple #[.agg #[.int .i64 0, .int .i64 0], .int .i64 110]) ∧ Below w.heap.size w w' := by
  rcases h with h | h
  · go_enter Tryd.func49, Tryd.ntmps49
    go_wp2
    refine bodyPost_ret (v := .tuple #[.agg #[.int .i64 0, .int .i64 0], .int .i64 110]) (by simp [results, Tryd.results49, go_sem]) rfl ⟨rfl, below_alloc _ _⟩
  · have h' : ¬ x < 1 := by omega
    go_enter Tryd.func49, Tryd.ntmps49
    go_wp2
    refine bodyPost_ret (v := .tuple #[.agg #[.int .i64 0, .int .i64 0], .int .i64 110]) (by simp [results, Tryd.results49, go_sem]) rfl ⟨rfl, below_alloc _ _⟩

theorem lq_id {x : Int} (h0 : 0 ≤ x) (h1 : x < 1073741789) : ((lq x : Nat) : Int) = x := by
  rw [lq_cast]; exact Int.emod_eq_of_lt h0 h1

theorem rp4 (n : Int) (w : World) (p : Int) (hp : Seal (((pw 4 n : Nat) : Int) = p)) :
    Calls Tryd.prog 59 #[.int .i64 4, .int .i64 n] w fun e w' => e = .returned (.tuple #[.int .i64 p, .int .i64 0]) ∧ w = w' :=
  rpow_yes 4 n p w (by decide +kernel) hp

set_option maxHeartbeats 2000000 in
theorem rsign_yes (x : Int) (a : Option Addr) (len cap : Nat) (b : Bytes) (w : World) (h0 : 1 ≤ x) (h1 : x < 1073741789) (hb : IsB w a len cap b) (hl : len ≤ 1099511627776) :
    Calls Tryd.prog 49 #[.int .i64 x, .slice a len cap] w fun e w' => e = .returned (.tuple #[.agg #[.int .i64 (sgE x b), .int .i64 (sgS x b)], .int .i64 0]) ∧ Below w.heap.size w w' := by
  obtain ⟨X, hX⟩ : ∃ X : World, Seal (X = w.alloc (.cells #[.int .i64 0, .int .i64 0] 27)) := ⟨_, ⟨rfl⟩⟩
  have hXb : Seal (Below w.heap.size w X) := ⟨by rw [hX.out]; exact below_alloc _ _⟩
  have hXs : Seal (X.heap.size = w.heap.size + 1) := ⟨by rw [hX.out, size_alloc]⟩
  have hXr : Seal (X.heap[w.heap.size]? = some (.cells #[.int .i64 0, .int .i64 0] 27 (0, 0))) := ⟨by rw [hX.out]; exact heap_alloc_new w _⟩
  have HI : Seal (IsB X a len cap b) := ⟨hb.below hXb.out⟩
  have hcv := IsB.conv (w := X.drew) HI.out.drew
  have HW : Seal (wgts [.i x, .t b] = len + 22) := ⟨by simp [wgts, Lf.wgt, hb.llen]; omega⟩
  have HF : Seal (∀ y ∈ [Lf.i x, .t b], y.fits) := ⟨by
    intro y hy
    simp only [List.mem_cons, List.not_mem_nil, or_false] at hy
    rcases hy with rfl | rfl
    · exact ⟨by omega, by omega⟩
    · show b.length < 2 ^ 63; rw [hb.llen]; omega⟩
  have HLN : Seal ((encL [.i x, .t b]).length ≤ len + 33) := ⟨by have := encL_length [.i x, .t b]; rw [HW.out] at this; omega⟩
  have HL0 := fun w3 => Seal.mk (leavesAt_new w3 [.i x, .t b] (0, 0) 100)
  have HK : Seal (sgK x b = max (ghash tNonce (encL [.i x, .t b])) 1) := ⟨rfl⟩
  have hlt := ghash_lt tNonce (encL [.i x, .t b])
  have n1 : ¬ x < 1 := by omega
  have n2 : ¬ 1073741789 ≤ x := by omega
  clear hb
  go_enter Tryd.func49, Tryd.ntmps49
  go_wp2_with fail
  rw [← hX.out]
  go_region_held3 (fun w' => (convert 47 9 (.slice a len cap)).run Tryd.prog w' = .ok (.string ⟨b.toArray⟩) w') (first | exact hcv | exact IsB.conv HI1.out | exact IsB.conv HI3.out | exact IsB.conv (HI3.out.below (below_alloc _ _)) | exact IsB.conv HI4.out | exact IsB.conv HI5.out) (first
    | (go_at_call 63; refine (rint_any x X.drew).mono ?_
       rintro e w1 ⟨rfl, hb1⟩
       have HB1 : Seal (Below X.heap.size X w1) := ⟨⟨hb1.os, hb1.tape, hb1.output, hb1.size, hb1.block⟩⟩
       have HI1 : Seal (IsB w1 a len cap b) := ⟨HI.out.below HB1.out⟩
       clear hb1 hcv)
    | (go_at_call 64; refine (rtext_any _ w1).mono ?_
       rintro e w3 ⟨rfl, hb3⟩
       have HB3 : Seal (Below X.heap.size X w3) := ⟨HB1.out.trans (hb3.mono HB1.out.size)⟩
       have HL3 := HL0 w3
       have HI3 : Seal (IsB w3 a len cap b) := ⟨HI.out.below HB3.out⟩
       clear hb3 HB1 HL0 HI1)
    | (go_at_call 62; refine (rlist_any _ _ _ _).mono ?_
       rintro e w4 ⟨rfl, hb4⟩
       have HL4 : Seal (LeavesAt w4 w3.heap.size 0 [.i x, .t b]) := ⟨HL3.out.below hb4 (by rw [size_alloc]; omega)⟩
       have HB4 : Seal (Below X.heap.size X w4 ∧ w3.heap.size < w4.heap.size) := ⟨(HB3.out.alloc HB3.out.size _).trans (hb4.mono (by rw [size_alloc]; have := HB3.out.size; omega)), by have := hb4.size; rw [size_alloc] at this; omega⟩
       have HC : Seal _ := ⟨rencode_any w3.heap.size 0 2 2 [.i x, .t b] w4 rfl (Nat.le_refl _) (by rw [HW.out]; omega) HL4.out HB4.out.2 HF.out⟩
       have HI4 : Seal (IsB w4 a len cap b) := ⟨HI.out.below HB4.out.1⟩
       clear hb4 HL3 HB3 HL4 HI3)
    | (go_at_call 61; refine HC.out.mono ?_
       rintro e w5 ⟨g5, n5, c5, rfl, hS5⟩
       have HB5 : Seal (Below X.heap.size X w5) := ⟨HB4.out.1.trans (hS5.out.bel.mono HB4.out.1.size)⟩
       have hn5 : n5 ≤ len + 33 := by have := HLN.out; rw [hS5.out.len] at this; omega
       have HC6 : Seal _ := ⟨rghash_any ⟨tNonce.toArray⟩ (some ⟨g5, 0, none⟩) n5 c5 _ w5 (hS5.out.isB (by omega)) (by decide) (by omega)⟩
       have HI5 : Seal (IsB w5 a len cap b) := ⟨HI.out.below HB5.out⟩
       clear hS5 HB4 HC HI4))
  go_wp2_with fail
  refine HC6.out.mono ?_
  rintro e w6 ⟨rfl, hb6⟩
  have HB6 : Seal (Below X.heap.size X w6) := ⟨HB5.out.trans (hb6.mono HB5.out.size)⟩
  have HI6 : Seal (IsB w6 a len cap b) := ⟨HI.out.below HB6.out⟩
  have HR6 : Seal (w6.heap[w.heap.size]? = some (.cells #[.int .i64 0, .int .i64 0] 27 (0, 0))) := ⟨(HB6.out.block _ (by rw [hXs.out]; omega)).trans hXr.out⟩
  clear hb6 HB5 HC6 HI5 hn5
  show _
  change ghash tNonce (encL [Lf.i x, Lf.t b]) < 1073741789 at hlt
  rw [show (ghash (ByteArray.mk tNonce.toArray).data.toList (encL [Lf.i x, Lf.t b])) = ghash tNonce (encL [Lf.i x, Lf.t b]) from rfl]
  generalize ghash tNonce (encL [Lf.i x, Lf.t b]) = k0 at *
  by_cases hk0 : k0 = 0
  · have HK1 : Seal (sgK x b = 1) := ⟨by rw [HK.out, hk0]; rfl⟩
    subst hk0
    obtain ⟨p, hp⟩ : ∃ p : Int, ((pw 4 x : Nat) : Int) = p := ⟨_, rfl⟩
    obtain ⟨q, hq⟩ : ∃ q : Int, ((pw 4 1 : Nat) : Int) = q := ⟨_, rfl⟩
    have HP := Seal.mk hp
    have HQ := Seal.mk hq
    have hp1 := pw_lt 4 x
    have hp2 := pw_lt 4 1
    rw [show P = 2147483579 from rfl] at hp1 hp2
    have hpb : 0 ≤ p ∧ p < 2147483579 := by omega
    have hqb : 0 ≤ q ∧ q < 2147483579 := by omega
    obtain ⟨hpb1, hpb2⟩ := hpb
    obtain ⟨hqb1, hqb2⟩ := hqb
    have HE : Seal (sgE x b = sgHash q p b) := ⟨by rw [← hp, ← hq]; unfold sgE; rw [HK1.out] <;> rfl⟩
    have hel : sgHash q p b < 1073741789 := ghash_lt _ _
    obtain ⟨E, hE⟩ : ∃ E, sgHash q p b = E := ⟨_, rfl⟩
    have HHC := Seal.mk (rhash_any q p a len cap b w6 HI6.out hl (by omega) (by omega) (by omega) (by omega))
    rw [hE] at HE hel HHC
    have hS : (((1 : Nat) : Int) + ((lq (E : Int) * lq x % 1073741789 : Nat) : Int)) % 1073741789 = sgS x b := by
      unfold sgS
      rw [HE.out, HK1.out]
      rw [Int.natCast_emod, Int.natCast_mul, lq_id (by omega) (by omega), lq_id (x := x) (by omega) (by omega)] <;> rfl
    have HS := Seal.mk hS
    have hT : lq (E : Int) * lq x % 1073741789 < 1073741789 := Nat.mod_lt _ (by decide)
    clear hp hq hE hS hp1 hp2
    go_wp2_with fail
    refine (rp4 x _ p HP).mono ?_
    rintro e w' ⟨rfl, rfl⟩
    go_wp2_with fail
    refine (rp4 1 _ q HQ).mono ?_
    rintro e w' ⟨rfl, rfl⟩
    go_wp2_with fail
    refine HHC.out.mono ?_
    rintro e w7 ⟨rfl, hb7⟩
    have HB7 : Seal (Below w.heap.size w w7) := ⟨hXb.out.trans ((HB6.out.trans (hb7.mono HB6.out.size)).mono hXb.out.size)⟩
    have HR7 : Seal (w7.heap[w.heap.size]? = some (.cells #[.int .i64 0, .int .i64 0] 27 (0, 0))) := ⟨(hb7.block _ (Array.getElem?_eq_some_iff.1 HR6.out).1).trans HR6.out⟩
    clear hb7 HHC
    go_wp2_with fail
    refine (rtimes_any _ _ _).mono ?_
    rintro e w' ⟨rfl, rfl⟩
    generalize lq (E : Int) * lq x % 1073741789 = T at *
    have c0 : w7.cell? ⟨w.heap.size, 0, none⟩ = some (.int .i64 0) := by rw [cell_of_row _ _ _ _ _ _ HR7.out]; rfl
    have c1 : w7.cell? ⟨w.heap.size, 1, none⟩ = some (.int .i64 0) := by rw [cell_of_row _ _ _ _ _ _ HR7.out]; rfl
    have f0 : w7.frozen? ⟨w.heap.size, 0, none⟩ = false := frozen_of_row _ _ _ _ _ HR7.out
    have f1 : w7.frozen? ⟨w.heap.size, 1, none⟩ = false := frozen_of_row _ _ _ _ _ HR7.out
    go_wp2
    have hr9 := heap_setCell_row (cs := [.int .i64 E, .int .i64 0]) (i := 1) (.int .i64 ((1 + (T : Int)) % 1073741789)) (heap_setCell_row (cs := [.int .i64 0, .int .i64 0]) (i := 0) (.int .i64 E) HR7.out)
    have hd0 := cell_of_row _ _ 0 _ _ _ hr9
    have hd1 := cell_of_row _ _ 1 _ _ _ hr9
    simp only [List.set_cons_zero, List.set_cons_succ] at hd0 hd1
    refine bodyPost_ret (v := .tuple #[.agg #[.int .i64 E, .int .i64 ((1 + (T : Int)) % 1073741789)], .int .i64 0]) (by simp [results, Tryd.results49, go_sem, hd0, hd1]) rfl ⟨by rw [← HS.out, HE.out] <;> rfl, ?_⟩
    exact (HB7.out.setCell (p := ⟨w.heap.size, 0, none⟩) (Nat.le_refl _) _).setCell (p := ⟨w.heap.size, 1, none⟩) (Nat.le_refl _) _
  · have HK1 : Seal (sgK x b = k0) := ⟨by rw [HK.out]; omega⟩
    have hk1 : ((k0 : Int) == 0) = false := by simp; exact hk0
    obtain ⟨p, hp⟩ : ∃ p : Int, ((pw 4 x : Nat) : Int) = p := ⟨_, rfl⟩
    obtain ⟨q, hq⟩ : ∃ q : Int, ((pw 4 (k0 : Int) : Nat) : Int) = q := ⟨_, rfl⟩
    have HP := Seal.mk hp
    have HQ := Seal.mk hq
    have hp1 := pw_lt 4 x
    have hp2 := pw_lt 4 (k0 : Int)
    rw [show P = 2147483579 from rfl] at hp1 hp2
    have hpb : 0 ≤ p ∧ p < 2147483579 := by omega
    have hqb : 0 ≤ q ∧ q < 2147483579 := by omega
    obtain ⟨hpb1, hpb2⟩ := hpb
    obtain ⟨hqb1, hqb2⟩ := hqb
    have HE : Seal (sgE x b = sgHash q p b) := ⟨by rw [← hp, ← hq]; unfold sgE; rw [HK1.out] <;> rfl⟩
    have hel : sgHash q p b < 1073741789 := ghash_lt _ _
    obtain ⟨E, hE⟩ : ∃ E, sgHash q p b = E := ⟨_, rfl⟩
    have HHC := Seal.mk (rhash_any q p a len cap b w6 HI6.out hl (by omega) (by omega) (by omega) (by omega))
    rw [hE] at HE hel HHC
    have hS : (((k0 : Nat) : Int) + ((lq (E : Int) * lq x % 1073741789 : Nat) : Int)) % 1073741789 = sgS x b := by
      unfold sgS
      rw [HE.out, HK1.out]
      rw [Int.natCast_emod, Int.natCast_mul, lq_id (by omega) (by omega), lq_id (x := x) (by omega) (by omega)] <;> rfl
    have HS := Seal.mk hS
    have hT : lq (E : Int) * lq x % 1073741789 < 1073741789 := Nat.mod_lt _ (by decide)
    clear hp hq hE hS hp1 hp2
    go_wp2_with fail
    refine (rp4 x _ p HP).mono ?_
    rintro e w' ⟨rfl, rfl⟩
    go_wp2_with fail
    refine (rp4 (k0 : Int) _ q HQ).mono ?_
    rintro e w' ⟨rfl, rfl⟩
    go_wp2_with fail
    refine HHC.out.mono ?_
    rintro e w7 ⟨rfl, hb7⟩
    have HB7 : Seal (Below w.heap.size w w7) := ⟨hXb.out.trans ((HB6.out.trans (hb7.mono HB6.out.size)).mono hXb.out.size)⟩
    have HR7 : Seal (w7.heap[w.heap.size]? = some (.cells #[.int .i64 0, .int .i64 0] 27 (0, 0))) := ⟨(hb7.block _ (Array.getElem?_eq_some_iff.1 HR6.out).1).trans HR6.out⟩
    clear hb7 HHC
    go_wp2_with fail
    refine (rtimes_any _ _ _).mono ?_
    rintro e w' ⟨rfl, rfl⟩
    generalize lq (E : Int) * lq x % 1073741789 = T at *
    have c0 : w7.cell? ⟨w.heap.size, 0, none⟩ = some (.int .i64 0) := by rw [cell_of_row _ _ _ _ _ _ HR7.out]; rfl
    have c1 : w7.cell? ⟨w.heap.size, 1, none⟩ = some (.int .i64 0) := by rw [cell_of_row _ _ _ _ _ _ HR7.out]; rfl
    have f0 : w7.frozen? ⟨w.heap.size, 0, none⟩ = false := frozen_of_row _ _ _ _ _ HR7.out
    have f1 : w7.frozen? ⟨w.heap.size, 1, none⟩ = false := frozen_of_row _ _ _ _ _ HR7.out
    go_wp2
    have hr9 := heap_setCell_row (cs := [.int .i64 E, .int .i64 0]) (i := 1) (.int .i64 (((k0 : Int) + (T : Int)) % 1073741789)) (heap_setCell_row (cs := [.int .i64 0, .int .i64 0]) (i := 0) (.int .i64 E) HR7.out)
    have hd0 := cell_of_row _ _ 0 _ _ _ hr9
    have hd1 := cell_of_row _ _ 1 _ _ _ hr9
    simp only [List.set_cons_zero, List.set_cons_succ] at hd0 hd1
    refine bodyPost_ret (v := .tuple #[.agg #[.int .i64 E, .int .i64 (((k0 : Int) + (T : Int)) % 1073741789)], .int .i64 0]) (by simp [results, Tryd.results49, go_sem, hd0, hd1]) rfl ⟨by rw [← HS.out, HE.out] <;> rfl, ?_⟩
    exact (HB7.out.setCell (p := ⟨w.heap.size, 0, none⟩) (Nat.le_refl _) _).setCell (p := ⟨w.heap.size, 1, none⟩) (Nat.le_refl _) _

theorem sgPoint_lt (key E S : Int) : sgPoint key E S < 2147483579 := Nat.mod_lt _ (by decide)

set_option maxHeartbeats 1000000 in
theorem rpoint_any (key E S : Int) (w : World) (hk : vd key = true) (hE : 0 ≤ E) (hE2 : E < 1073741789) :
    Calls Tryd.prog 24 #[.int .i64 key, .agg #[.int .i64 E, .int .i64 S]] w fun e w' => e = .returned (.int .i64 (sgPoint key E S)) ∧ Below w.heap.size w w' := by
  obtain ⟨p, hp⟩ : ∃ p : Int, ((pw 4 S : Nat) : Int) = p := ⟨_, rfl⟩
  obtain ⟨q, hq⟩ : ∃ q : Int, ((pw key.toNat (-E) : Nat) : Int) = q := ⟨_, rfl⟩
  obtain ⟨r, hr⟩ : ∃ r : Int, ((sgPoint key E S : Nat) : Int) = r := ⟨_, rfl⟩
  have v1 : vd p = true := by rw [← hp]; exact vd_pw (a := 4) (by decide +kernel) S
  have v2 : vd q = true := by rw [← hq]; exact vd_pw hk (-E)
  have HM : Seal (((mp p.toNat q.toNat : Nat) : Int) = r) := ⟨by rw [← hp, ← hq, ← hr]; rfl⟩
  have HP := Seal.mk hp
  have HQ := Seal.mk hq
  have HR := Seal.mk hr
  have HV := Seal.mk (And.intro hk (And.intro v1 v2))
  clear hp hq hr v1 v2 hk
  go_enter Tryd.func24, Tryd.ntmps24
  go_wp2_with fail
  refine (rp4 S _ p HP).mono ?_
  rintro e w' ⟨rfl, rfl⟩
  go_wp2_with fail
  refine (rpow_yes key (-E) q _ HV.out.1 HQ).mono ?_
  rintro e w' ⟨rfl, rfl⟩
  go_wp2_with fail
  refine (rmul_yes p q r _ HV.out.2.1 HV.out.2.2 HM).mono ?_
  rintro e w' ⟨rfl, rfl⟩
  go_wp2
  go_ret
  exact ⟨ret_i64 HR.out.symm, below_alloc _ _⟩

set_option maxHeartbeats 2000000 in
theorem rverify_any (key E S : Int) (a : Option Addr) (len cap : Nat) (b : Bytes) (w : World) (hb : IsB w a len cap b) (hl : len ≤ 1099511627776) :
    Calls Tryd.prog 51 #[.int .i64 key, .slice a len cap, .agg #[.int .i64 E, .int .i64 S]] w fun e w' => e = .returned (.bool (vrB key b E S)) ∧ Below w.heap.size w w' := by
  cases hv : vd key with
  | false =>
    have HV := Seal.mk hv
    have HN : Seal (vrB key b E S = false) := ⟨by unfold vrB; simp [hv]⟩
    clear hv hb
    go_enter Tryd.func51, Tryd.ntmps51
    go_wp2_with fail
    refine (rvalid_at key false _ HV.out).mono ?_
    rintro e w' ⟨rfl, rfl⟩
    go_wp2
    go_ret
    exact ⟨ret_bool HN.out.symm, below_alloc _ _⟩
  | true =>
    have HV := Seal.mk hv
    by_cases e1 : E < 0
    · have HN : Seal (vrB key b E S = false) := ⟨by unfold vrB inQ; simp; omega⟩
      clear hv hb
      go_enter Tryd.func51, Tryd.ntmps51
      go_wp2_with fail
      refine (rvalid_at key true _ HV.out).mono ?_
      rintro e w' ⟨rfl, rfl⟩
      go_wp2
      go_ret
      exact ⟨ret_bool HN.out.symm, below_alloc _ _⟩
    · by_cases e2 : 1073741789 ≤ E
      · have HN : Seal (vrB key b E S = false) := ⟨by unfold vrB inQ; simp; omega⟩
        clear hv hb
        go_enter Tryd.func51, Tryd.ntmps51
        go_wp2_with fail
        refine (rvalid_at key true _ HV.out).mono ?_
        rintro e w' ⟨rfl, rfl⟩
        go_wp2
        go_ret
        exact ⟨ret_bool HN.out.symm, below_alloc _ _⟩
      · by_cases e3 : S < 0
        · have HN : Seal (vrB key b E S = false) := ⟨by unfold vrB inQ; simp; omega⟩
          clear hv hb
          go_enter Tryd.func51, Tryd.ntmps51
          go_wp2_with fail
          refine (rvalid_at key true _ HV.out).mono ?_
          rintro e w' ⟨rfl, rfl⟩
          go_wp2
          go_ret
          exact ⟨ret_bool HN.out.symm, below_alloc _ _⟩
        · by_cases e4 : 1073741789 ≤ S
          · have HN : Seal (vrB key b E S = false) := ⟨by unfold vrB inQ; simp; omega⟩
            clear hv hb
            go_enter Tryd.func51, Tryd.ntmps51
            go_wp2_with fail
            refine (rvalid_at key true _ HV.out).mono ?_
            rintro e w' ⟨rfl, rfl⟩
            go_wp2
            go_ret
            exact ⟨ret_bool HN.out.symm, below_alloc _ _⟩
          · have HN : Seal (vrB key b E S = (E == (sgHash (sgPoint key E S) key b : Nat))) := ⟨by
              unfold vrB inQ; rw [hv, decide_eq_true (show 0 ≤ E by omega), decide_eq_true (show E < 1073741789 by omega), decide_eq_true (show 0 ≤ S by omega), decide_eq_true (show S < 1073741789 by omega)]; rfl⟩
            have hpl := sgPoint_lt key E S
            obtain ⟨r, hr⟩ : ∃ r : Int, ((sgPoint key E S : Nat) : Int) = r := ⟨_, rfl⟩
            have hrb : 0 ≤ r ∧ r < 2147483579 := by omega
            have hkr := vd_range hv
            have hPC : Seal (∀ w, Calls Tryd.prog 24 #[.int .i64 key, .agg #[.int .i64 E, .int .i64 S]] w fun e w' => e = .returned (.int .i64 r) ∧ Below w.heap.size w w') := ⟨fun w => by rw [← hr]; exact rpoint_any key E S w hv (by omega) (by omega)⟩
            have HHC : Seal (∀ w, IsB w a len cap b → Calls Tryd.prog 25 #[.int .i64 r, .int .i64 key, .slice a len cap] w fun e w' => e = .returned (.int .i64 (sgHash r key b)) ∧ Below w.heap.size w w') := ⟨fun w h => rhash_any r key a len cap b w h hl (by omega) (by omega) (by omega) (by omega)⟩
            rw [hr] at HN
            have HI := Seal.mk hb
            clear hv hb hr hpl hrb hkr
            go_enter Tryd.func51, Tryd.ntmps51
            go_wp2_with fail
            refine (rvalid_at key true _ HV.out).mono ?_
            rintro e w' ⟨rfl, rfl⟩
            go_wp2_with fail
            go_region_held3 (fun w' => w'.cell? ⟨w.heap.size, 0, none⟩ = some (.int .i64 E) ∧ w'.cell? ⟨w.heap.size, 1, none⟩ = some (.int .i64 S)) (first | (go_keep; done) | exact hk1 | exact hk2) (first
              | (go_at_call 24; refine (hPC.out _).mono ?_
                 rintro e w1 ⟨rfl, hb1⟩
                 have HB1 : Seal (Below w.heap.size w w1) := ⟨(below_alloc w (.cells #[.int .i64 E, .int .i64 S] 27)).trans ((show Below (w.alloc (.cells #[.int .i64 E, .int .i64 S] 27)).heap.size (w.alloc (.cells #[.int .i64 E, .int .i64 S] 27)) w1 from ⟨hb1.os, hb1.tape, hb1.output, hb1.size, hb1.block⟩).mono (by rw [size_alloc]; omega))⟩
                 have hrow1 : Seal (w1.heap[w.heap.size]? = some (.cells #[.int .i64 E, .int .i64 S] 27 (0, 0)) ∧ w.heap.size < w1.heap.size) := ⟨(hb1.block _ (by show w.heap.size < (w.alloc _).heap.size; rw [size_alloc]; omega)).trans (heap_alloc_new w _), by have h := hb1.size; have h2 : (w.alloc (.cells #[.int .i64 E, .int .i64 S] 27)).heap.size ≤ w1.heap.size := h; rw [size_alloc] at h2; omega⟩
                 have hk1 : w1.cell? ⟨w.heap.size, 0, none⟩ = some (.int .i64 E) ∧ w1.cell? ⟨w.heap.size, 1, none⟩ = some (.int .i64 S) := ⟨by rw [cell_of_row _ _ _ _ _ _ hrow1.out.1]; rfl, by rw [cell_of_row _ _ _ _ _ _ hrow1.out.1]; rfl⟩
                 clear hb1)
              | (go_at_call 25; refine (HHC.out w1 (HI.out.below HB1.out)).mono ?_
                 rintro e w2 ⟨rfl, hb2⟩
                 have HB2 : Seal (Below w.heap.size w w2) := ⟨HB1.out.trans (hb2.mono HB1.out.size)⟩
                 have hk2 : w2.cell? ⟨w.heap.size, 0, none⟩ = some (.int .i64 E) ∧ w2.cell? ⟨w.heap.size, 1, none⟩ = some (.int .i64 S) := ⟨(hb2.cell (p := ⟨w.heap.size, 0, none⟩) hrow1.out.2).trans hk1.1, (hb2.cell (p := ⟨w.heap.size, 1, none⟩) hrow1.out.2).trans hk1.2⟩
                 clear hb2))
            all_goals
              go_wp2
              go_ret
              exact ⟨ret_bool HN.out.symm, HB2.out⟩
end Frk
