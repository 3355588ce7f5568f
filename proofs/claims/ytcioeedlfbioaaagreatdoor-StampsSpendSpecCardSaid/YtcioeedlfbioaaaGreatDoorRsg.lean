/- The reference's sign: values, Hash. -/
import Derived.Test.YtcioeedlfbioaaaGreatDoorRel
import Derived.Test.YtcioeedlfbioaaaGreatDoorRgh
import Derived.Test.YtcioeedlfbioaaaGreatDoorRpw
namespace Frk
open Go Go.RowKit Go.Proofs
set_option maxRecDepth 100000

theorem rint_any (n : Int) (w : World) : Calls Tryz.prog 79 #[.int .i64 n] w fun e w' => e = .returned (.agg #[.int .i64 1, .int .i64 n, .string ByteArray.empty, .slice none 0 0]) ∧ Below w.heap.size w w' := by
  go_enter Tryz.func79, Tryz.ntmps79
  go_wp2
  refine bodyPost_ret (results_cell_row (fn := Tryz.f79) rfl _ _ w.heap.size 71 _ (0, 0) _ rfl (heap_alloc_new w _) Tryz.underlying71 rfl (by kernel_rfl)) rfl ⟨rfl, below_alloc _ _⟩

theorem rtext_any (s : ByteArray) (w : World) : Calls Tryz.prog 80 #[.string s] w fun e w' => e = .returned (.agg #[.int .i64 2, .int .i64 0, .string s, .slice none 0 0]) ∧ Below w.heap.size w w' := by
  go_enter Tryz.func80, Tryz.ntmps80
  go_wp2
  refine bodyPost_ret (results_cell_row (fn := Tryz.f80) rfl _ _ w.heap.size 71 _ (0, 0) _ rfl (heap_alloc_new w _) Tryz.underlying71 rfl (by kernel_rfl)) rfl ⟨rfl, below_alloc _ _⟩

theorem rlist_any (a : Option Addr) (n c : Nat) (w : World) : Calls Tryz.prog 78 #[.slice a n c] w fun e w' => e = .returned (.agg #[.int .i64 3, .int .i64 0, .string ByteArray.empty, .slice a n c]) ∧ Below w.heap.size w w' := by
  go_enter Tryz.func78, Tryz.ntmps78
  go_wp2
  refine bodyPost_ret (results_cell_row (fn := Tryz.f78) rfl _ _ w.heap.size 71 _ (0, 0) _ rfl (heap_alloc_new w _) Tryz.underlying71 rfl (by kernel_rfl)) rfl ⟨rfl, below_alloc _ _⟩

theorem IsB.drew {w : World} {a : Option Addr} {len cap : Nat} {l : Bytes} (h : IsB w a len cap l) : IsB w.drew a len cap l := ⟨h.llen, h.lcap, h.lmax, h.cmax, h.at_⟩

/-- leaves in a block that the text has made -/
theorem leavesAt_new (w : World) (xs : List Lf) (fr : Nat × Nat) (t : TypeId) : LeavesAt (w.alloc (.cells (xs.flatMap Lf.cells).toArray t fr)) w.heap.size 0 xs := by
  intro k x hx j c hc
  rw [cell_of_row _ _ _ _ _ _ (heap_alloc_new w _), Nat.zero_add]
  have key : ∀ (xs : List Lf) (k : Nat) (x : Lf), xs[k]? = some x → ∀ (j : Nat) (c : Value), x.cells[j]? = some c → (xs.flatMap Lf.cells)[k * 4 + j]? = some c := by
    intro xs
    induction xs with
    | nil => intro k x h; simp at h
    | cons y ys ih =>
      intro k x hx j c hc
      have hy : y.cells.length = 4 := by cases y <;> rfl
      cases k with
      | zero =>
        have e : y = x := by simpa using hx
        subst e
        have hj : j < 4 := by rw [← hy]; exact (List.getElem?_eq_some_iff.1 hc).1
        rw [List.flatMap_cons, List.getElem?_append_left (by omega), Nat.zero_mul, Nat.zero_add]; exact hc
      | succ k =>
        rw [List.flatMap_cons, List.getElem?_append_right (by omega), hy, show (k + 1) * 4 + j - 4 = k * 4 + j from by omega]
        exact ih k x (by simpa using hx) j c hc
  have := key xs k x hx j c hc
  simpa using this

set_option maxHeartbeats 1000000 in
theorem rhash_any (r key : Int) (a : Option Addr) (len cap : Nat) (b : Bytes) (w : World) (hb : IsB w a len cap b) (hl : len ≤ 1099511627776) (r1 : -9223372036854775808 ≤ r) (r2 : r ≤ 9223372036854775807) (k1 : -9223372036854775808 ≤ key) (k2 : key ≤ 9223372036854775807) :
    Calls Tryz.prog 60 #[.int .i64 r, .int .i64 key, .slice a len cap] w fun e w' => e = .returned (.int .i64 (sgHash r key b)) ∧ Below w.heap.size w w' := by
  have HI := Seal.mk hb
  have hcv := IsB.conv (w := w.drew) hb.drew
  have HW : Seal (wgts [.i r, .i key, .t b] = len + 33) := ⟨by simp [wgts, Lf.wgt, hb.llen]; omega⟩
  have HF : Seal (∀ y ∈ [Lf.i r, .i key, .t b], y.fits) := ⟨by
    intro y hy
    simp only [List.mem_cons, List.not_mem_nil, or_false] at hy
    rcases hy with rfl | rfl | rfl
    · exact ⟨r1, r2⟩
    · exact ⟨k1, k2⟩
    · show b.length < 2 ^ 63; rw [hb.llen]; omega⟩
  have HG : Seal (sgHash r key b = ghash tSign (encL [.i r, .i key, .t b])) := ⟨rfl⟩
  have HLN : Seal ((encL [.i r, .i key, .t b]).length ≤ len + 44) := ⟨by have := encL_length [.i r, .i key, .t b]; rw [HW.out] at this; omega⟩
  have HL0 := fun w3 => Seal.mk (leavesAt_new w3 [.i r, .i key, .t b] (0, 0) 71)
  clear hb
  go_enter Tryz.func60, Tryz.ntmps60
  go_wp2_with fail
  go_region_held3 (fun w' => (convert 49 9 (.slice a len cap)).run Tryz.prog w' = .ok (.string ⟨b.toArray⟩) w') (first | exact hcv | exact IsB.conv HI1.out | exact IsB.conv HI2.out | exact IsB.conv HI3.out | exact IsB.conv (HI3.out.below (below_alloc _ _)) | exact IsB.conv HI4.out | exact IsB.conv HI5.out) (first
    | (go_at_call 79; first
       | (with_reducible refine (rint_any r w.drew).mono ?_
          rintro e w1 ⟨rfl, hb1⟩
          have HB1 : Seal (Below w.heap.size w w1) := ⟨⟨hb1.os, hb1.tape, hb1.output, hb1.size, hb1.block⟩⟩
          have HI1 : Seal (IsB w1 a len cap b) := ⟨HI.out.below HB1.out⟩
          clear hb1 hcv)
       | (with_reducible refine (rint_any key w1).mono ?_
          rintro e w2 ⟨rfl, hb2⟩
          have HB2 : Seal (Below w.heap.size w w2) := ⟨HB1.out.trans (hb2.mono HB1.out.size)⟩
          have HI2 : Seal (IsB w2 a len cap b) := ⟨HI.out.below HB2.out⟩
          clear hb2 HB1 HI1))
    | (go_at_call 80; refine (rtext_any _ w2).mono ?_
       rintro e w3 ⟨rfl, hb3⟩
       have HB3 : Seal (Below w.heap.size w w3) := ⟨HB2.out.trans (hb3.mono HB2.out.size)⟩
       have HL3 := HL0 w3
       have HI3 : Seal (IsB w3 a len cap b) := ⟨HI.out.below HB3.out⟩
       clear hb3 HB2 HL0 HI2)
    | (go_at_call 78; refine (rlist_any _ _ _ _).mono ?_
       rintro e w4 ⟨rfl, hb4⟩
       have HL4 : Seal (LeavesAt w4 w3.heap.size 0 [.i r, .i key, .t b]) := ⟨HL3.out.below hb4 (by rw [size_alloc]; omega)⟩
       have HB4 : Seal (Below w.heap.size w w4 ∧ w3.heap.size < w4.heap.size) := ⟨(HB3.out.alloc HB3.out.size _).trans (hb4.mono (by rw [size_alloc]; have := HB3.out.size; omega)), by have := hb4.size; rw [size_alloc] at this; omega⟩
       have HC : Seal _ := ⟨rencode_any w3.heap.size 0 3 3 [.i r, .i key, .t b] w4 rfl (Nat.le_refl _) (by rw [HW.out]; omega) HL4.out HB4.out.2 HF.out⟩
       have HI4 : Seal (IsB w4 a len cap b) := ⟨HI.out.below HB4.out.1⟩
       clear hb4 HL3 HB3 HL4 HI3)
    | (go_at_call 51; refine HC.out.mono ?_
       rintro e w5 ⟨g5, n5, c5, rfl, hS5⟩
       have HB5 : Seal (Below w.heap.size w w5) := ⟨HB4.out.1.trans (hS5.out.bel.mono HB4.out.1.size)⟩
       have hn5 : n5 ≤ len + 44 := by have := HLN.out; rw [hS5.out.len] at this; omega
       have HC6 : Seal _ := ⟨rghash_any ⟨tSign.toArray⟩ (some ⟨g5, 0, none⟩) n5 c5 _ w5 (hS5.out.isB (by omega)) (by decide) (by omega)⟩
       have HI5 : Seal (IsB w5 a len cap b) := ⟨HI.out.below HB5.out⟩
       clear hS5 HB4 HC HI4))
  all_goals
    go_wp2_with (go_at_call 81; refine HC6.out.mono ?_; rintro e w6 ⟨rfl, hb6⟩)
    go_ret
    exact ⟨ret_i64 (by rw [HG.out]), HB5.out.trans (hb6.mono HB5.out.size)⟩

theorem lq_id {x : Int} (h0 : 0 ≤ x) (h1 : x < 1073741789) : ((lq x : Nat) : Int) = x := by
  rw [lq_cast]; exact Int.emod_eq_of_lt h0 h1

theorem rp4 (n : Int) (w : World) (p : Int) (hp : Seal (((pw 4 n : Nat) : Int) = p)) :
    Calls Tryz.prog 73 #[.int .i64 4, .int .i64 n] w fun e w' => e = .returned (.tuple #[.int .i64 p, .int .i64 0]) ∧ w = w' :=
  rpow_yes 4 n p w (by decide +kernel) hp

theorem sgPoint_lt (key E S : Int) : sgPoint key E S < 2147483579 := Nat.mod_lt _ (by decide)

set_option maxHeartbeats 1000000 in
theorem rpoint_any (key E S : Int) (w : World) (hk : vd key = true) (hE : 0 ≤ E) (hE2 : E < 1073741789) :
    Calls Tryz.prog 61 #[.int .i64 key, .agg #[.int .i64 E, .int .i64 S]] w fun e w' => e = .returned (.int .i64 (sgPoint key E S)) ∧ Below w.heap.size w w' := by
  obtain ⟨p, hp⟩ : ∃ p : Int, ((pw 4 S : Nat) : Int) = p := ⟨_, rfl⟩
  obtain ⟨q, hq⟩ : ∃ q : Int, ((pw key.toNat (-E) : Nat) : Int) = q := ⟨_, rfl⟩
  obtain ⟨r, hr⟩ : ∃ r : Int, ((sgPoint key E S : Nat) : Int) = r := ⟨_, rfl⟩
  have v1 : vd p = true := by rw [← hp]; exact vd_pw (a := 4) (by decide +kernel) S
  have v2 : vd q = true := by rw [← hq]; exact vd_pw hk (-E)
  have HM : Seal (((mp p.toNat q.toNat : Nat) : Int) = r) := ⟨by rw [← hp, ← hq, ← hr]; rfl⟩
  have HP := Seal.mk hp
  have HQ := Seal.mk hq
  have HR := Seal.mk hr
  have HV := Seal.mk (And.intro hk (And.intro v1 v2))
  clear hp hq hr v1 v2 hk
  go_enter Tryz.func61, Tryz.ntmps61
  go_wp2_with fail
  refine (rp4 S _ p HP).mono ?_
  rintro e w' ⟨rfl, rfl⟩
  go_wp2_with fail
  refine (rpow_yes key (-E) q _ HV.out.1 HQ).mono ?_
  rintro e w' ⟨rfl, rfl⟩
  go_wp2_with fail
  refine (rmul_yes p q r _ HV.out.2.1 HV.out.2.2 HM).mono ?_
  rintro e w' ⟨rfl, rfl⟩
  go_wp2
  go_ret
  exact ⟨ret_i64 HR.out.symm, below_alloc _ _⟩

set_option maxHeartbeats 2000000 in
theorem rverify_any (key E S : Int) (a : Option Addr) (len cap : Nat) (b : Bytes) (w : World) (hb : IsB w a len cap b) (hl : len ≤ 1099511627776) :
    Calls Tryz.prog 30 #[.int .i64 key, .slice a len cap, .agg #[.int .i64 E, .int .i64 S]] w fun e w' => e = .returned (.bool (vrB key b E S)) ∧ Below w.heap.size w w' := by
  cases hv : vd key with
  | false =>
    have HV := Seal.mk hv
    have HN : Seal (vrB key b E S = false) := ⟨by unfold vrB; simp [hv]⟩
    clear hv hb
    go_enter Tryz.func30, Tryz.ntmps30
    go_wp2_with fail
    refine (rvalid_at key false _ HV.out).mono ?_
    rintro e w' ⟨rfl, rfl⟩
    go_wp2
    go_ret
    exact ⟨ret_bool HN.out.symm, below_alloc _ _⟩
  | true =>
    have HV := Seal.mk hv
    by_cases e1 : E < 0
    · have HN : Seal (vrB key b E S = false) := ⟨by unfold vrB inQ; simp; omega⟩
      clear hv hb
      go_enter Tryz.func30, Tryz.ntmps30
      go_wp2_with fail
      refine (rvalid_at key true _ HV.out).mono ?_
      rintro e w' ⟨rfl, rfl⟩
      go_wp2
      go_ret
      exact ⟨ret_bool HN.out.symm, below_alloc _ _⟩
    · by_cases e2 : 1073741789 ≤ E
      · have HN : Seal (vrB key b E S = false) := ⟨by unfold vrB inQ; simp; omega⟩
        clear hv hb
        go_enter Tryz.func30, Tryz.ntmps30
        go_wp2_with fail
        refine (rvalid_at key true _ HV.out).mono ?_
        rintro e w' ⟨rfl, rfl⟩
        go_wp2
        go_ret
        exact ⟨ret_bool HN.out.symm, below_alloc _ _⟩
      · by_cases e3 : S < 0
        · have HN : Seal (vrB key b E S = false) := ⟨by unfold vrB inQ; simp; omega⟩
          clear hv hb
          go_enter Tryz.func30, Tryz.ntmps30
          go_wp2_with fail
          refine (rvalid_at key true _ HV.out).mono ?_
          rintro e w' ⟨rfl, rfl⟩
          go_wp2
          go_ret
          exact ⟨ret_bool HN.out.symm, below_alloc _ _⟩
        · by_cases e4 : 1073741789 ≤ S
          · have HN : Seal (vrB key b E S = false) := ⟨by unfold vrB inQ; simp; omega⟩
            clear hv hb
            go_enter Tryz.func30, Tryz.ntmps30
            go_wp2_with fail
            refine (rvalid_at key true _ HV.out).mono ?_
            rintro e w' ⟨rfl, rfl⟩
            go_wp2
            go_ret
            exact ⟨ret_bool HN.out.symm, below_alloc _ _⟩
          · have HN : Seal (vrB key b E S = (E == (sgHash (sgPoint key E S) key b : Nat))) := ⟨by
              unfold vrB inQ; rw [hv, decide_eq_true (show 0 ≤ E by omega), decide_eq_true (show E < 1073741789 by omega), decide_eq_true (show 0 ≤ S by omega), decide_eq_true (show S < 1073741789 by omega)]; rfl⟩
            have hpl := sgPoint_lt key E S
            obtain ⟨r, hr⟩ : ∃ r : Int, ((sgPoint key E S : Nat) : Int) = r := ⟨_, rfl⟩
            have hrb : 0 ≤ r ∧ r < 2147483579 := by omega
            have hkr := vd_range hv
            have hPC : Seal (∀ w, Calls Tryz.prog 61 #[.int .i64 key, .agg #[.int .i64 E, .int .i64 S]] w fun e w' => e = .returned (.int .i64 r) ∧ Below w.heap.size w w') := ⟨fun w => by rw [← hr]; exact rpoint_any key E S w hv (by omega) (by omega)⟩
            have HHC : Seal (∀ w, IsB w a len cap b → Calls Tryz.prog 60 #[.int .i64 r, .int .i64 key, .slice a len cap] w fun e w' => e = .returned (.int .i64 (sgHash r key b)) ∧ Below w.heap.size w w') := ⟨fun w h => rhash_any r key a len cap b w h hl (by omega) (by omega) (by omega) (by omega)⟩
            rw [hr] at HN
            have HI := Seal.mk hb
            clear hv hb hr hpl hrb hkr
            go_enter Tryz.func30, Tryz.ntmps30
            go_wp2_with fail
            refine (rvalid_at key true _ HV.out).mono ?_
            rintro e w' ⟨rfl, rfl⟩
            go_wp2_with fail
            go_region_held3 (fun w' => w'.cell? ⟨w.heap.size, 0, none⟩ = some (.int .i64 E) ∧ w'.cell? ⟨w.heap.size, 1, none⟩ = some (.int .i64 S)) (first | (go_keep; done) | exact hk1 | exact hk2) (first
              | (go_at_call 61; refine (hPC.out _).mono ?_
                 rintro e w1 ⟨rfl, hb1⟩
                 have HB1 : Seal (Below w.heap.size w w1) := ⟨(below_alloc w (.cells #[.int .i64 E, .int .i64 S] 25)).trans ((show Below (w.alloc (.cells #[.int .i64 E, .int .i64 S] 25)).heap.size (w.alloc (.cells #[.int .i64 E, .int .i64 S] 25)) w1 from ⟨hb1.os, hb1.tape, hb1.output, hb1.size, hb1.block⟩).mono (by rw [size_alloc]; omega))⟩
                 have hrow1 : Seal (w1.heap[w.heap.size]? = some (.cells #[.int .i64 E, .int .i64 S] 25 (0, 0)) ∧ w.heap.size < w1.heap.size) := ⟨(hb1.block _ (by show w.heap.size < (w.alloc _).heap.size; rw [size_alloc]; omega)).trans (heap_alloc_new w _), by have h := hb1.size; have h2 : (w.alloc (.cells #[.int .i64 E, .int .i64 S] 25)).heap.size ≤ w1.heap.size := h; rw [size_alloc] at h2; omega⟩
                 have hk1 : w1.cell? ⟨w.heap.size, 0, none⟩ = some (.int .i64 E) ∧ w1.cell? ⟨w.heap.size, 1, none⟩ = some (.int .i64 S) := ⟨by rw [cell_of_row _ _ _ _ _ _ hrow1.out.1]; rfl, by rw [cell_of_row _ _ _ _ _ _ hrow1.out.1]; rfl⟩
                 clear hb1)
              | (go_at_call 60; refine (HHC.out w1 (HI.out.below HB1.out)).mono ?_
                 rintro e w2 ⟨rfl, hb2⟩
                 have HB2 : Seal (Below w.heap.size w w2) := ⟨HB1.out.trans (hb2.mono HB1.out.size)⟩
                 have hk2 : w2.cell? ⟨w.heap.size, 0, none⟩ = some (.int .i64 E) ∧ w2.cell? ⟨w.heap.size, 1, none⟩ = some (.int .i64 S) := ⟨(hb2.cell (p := ⟨w.heap.size, 0, none⟩) hrow1.out.2).trans hk1.1, (hb2.cell (p := ⟨w.heap.size, 1, none⟩) hrow1.out.2).trans hk1.2⟩
                 clear hb2))
            all_goals
              go_wp2
              go_ret
              exact ⟨ret_bool HN.out.symm, HB2.out⟩
end Frk
