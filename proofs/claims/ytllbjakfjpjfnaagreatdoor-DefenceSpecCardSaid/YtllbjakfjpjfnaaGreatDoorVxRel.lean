/- The reference's codec: numeral, unsigned, encode at leaves. -/
import Derived.Test.YtllbjakfjpjfnaaGreatDoorVxRap
namespace Frk
open Go Go.RowKit Go.Proofs
set_option maxRecDepth 100000

/-- a fresh slice of the bytes l -/
def FreshPost (l : Bytes) (w : World) (e : Ending) (w' : World) : Prop := ∃ g n c, e = .returned (.slice (some ⟨g, 0, none⟩) n c) ∧ Seal (Stg w w' g n c l)

theorem runsigned_any (n : Int) (w : World) (h0 : -9223372036854775808 ≤ n) (h1 : n ≤ 9223372036854775807) :
    Calls Tryz.prog 100 #[.int .i64 n] w fun e w' => e = .returned (.int .u64 (zig n)) ∧ w = w' := by
  by_cases h : 0 ≤ n
  · have HZ : Seal (2 * n = ((zig n : Nat) : Int)) := ⟨by unfold zig; rw [if_pos h]; omega⟩
    go_enter Tryz.func100, Tryz.ntmps100
    go_wp2
    go_ret
    exact ⟨ret_u64 HZ.out, rfl⟩
  · have HZ : Seal (2 * -(n + 1) + 1 = ((zig n : Nat) : Int)) := ⟨by unfold zig; rw [if_neg h]; omega⟩
    go_enter Tryz.func100, Tryz.ntmps100
    go_wp2
    go_ret
    exact ⟨ret_u64 HZ.out, rfl⟩

set_option maxHeartbeats 1000000 in
theorem rnumF_any : ∀ (f u : Nat) (w : World), f ≤ 9 → u < 128 ^ (f + 1) → u < 18446744073709551616 → Calls Tryz.prog 99 #[.int .u64 u] w (FreshPost (numF (f + 1) u) w) := by
  intro f
  induction f with
  | zero =>
    intro u w _ hu _
    rw [Nat.pow_one] at hu
    have HS : Seal (Stg w (w.alloc (.cells #[.int .u8 u] 5)) w.heap.size 1 1 (numF 1 u)) := ⟨by
      have := stg_new w [UInt8.ofNat u] 1 rfl (by decide)
      rw [numF, if_pos hu]
      rwa [show ([UInt8.ofNat u].map B).toArray = #[.int .u8 (u : Int)] from by rw [byte_low u hu]; rfl] at this⟩
    have hm : (u : Int) % 256 = u := by omega
    go_enter Tryz.func99, Tryz.ntmps99
    go_wp2
    go_ret
    exact ⟨_, _, _, rfl, HS⟩
  | succ f ih =>
    intro u w hf hu hu64
    by_cases h7 : u < 128
    · have HS : Seal (Stg w (w.alloc (.cells #[.int .u8 u] 5)) w.heap.size 1 1 (numF (f + 1 + 1) u)) := ⟨by
        have := stg_new w [UInt8.ofNat u] 1 rfl (by decide)
        rw [numF, if_pos h7]
        rwa [show ([UInt8.ofNat u].map B).toArray = #[.int .u8 (u : Int)] from by rw [byte_low u h7]; rfl] at this⟩
      have hm : (u : Int) % 256 = u := by omega
      clear ih hu
      go_enter Tryz.func99, Tryz.ntmps99
      go_wp2
      go_ret
      exact ⟨_, _, _, rfl, HS⟩
    · have HS0 : Seal (Stg w (w.alloc (.cells #[.int .u8 ((u : Int) % 128 + 128)] 5)) w.heap.size 1 1 [UInt8.ofNat (u % 128 + 128)]) := ⟨by
        have := stg_new w [UInt8.ofNat (u % 128 + 128)] 1 rfl (by decide)
        rwa [show ([UInt8.ofNat (u % 128 + 128)].map B).toArray = #[.int .u8 ((u : Int) % 128 + 128)] from by
          show #[B (UInt8.ofNat (u % 128 + 128))] = _
          rw [← byte_top u]; rfl] at this⟩
      have HC : Seal (∀ w, Calls Tryz.prog 99 #[.int .u64 ((u : Int) / 128)] w (FreshPost (numF (f + 1) (u / 128)) w)) := ⟨fun w => ih (u / 128) w (by omega) (Nat.div_lt_of_lt_mul (by rwa [Nat.pow_succ, Nat.mul_comm] at hu)) (by omega)⟩
      have HE : Seal (numF (f + 1 + 1) u = [UInt8.ofNat (u % 128 + 128)] ++ numF (f + 1) (u / 128)) := ⟨by rw [numF, if_neg h7]; rfl⟩
      have HL := Seal.mk (numF_length (f + 1) (u / 128))
      have hm : ((u : Int) % 128 + 128) % 256 = (u : Int) % 128 + 128 := by omega
      clear ih hu
      go_enter Tryz.func99, Tryz.ntmps99
      go_wp2_with (first
        | (go_at_call 99; refine (HC.out _).mono ?_; rintro e w1 ⟨g1, n1, c1, rfl, hS1⟩
           have hSa : Seal (Stg w w1 w.heap.size 1 1 [UInt8.ofNat (u % 128 + 128)]) := ⟨HS0.out.below hS1.out.bel⟩
           have hn1 : n1 ≤ 10 := by have := HL.out; rw [hS1.out.len] at this; omega
           have hI1 : Seal (IsB w1 (some ⟨g1, 0, none⟩) n1 c1 (numF (f + 1) (u / 128))) := ⟨hS1.out.isB (by omega)⟩
           clear hS1 HS0)
        | (at_builtin; refine wpList_append_st rfl (.tmp 12) (.tmp 15) rfl w w.heap.size 1 1 _ (some ⟨g1, 0, none⟩) n1 c1 _ rfl rfl hSa hI1 (by omega) ?_
           intro g2 cap2 w2 hS2 _ _
           rw [← HE.out] at hS2
           clear hSa hI1))
      go_ret
      exact ⟨_, _, _, rfl, hS2⟩

theorem rnumeral_any (u : Nat) (w : World) (hu : u < 18446744073709551616) : Calls Tryz.prog 99 #[.int .u64 u] w (FreshPost (numeral u) w) :=
  rnumF_any 9 u w (Nat.le_refl _) (Nat.lt_of_lt_of_le hu (by decide)) hu

set_option maxHeartbeats 1000000 in
theorem rencode_int (n : Int) (w : World) (h0 : -9223372036854775808 ≤ n) (h1 : n ≤ 9223372036854775807) :
    Calls Tryz.prog 84 #[.agg #[.int .i64 1, .int .i64 n, .string ByteArray.empty, .slice none 0 0]] w (FreshPost (Lf.i n).enc w) := by
  have hz : zig n < 18446744073709551616 := zig_lt ⟨h0, h1⟩
  obtain ⟨X, hX⟩ : ∃ X : World, Seal (X = w.alloc (.cells #[.int .i64 1, .int .i64 n, .string ByteArray.empty, .slice none 0 0] 51)) := ⟨_, ⟨rfl⟩⟩
  have hXb : Seal (Below w.heap.size w X) := ⟨by rw [hX.out]; exact below_alloc _ _⟩
  have hS0 : Seal (Stg X (X.alloc (.cells #[.int .u8 1] 5)) X.heap.size 1 1 [1]) := ⟨stg_new X [1] 1 rfl (by decide)⟩
  have HX : Seal (X.heap.size = w.heap.size + 1) := ⟨by rw [hX.out, size_alloc]⟩
  have HNL := Seal.mk (numF_length 10 (zig n))
  have c1 : X.cell? ⟨w.heap.size, 1, none⟩ = some (.int .i64 n) := by rw [hX.out, cell_of_row _ _ _ _ _ _ (heap_alloc_new w _)]; rfl
  go_enter Tryz.func84, Tryz.ntmps84
  go_wp2_with (first
    | (go_at_call 100; refine (runsigned_any n _ h0 h1).mono ?_; rintro e w' ⟨rfl, rfl⟩)
    | (go_at_call 99; refine (rnumeral_any (zig n) _ hz).mono ?_; rintro e w1 ⟨g1, n1, k1, rfl, hS1⟩
       rw [← hX.out] at hS1
       have hn1 : n1 ≤ 10 := by have := HNL.out; rw [show numF 10 (zig n) = numeral (zig n) from rfl, hS1.out.len] at this; omega
       have hSa : Seal (Stg X w1 X.heap.size 1 1 [1]) := ⟨hS0.out.below hS1.out.bel⟩
       have hI1 : Seal (IsB w1 (some ⟨g1, 0, none⟩) n1 k1 (numeral (zig n))) := ⟨hS1.out.isB (by omega)⟩
       have hSa' : Seal (Stg X w1 (w.heap.size + 1) 1 1 [1]) := ⟨by rw [← HX.out]; exact hSa.out⟩
       clear hS1 hS0 hSa)
    | (at_builtin; refine wpList_append_st rfl (.tmp 9) (.tmp 13) rfl X (w.heap.size + 1) 1 1 [1] (some ⟨g1, 0, none⟩) n1 k1 _ rfl rfl hSa' hI1 (by omega) ?_
       intro g2 cap2 w2 hS2 _ _
       clear hSa' hI1))
  go_ret
  exact ⟨_, _, _, rfl, ⟨hS2.out.from hXb.out⟩⟩

theorem enc_text_eq {X w : World} {g n cap : Nat} (s : ByteArray) (m : Nat) (h : Stg X w g n cap (([2] ++ numeral m) ++ s.data.toList)) (hl : s.data.toList.length = m) : Stg X w g n cap (Lf.t s.data.toList).enc := by
  have e : (Lf.t s.data.toList).enc = ([2] ++ numeral m) ++ s.data.toList := by rw [Lf.enc, hl]; simp
  rw [e]; exact h

set_option maxHeartbeats 1000000 in
theorem rencode_text (s : ByteArray) (m : Nat) (w : World) (hm : s.size = m) (hl : m + 20 ≤ 140737488355328) :
    Calls Tryz.prog 84 #[.agg #[.int .i64 2, .int .i64 0, .string s, .slice none 0 0]] w (FreshPost (Lf.t s.data.toList).enc w) := by
  have hml : s.data.toList.length = m := by rw [← hm]; rfl
  have hm9 : (m : Int) ≤ 9223372036854775807 := by omega
  have hwr : IntKind.u64.wrap (m : Int) = (m : Int) := by rw [IntKind.wrap_u64]; omega
  have HM := Seal.mk hm
  have HML := Seal.mk hml
  have hz : m < 18446744073709551616 := by omega
  obtain ⟨X, hX⟩ : ∃ X : World, Seal (X = w.alloc (.cells #[.int .i64 2, .int .i64 0, .string s, .slice none 0 0] 51)) := ⟨_, ⟨rfl⟩⟩
  have hXb : Seal (Below w.heap.size w X) := ⟨by rw [hX.out]; exact below_alloc _ _⟩
  have hS0 : Seal (Stg X (X.alloc (.cells #[.int .u8 2] 5)) X.heap.size 1 1 [2]) := ⟨stg_new X [2] 1 rfl (by decide)⟩
  have HX : Seal (X.heap.size = w.heap.size + 1) := ⟨by rw [hX.out, size_alloc]⟩
  have HNL := Seal.mk (numF_length 10 m)
  clear hml
  go_enter Tryz.func84, Tryz.ntmps84
  go_wp2_with fail
  go_region_held3 (fun w' => w'.cell? ⟨w.heap.size, 2, none⟩ = some (.string s)) (first | go_keep | (exact hk1) | (exact hk2) | (exact hk3)) (first
    | (go_at_call 99; first
       | (with_reducible refine (rnumeral_any m ((w.alloc (.cells #[.int .i64 2, .int .i64 0, .string s, .slice none 0 0] 51)).alloc (.cells #[.int .u8 2] 5)).drew hz).mono ?_
          rintro e w1 ⟨g1, n1, k1, rfl, hS1⟩
          rw [← hX.out] at hS1
          have hn1 : n1 ≤ 10 := by have := HNL.out; rw [show numF 10 m = numeral m from rfl, hS1.out.len] at this; omega
          have hI1 : Seal (IsB w1 (some ⟨g1, 0, none⟩) n1 k1 (numeral m)) := ⟨hS1.out.isB (by omega)⟩
          have hSA : Seal (Stg X w1 (w.heap.size + 1) 1 1 [2]) := ⟨by rw [← HX.out]; exact (hS0.out.drewN 1).below hS1.out.bel⟩
          have hk1 : w1.cell? ⟨w.heap.size, 2, none⟩ = some (.string s) := by
            rw [hSA.out.bel.cell (p := ⟨w.heap.size, 2, none⟩) (by rw [HX.out]; exact Nat.lt_succ_self _), hX.out, cell_of_row _ _ _ _ _ _ (heap_alloc_new w _)]; rfl
          clear hS1)
       | (with_reducible refine (rnumeral_any m (w.alloc (.cells #[.int .i64 2, .int .i64 0, .string s, .slice none 0 0] 51)).drew hz).mono ?_
          rintro e w1 ⟨g1, n1, k1, rfl, hS1⟩
          rw [← hX.out] at hS1
          have hn1 : n1 ≤ 10 := by have := HNL.out; rw [show numF 10 m = numeral m from rfl, hS1.out.len] at this; omega
          have hI1 : Seal (IsB (w1.alloc (.cells #[.int .u8 2] 5)) (some ⟨g1, 0, none⟩) n1 k1 (numeral m)) := ⟨(hS1.out.isB (by omega)).below (below_alloc _ _)⟩
          have hXw : Seal (Below X.heap.size X w1) := ⟨⟨hS1.out.bel.os, hS1.out.bel.tape, hS1.out.bel.output, hS1.out.bel.size, hS1.out.bel.block⟩⟩
          have hSA : Seal (Stg X (w1.alloc (.cells #[.int .u8 2] 5)) w1.heap.size 1 1 [2]) := ⟨(stg_new w1 [2] 1 rfl (by decide)).from hXw.out⟩
          have hk1 : w1.cell? ⟨w.heap.size, 2, none⟩ = some (.string s) := by
            rw [hXw.out.cell (p := ⟨w.heap.size, 2, none⟩) (by rw [HX.out]; exact Nat.lt_succ_self _), hX.out, cell_of_row _ _ _ _ _ _ (heap_alloc_new w _)]; rfl
          clear hS1 hXw))
    | (refine step_append_st (by rfl) (.tmp 17) (.tmp 22) (by rfl) X _ 1 1 [2] (some ⟨g1, 0, none⟩) n1 k1 _ (by rfl) (by rfl) hSA hI1 (by omega) ?_
       intro g2 cap2 w2 hS2 _ _
       have hk2 : w2.cell? ⟨w.heap.size, 2, none⟩ = some (.string s) := by
         rw [hS2.out.bel.cell (p := ⟨w.heap.size, 2, none⟩) (by rw [HX.out]; exact Nat.lt_succ_self _), hX.out, cell_of_row _ _ _ _ _ _ (heap_alloc_new w _)]; rfl
       clear hSA hI1)
    | (refine step_append_str_st (by rfl) (.tmp 23) (.tmp 25) (by rfl) X g2 (1 + n1) cap2 m _ s (by rfl) (by rfl) hS2 HM (by omega) ?_
       intro g3 cap3 w3 hS3
       have hk3 : w3.cell? ⟨w.heap.size, 2, none⟩ = some (.string s) := by
         rw [hS3.out.bel.cell (p := ⟨w.heap.size, 2, none⟩) (by rw [HX.out]; exact Nat.lt_succ_self _), hX.out, cell_of_row _ _ _ _ _ _ (heap_alloc_new w _)]; rfl
       clear hS2))
  all_goals
    go_wp2
    go_ret
    exact ⟨_, _, _, rfl, ⟨(enc_text_eq s m hS3.out HML.out).from hXb.out⟩⟩

theorem lf_fits_text {b : Bytes} {xs : List Lf} {j : Nat} (h : xs[j]? = some (.t b)) : b.length ≤ wgts xs := by
  have := wgts_take xs j _ h
  simp only [Lf.wgt] at this
  omega

set_option maxHeartbeats 2000000 in
theorem rencode_list (g off k cap : Nat) (xs : List Lf) (w : World) (hk : xs.length = k) (hkc : k ≤ cap) (hl : wgts xs + 30 ≤ 140737488355328) (hL : LeavesAt w g off xs) (hg : g < w.heap.size) (hf : ∀ y ∈ xs, y.fits) :
    Calls Tryz.prog 84 #[.agg #[.int .i64 3, .int .i64 0, .string ByteArray.empty, .slice (some ⟨g, off, none⟩) k cap]] w (FreshPost (encL xs) w) := by
  have hkm : k ≤ 140737488355328 := by have := wgts_ge xs; omega
  have hkz : k < 18446744073709551616 := by omega
  have hk9 : (k : Int) ≤ 9223372036854775807 := by omega
  have hwr : IntKind.u64.wrap (k : Int) = (k : Int) := by rw [IntKind.wrap_u64]; omega
  have HK := Seal.mk hk
  have HF := Seal.mk hf
  obtain ⟨X, hX⟩ : ∃ X : World, Seal (X = w.alloc (.cells #[.int .i64 3, .int .i64 0, .string ByteArray.empty, .slice (some ⟨g, off, none⟩) k cap] 51)) := ⟨_, ⟨rfl⟩⟩
  have hXb : Seal (Below w.heap.size w X) := ⟨by rw [hX.out]; exact below_alloc _ _⟩
  have HX : Seal (X.heap.size = w.heap.size + 1) := ⟨by rw [hX.out, size_alloc]⟩
  have HLX : Seal (LeavesAt X g off xs) := ⟨hL.below hXb.out hg⟩
  have hgX : Seal (g < X.heap.size) := ⟨by rw [HX.out]; omega⟩
  have hS0 : Seal (Stg X (X.alloc (.cells #[.int .u8 3] 5)) X.heap.size 1 1 [3]) := ⟨stg_new X [3] 1 rfl (by decide)⟩
  have hXc : Seal (X.cell? ⟨w.heap.size, 3, none⟩ = some (.slice (some ⟨g, off, none⟩) k cap)) := ⟨by rw [hX.out, cell_of_row _ _ _ _ _ _ (heap_alloc_new w _)]; rfl⟩
  have HNL := Seal.mk (numF_length 10 k)
  have hEL : Seal (encL xs = ([3] ++ numeral k) ++ encs xs) := ⟨by rw [encL, HK.out]; simp⟩
  clear hL hk hf
  go_enter Tryz.func84, Tryz.ntmps84
  go_wp2_with (first
    | (go_at_call 99; refine (rnumeral_any k _ hkz).mono ?_; rintro e w1 ⟨g1, n1, k1, rfl, hS1⟩
       rw [← hX.out] at hS1
       have hn1 : n1 ≤ 10 := by have := HNL.out; rw [show numF 10 k = numeral k from rfl, hS1.out.len] at this; omega
       have hSa : Seal (Stg X w1 (w.heap.size + 1) 1 1 [3]) := ⟨by rw [← HX.out]; exact hS0.out.below hS1.out.bel⟩
       have hI1 : Seal (IsB w1 (some ⟨g1, 0, none⟩) n1 k1 (numeral k)) := ⟨hS1.out.isB (by omega)⟩
       clear hS1 hS0)
    | (at_builtin; refine wpList_append_st rfl (.tmp 27) (.tmp 32) rfl X (w.heap.size + 1) 1 1 [3] (some ⟨g1, 0, none⟩) n1 k1 _ rfl rfl hSa hI1 (by omega) ?_
       intro g2 cap2 w2 hS2 _ _
       clear hSa hI1))
  obtain ⟨pre, hpre⟩ : ∃ pre, Seal (pre = [3] ++ numeral k) := ⟨_, ⟨rfl⟩⟩
  rw [← hpre.out] at hS2 hEL
  have hpl : pre.length ≤ 11 := by rw [hS2.out.len]; omega
  have HP := Seal.mk hpl
  go_loopw [3, 4] (fun a i wr => ∃ j g' n' c', j ≤ k ∧ i = .int .i64 (j : Nat) ∧ a = .slice (some ⟨g', 0, none⟩) n' c' ∧ Seal (Stg X wr g' n' c' (pre ++ encs (xs.take j)))) (fun _ i _ => k - (intOf i).toNat)
  case atStart => exact ⟨0, _, _, _, Nat.zero_le _, rfl, rfl, ⟨by rw [List.take_zero, show encs [] = [] from rfl, List.append_nil]; exact hS2.out⟩⟩
  case round =>
    clear hS2 hn1
    obtain ⟨j, g3, n3, cap3, hj, rfl, rfl, hS⟩ := hrel
    have cl : wr.cell? ⟨w.heap.size, 3, none⟩ = some (.slice (some ⟨g, off, none⟩) k cap) := (hS.out.bel.cell (p := ⟨w.heap.size, 3, none⟩) (by rw [HX.out]; exact Nat.lt_succ_self _)).trans hXc.out
    by_cases hlt : j < k
    · obtain ⟨x, hx⟩ : ∃ x, xs[j]? = some x := ⟨_, List.getElem?_eq_getElem (by rw [HK.out]; exact hlt)⟩
      have HN : Seal (encs (xs.take (j + 1)) = encs (xs.take j) ++ x.enc) := ⟨encs_take_succ xs j x hx⟩
      have hfx : Seal x.fits := ⟨HF.out x (List.mem_of_getElem? hx)⟩
      have hbd : n3 + x.wgt ≤ 140737488355328 := by
        have h1 := wgts_take xs j x hx
        have h2 := encs_take_length xs j
        have h3 := hS.out.len
        rw [List.length_append] at h3
        have := HP.out
        omega
      have HBD := Seal.mk hbd
      have hbe : x.enc.length ≤ x.wgt := enc_length x
      have HBE := Seal.mk hbe
      have hL' := HLX.out.below hS.out.bel hgX.out
      clear hbd hbe
      cases x with
      | i n =>
        have hfn : -9223372036854775808 ≤ n ∧ n ≤ 9223372036854775807 := hfx.out
        have HFN := Seal.mk hfn
        clear hfn
        have c0 := hL' j _ hx 0 _ rfl
        have c1 := hL' j _ hx 1 _ rfl
        have c2 := hL' j _ hx 2 _ rfl
        have c3 := hL' j _ hx 3 _ rfl
        rw [Nat.add_zero] at c0
        clear hL' hx
        go_wp2_with (first
          | (go_at_call 84; refine (rencode_int n _ HFN.out.1 HFN.out.2).mono ?_; rintro e w1 ⟨g1, n1, k1, rfl, hS1⟩
             have hSa : Seal (Stg X w1 g3 n3 cap3 (pre ++ encs (xs.take j))) := ⟨hS.out.below hS1.out.bel⟩
             have hn1 : n3 + n1 ≤ 140737488355328 := by have := HBD.out; have := HBE.out; rw [hS1.out.len] at this; omega
             have hI1 : Seal (IsB w1 (some ⟨g1, 0, none⟩) n1 k1 _) := ⟨hS1.out.isB (by omega)⟩
             clear hS1 hS)
          | (at_builtin; refine wpList_append_st rfl (.tmp 41) (.tmp 47) rfl X g3 n3 cap3 _ (some ⟨g1, 0, none⟩) n1 k1 _ rfl rfl hSa hI1 hn1 ?_
             intro g4 cap4 w4 hS4 _ _
             clear hSa hI1))
        go_roundw
        case rel => exact ⟨j + 1, g4, _, cap4, hlt, by go_num, rfl, ⟨by rw [HN.out, ← List.append_assoc]; exact hS4.out⟩⟩
        case measure => simp only [intOf]; omega
      | t b =>
        obtain ⟨s2, rfl⟩ : ∃ s : ByteArray, b = s.data.toList := ⟨⟨b.toArray⟩, by simp⟩
        have hs2 : s2.size + 20 ≤ 140737488355328 := by have h1 := lf_fits_text hx; have h2 : s2.data.toList.length = s2.size := rfl; omega
        have c0 := hL' j _ hx 0 _ rfl
        have c1 := hL' j _ hx 1 _ rfl
        have c2 := hL' j _ hx 2 _ rfl
        have c3 := hL' j _ hx 3 _ rfl
        rw [Nat.add_zero] at c0
        clear hL' hx
        go_wp2_with (first
          | (go_at_call 84; refine (rencode_text s2 _ _ rfl hs2).mono ?_; rintro e w1 ⟨g1, n1, k1, rfl, hS1⟩
             have hSa : Seal (Stg X w1 g3 n3 cap3 (pre ++ encs (xs.take j))) := ⟨hS.out.below hS1.out.bel⟩
             have hn1 : n3 + n1 ≤ 140737488355328 := by have := HBD.out; have := HBE.out; rw [hS1.out.len] at this; omega
             have hI1 : Seal (IsB w1 (some ⟨g1, 0, none⟩) n1 k1 _) := ⟨hS1.out.isB (by omega)⟩
             clear hS1 hS)
          | (at_builtin; refine wpList_append_st rfl (.tmp 41) (.tmp 47) rfl X g3 n3 cap3 _ (some ⟨g1, 0, none⟩) n1 k1 _ rfl rfl hSa hI1 hn1 ?_
             intro g4 cap4 w4 hS4 _ _
             clear hSa hI1))
        go_roundw
        case rel => exact ⟨j + 1, g4, _, cap4, hlt, by go_num, rfl, ⟨by rw [HN.out, ← List.append_assoc]; exact hS4.out⟩⟩
        case measure => simp only [intOf]; omega
    · obtain rfl : j = k := by omega
      have hS5 : Seal (Stg X wr g3 n3 cap3 (encL xs)) := ⟨by rw [hEL.out]; have := hS.out; rwa [List.take_of_length_le (by rw [HK.out]; exact Nat.le_refl _)] at this⟩
      clear hS
      go_wp2
      go_ret
      exact ⟨_, _, _, rfl, ⟨hS5.out.from hXb.out⟩⟩

set_option maxHeartbeats 1000000 in
theorem rformed_int (n : Int) (w : World) : Calls Tryz.prog 97 #[.agg #[.int .i64 1, .int .i64 n, .string ByteArray.empty, .slice none 0 0]] w fun e w' => e = .returned (.bool true) ∧ Below w.heap.size w w' := by
  go_enter Tryz.func97, Tryz.ntmps97
  go_wp2
  go_ret
  exact ⟨rfl, below_alloc _ _⟩

set_option maxHeartbeats 1000000 in
theorem rformed_text (s : ByteArray) (w : World) : Calls Tryz.prog 97 #[.agg #[.int .i64 2, .int .i64 0, .string s, .slice none 0 0]] w fun e w' => e = .returned (.bool true) ∧ Below w.heap.size w w' := by
  go_enter Tryz.func97, Tryz.ntmps97
  go_wp2
  go_ret
  exact ⟨rfl, below_alloc _ _⟩

set_option maxHeartbeats 1000000 in
theorem rdepth_int (n : Int) (w : World) : Calls Tryz.prog 98 #[.agg #[.int .i64 1, .int .i64 n, .string ByteArray.empty, .slice none 0 0]] w fun e w' => e = .returned (.int .i64 0) ∧ Below w.heap.size w w' := by
  go_enter Tryz.func98, Tryz.ntmps98
  go_wp2
  go_ret
  exact ⟨rfl, below_alloc _ _⟩

set_option maxHeartbeats 1000000 in
theorem rdepth_text (s : ByteArray) (w : World) : Calls Tryz.prog 98 #[.agg #[.int .i64 2, .int .i64 0, .string s, .slice none 0 0]] w fun e w' => e = .returned (.int .i64 0) ∧ Below w.heap.size w w' := by
  go_enter Tryz.func98, Tryz.ntmps98
  go_wp2
  go_ret
  exact ⟨rfl, below_alloc _ _⟩

set_option maxHeartbeats 1000000 in
theorem rformed_list (g off k cap : Nat) (xs : List Lf) (w : World) (hk : xs.length = k) (hkc : k ≤ cap) (hkm : k ≤ 140737488355328) (hL : LeavesAt w g off xs) (hg : g < w.heap.size) :
    Calls Tryz.prog 97 #[.agg #[.int .i64 3, .int .i64 0, .string ByteArray.empty, .slice (some ⟨g, off, none⟩) k cap]] w fun e w' => e = .returned (.bool true) ∧ Below w.heap.size w w' := by
  have HK := Seal.mk hk
  obtain ⟨X, hX⟩ : ∃ X : World, Seal (X = w.alloc (.cells #[.int .i64 3, .int .i64 0, .string ByteArray.empty, .slice (some ⟨g, off, none⟩) k cap] 51)) := ⟨_, ⟨rfl⟩⟩
  have hXb : Seal (Below w.heap.size w X) := ⟨by rw [hX.out]; exact below_alloc _ _⟩
  have HX : Seal (X.heap.size = w.heap.size + 1) := ⟨by rw [hX.out, size_alloc]⟩
  have HLX : Seal (LeavesAt X g off xs) := ⟨hL.below hXb.out hg⟩
  have hgX : Seal (g < X.heap.size) := ⟨by rw [HX.out]; omega⟩
  have hXr : Seal (X.heap[w.heap.size]? = some (.cells #[.int .i64 3, .int .i64 0, .string ByteArray.empty, .slice (some ⟨g, off, none⟩) k cap] 51 (0, 0))) := ⟨by rw [hX.out]; exact heap_alloc_new w _⟩
  clear hL hk
  go_enter Tryz.func97, Tryz.ntmps97
  go_wp2
  go_loopw [3] (fun i wr => ∃ j : Nat, j ≤ k ∧ i = .int .i64 (j : Nat) ∧ Seal (Below X.heap.size X wr)) (fun i _ => k - (intOf i).toNat)
  case atStart => exact ⟨0, Nat.zero_le _, rfl, ⟨by rw [hX.out]; exact Below.refl _ _⟩⟩
  case round =>
    obtain ⟨j, hj, rfl, hb⟩ := hrel
    have hrow : wr.heap[w.heap.size]? = some (.cells #[.int .i64 3, .int .i64 0, .string ByteArray.empty, .slice (some ⟨g, off, none⟩) k cap] 51 (0, 0)) := (hb.out.block _ (by rw [HX.out]; exact Nat.lt_succ_self _)).trans hXr.out
    have d1 : wr.cell? ⟨w.heap.size, 1, none⟩ = some (.int .i64 0) := by rw [cell_of_row _ _ _ _ _ _ hrow]; rfl
    have d2 : wr.cell? ⟨w.heap.size, 2, none⟩ = some (.string ByteArray.empty) := by rw [cell_of_row _ _ _ _ _ _ hrow]; rfl
    have d3 : wr.cell? ⟨w.heap.size, 3, none⟩ = some (.slice (some ⟨g, off, none⟩) k cap) := by rw [cell_of_row _ _ _ _ _ _ hrow]; rfl
    clear hrow
    by_cases hlt : j < k
    · obtain ⟨x, hx⟩ : ∃ x, xs[j]? = some x := ⟨_, List.getElem?_eq_getElem (by rw [HK.out]; exact hlt)⟩
      have hL' := HLX.out.below hb.out hgX.out
      cases x with
      | i n =>
        have c0 := hL' j _ hx 0 _ rfl
        have c1 := hL' j _ hx 1 _ rfl
        have c2 := hL' j _ hx 2 _ rfl
        have c3 := hL' j _ hx 3 _ rfl
        rw [Nat.add_zero] at c0
        clear hL' hx
        go_wp2_with (go_at_call 97; refine (rformed_int n _).mono ?_; rintro e w1 ⟨rfl, hb1⟩)
        go_roundw
        case rel => exact ⟨j + 1, hlt, by go_num, ⟨hb.out.trans (hb1.mono hb.out.size)⟩⟩
        case measure => simp only [intOf]; omega
      | t b =>
        obtain ⟨s2, rfl⟩ : ∃ s : ByteArray, b = s.data.toList := ⟨⟨b.toArray⟩, by simp⟩
        have c0 := hL' j _ hx 0 _ rfl
        have c1 := hL' j _ hx 1 _ rfl
        have c2 := hL' j _ hx 2 _ rfl
        have c3 := hL' j _ hx 3 _ rfl
        rw [Nat.add_zero] at c0
        clear hL' hx
        go_wp2_with (go_at_call 97; refine (rformed_text s2 _).mono ?_; rintro e w1 ⟨rfl, hb1⟩)
        go_roundw
        case rel => exact ⟨j + 1, hlt, by go_num, ⟨hb.out.trans (hb1.mono hb.out.size)⟩⟩
        case measure => simp only [intOf]; omega
    · obtain rfl : j = k := by omega
      have HB := Seal.mk (hXb.out.trans (hb.out.mono hXb.out.size))
      clear hb
      go_wp2
      go_ret
      exact ⟨rfl, HB.out⟩

set_option maxHeartbeats 1000000 in
theorem rdepth_list (g off k cap : Nat) (xs : List Lf) (w : World) (hk : xs.length = k) (hkc : k ≤ cap) (hkm : k ≤ 140737488355328) (hL : LeavesAt w g off xs) (hg : g < w.heap.size) :
    Calls Tryz.prog 98 #[.agg #[.int .i64 3, .int .i64 0, .string ByteArray.empty, .slice (some ⟨g, off, none⟩) k cap]] w fun e w' => e = .returned (.int .i64 1) ∧ Below w.heap.size w w' := by
  have HK := Seal.mk hk
  obtain ⟨X, hX⟩ : ∃ X : World, Seal (X = w.alloc (.cells #[.int .i64 3, .int .i64 0, .string ByteArray.empty, .slice (some ⟨g, off, none⟩) k cap] 51)) := ⟨_, ⟨rfl⟩⟩
  have hXb : Seal (Below w.heap.size w X) := ⟨by rw [hX.out]; exact below_alloc _ _⟩
  have HX : Seal (X.heap.size = w.heap.size + 1) := ⟨by rw [hX.out, size_alloc]⟩
  have HLX : Seal (LeavesAt X g off xs) := ⟨hL.below hXb.out hg⟩
  have hgX : Seal (g < X.heap.size) := ⟨by rw [HX.out]; omega⟩
  have hXr : Seal (X.heap[w.heap.size]? = some (.cells #[.int .i64 3, .int .i64 0, .string ByteArray.empty, .slice (some ⟨g, off, none⟩) k cap] 51 (0, 0))) := ⟨by rw [hX.out]; exact heap_alloc_new w _⟩
  clear hL hk
  go_enter Tryz.func98, Tryz.ntmps98
  go_wp2
  go_loopw [3, 4] (fun n i wr => n = .int .i64 0 ∧ ∃ j : Nat, j ≤ k ∧ i = .int .i64 (j : Nat) ∧ Seal (Below X.heap.size X wr)) (fun _ i _ => k - (intOf i).toNat)
  case atStart => exact ⟨rfl, 0, Nat.zero_le _, rfl, ⟨by rw [hX.out]; exact Below.refl _ _⟩⟩
  case round =>
    obtain ⟨rfl, j, hj, rfl, hb⟩ := hrel
    have hrow : wr.heap[w.heap.size]? = some (.cells #[.int .i64 3, .int .i64 0, .string ByteArray.empty, .slice (some ⟨g, off, none⟩) k cap] 51 (0, 0)) := (hb.out.block _ (by rw [HX.out]; exact Nat.lt_succ_self _)).trans hXr.out
    have d3 : wr.cell? ⟨w.heap.size, 3, none⟩ = some (.slice (some ⟨g, off, none⟩) k cap) := by rw [cell_of_row _ _ _ _ _ _ hrow]; rfl
    clear hrow
    by_cases hlt : j < k
    · obtain ⟨x, hx⟩ : ∃ x, xs[j]? = some x := ⟨_, List.getElem?_eq_getElem (by rw [HK.out]; exact hlt)⟩
      have hL' := HLX.out.below hb.out hgX.out
      cases x with
      | i n =>
        have c0 := hL' j _ hx 0 _ rfl
        have c1 := hL' j _ hx 1 _ rfl
        have c2 := hL' j _ hx 2 _ rfl
        have c3 := hL' j _ hx 3 _ rfl
        rw [Nat.add_zero] at c0
        clear hL' hx
        go_wp2_with (go_at_call 98; refine (rdepth_int n _).mono ?_; rintro e w1 ⟨rfl, hb1⟩)
        go_roundw
        case rel => exact ⟨rfl, j + 1, hlt, by go_num, ⟨hb.out.trans (hb1.mono hb.out.size)⟩⟩
        case measure => simp only [intOf]; omega
      | t b =>
        obtain ⟨s2, rfl⟩ : ∃ s : ByteArray, b = s.data.toList := ⟨⟨b.toArray⟩, by simp⟩
        have c0 := hL' j _ hx 0 _ rfl
        have c1 := hL' j _ hx 1 _ rfl
        have c2 := hL' j _ hx 2 _ rfl
        have c3 := hL' j _ hx 3 _ rfl
        rw [Nat.add_zero] at c0
        clear hL' hx
        go_wp2_with (go_at_call 98; refine (rdepth_text s2 _).mono ?_; rintro e w1 ⟨rfl, hb1⟩)
        go_roundw
        case rel => exact ⟨rfl, j + 1, hlt, by go_num, ⟨hb.out.trans (hb1.mono hb.out.size)⟩⟩
        case measure => simp only [intOf]; omega
    · obtain rfl : j = k := by omega
      have HB := Seal.mk (hXb.out.trans (hb.out.mono hXb.out.size))
      clear hb
      go_wp2
      go_ret
      exact ⟨rfl, HB.out⟩

set_option maxHeartbeats 1000000 in
theorem rcheck_list (g off k cap : Nat) (xs : List Lf) (w : World) (hk : xs.length = k) (hkc : k ≤ cap) (hkm : k ≤ 140737488355328) (hL : LeavesAt w g off xs) (hg : g < w.heap.size) :
    Calls Tryz.prog 83 #[.agg #[.int .i64 3, .int .i64 0, .string ByteArray.empty, .slice (some ⟨g, off, none⟩) k cap]] w fun e w' => e = .returned (.int .i64 0) ∧ Below w.heap.size w w' := by
  have HL := Seal.mk hL
  have HK := Seal.mk hk
  have hL1 : LeavesAt (w.alloc (.cells #[.int .i64 3, .int .i64 0, .string ByteArray.empty, .slice (some ⟨g, off, none⟩) k cap] 51)) g off xs := hL.below (below_alloc _ _) hg
  have HC : Seal _ := ⟨rformed_list g off k cap xs (w.alloc (.cells #[.int .i64 3, .int .i64 0, .string ByteArray.empty, .slice (some ⟨g, off, none⟩) k cap] 51)) hk hkc hkm hL1 (by rw [size_alloc]; omega)⟩
  have HL1 := Seal.mk hL1
  clear hL hk hL1
  go_enter Tryz.func83, Tryz.ntmps83
  go_wp2_with fail
  refine HC.out.mono ?_
  rintro e w1 ⟨rfl, hb1⟩
  have hrow : w1.heap[w.heap.size]? = some (.cells #[.int .i64 3, .int .i64 0, .string ByteArray.empty, .slice (some ⟨g, off, none⟩) k cap] 51 (0, 0)) := (hb1.block _ (by rw [size_alloc]; omega)).trans (heap_alloc_new w _)
  have d0 : w1.cell? ⟨w.heap.size, 0, none⟩ = some (.int .i64 3) := by rw [cell_of_row _ _ _ _ _ _ hrow]; rfl
  have d1 : w1.cell? ⟨w.heap.size, 1, none⟩ = some (.int .i64 0) := by rw [cell_of_row _ _ _ _ _ _ hrow]; rfl
  have d2 : w1.cell? ⟨w.heap.size, 2, none⟩ = some (.string ByteArray.empty) := by rw [cell_of_row _ _ _ _ _ _ hrow]; rfl
  have d3 : w1.cell? ⟨w.heap.size, 3, none⟩ = some (.slice (some ⟨g, off, none⟩) k cap) := by rw [cell_of_row _ _ _ _ _ _ hrow]; rfl
  have HD : Seal _ := ⟨rdepth_list g off k cap xs w1 HK.out hkc hkm (HL1.out.below hb1 (by rw [size_alloc]; omega)) (by have := hb1.size; rw [size_alloc] at this; omega)⟩
  have HB := Seal.mk ((below_alloc w (.cells #[.int .i64 3, .int .i64 0, .string ByteArray.empty, .slice (some ⟨g, off, none⟩) k cap] 51)).trans (hb1.mono (by rw [size_alloc]; omega)))
  clear hrow hb1 HC
  go_wp2_with fail
  refine HD.out.mono ?_
  rintro e w2 ⟨rfl, hb2⟩
  have HB2 := Seal.mk (HB.out.trans (hb2.mono HB.out.size))
  clear hb2 HD d0 d1 d2 d3
  go_wp2
  go_ret
  exact ⟨rfl, HB2.out⟩

set_option maxHeartbeats 1000000 in
/-- the reference's encoding of a list of leaves -/
theorem rencode_any (g off k cap : Nat) (xs : List Lf) (w : World) (hk : xs.length = k) (hkc : k ≤ cap) (hl : wgts xs + 30 ≤ 140737488355328) (hL : LeavesAt w g off xs) (hg : g < w.heap.size) (hf : ∀ y ∈ xs, y.fits) :
    Calls Tryz.prog 58 #[.agg #[.int .i64 3, .int .i64 0, .string ByteArray.empty, .slice (some ⟨g, off, none⟩) k cap]] w fun e w' => ∃ g' n c, e = .returned (.tuple #[.slice (some ⟨g', 0, none⟩) n c, .int .i64 0]) ∧ Seal (Stg w w' g' n c (encL xs)) := by
  have hkm : k ≤ 140737488355328 := by have := wgts_ge xs; omega
  have HK := Seal.mk hk
  have HF := Seal.mk hf
  have HW := Seal.mk hl
  have hL1 : LeavesAt (w.alloc (.cells #[.int .i64 3, .int .i64 0, .string ByteArray.empty, .slice (some ⟨g, off, none⟩) k cap] 51)) g off xs := hL.below (below_alloc _ _) hg
  have HC : Seal _ := ⟨rcheck_list g off k cap xs (w.alloc (.cells #[.int .i64 3, .int .i64 0, .string ByteArray.empty, .slice (some ⟨g, off, none⟩) k cap] 51)) hk hkc hkm hL1 (by rw [size_alloc]; omega)⟩
  have HL1 := Seal.mk hL1
  clear hL hk hf hL1 hl
  go_enter Tryz.func58, Tryz.ntmps58
  go_wp2_with fail
  refine HC.out.mono ?_
  rintro e w1 ⟨rfl, hb1⟩
  have hrow : w1.heap[w.heap.size]? = some (.cells #[.int .i64 3, .int .i64 0, .string ByteArray.empty, .slice (some ⟨g, off, none⟩) k cap] 51 (0, 0)) := (hb1.block _ (by rw [size_alloc]; omega)).trans (heap_alloc_new w _)
  have d0 : w1.cell? ⟨w.heap.size, 0, none⟩ = some (.int .i64 3) := by rw [cell_of_row _ _ _ _ _ _ hrow]; rfl
  have d1 : w1.cell? ⟨w.heap.size, 1, none⟩ = some (.int .i64 0) := by rw [cell_of_row _ _ _ _ _ _ hrow]; rfl
  have d2 : w1.cell? ⟨w.heap.size, 2, none⟩ = some (.string ByteArray.empty) := by rw [cell_of_row _ _ _ _ _ _ hrow]; rfl
  have d3 : w1.cell? ⟨w.heap.size, 3, none⟩ = some (.slice (some ⟨g, off, none⟩) k cap) := by rw [cell_of_row _ _ _ _ _ _ hrow]; rfl
  have HD : Seal _ := ⟨rencode_list g off k cap xs w1 HK.out hkc HW.out (HL1.out.below hb1 (by rw [size_alloc]; omega)) (by have := hb1.size; rw [size_alloc] at this; omega) HF.out⟩
  have HB := Seal.mk ((below_alloc w (.cells #[.int .i64 3, .int .i64 0, .string ByteArray.empty, .slice (some ⟨g, off, none⟩) k cap] 51)).trans (hb1.mono (by rw [size_alloc]; omega)))
  clear hrow hb1 HC
  go_wp2_with fail
  refine HD.out.mono ?_
  rintro e w2 ⟨g2, n2, c2, rfl, hS2⟩
  have hS3 : Seal (Stg w w2 g2 n2 c2 (encL xs)) := ⟨hS2.out.from HB.out⟩
  clear HD d0 d1 d2 d3 hS2
  go_wp2
  go_ret2
  exact ⟨_, _, _, rfl, hS3⟩
end Frk
