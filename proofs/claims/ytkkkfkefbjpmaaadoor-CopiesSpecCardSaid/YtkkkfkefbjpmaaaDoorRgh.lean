/- The reference's Tagged and Hash. -/
import Derived.Test.YtkkkfkefbjpmaaaDoorRsm
import Derived.Test.YtkkkfkefbjpmaaaDoorGrf
namespace Frk
open Go Go.RowKit Go.Proofs
set_option maxRecDepth 100000

set_option maxHeartbeats 2000000 in
theorem rtagged_any (tag : ByteArray) (a : Option Addr) (len cap : Nat) (l : Bytes) (w : World) (hb : IsB w a len cap l) (ht2 : tag.size ≤ 64) (hm : len + 200 ≤ 140737488355328) :
   Calls Tryd.prog 89 #[.string tag, .slice a len cap] w fun e w' => e = .returned (.agg ((tagged tag.data.toList l).map B).toArray) ∧ Below w.heap.size w w' := by
  obtain ⟨ct, W1, hrun, hW1⟩ := conv_str (w.alloc (.cells #[.int .u8 0, .int .u8 0, .int .u8 0, .int .u8 0, .int .u8 0, .int .u8 0, .int .u8 0, .int .u8 0, .int .u8 0, .int .u8 0, .int .u8 0, .int .u8 0, .int .u8 0, .int .u8 0, .int .u8 0, .int .u8 0, .int .u8 0, .int .u8 0, .int .u8 0, .int .u8 0, .int .u8 0, .int .u8 0, .int .u8 0, .int .u8 0, .int .u8 0, .int .u8 0, .int .u8 0, .int .u8 0, .int .u8 0, .int .u8 0, .int .u8 0, .int .u8 0] 25)) tag (by omega)
  have HB := Seal.mk hb
  have HL := Seal.mk hb.llen
  have hsz1 := hW1.out.2.2.2.2
  rw [size_alloc] at hrun hsz1
  have HS1 := Seal.mk hsz1
  have hr1 : W1.rangeAt (w.heap.size + 1) 0 (tag.data.toList.map B) := by have := hW1.out.2.1; rwa [size_alloc] at this
  have HC1 := Seal.mk (rsum_any (some ⟨w.heap.size + 1, 0, none⟩) tag.size ct tag.data.toList W1 ⟨by simp, hW1.out.2.2.1, by omega, hW1.out.2.2.2.1, .inr ⟨_, _, rfl, hr1, by omega⟩⟩ (by omega))
  clear hb hsz1 hr1
  go_enter Tryd.func89, Tryd.ntmps89
  have HD1 : Seal ((Tryd.prog.info? 25).map (·.size) = some ((sha tag.data.toList).map B).length) := ⟨sha_info _⟩
  have HD2 : Seal (((sha tag.data.toList).map B).length = 32) := ⟨by rw [List.length_map, sha_length]⟩
  have HD3 : Seal (∀ u ∈ (sha tag.data.toList).map B, u.oneCell' = true) := ⟨by simp [Value.oneCell']⟩
  obtain ⟨D, hD⟩ : ∃ D, Seal (D = (sha tag.data.toList).map B) := ⟨_, ⟨rfl⟩⟩
  rw [← hD.out] at HD1 HD2 HD3 HC1
  go_wp2_with fail
  refine HC1.out.mono ?_
  rintro e w2 ⟨rfl, hb2⟩
  have hs1 := HS1.out
  have hb0 : Below w.heap.size w w2 := (below_alloc w _).trans ((hW1.out.1.mono (by rw [size_alloc]; omega)).trans (hb2.mono (by omega)))
  have hz1 : W1.heap[w.heap.size]? = some (.cells #[.int .u8 0, .int .u8 0, .int .u8 0, .int .u8 0, .int .u8 0, .int .u8 0, .int .u8 0, .int .u8 0, .int .u8 0, .int .u8 0, .int .u8 0, .int .u8 0, .int .u8 0, .int .u8 0, .int .u8 0, .int .u8 0, .int .u8 0, .int .u8 0, .int .u8 0, .int .u8 0, .int .u8 0, .int .u8 0, .int .u8 0, .int .u8 0, .int .u8 0, .int .u8 0, .int .u8 0, .int .u8 0, .int .u8 0, .int .u8 0, .int .u8 0, .int .u8 0] 25 (0, 0)) := (hW1.out.1.block _ (by rw [size_alloc]; omega)).trans (heap_alloc_new w _)
  have hz2' : w2.heap[w.heap.size]? = some (.cells #[.int .u8 0, .int .u8 0, .int .u8 0, .int .u8 0, .int .u8 0, .int .u8 0, .int .u8 0, .int .u8 0, .int .u8 0, .int .u8 0, .int .u8 0, .int .u8 0, .int .u8 0, .int .u8 0, .int .u8 0, .int .u8 0, .int .u8 0, .int .u8 0, .int .u8 0, .int .u8 0, .int .u8 0, .int .u8 0, .int .u8 0, .int .u8 0, .int .u8 0, .int .u8 0, .int .u8 0, .int .u8 0, .int .u8 0, .int .u8 0, .int .u8 0, .int .u8 0] 25 (0, 0)) := (hb2.block _ (by omega)).trans hz1
  obtain ⟨Y, hY⟩ : ∃ Y : World, Seal (Y = w2.alloc (.cells D.toArray 25)) := ⟨_, ⟨rfl⟩⟩
  have hYb : Seal (Below w.heap.size w Y) := ⟨by rw [hY.out]; exact hb0.alloc hb0.size _⟩
  have hYz : Seal (Y.heap[w.heap.size]? = some (.cells #[.int .u8 0, .int .u8 0, .int .u8 0, .int .u8 0, .int .u8 0, .int .u8 0, .int .u8 0, .int .u8 0, .int .u8 0, .int .u8 0, .int .u8 0, .int .u8 0, .int .u8 0, .int .u8 0, .int .u8 0, .int .u8 0, .int .u8 0, .int .u8 0, .int .u8 0, .int .u8 0, .int .u8 0, .int .u8 0, .int .u8 0, .int .u8 0, .int .u8 0, .int .u8 0, .int .u8 0, .int .u8 0, .int .u8 0, .int .u8 0, .int .u8 0, .int .u8 0] 25 (0, 0))) := ⟨by rw [hY.out, Below.heap_alloc _ _ _ (Array.getElem?_eq_some_iff.1 hz2').1]; exact hz2'⟩
  have hYd : Seal (IsB Y (some ⟨w2.heap.size, 0, none⟩) 32 32 (sha tag.data.toList)) := ⟨by rw [hY.out, hD.out]; exact isB_new w2 _ 32 _ (0, 0) (sha_length _) (by decide)⟩
  have hS0 : Seal (Stg Y (Y.alloc (.cells #[] 5)) Y.heap.size 0 0 []) := ⟨stg_new Y [] 0 rfl (by decide)⟩
  have hI0 : Seal (IsB (Y.alloc (.cells #[] 5)) (some ⟨w2.heap.size, 0, none⟩) 32 32 (sha tag.data.toList)) := ⟨hYd.out.below (below_alloc _ _)⟩
  clear hz1 hz2' hb2 hb0 hs1 HC1 hrun hW1 HS1
  obtain ⟨E, hE⟩ : ∃ E : Array Value, Seal (E = ((sha (sha tag.data.toList ++ l)).map B).toArray) := ⟨_, ⟨rfl⟩⟩
  have HE1 : Seal ((Tryd.prog.info? 25).map (·.size) = some E.size) := ⟨by rw [hE.out, List.size_toArray]; exact sha_info _⟩
  have HE2 : Seal (E.size = 32) := ⟨by rw [hE.out, List.size_toArray, List.length_map, sha_length]⟩
  have HE3 : Seal (E.all (·.oneCell') = true) := ⟨by rw [hE.out]; simp [Value.oneCell']⟩
  go_wp2_with (first
    | (at_builtin; refine wpList_append_st rfl (.tmp 9) (.tmp 10) rfl Y Y.heap.size 0 0 [] (some ⟨w2.heap.size, 0, none⟩) 32 32 (sha tag.data.toList) rfl rfl hS0 hI0 (by omega) ?_
       intro g1 cap1 w3 hS3 _ _
       rw [Nat.zero_add] at hS3 ⊢
       rw [List.nil_append] at hS3
       have hI3 : Seal (IsB w3 a len cap l) := ⟨(HB.out.below hYb.out).below hS3.out.bel⟩
       clear hS0 hI0)
    | (at_builtin; refine wpList_append_st rfl (.tmp 11) (.tmp 12) rfl Y g1 32 cap1 (sha tag.data.toList) a len cap l rfl rfl hS3 hI3 (by omega) ?_
       intro g4 cap4 w4 hS4 _ _
       have hC4 : Seal _ := ⟨rsum_any (some ⟨g4, 0, none⟩) (32 + len) cap4 _ w4 (hS4.out.isB (by omega)) (by omega)⟩
       rw [← hE.out] at hC4
       have hB4 := Seal.mk (hYb.out.trans (hS4.out.bel.mono hYb.out.size))
       have hZ4 := Seal.mk ((hS4.out.bel.block _ (Array.getElem?_eq_some_iff.1 hYz.out).1).trans hYz.out)
       clear hS3 hI3 hS4)
    | (go_at_call 115; refine hC4.out.mono ?_; rintro e w5 ⟨rfl, hb5⟩
       have hZ5 := Seal.mk ((hb5.block _ (Array.getElem?_eq_some_iff.1 hZ4.out).1).trans hZ4.out)
       have hB5 := Seal.mk (hB4.out.trans (hb5.mono hB4.out.size))
       clear hb5)
    | (refine wpList_store_row rfl 25 (.tmp 4) (.tmp 14) rfl w.heap.size E rfl rfl 25 _ hZ5.out HE1.out HE2.out.symm HE3.out ?_)
    | (refine wpList_store_new rfl 25 (.tmp 5) (.tmp 8) rfl [.int .u8 0, .int .u8 0, .int .u8 0, .int .u8 0, .int .u8 0, .int .u8 0, .int .u8 0, .int .u8 0, .int .u8 0, .int .u8 0, .int .u8 0, .int .u8 0, .int .u8 0, .int .u8 0, .int .u8 0, .int .u8 0, .int .u8 0, .int .u8 0, .int .u8 0, .int .u8 0, .int .u8 0, .int .u8 0, .int .u8 0, .int .u8 0, .int .u8 0, .int .u8 0, .int .u8 0, .int .u8 0, .int .u8 0, .int .u8 0, .int .u8 0, .int .u8 0] D 25 rfl rfl HD1.out HD2.out.symm HD3.out ?_; rw [← hY.out]))
  refine bodyPost_ret (results_cell_row (fn := Tryd.f89) rfl _ _ w.heap.size 25 E (0, 0) _ rfl (setRow_heap _ _ _ _ _ _ hZ5.out) Tryd.underlying25 rfl HE1.out) rfl ⟨?_, below_row hB5.out (Nat.le_refl _) _⟩
  rw [hE.out]
  rfl

theorem mask0_getD (l : Bytes) (k : Nat) (hk : 0 < k) : (mask0 l).getD k 0 = l.getD k 0 := by
  unfold mask0
  rw [List.getD_eq_getElem?_getD, List.getElem?_set, if_neg (by omega), List.getD_eq_getElem?_getD]

theorem hpre_one (l : Bytes) (hl : 0 < l.length) : hpre (mask0 l) 1 = (l.getD 0 0).toNat % 128 := by
  have e0 : ((mask0 l).getD 0 0).toNat = (l.getD 0 0).toNat % 128 := by
    unfold mask0
    rw [List.getD_eq_getElem?_getD, List.getElem?_set, if_pos rfl, if_pos hl, Option.getD_some, UInt8.toNat_ofNat_of_lt' (Nat.lt_of_lt_of_le (Nat.mod_lt _ (by decide)) (by decide))]
  simp only [hpre, e0, Nat.zero_mul, Nat.zero_add]

theorem hpre_next (l : Bytes) (k : Nat) (hk : 0 < k) : hpre (mask0 l) (k + 1) = hpre (mask0 l) k * 256 + (l.getD k 0).toNat := by
  rw [hpre, mask0_getD l k hk]

theorem hpre_bd (l : Bytes) (hl : l.length = 32) (k : Nat) (hk : k < 8) : hpre (mask0 l) k < 36028797018963968 := by
  have h0 : ((mask0 l).getD 0 0).toNat < 128 := by
    have := hpre_one l (by omega)
    simp only [hpre, Nat.zero_mul, Nat.zero_add] at this
    rw [this]; exact Nat.mod_lt _ (by decide)
  cases k with
  | zero => simp [hpre]
  | succ j => exact Nat.lt_of_lt_of_le (hpre_lt (mask0 l) h0 j (by omega)) (Nat.le_trans (Nat.mul_le_mul_left 128 (Nat.pow_le_pow_right (n := 256) (j := 6) (by decide) (by omega))) (by decide))

set_option maxHeartbeats 1000000 in
theorem rghash_any (tag : ByteArray) (a : Option Addr) (len cap : Nat) (l : Bytes) (w : World) (hb : IsB w a len cap l) (ht2 : tag.size ≤ 64) (hm : len + 200 ≤ 140737488355328) :
   Calls Tryd.prog 65 #[.string tag, .slice a len cap] w fun e w' => e = .returned (.int .i64 (ghash tag.data.toList l)) ∧ Below w.heap.size w w' := by
  have HC := Seal.mk (rtagged_any tag a len cap l w hb ht2 hm)
  have HD := Seal.mk (show (tagged tag.data.toList l).length = 32 from sha_length _)
  have HG : Seal (ghash tag.data.toList l = hashN (tagged tag.data.toList l)) := ⟨rfl⟩
  clear hb ht2 hm
  generalize tagged tag.data.toList l = d at HC HD HG
  have HD1 : Seal ((Tryd.prog.info? 25).map (·.size) = some (d.map B).length) := ⟨by rw [List.length_map, HD.out]; kernel_rfl⟩
  have HD2 : Seal ((d.map B).length = 32) := ⟨by rw [List.length_map, HD.out]⟩
  have HD3 : Seal (∀ u ∈ d.map B, u.oneCell' = true) := ⟨by simp [Value.oneCell']⟩
  obtain ⟨D, hD⟩ : ∃ D, Seal (D = d.map B) := ⟨_, ⟨rfl⟩⟩
  rw [← hD.out] at HD1 HD2 HD3 HC
  go_enter Tryd.func65, Tryd.ntmps65
  go_wp2_with fail
  refine HC.out.mono ?_
  rintro e w1 ⟨rfl, hb1⟩
  have hW : Seal (Below w.heap.size w (w1.alloc (.cells D.toArray 25))) := ⟨hb1.alloc hb1.size _⟩
  have hr : Seal ((w1.alloc (.cells D.toArray 25)).rangeAt w1.heap.size 0 (d.map B)) := ⟨by rw [← hD.out]; exact rangeAt_new w1 _ _ _⟩
  clear hb1 HC
  have c0 : (w1.alloc (.cells D.toArray 25)).cell? ⟨w1.heap.size, 0, none⟩ = some (.int .u8 ((d.getD 0 0).toNat : Int)) := by
    have := cellB hr.out (i := 0) (by rw [HD.out]; decide)
    exact this
  have b0 := UInt8.toNat_lt (d.getD 0 0)
  have H1 : Seal (hpre (mask0 d) 1 = (d.getD 0 0).toNat % 128) := ⟨hpre_one d (by rw [HD.out]; decide)⟩
  generalize (d.getD 0 0).toNat = x0 at c0 b0 H1
  go_wp2_with (refine wpList_store_new rfl 25 (.tmp 5) (.tmp 10) rfl [.int .u8 0, .int .u8 0, .int .u8 0, .int .u8 0, .int .u8 0, .int .u8 0, .int .u8 0, .int .u8 0, .int .u8 0, .int .u8 0, .int .u8 0, .int .u8 0, .int .u8 0, .int .u8 0, .int .u8 0, .int .u8 0, .int .u8 0, .int .u8 0, .int .u8 0, .int .u8 0, .int .u8 0, .int .u8 0, .int .u8 0, .int .u8 0, .int .u8 0, .int .u8 0, .int .u8 0, .int .u8 0, .int .u8 0, .int .u8 0, .int .u8 0, .int .u8 0] D 25 rfl rfl HD1.out HD2.out.symm HD3.out ?_)
  clear c0
  generalize w1.alloc (.cells D.toArray 25) = X at *
  go_loopw [6, 7] (fun n i wr => ∃ k : Nat, 1 ≤ k ∧ k ≤ 8 ∧ i = .int .i64 k ∧ n = .int .i64 (hpre (mask0 d) k : Nat) ∧ wr = X) (fun _ i _ => 8 - (intOf i).toNat)
  case atStart => exact ⟨1, by omega, by omega, rfl, by rw [H1.out]; go_num, rfl⟩
  case round =>
    obtain ⟨k, hk1, hk, rfl, rfl, rfl⟩ := hrel
    by_cases hlt : k < 8
    · have ck := cellB hr.out (i := k) (by rw [HD.out]; omega)
      rw [Nat.zero_add] at ck
      have bk := UInt8.toNat_lt (d.getD k 0)
      have HN := Seal.mk (hpre_next d k hk1)
      have hbd := hpre_bd d HD.out k hlt
      generalize hpre (mask0 d) k = z at *
      generalize (d.getD k 0).toNat = y at *
      go_wp2
      go_roundw
      case rel => exact ⟨k + 1, by omega, hlt, by go_num, by rw [HN.out]; go_num, trivial⟩
      case measure => simp [intOf]; omega
    · obtain rfl : k = 8 := by omega
      have HE : Seal (hpre (mask0 d) 8 % 1073741789 = ghash tag.data.toList l) := ⟨by rw [HG.out]; exact hpre_eight d HD.out⟩
      have hz : hpre (mask0 d) 8 < 9223372036854775808 := by
        have h7 := hpre_bd d HD.out 7 (by decide)
        have := UInt8.toNat_lt (d.getD 7 0)
        rw [hpre_next d 7 (by decide)]; omega
      generalize hpre (mask0 d) 8 = z at *
      rw [show ((8 : Nat) : Int) = 8 from rfl]
      go_wp2
      go_ret
      exact ⟨ret_i64 (by rw [← HE.out, Int.natCast_emod]; rfl), hW.out⟩
end Frk
