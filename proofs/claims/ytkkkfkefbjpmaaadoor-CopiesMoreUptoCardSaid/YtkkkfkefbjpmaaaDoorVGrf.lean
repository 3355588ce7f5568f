/- The program's Mul and Hash, and what the packages sign and blind make of them. -/
import Derived.Test.YtkkkfkefbjpmaaaDoorVPow
import Derived.Test.YtkkkfkefbjpmaaaDoorVTag
import Derived.Test.YtkkkfkefbjpmaaaDoorVCod
namespace Frk
open Go Go.RowKit Go.Proofs
set_option maxRecDepth 100000

/-- a product of elements -/
theorem mul_yes (a b : Int) (w : World) (ha : vd a = true) (hb : vd b = true) :
    Calls Tryd.prog 85 #[.int .i64 a, .int .i64 b] w fun e w' => e = .returned (.tuple #[.int .i64 (mp a.toNat b.toNat : Nat), .int .i64 0]) ∧ w = w' := by
  obtain ⟨A, rfl, hA⟩ := vd_of_vd ha
  obtain ⟨B, rfl, hB⟩ := vd_of_vd hb
  have hA1 : A < 2147483579 := hA.2.1
  have hB1 : B < 2147483579 := hB.2.1
  obtain ⟨b1, b2⟩ := mul_bd hB1 hA1
  clear hA hB
  go_enter Tryd.func85, Tryd.ntmps85
  go_wp2_with (go_at_call 84; refine (valid_any _ _).mono ?_; rintro e w' ⟨rfl, rfl⟩)
  go_ret2
  refine ⟨?_, rfl⟩
  unfold mp
  simp [P]

/-- the first bytes of a hash as a number -/
def hpre (l : Bytes) : Nat → Nat
  | 0 => 0
  | k + 1 => hpre l k * 256 + (l.getD k 0).toNat

def mask0 (l : Bytes) : Bytes := l.set 0 (UInt8.ofNat ((l.getD 0 0).toNat % 128))

theorem hpre_lt (l : Bytes) (h0 : (l.getD 0 0).toNat < 128) : ∀ k, k ≤ 7 → hpre l (k + 1) < 128 * 256 ^ k
  | 0, _ => by simpa [hpre] using h0
  | k + 1, hk => by
    have h := hpre_lt l h0 k (by omega)
    have h2 := UInt8.toNat_lt (l.getD (k + 1) 0)
    rw [hpre, Nat.pow_succ]
    omega

theorem hpre_eight (l : Bytes) (hl : l.length = 32) : hpre (mask0 l) 8 % 1073741789 = hashN l := by
  have e0 : ((mask0 l).getD 0 0).toNat = (l.getD 0 0).toNat % 128 := by
    unfold mask0
    rw [List.getD_eq_getElem?_getD, List.getElem?_set, if_pos rfl, if_pos (by omega), Option.getD_some, UInt8.toNat_ofNat_of_lt' (Nat.lt_of_lt_of_le (Nat.mod_lt _ (by decide)) (by decide))]
  have e : ∀ k, 0 < k → (mask0 l).getD k 0 = l.getD k 0 := fun k hk => by
    unfold mask0
    rw [List.getD_eq_getElem?_getD, List.getElem?_set, if_neg (by omega), List.getD_eq_getElem?_getD]
  unfold hashN
  simp only [hpre, e0, e 1 (by omega), e 2 (by omega), e 3 (by omega), e 4 (by omega), e 5 (by omega), e 6 (by omega), e 7 (by omega), Nat.zero_mul, Nat.zero_add]

theorem or_byte64 (n c : Nat) (hn : n < 36028797018963968) (hc : c < 256) : bits .or .i64 ((n : Int) * 256) (c : Int) = ((n * 256 + c : Nat) : Int) := by
  rw [show (n : Int) * 256 = ((n * 256 : Nat) : Int) from by omega, i64_or_nat _ _ (by omega) (by omega), nat_join 8 (n * 256) c (by omega) (by omega)]

theorem mask_byte (c : Nat) (hc : c < 256) : bits .and .u8 (c : Int) 127 = ((c % 128 : Nat) : Int) := by
  rw [show (127 : Int) = ((127 : Nat) : Int) from rfl, u8_and_nat _ _ hc (by decide), nat_mask7]

set_option maxHeartbeats 1000000 in
theorem hash_some (tag : ByteArray) (g off len cap : Nat) (l : Bytes) (w : World) (hG : Glob w) (ht : 0 < tag.size) (ht2 : tag.size ≤ 64) (hl : l.length = len) (hlc : len ≤ cap) (hlm : len + 32 ≤ 140737488355328) (hm : cap ≤ 9223372036854775807)
    (hr : w.rangeAt g off (l.map B)) (hg : g < w.heap.size) :
   Calls Tryd.prog 77 #[.string tag, .slice (some ⟨g, off, none⟩) len cap] w fun e w' => e = .returned (.int .i64 (ghash tag.data.toList l)) ∧ Below w.heap.size w w' := by
  have HC := Seal.mk (tagged_some tag g off len cap l w hG ht ht2 hl hlc hlm hm hr hg)
  have HD := Seal.mk (show (tagged tag.data.toList l).length = 32 from sha_length _)
  have HG : Seal (ghash tag.data.toList l = hashN (tagged tag.data.toList l)) := ⟨rfl⟩
  clear hG ht ht2 hl hlc hlm hm hr hg
  generalize tagged tag.data.toList l = d at HC HD HG
  have hd0 := UInt8.toNat_lt (d.getD 0 0)
  have hmb := mask_byte (d.getD 0 0).toNat hd0
  have HB : Seal (Value.int .u8 (((d.getD 0 0).toNat % 128 : Nat) : Int) = B (UInt8.ofNat ((d.getD 0 0).toNat % 128))) := ⟨by
    unfold B; rw [UInt8.toNat_ofNat_of_lt' (Nat.lt_of_lt_of_le (Nat.mod_lt _ (by decide)) (by decide))]⟩
  have HE : Seal ((d.map B).set 0 (B (UInt8.ofNat ((d.getD 0 0).toNat % 128))) = (mask0 d).map B) := ⟨by unfold mask0; rw [List.map_set]⟩
  generalize hx0 : (d.getD 0 0).toNat = x0 at hd0 hmb HB HE
  have HX0 := Seal.mk hx0
  clear hx0
  have HD1 : Seal ((Tryd.prog.info? 25).map (·.size) = some (d.map B).length) := ⟨by rw [List.length_map, HD.out]; kernel_rfl⟩
  have HD2 : Seal ((d.map B).length = 32) := ⟨by rw [List.length_map, HD.out]⟩
  have HD3 : Seal (∀ u ∈ d.map B, u.oneCell' = true) := ⟨by simp [Value.oneCell']⟩
  have HD4 : Seal ((d.map B)[0]? = some (.int .u8 x0)) := ⟨by rw [List.getElem?_map, List.getElem?_eq_getElem (by rw [HD.out]; decide), ← HX0.out, List.getD_eq_getElem?_getD, List.getElem?_eq_getElem (by rw [HD.out]; decide)]; rfl⟩
  obtain ⟨D, hD⟩ : ∃ D, Seal (D = d.map B) := ⟨_, ⟨rfl⟩⟩
  rw [← hD.out] at HD1 HD2 HD3 HD4 HC HE
  go_enter Tryd.func77, Tryd.ntmps77
  go_wp2_with fail
  refine HC.out.mono ?_
  rintro e w1 ⟨rfl, hb1⟩
  have HB1 := Seal.mk hb1
  have hc0 : (w1.alloc (.cells D.toArray 25)).cell? ⟨w1.heap.size, 0, none⟩ = some (.int .u8 x0) := by
    rw [cell_of_row _ _ _ _ _ _ (heap_alloc_new w1 _)]; simpa using HD4.out
  have hf0 : (w1.alloc (.cells D.toArray 25)).frozen? ⟨w1.heap.size, 0, none⟩ = false := frozen_of_row _ _ _ _ _ (heap_alloc_new w1 _)
  have hset : (w1.alloc (.cells D.toArray 25)).setCell ⟨w1.heap.size, 0, none⟩ (.int .u8 ((x0 : Int) % 128)) = w1.alloc (.cells ((mask0 d).map B).toArray 25) := by
    rw [World.setCell_alloc_at _ _ _ _ _ rfl, ← HE.out, ← HB.out, Int.natCast_emod]
    simp
  clear hb1 HC
  go_wp2_with (refine wpList_store_new rfl 25 (.tmp 5) (.tmp 9) rfl [.int .u8 0, .int .u8 0, .int .u8 0, .int .u8 0, .int .u8 0, .int .u8 0, .int .u8 0, .int .u8 0, .int .u8 0, .int .u8 0, .int .u8 0, .int .u8 0, .int .u8 0, .int .u8 0, .int .u8 0, .int .u8 0, .int .u8 0, .int .u8 0, .int .u8 0, .int .u8 0, .int .u8 0, .int .u8 0, .int .u8 0, .int .u8 0, .int .u8 0, .int .u8 0, .int .u8 0, .int .u8 0, .int .u8 0, .int .u8 0, .int .u8 0, .int .u8 0] D 25 rfl rfl HD1.out HD2.out.symm HD3.out ?_)
  have HW : Seal (Below w.heap.size w (w1.alloc (.cells ((mask0 d).map B).toArray 25))) := ⟨HB1.out.alloc HB1.out.size _⟩
  have HR : Seal ((w1.alloc (.cells ((mask0 d).map B).toArray 25)).rangeAt w1.heap.size 0 ((mask0 d).map B)) := ⟨rangeAt_new w1 _ _ _⟩
  have HL : Seal ((mask0 d).length = 32 ∧ ((mask0 d).getD 0 0).toNat < 128) := ⟨by unfold mask0; rw [List.length_set, HD.out], by
    unfold mask0
    rw [List.getD_eq_getElem?_getD, List.getElem?_set, if_pos rfl, if_pos (by rw [HD.out]; decide), Option.getD_some, UInt8.toNat_ofNat_of_lt' (Nat.lt_of_lt_of_le (Nat.mod_lt _ (by decide)) (by decide))]
    exact Nat.mod_lt _ (by decide)⟩
  have H8 : Seal (hpre (mask0 d) 8 % 1073741789 = ghash tag.data.toList l) := ⟨by rw [HG.out]; exact hpre_eight d HD.out⟩
  clear hset hc0 hf0 hmb HB HE HD1 HD2 HD3 HD4 hD HX0 hd0
  generalize mask0 d = m at *
  generalize w1.alloc (.cells (m.map B).toArray 25) = X at *
  go_loop [4, 6, 14] (fun n _ i => ∃ k : Nat, k ≤ 8 ∧ i = .int .i64 k ∧ n = .int .i64 (hpre m k : Nat)) (fun _ _ i => 8 - (intOf i).toNat)
  case atStart => exact ⟨0, by omega, rfl, rfl⟩
  case round =>
    obtain ⟨k, hk, rfl, rfl⟩ := hrel
    by_cases hlt : k < 8
    · have c0 := cellB HR.out (i := k) (by rw [HL.out.1]; omega)
      rw [Nat.zero_add] at c0
      have hb := UInt8.toNat_lt (m.getD k 0)
      have hp : hpre m k < 36028797018963968 := by
        cases k with
        | zero => simp [hpre]
        | succ j => exact Nat.lt_of_lt_of_le (hpre_lt m HL.out.2 j (by omega)) (Nat.le_trans (Nat.mul_le_mul_left 128 (Nat.pow_le_pow_right (n := 256) (j := 6) (by decide) (by omega))) (by decide))
      have HS : Seal (bits .or .i64 ((hpre m k : Int) * 256) ((m.getD k 0).toNat : Int) = (hpre m (k + 1) : Nat)) := ⟨or_byte64 _ _ hp hb⟩
      generalize (m.getD k 0).toNat = x at *
      go_wp2
      go_round
      case rel => exact ⟨k + 1, by omega, by go_num, by rw [← HS.out]⟩
      case measure => simp [intOf]; omega
    · obtain rfl : k = 8 := by omega
      have hlt8 : hpre m 8 < 9223372036854775808 := Nat.lt_of_lt_of_le (hpre_lt m HL.out.2 7 (by omega)) (by decide)
      generalize hpre m 8 = z at *
      go_wp2
      go_ret
      exact ⟨ret_i64 (by rw [← H8.out, Int.natCast_emod]; rfl), HW.out⟩
end Frk
