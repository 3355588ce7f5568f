/- The program's SHA-256: what word, rotated, put, absorb, Sum and Tagged do. -/
import Derived.Test.YtllbjakfjpjfnaaGreatDoorVxgKit
import Derived.Test.YtllbjakfjpjfnaaGreatDoorProg
import Derived.Deep.QuietTactic
import Derived.BigQuiet
import Derived.StillTailTactics
import Derived.Deep.DeepFit
import Derived.Deep.RegionLaw
import Derived.Deep.RegionHeld3
import Derived.Lib.Hide
namespace Frk
open Go Go.RowKit Go.Proofs
set_option maxRecDepth 100000

/-! ## bits -/
theorem rotr_lt (x n : Nat) (hx : x < 4294967296) : rotr x n < 4294967296 := by
  unfold rotr
  have h1 : x >>> n < 2 ^ 32 := by rw [Nat.shiftRight_eq_div_pow]; exact Nat.lt_of_le_of_lt (Nat.div_le_self _ _) (by omega)
  have h2 : (x <<< (32 - n)) % 4294967296 < 2 ^ 32 := by omega
  have := Nat.or_lt_two_pow h1 h2
  omega

theorem and31 (k : Int) (h1 : 1 ≤ k) (h2 : k ≤ 31) : bits .and .u64 (18446744073709551616 - k) 31 = 32 - k := by
  rw [u64_and _ _ (by omega) (by omega) (by omega) (by omega), show (31 : Int).toNat = 31 from rfl, nat_mask5]
  omega

theorem rot_bits (v : Nat) (k : Nat) (hv : v < 4294967296) :
    bits .or .u32 ((v : Int) / 2 ^ k) ((v : Int) * 2 ^ (32 - k) % 4294967296) = ((rotr v k : Nat) : Int) := by
  have e1 : (v : Int) / 2 ^ k = ((v / 2 ^ k : Nat) : Int) := by rw [Int.natCast_ediv, Int.natCast_pow]; rfl
  have e2 : (v : Int) * 2 ^ (32 - k) % 4294967296 = ((v * 2 ^ (32 - k) % 4294967296 : Nat) : Int) := by rw [Int.natCast_emod, Int.natCast_mul, Int.natCast_pow]; rfl
  rw [e1, e2, u32_or_nat _ _ (Nat.lt_of_le_of_lt (Nat.div_le_self _ _) hv) (Nat.mod_lt _ (by decide))]
  unfold rotr
  rw [Nat.shiftRight_eq_div_pow, Nat.shiftLeft_eq]

theorem rot_bits' (v : Nat) (k : Nat) (hv : v < 4294967296) :
    bits .or .u32 ((v : Int) * 2 ^ (32 - k) % 4294967296) ((v : Int) / 2 ^ k) = ((rotr v k : Nat) : Int) := by
  rw [← rot_bits v k hv]
  have e1 : (v : Int) / 2 ^ k = ((v / 2 ^ k : Nat) : Int) := by rw [Int.natCast_ediv, Int.natCast_pow]; rfl
  have e2 : (v : Int) * 2 ^ (32 - k) % 4294967296 = ((v * 2 ^ (32 - k) % 4294967296 : Nat) : Int) := by rw [Int.natCast_emod, Int.natCast_mul, Int.natCast_pow]; rfl
  have l1 := Nat.lt_of_le_of_lt (Nat.div_le_self v (2 ^ k)) hv
  have l2 := Nat.mod_lt (v * 2 ^ (32 - k)) (show 0 < 4294967296 by decide)
  rw [e1, e2, u32_or_nat _ _ l2 l1, u32_or_nat _ _ l1 l2, Nat.or_comm]

set_option maxHeartbeats 400000 in
theorem rotl_any (v : Nat) (k : Nat) (h1 : 1 ≤ k) (h2 : k ≤ 31) (hv : v < 4294967296) (w : World) :
   Calls Tryz.prog 93 #[.int .u32 v, .int .i64 (-(k : Int))] w fun e w' => e = .returned (.int .u32 (rotr v k : Nat)) ∧ w = w' := by
  have e1 : IntKind.u64.wrap (-(k : Int)) = 18446744073709551616 - k := by simp [IntKind.wrap, IntKind.bits, IntKind.signed]; omega
  have e2 := and31 k (by omega) (by omega)
  have e3 : ¬ (32 - (k : Int) < 0) := by omega
  have e4 : (32 - (32 - (k : Int))).toNat = k := by omega
  have e5 : (32 - (k : Int)).toNat = 32 - k := by omega
  have HS := Seal.mk (rot_bits' v k hv)
  go_enter Tryz.func93, Tryz.ntmps93
  go_wp2
  go_ret
  exact ⟨ret_u32 HS.out, rfl⟩

theorem rotl_neg (v : Nat) (j : Int) (h1 : -31 ≤ j) (h2 : j ≤ -1) (hv : v < 4294967296) (w : World) :
   Calls Tryz.prog 93 #[.int .u32 v, .int .i64 j] w fun e w' => e = .returned (.int .u32 (rotr v (-j).toNat : Nat)) ∧ w = w' := by
  have := rotl_any v (-j).toNat (by omega) (by omega) hv w
  rwa [show -(((-j).toNat : Nat) : Int) = j from by omega] at this

set_option maxHeartbeats 400000 in
theorem rotated_any (v : Nat) (a b c : Nat) (a1 : 1 ≤ a) (a2 : a ≤ 31) (b1 : 1 ≤ b) (b2 : b ≤ 31) (c1 : 1 ≤ c) (c2 : c ≤ 31) (hv : v < 4294967296) (w : World) :
   Calls Tryz.prog 94 #[.int .u32 v, .int .i64 a, .int .i64 b, .int .i64 c] w fun e w' => e = .returned (.int .u32 ((rotr v a ^^^ rotr v b) ^^^ rotr v c : Nat)) ∧ w = w' := by
  have la := rotr_lt v a hv
  have lb := rotr_lt v b hv
  have lc := rotr_lt v c hv
  have HS : Seal (bits .xor .u32 (bits .xor .u32 (rotr v a : Nat) (rotr v b : Nat)) (rotr v c : Nat) = ((rotr v a ^^^ rotr v b) ^^^ rotr v c : Nat)) := by
    refine ⟨?_⟩
    rw [u32_xor_nat _ _ la lb, u32_xor_nat _ _ (Nat.xor_lt_two_pow (n := 32) la lb) lc]
  go_enter Tryz.func94, Tryz.ntmps94
  go_wp2_with (go_at_call 93; refine (rotl_any _ _ (by assumption) (by assumption) hv _).mono ?_; rintro e w' ⟨rfl, rfl⟩)
  go_ret
  exact ⟨ret_u32 HS.out, rfl⟩

theorem rotated_int (v : Nat) (a b c : Int) (a1 : 1 ≤ a) (a2 : a ≤ 31) (b1 : 1 ≤ b) (b2 : b ≤ 31) (c1 : 1 ≤ c) (c2 : c ≤ 31) (hv : v < 4294967296) (w : World) :
   Calls Tryz.prog 94 #[.int .u32 v, .int .i64 a, .int .i64 b, .int .i64 c] w fun e w' => e = .returned (.int .u32 ((rotr v a.toNat ^^^ rotr v b.toNat) ^^^ rotr v c.toNat : Nat)) ∧ w = w' := by
  have := rotated_any v a.toNat b.toNat c.toNat (by omega) (by omega) (by omega) (by omega) (by omega) (by omega) hv w
  rwa [show ((a.toNat : Nat) : Int) = a from by omega, show ((b.toNat : Nat) : Int) = b from by omega, show ((c.toNat : Nat) : Int) = c from by omega] at this

theorem S1_call (v : Nat) (hv : v < 4294967296) (w : World) :
   Calls Tryz.prog 94 #[.int .u32 v, .int .i64 6, .int .i64 11, .int .i64 25] w fun e w' => e = .returned (.int .u32 (S1 v : Nat)) ∧ w = w' :=
  rotated_int v 6 11 25 (by decide) (by decide) (by decide) (by decide) (by decide) (by decide) hv w
theorem S0_call (v : Nat) (hv : v < 4294967296) (w : World) :
   Calls Tryz.prog 94 #[.int .u32 v, .int .i64 2, .int .i64 13, .int .i64 22] w fun e w' => e = .returned (.int .u32 (S0 v : Nat)) ∧ w = w' :=
  rotated_int v 2 13 22 (by decide) (by decide) (by decide) (by decide) (by decide) (by decide) hv w

def wpre (l : Bytes) : Nat → Nat
  | 0 => 0
  | k + 1 => wpre l k * 256 + (l.getD k 0).toNat

theorem wpre_lt (l : Bytes) : ∀ k, wpre l k < 256 ^ k
  | 0 => by simp [wpre]
  | k + 1 => by
    have h := wpre_lt l k
    have h2 := UInt8.toNat_lt (l.getD k 0)
    simp only [wpre, Nat.pow_succ]
    omega

theorem wpre_four (l : Bytes) : wpre l 4 = word4 l := by simp [wpre, word4]

theorem or_byte (n c : Nat) (hn : n < 16777216) (hc : c < 256) : bits .or .u32 ((n : Int) * 256 % 4294967296) (c : Int) = ((n * 256 + c : Nat) : Int) := by
  have e2 : (n : Int) * 256 % 4294967296 = ((n * 256 : Nat) : Int) := by omega
  rw [e2, u32_or_nat _ _ (by omega) (by omega), nat_join 8 (n * 256) c (by omega) (by omega)]

set_option maxHeartbeats 400000 in
theorem word_any (g off len cap : Nat) (l : Bytes) (w : World) (h4 : 4 ≤ l.length) (hl4 : 4 ≤ len) (hlc : len ≤ cap) (hr : w.rangeAt g off (l.map B)) :
   Calls Tryz.prog 92 #[.slice (some ⟨g, off, none⟩) len cap] w fun e w' => e = .returned (.int .u32 (word4 l : Nat)) ∧ w = w' := by
  go_enter Tryz.func92, Tryz.ntmps92
  go_wp2
  go_loop [2, 8] (fun n i => ∃ k : Nat, k ≤ 4 ∧ i = .int .i64 k ∧ n = .int .u32 (wpre l k : Nat)) (fun _ i => 4 - (intOf i).toNat)
  case atStart => exact ⟨0, by omega, rfl, rfl⟩
  case round =>
    obtain ⟨k, hk, rfl, rfl⟩ := hrel
    by_cases hlt : k < 4
    · have c0 := cellB hr (i := k) (by omega)
      have hb := UInt8.toNat_lt (l.getD k 0)
      have hp : wpre l k < 16777216 := Nat.lt_of_lt_of_le (wpre_lt l k) (Nat.pow_le_pow_right (n := 256) (j := 3) (by decide) (by omega))
      have HS : Seal (bits .or .u32 ((wpre l k : Int) * 256) ((l.getD k 0).toNat : Int) = (wpre l (k + 1) : Nat)) := by
        refine ⟨?_⟩
        have := or_byte _ _ hp hb
        rwa [Int.emod_eq_of_lt (by omega) (by omega)] at this
      clear hr h4
      generalize (l.getD k 0).toNat = x0 at *
      go_wp2
      go_round
      case rel => exact ⟨k + 1, by omega, by go_num, by rw [← HS.out]⟩
      case measure => simp [intOf]; omega
    · obtain rfl : k = 4 := by omega
      have HS := Seal.mk (wpre_four l)
      go_wp2
      go_ret
      exact ⟨ret_u32 (by rw [← HS.out]), rfl⟩

/-! ## put -/
/-- n as len bytes: the one at i -/
def beAt (n len i : Nat) : UInt8 := UInt8.ofNat (n / 2 ^ (8 * (len - 1 - i)))

theorem take_set (l : List Value) (t : List Value) (i : Nat) (v : Value) (h : i < l.length) : (l.take (i + 1) ++ t).set i v = l.take i ++ v :: t := by
  have hl : (l.take i).length = i := by simp; omega
  rw [List.take_succ_eq_append_getElem h, List.append_assoc, List.set_append, if_neg (by omega), hl, Nat.sub_self]
  rfl

def putL (cs : List Value) (off len n k : Nat) : List Value := cs.take (off + len - k) ++ ((List.range k).map fun i => B (beAt n len (len - k + i))) ++ cs.drop (off + len)

theorem putL_zero (cs : List Value) (off len n : Nat) : putL cs off len n 0 = cs := by simp [putL]

theorem putL_succ (cs : List Value) (off len n k : Nat) (hk : k < len) (hl : off + len ≤ cs.length) :
    (putL cs off len n k).set (off + (len - 1 - k)) (B (beAt n len (len - 1 - k))) = putL cs off len n (k + 1) := by
  unfold putL
  rw [show off + len - k = (off + (len - 1 - k)) + 1 from by omega, List.append_assoc, take_set _ _ _ _ (by omega), List.range_succ_eq_map, List.map_cons, List.map_map,
    show off + len - (k + 1) = off + (len - 1 - k) from by omega, show len - (k + 1) + 0 = len - 1 - k from by omega, List.append_assoc, List.cons_append]
  congr 4
  funext i
  show B (beAt n len (len - k + i)) = B (beAt n len (len - (k + 1) + (i + 1)))
  rw [show len - (k + 1) + (i + 1) = len - k + i from by omega]

theorem putL_length (cs : List Value) (off len n k : Nat) (hk : k ≤ len) (hl : off + len ≤ cs.length) : (putL cs off len n k).length = cs.length := by
  simp [putL]; omega

theorem put_byte (n k len : Nat) (hk : k < len) : Value.int .u8 ((n : Int) / 2 ^ (8 * k) % 256) = B (beAt n len (len - 1 - k)) := by
  unfold B beAt
  rw [show len - 1 - (len - 1 - k) = k from by omega]
  have e1 : (n : Int) / 2 ^ (8 * k) % 256 = ((n / 2 ^ (8 * k) % 256 : Nat) : Int) := by rw [Int.natCast_emod, Int.natCast_ediv, Int.natCast_pow]; rfl
  rw [e1]
  congr 2

set_option maxHeartbeats 400000 in
theorem put_any (g off len cap : Nat) (cs : List Value) (n : Nat) (t : TypeId) (w : World) (hg : w.heap[g]? = some (.cells cs.toArray t (0, 0))) (hl : off + len ≤ cs.length) (_h8 : len ≤ 8) :
   Calls Tryz.prog 75 #[.slice (some ⟨g, off, none⟩) len cap, .int .u64 n] w fun e w' => e = .returned (.tuple #[]) ∧
     w.setRow g (putL cs off len n len).toArray = w' := by
  go_enter Tryz.func75, Tryz.ntmps75
  go_wp2
  go_loopw [7] (fun i wr => ∃ k : Nat, k ≤ len ∧ i = .int .i64 k ∧ Seal (w.setRow g (putL cs off len n k).toArray = wr)) (fun i _ => len - (intOf i).toNat)
  case atStart => exact ⟨0, by omega, rfl, ⟨by rw [putL_zero]; exact setRow_self w g _ _ _ hg⟩⟩
  case round =>
    obtain ⟨k, hk, rfl, hwr⟩ := hrel
    by_cases hlt : k < len
    · have hg' : wr.heap[g]? = some (.cells (putL cs off len n k).toArray t (0, 0)) := by rw [← hwr.out]; exact setRow_heap w g _ _ _ _ hg
      have hlen := putL_length cs off len n k hk hl
      have hc : wr.cell? ⟨g, off + (len - 1 - k), none⟩ = some ((putL cs off len n k).getD (off + (len - 1 - k)) undef) := by
        rw [cell_of_row _ _ _ _ _ _ hg']
        simp [List.getD_eq_getElem?_getD, List.getElem?_eq_getElem (show off + (len - 1 - k) < (putL cs off len n k).length by omega)]
      have hf : wr.frozen? ⟨g, off + (len - 1 - k), none⟩ = false := frozen_of_row _ _ _ _ _ hg'
      have hset := fun v => setCell_eq_setRow wr g (off + (len - 1 - k)) _ _ _ v hg'
      have HW : Seal (wr.setCell ⟨g, off + (len - 1 - k), none⟩ (.int .u8 ((n : Int) / 2 ^ (8 * k) % 256)) = w.setRow g (putL cs off len n (k + 1)).toArray) := by
        refine ⟨?_⟩
        rw [hset, put_byte n k len hlt, List.setIfInBounds_toArray, putL_succ _ _ _ _ _ hlt hl, ← hwr.out, setRow_setRow]
      clear hset hg' hwr hlen hg
      go_wp2
      go_roundw
      case rel => exact ⟨k + 1, by omega, by go_num, ⟨HW.out.symm⟩⟩
      case measure => simp [intOf]; omega
    · obtain rfl : k = len := by omega
      go_wp2
      go_end0
      exact ⟨rfl, hwr.out⟩

/-! ## absorb -/
theorem words_length (l : Bytes) : ∀ n, (words l n).length = n
  | 0 => rfl
  | n + 1 => by simp [words, words_length]

theorem words_snoc : ∀ (n : Nat) (l : Bytes), words l (n + 1) = words l n ++ [word4 (l.drop (4 * n))]
  | 0, l => rfl
  | n + 1, l => by
    show word4 l :: words (l.drop 4) (n + 1) = word4 l :: words (l.drop 4) n ++ _
    rw [words_snoc n (l.drop 4), List.cons_append, List.drop_drop, show 4 + 4 * n = 4 * (n + 1) from by omega]

theorem sched_length (w : List Nat) : ∀ n, (sched w n).length = w.length + n
  | 0 => rfl
  | n + 1 => by simp [sched, sched_length w n]; omega

/-- the words that are known, and the others -/
def fillW (ws : List Nat) : List Value := ws.map W ++ List.replicate (64 - ws.length) (W 0)

theorem fillW_length (ws : List Nat) (h : ws.length ≤ 64) : (fillW ws).length = 64 := by simp [fillW]; omega

theorem fillW_set (ws : List Nat) (x : Nat) (h : ws.length < 64) : (fillW ws).toArray.setIfInBounds ws.length (W x) = (fillW (ws ++ [x])).toArray := by
  unfold fillW
  obtain ⟨n, hn⟩ : ∃ n, 64 - ws.length = n + 1 := ⟨63 - ws.length, by omega⟩
  rw [hn, set_mid _ _ _ _ _ (by simp)]
  simp
  omega

theorem fillW_words (l : Bytes) (k : Nat) (hk : k < 16) : (fillW (words l k)).set k (.int .u32 (word4 (l.drop (4 * k)) : Nat)) = fillW (words l (k + 1)) := by
  have := fillW_set (words l k) (word4 (l.drop (4 * k))) (by rw [words_length]; omega)
  rw [words_length, List.setIfInBounds_toArray, ← words_snoc] at this
  simpa using this

theorem fillW_at (ws : List Nat) (h : ws.length ≤ 64) (k : Nat) (hk : k < 64) : (fillW ws)[k]? = some (.int .u32 (ws.getD k 0 : Nat)) := by
  unfold fillW
  by_cases hlt : k < ws.length
  · rw [List.getElem?_append_left (by simpa using hlt)]
    simp [List.getD_eq_getElem?_getD, List.getElem?_eq_getElem hlt]
  · rw [List.getElem?_append_right (by simp; omega)]
    have h2 : k - (ws.map W).length < 64 - ws.length := by simp; omega
    rw [List.getElem?_replicate, if_pos h2]
    simp [List.getD_eq_getElem?_getD, List.getElem?_eq_none (Nat.le_of_not_lt hlt)]

theorem fillW_get (ws : List Nat) (h : ws.length ≤ 64) (k : Nat) (hk : k < 64) (hw : ∀ i, ws.getD i 0 < 4294967296) :
    ∃ x : Nat, Seal (ws.getD k 0 = x) ∧ (fillW ws)[k]? = some (.int .u32 x) ∧ x < 4294967296 := ⟨_, ⟨rfl⟩, fillW_at ws h k hk, hw k⟩

theorem word4_lt (l : Bytes) : word4 l < 4294967296 := by
  unfold word4
  have l0 := UInt8.toNat_lt (l.getD 0 0)
  have l1 := UInt8.toNat_lt (l.getD 1 0)
  have l2 := UInt8.toNat_lt (l.getD 2 0)
  have l3 := UInt8.toNat_lt (l.getD 3 0)
  omega

theorem words_lt : ∀ (n : Nat) (l : Bytes), ∀ x ∈ words l n, x < 4294967296
  | 0, l, x, h => by simp [words] at h
  | n + 1, l, x, h => by
    simp only [words, List.mem_cons] at h
    rcases h with rfl | h
    · exact word4_lt l
    · exact words_lt n _ x h

theorem add32_lt (x y : Nat) : add32 x y < 4294967296 := Nat.mod_lt _ (by decide)

theorem sched_mem_lt (l : Bytes) : ∀ (n : Nat), ∀ x ∈ sched (words l 16) n, x < 4294967296
  | 0, x, h => words_lt 16 l x h
  | n + 1, x, h => by
    simp only [sched, List.mem_append, List.mem_singleton] at h
    rcases h with h | rfl
    · exact sched_mem_lt l n x h
    · exact add32_lt _ _

theorem getD_lt {ws : List Nat} (h : ∀ x ∈ ws, x < 4294967296) (i : Nat) : ws.getD i 0 < 4294967296 := by
  rw [List.getD_eq_getElem?_getD]
  by_cases hi : i < ws.length
  · rw [List.getElem?_eq_getElem hi]; exact h _ (List.getElem_mem hi)
  · rw [List.getElem?_eq_none (Nat.le_of_not_lt hi)]; decide

theorem sched_lt (l : Bytes) (n : Nat) : ∀ i, (sched (words l 16) n).getD i 0 < 4294967296 := getD_lt (sched_mem_lt l n)

theorem xor3 (a b c : Nat) (ha : a < 4294967296) (hb : b < 4294967296) (hc : c < 4294967296) : bits .xor .u32 (bits .xor .u32 (a : Int) (b : Int)) (c : Int) = (((a ^^^ b) ^^^ c : Nat) : Int) := by
  rw [u32_xor_nat _ _ ha hb, u32_xor_nat _ _ (Nat.xor_lt_two_pow (n := 32) ha hb) hc]

theorem s0_val (x : Nat) (hx : x < 4294967296) : bits .xor .u32 (bits .xor .u32 ((rotr x 7 : Nat) : Int) ((rotr x 18 : Nat) : Int)) ((x : Int) / 8) = ((s0 x : Nat) : Int) := by
  have e : Int.ofNat x / 8 = ((x >>> 3 : Nat) : Int) := by rw [Nat.shiftRight_eq_div_pow]; show (x : Int) / 8 = _; omega
  rw [show (x : Int) / 8 = _ from e, xor3 _ _ _ (rotr_lt x 7 hx) (rotr_lt x 18 hx) (by rw [Nat.shiftRight_eq_div_pow]; omega)]
  rfl

theorem s1_val (x : Nat) (hx : x < 4294967296) : bits .xor .u32 (bits .xor .u32 ((rotr x 17 : Nat) : Int) ((rotr x 19 : Nat) : Int)) ((x : Int) / 1024) = ((s1 x : Nat) : Int) := by
  have e : Int.ofNat x / 1024 = ((x >>> 10 : Nat) : Int) := by rw [Nat.shiftRight_eq_div_pow]; show (x : Int) / 1024 = _; omega
  rw [show (x : Int) / 1024 = _ from e, xor3 _ _ _ (rotr_lt x 17 hx) (rotr_lt x 19 hx) (by rw [Nat.shiftRight_eq_div_pow]; omega)]
  rfl

theorem wrap_add (x y : Nat) : ((x : Int) + (y : Int)) % 4294967296 = ((add32 x y : Nat) : Int) := by
  unfold add32; omega

theorem nextW_val (ws : List Nat) (k : Nat) (hl : ws.length = 16 + k) (x16 x15 x7 x2 : Nat) (e16 : ws.getD k 0 = x16) (e15 : ws.getD (k + 1) 0 = x15) (e7 : ws.getD (k + 9) 0 = x7) (e2 : ws.getD (k + 14) 0 = x2)
    (h15 : x15 < 4294967296) (h2 : x2 < 4294967296) :
    ((((x16 : Int) + bits .xor .u32 (bits .xor .u32 ((rotr x15 7 : Nat) : Int) ((rotr x15 18 : Nat) : Int)) ((x15 : Int) / 8)) % 4294967296 + (x7 : Int)) % 4294967296 +
      bits .xor .u32 (bits .xor .u32 ((rotr x2 17 : Nat) : Int) ((rotr x2 19 : Nat) : Int)) ((x2 : Int) / 1024)) % 4294967296 = ((nextW ws : Nat) : Int) := by
  rw [s0_val _ h15, s1_val _ h2, wrap_add, wrap_add, wrap_add]
  unfold nextW
  simp only [hl]
  rw [show 16 + k - 16 = k from by omega, show 16 + k - 15 = k + 1 from by omega, show 16 + k - 7 = k + 9 from by omega, show 16 + k - 2 = k + 14 from by omega, e16, e15, e7, e2]

theorem fillW_next (ws : List Nat) (k : Nat) (hl : ws.length = 16 + k) (hk : k < 48) : (fillW ws).set (k + 16) (W (nextW ws)) = fillW (ws ++ [nextW ws]) := by
  have := fillW_set ws (nextW ws) (by omega)
  rw [hl, List.setIfInBounds_toArray, Nat.add_comm] at this
  simpa using this

