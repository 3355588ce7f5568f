/- The reference's SHA-256: padded. -/
import Derived.Test.YtllbjakfjpjfnaaGreatDoorVxRap
import Derived.Test.YtllbjakfjpjfnaaGreatDoorVxRbl
import Derived.StillTailTactics
namespace Frk
open Go Go.RowKit Go.Proofs
set_option maxRecDepth 100000

theorem pad_len (l : Bytes) : (pad l).length = l.length + 9 + (119 - l.length % 64) % 64 := by
  simp [pad, be_length]; omega

/-- the first bytes of a number of eight -/
def beP (n j : Nat) : Bytes := (List.range j).map (fun i => beAt n 8 i)
theorem beP_succ (n j : Nat) : beP n (j + 1) = beP n j ++ [beAt n 8 j] := by simp [beP, List.range_succ]
theorem beP_all (n : Nat) : beP n 8 = be n 8 := be_eight n
theorem ints_isB (w : World) (b : UInt8) (t : TypeId) : IsB (w.alloc (.cells #[B b] t)) (some ⟨w.heap.size, 0, none⟩) 1 1 [b] :=
  isB_new w [b] 1 t (0, 0) rfl (by decide)

set_option maxHeartbeats 2000000 in
theorem rpadded_any (a : Option Addr) (len cap : Nat) (l : Bytes) (w : World) (hb : IsB w a len cap l) (hm : len + 100 ≤ 140737488355328) :
   Calls Tryz.prog 101 #[.slice a len cap] w fun e w' => ∃ g n c, e = .returned (.slice (some ⟨g, 0, none⟩) n c) ∧ Seal (Stg w w' g n c (pad l)) := by
  have HB := Seal.mk hb
  have HL := Seal.mk hb.llen
  have HBa : Seal (IsB (w.alloc (.cells #[] 5)) a len cap l) := ⟨hb.below (below_alloc _ _)⟩
  have HO0 : Seal (Stg w (w.alloc (.cells #[] 5)) w.heap.size 0 0 []) := ⟨stg_new w [] 0 rfl (by decide)⟩
  clear hb
  go_enter Tryz.func101, Tryz.ntmps101
  go_wp2_with (at_builtin; first
    | (refine wpList_append_st rfl (.tmp 6) (.tmp 7) rfl w w.heap.size 0 0 [] a len cap l rfl rfl HO0 HBa (by omega) ?_; intro g1 cap1 w1 hS1 _ _; rw [Nat.zero_add] at hS1 ⊢; rw [List.nil_append] at hS1; clear HO0 HBa
       have hS1a : Seal (Stg w (w1.alloc (.cells #[.int .u8 128] 5)) g1 len cap1 l) := ⟨hS1.out.alloc _⟩
       have hI1 : Seal (IsB (w1.alloc (.cells #[.int .u8 128] 5)) (some ⟨w1.heap.size, 0, none⟩) 1 1 [0x80]) := ⟨ints_isB w1 0x80 5⟩)
    | (refine wpList_append_st rfl (.tmp 8) (.tmp 9) rfl w g1 len cap1 l _ 1 1 [0x80] rfl rfl hS1a hI1 (by omega) ?_; intro g2 cap2 w2 hS2 _ _; clear hS1 hS1a hI1))
  go_loopw [3] (fun o wr => ∃ g cap k : Nat, k ≤ (119 - len % 64) % 64 ∧ o = .slice (some ⟨g, 0, none⟩) (len + 1 + k) cap ∧ Seal (Stg w wr g (len + 1 + k) cap (l ++ [0x80] ++ List.replicate k 0))) (fun o _ => len + 1 + (119 - len % 64) % 64 - lenOf o)
  case atStart => exact ⟨g2, cap2, 0, by omega, rfl, ⟨by rw [List.replicate_zero, List.append_nil]; exact hS2.out⟩⟩
  case round =>
    obtain ⟨g, cap, k, hk, rfl, hS⟩ := hrel
    by_cases hlt : k < (119 - len % 64) % 64
    · have hSa : Seal (Stg w (wr.alloc (.cells #[.int .u8 0] 5)) g (len + 1 + k) cap (l ++ [0x80] ++ List.replicate k 0)) := ⟨hS.out.alloc _⟩
      have hI : Seal (IsB (wr.alloc (.cells #[.int .u8 0] 5)) (some ⟨wr.heap.size, 0, none⟩) 1 1 [0]) := ⟨ints_isB wr 0 5⟩
      go_wp2_with (at_builtin; refine wpList_append_st rfl (.tmp 15) (.tmp 16) rfl w g (len + 1 + k) cap _ _ 1 1 [0] rfl rfl hSa hI (by omega) ?_; intro g3 cap3 w3 hS3 _ _; clear hS hSa hI)
      go_roundw
      case rel => exact ⟨g3, cap3, k + 1, hlt, rfl, ⟨by have := hS3.out; rwa [List.append_assoc, ← List.replicate_succ'] at this⟩⟩
      case measure => simp [lenOf]; omega
    · obtain rfl : k = (119 - len % 64) % 64 := by omega
      have HP : Seal (l ++ [0x80] ++ List.replicate ((119 - len % 64) % 64) 0 ++ beP (len * 8) 8 = pad l) := ⟨by rw [beP_all, pad, HL.out]⟩
      have hkm : (119 - len % 64) % 64 < 64 := Nat.mod_lt _ (by decide)
      have h56 : (len + 1 + (119 - len % 64) % 64) % 64 = 56 := by omega
      obtain ⟨N, hN⟩ : ∃ N, N = len + 1 + (119 - len % 64) % 64 := ⟨_, rfl⟩
      have hNm : N + 8 ≤ 140737488355328 := by omega
      rw [← hN] at hS h56 ⊢
      have hNe : (N : Int) % 64 = 56 := by omega
      generalize l ++ [0x80] ++ List.replicate ((119 - len % 64) % 64) 0 = pre at *
      clear hlt hk hkm h56 hN hS2
      go_wp2
      go_loopw [3, 5] (fun o i wr => ∃ g cap j : Nat, j ≤ 8 ∧ i = .int .i64 (7 - (j : Int)) ∧ o = .slice (some ⟨g, 0, none⟩) (N + j) cap ∧ Seal (Stg w wr g (N + j) cap (pre ++ beP (len * 8) j))) (fun _ i _ => (intOf i + 1).toNat)
      case atStart => exact ⟨g, cap, 0, by omega, rfl, rfl, ⟨by rw [show beP (len * 8) 0 = [] from rfl, List.append_nil]; exact hS.out⟩⟩
      case round =>
        clear hS hNe
        obtain ⟨g, cap, j, hj, rfl, rfl, hS⟩ := hrel
        by_cases hlt : j < 8
        · have hV : Value.int .u8 ((len : Int) * 8 / 2 ^ (8 * (7 - j)) % 256) = B (beAt (len * 8) 8 j) := by
            have := put_byte (len * 8) (7 - j) 8 (by omega)
            rwa [show 8 - 1 - (7 - j) = j from by omega, show ((len * 8 : Nat) : Int) = (len : Int) * 8 from by omega] at this
          have hSa : Seal (Stg w (wr.alloc (.cells #[.int .u8 ((len : Int) * 8 / 2 ^ (8 * (7 - j)) % 256)] 5)) g (N + j) cap (pre ++ beP (len * 8) j)) := ⟨hS.out.alloc _⟩
          have hI : Seal (IsB (wr.alloc (.cells #[.int .u8 ((len : Int) * 8 / 2 ^ (8 * (7 - j)) % 256)] 5)) (some ⟨wr.heap.size, 0, none⟩) 1 1 [beAt (len * 8) 8 j]) := ⟨by rw [hV]; exact ints_isB wr _ 5⟩
          clear hV
          go_wp2_with (at_builtin; refine wpList_append_st rfl (.tmp 26) (.tmp 32) rfl w g (N + j) cap _ _ 1 1 _ rfl rfl hSa hI (by omega) ?_; intro g3 cap3 w3 hS3 _ _; clear hS hSa hI)
          go_roundw
          case rel => exact ⟨g3, cap3, j + 1, hlt, by go_num, rfl, ⟨by have := hS3.out; rwa [List.append_assoc, ← beP_succ] at this⟩⟩
          case measure => simp [intOf]; omega
        · obtain rfl : j = 8 := by omega
          have HS := Seal.mk hS.out
          rw [HP.out] at HS
          rw [show (7 : Int) - ((8 : Nat) : Int) = -1 from rfl]
          go_wp2
          go_ret
          exact ⟨g, N + 8, cap, rfl, ⟨HS.out⟩⟩

theorem pad_64 (l : Bytes) : (pad l).length = 64 * ((l.length + 72) / 64) := by
  rw [pad_len]; omega

theorem stbytes_at (s : St) : ∀ i : Nat, i < 32 → s.bytes.getD i 0 = beAt (s.list.getD (i / 4) 0) 4 (i % 4) := by
  intro i hi
  have e : s.bytes = [beAt s.a 4 0, beAt s.a 4 1, beAt s.a 4 2, beAt s.a 4 3, beAt s.b 4 0, beAt s.b 4 1, beAt s.b 4 2, beAt s.b 4 3, beAt s.c 4 0, beAt s.c 4 1, beAt s.c 4 2, beAt s.c 4 3, beAt s.d 4 0, beAt s.d 4 1, beAt s.d 4 2, beAt s.d 4 3,
      beAt s.e 4 0, beAt s.e 4 1, beAt s.e 4 2, beAt s.e 4 3, beAt s.f 4 0, beAt s.f 4 1, beAt s.f 4 2, beAt s.f 4 3, beAt s.g 4 0, beAt s.g 4 1, beAt s.g 4 2, beAt s.g 4 3, beAt s.h 4 0, beAt s.h 4 1, beAt s.h 4 2, beAt s.h 4 3] := by
    unfold St.bytes
    rw [← be_four s.a, ← be_four s.b, ← be_four s.c, ← be_four s.d, ← be_four s.e, ← be_four s.f, ← be_four s.g, ← be_four s.h]
    rfl
  rw [e]
  clear e
  match i, hi with
  | 0, _ => rfl
  | 1, _ => rfl
  | 2, _ => rfl
  | 3, _ => rfl
  | 4, _ => rfl
  | 5, _ => rfl
  | 6, _ => rfl
  | 7, _ => rfl
  | 8, _ => rfl
  | 9, _ => rfl
  | 10, _ => rfl
  | 11, _ => rfl
  | 12, _ => rfl
  | 13, _ => rfl
  | 14, _ => rfl
  | 15, _ => rfl
  | 16, _ => rfl
  | 17, _ => rfl
  | 18, _ => rfl
  | 19, _ => rfl
  | 20, _ => rfl
  | 21, _ => rfl
  | 22, _ => rfl
  | 23, _ => rfl
  | 24, _ => rfl
  | 25, _ => rfl
  | 26, _ => rfl
  | 27, _ => rfl
  | 28, _ => rfl
  | 29, _ => rfl
  | 30, _ => rfl
  | 31, _ => rfl
  | n + 32, h => exact absurd h (by omega)

theorem st_byte (s : St) (i : Nat) (hi : i < 32) (x : Nat) (hx : s.list.getD (i / 4) 0 = x) : Value.int .u8 ((x : Int) / 2 ^ (8 * (3 - i % 4)) % 256) = B (s.bytes.getD i 0) := by
  rw [stbytes_at s i hi, hx, put_byte x (3 - i % 4) 4 (by omega), show 4 - 1 - (3 - i % 4) = i % 4 from by omega]

theorem outP_set (l : Bytes) (i : Nat) (hi : i < l.length) : ((l.take i).map B ++ zs (l.length - i)).set i (B (l.getD i 0)) = (l.take (i + 1)).map B ++ zs (l.length - (i + 1)) := by
  obtain ⟨k, hk⟩ : ∃ k, l.length - i = k + 1 := ⟨l.length - i - 1, by omega⟩
  have e1 : ((l.take i).map B).length = i := by simp; omega
  rw [List.set_append_right i _ (by omega), e1, Nat.sub_self, hk, show zs (k + 1) = B 0 :: zs k from rfl, List.set_cons_zero, List.take_succ_eq_append_getElem hi, List.map_append, List.append_assoc,
    show l.length - (i + 1) = k from by omega]
  simp [List.getD_eq_getElem?_getD, List.getElem?_eq_getElem hi]

set_option maxHeartbeats 4000000 in
theorem rsum_any (a : Option Addr) (len cap : Nat) (l : Bytes) (w : World) (hb : IsB w a len cap l) (hm : len + 100 ≤ 140737488355328) :
   Calls Tryz.prog 85 #[.slice a len cap] w fun e w' => e = .returned (.agg ((sha l).map B).toArray) ∧ Below w.heap.size w w' := by
  have HB := Seal.mk hb
  have HL := Seal.mk hb.llen
  have HF : Seal (sha l = (absorb iv (pad l) ((l.length + 72) / 64)).bytes) := ⟨rfl⟩
  have HPL : Seal ((pad l).length = 64 * ((l.length + 72) / 64)) := ⟨pad_64 l⟩
  clear hb
  go_enter Tryz.func85, Tryz.ntmps85
  obtain ⟨X, hX⟩ : ∃ X : World, Seal (X = (w.alloc (.cells #[.int .u8 0, .int .u8 0, .int .u8 0, .int .u8 0, .int .u8 0, .int .u8 0, .int .u8 0, .int .u8 0, .int .u8 0, .int .u8 0, .int .u8 0, .int .u8 0, .int .u8 0, .int .u8 0, .int .u8 0, .int .u8 0, .int .u8 0, .int .u8 0, .int .u8 0, .int .u8 0, .int .u8 0, .int .u8 0, .int .u8 0, .int .u8 0, .int .u8 0, .int .u8 0, .int .u8 0, .int .u8 0, .int .u8 0, .int .u8 0, .int .u8 0, .int .u8 0] 42)).alloc (.cells #[.int .u32 1779033703, .int .u32 3144134277, .int .u32 1013904242, .int .u32 2773480762, .int .u32 1359893119, .int .u32 2600822924, .int .u32 528734635, .int .u32 1541459225] 126)) := ⟨_, ⟨rfl⟩⟩
  have hXb : Seal (Below w.heap.size w X) := ⟨by rw [hX.out]; exact ((Below.refl _ w).alloc (Nat.le_refl _) _).alloc (by rw [size_alloc]; omega) _⟩
  have hXs : Seal (X.heap.size = w.heap.size + 2) := ⟨by rw [hX.out, size_alloc, size_alloc]⟩
  have hX0 : Seal (X.heap[w.heap.size]? = some (.cells (zs 32).toArray 42 (0, 0))) := ⟨by rw [hX.out]; exact heap_alloc2_old w _ _⟩
  have hX1 : Seal (X.heap[w.heap.size + 1]? = some (.cells (stL iv).toArray 126 (0, 0))) := ⟨by rw [hX.out]; exact heap_alloc2_new w _ _⟩
  have HPC : Seal _ := ⟨rpadded_any a len cap l X (HB.out.below hXb.out) hm⟩
  go_wp2_with fail
  rw [← hX.out]
  refine HPC.out.mono ?_
  rintro e w1 ⟨g, n, c, rfl, hS⟩
  have hn : n = 64 * ((len + 72) / 64) := by rw [← hS.out.len, HPL.out, HL.out]
  obtain ⟨M, hM⟩ : ∃ M, M = (len + 72) / 64 := ⟨_, rfl⟩
  have HM : Seal (M = (len + 72) / 64) := ⟨hM⟩
  rw [← hM] at hn
  have hMb : 64 * M ≤ 140737488355328 := by omega
  subst hn
  have hf := own_facts hS.out.own hS.out.len
  have hc1 : 64 * M ≤ c := hf.1
  have hc2 : c ≤ 9223372036854775807 := hf.2.1
  have hR1 : Seal (w1.rangeAt g 0 ((pad l).map B)) := ⟨hf.2.2.2⟩
  have hW1 : Seal (Below w.heap.size w w1) := ⟨hXb.out.trans (hS.out.bel.mono (by rw [hXs.out]; omega))⟩
  have hD1 : Seal (w1.heap[w.heap.size]? = some (.cells (zs 32).toArray 42 (0, 0))) := ⟨(hS.out.bel.block _ (by rw [hXs.out]; omega)).trans hX0.out⟩
  have hE1 : Seal (w1.heap[w.heap.size + 1]? = some (.cells (stL (absorb iv (pad l) 0)).toArray 126 (0, 0))) := ⟨(hS.out.bel.block _ (by rw [hXs.out]; omega)).trans hX1.out⟩
  have hgX : w.heap.size + 2 ≤ g := by have := (hS.out.own.lt g rfl).1; rw [hXs.out] at this; omega
  have HG := Seal.mk hgX
  clear hf hM hS hX hXb hXs hX0 hX1 HPC hgX
  go_wp2
  go_loopw [5] (fun i wr => ∃ j : Nat, j ≤ M ∧ i = .int .i64 (64 * (j : Int)) ∧ Seal (Below w.heap.size w wr ∧ wr.heap[w.heap.size]? = some (.cells (zs 32).toArray 42 (0, 0)) ∧
      wr.heap[w.heap.size + 1]? = some (.cells (stL (absorb iv (pad l) j)).toArray 126 (0, 0)) ∧ wr.rangeAt g 0 ((pad l).map B))) (fun i _ => 64 * M - (intOf i).toNat)
  case atStart => exact ⟨0, Nat.zero_le _, rfl, ⟨hW1.out, hD1.out, hE1.out, hR1.out⟩⟩
  case round =>
    clear hW1 hD1 hE1 hR1
    obtain ⟨j, hj, rfl, hH⟩ := hrel
    obtain ⟨st, hst⟩ : ∃ st, Seal (st = absorb iv (pad l) j) := ⟨_, ⟨rfl⟩⟩
    have hsk : st.ok := by rw [hst.out]; exact absorb_ok _ iv_ok _ _
    have HS1 : Seal (wr.heap[w.heap.size + 1]? = some (.cells (stL st).toArray 126 (0, 0))) := ⟨by rw [hst.out]; exact hH.out.2.2.1⟩
    by_cases hlt : j < M
    · have HC : Seal (∀ d, Calls Tryz.prog 102 #[.agg #[.int .u32 st.a, .int .u32 st.b, .int .u32 st.c, .int .u32 st.d, .int .u32 st.e, .int .u32 st.f, .int .u32 st.g, .int .u32 st.h], .slice (some ⟨g, 64 * j, none⟩) 64 (c - 64 * j)] (wr.drewN d) fun e w' => e = .returned (.agg (stL (block st ((pad l).drop (64 * j)))).toArray) ∧ Below wr.heap.size (wr.drewN d) w') := ⟨fun d =>
        rblock_any g (64 * j) 64 (c - 64 * j) st ((pad l).drop (64 * j)) (wr.drewN d) (Nat.le_refl _) (by omega) (by omega) (by rw [List.length_drop, HPL.out, HL.out, ← HM.out]; omega) (by have := rangeAt_drop hH.out.2.2.2 (64 * j); rwa [← List.map_drop, Nat.zero_add] at this) hsk⟩
      have c0 : wr.cell? ⟨w.heap.size + 1, 0, none⟩ = some (.int .u32 st.a) := cell_of_row _ _ _ _ _ _ HS1.out
      have c1 : wr.cell? ⟨w.heap.size + 1, 1, none⟩ = some (.int .u32 st.b) := cell_of_row _ _ _ _ _ _ HS1.out
      have c2 : wr.cell? ⟨w.heap.size + 1, 2, none⟩ = some (.int .u32 st.c) := cell_of_row _ _ _ _ _ _ HS1.out
      have c3 : wr.cell? ⟨w.heap.size + 1, 3, none⟩ = some (.int .u32 st.d) := cell_of_row _ _ _ _ _ _ HS1.out
      have c4 : wr.cell? ⟨w.heap.size + 1, 4, none⟩ = some (.int .u32 st.e) := cell_of_row _ _ _ _ _ _ HS1.out
      have c5 : wr.cell? ⟨w.heap.size + 1, 5, none⟩ = some (.int .u32 st.f) := cell_of_row _ _ _ _ _ _ HS1.out
      have c6 : wr.cell? ⟨w.heap.size + 1, 6, none⟩ = some (.int .u32 st.g) := cell_of_row _ _ _ _ _ _ HS1.out
      have c7 : wr.cell? ⟨w.heap.size + 1, 7, none⟩ = some (.int .u32 st.h) := cell_of_row _ _ _ _ _ _ HS1.out
      have q1 : IntKind.i64.wrap (64 * (j : Int) + 64) = 64 * j + 64 := IntWalk.i64_in _ (by omega)
      have q2 : (64 * (j : Int)).toNat = 64 * j := by omega
      have q3 : (64 * (j : Int) + 64).toNat = 64 * j + 64 := by omega
      have q4 : 0 ≤ 64 * (j : Int) := by omega
      have q5 : 64 * (j : Int) ≤ 64 * j + 64 := by omega
      have q6 : 64 * (j : Int) + 64 ≤ c := by omega
      have q7 : 64 * j + 64 - 64 * j = 64 := by omega
      go_wp2_with fail
      go_still_tail 6, (by kernel_rfl)
      change wpList _ _ _ _ _ wr.drew
      clear c0 c1 c2 c3 c4 c5 c6 c7 q1 q2 q3 q4 q5 q6 q7
      obtain ⟨D, hD⟩ : ∃ D : Array Value, Seal (D = (stL (block st ((pad l).drop (64 * j)))).toArray) := ⟨_, ⟨rfl⟩⟩
      have HC1 : Seal (Calls Tryz.prog 102 #[.agg #[.int .u32 st.a, .int .u32 st.b, .int .u32 st.c, .int .u32 st.d, .int .u32 st.e, .int .u32 st.f, .int .u32 st.g, .int .u32 st.h], .slice (some ⟨g, 64 * j, none⟩) 64 (c - 64 * j)] wr.drew fun e w' => e = .returned (.agg D) ∧ Below wr.heap.size wr.drew w') := ⟨by rw [hD.out]; exact HC.out 1⟩
      have hDs : Seal (D.size = 8) := ⟨by rw [hD.out]; rfl⟩
      have h8i : Seal ((Tryz.prog.info? 126).map (·.size) = some D.size) := ⟨by rw [hDs.out]; kernel_rfl⟩
      have h8s : Seal ((stL st).toArray.size = D.size) := ⟨by rw [hDs.out]; rfl⟩
      have h8o : Seal (D.all (·.oneCell') = true) := ⟨by rw [hD.out]; simp [stL, Value.oneCell']⟩
      have hwz : w.heap.size + 2 ≤ wr.heap.size := by
        have := (Array.getElem?_eq_some_iff.1 HS1.out).1
        omega
      clear HC
      go_wp2_with fail
      refine HC1.out.mono ?_
      rintro e w2 ⟨rfl, hb2⟩
      have hB2 := Seal.mk hb2
      have hrow : Seal (w2.heap[w.heap.size + 1]? = some (.cells (stL st).toArray 126 (0, 0))) := ⟨(hb2.block _ (by omega)).trans HS1.out⟩
      clear hb2 HC1
      go_wp2_with (refine wpList_store_row rfl 126 (.tmp 3) (.tmp 23) rfl (w.heap.size + 1) D rfl rfl 126 _ hrow.out h8i.out h8s.out h8o.out ?_)
      go_roundw
      case rel =>
        have hwb : Below w.heap.size w w2 := hH.out.1.trans (by have h1 := hB2.out.mono (show w.heap.size ≤ wr.heap.size by omega); exact ⟨h1.os, h1.tape, h1.output, h1.size, h1.block⟩)
        refine ⟨j + 1, hlt, by go_num, ⟨below_row hwb (by omega) _, ?_, ?_, ?_⟩⟩
        · rw [setRow_other _ _ _ _ (by omega)]
          exact (hB2.out.block _ (by omega)).trans hH.out.2.1
        · rw [setRow_heap _ _ _ _ _ _ hrow.out, absorb_succ, ← hst.out, block_take _ _ (by rw [List.length_drop, HPL.out, HL.out, ← HM.out]; omega), hD.out]
        · refine rangeAt_of_same hH.out.2.2.2 ?_
          rw [setRow_other _ _ _ _ (by have := HG.out; omega)]
          exact hB2.out.block _ (rangeAt_lt hH.out.2.2.2 (by rw [List.length_map, HPL.out, HL.out, ← HM.out]; omega))
      case measure => simp [intOf]; omega
    · obtain rfl : j = M := by omega
      have HSH : Seal (sha l = st.bytes) := ⟨by rw [HF.out, HL.out, ← HM.out, ← hst.out]⟩
      have HW := Seal.mk hH.out.1
      have HZ := Seal.mk hH.out.2.1
      clear hH hst hMb hc1 hc2 hlt hj HF HPL HG
      have hzi : Seal ((Tryz.prog.info? 42).map (·.size) = some (zs 32).length) := ⟨by rw [zs_length]; kernel_rfl⟩
      have hzo : Seal (∀ u ∈ zs 32, u.oneCell' = true) := ⟨by intro u hu; rw [List.eq_of_mem_replicate hu]; rfl⟩
      go_wp2_with (refine wpList_store_new rfl 42 (.tmp 6) (.tmp 24) rfl (zs 32) (zs 32) 42 rfl rfl hzi.out rfl hzo.out ?_)
      have hwz : w.heap.size + 2 ≤ wr.heap.size := by
        have := (Array.getElem?_eq_some_iff.1 HS1.out).1
        omega
      obtain ⟨G, hG⟩ : ∃ G, G = wr.heap.size := ⟨_, rfl⟩
      obtain ⟨b, hb⟩ : ∃ b, Seal (b = st.bytes) := ⟨_, ⟨rfl⟩⟩
      have hbl : Seal (b.length = 32) := ⟨by rw [hb.out]; exact bytes_length st⟩
      have H0 : Seal (Below w.heap.size w (wr.alloc (.cells (zs 32).toArray 42)) ∧ (wr.alloc (.cells (zs 32).toArray 42)).heap[w.heap.size]? = some (.cells (zs 32).toArray 42 (0, 0)) ∧
          (wr.alloc (.cells (zs 32).toArray 42)).heap[w.heap.size + 1]? = some (.cells (stL st).toArray 126 (0, 0)) ∧ (wr.alloc (.cells (zs 32).toArray 42)).heap[G]? = some (.cells ((b.take 0).map B ++ zs (b.length - 0)).toArray 42 (0, 0))) :=
        ⟨HW.out.alloc (by omega) _, (Below.heap_alloc _ _ _ (by omega)).trans HZ.out, (Below.heap_alloc _ _ _ (by omega)).trans HS1.out, by rw [hG, hbl.out]; exact heap_alloc_new wr _⟩
      rw [← hG]
      generalize wr.alloc (.cells (zs 32).toArray 42) = X at *
      have hGz : w.heap.size + 2 ≤ G := by omega
      clear HW HZ HS1 hzi hzo hwz hG
      go_loopw [7] (fun i wr => ∃ k : Nat, k ≤ 32 ∧ i = .int .i64 k ∧ Seal (Below w.heap.size w wr ∧ wr.heap[w.heap.size]? = some (.cells (zs 32).toArray 42 (0, 0)) ∧
          wr.heap[w.heap.size + 1]? = some (.cells (stL st).toArray 126 (0, 0)) ∧ wr.heap[G]? = some (.cells ((b.take k).map B ++ zs (b.length - k)).toArray 42 (0, 0)))) (fun i _ => 32 - (intOf i).toNat)
      case atStart => exact ⟨0, by omega, rfl, H0⟩
      case round =>
        clear H0
        obtain ⟨k, hk, rfl, hH⟩ := hrel
        by_cases hlt : k < 32
        · have cs : wr.cell? ⟨w.heap.size + 1, k / 4, none⟩ = some (.int .u32 (st.list.getD (k / 4) 0 : Nat)) := by
            rw [cell_of_row _ _ _ _ _ _ hH.out.2.2.1]
            have := mixL_get st st 0 (k / 4) (by omega)
            rw [if_neg (by omega), mixL_zero] at this
            simpa using this
          obtain ⟨y, hy⟩ : ∃ y, ((b.take k).map B ++ zs (b.length - k))[k]? = some y := ⟨_, List.getElem?_eq_getElem (by simp [zs_length, hbl.out]; omega)⟩
          have cg : wr.cell? ⟨G, k, none⟩ = some y := by
            rw [cell_of_row _ _ _ _ _ _ hH.out.2.2.2]
            simpa using hy
          have cf : wr.frozen? ⟨G, k, none⟩ = false := frozen_of_row _ _ _ _ _ hH.out.2.2.2
          obtain ⟨x, hx⟩ : ∃ x, st.list.getD (k / 4) 0 = x := ⟨_, rfl⟩
          have hxl : x < 4294967296 := by rw [← hx]; exact state_lt st hsk _
          have HV : Seal (Value.int .u8 ((x : Int) / 2 ^ (24 - 8 * (k % 4)) % 256) = B (b.getD k 0)) := ⟨by rw [hb.out, show 24 - 8 * (k % 4) = 8 * (3 - k % 4) from by omega]; exact st_byte st k hlt x hx⟩
          rw [hx] at cs
          have k4 : (k : Int) / 4 < 8 := by omega
          clear hx hy
          go_wp2
          go_roundw
          case rel =>
            refine ⟨k + 1, hlt, by go_num, ⟨?_, ?_, ?_, ?_⟩⟩
            · exact hH.out.1.setCell (p := ⟨G, k, none⟩) (by show w.heap.size ≤ G; omega) _
            · exact (Below.heap_setCell wr _ _ _ (by show w.heap.size ≠ G; omega)).trans hH.out.2.1
            · exact (Below.heap_setCell wr _ _ _ (by show w.heap.size + 1 ≠ G; omega)).trans hH.out.2.2.1
            · rw [heap_setCell_row _ hH.out.2.2.2, HV.out, outP_set b k (by rw [hbl.out]; exact hlt)]
          case measure => simp [intOf]; omega
        · obtain rfl : k = 32 := by omega
          obtain ⟨D, hD⟩ : ∃ D : Array Value, Seal (D = ((sha l).map B).toArray) := ⟨_, ⟨rfl⟩⟩
          have h8 : Seal (wr.heap[G]? = some (.cells D 42 (0, 0))) := ⟨by
            rw [hH.out.2.2.2, hD.out, HSH.out, ← hb.out, hbl.out, List.take_of_length_le (by rw [hbl.out]; exact Nat.le_refl _)]
            simp [zs]⟩
          have hZ := Seal.mk hH.out.2.1
          have hW := Seal.mk hH.out.1
          have HSZ : Seal ((Tryz.prog.info? 42).map (·.size) = some D.size) := ⟨by rw [hD.out, List.size_toArray]; exact sha_info l⟩
          have H1C : Seal (D.all (·.oneCell') = true) := ⟨by rw [hD.out]; simp [Value.oneCell']⟩
          have HOZ : Seal ((zs 32).toArray.size = D.size) := ⟨by rw [hD.out, List.size_toArray, List.size_toArray, zs_length, List.length_map, sha_length]⟩
          clear hH hlt hk
          rw [show ((32 : Nat) : Int) = 32 from rfl]
          go_wp2_with (first | (refine wpList_load_row rfl 42 (.tmp 6) rfl G rfl 42 D (0, 0) _ h8.out Tryz.underlying42 rfl HSZ.out ?_) | (refine wpList_store_row rfl 42 (.tmp 2) (.tmp 41) rfl w.heap.size D rfl rfl 42 (zs 32).toArray hZ.out HSZ.out HOZ.out H1C.out ?_))
          refine bodyPost_ret (results_cell_row (fn := Tryz.f85) rfl _ _ w.heap.size 42 D (0, 0) _ rfl (setRow_heap _ _ _ _ _ _ hZ.out) Tryz.underlying42 rfl HSZ.out) rfl ⟨?_, below_row hW.out (Nat.le_refl _) _⟩
          rw [hD.out]
end Frk
