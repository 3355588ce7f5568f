/- The program's Sum and Tagged: SHA-256 of bytes, for every slice. -/
import Derived.Test.YtllbjakfjpjfnaaGreatDoorVxAbs
namespace Frk
open Go Go.RowKit Go.Proofs
set_option maxRecDepth 100000

/-- what the tables of the program hold -/
structure Glob (w : World) : Prop where
  start : w.rangeAt 0 0 (iv.list.map W)
  nums : w.rangeAt 1 0 (Kt.map W)

theorem Glob.below {w w' : World} (h : Glob w) (hb : Below w.heap.size w w') : Glob w' := ⟨rangeAt_below' h.start hb, rangeAt_below' h.nums hb⟩

/-- a slice of bytes -/
structure IsB (w : World) (a : Option Addr) (len cap : Nat) (l : Bytes) : Prop where
  llen : l.length = len
  lcap : len ≤ cap
  lmax : len ≤ 140737488355328
  cmax : cap ≤ 9223372036854775807
  at_ : len = 0 ∨ ∃ g off, a = some ⟨g, off, none⟩ ∧ w.rangeAt g off (l.map B) ∧ g < w.heap.size

attribute [local irreducible] sched rounds in
theorem block_take (s : St) (l : Bytes) (h : 64 ≤ l.length) : block s (l.take 64) = block s l := by
  have hw : ∀ n (l : Bytes), 4 * n ≤ l.length → words (l.take (4 * n)) n = words l n := by
    intro n
    induction n with
    | zero => intro l _; rfl
    | succ n ih =>
      intro l hl
      show word4 (l.take (4 * (n + 1))) :: words ((l.take (4 * (n + 1))).drop 4) n = word4 l :: words (l.drop 4) n
      have e1 : (l.take (4 * (n + 1))).drop 4 = (l.drop 4).take (4 * n) := by rw [List.drop_take, show 4 * (n + 1) - 4 = 4 * n from by omega]
      have e2 : word4 (l.take (4 * (n + 1))) = word4 l := by
        unfold word4
        have e : ∀ i, i < 4 → (l.take (4 * (n + 1))).getD i 0 = l.getD i 0 := fun i hi => by
          rw [List.getD_eq_getElem?_getD, List.getD_eq_getElem?_getD, List.getElem?_take, if_pos (by omega)]
        rw [e 0 (by omega), e 1 (by omega), e 2 (by omega), e 3 (by omega)]
      rw [e1, e2, ih _ (by simp; omega)]
  have h16 := hw 16 l (by omega)
  rw [show 4 * 16 = 64 from rfl] at h16
  unfold block
  rw [h16]

attribute [local irreducible] block in
theorem absorb_succ (s : St) (l : Bytes) : ∀ n, absorb s l (n + 1) = block (absorb s l n) ((l.drop (64 * n)).take 64)
  | 0 => by rw [Nat.mul_zero, List.drop_zero]; rfl
  | n + 1 => by
    show absorb (block s (l.take 64)) (l.drop 64) (n + 1) = _
    rw [absorb_succ (block s (l.take 64)) (l.drop 64) n, List.drop_drop, show 64 + 64 * n = 64 * (n + 1) from by omega]
    rfl

theorem block_ok (s : St) (l : Bytes) : (block s l).ok := ⟨add32_lt _ _, add32_lt _ _, add32_lt _ _, add32_lt _ _, add32_lt _ _, add32_lt _ _, add32_lt _ _, add32_lt _ _⟩

theorem absorb_ok (s : St) (h : s.ok) (l : Bytes) : ∀ n, (absorb s l n).ok
  | 0 => h
  | n + 1 => by rw [absorb_succ]; exact block_ok _ _

theorem iv_ok : iv.ok := ⟨by decide, by decide, by decide, by decide, by decide, by decide, by decide, by decide⟩

theorem absorb_call (gs g off len cap : Nat) (st : St) (l : Bytes) (w : World) (h64 : 64 ≤ len) (hlc : len ≤ cap) (hm : cap ≤ 9223372036854775807)
    (hs : Seal (w.heap[gs]? = some (.cells (stL st).toArray 127 (0, 0)))) (hl : 64 ≤ l.length) (hr : Seal (w.rangeAt g off (l.map B))) (hne : gs ≠ g) (hok : st.ok) (hK : Seal (w.rangeAt 1 0 (Kt.map W))) :
   Calls Tryz.prog 74 #[.pointer (some ⟨gs, 0, none⟩), .slice (some ⟨g, off, none⟩) len cap] w fun e w' => e = .returned (.tuple #[]) ∧
     Seal (w.grownBy w' (some gs)) ∧ Seal (w'.heap[gs]? = some (.cells (stL (block st (l.take 64))).toArray 127 (0, 0))) :=
  (absorb_any gs g off len cap st l w h64 hlc hm hs.out hl hr.out hne hok hK.out).mono fun _ _ h => ⟨h.1, ⟨h.2.1⟩, ⟨by rw [block_take _ _ hl]; exact h.2.2⟩⟩

/-- n zero bytes -/
def zs (n : Nat) : List Value := List.replicate n (B 0)
theorem zs_length (n : Nat) : (zs n).length = n := List.length_replicate
theorem zs_drop (m n : Nat) : (zs n).drop m = zs (n - m) := by simp [zs]

/-- copy into the new end -/
theorem copy_end (w : World) (g o r c : Nat) (rest : Bytes) (hr : r < 64) (hl : rest.length = r) (hs : 0 < r → w.rangeAt g o (rest.map B)) (_hg : g < w.heap.size) (ty : TypeId) :
    (Builtin.copy_ #[52, 52] ty #[.slice (some ⟨w.heap.size, 0, none⟩) 64 128, .slice (some ⟨g, o, none⟩) r c]).run Tryz.prog (w.alloc (.cells (zs 128).toArray 5)) =
      .ok (goInt r) (w.alloc (.cells (rest.map B ++ zs (128 - r)).toArray 5)) := by
  by_cases h0 : r = 0
  · subst h0
    obtain rfl := List.eq_nil_of_length_eq_zero hl
    exact run_copy_none (P := Tryz.prog) _ 52 52 ty 5 _ _ 64 128 0 c Tryz.underlying52 (by kernel_rfl) (by decide)
  · have hs' := World.rangeAt_alloc (hs (by omega)) (.cells (zs 128).toArray 5)
    have h := run_copy_row (P := Tryz.prog) (w.alloc (.cells (zs 128).toArray 5)) 52 52 ty 5 w.heap.size 0 64 128 ⟨g, o, none⟩ r c _ _ (rest.map B)
      Tryz.underlying52 (by kernel_rfl) (heap_alloc_new w _) (by rw [List.length_map, hl]; exact (Nat.min_eq_left (by omega)).symm) (fun j v hv => by rw [Addr.add_mid]; exact hs' j v hv) (by simp [hl, zs_length]; omega) (by simp [Value.oneCell'])
    refine h.trans ?_
    have e : (zs 128).toArray.toList.take 0 ++ rest.map B ++ (zs 128).toArray.toList.drop (0 + (rest.map B).length) = rest.map B ++ zs (128 - r) := by
      simp [hl, zs_drop]
    rw [e, setRow_new, List.length_map, hl]

theorem be_eight (n : Nat) : (List.range 8).map (fun i => beAt n 8 i) = be n 8 := by
  simp [be, beAt, List.range_succ, Nat.div_div_eq_div_mul]

theorem zs_take (m n : Nat) : (zs n).take m = zs (min m n) := by simp [zs, List.take_replicate]
/-- the end: what is left, the mark, zeros, the length -/
def endB (rest : Bytes) (off n : Nat) : Bytes := rest ++ [0x80] ++ List.replicate (off - rest.length - 1) 0 ++ be n 8 ++ List.replicate (120 - off) 0

theorem end_cells (rest : Bytes) (r off n : Nat) (hl : rest.length = r) (h1 : r < off) (h2 : off ≤ 120) :
    putL ((rest.map B ++ zs (128 - r)).set r (.int .u8 128)) off 8 n 8 = (endB rest off n).map B := by
  subst hl
  have e1 : (rest.map B ++ zs (128 - rest.length)).set rest.length (.int .u8 128) = rest.map B ++ B 0x80 :: zs (127 - rest.length) := by
    rw [show Value.int .u8 128 = B 0x80 from rfl]
    have := set_mid (rest.map B) (B 0x80) (127 - rest.length) (B 0) rest.length (by simp)
    rw [show 127 - rest.length + 1 = 128 - rest.length from by omega] at this
    have h := congrArg Array.toList this
    simp only [List.setIfInBounds_toArray] at h
    simpa [zs] using h
  rw [e1]
  have e2 : (rest.map B ++ B 0x80 :: zs (127 - rest.length)).take off = rest.map B ++ B 0x80 :: zs (off - rest.length - 1) := by
    rw [List.take_append, List.take_of_length_le (by simp; omega), List.length_map]
    obtain ⟨k, hk⟩ : ∃ k, off - rest.length = k + 1 := ⟨off - rest.length - 1, by omega⟩
    rw [hk, List.take_succ_cons, zs_take, show min k (127 - rest.length) = k + 1 - 1 from by omega]
  have e3 : (rest.map B ++ B 0x80 :: zs (127 - rest.length)).drop (off + 8) = zs (120 - off) := by
    rw [List.drop_append, List.drop_of_length_le (by simp; omega), List.length_map]
    obtain ⟨k, hk⟩ : ∃ k, off + 8 - rest.length = k + 1 := ⟨off + 8 - rest.length - 1, by omega⟩
    rw [hk, List.drop_succ_cons, zs_drop, List.nil_append, show 127 - rest.length - k = 120 - off from by omega]
  unfold putL endB
  rw [show off + 8 - 8 = off from by omega, e2, e3, show (fun i => B (beAt n 8 (8 - 8 + i))) = fun i => B (beAt n 8 i) from by funext i; rw [Nat.sub_self, Nat.zero_add]]
  have e4 : (List.range 8).map (fun i => B (beAt n 8 i)) = (be n 8).map B := by rw [← be_eight, List.map_map]; rfl
  rw [e4]
  simp [zs]

attribute [local irreducible] block in
theorem absorb_prefix (s : St) (l m : Bytes) : ∀ j, 64 * j ≤ l.length → absorb s (l ++ m) j = absorb s l j
  | 0, _ => rfl
  | j + 1, h => by
    rw [absorb_succ, absorb_succ, absorb_prefix s l m j (by omega), List.drop_append_of_le_length (by omega), List.take_append_of_le_length (by simp; omega)]

theorem be_length (n : Nat) : ∀ k, (be n k).length = k
  | 0 => rfl
  | k + 1 => by simp [be, be_length (n / 256) k]

def padB (rest : Bytes) (off n : Nat) : Bytes := rest ++ [0x80] ++ List.replicate (off - rest.length - 1) 0 ++ be n 8

theorem padB_length (rest : Bytes) (off n : Nat) (h : rest.length < off) : (padB rest off n).length = off + 8 := by
  simp [padB, be_length]; omega

theorem endB_eq (rest : Bytes) (off n : Nat) : endB rest off n = padB rest off n ++ List.replicate (120 - off) 0 := rfl

theorem pad_drop (l : Bytes) (j off : Nat) (h : 64 * j ≤ l.length) (ho : off - (l.length - 64 * j) - 1 = (119 - l.length % 64) % 64) :
    (pad l).drop (64 * j) = padB (l.drop (64 * j)) off (l.length * 8) := by
  unfold pad padB
  rw [List.length_drop, ho, List.append_assoc, List.append_assoc, List.drop_append_of_le_length h, List.append_assoc, List.append_assoc]

attribute [local irreducible] block be in
theorem pad_absorb (l : Bytes) (j : Nat) (h : 64 * j ≤ l.length) : absorb iv (pad l) j = absorb iv l j := by
  unfold pad; rw [List.append_assoc, List.append_assoc]; exact absorb_prefix iv l _ j h

attribute [local irreducible] block be in
theorem sha_short (l : Bytes) (j r : Nat) (h : l.length = 64 * j + r) (hr : r ≤ 55) :
    sha l = (block (absorb iv l j) ((endB (l.drop (64 * j)) 56 (l.length * 8)).take 64)).bytes := by
  unfold sha
  rw [show (l.length + 72) / 64 = j + 1 from by omega, absorb_succ, pad_absorb l j (by omega), pad_drop l j 56 (by omega) (by omega), endB_eq,
    List.take_append_of_le_length (by rw [padB_length _ _ _ (by rw [List.length_drop]; omega)]; omega)]

attribute [local irreducible] block be in
theorem sha_long (l : Bytes) (j r : Nat) (h : l.length = 64 * j + r) (hr : 55 < r) (hr' : r < 64) :
    sha l = (block (block (absorb iv l j) ((endB (l.drop (64 * j)) 120 (l.length * 8)).take 64)) (((endB (l.drop (64 * j)) 120 (l.length * 8)).drop 64).take 64)).bytes := by
  unfold sha
  rw [show (l.length + 72) / 64 = j + 1 + 1 from by omega, absorb_succ, absorb_succ, pad_absorb l j (by omega), show 64 * (j + 1) = 64 * j + 64 from by omega, ← List.drop_drop, pad_drop l j 120 (by omega) (by omega), endB_eq]
  simp

theorem put_new (w : World) (off len cap : Nat) (cs : List Value) (n : Int) (hn : 0 ≤ n) (t : TypeId) (hl : off + len ≤ cs.length) (h8 : len ≤ 8) :
   Calls Tryz.prog 75 #[.slice (some ⟨w.heap.size, off, none⟩) len cap, .int .u64 n] (w.alloc (.cells cs.toArray t)) fun e w' => e = .returned (.tuple #[]) ∧
     w.alloc (.cells (putL cs off len n.toNat len).toArray t) = w' := by
  have h := put_any w.heap.size off len cap cs n.toNat t (w.alloc (.cells cs.toArray t)) (heap_alloc_new w _) hl h8
  rw [setRow_new, show ((n.toNat : Nat) : Int) = n from by omega] at h
  exact h

theorem end_put (w : World) (off cap r len : Nat) (rest : Bytes) (hl : rest.length = r) (h1 : r < off) (h2 : off ≤ 120) :
   Calls Tryz.prog 75 #[.slice (some ⟨w.heap.size, off, none⟩) 8 cap, .int .u64 ((len : Int) * 8)] (w.alloc (.cells ((rest.map B ++ zs (128 - r)).set r (.int .u8 128)).toArray 5)) fun e w' => e = .returned (.tuple #[]) ∧
     w.alloc (.cells ((endB rest off (len * 8)).map B).toArray 5) = w' := by
  have h := put_new w off 8 cap ((rest.map B ++ zs (128 - r)).set r (.int .u8 128)) ((len : Int) * 8) (by omega) 5 (by simp [zs_length]; omega) (by omega)
  rw [show ((len : Int) * 8).toNat = len * 8 from by omega, end_cells rest r off (len * 8) hl h1 h2] at h
  exact h

/-- the words of a state, as bytes: the first ones -/
def outB (s : St) (i : Nat) : Bytes := (s.list.take i).flatMap fun x => be x 4

theorem outB_length (s : St) (i : Nat) (h : i ≤ 8) : (outB s i).length = 4 * i := by
  have : ∀ l : List Nat, (l.flatMap fun x => be x 4).length = 4 * l.length := by
    intro l
    induction l with
    | nil => rfl
    | cons x l ih => simp [List.flatMap_cons, be_length, ih]; omega
  rw [outB, this, List.length_take]
  have : s.list.length = 8 := rfl
  omega

theorem outB_all (s : St) : outB s 8 = s.bytes := by
  simp [outB, St.list, St.bytes]

theorem be_four (n : Nat) : (List.range 4).map (fun i => beAt n 4 i) = be n 4 := by
  simp [be, beAt, List.range_succ, Nat.div_div_eq_div_mul]

theorem out_put (s : St) (i : Nat) (h : i < 8) : putL ((outB s i).map B ++ zs (32 - 4 * i)) (4 * i) 4 (s.list.getD i 0) 4 = (outB s (i + 1)).map B ++ zs (32 - 4 * (i + 1)) := by
  have hl := outB_length s i (by omega)
  have e4 : (List.range 4).map (fun k => B (beAt (s.list.getD i 0) 4 k)) = (be (s.list.getD i 0) 4).map B := by rw [← be_four, List.map_map]; rfl
  unfold putL
  rw [show 4 * i + 4 - 4 = 4 * i from by omega, show (fun k => B (beAt (s.list.getD i 0) 4 (4 - 4 + k))) = fun k => B (beAt (s.list.getD i 0) 4 k) from by funext k; rw [Nat.sub_self, Nat.zero_add], e4,
    List.take_append_of_le_length (by simp [hl]), List.take_of_length_le (by simp [hl]), List.drop_append, List.drop_of_length_le (by simp [hl]), List.length_map, hl, zs_drop, List.nil_append]
  have e5 : outB s (i + 1) = outB s i ++ be (s.list.getD i 0) 4 := by
    unfold outB
    have hi : i < s.list.length := h
    rw [List.take_succ_eq_append_getElem hi, List.flatMap_append, List.getD_eq_getElem?_getD, List.getElem?_eq_getElem hi]
    simp
  rw [e5, List.map_append, show 32 - 4 * i - (4 * i + 4 - 4 * i) = 32 - 4 * (i + 1) from by omega]

theorem idx0 (st : St) (w : World) : (Instr.index 127 (.agg #[.int .u32 st.a, .int .u32 st.b, .int .u32 st.c, .int .u32 st.d, .int .u32 st.e, .int .u32 st.f, .int .u32 st.g, .int .u32 st.h]) (.int .i64 0)).run Tryz.prog w = .ok (.int .u32 (st.a : Nat)) w := by kernel_rfl
theorem idx1 (st : St) (w : World) : (Instr.index 127 (.agg #[.int .u32 st.a, .int .u32 st.b, .int .u32 st.c, .int .u32 st.d, .int .u32 st.e, .int .u32 st.f, .int .u32 st.g, .int .u32 st.h]) (.int .i64 1)).run Tryz.prog w = .ok (.int .u32 (st.b : Nat)) w := by kernel_rfl
theorem idx2 (st : St) (w : World) : (Instr.index 127 (.agg #[.int .u32 st.a, .int .u32 st.b, .int .u32 st.c, .int .u32 st.d, .int .u32 st.e, .int .u32 st.f, .int .u32 st.g, .int .u32 st.h]) (.int .i64 2)).run Tryz.prog w = .ok (.int .u32 (st.c : Nat)) w := by kernel_rfl
theorem idx3 (st : St) (w : World) : (Instr.index 127 (.agg #[.int .u32 st.a, .int .u32 st.b, .int .u32 st.c, .int .u32 st.d, .int .u32 st.e, .int .u32 st.f, .int .u32 st.g, .int .u32 st.h]) (.int .i64 3)).run Tryz.prog w = .ok (.int .u32 (st.d : Nat)) w := by kernel_rfl
theorem idx4 (st : St) (w : World) : (Instr.index 127 (.agg #[.int .u32 st.a, .int .u32 st.b, .int .u32 st.c, .int .u32 st.d, .int .u32 st.e, .int .u32 st.f, .int .u32 st.g, .int .u32 st.h]) (.int .i64 4)).run Tryz.prog w = .ok (.int .u32 (st.e : Nat)) w := by kernel_rfl
theorem idx5 (st : St) (w : World) : (Instr.index 127 (.agg #[.int .u32 st.a, .int .u32 st.b, .int .u32 st.c, .int .u32 st.d, .int .u32 st.e, .int .u32 st.f, .int .u32 st.g, .int .u32 st.h]) (.int .i64 5)).run Tryz.prog w = .ok (.int .u32 (st.f : Nat)) w := by kernel_rfl
theorem idx6 (st : St) (w : World) : (Instr.index 127 (.agg #[.int .u32 st.a, .int .u32 st.b, .int .u32 st.c, .int .u32 st.d, .int .u32 st.e, .int .u32 st.f, .int .u32 st.g, .int .u32 st.h]) (.int .i64 6)).run Tryz.prog w = .ok (.int .u32 (st.g : Nat)) w := by kernel_rfl
theorem idx7 (st : St) (w : World) : (Instr.index 127 (.agg #[.int .u32 st.a, .int .u32 st.b, .int .u32 st.c, .int .u32 st.d, .int .u32 st.e, .int .u32 st.f, .int .u32 st.g, .int .u32 st.h]) (.int .i64 7)).run Tryz.prog w = .ok (.int .u32 (st.h : Nat)) w := by kernel_rfl

theorem idx_state (st : St) (k : Nat) (hk : k < 8) (w : World) : (Instr.index 127 (.agg #[.int .u32 st.a, .int .u32 st.b, .int .u32 st.c, .int .u32 st.d, .int .u32 st.e, .int .u32 st.f, .int .u32 st.g, .int .u32 st.h]) (.int .i64 k)).run Tryz.prog w = .ok (.int .u32 (st.list.getD k 0 : Nat)) w := by
  match k, hk with
  | 0, _ => exact idx0 st w
  | 1, _ => exact idx1 st w
  | 2, _ => exact idx2 st w
  | 3, _ => exact idx3 st w
  | 4, _ => exact idx4 st w
  | 5, _ => exact idx5 st w
  | 6, _ => exact idx6 st w
  | 7, _ => exact idx7 st w

theorem slice_digest (n k : Nat) (hk : k < 8) (w : World) :
    (Instr.sliceAt 42 (.pointer (some ⟨n, 0, none⟩)) (some (.int .i64 (4 * (k : Int)))) (some (.int .i64 (4 * (k : Int) + 4))) none).run Tryz.prog w = .ok (.slice (some ⟨n, 4 * k, none⟩) 4 (32 - 4 * k)) w := by
  have hal : Tryz.prog.arrayLen 42 = 32 := by kernel_rfl
  have hs : (Go.sizeOf (Tryz.prog.elem 42)).run Tryz.prog w = .ok 1 w := by kernel_rfl
  rw [run_sliceAt_array_lh w 42 _ (by kernel_rfl) .i64 .i64 _ _ (by omega) (by omega) (by rw [hal]; omega), hs, hal]
  show Result.ok (slicedAt _ _ _ _ _) w = _
  rw [show (4 * (k : Int)).toNat = 4 * k from by omega, show (4 * (k : Int) + 4).toNat = 4 * k + 4 from by omega]
  unfold slicedAt
  rw [if_neg (by omega), Nat.mul_one, Addr.add_mid, Nat.zero_add, Nat.add_sub_cancel_left]

theorem state_lt (s : St) (h : s.ok) (k : Nat) : s.list.getD k 0 < 4294967296 := getD_lt (fun x hx => by
  simp only [St.list, List.mem_cons, List.not_mem_nil, or_false] at hx
  rcases hx with rfl | rfl | rfl | rfl | rfl | rfl | rfl | rfl
  · exact h.a
  · exact h.b
  · exact h.c
  · exact h.d
  · exact h.e
  · exact h.f
  · exact h.g
  · exact h.h) k

theorem bytes_length (s : St) : s.bytes.length = 32 := by simp [St.bytes, be_length]
theorem sha_length (l : Bytes) : (sha l).length = 32 := bytes_length _

def lenOf : Value → Nat
  | .slice _ n _ => n
  | _ => 0

set_option maxHeartbeats 2000000 in
theorem sum_some (g off len cap : Nat) (l : Bytes) (w : World) (hG : Glob w) (hl : l.length = len) (hlc : len ≤ cap) (hlm : len ≤ 140737488355328) (hm : cap ≤ 9223372036854775807) (hr : w.rangeAt g off (l.map B)) (hg : g < w.heap.size) :
   Calls Tryz.prog 44 #[.slice (some ⟨g, off, none⟩) len cap] w fun e w' => e = .returned (.agg ((sha l).map B).toArray) ∧ Below w.heap.size w w' := by
  have s0 : ∀ o, (w.alloc o).cell? ⟨0, 0, none⟩ = some (.int .u32 1779033703) := fun o => cell_allocd (cellW hG.start (i := 0) (by decide)) o
  have s1 : ∀ o, (w.alloc o).cell? ⟨0, 1, none⟩ = some (.int .u32 3144134277) := fun o => cell_allocd (cellW hG.start (i := 1) (by decide)) o
  have s2 : ∀ o, (w.alloc o).cell? ⟨0, 2, none⟩ = some (.int .u32 1013904242) := fun o => cell_allocd (cellW hG.start (i := 2) (by decide)) o
  have s3 : ∀ o, (w.alloc o).cell? ⟨0, 3, none⟩ = some (.int .u32 2773480762) := fun o => cell_allocd (cellW hG.start (i := 3) (by decide)) o
  have s4 : ∀ o, (w.alloc o).cell? ⟨0, 4, none⟩ = some (.int .u32 1359893119) := fun o => cell_allocd (cellW hG.start (i := 4) (by decide)) o
  have s5 : ∀ o, (w.alloc o).cell? ⟨0, 5, none⟩ = some (.int .u32 2600822924) := fun o => cell_allocd (cellW hG.start (i := 5) (by decide)) o
  have s6 : ∀ o, (w.alloc o).cell? ⟨0, 6, none⟩ = some (.int .u32 528734635) := fun o => cell_allocd (cellW hG.start (i := 6) (by decide)) o
  have s7 : ∀ o, (w.alloc o).cell? ⟨0, 7, none⟩ = some (.int .u32 1541459225) := fun o => cell_allocd (cellW hG.start (i := 7) (by decide)) o
  go_enter Tryz.func44, Tryz.ntmps44
  go_wp2
  have HG := Seal.mk hG
  have HR := Seal.mk hr
  have HL := Seal.mk hl
  obtain ⟨N, hN⟩ : ∃ N, Seal (N = w.heap.size) := ⟨_, ⟨rfl⟩⟩
  clear s0 s1 s2 s3 s4 s5 s6 s7 hr hG hl
  go_loopw [5] (fun r wr => ∃ (j o : Nat), 64 * j ≤ len ∧ (64 * j < len → o = off + 64 * j) ∧ r = .slice (some ⟨g, o, none⟩) (len - 64 * j) (cap - 64 * j) ∧
      Seal (Below w.heap.size w wr ∧ wr.heap[w.heap.size]? = some (.cells (zs 32).toArray 42 (0, 0)) ∧
      wr.heap[w.heap.size + 1]? = some (.cells (stL (absorb iv l j)).toArray 127 (0, 0)))) (fun r _ => lenOf r)
  case atStart =>
    exact ⟨0, off, by omega, fun _ => by omega, rfl, ⟨((Below.refl _ w).alloc (Nat.le_refl _) _).alloc (by simp) _, heap_alloc2_old w _ _, heap_alloc2_new w _ _⟩⟩
  case round =>
    obtain ⟨j, o, hj, ho, rfl, hH⟩ := hrel
    have hb := Seal.mk hH.out.1
    have hd := Seal.mk hH.out.2.1
    have hs := Seal.mk hH.out.2.2
    clear hH
    by_cases h64 : 64 ≤ len - 64 * j
    · have hsz : w.heap.size + 2 ≤ wr.heap.size := by
        have := (Array.getElem?_eq_some_iff.1 hs.out).1
        omega
      obtain rfl : o = off + 64 * j := ho (by omega)
      clear ho
      have hr' : Seal (wr.rangeAt g (off + 64 * j) ((l.drop (64 * j)).map B)) := ⟨by
        have h1 := rangeAt_drop (rangeAt_below' HR.out hb.out) (64 * j)
        rw [← List.map_drop] at h1; exact h1⟩
      have hk' : Seal (wr.rangeAt 1 0 (Kt.map W)) := ⟨rangeAt_below' HG.out.nums hb.out⟩
      have hne : w.heap.size + 1 ≠ g := by omega
      have hll : 64 ≤ (l.drop (64 * j)).length := by rw [List.length_drop, HL.out]; exact h64
      have hc := absorb_call (w.heap.size + 1) g (off + 64 * j) 64 (cap - 64 * j) (absorb iv l j) (l.drop (64 * j)) wr (by omega) (by omega) (by omega) hs hll hr' hne (absorb_ok _ iv_ok _ _) hk'
      clear hk' hr' hll
      have HC := Seal.mk hc
      clear hc
      go_wp2_with (go_at_call 74; refine HC.out.mono ?_; rintro e w1 ⟨rfl, hg1, hs1⟩)
      have hg2 : Seal (w1.heap[w.heap.size]? = some (.cells (zs 32).toArray 42 (0, 0))) :=
        ⟨(hg1.out.block _ (by omega) (by intro e; have := Option.some.inj e; omega)).trans hd.out⟩
      have hb2 : Seal (Below w.heap.size w w1) := ⟨hb.out.trans (below_of_grown hg1.out (by omega) (by omega))⟩
      have hs2 : Seal (w1.heap[w.heap.size + 1]? = some (.cells (stL (absorb iv l (j + 1))).toArray 127 (0, 0))) := ⟨by rw [absorb_succ]; exact hs1.out⟩
      clear hg1 hs1 hb hd hs HC hsz hne
      by_cases hcap : cap - 64 * j = 64
      · have hl2 : len = 64 * j + 64 := by omega
        have HC1 := Seal.mk hcap
        have HC2 := Seal.mk hl2
        clear hl2
        go_wp2
        go_roundw
        case rel =>
          have h1 := HC1.out
          have h2 := HC2.out
          exact ⟨j + 1, by omega, off + 64 * j, fun _ => by omega, ⟨rfl, by omega, by omega⟩, ⟨hb2.out, hg2.out, hs2.out⟩⟩
        case measure => simp only [lenOf]; omega
      · go_wp2
        go_roundw
        case rel => exact ⟨j + 1, by omega, off + 64 * j + 64, fun _ => by omega, ⟨rfl, by omega, by omega⟩, ⟨hb2.out, hg2.out, hs2.out⟩⟩
        case measure => simp only [lenOf]; omega
    · obtain ⟨wo, rfl⟩ : ∃ wo : World, wo = wr := ⟨_, rfl⟩
      obtain ⟨r, hr⟩ : ∃ r, len - 64 * j = r := ⟨_, rfl⟩
      have hrl : r < 64 := by omega
      obtain ⟨c, hc⟩ : ∃ c, cap - 64 * j = c := ⟨_, rfl⟩
      rw [hr, hc]
      obtain ⟨rest, hrest⟩ : ∃ rest, Seal (rest = l.drop (64 * j)) := ⟨_, ⟨rfl⟩⟩
      have HRL : Seal (rest.length = r) := ⟨by rw [hrest.out, List.length_drop, HL.out]; exact hr⟩
      have hmk : ∀ w, (Instr.makeSlice 52 (.int .i64 64) (.int .i64 128)).run Tryz.prog w = .ok (.slice (some ⟨w.heap.size, 0, none⟩) 64 128) (w.alloc (.cells (zs 128).toArray 5)) := fun _ => by kernel_rfl
      have HRR := Seal.mk hr
      have HCC := Seal.mk hc
      have hsz : w.heap.size + 2 ≤ wo.heap.size := by
        have := (Array.getElem?_eq_some_iff.1 hs.out).1
        omega
      have hcopy := copy_end wo g o r c rest hrl HRL.out (fun h => by
        have h1 := rangeAt_drop (rangeAt_below' HR.out hb.out) (64 * j)
        rw [ho (by omega), hrest.out, List.map_drop]; exact h1) (by omega)
      have hget : (rest.map B ++ zs (128 - r))[r]? = some (.int .u8 0) := by
        rw [List.getElem?_append_right (by rw [List.length_map, HRL.out]; exact Nat.le_refl _), List.length_map, HRL.out, Nat.sub_self]
        obtain ⟨k, hk⟩ : ∃ k, 128 - r = k + 1 := ⟨127 - r, by omega⟩
        rw [hk]; rfl
      have hll : l.length * 8 = len * 8 := by rw [HL.out]
      have hll' := Seal.mk hll
      have hle : l.length = 64 * j + r := by rw [HL.out]; omega
      have HLE := Seal.mk hle
      clear hr hc h64 ho hll hle
      have hst : (absorb iv l j).ok := absorb_ok _ iv_ok _ _
      by_cases h55 : r ≤ 55
      · have h55' : ¬ 55 < (r : Int) := by omega
        have HE := Seal.mk (end_put wo 56 72 r len rest HRL.out (by omega) (by omega))
        have HF : Seal (sha l = (absorb (absorb iv l j) (endB rest 56 (len * 8)) 1).bytes) := ⟨by rw [sha_short l j r HLE.out h55, hrest.out, hll'.out]; rfl⟩
        clear h55
        go_wp2_with (go_at_call 75; refine HE.out.mono ?_; rintro e w1 ⟨rfl, rfl⟩)
        obtain ⟨P, hP⟩ : ∃ P, Seal (P = endB rest 56 (len * 8)) := ⟨_, ⟨rfl⟩⟩
        have hPl : Seal (P.length = 128) := ⟨by rw [hP.out, endB_eq, List.length_append, padB_length _ _ _ (by rw [HRL.out]; omega)]; simp⟩
        rw [← hP.out] at HF ⊢
        obtain ⟨W0, hW0⟩ : ∃ W0, Seal (W0 = wo.alloc (.cells (P.map B).toArray 5)) := ⟨_, ⟨rfl⟩⟩
        rw [← hW0.out]
        have h0 : Seal (Below w.heap.size w W0 ∧ W0.heap[w.heap.size]? = some (.cells (zs 32).toArray 42 (0, 0)) ∧
            W0.heap[w.heap.size + 1]? = some (.cells (stL (absorb (absorb iv l j) P 0)).toArray 127 (0, 0)) ∧ W0.rangeAt wo.heap.size 0 (P.map B)) := by
          rw [hW0.out]
          exact ⟨hb.out.alloc (by omega) _, (Below.heap_alloc _ _ _ (by omega)).trans hd.out, (Below.heap_alloc _ _ _ (by omega)).trans hs.out, rangeAt_new _ _ _ _⟩
        clear hd hs HE hget
        go_loopw [6] (fun t wr' => ∃ m o2 : Nat, 64 * m ≤ 64 ∧ (64 * m < 64 → o2 = 64 * m) ∧ t = .slice (some ⟨wo.heap.size, o2, none⟩) (64 - 64 * m) (128 - 64 * m) ∧
            Seal (Below w.heap.size w wr' ∧ wr'.heap[w.heap.size]? = some (.cells (zs 32).toArray 42 (0, 0)) ∧
              wr'.heap[w.heap.size + 1]? = some (.cells (stL (absorb (absorb iv l j) P m)).toArray 127 (0, 0)) ∧ wr'.rangeAt wo.heap.size 0 (P.map B))) (fun t _ => lenOf t)
        case atStart => exact ⟨0, 0, by omega, fun _ => rfl, rfl, h0⟩
        case round =>
          obtain ⟨m, o2, hm2, ho2, rfl, hH⟩ := hrel
          have hb2 := Seal.mk hH.out.1
          have hd2 := Seal.mk hH.out.2.1
          have hs2 := Seal.mk hH.out.2.2.1
          have hr2 := Seal.mk hH.out.2.2.2
          clear hH h0
          by_cases hlt : 64 * m < 64
          · obtain rfl : o2 = 64 * m := ho2 hlt
            clear ho2
            have hE2 : wo.heap.size < wr.heap.size := rangeAt_lt hr2.out (by rw [List.length_map, hPl.out]; decide)
            have hr3 : Seal (wr.rangeAt wo.heap.size (64 * m) ((P.drop (64 * m)).map B)) := ⟨by
              have h1 := rangeAt_drop hr2.out (64 * m)
              rw [← List.map_drop, Nat.zero_add] at h1; exact h1⟩
            have hk2 : Seal (wr.rangeAt 1 0 (Kt.map W)) := ⟨rangeAt_below' HG.out.nums hb2.out⟩
            have HC := Seal.mk (absorb_call (w.heap.size + 1) wo.heap.size (64 * m) 64 (128 - 64 * m) (absorb (absorb iv l j) P m) (P.drop (64 * m)) wr (by omega) (by omega) (by omega) hs2 (by rw [List.length_drop, hPl.out]; omega) hr3 (by omega) (absorb_ok _ hst _ _) hk2)
            have hnext : ∀ w3, Seal (wr.grownBy w3 (some (w.heap.size + 1))) → Seal (w3.heap[w.heap.size + 1]? = some (.cells (stL (block (absorb (absorb iv l j) P m) ((P.drop (64 * m)).take 64))).toArray 127 (0, 0))) →
                Seal (Below w.heap.size w w3 ∧ w3.heap[w.heap.size]? = some (.cells (zs 32).toArray 42 (0, 0)) ∧
                  w3.heap[w.heap.size + 1]? = some (.cells (stL (absorb (absorb iv l j) P (m + 1))).toArray 127 (0, 0)) ∧ w3.rangeAt wo.heap.size 0 (P.map B)) := fun w3 a1 a2 =>
              ⟨hb2.out.trans (below_of_grown a1.out (by omega) (by omega)), (a1.out.block _ (by omega) (by intro e; have := Option.some.inj e; omega)).trans hd2.out, by rw [absorb_succ]; exact a2.out, rangeAt_grown hr2.out a1.out (by intro e; have := Option.some.inj e; omega)⟩
            have HN := Seal.mk hnext
            clear hk2 hr3 hnext hb2 hd2 hr2 hs2
            have hm3 : m = 0 ∨ m = 1 := by omega
            rcases hm3 with rfl | rfl
            all_goals first | (exfalso; omega) | skip
            all_goals
              ((try simp only [Nat.mul_zero] at HC ⊢); (try simp only [Nat.mul_one] at HC ⊢); (try simp only [Nat.sub_zero] at HC ⊢); (try simp only [Nat.reduceSub] at HC ⊢))
              go_wp2_with (go_at_call 74; refine HC.out.mono ?_; rintro e w3 ⟨rfl, hg3, hs3⟩)
              have HN3 := HN.out _ hg3 hs3
              clear hg3 hs3 HC HN
              go_roundw
              case rel => exact ⟨_, 64, by omega, fun _ => by omega, slice_eq (by omega) (by omega), HN3⟩
              case measure => simp [lenOf]
          · obtain rfl : m = 1 := by omega
            have hN2 : w.heap.size + 1 < wr.heap.size := (Array.getElem?_eq_some_iff.1 hs2.out).1
            obtain ⟨st, hstt⟩ : ∃ st, Seal (st = absorb (absorb iv l j) P 1) := ⟨_, ⟨rfl⟩⟩
            have hst2 : st.ok := by rw [hstt.out]; exact absorb_ok _ hst _ _
            have HF2 : Seal (sha l = st.bytes) := ⟨by rw [hstt.out]; exact HF.out⟩
            rw [← hstt.out] at hs2
            have c0 : wr.cell? ⟨w.heap.size + 1, 0, none⟩ = some (.int .u32 st.a) := cell_of_row _ _ _ _ _ _ hs2.out
            have c1 : wr.cell? ⟨w.heap.size + 1, 1, none⟩ = some (.int .u32 st.b) := cell_of_row _ _ _ _ _ _ hs2.out
            have c2 : wr.cell? ⟨w.heap.size + 1, 2, none⟩ = some (.int .u32 st.c) := cell_of_row _ _ _ _ _ _ hs2.out
            have c3 : wr.cell? ⟨w.heap.size + 1, 3, none⟩ = some (.int .u32 st.d) := cell_of_row _ _ _ _ _ _ hs2.out
            have c4 : wr.cell? ⟨w.heap.size + 1, 4, none⟩ = some (.int .u32 st.e) := cell_of_row _ _ _ _ _ _ hs2.out
            have c5 : wr.cell? ⟨w.heap.size + 1, 5, none⟩ = some (.int .u32 st.f) := cell_of_row _ _ _ _ _ _ hs2.out
            have c6 : wr.cell? ⟨w.heap.size + 1, 6, none⟩ = some (.int .u32 st.g) := cell_of_row _ _ _ _ _ _ hs2.out
            have c7 : wr.cell? ⟨w.heap.size + 1, 7, none⟩ = some (.int .u32 st.h) := cell_of_row _ _ _ _ _ _ hs2.out
            clear hlt ho2 hr2 hs2 hm2
            ((try simp only [Nat.mul_one]); (try simp only [Nat.reduceMul]); simp only [Nat.reduceSub])
            go_wp2
            clear c0 c1 c2 c3 c4 c5 c6 c7
            obtain ⟨w5, hw5⟩ : ∃ w5 : World, w5 = wr := ⟨_, rfl⟩
            subst hw5
            go_loopw [54] (fun i wr => ∃ k : Nat, k ≤ 8 ∧ i = .int .i64 k ∧ Seal (Below w.heap.size w wr ∧ wr.heap[w.heap.size]? = some (.cells ((outB st k).map B ++ zs (32 - 4 * k)).toArray 42 (0, 0)))) (fun i _ => 8 - (intOf i).toNat)
            case atStart => exact ⟨0, by omega, rfl, ⟨hb2.out, hd2.out⟩⟩
            case round =>
              obtain ⟨k, hk, rfl, hH⟩ := hrel
              by_cases hlt : k < 8
              · have hidx := idx_state st k hlt
                have hsl := slice_digest w.heap.size k hlt
                have HP := Seal.mk (put_any w.heap.size (4 * k) 4 (32 - 4 * k) ((outB st k).map B ++ zs (32 - 4 * k)) (st.list.getD k 0) 42 wr hH.out.2 (by rw [List.length_append, List.length_map, outB_length _ _ (by omega), zs_length]; omega) (by omega))
                generalize hx : st.list.getD k 0 = x at hidx HP
                have HX := Seal.mk hx
                have hxl : x < 4294967296 := by rw [← hx]; exact state_lt st hst2 k
                clear hx
                go_wp2_with (go_at_call 75; refine HP.out.mono ?_; rintro e w6 ⟨rfl, hw6⟩)
                have HW6 := Seal.mk hw6
                clear hidx hsl HP hw6 hxl
                go_wp2
                go_roundw
                case rel => exact ⟨k + 1, by omega, by go_num, by
                  rw [← HW6.out, ← HX.out, out_put _ _ hlt]
                  exact ⟨below_row hH.out.1 (Nat.le_refl _) _, setRow_heap _ _ _ _ _ _ hH.out.2⟩⟩
                case measure => simp [intOf]; omega
              · obtain rfl : k = 8 := by omega
                have h8 : Seal (wr.heap[w.heap.size]? = some (.cells ((sha l).map B).toArray 42 (0, 0))) := ⟨by
                  have := hH.out.2
                  rw [outB_all, ← HF2.out] at this
                  simpa [zs] using this⟩
                have hsz : (Tryz.prog.info? 42).map (·.size) = some ((sha l).map B).toArray.size := by
                  rw [List.size_toArray, List.length_map, sha_length]; kernel_rfl
                have h1c : ((sha l).map B).toArray.all (·.oneCell') = true := by simp [Value.oneCell']
                have hbe := Seal.mk hH.out.1
                obtain ⟨D, hD⟩ : ∃ D, Seal (D = ((sha l).map B).toArray) := ⟨_, ⟨rfl⟩⟩
                rw [← hD.out] at h8 hsz h1c
                have HSZ := Seal.mk hsz
                have H1C := Seal.mk h1c
                clear hsz h1c hH
                go_wp2_with (first | (refine wpList_load_row rfl 42 (.tmp 2) rfl w.heap.size rfl 42 D (0, 0) _ h8.out Tryz.underlying42 rfl HSZ.out ?_) | (refine wpList_store_row rfl 42 (.tmp 2) (.tmp 68) rfl w.heap.size D rfl rfl 42 D h8.out HSZ.out rfl H1C.out ?_))
                refine bodyPost_ret (results_cell_row (fn := Tryz.f44) rfl _ _ w.heap.size 42 D (0, 0) _ rfl (setRow_heap _ _ _ _ _ _ h8.out) Tryz.underlying42 rfl HSZ.out) rfl ⟨?_, below_row hbe.out (Nat.le_refl _) _⟩
                rw [hD.out]
      · have h55' : 55 < (r : Int) := by omega
        have HE := Seal.mk (end_put wo 120 8 r len rest HRL.out (by omega) (by omega))
        have HF : Seal (sha l = (absorb (absorb iv l j) (endB rest 120 (len * 8)) 2).bytes) := ⟨by rw [sha_long l j r HLE.out (by omega) hrl, hrest.out, hll'.out]; rfl⟩
        clear h55
        go_wp2_with (go_at_call 75; refine HE.out.mono ?_; rintro e w1 ⟨rfl, rfl⟩)
        obtain ⟨P, hP⟩ : ∃ P, Seal (P = endB rest 120 (len * 8)) := ⟨_, ⟨rfl⟩⟩
        have hPl : Seal (P.length = 128) := ⟨by rw [hP.out, endB_eq, List.length_append, padB_length _ _ _ (by rw [HRL.out]; omega)]; simp⟩
        rw [← hP.out] at HF ⊢
        obtain ⟨W0, hW0⟩ : ∃ W0, Seal (W0 = wo.alloc (.cells (P.map B).toArray 5)) := ⟨_, ⟨rfl⟩⟩
        rw [← hW0.out]
        have h0 : Seal (Below w.heap.size w W0 ∧ W0.heap[w.heap.size]? = some (.cells (zs 32).toArray 42 (0, 0)) ∧
            W0.heap[w.heap.size + 1]? = some (.cells (stL (absorb (absorb iv l j) P 0)).toArray 127 (0, 0)) ∧ W0.rangeAt wo.heap.size 0 (P.map B)) := by
          rw [hW0.out]
          exact ⟨hb.out.alloc (by omega) _, (Below.heap_alloc _ _ _ (by omega)).trans hd.out, (Below.heap_alloc _ _ _ (by omega)).trans hs.out, rangeAt_new _ _ _ _⟩
        clear hd hs HE hget
        go_loopw [6] (fun t wr' => ∃ m o2 : Nat, 64 * m ≤ 128 ∧ (64 * m < 128 → o2 = 64 * m) ∧ t = .slice (some ⟨wo.heap.size, o2, none⟩) (128 - 64 * m) (128 - 64 * m) ∧
            Seal (Below w.heap.size w wr' ∧ wr'.heap[w.heap.size]? = some (.cells (zs 32).toArray 42 (0, 0)) ∧
              wr'.heap[w.heap.size + 1]? = some (.cells (stL (absorb (absorb iv l j) P m)).toArray 127 (0, 0)) ∧ wr'.rangeAt wo.heap.size 0 (P.map B))) (fun t _ => lenOf t)
        case atStart => exact ⟨0, 0, by omega, fun _ => rfl, rfl, h0⟩
        case round =>
          obtain ⟨m, o2, hm2, ho2, rfl, hH⟩ := hrel
          have hb2 := Seal.mk hH.out.1
          have hd2 := Seal.mk hH.out.2.1
          have hs2 := Seal.mk hH.out.2.2.1
          have hr2 := Seal.mk hH.out.2.2.2
          clear hH h0
          by_cases hlt : 64 * m < 128
          · obtain rfl : o2 = 64 * m := ho2 hlt
            clear ho2
            have hE2 : wo.heap.size < wr.heap.size := rangeAt_lt hr2.out (by rw [List.length_map, hPl.out]; decide)
            have hr3 : Seal (wr.rangeAt wo.heap.size (64 * m) ((P.drop (64 * m)).map B)) := ⟨by
              have h1 := rangeAt_drop hr2.out (64 * m)
              rw [← List.map_drop, Nat.zero_add] at h1; exact h1⟩
            have hk2 : Seal (wr.rangeAt 1 0 (Kt.map W)) := ⟨rangeAt_below' HG.out.nums hb2.out⟩
            have HC := Seal.mk (absorb_call (w.heap.size + 1) wo.heap.size (64 * m) 64 (128 - 64 * m) (absorb (absorb iv l j) P m) (P.drop (64 * m)) wr (by omega) (by omega) (by omega) hs2 (by rw [List.length_drop, hPl.out]; omega) hr3 (by omega) (absorb_ok _ hst _ _) hk2)
            have hnext : ∀ w3, Seal (wr.grownBy w3 (some (w.heap.size + 1))) → Seal (w3.heap[w.heap.size + 1]? = some (.cells (stL (block (absorb (absorb iv l j) P m) ((P.drop (64 * m)).take 64))).toArray 127 (0, 0))) →
                Seal (Below w.heap.size w w3 ∧ w3.heap[w.heap.size]? = some (.cells (zs 32).toArray 42 (0, 0)) ∧
                  w3.heap[w.heap.size + 1]? = some (.cells (stL (absorb (absorb iv l j) P (m + 1))).toArray 127 (0, 0)) ∧ w3.rangeAt wo.heap.size 0 (P.map B)) := fun w3 a1 a2 =>
              ⟨hb2.out.trans (below_of_grown a1.out (by omega) (by omega)), (a1.out.block _ (by omega) (by intro e; have := Option.some.inj e; omega)).trans hd2.out, by rw [absorb_succ]; exact a2.out, rangeAt_grown hr2.out a1.out (by intro e; have := Option.some.inj e; omega)⟩
            have HN := Seal.mk hnext
            clear hk2 hr3 hnext hb2 hd2 hr2 hs2
            have hm3 : m = 0 ∨ m = 1 := by omega
            rcases hm3 with rfl | rfl
            all_goals first | (exfalso; omega) | skip
            all_goals
              ((try simp only [Nat.mul_zero] at HC ⊢); (try simp only [Nat.mul_one] at HC ⊢); (try simp only [Nat.sub_zero] at HC ⊢); (try simp only [Nat.reduceSub] at HC ⊢))
              go_wp2_with (go_at_call 74; refine HC.out.mono ?_; rintro e w3 ⟨rfl, hg3, hs3⟩)
              have HN3 := HN.out _ hg3 hs3
              clear hg3 hs3 HC HN
              go_roundw
              case rel => exact ⟨_, 64, by omega, fun _ => by omega, slice_eq (by omega) (by omega), HN3⟩
              case measure => simp [lenOf]
          · obtain rfl : m = 2 := by omega
            have hN2 : w.heap.size + 1 < wr.heap.size := (Array.getElem?_eq_some_iff.1 hs2.out).1
            obtain ⟨st, hstt⟩ : ∃ st, Seal (st = absorb (absorb iv l j) P 2) := ⟨_, ⟨rfl⟩⟩
            have hst2 : st.ok := by rw [hstt.out]; exact absorb_ok _ hst _ _
            have HF2 : Seal (sha l = st.bytes) := ⟨by rw [hstt.out]; exact HF.out⟩
            rw [← hstt.out] at hs2
            have c0 : wr.cell? ⟨w.heap.size + 1, 0, none⟩ = some (.int .u32 st.a) := cell_of_row _ _ _ _ _ _ hs2.out
            have c1 : wr.cell? ⟨w.heap.size + 1, 1, none⟩ = some (.int .u32 st.b) := cell_of_row _ _ _ _ _ _ hs2.out
            have c2 : wr.cell? ⟨w.heap.size + 1, 2, none⟩ = some (.int .u32 st.c) := cell_of_row _ _ _ _ _ _ hs2.out
            have c3 : wr.cell? ⟨w.heap.size + 1, 3, none⟩ = some (.int .u32 st.d) := cell_of_row _ _ _ _ _ _ hs2.out
            have c4 : wr.cell? ⟨w.heap.size + 1, 4, none⟩ = some (.int .u32 st.e) := cell_of_row _ _ _ _ _ _ hs2.out
            have c5 : wr.cell? ⟨w.heap.size + 1, 5, none⟩ = some (.int .u32 st.f) := cell_of_row _ _ _ _ _ _ hs2.out
            have c6 : wr.cell? ⟨w.heap.size + 1, 6, none⟩ = some (.int .u32 st.g) := cell_of_row _ _ _ _ _ _ hs2.out
            have c7 : wr.cell? ⟨w.heap.size + 1, 7, none⟩ = some (.int .u32 st.h) := cell_of_row _ _ _ _ _ _ hs2.out
            clear hlt ho2 hr2 hs2 hm2
            ((try simp only [Nat.mul_one]); (try simp only [Nat.reduceMul]); simp only [Nat.reduceSub])
            go_wp2
            clear c0 c1 c2 c3 c4 c5 c6 c7
            obtain ⟨w5, hw5⟩ : ∃ w5 : World, w5 = wr := ⟨_, rfl⟩
            subst hw5
            go_loopw [54] (fun i wr => ∃ k : Nat, k ≤ 8 ∧ i = .int .i64 k ∧ Seal (Below w.heap.size w wr ∧ wr.heap[w.heap.size]? = some (.cells ((outB st k).map B ++ zs (32 - 4 * k)).toArray 42 (0, 0)))) (fun i _ => 8 - (intOf i).toNat)
            case atStart => exact ⟨0, by omega, rfl, ⟨hb2.out, hd2.out⟩⟩
            case round =>
              obtain ⟨k, hk, rfl, hH⟩ := hrel
              by_cases hlt : k < 8
              · have hidx := idx_state st k hlt
                have hsl := slice_digest w.heap.size k hlt
                have HP := Seal.mk (put_any w.heap.size (4 * k) 4 (32 - 4 * k) ((outB st k).map B ++ zs (32 - 4 * k)) (st.list.getD k 0) 42 wr hH.out.2 (by rw [List.length_append, List.length_map, outB_length _ _ (by omega), zs_length]; omega) (by omega))
                generalize hx : st.list.getD k 0 = x at hidx HP
                have HX := Seal.mk hx
                have hxl : x < 4294967296 := by rw [← hx]; exact state_lt st hst2 k
                clear hx
                go_wp2_with (go_at_call 75; refine HP.out.mono ?_; rintro e w6 ⟨rfl, hw6⟩)
                have HW6 := Seal.mk hw6
                clear hidx hsl HP hw6 hxl
                go_wp2
                go_roundw
                case rel => exact ⟨k + 1, by omega, by go_num, by
                  rw [← HW6.out, ← HX.out, out_put _ _ hlt]
                  exact ⟨below_row hH.out.1 (Nat.le_refl _) _, setRow_heap _ _ _ _ _ _ hH.out.2⟩⟩
                case measure => simp [intOf]; omega
              · obtain rfl : k = 8 := by omega
                have h8 : Seal (wr.heap[w.heap.size]? = some (.cells ((sha l).map B).toArray 42 (0, 0))) := ⟨by
                  have := hH.out.2
                  rw [outB_all, ← HF2.out] at this
                  simpa [zs] using this⟩
                have hsz : (Tryz.prog.info? 42).map (·.size) = some ((sha l).map B).toArray.size := by
                  rw [List.size_toArray, List.length_map, sha_length]; kernel_rfl
                have h1c : ((sha l).map B).toArray.all (·.oneCell') = true := by simp [Value.oneCell']
                have hbe := Seal.mk hH.out.1
                obtain ⟨D, hD⟩ : ∃ D, Seal (D = ((sha l).map B).toArray) := ⟨_, ⟨rfl⟩⟩
                rw [← hD.out] at h8 hsz h1c
                have HSZ := Seal.mk hsz
                have H1C := Seal.mk h1c
                clear hsz h1c hH
                go_wp2_with (first | (refine wpList_load_row rfl 42 (.tmp 2) rfl w.heap.size rfl 42 D (0, 0) _ h8.out Tryz.underlying42 rfl HSZ.out ?_) | (refine wpList_store_row rfl 42 (.tmp 2) (.tmp 68) rfl w.heap.size D rfl rfl 42 D h8.out HSZ.out rfl H1C.out ?_))
                refine bodyPost_ret (results_cell_row (fn := Tryz.f44) rfl _ _ w.heap.size 42 D (0, 0) _ rfl (setRow_heap _ _ _ _ _ _ h8.out) Tryz.underlying42 rfl HSZ.out) rfl ⟨?_, below_row hbe.out (Nat.le_refl _) _⟩
                rw [hD.out]
end Frk
