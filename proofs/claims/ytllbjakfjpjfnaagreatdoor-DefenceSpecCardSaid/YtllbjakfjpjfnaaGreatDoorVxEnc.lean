/- The program's codec.Encode at flat lists of numbers and texts. -/
import Derived.Test.YtllbjakfjpjfnaaGreatDoorVxgCod
import Derived.Laws.BitsAllLaws
import Derived.Laws.BitsLemmas
import Derived.Deep.AppendLies
import Derived.Lib.AppendStr
import Derived.Laws.EntriesVeiled
namespace Frk
open Go Go.RowKit Go.Proofs
set_option maxRecDepth 100000

/-! ## numbers without a sign -/
theorem xor_ones (x : Nat) (h : x < 2 ^ 64) : x ^^^ 18446744073709551615 = 18446744073709551615 - x := by
  have e : 18446744073709551615 - x = 2 ^ 64 - (x + 1) := by omega
  rw [e]
  apply Nat.eq_of_testBit_eq
  intro i
  rw [Nat.testBit_xor, Nat.testBit_two_pow_sub_succ h, show (18446744073709551615 : Nat) = 2 ^ 64 - 1 from rfl, Nat.testBit_two_pow_sub_one]
  by_cases hi : i < 64
  · simp [hi]
  · have hx : x.testBit i = false := Nat.testBit_lt_two_pow (Nat.lt_of_lt_of_le h (Nat.pow_le_pow_right (by decide) (by omega)))
    simp [hi, hx]

theorem zig_pos (n : Int) (h0 : 0 ≤ n) (h1 : n ≤ 9223372036854775807) : bits .xor .u64 (n * 2) (n / 9223372036854775808) = (zig n : Nat) := by
  obtain ⟨m, rfl⟩ := Int.eq_ofNat_of_zero_le h0
  rw [show (m : Int) / 9223372036854775808 = ((0 : Nat) : Int) from by omega, show (m : Int) * 2 = ((m * 2 : Nat) : Int) from by omega, u64_xor_nat _ _ (by omega) (by decide), Nat.xor_zero]
  unfold zig; rw [if_pos h0]; omega

theorem zig_neg (n : Int) (h0 : n < 0) (h1 : -9223372036854775808 ≤ n) :
    bits .xor .u64 (IntKind.u64.wrap (IntKind.u64.wrap n * 2)) (IntKind.u64.wrap (n / 9223372036854775808)) = (zig n : Nat) := by
  have e1 : IntKind.u64.wrap (IntKind.u64.wrap n * 2) = ((2 * n + 18446744073709551616).toNat : Int) % 18446744073709551616 := by
    simp only [IntKind.wrap_u64]; omega
  have e2 : IntKind.u64.wrap (n / 9223372036854775808) = ((18446744073709551615 : Nat) : Int) := by
    simp only [IntKind.wrap_u64]; omega
  rw [e1, e2, show ((2 * n + 18446744073709551616).toNat : Int) % 18446744073709551616 = (((2 * n + 18446744073709551616).toNat % 18446744073709551616 : Nat) : Int) from by omega,
    u64_xor_nat _ _ (Nat.mod_lt _ (by decide)) (by decide), xor_ones _ (Nat.mod_lt _ (by decide))]
  unfold zig; rw [if_neg (by omega)]; omega

theorem ret_u64 {a b : Int} (h : a = b) : Ending.returned (.int .u64 a) = .returned (.int .u64 b) := by rw [h]

theorem unsigned_any (n : Int) (w : World) (h0 : -9223372036854775808 ≤ n) (h1 : n ≤ 9223372036854775807) :
    Calls Tryz.prog 71 #[.int .i64 n] w fun e w' => e = .returned (.int .u64 (zig n)) ∧ w = w' := by
  by_cases h : 0 ≤ n
  · have HZ := Seal.mk (zig_pos n h h1)
    go_enter Tryz.func71, Tryz.ntmps71
    go_wp2
    go_ret
    exact ⟨ret_u64 HZ.out, rfl⟩
  · have h' : n < 0 := by omega
    have HZ := Seal.mk (zig_neg n h' h0)
    clear h
    go_enter Tryz.func71, Tryz.ntmps71
    go_wp2
    go_ret
    exact ⟨ret_u64 HZ.out, rfl⟩

/-! ## bytes of the call's own -/
/-- v owns the bytes l, in a block from base on -/
def Own (w : World) (base : Nat) (v : Value) (l : Bytes) : Prop := w.ownsRow base 5 1 v l.length (l.map B)

/-- row r' is row r, or new since the world w -/
def RowNew (w : World) (r r' : Option Nat) : Prop := r' = r ∨ ∀ k, r' = some k → w.heap.size ≤ k

theorem grown_trans {a b c : World} {r r' : Option Nat} (h : a.grownBy b r) (h' : b.grownBy c r') (hr : RowNew a r r') : a.grownBy c r :=
  ⟨h'.os.trans h.os, h'.tape.trans h.tape, h'.output.trans h.output, Nat.le_trans h.size h'.size, fun k hk hne => (h'.block k (Nat.lt_of_lt_of_le hk h.size) (fun e => by
    rcases hr with hr | hr
    · exact hne (e.trans hr)
    · have := hr k e.symm; omega)).trans (h.block k hk hne)⟩

theorem RowNew.trans {a b : World} {r r' r'' : Option Nat} (h : RowNew a r r') (h' : RowNew b r' r'') (hs : a.heap.size ≤ b.heap.size) : RowNew a r r'' := by
  rcases h' with h' | h'
  · rw [h']; exact h
  · exact .inr (fun k e => Nat.le_trans hs (h' k e))

theorem rowNew_of {w : World} {r : Option Nat} {g h : Nat} (hh : r = some g ∨ g = h) (hs : w.heap.size ≤ h) : RowNew w r (some g) := by
  rcases hh with e | e
  · exact .inl e.symm
  · exact .inr (fun k e' => by cases e'; omega)

def OwnPost (base : Nat) (v : Value) (l : Bytes) (w : World) (e : Ending) (w' : World) : Prop :=
  ∃ g n cap, Seal (l.length = n) ∧ e = .returned (.slice (some ⟨g, 0, none⟩) n cap) ∧ Seal (Own w' base (.slice (some ⟨g, 0, none⟩) n cap) l) ∧ Seal (w.grownBy w' v.ownBlock) ∧ Seal (RowNew w v.ownBlock (some g))

theorem or_top (u : Nat) : bits .or .u8 ((u : Int) % 256) 128 = ((u % 128 + 128 : Nat) : Int) := by
  rw [show (u : Int) % 256 = ((u % 256 : Nat) : Int) from by omega, show (128 : Int) = ((128 : Nat) : Int) from rfl, u8_or_nat _ _ (by omega) (by decide)]
  have h : u % 256 ||| 128 = u % 128 + 128 := by
    have := nat_join 7 128 (u % 128) (by decide) (by omega)
    have e : u % 256 ||| 128 = 128 ||| u % 128 := by
      apply Nat.eq_of_testBit_eq
      intro i
      rw [Nat.testBit_or, Nat.testBit_or, show (256 : Nat) = 2 ^ 8 from rfl, show (128 : Nat) = 2 ^ 7 from rfl, Nat.testBit_mod_two_pow, Nat.testBit_mod_two_pow, Nat.testBit_two_pow]
      by_cases h7 : i = 7
      · subst h7; simp
      · rcases Nat.lt_or_gt_of_ne h7 with h | h
        · simp [show i < 8 by omega, h, show ¬ 7 = i by omega]
        · simp [show ¬ i < 8 by omega, show ¬ i < 7 by omega, show ¬ 7 = i by omega]
    omega
  rw [h]

theorem Own.len {w : World} {base : Nat} {v : Value} {l : Bytes} (h : Own w base v l) {n : Nat} (e : l.length = n) : w.ownsRow base 5 1 v n (l.map B) := by subst e; exact h

theorem below_own {w w' : World} {base : Nat} {v : Value} {n : Nat} {xs : List Value} {e : TypeId} {s : Nat} (h : w.ownsRow base e s v n xs) (hb : base ≤ w.heap.size) (hg : w.grownBy w' v.ownBlock) : Below base w w' :=
  ⟨hg.os, hg.tape, hg.output, hg.size, fun k hk => hg.block k (by omega) (fun e => by have := (h.lt k e.symm).1; omega)⟩

theorem Own.snoc {w : World} {base : Nat} {v : Value} {l : Bytes} {n m : Nat} {c : UInt8} (h : w.ownsRow base 5 1 v m (l.map B ++ [B c])) (hl : l.length = n) (hm : m = n + 1) : Own w base v (l ++ [c]) := by
  unfold Own; rw [List.length_append, List.length_singleton, hl, List.map_append, ← hm]; exact h

/-- where a loop over a numeral stands -/
def NumRel (base : Nat) (v0 : Value) (all : Bytes) (w0 : World) (a b : Value) (w : World) : Prop :=
  ∃ (l : Bytes) (n u f : Nat), l.length = n ∧ b = .int .u64 u ∧ Own w base a l ∧ Seal (l ++ numF (f + 1) u = all) ∧ Seal (u < 128 ^ (f + 1)) ∧ u < 18446744073709551616 ∧ n + f + 1 ≤ 140737488355328 ∧ base ≤ w.heap.size ∧ w0.grownBy w v0.ownBlock ∧ RowNew w0 v0.ownBlock a.ownBlock

theorem byte_top (u : Nat) : Value.int .u8 ((u % 128 + 128 : Nat) : Int) = B (UInt8.ofNat (u % 128 + 128)) := by
  unfold B; rw [UInt8.toNat_ofNat_of_lt' (show u % 128 + 128 < 256 by omega)]
theorem byte_low (u : Nat) (h : u < 128) : Value.int .u8 (u : Int) = B (UInt8.ofNat u) := by
  unfold B; rw [UInt8.toNat_ofNat_of_lt' (show u < 256 by omega)]

set_option maxHeartbeats 1000000 in
theorem numeral_any (base : Nat) (v : Value) (n : Nat) (l : Bytes) (u : Nat) (w : World) (hn : l.length = n) (hown : Own w base v l) (hu : u < 18446744073709551616) (hl : n + 10 ≤ 140737488355328) (hb : base ≤ w.heap.size) :
    Calls Tryz.prog 70 #[v, .int .u64 u] w (OwnPost base v (l ++ numeral u) w) := by
  obtain ⟨i0, hi, hz0, hz1, hz2⟩ := info_parts info_u8
  have HI := Seal.mk (And.intro hi (And.intro hz0 (And.intro hz1 hz2)))
  have HR : Seal (NumRel base v (l ++ numeral u) w v (.int .u64 u) w) := ⟨⟨l, n, u, 9, hn, rfl, hown, ⟨rfl⟩, ⟨Nat.lt_of_lt_of_le hu (by decide)⟩, hu, by omega, hb, grown_of_below (Below.refl _ _) _, .inl rfl⟩⟩
  generalize l ++ numeral u = all at HR
  clear hi hz0 hz1 hz2 hown hn hl hb hu
  go_enter Tryz.func70, Tryz.ntmps70
  go_wp2
  go_loopw [0, 1] (fun a b wr => NumRel base v all w a b wr) (fun _ b _ => (intOf b).toNat)
  case atStart => exact HR.out
  case round =>
    clear HR
    obtain ⟨l, n, u, f, hn, rfl, hown, hA, hF, hu, hm, hbs, hbw, hrn⟩ := hrel
    have HO := Seal.mk (hown.len hn)
    have HN := Seal.mk hn
    have HB := Seal.mk hbw
    have HRN := Seal.mk hrn
    have hor := or_top u
    have HT := Seal.mk (byte_top u)
    clear hown hn hbw hrn
    by_cases h7 : 128 ≤ u
    · obtain ⟨f, rfl⟩ : ∃ g, f = g + 1 := ⟨f - 1, by have := hF.out; cases f with
        | zero => simp at this; omega
        | succ k => omega⟩
      have HS : Seal ((l ++ [UInt8.ofNat (u % 128 + 128)]) ++ numF (f + 1) (u / 128) = all ∧ u / 128 < 128 ^ (f + 1)) := ⟨by
        have e : numF (f + 1 + 1) u = UInt8.ofNat (u % 128 + 128) :: numF (f + 1) (u / 128) := by rw [numF, if_neg (by omega)]
        rw [← hA.out, List.append_assoc, List.singleton_append, e], Nat.div_lt_of_lt_mul (by have := hF.out; rwa [Nat.pow_succ, Nat.mul_comm] at this)⟩
      clear hA hF
      go_wp2_with (at_builtin; refine wpList_append_lies _ rfl (.tmp 9) (.tmp 13) 52 rfl base 5 i0 (.int .u8 0) 1 1 Tryz.underlying52 HI.out.1 HI.out.2.1 HI.out.2.2.1 HI.out.2.2.2 rfl (by decide) u0 n (l.map B) rfl (HO.out.alloc _) ⟨wr.heap.size, 0, none⟩ 1 1 [.int .u8 ((u % 128 + 128 : Nat) : Int)] rfl rfl (World.news_of_block (heap_alloc_new wr _)) (by simp [Value.oneCell']) (by decide) (by unfold maxLen; omega) (by omega) (by simp; omega) _ rfl ?_; intro g cap w1 hown1 hgrow1 hat hlt)
      have hsz := hgrow1.size
      rw [size_alloc] at hsz
      refine ⟨⟨l ++ [UInt8.ofNat (u % 128 + 128)], n + 1, u / 128, f, by rw [List.length_append, HN.out]; rfl, by go_num, Own.snoc (by rw [← HT.out]; exact hown1) HN.out rfl, ⟨HS.out.1⟩, ⟨HS.out.2⟩, by omega, by omega, by omega,
        grown_trans (grown_trans HB.out (World.grownBy_alloc _ _ _) (.inl rfl)) hgrow1 HRN.out, HRN.out.trans (rowNew_of (w := wr) hat (by simp)) (HB.out.size)⟩, ?_⟩
      simp only [intOf]; omega
    · have hlow : (u : Int) % 256 = (u : Int) := by omega
      have HC : Seal (l ++ [UInt8.ofNat u] = all) := ⟨by have := hA.out; rwa [numF, if_pos (by omega)] at this⟩
      have HL := Seal.mk (byte_low u (by omega))
      clear hor HT hA hF
      go_wp2_with (at_builtin; refine wpList_append_lies _ rfl (.tmp 15) (.tmp 18) 52 rfl base 5 i0 (.int .u8 0) 1 1 Tryz.underlying52 HI.out.1 HI.out.2.1 HI.out.2.2.1 HI.out.2.2.2 rfl (by decide) u0 n (l.map B) rfl (HO.out.alloc _) ⟨wr.heap.size, 0, none⟩ 1 1 [.int .u8 u] rfl rfl (World.news_of_block (heap_alloc_new wr _)) (by simp [Value.oneCell']) (by decide) (by unfold maxLen; omega) (by omega) (by simp; omega) _ rfl ?_; intro g cap w1 hown1 hgrow1 hat hlt)
      go_ret
      have HQ : (l ++ [UInt8.ofNat u]).length = n + 1 := by rw [List.length_append, HN.out]; rfl
      exact ⟨g, n + 1, cap, ⟨by rw [← HC.out, HQ]⟩, rfl, ⟨by rw [← HC.out]; exact Own.snoc (by rw [← HL.out]; exact hown1) HN.out rfl⟩,
        ⟨grown_trans (grown_trans HB.out (World.grownBy_alloc _ _ _) (.inl rfl)) hgrow1 HRN.out⟩, ⟨HRN.out.trans (rowNew_of (w := wr) hat (by simp)) (HB.out.size)⟩⟩

/-- a leaf as a value -/
def Lf.cells : Lf → List Value
  | .i n => [.int .i64 1, .int .i64 n, .string ByteArray.empty, .slice none 0 0]
  | .t b => [.int .i64 2, .int .i64 0, .string ⟨b.toArray⟩, .slice none 0 0]

theorem World.grownBy_alloc2 (w : World) (o o' : Obj) (row : Option Nat) : w.grownBy ((w.alloc o).alloc o') row :=
  grown_trans (World.grownBy_alloc w o row) (World.grownBy_alloc _ o' row) (.inl rfl)

theorem grown_drew1 {a w : World} {row : Option Nat} (h : a.grownBy w row) : a.grownBy w.drew row := ⟨h.os, h.tape, h.output, h.size, h.block⟩

set_option maxHeartbeats 1000000 in
theorem write_int (base : Nat) (v : Value) (n : Nat) (l : Bytes) (x : Int) (s : ByteArray) (z : Value) (w : World) (hn : l.length = n) (hown : Own w base v l) (hl : n + 11 ≤ 140737488355328) (hb : base ≤ w.heap.size) (h0 : -9223372036854775808 ≤ x) (h1 : x ≤ 9223372036854775807) :
    Calls Tryz.prog 69 #[v, .agg #[.int .i64 1, .int .i64 x, .string s, z]] w (OwnPost base v (l ++ (Lf.i x).enc) w) := by
  obtain ⟨i0, hi, hz0, hz1, hz2⟩ := info_parts info_u8
  have HI := Seal.mk (And.intro hi (And.intro hz0 (And.intro hz1 hz2)))
  have HO := Seal.mk (hown.len hn)
  have hvb : v.ownBlock ≠ some w.heap.size := fun e => by have := (HO.out.lt _ e).2; omega
  have HN := Seal.mk hn
  have HN1 : Seal ((l ++ [(1 : UInt8)]).length = n + 1) := ⟨by rw [List.length_append, hn]; rfl⟩
  have HE : Seal (l ++ (Lf.i x).enc = (l ++ [(1 : UInt8)]) ++ numeral (zig x)) := ⟨by rw [List.append_assoc]; rfl⟩
  clear hn hi hz0 hz1 hz2 hown
  go_enter Tryz.func69, Tryz.ntmps69
  go_wp2_with fail
  go_region_held3 (fun w' => w'.cell? ⟨w.heap.size, 1, none⟩ = some (.int .i64 x)) (first | go_keep | (rw [hgrow2.out.cell_far _ (by have := hgrow1.size; simp at this; simp; omega) (by intro e; rcases hat with h | h; exact hvb (h.trans e.symm); have := Option.some.inj e; simp at h this; omega)]; assumption) | (rw [hgrow1.cell_far _ (by simp; omega) (Ne.symm hvb)]; simp; done)) (first
    | (refine step_append_lies _ (by rfl) (.tmp 5) (.tmp 6) 52 (by rfl) base 5 i0 (.int .u8 0) 1 1 Tryz.underlying52 HI.out.1 HI.out.2.1 HI.out.2.2.1 HI.out.2.2.2 rfl (by decide) v n (l.map B) (by rfl) (by exact (HO.out.alloc _).alloc _)
        ⟨w.heap.size + 1, 0, none⟩ 1 1 [.int .u8 1] (by rfl) (by rfl) (World.news_of_block (cs := #[.int .u8 1]) (t := 5) (fr := (0, 0)) (by exact heap_alloc2_new w _ _)) (by simp [Value.oneCell']) (by decide) (by unfold maxLen; omega) (by omega) (by simp; omega) _ (by rfl) ?_; intro g cap w1 hown1 hgrow1 hat hlt)
    | (go_at_call 71; refine (unsigned_any x _ h0 h1).mono ?_; rintro e w' ⟨rfl, rfl⟩)
    | (go_at_call 70; refine (numeral_any base _ (n + 1) (l ++ [1]) (zig x) w1 HN1.out (Own.snoc (c := 1) (by exact hown1) HN.out rfl) (zig_lt ⟨h0, h1⟩) (by omega) (by have := hgrow1.size; simp at this; omega)).mono ?_; rintro e w2 ⟨g2, n2, cap2, hn2, rfl, hown2, hgrow2, hrn2⟩))
  go_wp2
  go_ret
  exact ⟨g2, n2, cap2, ⟨by rw [HE.out]; exact hn2.out⟩, rfl, ⟨by rw [HE.out]; exact hown2.out⟩, ⟨grown_trans (grown_trans (grown_drew1 (World.grownBy_alloc2 w _ _ _)) hgrow1 (.inl rfl)) hgrow2.out (rowNew_of hat (by simp; omega))⟩, ⟨(rowNew_of (w := w) hat (by simp; omega)).trans hrn2.out (by have := hgrow1.size; simp at this; omega)⟩⟩

theorem strCells_eq (s : ByteArray) : Lib.strCells s = s.data.toList.map B := rfl

/-- append(b, s...) where b is a slice of the call's own -/
theorem run_append_str (w : World) (base g n cap : Nat) (xs : List Value) (hown : w.ownsRow base 5 1 (.slice (some ⟨g, 0, none⟩) n cap) n xs) (s : ByteArray) (h : n + s.size ≤ 140737488355328) (hbase : base ≤ w.heap.size) (ty : TypeId) :
    ∃ g' cap' w', (Builtin.append_ #[52, 9] ty #[.slice (some ⟨g, 0, none⟩) n cap, .string s]).run Tryz.prog w = .ok (.slice (some ⟨g', 0, none⟩) (n + s.size) cap') w' ∧
      w'.ownsRow base 5 1 (.slice (some ⟨g', 0, none⟩) (n + s.size) cap') (n + s.size) (xs ++ s.data.toList.map B) ∧ w.grownBy w' (some g) ∧ (some g = some g' ∨ g' = w.heap.size) := by
  obtain ⟨i0, hi, hz0, hz1, hz2⟩ := info_parts info_u8
  obtain ⟨v', w', hr, h2, h3, h4⟩ := Lib.run_append_own_string (P := Tryz.prog) w base 52 9 ty 5 i0 Tryz.underlying52 Tryz.underlying9 hi hz0 hz1 hz2 _ n xs hown s (by unfold maxLen; omega) h hbase
  rw [strCells_eq] at h2
  have hx := hown.1
  rcases hown.2 with ⟨e, _⟩ | ⟨g1, cap1, cur, hv, hbg, hg, hnc, hcm, hcs, htake⟩
  · cases e
  · cases hv
    by_cases hroom : n + s.size ≤ cap
    · have hr2 := Lib.run_append_room_string (P := Tryz.prog) w 52 9 ty 5 i0 Tryz.underlying52 Tryz.underlying9 hi hz1 g n cap cur hg s hroom (by omega)
      rw [hr] at hr2
      cases hr2
      exact ⟨g, cap, _, hr, h2, h3, .inl rfl⟩
    · have holds : ∀ j u, xs[j]? = some u → w.cell? ((⟨g, 0, none⟩ : Addr).add j) = some u := hown.cells (g := g) rfl
      have hr2 := Lib.run_append_grow_string (P := Tryz.prog) w 52 9 ty 5 i0 (.int .u8 0) Tryz.underlying52 Tryz.underlying9 hi hz0 ⟨g, 0, none⟩ n cap xs (by rw [hz1]; simpa using hx) holds s (by omega) (by omega) (by rw [hz2]; exact growslice_fits (by omega) (by omega))
      rw [hr] at hr2
      cases hr2
      exact ⟨_, _, _, hr, h2, h3, .inr rfl⟩

theorem row_far {w : World} {r r' : Option Nat} {k : Nat} (h : RowNew w r r') (hk : k < w.heap.size) (hne : some k ≠ r) : some k ≠ r' := by
  intro e
  rcases h with h | h
  · exact hne (e.trans h)
  · have := h k e.symm; omega

theorem numF_length : ∀ f u, (numF f u).length ≤ f
  | 0, _ => Nat.le_refl _
  | f + 1, u => by
    unfold numF
    split
    · simp
    · have := numF_length f (u / 128)
      simp; omega

theorem num_len {l : Bytes} {u n n2 : Nat} (h : l.length = n + 1) (h2 : (l ++ numeral u).length = n2) : n2 ≤ n + 11 := by
  have := numF_length 10 u
  rw [List.length_append, h] at h2
  unfold numeral at h2
  omega

theorem step_append_run {P : Program} {w w' : World} {ops : Array Oper} {o : Oper} {a : Act} {K : Act → World → Prop} {Q : Exit → Act → World → Prop} {E : Prop} (hgd : o.guard = none) (s x : Operand) (tys : Array TypeId)
    (ho : o.op = .call { callee := .builtin .append, args := #[s, x], argTypes := tys }) (sv xv v : Value) (hs : a.eval s = sv) (hx : a.eval x = xv)
    (hr : (Builtin.append_ tys o.type #[sv, xv]).run P w = .ok v w') (h : K (a.put o.dst v) w') :
    if Region.wanted o (yielded ops a.tmps) = true then Oper.wp P o a w K Q else E := by
  have hw : Region.wanted o (yielded ops a.tmps) = true := by simp [Region.wanted, hgd]
  rw [if_pos hw]
  unfold Oper.wp
  simp [execOp, ho, resolve, invoke, builtin, hs, hx, hr, Result.andThen]
  exact h

set_option maxHeartbeats 1000000 in
theorem write_text (base : Nat) (v : Value) (n : Nat) (l : Bytes) (x : Int) (s : ByteArray) (m : Nat) (z : Value) (w : World) (hn : l.length = n) (hm : s.size = m) (hown : Own w base v l) (hl : n + m + 11 ≤ 140737488355328) (hb : base ≤ w.heap.size) :
    Calls Tryz.prog 72 #[v, .agg #[.int .i64 2, .int .i64 x, .string s, z]] w (OwnPost base v (l ++ (Lf.t s.data.toList).enc) w) := by
  obtain ⟨i0, hi, hz0, hz1, hz2⟩ := info_parts info_u8
  have HI := Seal.mk (And.intro hi (And.intro hz0 (And.intro hz1 hz2)))
  have HO := Seal.mk (hown.len hn)
  have hvb : v.ownBlock ≠ some w.heap.size := fun e => by have := (HO.out.lt _ e).2; omega
  have HN := Seal.mk hn
  have HM := Seal.mk hm
  have hm9 : (m : Int) ≤ 9223372036854775807 := by omega
  have hwr : IntKind.u64.wrap (m : Int) = (m : Int) := by rw [IntKind.wrap_u64]; omega
  have HN1 : Seal ((l ++ [(2 : UInt8)]).length = n + 1) := ⟨by rw [List.length_append, hn]; rfl⟩
  have HE : Seal (l ++ (Lf.t s.data.toList).enc = ((l ++ [(2 : UInt8)]) ++ numeral m) ++ s.data.toList) := ⟨by
    have e : s.data.toList.length = m := by rw [← hm]; rfl
    rw [Lf.enc, e]; simp⟩
  clear hn hi hz0 hz1 hz2 hown
  go_enter Tryz.func72, Tryz.ntmps72
  go_wp2_with fail
  go_region_held3 (fun w' => w'.cell? ⟨w.heap.size, 2, none⟩ = some (.string s)) (first | go_keep | (rw [HG3.out.cell_far _ hlt2 hne2]; assumption) | (rw [hgrow2.out.cell_far _ (by have := hgrow1.size; simp at this; simp; omega) (by intro e; rcases hat with h | h; exact hvb (h.trans e.symm); have := Option.some.inj e; simp at h this; omega)]; assumption) | (rw [hgrow1.cell_far _ (by simp; omega) (Ne.symm hvb)]; simp; done)) (first
    | (refine step_append_lies _ (by rfl) (.tmp 5) (.tmp 6) 52 (by rfl) base 5 i0 (.int .u8 0) 1 1 Tryz.underlying52 HI.out.1 HI.out.2.1 HI.out.2.2.1 HI.out.2.2.2 rfl (by decide) v n (l.map B) (by rfl) (by exact (HO.out.alloc _).alloc _)
        ⟨w.heap.size + 1, 0, none⟩ 1 1 [.int .u8 2] (by rfl) (by rfl) (World.news_of_block (cs := #[.int .u8 2]) (t := 5) (fr := (0, 0)) (by exact heap_alloc2_new w _ _)) (by simp [Value.oneCell']) (by decide) (by unfold maxLen; omega) (by omega) (by simp; omega) _ (by rfl) ?_; intro g cap w1 hown1 hgrow1 hat hlt)
    | (go_at_call 70; refine (numeral_any base _ (n + 1) (l ++ [2]) m w1 HN1.out (Own.snoc (c := 2) (by exact hown1) HN.out rfl) (by omega) (by omega) (by have := hgrow1.size; simp at this; omega)).mono ?_; rintro e w2 ⟨g2, n2, cap2, hn2, rfl, hown2, hgrow2, hrn2⟩
       have hle := num_len HN1.out hn2.out
       have hlt2 : w.heap.size < w2.heap.size := by have := hgrow1.size; have := hgrow2.out.size; simp at *; omega
       have hne2 : some w.heap.size ≠ some g2 := row_far hrn2.out (by have := hgrow1.size; simp at this; omega) (by intro e; rcases hat with h | h; exact hvb (h.trans (by rw [Option.some.inj e])); have := Option.some.inj e; simp at h this; omega)
       obtain ⟨g3, cap3, w3, hr3, hown3, hgrow3, hat3⟩ := run_append_str w2 base g2 n2 cap2 _ (hown2.out.len hn2.out) s (by rw [HM.out]; omega) (by have := hgrow1.size; have := hgrow2.out.size; simp at *; omega) 52
       have HG3 := Seal.mk hgrow3
       have HA3 := Seal.mk hat3
       have HO3 := Seal.mk hown3
       clear hgrow3 hat3 hown3)
    | (refine step_append_run (by rfl) (.tmp 12) (.tmp 14) #[52, 9] (by rfl) _ _ _ (by rfl) (by rfl) hr3 ?_))
  go_wp2
  go_ret
  have h12 : RowNew w v.ownBlock (some g2) := (rowNew_of (w := w) hat (by simp; omega)).trans hrn2.out (by have := hgrow1.size; simp at this; omega)
  have hs2 : w.heap.size ≤ w2.heap.size := Nat.le_of_lt hlt2
  refine ⟨g3, n2 + m, cap3, ⟨?_⟩, rfl, ⟨?_⟩, ⟨grown_trans (grown_trans (grown_trans (grown_drew1 (World.grownBy_alloc2 w _ _ _)) hgrow1 (.inl rfl)) hgrow2.out (rowNew_of hat (by simp; omega))) HG3.out h12⟩, ⟨h12.trans (rowNew_of (w := w2) HA3.out (Nat.le_refl _)) hs2⟩⟩
  · rw [HE.out, List.length_append, hn2.out, ← HM.out]; rfl
  · have h3 := HO3.out
    rw [HM.out, ← List.map_append, ← HE.out] at h3
    have e : (l ++ (Lf.t s.data.toList).enc).length = n2 + m := by rw [HE.out, List.length_append, hn2.out, ← HM.out]; rfl
    unfold Own
    rw [e]
    exact h3
end Frk
