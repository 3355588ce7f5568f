/- The reference's SHA-256: ror, word, numbers. -/
import Derived.Test.YtllbjakfjpjfnaaGreatDoorVxAbs
import Derived.Test.YtllbjakfjpjfnaaGreatDoorVxgCod
namespace Frk
open Go Go.RowKit Go.Proofs
set_option maxRecDepth 100000

theorem rror_any (v : Nat) (k : Nat) (h1 : 1 ≤ k) (h2 : k ≤ 31) (hv : v < 4294967296) (w : World) :
   Calls Tryz.prog 109 #[.int .u32 v, .int .i64 k] w fun e w' => e = .returned (.int .u32 (rotr v k : Nat)) ∧ ∃ n, w' = w.drewN n := by
  have e5 : (32 - (k : Int)).toNat = 32 - k := by omega
  have e6 : ¬ (32 - (k : Int) < 0) := by omega
  have e3 : 0 ≤ (32 - (k : Int)) := by omega
  have HS := Seal.mk (rot_bits v k hv)
  go_enter Tryz.func109, Tryz.ntmps109
  go_wp2
  go_quiet (fail)
  go_wp2
  go_ret
  exact ⟨ret_u32 HS.out, nq, rfl⟩

theorem join4 (a b c d : Nat) (ha : a < 256) (hb : b < 256) (hc : c < 256) (hd : d < 256) :
    bits .or .u32 (bits .or .u32 (bits .or .u32 ((a : Int) * 16777216) ((b : Int) * 65536)) ((c : Int) * 256)) (d : Int) = (((a * 256 + b) * 256 + c) * 256 + d : Nat) := by
  have e1 : (a : Int) * 16777216 = ((a * 16777216 : Nat) : Int) := by omega
  have e2 : (b : Int) * 65536 = ((b * 65536 : Nat) : Int) := by omega
  have e3 : (c : Int) * 256 = ((c * 256 : Nat) : Int) := by omega
  rw [e1, e2, e3, u32_or_nat _ _ (by omega) (by omega), nat_join 24 (a * 16777216) (b * 65536) (by omega) (by omega),
    u32_or_nat _ _ (by omega) (by omega), nat_join 16 (a * 16777216 + b * 65536) (c * 256) (by omega) (by omega),
    u32_or_nat _ _ (by omega) (by omega), nat_join 8 _ d (by omega) (by omega)]
  omega

theorem rword_any (g off len cap : Nat) (l : Bytes) (w : World) (h4 : 4 ≤ l.length) (hl4 : 4 ≤ len) (hr : w.rangeAt g off (l.map B)) :
   Calls Tryz.prog 108 #[.slice (some ⟨g, off, none⟩) len cap] w fun e w' => e = .returned (.int .u32 (word4 l : Nat)) ∧ ∃ n, w' = w.drewN n := by
  have c0 := cellB hr (i := 0) (by omega)
  have c1 := cellB hr (i := 1) (by omega)
  have c2 := cellB hr (i := 2) (by omega)
  have c3 := cellB hr (i := 3) (by omega)
  have b0 := UInt8.toNat_lt (l.getD 0 0)
  have b1 := UInt8.toNat_lt (l.getD 1 0)
  have b2 := UInt8.toNat_lt (l.getD 2 0)
  have b3 := UInt8.toNat_lt (l.getD 3 0)
  have HS := Seal.mk (join4 _ _ _ _ b0 b1 b2 b3)
  have HW : Seal (word4 l = (((l.getD 0 0).toNat * 256 + (l.getD 1 0).toNat) * 256 + (l.getD 2 0).toNat) * 256 + (l.getD 3 0).toNat) := ⟨rfl⟩
  have l0 : (0 : Int) < len := by omega
  have l1 : (1 : Int) < len := by omega
  have l2 : (2 : Int) < len := by omega
  have l3 : (3 : Int) < len := by omega
  generalize (l.getD 0 0).toNat = x0 at *
  generalize (l.getD 1 0).toNat = x1 at *
  generalize (l.getD 2 0).toNat = x2 at *
  generalize (l.getD 3 0).toNat = x3 at *
  have c0' : w.cell? ⟨g, off, none⟩ = some (.int .u8 x0) := c0
  clear hr h4
  go_enter Tryz.func108, Tryz.ntmps108
  go_wp2
  go_quiet (fail)
  go_wp2
  go_ret
  exact ⟨ret_u32 (by rw [HS.out, HW.out]), nq, rfl⟩

set_option maxHeartbeats 2000000 in
theorem rnumbers_any (w : World) : Calls Tryz.prog 110 #[] w fun e w' => e = .returned (.agg (Kt.map W).toArray) ∧ Below w.heap.size w w' := by
  go_enter Tryz.func110, Tryz.ntmps110
  have hi : Seal ((Tryz.prog.info? 140).map (·.size) = some (Kt.map W).length) := ⟨by rw [List.length_map]; kernel_rfl⟩
  have hl : Seal ((List.replicate 64 (Value.int .u32 0)).length = (Kt.map W).length) := ⟨by rw [List.length_map, List.length_replicate]; rfl⟩
  have h1 : Seal (∀ u ∈ Kt.map W, u.oneCell' = true) := ⟨by simp [Value.oneCell']⟩
  go_wp2_with (refine wpList_store_new rfl 140 (.tmp 0) (.tmp 1) rfl (List.replicate 64 (Value.int .u32 0)) (Kt.map W) 140 rfl rfl hi.out hl.out h1.out ?_)
  have hi' : Seal ((Tryz.prog.info? 140).map (·.size) = some (Kt.map W).toArray.size) := ⟨by rw [List.size_toArray]; exact hi.out⟩
  refine bodyPost_ret (results_cell_row (fn := Tryz.f110) rfl _ _ w.heap.size 140 (Kt.map W).toArray (0, 0) _ rfl (heap_alloc_new w _) Tryz.underlying140 rfl hi'.out) rfl ⟨?_, below_alloc w _⟩
  rfl

theorem ch_ref (e f g : Nat) (he : e < 4294967296) (hg : g < 4294967296) : (e &&& f) ^^^ ((4294967295 - e) &&& g) = g ^^^ (e &&& (f ^^^ g)) := by
  apply Nat.eq_of_testBit_eq
  intro i
  have h : (4294967295 - e).testBit i = (decide (i < 32) && !e.testBit i) := by
    have := Nat.testBit_two_pow_sub_succ (x := e) (n := 32) he i
    rwa [show 2 ^ 32 - (e + 1) = 4294967295 - e from by omega] at this
  rw [Nat.testBit_xor, Nat.testBit_and, Nat.testBit_and, Nat.testBit_xor, Nat.testBit_and, Nat.testBit_xor, h]
  by_cases hi : i < 32
  · rw [decide_eq_true hi]
    cases e.testBit i <;> cases f.testBit i <;> cases g.testBit i <;> rfl
  · have h2 : g.testBit i = false := Nat.testBit_lt_two_pow (Nat.lt_of_lt_of_le (show g < 2 ^ 32 from hg) (Nat.pow_le_pow_right (by decide) (by omega)))
    rw [decide_eq_false hi, h2]
    cases e.testBit i <;> cases f.testBit i <;> rfl

theorem maj_ref (a b c : Nat) : ((a &&& b) ^^^ (a &&& c)) ^^^ (b &&& c) = (a &&& b) ||| (c &&& (a ||| b)) := by
  apply Nat.eq_of_testBit_eq
  intro i
  simp only [Nat.testBit_xor, Nat.testBit_and, Nat.testBit_or]
  cases a.testBit i <;> cases b.testBit i <;> cases c.testBit i <;> rfl

theorem rch_val (e f g : Nat) (he : e < 4294967296) (hf : f < 4294967296) (hg : g < 4294967296) :
    bits .xor .u32 (bits .and .u32 (e : Int) (f : Int)) (bits .and .u32 (4294967295 - (e : Int)) (g : Int)) = ((g ^^^ (e &&& (f ^^^ g)) : Nat) : Int) := by
  have h1 : e &&& f < 4294967296 := Nat.and_lt_two_pow (n := 32) _ hf
  have h2 : (4294967295 - e) &&& g < 4294967296 := Nat.and_lt_two_pow (n := 32) _ hg
  rw [show (4294967295 : Int) - (e : Int) = ((4294967295 - e : Nat) : Int) from by omega, u32_and_nat _ _ he hf, u32_and_nat _ _ (by omega) hg, u32_xor_nat _ _ h1 h2, ch_ref e f g he hg]

theorem rmaj_val (a b c : Nat) (ha : a < 4294967296) (hb : b < 4294967296) (hc : c < 4294967296) :
    bits .xor .u32 (bits .xor .u32 (bits .and .u32 (a : Int) (b : Int)) (bits .and .u32 (a : Int) (c : Int))) (bits .and .u32 (b : Int) (c : Int)) = (((a &&& b) ||| (c &&& (a ||| b)) : Nat) : Int) := by
  have h1 : a &&& b < 4294967296 := Nat.and_lt_two_pow (n := 32) _ hb
  have h2 : a &&& c < 4294967296 := Nat.and_lt_two_pow (n := 32) _ hc
  have h3 : b &&& c < 4294967296 := Nat.and_lt_two_pow (n := 32) _ hc
  rw [u32_and_nat _ _ ha hb, u32_and_nat _ _ ha hc, u32_and_nat _ _ hb hc, u32_xor_nat _ _ h1 h2, u32_xor_nat _ _ (Nat.xor_lt_two_pow (n := 32) h1 h2) h3, maj_ref]

theorem rror_int (v : Nat) (j : Int) (h1 : 1 ≤ j) (h2 : j ≤ 31) (hv : v < 4294967296) (w : World) :
   Calls Tryz.prog 109 #[.int .u32 v, .int .i64 j] w fun e w' => e = .returned (.int .u32 (rotr v j.toNat : Nat)) ∧ ∃ n, w' = w.drewN n := by
  have := rror_any v j.toNat (by omega) (by omega) hv w
  rwa [show ((j.toNat : Nat) : Int) = j from by omega] at this

theorem xor_ones32 (x : Nat) (h : x < 4294967296) : 4294967295 ^^^ x = 4294967295 - x := by
  have e : 4294967295 - x = 2 ^ 32 - (x + 1) := by omega
  rw [e]
  apply Nat.eq_of_testBit_eq
  intro i
  rw [Nat.testBit_xor, Nat.testBit_two_pow_sub_succ (show x < 2 ^ 32 from h), show (4294967295 : Nat) = 2 ^ 32 - 1 from rfl, Nat.testBit_two_pow_sub_one]
  by_cases hi : i < 32
  · simp [hi]
  · have hx : x.testBit i = false := Nat.testBit_lt_two_pow (Nat.lt_of_lt_of_le h (Nat.pow_le_pow_right (n := 2) (by decide) (show 32 ≤ i by omega)))
    simp [hi, hx]

theorem rnot_val (e : Nat) (he : e < 4294967296) : bits .xor .u32 (if IntKind.u32.signed = true then -1 else IntKind.u32.max) (e : Int) = 4294967295 - (e : Int) := by
  rw [show (if IntKind.u32.signed = true then (-1 : Int) else IntKind.u32.max) = ((4294967295 : Nat) : Int) from rfl, u32_xor_nat _ _ (by decide) he, xor_ones32 e he]
  omega

theorem rp_val (v : St) (h : v.ok) (xk xw : Nat) :
    (((v.h : Int) + bits .xor .u32 (bits .xor .u32 ((rotr v.e 6 : Nat) : Int) ((rotr v.e 11 : Nat) : Int)) ((rotr v.e 25 : Nat) : Int) +
      bits .xor .u32 (bits .and .u32 (v.e : Int) (v.f : Int)) (bits .and .u32 (bits .xor .u32 (if IntKind.u32.signed = true then -1 else IntKind.u32.max) (v.e : Int)) (v.g : Int)) + (xk : Int) + (xw : Int)) % 4294967296) =
      ((add32 (add32 (add32 (add32 v.h (S1 v.e)) (v.g ^^^ (v.e &&& (v.f ^^^ v.g)))) xk) xw : Nat) : Int) := by
  rw [rnot_val _ h.e, rch_val _ _ _ h.e h.f h.g, xor3 _ _ _ (rotr_lt _ _ h.e) (rotr_lt _ _ h.e) (rotr_lt _ _ h.e), ← S1_val]
  unfold add32
  omega

theorem rq_val (v : St) (h : v.ok) :
    ((bits .xor .u32 (bits .xor .u32 ((rotr v.a 2 : Nat) : Int) ((rotr v.a 13 : Nat) : Int)) ((rotr v.a 22 : Nat) : Int) +
      bits .xor .u32 (bits .xor .u32 (bits .and .u32 (v.a : Int) (v.b : Int)) (bits .and .u32 (v.a : Int) (v.c : Int))) (bits .and .u32 (v.b : Int) (v.c : Int))) % 4294967296) =
      ((add32 (S0 v.a) ((v.a &&& v.b) ||| (v.c &&& (v.a ||| v.b))) : Nat) : Int) := by
  rw [rmaj_val _ _ _ h.a h.b h.c, xor3 _ _ _ (rotr_lt _ _ h.a) (rotr_lt _ _ h.a) (rotr_lt _ _ h.a), ← S0_val]
  unfold add32
  omega

/-- in a world that has drawn already -/
theorem rror_drew (v : Nat) (j : Int) (k : Nat) (hj : j = k) (h1 : 1 ≤ k) (h2 : k ≤ 31) (w : World) (a : Nat) (hv : v < 4294967296) :
   Calls Tryz.prog 109 #[.int .u32 v, .int .i64 j] (w.drewN a) fun e w' => e = .returned (.int .u32 (rotr v k : Nat)) ∧ ∃ n, w' = w.drewN n := by
  subst hj
  exact (rror_any v k h1 h2 hv (w.drewN a)).mono fun e w' ⟨h, n, hn⟩ => ⟨h, a + n, by rw [hn, World.drewN_drewN]⟩

theorem rror_quiet (v : Nat) (j : Int) (k : Nat) (hj : j = k) (h1 : 1 ≤ k) (h2 : k ≤ 31) (w : World) (a b : Nat) (hv : v < 4294967296) :
   Calls Tryz.prog 109 #[.int .u32 v, .int .i64 j] (w.drewN (a + b)) fun e w' => e = .returned (.int .u32 (rotr v k : Nat)) ∧ ∃ n, w' = w.drewN (a + n) := by
  subst hj
  exact (rror_any v k h1 h2 hv (w.drewN (a + b))).mono fun e w' ⟨h, n, hn⟩ => ⟨h, b + n, by rw [hn, World.drewN_drewN, Nat.add_assoc]⟩

set_option maxHeartbeats 4000000 in
theorem rblock_any (g off len cap : Nat) (st : St) (l : Bytes) (w : World) (h64 : 64 ≤ len) (hlc : len ≤ cap) (hm : cap ≤ 9223372036854775807)
    (hl : 64 ≤ l.length) (hr : w.rangeAt g off (l.map B)) (hok : st.ok) :
   Calls Tryz.prog 102 #[.agg #[.int .u32 st.a, .int .u32 st.b, .int .u32 st.c, .int .u32 st.d, .int .u32 st.e, .int .u32 st.f, .int .u32 st.g, .int .u32 st.h], .slice (some ⟨g, off, none⟩) len cap] w fun e w' => e = .returned (.agg (stL (block st l)).toArray) ∧ Below w.heap.size w w' := by
  have hgl : g < w.heap.size := rangeAt_lt hr (by simp; omega)
  obtain ⟨X, hX⟩ : ∃ X : World, Seal (X = (w.alloc (.cells #[.int .u32 st.a, .int .u32 st.b, .int .u32 st.c, .int .u32 st.d, .int .u32 st.e, .int .u32 st.f, .int .u32 st.g, .int .u32 st.h] 126)).alloc (.cells #[.int .u32 0, .int .u32 0, .int .u32 0, .int .u32 0, .int .u32 0, .int .u32 0, .int .u32 0, .int .u32 0] 126)) := ⟨_, ⟨rfl⟩⟩
  have hsz : X.heap.size = w.heap.size + 2 := by rw [hX.out, size_alloc, size_alloc]
  have hXr : X.rangeAt g off (l.map B) := by rw [hX.out]; exact World.rangeAt_alloc (World.rangeAt_alloc hr _) _
  have HSZ := Seal.mk hsz
  have HXR := Seal.mk hXr
  clear hr hsz hXr
  go_enter Tryz.func102, Tryz.ntmps102
  have hi : Seal ((Tryz.prog.info? 140).map (·.size) = some (fillW []).length) := ⟨by rw [fillW_length _ (by decide)]; kernel_rfl⟩
  have hl0 : Seal ((List.replicate 64 (Value.int .u32 0)).length = (fillW []).length) := ⟨by rw [fillW_length _ (by decide), List.length_replicate]⟩
  have h1 : Seal (∀ u ∈ fillW [], u.oneCell' = true) := ⟨by simp [fillW, Value.oneCell']⟩
  go_wp2_with (refine wpList_store_new rfl 140 (.tmp 5) (.tmp 22) rfl (List.replicate 64 (Value.int .u32 0)) (fillW []) 140 (by show Value.pointer (some ⟨w.heap.size + 1 + 1, 0, none⟩) = _; rw [size_alloc, size_alloc]) rfl hi.out hl0.out h1.out ?_)
  rw [show w.heap.size + 1 + 1 = X.heap.size from HSZ.out.symm]
  go_loopw [6] (fun i wr => ∃ k d : Nat, k ≤ 16 ∧ i = .int .i64 k ∧ wr = (X.alloc (.cells (fillW (words l k)).toArray 140)).drewN d) (fun i _ => 16 - (intOf i).toNat)
  case atStart => exact ⟨0, 0, by omega, rfl, by rw [hX.out]; rfl⟩
  case round =>
    obtain ⟨k, d, hk, rfl, rfl⟩ := hrel
    by_cases hlt : k < 16
    · have hr' := World.rangeAt_alloc (rangeAt_drop HXR.out (4 * k)) (.cells (fillW (words l k)).toArray 140)
      have HR' := Seal.mk hr'
      have hat := fillW_at (words l k) (by rw [words_length]; omega) k (by omega)
      have HS := Seal.mk (fillW_words l k hlt)
      clear hr'
      go_wp2_with (go_at_call 108; refine (rword_any g (off + 4 * k) _ _ (l.drop (4 * k)) _ (by simp; omega) (by omega) (by simpa using rangeAt_drewN HR'.out)).mono ?_; rintro e w' ⟨rfl, n, rfl⟩)
      go_roundw
      case rel => exact ⟨k + 1, _, by omega, by go_num, by rw [setCell_new, HS.out]⟩
      case measure => simp [intOf]; omega
    · obtain rfl : k = 16 := by omega
      clear hk hlt
      rw [show ((16 : Nat) : Int) = 16 from rfl]
      go_wp2
      go_loopw [7] (fun i wr => ∃ k d : Nat, k ≤ 48 ∧ i = .int .i64 (k + 16 : Nat) ∧ wr = (X.alloc (.cells (fillW (sched (words l 16) k)).toArray 140)).drewN d) (fun i _ => 64 - (intOf i).toNat)
      case atStart => exact ⟨0, d, by omega, rfl, rfl⟩
      case round =>
        obtain ⟨k, d, hk, rfl, rfl⟩ := hrel
        by_cases hlt : k < 48
        · have hlen : (sched (words l 16) k).length = 16 + k := by rw [sched_length, words_length]
          obtain ⟨x2, h2, a2, l2⟩ := fillW_get (sched (words l 16) k) (by omega) (k + 14) (by omega) (sched_lt l k)
          obtain ⟨x15, h15, a15, l15⟩ := fillW_get (sched (words l 16) k) (by omega) (k + 1) (by omega) (sched_lt l k)
          obtain ⟨x7, h7, a7, l7⟩ := fillW_get (sched (words l 16) k) (by omega) (k + 9) (by omega) (sched_lt l k)
          obtain ⟨x16, h16, a16, l16⟩ := fillW_get (sched (words l 16) k) (by omega) k (by omega) (sched_lt l k)
          have at_ := fillW_at (sched (words l 16) k) (by omega) (k + 16) (by omega)
          have HV := Seal.mk (nextW_val _ k hlen x16 x15 x7 x2 h16.out h15.out h7.out h2.out l15 l2)
          have HF := Seal.mk (fillW_next _ k hlen hlt)
          clear hlen h16 h15 h7 h2 l7 l16
          go_wp2
          have w0 : IntKind.i64.wrap (k : Int) = k := IntWalk.i64_in _ (by omega)
          have w9 : IntKind.i64.wrap ((k : Int) + 16 - 7) = k + 9 := (IntWalk.i64_in _ (by omega)).trans (by omega)
          have k1 : (k : Int) < 64 := by omega
          have k9 : (k : Int) + 9 < 64 := by omega
          have k8 : 0 ≤ (k : Int) + 9 := by omega
          have t9 : ((k : Int) + 9).toNat = k + 9 := by omega
          have t16 : ((k : Int) + 16).toNat = k + 16 := by omega
          have k17 : 0 ≤ (k : Int) + 16 := by omega
          have q16 := fun v d => cell_new_other X _ 140 (k + 16) k d v _ (by omega) a16
          have q7 := fun v d => cell_new_other X _ 140 (k + 16) (k + 9) d v _ (by omega) a7
          go_region_held3 (fun w' => w'.cell? ⟨X.heap.size, k, none⟩ = some (.int .u32 x16) ∧ w'.cell? ⟨X.heap.size, k + 9, none⟩ = some (.int .u32 x7)) (go_keep)
            (first | (go_at_call 109; ((with_reducible refine (rror_int _ _ (by decide) (by decide) (by assumption) _).mono ?_)); rintro e w' ⟨rfl, n, rfl⟩))
          clear q16 q7 w0 w9 k1 k9 k8 t9 t16 k17 a2 a15 a7 a16 at_ l15 l2
          go_wp2
          go_roundw
          case rel => exact ⟨k + 1, _, by omega, by go_num, by rw [setCell_new, HV.out, HF.out]; rfl⟩
          case measure => simp [intOf]; omega
        · obtain rfl : k = 48 := by omega
          have hws := sched_length (words l 16) 48
          rw [words_length] at hws
          have HW := Seal.mk hws
          clear hk hlt hws
          rw [show ((48 + 16 : Nat) : Int) = 64 from rfl]
          have HA : Seal (∀ i, (sched (words l 16) 48).getD i 0 < 4294967296) := ⟨sched_lt l 48⟩
          have HBL : Seal (st.plus (rounds st Kt (sched (words l 16) 48)) = block st l) := ⟨rfl⟩
          generalize sched (words l 16) 48 = ws at *
          have hKi : Seal ((Tryz.prog.info? 140).map (·.size) = some (Kt.map W).length) := ⟨by rw [List.length_map]; kernel_rfl⟩
          have hKl : Seal ((List.replicate 64 (Value.int .u32 0)).length = (Kt.map W).length) := ⟨by rw [List.length_map, List.length_replicate]; rfl⟩
          have hK1 : Seal (∀ u ∈ Kt.map W, u.oneCell' = true) := ⟨by simp [Value.oneCell']⟩
          obtain ⟨K, hK⟩ : ∃ K, Seal (K = Kt.map W) := ⟨_, ⟨rfl⟩⟩
          have HN : Seal (∀ w, Calls Tryz.prog 110 #[] w fun e w' => e = .returned (.agg K.toArray) ∧ Below w.heap.size w w') := ⟨by intro w; rw [hK.out]; exact rnumbers_any w⟩
          rw [← hK.out] at hKi hKl hK1
          go_wp2_with fail
          refine (HN.out _).mono ?_
          rintro e w1 ⟨rfl, hb1⟩
          have HB1 := Seal.mk hb1
          clear hb1
          go_wp2_with (refine wpList_store_new rfl 140 (.tmp 10) (.tmp 78) rfl (List.replicate 64 (Value.int .u32 0)) K 140 rfl rfl hKi.out hKl.out hK1.out ?_)
          have hsz1 : w.heap.size + 3 ≤ w1.heap.size := by have := HB1.out.size; rw [show ((X.alloc (.cells (fillW ws).toArray 140)).drewN d).heap.size = X.heap.size + 1 from size_alloc _ _, HSZ.out] at this; omega
          obtain ⟨Y, hY⟩ : ∃ Y : World, Seal (Y = w1.alloc (.cells K.toArray 140)) := ⟨_, ⟨rfl⟩⟩
          have hYb : Seal (Below w.heap.size w Y) := ⟨by
            rw [hY.out]
            refine Below.alloc (Below.trans ?_ (HB1.out.mono ?_)) (by omega) _
            · have h0 : Below w.heap.size w X := by rw [hX.out]; exact ((Below.refl _ w).alloc (Nat.le_refl _) _).alloc (by rw [size_alloc]; omega) _
              have h1 := h0.alloc (by rw [HSZ.out]; omega) (.cells (fillW ws).toArray 140)
              exact ⟨h1.os, h1.tape, h1.output, h1.size, h1.block⟩
            · rw [show ((X.alloc (.cells (fillW ws).toArray 140)).drewN d).heap.size = X.heap.size + 1 from size_alloc _ _, HSZ.out]; omega⟩
          have hblk : ∀ g o, g < X.heap.size + 1 → (X.alloc (.cells (fillW ws).toArray 140)).heap[g]? = some o → Y.heap[g]? = some o := fun g o hg ho => by
            rw [hY.out, Below.heap_alloc _ _ _ (by have := HSZ.out; omega)]
            exact (HB1.out.block g (by rw [show ((X.alloc (.cells (fillW ws).toArray 140)).drewN d).heap.size = X.heap.size + 1 from size_alloc _ _]; exact hg)).trans ho
          have hY1 : Seal (Y.heap[X.heap.size]? = some (.cells (fillW ws).toArray 140)) := ⟨hblk _ _ (by omega) (heap_alloc_new X _)⟩
          have hY2 : Seal (Y.rangeAt w1.heap.size 0 (Kt.map W)) := ⟨by rw [hY.out, ← hK.out]; exact rangeAt_new w1 K _ _⟩
          have hY3 : Seal (Y.heap[w.heap.size]? = some (.cells #[.int .u32 st.a, .int .u32 st.b, .int .u32 st.c, .int .u32 st.d, .int .u32 st.e, .int .u32 st.f, .int .u32 st.g, .int .u32 st.h] 126)) := ⟨hblk _ _ (by have := HSZ.out; omega) (by
            rw [Below.heap_alloc _ _ _ (by have := HSZ.out; omega), hX.out]; exact heap_alloc2_old w _ _)⟩
          have hY4 : Seal (Y.heap[w.heap.size + 1]? = some (.cells #[.int .u32 0, .int .u32 0, .int .u32 0, .int .u32 0, .int .u32 0, .int .u32 0, .int .u32 0, .int .u32 0] 126)) := ⟨hblk _ _ (by have := HSZ.out; omega) (by
            rw [Below.heap_alloc _ _ _ (by have := HSZ.out; omega), hX.out]; exact heap_alloc2_new w _ _)⟩
          rw [← hY.out]
          have c0 : Y.cell? ⟨w.heap.size, 0, none⟩ = some (.int .u32 st.a) := cell_of_row _ _ _ _ _ _ hY3.out
          have c1 : Y.cell? ⟨w.heap.size, 1, none⟩ = some (.int .u32 st.b) := cell_of_row _ _ _ _ _ _ hY3.out
          have c2 : Y.cell? ⟨w.heap.size, 2, none⟩ = some (.int .u32 st.c) := cell_of_row _ _ _ _ _ _ hY3.out
          have c3 : Y.cell? ⟨w.heap.size, 3, none⟩ = some (.int .u32 st.d) := cell_of_row _ _ _ _ _ _ hY3.out
          have c4 : Y.cell? ⟨w.heap.size, 4, none⟩ = some (.int .u32 st.e) := cell_of_row _ _ _ _ _ _ hY3.out
          have c5 : Y.cell? ⟨w.heap.size, 5, none⟩ = some (.int .u32 st.f) := cell_of_row _ _ _ _ _ _ hY3.out
          have c6 : Y.cell? ⟨w.heap.size, 6, none⟩ = some (.int .u32 st.g) := cell_of_row _ _ _ _ _ _ hY3.out
          have c7 : Y.cell? ⟨w.heap.size, 7, none⟩ = some (.int .u32 st.h) := cell_of_row _ _ _ _ _ _ hY3.out
          clear hKi hKl hK1 HN hblk hsz1
          go_wp2_with fail
          go_quiet (fail)
          go_wp2
          go_loopw [11, 12, 13, 14, 15, 16, 17, 18, 19] (fun xa xb xc xd xe xf xg xh i wr => ∃ k m : Nat, ∃ v : St, k ≤ 64 ∧ i = .int .i64 k ∧ Seal (v = roundsN st ws k) ∧ xa = .int .u32 v.a ∧ xb = .int .u32 v.b ∧ xc = .int .u32 v.c ∧ xd = .int .u32 v.d ∧ xe = .int .u32 v.e ∧ xf = .int .u32 v.f ∧ xg = .int .u32 v.g ∧ xh = .int .u32 v.h ∧ wr = Y.drewN m) (fun _ _ _ _ _ _ _ _ i _ => 64 - (intOf i).toNat)
          case atStart => exact ⟨0, _, st, by omega, rfl, ⟨rfl⟩, rfl, rfl, rfl, rfl, rfl, rfl, rfl, rfl, rfl⟩
          case round =>
            obtain ⟨k, m, v, hk, rfl, hv, rfl, rfl, rfl, rfl, rfl, rfl, rfl, rfl, rfl⟩ := hrel
            by_cases hlt : k < 64
            · have hvo : v.ok := by rw [hv.out]; exact roundsN_ok st hok ws k
              have oa := hvo.a
              have oe := hvo.e
              obtain ⟨xw, hxw, aw, lw⟩ := fillW_get ws (by rw [HW.out]; decide) k hlt HA.out
              obtain ⟨xk, hxk, ak, lk⟩ := Kt_at hY2.out k hlt
              have awy : Y.cell? ⟨X.heap.size, k, none⟩ = some (.int .u32 xw) := by rw [cell_of_row _ _ _ _ _ _ hY1.out]; simpa using aw
              have HP := Seal.mk (rp_val v hvo xk xw)
              have HQ := Seal.mk (rq_val v hvo)
              clear aw hvo c0 c1 c2 c3 c4 c5 c6 c7
              go_wp2_with fail
              go_quiet ((go_at_call 109; first | with_reducible exact rror_quiet v.e 6 6 rfl (by decide) (by decide) _ _ _ oe | with_reducible exact rror_quiet v.e 11 11 rfl (by decide) (by decide) _ _ _ oe | with_reducible exact rror_quiet v.e 25 25 rfl (by decide) (by decide) _ _ _ oe))
              go_wp2_with (go_at_call 109; (first | with_reducible refine (rror_drew v.a 2 2 rfl (by decide) (by decide) _ _ oa).mono ?_ | with_reducible refine (rror_drew v.a 13 13 rfl (by decide) (by decide) _ _ oa).mono ?_ | with_reducible refine (rror_drew v.a 22 22 rfl (by decide) (by decide) _ _ oa).mono ?_); rintro e w' ⟨rfl, n, rfl⟩)
              go_roundw
              case rel =>
                rw [HP.out, HQ.out]
                exact ⟨k + 1, _, rnd v xk xw, by omega, by go_num, ⟨by rw [hv.out, ← hxk.out, ← hxw.out]; rfl⟩, by rw [wrap_add]; rfl, rfl, rfl, rfl, by rw [wrap_add]; rfl, rfl, rfl, rfl, rfl⟩
              case measure => simp [intOf]; omega
            · obtain rfl : k = 64 := by omega
              have HB : Seal (st.plus v = block st l) := ⟨by rw [hv.out, roundsN_all _ _ HW.out, HBL.out]⟩
              obtain ⟨N, hN⟩ : ∃ N : Array Value, Seal (N = #[.int .u32 (((st.a : Int) + (v.a : Int)) % 4294967296), .int .u32 (((st.b : Int) + (v.b : Int)) % 4294967296), .int .u32 (((st.c : Int) + (v.c : Int)) % 4294967296), .int .u32 (((st.d : Int) + (v.d : Int)) % 4294967296), .int .u32 (((st.e : Int) + (v.e : Int)) % 4294967296), .int .u32 (((st.f : Int) + (v.f : Int)) % 4294967296), .int .u32 (((st.g : Int) + (v.g : Int)) % 4294967296), .int .u32 (((st.h : Int) + (v.h : Int)) % 4294967296)]) := ⟨_, ⟨rfl⟩⟩
              have hNs : Seal (N.size = 8) := ⟨by rw [hN.out]; rfl⟩
              have h8i : Seal ((Tryz.prog.info? 126).map (·.size) = some N.size) := ⟨by rw [hNs.out]; kernel_rfl⟩
              have h8s : Seal ((#[.int .u32 0, .int .u32 0, .int .u32 0, .int .u32 0, .int .u32 0, .int .u32 0, .int .u32 0, .int .u32 0] : Array Value).size = N.size) := ⟨by rw [hNs.out]; rfl⟩
              have h8o : Seal (N.all (·.oneCell') = true) := ⟨by rw [hN.out]; simp [Value.oneCell']⟩
              have hYm : Seal ((Y.drewN m).heap[w.heap.size + 1]? = some (.cells #[.int .u32 0, .int .u32 0, .int .u32 0, .int .u32 0, .int .u32 0, .int .u32 0, .int .u32 0, .int .u32 0] 126 (0, 0))) := ⟨hY4.out⟩
              have HE : Seal (N = (stL (block st l)).toArray) := ⟨by rw [hN.out, ← HB.out]; simp only [wrap_add]; rfl⟩
              clear hk hlt
              rw [show ((64 : Nat) : Int) = 64 from rfl]
              go_wp2_with (refine wpList_store_row rfl 126 (.tmp 4) (.tmp 190) rfl (w.heap.size + 1) N rfl (by rw [hN.out]; rfl) 126 _ hYm.out h8i.out h8s.out h8o.out ?_)
              refine bodyPost_ret (results_cell_row (fn := Tryz.f102) rfl _ _ (w.heap.size + 1) 126 N (0, 0) _ rfl (setRow_heap _ _ _ _ _ _ hYm.out) Tryz.underlying126 rfl h8i.out) rfl ⟨?_, below_row (B := w.heap.size) (w0 := w) (w := Y.drewN m) ⟨hYb.out.os, hYb.out.tape, hYb.out.output, hYb.out.size, hYb.out.block⟩ (by omega) _⟩
              rw [HE.out]
end Frk
