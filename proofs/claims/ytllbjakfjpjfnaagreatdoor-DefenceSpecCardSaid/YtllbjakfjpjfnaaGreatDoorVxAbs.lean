/- The program's absorb: one block of SHA-256. -/
import Derived.Test.YtllbjakfjpjfnaaGreatDoorVxDig
namespace Frk
open Go Go.RowKit Go.Proofs
set_option maxRecDepth 100000

structure St.ok (s : St) : Prop where
  a : s.a < 4294967296
  b : s.b < 4294967296
  c : s.c < 4294967296
  d : s.d < 4294967296
  e : s.e < 4294967296
  f : s.f < 4294967296
  g : s.g < 4294967296
  h : s.h < 4294967296

/-- the cells of a state -/
def stL (s : St) : List Value := [W s.a, W s.b, W s.c, W s.d, W s.e, W s.f, W s.g, W s.h]

/-- the first rounds -/
def roundsN (s : St) (ws : List Nat) : Nat → St
  | 0 => s
  | n + 1 => rnd (roundsN s ws n) (Kt.getD n 0) (ws.getD n 0)

theorem rnd_ok (s : St) (h : s.ok) (k w : Nat) : (rnd s k w).ok :=
  ⟨add32_lt _ _, h.a, h.b, h.c, add32_lt _ _, h.e, h.f, h.g⟩

theorem roundsN_ok (s : St) (h : s.ok) (ws : List Nat) : ∀ n, (roundsN s ws n).ok
  | 0 => h
  | n + 1 => rnd_ok _ (roundsN_ok s h ws n) _ _

theorem S1_val (x : Nat) : ((S1 x : Nat) : Int) = (((rotr x 6 ^^^ rotr x 11) ^^^ rotr x 25 : Nat) : Int) := rfl
theorem S0_val (x : Nat) : ((S0 x : Nat) : Int) = (((rotr x 2 ^^^ rotr x 13) ^^^ rotr x 22 : Nat) : Int) := rfl

theorem ch_val (e f g : Nat) (he : e < 4294967296) (hf : f < 4294967296) (hg : g < 4294967296) :
    bits .xor .u32 (g : Int) (bits .and .u32 (e : Int) (bits .xor .u32 (f : Int) (g : Int))) = ((g ^^^ (e &&& (f ^^^ g)) : Nat) : Int) := by
  have h1 : f ^^^ g < 4294967296 := Nat.xor_lt_two_pow (n := 32) hf hg
  have h2 : e &&& (f ^^^ g) < 4294967296 := Nat.and_lt_two_pow (n := 32) _ h1
  rw [u32_xor_nat _ _ hf hg, u32_and_nat _ _ he h1, u32_xor_nat _ _ hg h2]

theorem maj_val (a b c : Nat) (ha : a < 4294967296) (hb : b < 4294967296) (hc : c < 4294967296) :
    bits .or .u32 (bits .and .u32 (a : Int) (b : Int)) (bits .and .u32 (c : Int) (bits .or .u32 (a : Int) (b : Int))) = (((a &&& b) ||| (c &&& (a ||| b)) : Nat) : Int) := by
  have h1 : a ||| b < 4294967296 := Nat.or_lt_two_pow (n := 32) ha hb
  have h2 : c &&& (a ||| b) < 4294967296 := Nat.and_lt_two_pow (n := 32) _ h1
  have h3 : a &&& b < 4294967296 := Nat.and_lt_two_pow (n := 32) _ hb
  rw [u32_and_nat _ _ ha hb, u32_or_nat _ _ ha hb, u32_and_nat _ _ hc h1, u32_or_nat _ _ h3 h2]

theorem Kt_at {w : World} {g : Nat} (h : w.rangeAt g 0 (Kt.map W)) (k : Nat) (hk : k < 64) : ∃ x : Nat, Seal (Kt.getD k 0 = x) ∧ w.cell? ⟨g, k, none⟩ = some (.int .u32 x) ∧ x < 4294967296 := by
  have h1 := cellW h (i := k) hk
  rw [Nat.zero_add] at h1
  refine ⟨_, ⟨rfl⟩, h1, getD_lt (by decide) k⟩

theorem p_val (v : St) (h : v.ok) (xk xw : Nat) :
    ((((v.h : Int) + ((S1 v.e : Nat) : Int) + bits .xor .u32 (v.g : Int) (bits .and .u32 (v.e : Int) (bits .xor .u32 (v.f : Int) (v.g : Int))) + (xk : Int)) % 4294967296 + (xw : Int)) % 4294967296) =
      ((add32 (add32 (add32 (add32 v.h (S1 v.e)) (v.g ^^^ (v.e &&& (v.f ^^^ v.g)))) xk) xw : Nat) : Int) := by
  rw [ch_val _ _ _ h.e h.f h.g]
  unfold add32
  omega

theorem q_val (v : St) (h : v.ok) :
    ((((S0 v.a : Nat) : Int) + bits .or .u32 (bits .and .u32 (v.a : Int) (v.b : Int)) (bits .and .u32 (v.c : Int) (bits .or .u32 (v.a : Int) (v.b : Int)))) % 4294967296) =
      ((add32 (S0 v.a) ((v.a &&& v.b) ||| (v.c &&& (v.a ||| v.b))) : Nat) : Int) := by
  rw [maj_val _ _ _ h.a h.b h.c]
  unfold add32
  omega

theorem copy_seven (w : World) (o : Obj) (x0 x1 x2 x3 x4 x5 x6 x7 : Nat) (ty : TypeId) (n : Nat) :
    (Builtin.copy_ #[144, 144] ty #[.slice (some ⟨w.heap.size + 1, 1, none⟩) 7 7, .slice (some ⟨w.heap.size + 1, 0, none⟩) 7 8]).run Tryz.prog
      (((w.alloc o).alloc (.cells #[.int .u32 x0, .int .u32 x1, .int .u32 x2, .int .u32 x3, .int .u32 x4, .int .u32 x5, .int .u32 x6, .int .u32 x7] 127)).drewN n) =
      .ok (goInt 7) (((w.alloc o).alloc (.cells #[.int .u32 x0, .int .u32 x0, .int .u32 x1, .int .u32 x2, .int .u32 x3, .int .u32 x4, .int .u32 x5, .int .u32 x6] 127)).drewN n) := by
  have hg : ((((w.alloc o).alloc (.cells #[.int .u32 x0, .int .u32 x1, .int .u32 x2, .int .u32 x3, .int .u32 x4, .int .u32 x5, .int .u32 x6, .int .u32 x7] 127)).drewN n)).heap[w.heap.size + 1]? = some (.cells [W x0, W x1, W x2, W x3, W x4, W x5, W x6, W x7].toArray 127 (0, 0)) := heap_alloc2_new w o _
  have h := run_copy_row (P := Tryz.prog) _ 144 144 ty 125 (w.heap.size + 1) 1 7 7 ⟨w.heap.size + 1, 0, none⟩ 7 8 _ _ [W x0, W x1, W x2, W x3, W x4, W x5, W x6] Tryz.underlying144 (by kernel_rfl) hg rfl
    (fun j v hv => by rw [Addr.add_mid]; exact rangeAt_take (rangeAt_row hg) 7 j v hv) (by simp) (by simp [Value.oneCell'])
  refine h.trans ?_
  congr 1
  show (((w.alloc o).alloc _).setRow (w.heap.size + 1) _).drewN n = _
  have := setRow_new (w.alloc o) [W x0, W x1, W x2, W x3, W x4, W x5, W x6, W x7] [W x0, W x0, W x1, W x2, W x3, W x4, W x5, W x6] 127
  rw [size_alloc] at this
  exact congrArg (fun X => World.drewN X n) this

theorem rounds_gen (s : St) : ∀ (n : Nat) (ks ws : List Nat), ks.length = n → ws.length = n → ∀ (f : Nat → St), f 0 = s → (∀ i, i < n → f (i + 1) = rnd (f i) (ks.getD i 0) (ws.getD i 0)) → rounds s ks ws = f n := by
  intro n
  induction n generalizing s with
  | zero =>
    intro ks ws hk hw f h0 _
    obtain rfl := List.eq_nil_of_length_eq_zero hk
    obtain rfl := List.eq_nil_of_length_eq_zero hw
    rw [h0]; rfl
  | succ n ih =>
    intro ks ws hk hw f h0 hs
    match ks, ws, hk, hw with
    | k :: ks, w :: ws, hk, hw =>
      have h1 := hs 0 (by omega)
      rw [rounds]
      exact ih (rnd s k w) ks ws (by simpa using hk) (by simpa using hw) (fun i => f (i + 1)) (by rw [h1, h0]; rfl) (fun i hi => hs (i + 1) (by omega))

theorem roundsN_all (s : St) (ws : List Nat) (h : ws.length = 64) : roundsN s ws 64 = rounds s Kt ws :=
  (rounds_gen s 64 Kt ws rfl h (roundsN s ws) rfl (fun _ _ => rfl)).symm

/-- the cells of a state, some of them added to -/
def mixL (s v : St) (k : Nat) : List Value := (List.range 8).map fun i => W (if i < k then add32 (s.list.getD i 0) (v.list.getD i 0) else s.list.getD i 0)

theorem mixL_zero (s v : St) : mixL s v 0 = stL s := rfl
theorem mixL_all (s v : St) : mixL s v 8 = stL (s.plus v) := rfl
theorem mixL_get (s v : St) (k i : Nat) (hi : i < 8) : (mixL s v k)[i]? = some (W (if i < k then add32 (s.list.getD i 0) (v.list.getD i 0) else s.list.getD i 0)) := by
  simp [mixL, hi]
theorem mixL_set (s v : St) (k : Nat) (_hk : k < 8) : (mixL s v k).set k (W (add32 (s.list.getD k 0) (v.list.getD k 0))) = mixL s v (k + 1) := by
  apply List.ext_getElem?
  intro i
  by_cases hi : i < 8
  · rw [mixL_get _ _ _ _ hi, List.getElem?_set]
    by_cases e : k = i
    · subst e; rw [if_pos rfl, if_pos (by simp [mixL]; omega), if_pos (by omega)]
    · rw [if_neg e, mixL_get _ _ _ _ hi]
      by_cases h : i < k
      · rw [if_pos h, if_pos (by omega)]
      · rw [if_neg h, if_neg (by omega)]
  · rw [List.getElem?_eq_none (by simp [mixL]; omega), List.getElem?_eq_none (by simp [mixL]; omega)]

set_option maxHeartbeats 4000000 in
theorem absorb_any (gs g off len cap : Nat) (st : St) (l : Bytes) (w : World) (h64 : 64 ≤ len) (hlc : len ≤ cap) (hm : cap ≤ 9223372036854775807)
    (hs : w.heap[gs]? = some (.cells (stL st).toArray 127 (0, 0))) (hl : 64 ≤ l.length) (hr : w.rangeAt g off (l.map B)) (hne : gs ≠ g) (hok : st.ok) (hK : w.rangeAt 1 0 (Kt.map W)) :
   Calls Tryz.prog 74 #[.pointer (some ⟨gs, 0, none⟩), .slice (some ⟨g, off, none⟩) len cap] w fun e w' => e = .returned (.tuple #[]) ∧
     w.grownBy w' (some gs) ∧ w'.heap[gs]? = some (.cells (stL (block st l)).toArray 127 (0, 0)) := by
  have hgl : g < w.heap.size := rangeAt_lt hr (by simp; omega)
  go_enter Tryz.func74, Tryz.ntmps74
  go_wp2
  go_loopw [14] (fun i wr => ∃ k : Nat, k ≤ 16 ∧ i = .int .i64 k ∧ wr = w.alloc (.cells (fillW (words l k)).toArray 140)) (fun i _ => 16 - (intOf i).toNat)
  case atStart => exact ⟨0, by omega, rfl, rfl⟩
  case round =>
    obtain ⟨k, hk, rfl, rfl⟩ := hrel
    by_cases hlt : k < 16
    · have hr' := World.rangeAt_alloc (rangeAt_drop hr (4 * k)) (.cells (fillW (words l k)).toArray 140)
      have hat := fillW_at (words l k) (by rw [words_length]; omega) k (by omega)
      have HS := Seal.mk (fillW_words l k hlt)
      clear hs hr
      go_wp2_with (go_at_call 92; refine (word_any g (off + 4 * k) (len - 4 * k) (cap - 4 * k) (l.drop (4 * k)) _ (by simp; omega) (by omega) (by omega) (by simpa using hr')).mono ?_; rintro e w' ⟨rfl, rfl⟩)
      go_roundw
      case rel => exact ⟨k + 1, by omega, by go_num, by rw [HS.out]⟩
      case measure => simp [intOf]; omega
    · obtain rfl : k = 16 := by omega
      clear hk hlt
      rw [show ((16 : Nat) : Int) = 16 from rfl]
      go_wp2
      go_loopw [6] (fun i wr => ∃ k d : Nat, k ≤ 48 ∧ i = .int .i64 (k + 16 : Nat) ∧ wr = (w.alloc (.cells (fillW (sched (words l 16) k)).toArray 140)).drewN d) (fun i _ => 64 - (intOf i).toNat)
      case atStart => exact ⟨0, 0, by omega, rfl, rfl⟩
      case round =>
        obtain ⟨k, d, hk, rfl, rfl⟩ := hrel
        by_cases hlt : k < 48
        · have hlen : (sched (words l 16) k).length = 16 + k := by rw [sched_length, words_length]
          obtain ⟨x2, h2, a2, l2⟩ := fillW_get (sched (words l 16) k) (by omega) (k + 14) (by omega) (sched_lt l k)
          obtain ⟨x15, h15, a15, l15⟩ := fillW_get (sched (words l 16) k) (by omega) (k + 1) (by omega) (sched_lt l k)
          obtain ⟨x7, h7, a7, l7⟩ := fillW_get (sched (words l 16) k) (by omega) (k + 9) (by omega) (sched_lt l k)
          obtain ⟨x16, h16, a16, l16⟩ := fillW_get (sched (words l 16) k) (by omega) k (by omega) (sched_lt l k)
          have at_ := fillW_at (sched (words l 16) k) (by omega) (k + 16) (by omega)
          have HV := Seal.mk (nextW_val _ k hlen x16 x15 x7 x2 h16.out h15.out h7.out h2.out l15 l2)
          have HF := Seal.mk (fillW_next _ k hlen hlt)
          clear hs hr hlen h16 h15 h7 h2 l7 l16
          go_wp2
          go_quiet (fail)
          go_wp2
          have w0 : IntKind.i64.wrap (k : Int) = k := IntWalk.i64_in _ (by omega)
          have w9 : IntKind.i64.wrap ((k : Int) + 16 - 7) = k + 9 := (IntWalk.i64_in _ (by omega)).trans (by omega)
          have k1 : (k : Int) < 64 := by omega
          have k9 : (k : Int) + 9 < 64 := by omega
          have k8 : 0 ≤ (k : Int) + 9 := by omega
          have t9 : ((k : Int) + 9).toNat = k + 9 := by omega
          have t16 : ((k : Int) + 16).toNat = k + 16 := by omega
          have k17 : 0 ≤ (k : Int) + 16 := by omega
          have q16 := fun v d => cell_new_other w _ 140 (k + 16) k d v _ (by omega) a16
          have q7 := fun v d => cell_new_other w _ 140 (k + 16) (k + 9) d v _ (by omega) a7
          go_region_held3 (fun w' => w'.cell? ⟨w.heap.size, k, none⟩ = some (.int .u32 x16) ∧ w'.cell? ⟨w.heap.size, k + 9, none⟩ = some (.int .u32 x7)) (go_keep)
            (first | (go_at_call 93; ((with_reducible refine (rotl_neg _ _ (by decide) (by decide) (by assumption) _).mono ?_)); rintro e w' ⟨rfl, rfl⟩))
          clear q16 q7 w0 w9 k1 k9 k8 t9 t16 k17 a2 a15 a7 a16 at_ l15 l2
          go_wp2
          go_roundw
          case rel => exact ⟨k + 1, _, by omega, by go_num, by rw [setCell_new, HV.out, HF.out]; rfl⟩
          case measure => simp [intOf]; omega
        · obtain rfl : k = 48 := by omega
          have hgs := (Array.getElem?_eq_some_iff.1 hs).1
          have hws := sched_length (words l 16) 48
          rw [words_length] at hws
          have c0 : w.cell? ⟨gs, 0, none⟩ = some (.int .u32 st.a) := cell_of_row _ _ _ _ _ _ hs
          have c1 : w.cell? ⟨gs, 1, none⟩ = some (.int .u32 st.b) := cell_of_row _ _ _ _ _ _ hs
          have c2 : w.cell? ⟨gs, 2, none⟩ = some (.int .u32 st.c) := cell_of_row _ _ _ _ _ _ hs
          have c3 : w.cell? ⟨gs, 3, none⟩ = some (.int .u32 st.d) := cell_of_row _ _ _ _ _ _ hs
          have c4 : w.cell? ⟨gs, 4, none⟩ = some (.int .u32 st.e) := cell_of_row _ _ _ _ _ _ hs
          have c5 : w.cell? ⟨gs, 5, none⟩ = some (.int .u32 st.f) := cell_of_row _ _ _ _ _ _ hs
          have c6 : w.cell? ⟨gs, 6, none⟩ = some (.int .u32 st.g) := cell_of_row _ _ _ _ _ _ hs
          have c7 : w.cell? ⟨gs, 7, none⟩ = some (.int .u32 st.h) := cell_of_row _ _ _ _ _ _ hs
          have HW := Seal.mk hws
          clear hk hlt hr hws
          rw [show ((48 + 16 : Nat) : Int) = 64 from rfl]
          generalize hAA : sched (words l 16) 48 = ws at *
          have HA := Seal.mk hAA
          clear hAA
          go_wp2
          go_loopw [69] (fun i wr => ∃ k m : Nat, ∃ v : St, k ≤ 64 ∧ i = .int .i64 k ∧ Seal (v = roundsN st ws k) ∧ wr = ((w.alloc (.cells (fillW ws).toArray 140)).alloc (.cells #[.int .u32 v.a, .int .u32 v.b, .int .u32 v.c, .int .u32 v.d, .int .u32 v.e, .int .u32 v.f, .int .u32 v.g, .int .u32 v.h] 127)).drewN m) (fun i _ => 64 - (intOf i).toNat)
          case atStart => exact ⟨0, d, st, by omega, rfl, ⟨rfl⟩, rfl⟩
          case round =>
            obtain ⟨k, m, v, hk, rfl, hv, rfl⟩ := hrel
            by_cases hlt : k < 64
            · have hvo : v.ok := by rw [hv.out]; exact roundsN_ok st hok ws k
              have oa := hvo.a
              have oe := hvo.e
              obtain ⟨xw, hxw, aw, lw⟩ := fillW_get ws (by rw [HW.out]; decide) k hlt (by rw [← HA.out]; exact sched_lt l 48)
              obtain ⟨xk, hxk, ak, lk⟩ := Kt_at hK k hlt
              have hg1 : 1 < w.heap.size := block_lt_of_cell ak
              have akw : ∀ o1 o2 n, (((w.alloc o1).alloc o2).drewN n).cell? ⟨1, k, none⟩ = some (.int .u32 xk) := fun o1 o2 n => by
                rw [World.cell?_drewN, World.cell?_alloc_lt _ _ _ (by rw [size_alloc]; exact Nat.lt_succ_of_lt hg1), World.cell?_alloc_lt _ _ _ hg1]; exact ak
              have HP := p_val v hvo xk xw
              have HQ := q_val v hvo
              have HP' := Seal.mk HP
              have HQ' := Seal.mk HQ
              clear HP HQ hvo
              clear c0 c1 c2 c3 c4 c5 c6 c7 hs hK
              go_wp2_with ((with_reducible refine wp_region_quiet_lit (by kernel_rfl) (by kernel_rfl) ?_))
              repeat (go_big_quiet_step (((go_at_call 94; exact quiet_add (S1_call v.e oe _)))))
              refine wpQuiet_nil ?_
              intro _ hw'
              obtain ⟨nq, hw''⟩ := hw'
              subst hw''
              go_wp2_with ((with_reducible refine wp_region_quiet_lit (by kernel_rfl) (by kernel_rfl) ?_))
              repeat (go_big_quiet_step (((go_at_call 94; exact quiet_add (S0_call v.a oa _)))))
              refine wpQuiet_nil ?_
              intro _ hw'
              obtain ⟨nq, hw''⟩ := hw'
              subst hw''
              have hcopy := fun ty n => copy_seven w (.cells (fillW ws).toArray 140) v.a v.b v.c v.d v.e v.f v.g v.h ty n
              go_wp2
              go_region
              all_goals
                rw [HP'.out, HQ'.out]
                clear hcopy aw lw ak akw lk hg1 oa oe
                go_wp2
                go_roundw
                case rel => exact ⟨k + 1, _, rnd v xk xw, by omega, by go_num, ⟨by rw [hv.out, ← hxk.out, ← hxw.out]; rfl⟩, by
                  rw [wrap_add, wrap_add, setCell_new' _ _ _ _ _ _ _ (size_alloc w _).symm, setCell_new' _ _ _ _ _ _ _ (size_alloc w _).symm]
                  rfl⟩
                case measure => simp [intOf]; omega
            · obtain rfl : k = 64 := by omega
              have hX : ∃ X : World, Seal (X = (w.alloc (.cells (fillW ws).toArray 140)).alloc (.cells (stL v).toArray 127)) := ⟨_, ⟨rfl⟩⟩
              obtain ⟨X, hX⟩ := hX
              have hXs : X.heap[w.heap.size + 1]? = some (.cells (stL v).toArray 127 (0, 0)) := by rw [hX.out]; exact heap_alloc2_new w _ _
              have hXg : X.heap[gs]? = some (.cells (stL st).toArray 127 (0, 0)) := by
                rw [hX.out, Below.heap_alloc _ _ _ (by rw [size_alloc]; omega), Below.heap_alloc _ _ _ hgs]; exact hs
              have hXb : w.grownBy X (some gs) := by
                rw [hX.out]
                exact grown_of_below (((Below.refl _ w).alloc (Nat.le_refl _) _).alloc (by rw [size_alloc]; omega) _) _
              have hsz : X.heap.size = w.heap.size + 2 := by rw [hX.out, size_alloc, size_alloc]
              rw [show (((w.alloc (.cells (fillW ws).toArray 140)).alloc (.cells #[.int .u32 v.a, .int .u32 v.b, .int .u32 v.c, .int .u32 v.d, .int .u32 v.e, .int .u32 v.f, .int .u32 v.g, .int .u32 v.h] 127)).drewN m) = X.drewN m from by rw [hX.out]; rfl]
              have HB : Seal (st.plus v = block st l) := ⟨by rw [hv.out, roundsN_all _ _ HW.out, ← HA.out]; rfl⟩
              have HS := Seal.mk hs
              have HX1 := Seal.mk hXs
              have HX2 := Seal.mk hXg
              have HX3 := Seal.mk hsz
              have hnS : gs ≠ w.heap.size + 1 := by omega
              clear c0 c1 c2 c3 c4 c5 c6 c7 hs hK hXs hXg hsz hk hlt
              rw [show ((64 : Nat) : Int) = 64 from rfl]
              go_wp2
              go_loopw [129] (fun i wr => ∃ k : Nat, k ≤ 8 ∧ i = .int .i64 k ∧ Seal (wr.heap[gs]? = some (.cells (mixL st v k).toArray 127 (0, 0))) ∧ Seal (X.grownBy wr (some gs))) (fun i _ => 8 - (intOf i).toNat)
              case atStart => exact ⟨0, by omega, rfl, ⟨HX2.out⟩, ⟨grown_drewN X m _⟩⟩
              case round =>
                obtain ⟨k, hk, rfl, hg1, hg2⟩ := hrel
                by_cases hlt : k < 8
                · have a1 : wr.cell? ⟨gs, k, none⟩ = some (.int .u32 (st.list.getD k 0 : Nat)) := by
                    rw [cell_of_row _ _ _ _ _ _ hg1.out]
                    have := mixL_get st v k k hlt
                    rw [if_neg (by omega)] at this
                    simpa using this
                  have a2 : wr.cell? ⟨w.heap.size + 1, k, none⟩ = some (.int .u32 (v.list.getD k 0 : Nat)) := by
                    have e : wr.heap[w.heap.size + 1]? = some (.cells (stL v).toArray 127 (0, 0)) := (hg2.out.block _ (by rw [HX3.out]; omega) (by intro e; cases e; omega)).trans HX1.out
                    rw [cell_of_row _ _ _ _ _ _ e]
                    have := mixL_get v v 0 k hlt
                    rw [if_neg (by omega), mixL_zero] at this
                    simpa using this
                  have a3 : wr.frozen? ⟨gs, k, none⟩ = false := frozen_of_row _ _ _ _ _ hg1.out
                  have kI : (k : Int) < 8 := by omega
                  generalize hx : st.list.getD k 0 = x at a1
                  generalize hy : v.list.getD k 0 = y at a2
                  have HX := Seal.mk hx
                  have HY := Seal.mk hy
                  clear hx hy
                  go_wp2
                  go_region
                  all_goals
                    clear a1 a2 a3 kI
                    go_wp2
                    go_roundw
                    case rel =>
                      refine ⟨k + 1, by omega, by go_num, ⟨?_⟩, ⟨?_⟩⟩
                      · refine (heap_setCell_row (w := wr) _ hg1.out).trans ?_
                        rw [wrap_add, ← HX.out, ← HY.out, mixL_set _ _ _ hlt]
                      · exact grown_drew (grown_setCell hg2.out _ _) _
                    case measure => simp [intOf]; omega
                · obtain rfl : k = 8 := by omega
                  go_wp2
                  go_end0
                  refine ⟨rfl, hXb.trans hg2.out, ?_⟩
                  rw [hg1.out, mixL_all, HB.out]
