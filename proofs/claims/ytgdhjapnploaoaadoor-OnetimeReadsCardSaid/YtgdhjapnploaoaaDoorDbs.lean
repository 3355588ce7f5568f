/- Digests compared: bytes.Compare, the packages' compare. -/
import Derived.Test.YtgdhjapnploaoaaDoorDls
import Derived.Test.YtgdhjapnploaoaaDoorEnv
import Derived.Lib.Bytealg
import Derived.Lib.BytesEntry
import Derived.Laws.Externs
import Derived.Deep.QuietTactic
import Derived.BigQuiet
import Derived.StillTailTactics
namespace Frk
open Go Go.RowKit Go.Proofs
set_option maxRecDepth 100000

/-- less, equal, greater -/
def cmpB (a b : Bytes) : Int := Lib.compareBytes a b

theorem u8_lt_iff (a b : UInt8) : a < b ↔ a.toNat < b.toNat := UInt8.lt_iff_toNat_lt

theorem cmpB_neg : ∀ a b : Bytes, cmpB a b < 0 ↔ blt a b = true
  | [], [] => by simp [cmpB, Lib.compareBytes, blt]
  | [], _ :: _ => by simp [cmpB, Lib.compareBytes, blt]
  | _ :: _, [] => by simp [cmpB, Lib.compareBytes, blt]
  | a :: s, b :: t => by
    have ih := cmpB_neg s t
    unfold cmpB at ih ⊢
    unfold Lib.compareBytes blt
    by_cases h1 : a < b
    · have h1' := (u8_lt_iff a b).1 h1
      have hne : a ≠ b := by intro e; subst e; omega
      rw [if_pos h1, if_neg hne]
      simp [h1']
    · rw [if_neg h1]
      by_cases h2 : b < a
      · have h2' := (u8_lt_iff b a).1 h2
        have hne : a ≠ b := by intro e; subst e; omega
        rw [if_pos h2, if_neg hne]
        simp; omega
      · have e : a = b := by
          rcases Nat.lt_trichotomy a.toNat b.toNat with h | h | h
          · exact absurd ((u8_lt_iff a b).2 h) h1
          · exact UInt8.toNat_inj.1 h
          · exact absurd ((u8_lt_iff b a).2 h) h2
        rw [if_neg h2, if_pos e]
        exact ih

theorem cmpB_zero : ∀ a b : Bytes, cmpB a b = 0 ↔ a = b
  | [], [] => by simp [cmpB, Lib.compareBytes]
  | [], _ :: _ => by simp [cmpB, Lib.compareBytes]
  | _ :: _, [] => by simp [cmpB, Lib.compareBytes]
  | a :: s, b :: t => by
    have ih := cmpB_zero s t
    unfold cmpB at ih ⊢
    unfold Lib.compareBytes
    by_cases h1 : a < b
    · have h1' := (u8_lt_iff a b).1 h1
      rw [if_pos h1]
      simp
      intro e; subst e; omega
    · rw [if_neg h1]
      by_cases h2 : b < a
      · have h2' := (u8_lt_iff b a).1 h2
        rw [if_pos h2]
        simp
        intro e; subst e; omega
      · have e : a = b := by
          rcases Nat.lt_trichotomy a.toNat b.toNat with h | h | h
          · exact absurd ((u8_lt_iff a b).2 h) h1
          · exact UInt8.toNat_inj.1 h
          · exact absurd ((u8_lt_iff b a).2 h) h2
        rw [if_neg h2, ih]
        simp [e]

theorem cmpB_rng (a b : Bytes) : -1 ≤ cmpB a b ∧ cmpB a b ≤ 1 := by
  unfold cmpB
  induction a generalizing b with
  | nil => cases b <;> simp [Lib.compareBytes]
  | cons x s ih =>
    cases b with
    | nil => simp [Lib.compareBytes]
    | cons y t =>
      unfold Lib.compareBytes
      split
      · omega
      · split
        · omega
        · exact ih t

theorem run_bytesOf {w : World} {a : Option Addr} {n c : Nat} {l : Bytes} (h : IsB w a n c l) : (Extern.Bytes.bytesOf (.slice a n c)).run Tryd.prog w = .ok ⟨l.toArray⟩ w := by
  rcases h.at_ with h0 | ⟨g, off, rfl, hr, hg⟩
  · subst h0
    obtain rfl := List.eq_nil_of_length_eq_zero h.llen
    cases a with
    | none => rfl
    | some ad => rfl
  · have := Lib.run_loadBytesX (P := Tryd.prog) w (l.map fun x => (x.toNat : Int)) ⟨g, off, none⟩ .empty (fun j x hx => by
      rw [Addr.add_mid]
      rw [List.getElem?_map] at hx
      obtain ⟨y, hy, rfl⟩ := Option.map_eq_some_iff.1 hx
      exact hr j _ (by rw [List.getElem?_map, hy]; rfl))
    rw [List.length_map, h.llen] at this
    unfold Extern.Bytes.bytesOf
    refine this.trans ?_
    have e : Lib.bytesOf (l.map fun x => (x.toNat : Int)) = l := by
      unfold Lib.bytesOf
      rw [List.map_map]
      conv => rhs; rw [← List.map_id l]
      apply List.map_congr_left
      intro x _
      show UInt8.ofNat (((x.toNat : Nat) : Int)).toNat = x
      rw [Int.toNat_natCast]
      exact UInt8.ofNat_toNat
    rw [e]
    simp

theorem run_compare {w : World} {a b : Option Addr} {n c m d : Nat} {l k : Bytes} (h1 : IsB w a n c l) (h2 : IsB w b m d k) :
    (callFunc 116 #[.slice a n c, .slice b m d]).run Tryd.prog w = .ok (.value (.int .i64 (cmpB l k))) w := by
  rw [run_callFunc_extern Tryd.func116 (by kernel_rfl) (by kernel_rfl) (by kernel_rfl) (e := Extern.BytealgCompare.compare) (by kernel_rfl)]
  have e : (Extern.BytealgCompare.compare #[.slice a n c, .slice b m d]).run Tryd.prog w = .ok (.int .i64 (cmpB l k)) w := by
    change Sem.run Tryd.prog (do pure (goInt (Extern.BytealgCompare.cmp (← Extern.Bytes.bytesOf (.slice a n c)) (← Extern.Bytes.bytesOf (.slice b m d))))) w = _
    simp only [Sem.run_bind, run_bytesOf h1, run_bytesOf h2, Sem.run_pure, Result.andThen]
    rw [Lib.cmp_eq]
    rfl
  rw [e]
  rfl

theorem bytesCompare_any {w : World} {a b : Option Addr} {n c m d : Nat} {l k : Bytes} (h1 : IsB w a n c l) (h2 : IsB w b m d k) :
    Calls Tryd.prog 105 #[.slice a n c, .slice b m d] w fun e w' => e = .returned (.int .i64 (cmpB l k)) ∧ w = w' := by
  have hr := run_compare h1 h2
  clear h1 h2
  go_enter Tryd.func105, Tryd.ntmps105
  go_wp2
  go_ret
  exact ⟨rfl, rfl⟩

theorem IsB.drewN {w : World} {a : Option Addr} {len cap : Nat} {l : Bytes} (h : IsB w a len cap l) (n : Nat) : IsB (w.drewN n) a len cap l := ⟨h.llen, h.lcap, h.lmax, h.cmax, h.at_⟩

/-- a digest as a value -/
def dgV (d : Bytes) : Value := .agg (d.map B).toArray

theorem slice_dg (g : Nat) (w : World) : (Instr.sliceAt 27 (.pointer (some ⟨g, 0, none⟩)) none none none).run Tryd.prog w = .ok (.slice (some ⟨g, 0, none⟩) 32 32) w := by kernel_rfl

set_option maxHeartbeats 1000000 in
theorem compare_any (a b : Bytes) (w : World) (ha : a.length = 32) (hb : b.length = 32) :
    Calls Tryd.prog 90 #[.agg (a.map B).toArray, .agg (b.map B).toArray] w fun e w' => e = .returned (.int .i64 (cmpB a b)) ∧ Below w.heap.size w w' := by
  have h1 : Seal (IsB ((w.alloc (.cells (a.map B).toArray 27)).alloc (.cells (b.map B).toArray 27)) (some ⟨w.heap.size, 0, none⟩) 32 32 a) := ⟨(isB_new w a 32 _ (0, 0) ha (by decide)).below (below_alloc _ _)⟩
  have h2 : Seal (IsB ((w.alloc (.cells (a.map B).toArray 27)).alloc (.cells (b.map B).toArray 27)) (some ⟨w.heap.size + 1, 0, none⟩) 32 32 b) := ⟨by
    have := isB_new (w.alloc (.cells (a.map B).toArray 27)) b 32 27 (0, 0) hb (by decide)
    rwa [size_alloc] at this⟩
  have HB : Seal (Below w.heap.size w ((w.alloc (.cells (a.map B).toArray 27)).alloc (.cells (b.map B).toArray 27))) := ⟨((Below.refl _ w).alloc (Nat.le_refl _) _).alloc (by rw [size_alloc]; omega) _⟩
  have hs := fun g W => slice_dg g W
  clear ha hb
  obtain ⟨A, hA⟩ : ∃ A : Array Value, A = (a.map B).toArray := ⟨_, rfl⟩
  obtain ⟨D, hD⟩ : ∃ D : Array Value, D = (b.map B).toArray := ⟨_, rfl⟩
  rw [← hA, ← hD] at h1 h2 HB ⊢
  clear hA hD
  go_enter Tryd.func90, Tryd.ntmps90
  go_wp2_with fail
  go_quiet ((go_at_call 105; exact quiet_left (bytesCompare_any (h1.out.drewN _) (h2.out.drewN _))))
  go_wp2
  go_ret
  exact ⟨rfl, ⟨HB.out.os, HB.out.tape, HB.out.output, HB.out.size, HB.out.block⟩⟩
/-- the cells of a list of digests -/
def dcells (l : List Bytes) : List Value := (l.flatten).map B

/-- a slice of digests -/
structure IsD (w : World) (a : Option Addr) (len cap : Nat) (l : List Bytes) : Prop where
  llen : l.length = len
  lcap : len ≤ cap
  lmax : len ≤ 1099511627776
  cmax : cap ≤ 9223372036854775807
  each : ∀ d ∈ l, d.length = 32
  at_ : len = 0 ∨ ∃ g off, a = some ⟨g, off, none⟩ ∧ w.rangeAt g off (dcells l) ∧ g < w.heap.size

theorem IsD.of_heap {w w' : World} {a : Option Addr} {len cap : Nat} {l : List Bytes} (h : IsD w a len cap l) (hb : Below w.heap.size w w') : IsD w' a len cap l :=
  ⟨h.llen, h.lcap, h.lmax, h.cmax, h.each, by
    rcases h.at_ with h0 | ⟨g, off, e, hr, hg⟩
    · exact .inl h0
    · exact .inr ⟨g, off, e, rangeAt_below' hr hb, Nat.lt_of_lt_of_le hg hb.size⟩⟩

theorem flat_at : ∀ (l : List Bytes) (i : Nat), (∀ d ∈ l, d.length = 32) → i < l.length → (l.flatten.drop (i * 32)).take 32 = l.getD i []
  | [], i, _, h => by simp at h
  | d :: l, 0, he, _ => by
    have hd := he d (by simp)
    rw [List.flatten_cons, Nat.zero_mul, List.drop_zero, List.take_append_of_le_length (by omega), List.take_of_length_le (by omega)]
    rfl
  | d :: l, i + 1, he, h => by
    have hd := he d (by simp)
    rw [List.flatten_cons, List.drop_append, List.drop_of_length_le (by omega), List.nil_append, hd, show (i + 1) * 32 - 32 = i * 32 from by omega, flat_at l i (fun x hx => he x (by simp [hx])) (by simpa using h)]
    rfl

theorem range_dg {w : World} {g off : Nat} {l : List Bytes} (h : w.rangeAt g off (dcells l)) (he : ∀ d ∈ l, d.length = 32) {i : Nat} (hi : i < l.length) : w.rangeAt g (off + i * 32) ((l.getD i []).map B) := by
  have h1 := rangeAt_take (rangeAt_drop h (i * 32)) 32
  unfold dcells at h1
  rwa [← List.map_drop, ← List.map_take, flat_at l i he hi] at h1

theorem getD_len {l : List Bytes} (he : ∀ d ∈ l, d.length = 32) {i : Nat} (hi : i < l.length) : (l.getD i []).length = 32 := by
  rw [List.getD_eq_getElem?_getD, List.getElem?_eq_getElem hi]
  exact he _ (List.getElem_mem hi)

theorem dg_info (d : Bytes) (h : d.length = 32) : (Tryd.prog.info? 27).map (·.size) = some (d.map B).length := by rw [List.length_map, h]; kernel_rfl

/-- a load of a long array in a region that draws its order -/
theorem wpStill_load_mid {P : Program} {ops : Array Oper} {w : World} {Q : Act → Prop} {a : Act} {o : Oper} {rest : List Oper} (hgd : o.guard = none) (ty : TypeId) (x : Operand) (ho : o.op = .load ty x)
    (b off : Nat) (hx : a.eval x = .pointer (some ⟨b, off, none⟩)) (cs : List Value) (d : TypeDesc) (hc : w.rangeAt b off cs)
    (hu : P.underlying ty = some d) (hd : d.isRow = true) (hi : (P.info? ty).map (·.size) = some cs.length)
    (h : wpStill P ops w Q rest (a.put o.dst (.agg cs.toArray))) : wpStill P ops w Q (o :: rest) a := by
  have hw : Region.wanted o (yielded ops a.tmps) = true := by simp [Region.wanted, hgd]
  unfold wpStill
  rw [if_pos hw]
  unfold Oper.still execOp
  simp only [ho, hx, Instr.loadAt, Instr.sureAddr, Sem.run_bind, Sem.run_pure, Result.andThen_ok, run_loadVar_mid w b off ty cs d hc hu hd hi, Oper.stillUpon_value]
  exact h

set_option maxHeartbeats 2000000 in
theorem rising_any (a : Option Addr) (len cap : Nat) (l : List Bytes) (w : World) (hd : IsD w a len cap l) :
    Calls Tryd.prog 89 #[.slice a len cap, .func (.func 90) #[] #[]] w fun e w' => e = .returned (.bool (usedB l)) ∧ Below w.heap.size w w' := by
  have HD := Seal.mk hd
  have hll := hd.llen
  have hlm := hd.lmax
  clear hd
  go_enter Tryd.func89, Tryd.ntmps89
  go_wp2
  go_loopw [5] (fun i wr => ∃ k : Nat, 1 ≤ k ∧ (k ≤ len ∨ k = 1) ∧ i = .int .i64 k ∧ Seal (Below w.heap.size w wr ∧ ∀ j, j + 1 < k → blt (l.getD j []) (l.getD (j + 1) []) = true)) (fun i _ => len - (intOf i).toNat)
  case atStart => exact ⟨1, by omega, .inr rfl, rfl, ⟨Below.refl _ _, fun j hj => by omega⟩⟩
  case round =>
    obtain ⟨k, hk1, hk, rfl, hH⟩ := hrel
    by_cases hlt : k < len
    · have HDr := HD.out.of_heap hH.out.1
      rcases HDr.at_ with h0 | ⟨g, off, rfl, hr, hg⟩
      · omega
      · obtain ⟨x, hx⟩ : ∃ x, x = l.getD (k - 1) [] := ⟨_, rfl⟩
        obtain ⟨y, hy⟩ : ∃ y, y = l.getD k [] := ⟨_, rfl⟩
        have r1 := range_dg hr HDr.each (i := k - 1) (by omega)
        have r2 := range_dg hr HDr.each (i := k) (by omega)
        have x32 := getD_len HDr.each (i := k - 1) (by omega)
        have y32 := getD_len HDr.each (i := k) (by omega)
        rw [← hx] at r1 x32
        rw [← hy] at r2 y32
        have HC : Seal (∀ W, Calls Tryd.prog 90 #[.agg (x.map B).toArray, .agg (y.map B).toArray] W fun e w' => e = .returned (.int .i64 (cmpB x y)) ∧ Below W.heap.size W w') := ⟨fun W => compare_any x y W x32 y32⟩
        have i1 := dg_info x x32
        have i2 := dg_info y y32
        have ut := Tryd.underlying27
        have q1 : IntKind.i64.wrap ((k : Int) - 1) = k - 1 := IntWalk.i64_in _ (by omega)
        have q2 : ((k : Int) - 1).toNat = k - 1 := by omega
        have q3 : 0 ≤ (k : Int) - 1 := by omega
        have q4 : (k : Int) - 1 < (len : Int) := by omega
        have q5 : (k : Int) < (len : Int) := by omega
        have q6 : 1 ≤ (k : Int) := by omega
        have HX := Seal.mk hx
        have HY := Seal.mk hy
        clear hr HDr hll hx hy x32 y32
        go_wp2_with fail
        go_still_tail 10, (by kernel_rfl)
        refine wpStill_load_mid rfl 27 (.tmp 16) rfl g (off + (k - 1) * 32) rfl (x.map B) _ r1 ut rfl i1 ?_
        repeat still_step
        refine wpStill_load_mid rfl 27 (.tmp 20) rfl g (off + k * 32) rfl (y.map B) _ r2 ut rfl i2 ?_
        refine wpStill_nil ?_
        change wpList _ _ _ _ _ wr.drew
        go_wp2_with fail
        refine (HC.out _).mono ?_
        rintro e w1 ⟨rfl, hb1⟩
        have HB1 : Seal (Below w.heap.size w w1) := ⟨hH.out.1.trans ((show Below wr.heap.size wr w1 from ⟨hb1.os, hb1.tape, hb1.output, hb1.size, hb1.block⟩).mono hH.out.1.size)⟩
        clear hb1
        clear q1 q2 q3 q4 i1 i2 ut r1 r2 HC
        by_cases hc : 0 ≤ cmpB x y
        · have HN : Seal (usedB l = false) := ⟨by
            cases hu : usedB l with
            | false => rfl
            | true =>
              have := (usedB_iff l).1 hu (k - 1) (by rw [HD.out.llen]; omega)
              rw [show k - 1 + 1 = k from by omega, ← HX.out, ← HY.out] at this
              have := (cmpB_neg _ _).2 this
              omega⟩
          generalize cmpB x y = c at *
          go_wp2
          go_ret
          exact ⟨ret_bool HN.out.symm, HB1.out⟩
        · have HL : Seal (blt (l.getD (k - 1) []) (l.getD k []) = true) := ⟨by rw [← HX.out, ← HY.out]; exact (cmpB_neg _ _).1 (by omega)⟩
          generalize cmpB x y = c at *
          go_wp2
          go_roundw
          case rel =>
            refine ⟨k + 1, by omega, .inl hlt, by go_num, ⟨HB1.out, fun j hj => ?_⟩⟩
            by_cases hjk : j + 1 < k
            · exact hH.out.2 j hjk
            · obtain rfl : j = k - 1 := by omega
              rw [show k - 1 + 1 = k from by omega]
              exact HL.out
          case measure => simp [intOf]; omega
    · have HN : Seal (usedB l = true) := ⟨(usedB_iff l).2 fun i hi => hH.out.2 i (by rw [HD.out.llen] at hi; omega)⟩
      have HB1 := Seal.mk hH.out.1
      have q5 : ¬ (k : Int) < (len : Int) := by omega
      clear hH
      go_wp2
      go_ret
      exact ⟨ret_bool HN.out.symm, HB1.out⟩

/-- the same, at an operation that a guard wants -/
theorem wpStill_load_mid' {P : Program} {ops : Array Oper} {w : World} {Q : Act → Prop} {a : Act} {o : Oper} {rest : List Oper} (hw : Region.wanted o (yielded ops a.tmps) = true) (ty : TypeId) (x : Operand) (ho : o.op = .load ty x)
    (b off : Nat) (hx : a.eval x = .pointer (some ⟨b, off, none⟩)) (cs : List Value) (d : TypeDesc) (hc : w.rangeAt b off cs)
    (hu : P.underlying ty = some d) (hd : d.isRow = true) (hi : (P.info? ty).map (·.size) = some cs.length)
    (h : wpStill P ops w Q rest (a.put o.dst (.agg cs.toArray))) : wpStill P ops w Q (o :: rest) a := by
  unfold wpStill
  rw [if_pos hw]
  unfold Oper.still execOp
  simp only [ho, hx, Instr.loadAt, Instr.sureAddr, Sem.run_bind, Sem.run_pure, Result.andThen_ok, run_loadVar_mid w b off ty cs d hc hu hd hi, Oper.stillUpon_value]
  exact h

/-- an operation of a region is taken first, its parts laid out -/
theorem take_h {P : Program} {md : Region.Mode} {ops : Array Oper} {Q : Exit → Act → World → Prop} {S : World → Prop} {dst : Option Tmp} {op : Op} {ty : TypeId} {pos : String} {after : Array Edge} {guard : Option (Nat × Bool)} (i : Nat) (v : Value) {fuel : Nat} {listed : Array Bool} {a : Act} {w : World}
    (hi : ops[i]? = some { dst := dst, op := op, type := ty, pos := pos, after := after, guard := guard }) (hs : Region.noSelect ops = true) (hf : Region.free md ops listed i = true) (hr : (Region.ready md ops listed).contains i = true)
    (hQ : ∀ c a w, Q (.panic c) (a.put dst v) w → Q (.panic c) a w) (hy : YieldsIf P ops S { dst := dst, op := op, type := ty, pos := pos, after := after, guard := guard } v a) (hS : S w)
    (h : wpAnyH P md ops Q S fuel (listed.setIfInBounds i true) (a.put dst v) w) : wpAnyH P md ops Q S (fuel + 1) listed a w :=
  wpAnyH_take hi hs hf hr hQ hy hS h

/-- a call that alone may come up -/
theorem call_h {P : Program} {md : Region.Mode} {ops : Array Oper} {Q : Exit → Act → World → Prop} {S : World → Prop} {dst : Option Tmp} {op : Op} {ty : TypeId} {pos : String} {after : Array Edge} {guard : Option (Nat × Bool)} (i : Nat) {fuel : Nat} {listed : Array Bool} {a : Act} {w : World}
    (hi : ops[i]? = some { dst := dst, op := op, type := ty, pos := pos, after := after, guard := guard }) (hr : Region.ready md ops listed = [i]) (f : FuncId) (args : Array Value)
    (hw : Region.wanted { dst := dst, op := op, type := ty, pos := pos, after := after, guard := guard } (yielded ops a.tmps) = true)
    (hrun : (execOp a.eval { dst := dst, op := op, type := ty, pos := pos, after := after, guard := guard }).run P w = .ok (.enter f args) w)
    (hc : Calls P f args w fun e w' => ∃ v, e = .returned v ∧ S w' ∧ (S w' → wpAnyH P md ops Q S fuel (listed.setIfInBounds i true) (a.put dst v) w')) : wpAnyH P md ops Q S (fuel + 1) listed a w :=
  wpAnyH_ready hr (by simp) (AllReadyH.cons hi (fun K hK => by
    rw [if_pos hw]
    unfold Oper.wp
    rw [hrun, Oper.upon_enter]
    refine hc.mono ?_
    rintro e w' ⟨v, rfl, hS, hn⟩
    exact hK.out _ _ hS hn) AllReadyH.nil)

theorem mid_bits (i j : Nat) (_h : i + j < 9223372036854775808) : ((i : Int) + (j : Int)) / 2 = (((i + j) / 2 : Nat) : Int) := by omega

set_option maxHeartbeats 1000000 in
theorem bsearch_any (a : Option Addr) (len cap : Nat) (l : List Bytes) (d : Bytes) (w : World) (hd : IsD w a len cap l) (h32 : d.length = 32) (hu : usedB l = true) :
    Calls Tryd.prog 91 #[.slice a len cap, .agg (d.map B).toArray, .func (.func 90) #[] #[]] w fun e w' => e = .returned (.tuple #[.int .i64 (atB l d : Nat), .bool (hasB l d)]) ∧ Below w.heap.size w w' := by
  have HL := Seal.mk hd.llen
  have hlm := hd.lmax
  have HU := Seal.mk hu
  have HD32 := Seal.mk h32
  have i1 := dg_info d h32
  have ut := Tryd.underlying27
  have HC : Seal (∀ x y W, x.length = 32 → y.length = 32 → Calls Tryd.prog 90 #[.agg (x.map B).toArray, .agg (y.map B).toArray] W fun e w' => e = .returned (.int .i64 (cmpB x y)) ∧ Below W.heap.size W w') := ⟨fun x y W h1 h2 => compare_any x y W h1 h2⟩
  obtain ⟨X, hX⟩ : ∃ X : World, Seal (X = w.alloc (.cells (d.map B).toArray 27)) := ⟨_, ⟨rfl⟩⟩
  have hXb : Seal (Below w.heap.size w X) := ⟨by rw [hX.out]; exact below_alloc _ _⟩
  have hXs : Seal (X.heap.size = w.heap.size + 1) := ⟨by rw [hX.out, size_alloc]⟩
  have hXr : Seal (X.rangeAt w.heap.size 0 (d.map B)) := ⟨by rw [hX.out]; exact rangeAt_new w _ _ _⟩
  have HD : Seal (IsD X a len cap l) := ⟨hd.of_heap hXb.out⟩
  clear hd hu h32
  go_enter Tryd.func91, Tryd.ntmps91
  go_wp2
  rw [← hX.out]
  go_loopw [9, 10] (fun lo hi wr => ∃ i j : Nat, i ≤ j ∧ j ≤ len ∧ lo = .int .i64 i ∧ hi = .int .i64 j ∧ Seal (Below X.heap.size X wr ∧ (∀ t, t < i → blt (l.getD t []) d = true) ∧ (j < len → blt (l.getD j []) d = false))) (fun lo hi _ => (intOf hi - intOf lo).toNat)
  case atStart => exact ⟨0, len, by omega, by omega, rfl, rfl, ⟨by rw [hX.out]; exact Below.refl _ _, fun t ht => by omega, fun h => by omega⟩⟩
  case round =>
    obtain ⟨i, j, hij, hj, rfl, rfl, hH⟩ := hrel
    by_cases hlt : i < j
    · have HDr := HD.out.of_heap hH.out.1
      have rX := rangeAt_below' hXr.out hH.out.1
      rcases HDr.at_ with h0 | ⟨g, off, rfl, hr, hg⟩
      · omega
      · obtain ⟨m, hm⟩ : ∃ m, m = (i + j) / 2 := ⟨_, rfl⟩
        have hm1 : i ≤ m ∧ m < j := by omega
        have q0 := mid_bits i j (by omega)
        rw [← hm] at q0
        obtain ⟨x, hx⟩ : ∃ x, x = l.getD m [] := ⟨_, rfl⟩
        have r1 := range_dg hr HDr.each (i := m) (by rw [HL.out]; omega)
        have x32 := getD_len HDr.each (i := m) (by rw [HL.out]; omega)
        rw [← hx] at r1 x32
        have HC1 : Seal (∀ W, Calls Tryd.prog 90 #[.agg (x.map B).toArray, .agg (d.map B).toArray] W fun e w' => e = .returned (.int .i64 (cmpB x d)) ∧ Below W.heap.size W w') := ⟨fun W => HC.out x d W x32 HD32.out⟩
        have i2 := dg_info x x32
        have HX := Seal.mk hx
        have HM := Seal.mk hm
        have q5 : (m : Int) < (len : Int) := by omega
        clear hr HDr hx x32 hm
        go_wp2_with fail
        go_still_tail 6, (by kernel_rfl)
        refine wpStill_load_mid rfl 27 (.tmp 27) rfl g (off + m * 32) rfl (x.map B) _ r1 ut rfl i2 ?_
        refine wpStill_load_mid rfl 27 (.tmp 4) rfl w.heap.size 0 rfl (d.map B) _ rX ut rfl i1 ?_
        refine wpStill_nil ?_
        change wpList _ _ _ _ _ wr.drew
        go_wp2_with fail
        refine (HC1.out _).mono ?_
        rintro e w1 ⟨rfl, hb1⟩
        have HB1 : Seal (Below X.heap.size X w1) := ⟨hH.out.1.trans ((show Below wr.heap.size wr w1 from ⟨hb1.os, hb1.tape, hb1.output, hb1.size, hb1.block⟩).mono hH.out.1.size)⟩
        clear hb1 HC1 r1 rX q0
        by_cases hc : cmpB x d < 0
        · have HL1 : Seal (blt (l.getD m []) d = true) := ⟨by rw [← HX.out]; exact (cmpB_neg _ _).1 hc⟩
          generalize cmpB x d = c at *
          go_wp2
          go_roundw
          case rel =>
            refine ⟨m + 1, j, by omega, hj, by go_num, rfl, ⟨HB1.out, fun t ht => ?_, hH.out.2.2⟩⟩
            by_cases htm : t = m
            · subst htm; exact HL1.out
            · exact blt_trans (used_lt HU.out m t (by omega) (by rw [HL.out]; omega)) HL1.out
          case measure => simp [intOf]; omega
        · have HL1 : Seal (blt (l.getD m []) d = false) := ⟨by
            cases h : blt (l.getD m []) d with
            | false => rfl
            | true => rw [← HX.out] at h; exact absurd ((cmpB_neg _ _).2 h) hc⟩
          generalize cmpB x d = c at *
          go_wp2
          go_roundw
          case rel => exact ⟨i, m, hm1.1, by omega, rfl, rfl, ⟨HB1.out, hH.out.2.1, fun _ => HL1.out⟩⟩
          case measure => simp [intOf]; omega
    · obtain rfl : i = j := by omega
      have HA : Seal (i = atB l d) := ⟨atB_unique (by rw [HL.out]; exact hj) hH.out.2.1 (fun h => hH.out.2.2 (by rw [HL.out] at h; exact h))⟩
      have HBw : Seal (Below w.heap.size w wr) := ⟨hXb.out.trans (hH.out.1.mono hXb.out.size)⟩
      by_cases hil : i < len
      · have HDr := HD.out.of_heap hH.out.1
        have rX := rangeAt_below' hXr.out hH.out.1
        rcases HDr.at_ with h0 | ⟨g, off, rfl, hr, hg⟩
        · omega
        · obtain ⟨x, hx⟩ : ∃ x, x = l.getD i [] := ⟨_, rfl⟩
          have r1 := range_dg hr HDr.each (i := i) (by rw [HL.out]; omega)
          have x32 := getD_len HDr.each (i := i) (by rw [HL.out]; omega)
          rw [← hx] at r1 x32
          have HC1 : Seal (∀ W, Calls Tryd.prog 90 #[.agg (x.map B).toArray, .agg (d.map B).toArray] W fun e w' => e = .returned (.int .i64 (cmpB x d)) ∧ Below W.heap.size W w') := ⟨fun W => HC.out x d W x32 HD32.out⟩
          have i2 := dg_info x x32
          have HF : Seal ((cmpB x d == 0) = hasB l d) := ⟨by
            rw [Bool.eq_iff_iff, has_iff_at HU.out, ← HA.out, ← hx, beq_iff_eq, cmpB_zero, HL.out]
            exact ⟨fun h => ⟨hil, h⟩, fun h => h.2⟩⟩
          have q5 : (i : Int) < (len : Int) := by omega
          clear hr HDr hx x32 hlt
          go_wp2_with fail
          refine wp_region_held_drew (S := fun w' => w'.rangeAt g (off + i * 32) (x.map B) ∧ w'.rangeAt w.heap.size 0 (d.map B)) (by kernel_rfl) ⟨r1, rX⟩ (fun hHeld => ?_)
          refine take_h 0 ?_ rfl (by kernel_rfl) (by kernel_rfl) (by kernel_rfl) (fun _ _ _ h => h) (Or.inl ⟨by kernel_rfl, ?_⟩) (by assumption) ?_
          rotate_left
          · (intro w hSw; (try dsimp only at hSw); go_simp; try (with_reducible rfl))
          try simp only [Act.put, List.setIfInBounds_toArray, List.set_cons_zero, List.set_cons_succ]
          refine take_h 1 ?_ rfl (by kernel_rfl) (by kernel_rfl) (by kernel_rfl) (fun _ _ _ h => h) (Or.inl ⟨by kernel_rfl, ?_⟩) (by assumption) ?_
          rotate_left
          · (intro w hSw; (try dsimp only at hSw); go_simp; try (with_reducible rfl))
          try simp only [Act.put, List.setIfInBounds_toArray, List.set_cons_zero, List.set_cons_succ]
          refine take_h 2 ?_ rfl (by kernel_rfl) (by kernel_rfl) (by kernel_rfl) (fun _ _ _ h => h) (Or.inl ⟨by kernel_rfl, ?_⟩) (by assumption) ?_
          rotate_left
          · (intro w hSw; (try dsimp only at hSw); go_simp; try (with_reducible rfl))
          try simp only [Act.put, List.setIfInBounds_toArray, List.set_cons_zero, List.set_cons_succ]
          refine take_h 3 ?_ rfl (by kernel_rfl) (by kernel_rfl) (by kernel_rfl) (fun _ _ _ h => h) (Or.inl ⟨by kernel_rfl, ?_⟩) (by assumption) ?_
          rotate_left
          · (intro w hSw; (try dsimp only at hSw); go_simp; try (with_reducible rfl))
          try simp only [Act.put, List.setIfInBounds_toArray, List.set_cons_zero, List.set_cons_succ]
          refine take_h 4 ?_ rfl (by kernel_rfl) (by kernel_rfl) (by kernel_rfl) (fun _ _ _ h => h) (Or.inl ⟨by kernel_rfl, ?_⟩) (by assumption) ?_
          rotate_left
          · (intro w hSw; (try dsimp only at hSw); go_simp; try (with_reducible rfl))
          try simp only [Act.put, List.setIfInBounds_toArray, List.set_cons_zero, List.set_cons_succ]
          refine take_h 5 ?_ rfl (by kernel_rfl) (by kernel_rfl) (by kernel_rfl) (fun _ _ _ h => h) (Or.inl ⟨by kernel_rfl, ?_⟩) (by assumption) ?_
          rotate_left
          · (intro w hSw; (try dsimp only at hSw); go_simp; try (with_reducible rfl))
          try simp only [Act.put, List.setIfInBounds_toArray, List.set_cons_zero, List.set_cons_succ]
          refine take_h 6 ?_ rfl (by kernel_rfl) (by kernel_rfl) (by kernel_rfl) (fun _ _ _ h => h) (Or.inl ⟨by kernel_rfl, ?_⟩) (by assumption) ?_
          rotate_left
          · (intro w hSw; (try dsimp only at hSw); go_simp; try (with_reducible rfl))
          try simp only [Act.put, List.setIfInBounds_toArray, List.set_cons_zero, List.set_cons_succ]
          refine take_h 7 ?_ rfl (by kernel_rfl) (by kernel_rfl) (by kernel_rfl) (fun _ _ _ h => h) (Or.inl ⟨by kernel_rfl, ?_⟩) (by assumption) ?_
          rotate_left
          · (intro w hSw; (try dsimp only at hSw); go_simp; try (with_reducible rfl))
          try simp only [Act.put, List.setIfInBounds_toArray, List.set_cons_zero, List.set_cons_succ]
          refine take_h 8 ?_ rfl (by kernel_rfl) (by kernel_rfl) (by kernel_rfl) (fun _ _ _ h => h) (Or.inl ⟨by kernel_rfl, ?_⟩) (by assumption) ?_
          rotate_left
          · (intro w hSw; (try dsimp only at hSw); go_simp; try (with_reducible rfl))
          try simp only [Act.put, List.setIfInBounds_toArray, List.set_cons_zero, List.set_cons_succ]
          refine take_h 9 _ rfl (by kernel_rfl) (by kernel_rfl) (by kernel_rfl) (fun _ _ _ h => h) (yieldsIf_load_mid (by kernel_rfl) 27 (.tmp 43) rfl g (off + i * 32) rfl (x.map B) _ (fun w hSw => hSw.1) ut rfl i2) (by assumption) ?_
          try simp only [Act.put, List.setIfInBounds_toArray, List.set_cons_zero, List.set_cons_succ]
          refine take_h 10 _ rfl (by kernel_rfl) (by kernel_rfl) (by kernel_rfl) (fun _ _ _ h => h) (yieldsIf_load_mid (by kernel_rfl) 27 (.tmp 4) rfl w.heap.size 0 rfl (d.map B) _ (fun w hSw => hSw.2) ut rfl i1) (by assumption) ?_
          try simp only [Act.put, List.setIfInBounds_toArray, List.set_cons_zero, List.set_cons_succ]
          refine call_h 11 rfl (by kernel_rfl) 90 #[.agg (x.map B).toArray, .agg (d.map B).toArray] (by kernel_rfl) (by go_simp) ?_
          refine (HC1.out _).mono ?_
          rintro e w1 ⟨rfl, hb1⟩
          have hb2 : Below wr.heap.size wr w1 := ⟨hb1.os, hb1.tape, hb1.output, hb1.size, hb1.block⟩
          have HB1 : Seal (Below w.heap.size w w1) := ⟨HBw.out.trans (hb2.mono HBw.out.size)⟩
          refine ⟨_, rfl, ⟨rangeAt_below' r1 hb2, rangeAt_below' rX hb2⟩, fun hHeld2 => ?_⟩
          clear hb1 hb2 HC1 r1 rX hHeld
          have hHeld := hHeld2
          clear hHeld2
          generalize cmpB x d = c at *
          try simp only [Act.put, List.setIfInBounds_toArray, List.set_cons_zero, List.set_cons_succ]
          refine take_h 12 ?_ rfl (by kernel_rfl) (by kernel_rfl) (by kernel_rfl) (fun _ _ _ h => h) (Or.inl ⟨by kernel_rfl, ?_⟩) (by assumption) ?_
          rotate_left
          · (intro w hSw; (try dsimp only at hSw); go_simp; try (with_reducible rfl))
          try simp only [Act.put, List.setIfInBounds_toArray, List.set_cons_zero, List.set_cons_succ]
          refine take_h 13 ?_ rfl (by kernel_rfl) (by kernel_rfl) (by kernel_rfl) (fun _ _ _ h => h) (Or.inl ⟨by kernel_rfl, ?_⟩) (by assumption) ?_
          rotate_left
          · (intro w hSw; (try dsimp only at hSw); go_simp; try (with_reducible rfl))
          try simp only [Act.put, List.setIfInBounds_toArray, List.set_cons_zero, List.set_cons_succ]
          refine take_h 14 ?_ rfl (by kernel_rfl) (by kernel_rfl) (by kernel_rfl) (fun _ _ _ h => h) (Or.inl ⟨by kernel_rfl, ?_⟩) (by assumption) ?_
          rotate_left
          · (intro w hSw; (try dsimp only at hSw); go_simp; try (with_reducible rfl))
          try simp only [Act.put, List.setIfInBounds_toArray, List.set_cons_zero, List.set_cons_succ]
          refine take_h 15 ?_ rfl (by kernel_rfl) (by kernel_rfl) (by kernel_rfl) (fun _ _ _ h => h) (Or.inl ⟨by kernel_rfl, ?_⟩) (by assumption) ?_
          rotate_left
          · (intro w hSw; (try dsimp only at hSw); go_simp; try (with_reducible rfl))
          try simp only [Act.put, List.setIfInBounds_toArray, List.set_cons_zero, List.set_cons_succ]
          refine wpAnyH_done (by kernel_rfl) ?_ _
          clear hHeld
          go_wp2
          go_ret2
          exact ⟨by rw [← HA.out, ← HF.out]; rfl, HB1.out⟩
      · have HF : Seal (hasB l d = false) := ⟨by
          cases h : hasB l d with
          | false => rfl
          | true =>
            have := ((has_iff_at HU.out).1 h).1
            rw [← HA.out, HL.out] at this; omega⟩
        have q5 : ¬ (i : Int) < (len : Int) := by omega
        have q6 : decide ((i : Int) < (len : Int)) = false := decide_eq_false q5
        clear hH hlt
        go_wp2_with fail
        go_quiet (fail)
        go_wp2
        go_ret2
        exact ⟨by rw [← HA.out, HF.out]; rfl, ⟨HBw.out.os, HBw.out.tape, HBw.out.output, HBw.out.size, HBw.out.block⟩⟩
end Frk
