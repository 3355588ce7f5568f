/- A region in which a call, number t, waits for all that reads: from it on nothing need hold. -/
import Derived.Test.YtcioeedlfbioaaaGreatDoorRow
import Derived.Test.YtcioeedlfbioaaaGreatDoorProg
import Derived.OrdersIn
import Derived.Deep.RegionHeld
import Derived.Test.YtcioeedlfbioaaaGreatDoorRus
import Derived.Test.YtcioeedlfbioaaaGreatDoorDbs
import Derived.Deep.MidRow
import Derived.Test.YtcioeedlfbioaaaGreatDoorVer
import Derived.Test.YtcioeedlfbioaaaGreatDoorBla
import Derived.Test.YtcioeedlfbioaaaGreatDoorOsp
namespace Frk
open Go Go.RowKit Go.Proofs
set_option maxRecDepth 100000

section
variable {P : Program} {ops : Array Oper} {Q : Exit → Act → World → Prop} {md : Region.Mode} {S : World → Prop} {t : Nat}

def wpAnyU (P : Program) (md : Region.Mode) (ops : Array Oper) (Q : Exit → Act → World → Prop) (S : World → Prop) (t : Nat) : Nat → Array Bool → Act → World → Prop
  | 0, listed, a, w => Region.ready md ops listed = [] ∧ Q .normal a w
  | fuel + 1, listed, a, w =>
    (Region.ready md ops listed = [] → Q .normal a w) ∧
    ∀ i ∈ Region.ready md ops listed, wpOp P ops Q i (fun a' w' => ((listed.setIfInBounds i true).getD t true = false → S w') ∧ wpAnyU P md ops Q S t fuel (listed.setIfInBounds i true) a' w') a w

theorem any_of_U : ∀ (fuel : Nat) (listed : Array Bool) (a : Act) (w : World), wpAnyU P md ops Q S t fuel listed a w → wpAny P md ops Q fuel listed a w
  | 0, _, _, _, h => h
  | fuel + 1, _, _, _, h => ⟨h.1, fun i hi => wpOp_mono (fun a' w' h' => any_of_U fuel _ a' w' h'.2) (h.2 i hi)⟩

theorem anyU_first {i : Nat} {oi : Oper} {v : Value} (hi : ops[i]? = some oi) (hsel : ∀ (j : Nat) (o : Oper) cs b, ops[j]? = some o → o.op ≠ .select cs b)
    (hQ : ∀ c a w, Q (.panic c) (a.put oi.dst v) w → Q (.panic c) a w) (hwt : waitsFor md ops t i = true) :
    ∀ (fuel : Nat) (listed : Array Bool) (a : Act) (w : World), listed.getD t true = false →
      (∀ j oj, ops[j]? = some oj → j ≠ i → listed.getD j true = false → (∀ e ∈ oj.after, Region.binds md e = true → e.on ≠ i) → oi.apart ops oj = true) →
      i ∈ Region.ready md ops listed → YieldsIf P ops S oi v a → S w →
      wpAnyU P md ops Q S t fuel (listed.setIfInBounds i true) (a.put oi.dst v) w → wpAnyU P md ops Q S t (fuel + 1) listed a w := by
  intro fuel
  induction fuel with
  | zero =>
    intro listed a w _ _ hr hy hS H
    refine ⟨fun h => (by rw [h] at hr; cases hr), fun j hj => ?_⟩
    by_cases hji : j = i
    · subst hji; exact hy.wpOp hi hS ⟨fun _ => hS, H⟩
    · have := ready_mono hj hji
      rw [H.1] at this
      cases this
  | succ fuel ih =>
    intro listed a w ht hfree hr hy hS H
    refine ⟨fun h => (by rw [h] at hr; cases hr), fun j hj => ?_⟩
    by_cases hji : j = i
    · subst hji; exact hy.wpOp hi hS ⟨fun _ => hS, H⟩
    · have h1 := H.2 j (ready_mono hj hji)
      obtain ⟨hjun, oj, hoj, hall⟩ := mem_ready.1 hj
      have hnot : ∀ e ∈ oj.after, Region.binds md e = true → e.on ≠ i := fun e he hb heq => by
        have h1 := hall e he hb
        have h0 := (mem_ready.1 hr).1
        rw [heq] at h1
        rcases Nat.lt_or_ge i listed.size with h' | h'
        · simp [h'] at h0 h1; rw [h0] at h1; cases h1
        · simp [Array.getElem?_eq_none h'] at h1
      have hjt : j ≠ t := fun e => by
        subst e
        unfold waitsFor at hwt
        rw [hoj] at hwt
        simp only [Bool.and_eq_true] at hwt
        obtain ⟨e, he, hb⟩ := Array.any_eq_true'.1 hwt.2
        simp only [Bool.and_eq_true, beq_iff_eq] at hb
        exact hnot e he hb.1 hb.2
      have h2 := wpOp_putIf hoj (hfree j oj hoj hji hjun hnot) (fun cs b => hsel i oi cs b hi) (fun cs b => hsel j oj cs b hoj) hQ hy h1
      have hfree' : ∀ k ok, ops[k]? = some ok → k ≠ i → (listed.setIfInBounds j true).getD k true = false →
          (∀ e ∈ ok.after, Region.binds md e = true → e.on ≠ i) → oi.apart ops ok = true := fun k ok hk hki hun hno => by
        refine hfree k ok hk hki ?_ hno
        by_cases hjk : j = k
        · subst hjk; exact hjun
        · rw [getD_set_ne true hjk] at hun; exact hun
      have hit : i ≠ t := fun e => by
        subst e
        unfold waitsFor at hwt
        simp at hwt
      have hset : ((listed.setIfInBounds i true).setIfInBounds j true).getD t true = false := by
        rw [getD_set_ne true hjt, getD_set_ne true hit]; exact ht
      refine wpOp_mono (fun a' w' h3 => ⟨fun _ => h3.2.1 hset, ih (listed.setIfInBounds j true) a' w' (by rw [getD_set_ne true hjt]; exact ht) hfree' (ready_mono hr (Ne.symm hji)) h3.1 (h3.2.1 hset) ?_⟩) h2
      rw [Array.setIfInBounds_comm _ _ hji]
      exact h3.2.2
theorem anyU_first2 {i m : Nat} {oi : Oper} {v : Value} (hi : ops[i]? = some oi) (hsel : ∀ (j : Nat) (o : Oper) cs b, ops[j]? = some o → o.op ≠ .select cs b)
    (hQ : ∀ c a w, Q (.panic c) (a.put oi.dst v) w → Q (.panic c) a w) (hwt1 : waitsFor md ops t m = true) (hwt : waitsFor md ops m i = true) (hit : i ≠ t) :
    ∀ (fuel : Nat) (listed : Array Bool) (a : Act) (w : World), listed.getD t true = false → listed.getD m true = false →
      (∀ j oj, ops[j]? = some oj → j ≠ i → listed.getD j true = false → (∀ e ∈ oj.after, Region.binds md e = true → e.on ≠ i) → oi.apart ops oj = true) →
      i ∈ Region.ready md ops listed → YieldsIf P ops S oi v a → S w →
      wpAnyU P md ops Q S t fuel (listed.setIfInBounds i true) (a.put oi.dst v) w → wpAnyU P md ops Q S t (fuel + 1) listed a w := by
  intro fuel
  induction fuel with
  | zero =>
    intro listed a w _ _ _ hr hy hS H
    refine ⟨fun h => (by rw [h] at hr; cases hr), fun j hj => ?_⟩
    by_cases hji : j = i
    · subst hji; exact hy.wpOp hi hS ⟨fun _ => hS, H⟩
    · have := ready_mono hj hji
      rw [H.1] at this
      cases this
  | succ fuel ih =>
    intro listed a w ht hm hfree hr hy hS H
    refine ⟨fun h => (by rw [h] at hr; cases hr), fun j hj => ?_⟩
    by_cases hji : j = i
    · subst hji; exact hy.wpOp hi hS ⟨fun _ => hS, H⟩
    · have h1 := H.2 j (ready_mono hj hji)
      obtain ⟨hjun, oj, hoj, hall⟩ := mem_ready.1 hj
      have hnot : ∀ e ∈ oj.after, Region.binds md e = true → e.on ≠ i := fun e he hb heq => by
        have h1 := hall e he hb
        have h0 := (mem_ready.1 hr).1
        rw [heq] at h1
        rcases Nat.lt_or_ge i listed.size with h' | h'
        · simp [h'] at h0 h1; rw [h0] at h1; cases h1
        · simp [Array.getElem?_eq_none h'] at h1
      have hjm : j ≠ m := fun e => by
        subst e
        unfold waitsFor at hwt
        rw [hoj] at hwt
        simp only [Bool.and_eq_true] at hwt
        obtain ⟨e, he, hb⟩ := Array.any_eq_true'.1 hwt.2
        simp only [Bool.and_eq_true, beq_iff_eq] at hb
        exact hnot e he hb.1 hb.2
      have h2 := wpOp_putIf hoj (hfree j oj hoj hji hjun hnot) (fun cs b => hsel i oi cs b hi) (fun cs b => hsel j oj cs b hoj) hQ hy h1
      have hfree' : ∀ k ok, ops[k]? = some ok → k ≠ i → (listed.setIfInBounds j true).getD k true = false →
          (∀ e ∈ ok.after, Region.binds md e = true → e.on ≠ i) → oi.apart ops ok = true := fun k ok hk hki hun hno => by
        refine hfree k ok hk hki ?_ hno
        by_cases hjk : j = k
        · subst hjk; exact hjun
        · rw [getD_set_ne true hjk] at hun; exact hun
      have hjt : j ≠ t := fun e => by
        subst e
        unfold waitsFor at hwt1
        rw [hoj] at hwt1
        simp only [Bool.and_eq_true] at hwt1
        obtain ⟨e, he, hb⟩ := Array.any_eq_true'.1 hwt1.2
        simp only [Bool.and_eq_true, beq_iff_eq] at hb
        have h1 := hall e he hb.1
        rw [hb.2] at h1
        rcases Nat.lt_or_ge m listed.size with h' | h'
        · simp [h'] at hm h1; rw [hm] at h1; cases h1
        · simp [Array.getElem?_eq_none h'] at h1
      have hset : ((listed.setIfInBounds i true).setIfInBounds j true).getD t true = false := by
        rw [getD_set_ne true hjt, getD_set_ne true hit]; exact ht
      refine wpOp_mono (fun a' w' h3 => ⟨fun _ => h3.2.1 hset, ih (listed.setIfInBounds j true) a' w' (by rw [getD_set_ne true hjt]; exact ht) (by rw [getD_set_ne true hjm]; exact hm) hfree' (ready_mono hr (Ne.symm hji)) h3.1 (h3.2.1 hset) ?_⟩) h2
      rw [Array.setIfInBounds_comm _ _ hji]
      exact h3.2.2
end

section
variable {P : Program} {md : Region.Mode} {ops : Array Oper} {Q : Exit → Act → World → Prop} {S : World → Prop} {t : Nat} {dst : Option Tmp} {op : Op} {ty : TypeId} {pos : String} {after : Array Edge} {guard : Option (Nat × Bool)}

theorem take_u (i : Nat) (v : Value) {fuel : Nat} {listed : Array Bool} {a : Act} {w : World}
    (hi : ops[i]? = some { dst := dst, op := op, type := ty, pos := pos, after := after, guard := guard }) (hs : Region.noSelect ops = true) (hf : Region.free md ops listed i = true) (hr : (Region.ready md ops listed).contains i = true) (hwt : waitsFor md ops t i = true) (ht : listed.getD t true = false)
    (hQ : ∀ c a w, Q (.panic c) (a.put dst v) w → Q (.panic c) a w) (hy : YieldsIf P ops S { dst := dst, op := op, type := ty, pos := pos, after := after, guard := guard } v a) (hS : S w)
    (h : wpAnyU P md ops Q S t fuel (listed.setIfInBounds i true) (a.put dst v) w) : wpAnyU P md ops Q S t (fuel + 1) listed a w :=
  anyU_first hi (Region.noSelect_spec hs) hQ hwt fuel listed a w ht (Region.free_spec hi hf) (by simpa using hr) hy hS h

theorem take_u2 (i m : Nat) (v : Value) {fuel : Nat} {listed : Array Bool} {a : Act} {w : World}
    (hi : ops[i]? = some { dst := dst, op := op, type := ty, pos := pos, after := after, guard := guard }) (hs : Region.noSelect ops = true) (hf : Region.free md ops listed i = true) (hr : (Region.ready md ops listed).contains i = true) (hwt1 : waitsFor md ops t m = true) (hwt : waitsFor md ops m i = true) (hit : decide (i = t) = false) (ht : listed.getD t true = false) (hm : listed.getD m true = false)
    (hQ : ∀ c a w, Q (.panic c) (a.put dst v) w → Q (.panic c) a w) (hy : YieldsIf P ops S { dst := dst, op := op, type := ty, pos := pos, after := after, guard := guard } v a) (hS : S w)
    (h : wpAnyU P md ops Q S t fuel (listed.setIfInBounds i true) (a.put dst v) w) : wpAnyU P md ops Q S t (fuel + 1) listed a w :=
  anyU_first2 hi (Region.noSelect_spec hs) hQ hwt1 hwt (of_decide_eq_false hit) fuel listed a w ht hm (Region.free_spec hi hf) (by simpa using hr) hy hS h

theorem readyU_one {i : Nat} {fuel : Nat} {listed : Array Bool} {a : Act} {w : World} (hr : Region.ready md ops listed = [i]) (h : wpOp P ops Q i (fun a' w' => ((listed.setIfInBounds i true).getD t true = false → S w') ∧ wpAnyU P md ops Q S t fuel (listed.setIfInBounds i true) a' w') a w) : wpAnyU P md ops Q S t (fuel + 1) listed a w :=
  ⟨fun h0 => (by rw [hr] at h0; cases h0), fun j hj => (by rw [hr] at hj; obtain rfl : j = i := (by simpa using hj); exact h)⟩

/-- a call before the one that nothing outlives -/
theorem call_u (i : Nat) {fuel : Nat} {listed : Array Bool} {a : Act} {w : World}
    (hi : ops[i]? = some { dst := dst, op := op, type := ty, pos := pos, after := after, guard := guard }) (hr : Region.ready md ops listed = [i]) (f : FuncId) (args : Array Value)
    (hw : Region.wanted { dst := dst, op := op, type := ty, pos := pos, after := after, guard := guard } (yielded ops a.tmps) = true)
    (hrun : (execOp a.eval { dst := dst, op := op, type := ty, pos := pos, after := after, guard := guard }).run P w = .ok (.enter f args) w)
    (hc : Calls P f args w fun e w' => ∃ v, e = .returned v ∧ S w' ∧ (S w' → wpAnyU P md ops Q S t fuel (listed.setIfInBounds i true) (a.put dst v) w')) : wpAnyU P md ops Q S t (fuel + 1) listed a w :=
  readyU_one hr (wpOp_step hi (fun K hK => by
    rw [if_pos hw]
    unfold Oper.wp
    rw [hrun, Oper.upon_enter]
    refine hc.mono ?_
    rintro e w' ⟨v, rfl, hS, hn⟩
    exact hK _ _ ⟨fun _ => hS, hn hS⟩))

/-- the call that nothing outlives -/
theorem call_at_u (i : Nat) {fuel : Nat} {listed : Array Bool} {a : Act} {w : World}
    (hi : ops[i]? = some { dst := dst, op := op, type := ty, pos := pos, after := after, guard := guard }) (hr : Region.ready md ops listed = [i]) (ht : (listed.setIfInBounds i true).getD t true = true) (f : FuncId) (args : Array Value)
    (hw : Region.wanted { dst := dst, op := op, type := ty, pos := pos, after := after, guard := guard } (yielded ops a.tmps) = true)
    (hrun : (execOp a.eval { dst := dst, op := op, type := ty, pos := pos, after := after, guard := guard }).run P w = .ok (.enter f args) w)
    (hc : Calls P f args w fun e w' => ∃ v, e = .returned v ∧ wpAnyU P md ops Q S t fuel (listed.setIfInBounds i true) (a.put dst v) w') : wpAnyU P md ops Q S t (fuel + 1) listed a w :=
  readyU_one hr (wpOp_step hi (fun K hK => by
    rw [if_pos hw]
    unfold Oper.wp
    rw [hrun, Oper.upon_enter]
    refine hc.mono ?_
    rintro e w' ⟨v, rfl, hn⟩
    exact hK _ _ ⟨fun h => (by rw [ht] at h; cases h), hn⟩))

/-- the last one: it yields a value -/
theorem last_u (i : Nat) {fuel : Nat} {listed : Array Bool} {a : Act} {w : World} (v : Value)
    (hi : ops[i]? = some { dst := dst, op := op, type := ty, pos := pos, after := after, guard := guard }) (hr : Region.ready md ops listed = [i]) (hr' : Region.ready md ops (listed.setIfInBounds i true) = []) (ht : (listed.setIfInBounds i true).getD t true = true)
    (hw : Region.wanted { dst := dst, op := op, type := ty, pos := pos, after := after, guard := guard } (yielded ops a.tmps) = true)
    (hrun : (execOp a.eval { dst := dst, op := op, type := ty, pos := pos, after := after, guard := guard }).run P w = .ok (.value v) w)
    (hn : Q .normal (a.put dst v) w) : wpAnyU P md ops Q S t (fuel + 1) listed a w :=
  readyU_one hr (wpOp_step hi (fun K hK => by
    rw [if_pos hw]
    unfold Oper.wp
    rw [hrun]
    refine hK _ _ ⟨fun h => (by rw [ht] at h; cases h), ?_⟩
    cases fuel with
    | zero => exact ⟨hr', hn⟩
    | succ n => exact ⟨fun _ => hn, by rw [hr']; simp⟩))

theorem wp_region_heldU (t : Nat) {id : Nat} {a : Act} {w : World} (hm : P.follows .mixedOrders = true) (hS : S w.drew)
    (h : S w.drew → wpAnyU P .any ops Q S t ops.size (Array.replicate ops.size false) a w.drew) : (Code.region id ops true).wp P Q a w :=
  wp_region_any hm (any_of_U _ _ _ _ (h hS))
end

/-- an argument of stamps' list -/
def Arg.gval : Arg → Value
  | .i n => .iface 3 (.int .i64 n)
  | .s _ _ _ b => .iface 23 (.agg (b.map B).toArray)
def Arg.dok : Arg → Prop
  | .i n => -9223372036854775808 ≤ n ∧ n ≤ 9223372036854775807
  | .s _ _ _ b => b.length = 32

theorem tg_dig (v : Value) (W : World) : (Instr.typeAssert (.iface 23 v) 20 23 true).run Tryz.prog W = .ok (.tuple #[v, .bool true]) W := by kernel_rfl
theorem tg_no (v : Value) (W : World) : (Instr.typeAssert (.iface 3 v) 20 23 true).run Tryz.prog W = .ok (.tuple #[.agg #[.int .u8 0, .int .u8 0, .int .u8 0, .int .u8 0, .int .u8 0, .int .u8 0, .int .u8 0, .int .u8 0, .int .u8 0, .int .u8 0, .int .u8 0, .int .u8 0, .int .u8 0, .int .u8 0, .int .u8 0, .int .u8 0, .int .u8 0, .int .u8 0, .int .u8 0, .int .u8 0, .int .u8 0, .int .u8 0, .int .u8 0, .int .u8 0, .int .u8 0, .int .u8 0, .int .u8 0, .int .u8 0, .int .u8 0, .int .u8 0, .int .u8 0, .int .u8 0], .bool false]) W := by kernel_rfl
theorem tg_int (v : Value) (W : World) : (Instr.typeAssert (.iface 3 v) 20 3 true).run Tryz.prog W = .ok (.tuple #[v, .bool true]) W := by kernel_rfl

/-- what stamps' list returns -/
def SlistPost (xs : List Lf) (k : Nat) (w : World) (e : Ending) (w' : World) : Prop :=
  ∃ g c, e = .returned (.agg #[.int .i64 3, .int .i64 0, .string ByteArray.empty, .slice (some ⟨g, 0, none⟩) k c]) ∧ Seal (k ≤ c ∧ g < w'.heap.size ∧ LeavesAt w' g 0 xs) ∧ Below w.heap.size w w'

set_option maxHeartbeats 4000000 in
theorem slist_any (g off k cap : Nat) (xs : List Arg) (w : World) (hk : xs.length = k) (hkc : k ≤ cap) (hk0 : 0 < k) (hk9 : k ≤ 1000) (hc : ∀ j x, xs[j]? = some x → w.cell? ⟨g, off + j, none⟩ = some x.gval) (hok : ∀ x ∈ xs, x.dok) :
    Calls Tryz.prog 44 #[.slice (some ⟨g, off, none⟩) k cap] w (SlistPost (xs.map Arg.lf) k w) := by
  have HK := Seal.mk hk
  have HC := Seal.mk hc
  have HO := Seal.mk hok
  obtain ⟨i0, hi, hz0, hz1, hz2⟩ := info_parts info_val
  have HI := Seal.mk (And.intro hi (And.intro hz0 (And.intro hz1 hz2)))
  obtain ⟨Y, hY⟩ : ∃ Y : World, Y = w.alloc (.cells #[.int .i64 0, .int .i64 0, .string ByteArray.empty, .slice none 0 0] 71) := ⟨_, rfl⟩
  have hYb : Seal (Below w.heap.size w Y) := ⟨by rw [hY]; exact below_alloc _ _⟩
  have hYs : Y.heap.size = w.heap.size + 1 := by rw [hY, size_alloc]
  have HYs := Seal.mk hYs
  obtain ⟨X, hX⟩ : ∃ X : World, X = Y.alloc (.cells #[.int .i64 3, .int .i64 0, .string ByteArray.empty, .slice none 0 0] 71) := ⟨_, rfl⟩
  have hXn : Seal (X.heap[Y.heap.size]? = some (.cells #[.int .i64 3, .int .i64 0, .string ByteArray.empty, .slice none 0 0] 71)) := ⟨by rw [hX]; exact heap_alloc_new _ _⟩
  have hXb : Seal (Below Y.heap.size Y X) := ⟨by rw [hX]; exact below_alloc _ _⟩
  have hXY : Seal (X = (w.alloc (.cells #[.int .i64 0, .int .i64 0, .string ⟨#[]⟩, .slice none 0 0] 71)).alloc (.cells #[.int .i64 3, .int .i64 0, .string ⟨#[]⟩, .slice none 0 0] 71)) := ⟨by rw [hX, hY]; rfl⟩
  have HYr : Seal (Y.heap[w.heap.size]? = some (.cells #[.int .i64 0, .int .i64 0, .string ByteArray.empty, .slice none 0 0] 71 (0, 0))) := ⟨by rw [hY]; exact heap_alloc_new _ _⟩
  clear hk hc hok hi hz0 hz1 hz2 hY hX
  go_enter Tryz.func44, Tryz.ntmps44
  go_wp2
  rw [← hXY.out]
  rw [← hYs]
  clear hYs
  go_loopw [11] (fun i wr => ListRel xs Y i wr) (fun i _ => k - (intOf i).toNat)
  case atStart => exact ⟨0, .slice none 0 0, Nat.zero_le _, rfl, hXn, ⟨World.ownsRow_nil _ _ _ _⟩, hXb⟩
  case round =>
    obtain ⟨j, v, hj, rfl, hrow, hown, hb⟩ := hrel
    rw [HK.out] at hj
    have hBz := hb.out.size
    have hBs : Y.heap.size < wr.heap.size := (Array.getElem?_eq_some_iff.1 hrow.out).1
    have c3 : wr.cell? ⟨Y.heap.size, 3, none⟩ = some v := by rw [cell_of_row _ _ _ _ _ _ hrow.out]; rfl
    have hne : some Y.heap.size ≠ v.ownBlock := fun e => by have := (hown.out.lt _ e.symm).1; omega
    by_cases hlt : j < k
    · obtain ⟨x, hx⟩ : ∃ x, xs[j]? = some x := ⟨_, List.getElem?_eq_getElem (by rw [HK.out]; exact hlt)⟩
      have hcy : Y.cell? ⟨g, off + j, none⟩ = some x.gval := (hYb.out.cell (p := ⟨g, off + j, none⟩) (block_lt_of_cell (HC.out j x hx))).trans (HC.out j x hx)
      have hcx : wr.cell? ⟨g, off + j, none⟩ = some x.gval := (hb.out.cell (p := ⟨g, off + j, none⟩) (block_lt_of_cell hcy)).trans hcy
      have hox := HO.out x (List.mem_of_getElem? hx)
      have HT := Seal.mk (leafCells_take xs j x hx)
      have hgb : g < Y.heap.size := block_lt_of_cell hcy
      have q1 : (j : Int) < (k : Int) := by omega
      have q2 : (0 : Int) ≤ (j : Int) := by omega
      clear hcy
      cases x with
      | i n =>
        unfold Arg.gval at hcx
        have ta0 := fun W => tg_no (.int .i64 n) W
        have ta := fun W => tg_int (.int .i64 n) W
        clear hx hox
        go_wp2_with (at_builtin; refine wpList_append_lies _ rfl (.tmp 31) (.tmp 34) 69 rfl (Y.heap.size + 1) 71 i0 _ 4 56 Tryz.underlying69 HI.out.1 HI.out.2.1 HI.out.2.2.1 HI.out.2.2.2 rfl (by decide) v j (leafCells (xs.take j)) rfl (hown.out.alloc _) ⟨wr.heap.size, 0, none⟩ 1 1 (Lf.i n).cells rfl rfl (World.news_of_block (heap_alloc_new wr _)) (by simp [Lf.cells, Value.oneCell']) (by decide) (by unfold maxLen; omega) (by omega) (by simp; omega) _ rfl ?_; intro g1 cap1 w1 hown1 hgrow1 hat hlt1; have hr1 : w1.heap[Y.heap.size]? = some (.cells #[.int .i64 3, .int .i64 0, .string ByteArray.empty, v] 71) := (hgrow1.block _ (by simp; omega) hne).trans ((Below.heap_alloc wr _ _ hBs).trans hrow.out); have c1 : w1.cell? ⟨Y.heap.size, 3, none⟩ = some v := by { rw [cell_of_row _ _ _ _ _ _ hr1]; rfl }; have f1 : w1.frozen? ⟨Y.heap.size, 3, none⟩ = false := frozen_of_row _ _ _ _ _ hr1; have HR1 := Seal.mk hr1; have HG1 := Seal.mk hgrow1; have HW1 := Seal.mk hown1; clear hr1 hgrow1 hown1)
        refine ⟨ListRel.next (by rw [HK.out]; exact hlt) HT.out hb.out HR1.out hown.out HG1.out hBs HW1.out, ?_⟩
        simp only [intOf]; omega
      | s a len cp b =>
        have hb32 : b.length = 32 := hox
        have H32 := Seal.mk hb32
        unfold Arg.gval at hcx
        have ta1 := fun W => tg_dig (.agg (b.map B).toArray) W
        have i1 := dg_info b hb32
        have l3 : ([.int .u8 0, .int .u8 0, .int .u8 0, .int .u8 0, .int .u8 0, .int .u8 0, .int .u8 0, .int .u8 0, .int .u8 0, .int .u8 0, .int .u8 0, .int .u8 0, .int .u8 0, .int .u8 0, .int .u8 0, .int .u8 0, .int .u8 0, .int .u8 0, .int .u8 0, .int .u8 0, .int .u8 0, .int .u8 0, .int .u8 0, .int .u8 0, .int .u8 0, .int .u8 0, .int .u8 0, .int .u8 0, .int .u8 0, .int .u8 0, .int .u8 0, .int .u8 0] : List Value).length = (b.map B).length := by rw [List.length_map, hb32]; rfl
        clear hx hox hb32
        go_wp2_with (refine wpList_store_new rfl 23 (.tmp 6) (.tmp 18) rfl [.int .u8 0, .int .u8 0, .int .u8 0, .int .u8 0, .int .u8 0, .int .u8 0, .int .u8 0, .int .u8 0, .int .u8 0, .int .u8 0, .int .u8 0, .int .u8 0, .int .u8 0, .int .u8 0, .int .u8 0, .int .u8 0, .int .u8 0, .int .u8 0, .int .u8 0, .int .u8 0, .int .u8 0, .int .u8 0, .int .u8 0, .int .u8 0, .int .u8 0, .int .u8 0, .int .u8 0, .int .u8 0, .int .u8 0, .int .u8 0, .int .u8 0, .int .u8 0] (b.map B) 23 rfl rfl i1 l3 ((fun u hu => by obtain ⟨x, _, rfl⟩ := List.mem_map.1 hu; rfl)) ?_)
        obtain ⟨V, hV⟩ : ∃ V, V = wr.alloc (.cells (b.map B).toArray 23) := ⟨_, rfl⟩
        have hbV : Below wr.heap.size wr V := by rw [hV]; exact below_alloc _ _
        have rV : V.rangeAt wr.heap.size 0 (b.map B) := by rw [hV]; exact rangeAt_new wr _ _ _
        have cV : V.cell? ⟨Y.heap.size, 3, none⟩ = some v := by rw [hV]; exact cell_allocd c3 _
        rw [← hV]
        clear hV l3 i1 ta1
        refine wp_region_heldT 8 (S := fun w' => w'.cell? ⟨Y.heap.size, 3, none⟩ = some v ∧ w'.rangeAt wr.heap.size 0 (b.map B)) (by kernel_rfl) ⟨cV, rV⟩ (fun hHeld => ?_)
        refine take_t 0 ?_ rfl (by kernel_rfl) (by kernel_rfl) (by kernel_rfl) (by kernel_rfl) (fun _ _ _ h => h) (Or.inl ⟨by kernel_rfl, ?_⟩) (by assumption) ?_
        rotate_left
        · (intro w hSw; (try dsimp only at hSw); go_simp; try (with_reducible rfl))
        try simp only [Act.put, List.setIfInBounds_toArray, List.set_cons_zero, List.set_cons_succ]
        refine take_t 1 ?_ rfl (by kernel_rfl) (by kernel_rfl) (by kernel_rfl) (by kernel_rfl) (fun _ _ _ h => h) (Or.inl ⟨by kernel_rfl, ?_⟩) (by assumption) ?_
        rotate_left
        · (intro w hSw; (try dsimp only at hSw); go_simp; try (with_reducible rfl))
        try simp only [Act.put, List.setIfInBounds_toArray, List.set_cons_zero, List.set_cons_succ]
        refine take_t 2 ?_ rfl (by kernel_rfl) (by kernel_rfl) (by kernel_rfl) (by kernel_rfl) (fun _ _ _ h => h) (Or.inl ⟨by kernel_rfl, ?_⟩) (by assumption) ?_
        rotate_left
        · (intro w hSw; (try dsimp only at hSw); go_simp; try (with_reducible rfl))
        try simp only [Act.put, List.setIfInBounds_toArray, List.set_cons_zero, List.set_cons_succ]
        refine take_t 3 (.string ⟨b.toArray⟩) rfl (by kernel_rfl) (by kernel_rfl) (by kernel_rfl) (by kernel_rfl) (fun _ _ _ h => h) (Or.inl ⟨by kernel_rfl, ?_⟩) (by assumption) ?_
        · intro w hSw
          have hcv := IsB.conv (w := w) (a := some ⟨wr.heap.size, 0, none⟩) (len := 32) (cap := 32) (l := b) ⟨H32.out, Nat.le_refl _, by decide, by decide, .inr ⟨_, 0, rfl, hSw.2, by
            have := hSw.2 0 _ (List.getElem?_eq_getElem (show 0 < (b.map B).length by rw [List.length_map, H32.out]; decide))
            exact block_lt_of_cell this⟩⟩
          go_simp
        try simp only [Act.put, List.setIfInBounds_toArray, List.set_cons_zero, List.set_cons_succ]
        refine take_t 4 ?_ rfl (by kernel_rfl) (by kernel_rfl) (by kernel_rfl) (by kernel_rfl) (fun _ _ _ h => h) (Or.inl ⟨by kernel_rfl, ?_⟩) (by assumption) ?_
        rotate_left
        · (intro w hSw; (try dsimp only at hSw); go_simp; try (with_reducible rfl))
        try simp only [Act.put, List.setIfInBounds_toArray, List.set_cons_zero, List.set_cons_succ]
        have HB1 : Seal (Below Y.heap.size Y V.drew) := ⟨(hb.out.trans ((show Below wr.heap.size wr V.drew from ⟨hbV.os, hbV.tape, hbV.output, hbV.size, hbV.block⟩).mono hb.out.size))⟩
        have HR1 : Seal (V.drew.heap[Y.heap.size]? = some (.cells #[.int .i64 3, .int .i64 0, .string ByteArray.empty, v] 71)) := ⟨(hbV.block _ hBs).trans hrow.out⟩
        have HO1 : Seal (V.drew.ownsRow (Y.heap.size + 1) 71 4 v j (leafCells (xs.take j))) := ⟨ownsRow_below (w' := V.drew) hown.out ⟨hbV.os, hbV.tape, hbV.output, hbV.size, hbV.block⟩⟩
        have hs1 : Y.heap.size < V.drew.heap.size := Nat.lt_of_lt_of_le hBs hbV.size
        obtain ⟨w1, hw1⟩ : ∃ w1, w1 = V.drew := ⟨_, rfl⟩
        rw [← hw1] at HB1 HR1 HO1 hs1 hHeld ⊢
        clear hw1 cV rV hbV
        refine oper_t 5 (.slice (some ⟨w1.heap.size, 0, none⟩) 1 1) (w1.alloc (.cells #[.int .i64 2, .int .i64 0, .string ⟨b.toArray⟩, .slice none 0 0] 71)) rfl (by kernel_rfl) (by kernel_rfl) (by go_simp) ⟨cell_allocd hHeld.1 _, World.rangeAt_alloc hHeld.2 _⟩ (fun hHeld3 => ?_)
        clear hHeld
        try simp only [Act.put, List.setIfInBounds_toArray, List.set_cons_zero, List.set_cons_succ]
        obtain ⟨g1, cap1, w2, hrun, hown1, hgrow1, hat, hlt1⟩ := run_append_lies (P := Tryz.prog) (w := w1.alloc (.cells #[.int .i64 2, .int .i64 0, .string ⟨b.toArray⟩, .slice none 0 0] 71)) 69 69 (Y.heap.size + 1) 71 i0 _ 4 56 Tryz.underlying69 HI.out.1 HI.out.2.1 HI.out.2.2.1 HI.out.2.2.2 rfl (by decide) v j (leafCells (xs.take j)) (HO1.out.alloc _) ⟨w1.heap.size, 0, none⟩ 1 1 (Lf.t b).cells rfl (World.news_of_block (heap_alloc_new w1 _)) (by simp [Lf.cells, Value.oneCell']) (by decide) (by unfold maxLen; omega) (by omega) (by simp; omega) _ rfl
        have hr2 : w2.heap[Y.heap.size]? = some (.cells #[.int .i64 3, .int .i64 0, .string ByteArray.empty, v] 71) := (hgrow1.block _ (by simp; omega) hne).trans ((Below.heap_alloc w1 _ _ hs1).trans HR1.out)
        have c1 : w2.cell? ⟨Y.heap.size, 3, none⟩ = some v := by rw [cell_of_row _ _ _ _ _ _ hr2]; rfl
        have f1 : w2.frozen? ⟨Y.heap.size, 3, none⟩ = false := frozen_of_row _ _ _ _ _ hr2
        have hgv : some wr.heap.size ≠ v.ownBlock := fun e => by have := (hown.out.lt _ e.symm).2; omega
        refine oper_t 6 (.slice (some ⟨g1, 0, none⟩) (j + 1) cap1) w2 rfl (by kernel_rfl) (by kernel_rfl) (exec_append (.tmp 20) (.tmp 24) 69 69 rfl _ _ _ rfl rfl (fun ty => hrun)) ⟨c1, fun q u hu => (hgrow1.cell_far ⟨wr.heap.size, _, none⟩ (block_lt_of_cell (hHeld3.2 q u hu)) hgv).trans (hHeld3.2 q u hu)⟩ (fun hHeld4 => ?_)
        clear hHeld3
        try simp only [Act.put, List.setIfInBounds_toArray, List.set_cons_zero, List.set_cons_succ]
        refine take_t 7 ?_ rfl (by kernel_rfl) (by kernel_rfl) (by kernel_rfl) (by kernel_rfl) (fun _ _ _ h => h) (Or.inl ⟨by kernel_rfl, ?_⟩) (by assumption) ?_
        rotate_left
        · (intro w hSw; (try dsimp only at hSw); go_simp; try (with_reducible rfl))
        try simp only [Act.put, List.setIfInBounds_toArray, List.set_cons_zero, List.set_cons_succ]
        have HN := Seal.mk (ListRel.next (by rw [HK.out]; exact hlt) HT.out HB1.out hr2 HO1.out hgrow1 hs1 hown1)
        refine last_t (w2.setCell ⟨Y.heap.size, 3, none⟩ (.slice (some ⟨g1, 0, none⟩) (j + 1) cap1)) rfl (by kernel_rfl) (by kernel_rfl) (by kernel_rfl) (by go_simp) ?_
        clear hHeld4 c1 f1
        go_wp2
        refine ⟨HN.out, ?_⟩
        simp only [intOf]; omega
    · obtain rfl : j = k := by omega
      obtain ⟨g2, cap2, rfl, hgY, hg2⟩ := hown.out.form hk0
      have hgY := (hown.out.lt g2 rfl).1
      have HA : Seal (LeavesAt wr g2 0 (xs.map Arg.lf)) := ⟨fun q y hy r c hrc => by
        obtain ⟨x, hx, rfl⟩ : ∃ x, xs[q]? = some x ∧ x.lf = y := by
          rw [List.getElem?_map] at hy
          cases h : xs[q]? with
          | none => rw [h] at hy; cases hy
          | some x => rw [h] at hy; exact ⟨x, rfl, by simpa using hy⟩
        have h1 := leafCells_at xs q x hx r c hrc
        have h2 := hown.out.cells (g := g2) rfl (q * 4 + r) c (by rw [List.take_of_length_le (by rw [HK.out]; exact Nat.le_refl _)]; exact h1)
        rw [Addr.add_mid] at h2
        rw [Nat.add_assoc]; exact h2⟩
      have HQ : Seal (j ≤ cap2) := ⟨by
        rcases hown.out.2 with ⟨e, _⟩ | ⟨_, _, _, hv, _, _, hle, _⟩
        · cases e
        · cases hv; exact hle⟩
      have c30 : wr.cell? ⟨Y.heap.size, 0, none⟩ = some (.int .i64 3) := by rw [cell_of_row _ _ _ _ _ _ hrow.out]; rfl
      have c31 : wr.cell? ⟨Y.heap.size, 1, none⟩ = some (.int .i64 0) := by rw [cell_of_row _ _ _ _ _ _ hrow.out]; rfl
      have c32 : wr.cell? ⟨Y.heap.size, 2, none⟩ = some (.string ByteArray.empty) := by rw [cell_of_row _ _ _ _ _ _ hrow.out]; rfl
      have HZ : Seal (wr.heap[w.heap.size]? = some (.cells #[.int .i64 0, .int .i64 0, .string ByteArray.empty, .slice none 0 0] 71 (0, 0))) := ⟨(hb.out.block _ (by have := HYs.out; omega)).trans HYr.out⟩
      have z0 : wr.cell? ⟨w.heap.size, 0, none⟩ = some (.int .i64 0) := by rw [cell_of_row _ _ _ _ _ _ HZ.out]; rfl
      have z1 : wr.cell? ⟨w.heap.size, 1, none⟩ = some (.int .i64 0) := by rw [cell_of_row _ _ _ _ _ _ HZ.out]; rfl
      have z2 : wr.cell? ⟨w.heap.size, 2, none⟩ = some (.string ByteArray.empty) := by rw [cell_of_row _ _ _ _ _ _ HZ.out]; rfl
      have z3 : wr.cell? ⟨w.heap.size, 3, none⟩ = some (.slice none 0 0) := by rw [cell_of_row _ _ _ _ _ _ HZ.out]; rfl
      have f0 : wr.frozen? ⟨w.heap.size, 0, none⟩ = false := frozen_of_row _ _ _ _ _ HZ.out
      have f1 : wr.frozen? ⟨w.heap.size, 1, none⟩ = false := frozen_of_row _ _ _ _ _ HZ.out
      have f2 : wr.frozen? ⟨w.heap.size, 2, none⟩ = false := frozen_of_row _ _ _ _ _ HZ.out
      have f3 : wr.frozen? ⟨w.heap.size, 3, none⟩ = false := frozen_of_row _ _ _ _ _ HZ.out
      have HBw : Seal (Below w.heap.size w wr) := ⟨hYb.out.trans (hb.out.mono hYb.out.size)⟩
      have hgw : g2 ≠ w.heap.size := by have := HYs.out; omega
      clear hrow hown hne HC hb hgY
      go_wp2
      have hr9 := heap_setCell_row (cs := [.int .i64 3, .int .i64 0, .string ByteArray.empty, .slice none 0 0]) (i := 3) (.slice (some ⟨g2, 0, none⟩) j cap2) (heap_setCell_row (cs := [.int .i64 3, .int .i64 0, .string ByteArray.empty, .slice none 0 0]) (i := 2) (.string ByteArray.empty) (heap_setCell_row (cs := [.int .i64 3, .int .i64 0, .string ByteArray.empty, .slice none 0 0]) (i := 1) (.int .i64 0) (heap_setCell_row (cs := [.int .i64 0, .int .i64 0, .string ByteArray.empty, .slice none 0 0]) (i := 0) (.int .i64 3) HZ.out)))
      have hot : ∀ k, k ≠ w.heap.size → ((((wr.setCell ⟨w.heap.size, 0, none⟩ (.int .i64 3)).setCell ⟨w.heap.size, 1, none⟩ (.int .i64 0)).setCell ⟨w.heap.size, 2, none⟩ (.string ByteArray.empty)).setCell ⟨w.heap.size, 3, none⟩ (.slice (some ⟨g2, 0, none⟩) j cap2)).heap[k]? = wr.heap[k]? := fun k hk =>
        (Below.heap_setCell _ _ _ k hk).trans ((Below.heap_setCell _ _ _ k hk).trans ((Below.heap_setCell _ _ _ k hk).trans (Below.heap_setCell _ _ _ k hk)))
      refine bodyPost_ret (results_cell_row (fn := Tryz.f44) rfl _ _ w.heap.size 71 #[.int .i64 3, .int .i64 0, .string ByteArray.empty, .slice (some ⟨g2, 0, none⟩) j cap2] (0, 0) _ rfl hr9 Tryz.underlying71 rfl (by kernel_rfl)) rfl ⟨g2, cap2, rfl, ⟨HQ.out, ?_, ?_⟩, ?_⟩
      · simpa using hg2
      · intro q y hy r c hrc
        exact (World.cell?_of_block (w := wr) (hot g2 hgw)).trans (HA.out q y hy r c hrc)
      · exact (((HBw.out.setCell (p := ⟨w.heap.size, 0, none⟩) (Nat.le_refl _) _).setCell (p := ⟨w.heap.size, 1, none⟩) (Nat.le_refl _) _).setCell (p := ⟨w.heap.size, 2, none⟩) (Nat.le_refl _) _).setCell (p := ⟨w.heap.size, 3, none⟩) (Nat.le_refl _) _

/-- the text of a stamp -/
def stT (T : Bytes) (v : Int) : Bytes := encL [.t T, .i v]
theorem stT_length {T : Bytes} {v : Int} (hT : T.length = 32) : (stT T v).length ≤ 65 := by
  have := encL_length [.t T, .i v]
  unfold stT
  simp [wgts, Lf.wgt, hT] at this
  omega

/-- the cells of a stamp -/
def stC (T : Bytes) (v E S : Int) : List Value := T.map B ++ [.int .i64 v, .int .i64 E, .int .i64 S]
/-- the cells of an issue -/
def isC (T : Bytes) (v E S key r : Int) : List Value := T.map B ++ [.int .i64 v, .int .i64 E, .int .i64 S, .int .i64 key, .int .i64 r]
theorem stC_len {T : Bytes} {v E S : Int} (h : T.length = 32) : (stC T v E S).length = 35 := by simp [stC, h]
theorem isC_len {T : Bytes} {v E S key r : Int} (h : T.length = 32) : (isC T v E S key r).length = 37 := by simp [isC, h]
theorem stC_one (T : Bytes) (v E S : Int) : ∀ u ∈ stC T v E S, u.oneCell' = true := by
  intro u hu
  rcases List.mem_append.1 hu with h | h
  · obtain ⟨x, _, rfl⟩ := List.mem_map.1 h; rfl
  · simp only [List.mem_cons, List.not_mem_nil, or_false] at h
    rcases h with rfl | rfl | rfl <;> rfl
theorem isC_one (T : Bytes) (v E S key r : Int) : ∀ u ∈ isC T v E S key r, u.oneCell' = true := by
  intro u hu
  rcases List.mem_append.1 hu with h | h
  · obtain ⟨x, _, rfl⟩ := List.mem_map.1 h; rfl
  · simp only [List.mem_cons, List.not_mem_nil, or_false] at h
    rcases h with rfl | rfl | rfl | rfl | rfl <;> rfl
theorem stC_info {T : Bytes} {v E S : Int} (h : T.length = 32) : (Tryz.prog.info? 27).map (·.size) = some (stC T v E S).length := by rw [stC_len h]; kernel_rfl
theorem isC_info {T : Bytes} {v E S key r : Int} (h : T.length = 32) : (Tryz.prog.info? 46).map (·.size) = some (isC T v E S key r).length := by rw [isC_len h]; kernel_rfl

/-- what the text of a stamp needs of the cells of an issue -/
structure IsHead (C : List Value) (T : Bytes) (v : Int) : Prop where
  l32 : T.length = 32
  text : C.take 32 = T.map B
  value : C[32]? = some (.int .i64 v)
theorem isC_head {T : Bytes} {v E S key r : Int} (h : T.length = 32) : IsHead (isC T v E S key r) T v :=
  ⟨h, by unfold isC; rw [List.take_left' (by rw [List.length_map, h])], by unfold isC; rw [List.getElem?_append_right (by rw [List.length_map, h]; exact Nat.le_refl _), List.length_map, h]; rfl⟩
theorem stC_head {T : Bytes} {v E S : Int} (h : T.length = 32) : IsHead (stC T v E S) T v :=
  ⟨h, by unfold stC; rw [List.take_left' (by rw [List.length_map, h])], by unfold stC; rw [List.getElem?_append_right (by rw [List.length_map, h]; exact Nat.le_refl _), List.length_map, h]; rfl⟩

set_option maxHeartbeats 1000000 in
theorem stext_any (C : List Value) (T : Bytes) (v : Int) (w : World) (hC : IsHead C T v) (hv1 : -9223372036854775808 ≤ v) (hv2 : v ≤ 9223372036854775807) :
    Calls Tryz.prog 19 #[.agg C.toArray] w (ListPost (stT T v) w) := by
  obtain ⟨X, hX⟩ : ∃ X : World, X = w.alloc (.cells C.toArray 46) := ⟨_, rfl⟩
  have hXb : Seal (Below w.heap.size w X) := ⟨by rw [hX]; exact below_alloc _ _⟩
  have hXs : X.heap.size = w.heap.size + 1 := by rw [hX, size_alloc]
  have hXn : X.heap[w.heap.size]? = some (.cells C.toArray 46 (0, 0)) := by rw [hX]; exact heap_alloc_new w _
  have hXr : X.rangeAt w.heap.size 0 (T.map B) := by
    have := rangeAt_take (rangeAt_row hXn) 32
    rwa [hC.text] at this
  have k0 : X.cell? ⟨w.heap.size, 32, none⟩ = some (.int .i64 v) := by rw [cell_of_row _ _ _ _ _ _ hXn]; simpa using hC.value
  have i1 := dg_info T hC.l32
  have HT32 := Seal.mk hC.l32
  have HV := Seal.mk (And.intro hv1 hv2)
  have HL : Seal _ := ⟨slist_any X.heap.size 0 2 2 [.s none 0 0 T, .i v] (X.alloc (.cells #[.iface 23 (.agg (T.map B).toArray), .iface 3 (.int .i64 v)] 20)) rfl (Nat.le_refl _) (by decide) (by decide) (fun j x hx => by
    rw [Nat.zero_add, cell_of_row _ _ _ _ _ _ (heap_alloc_new X _)]
    match j, hx with
    | 0, hx => cases hx; rfl
    | 1, hx => cases hx; rfl) (fun x hx => by
    simp only [List.mem_cons, List.not_mem_nil, or_false] at hx
    rcases hx with rfl | rfl
    · exact HT32.out
    · exact HV.out)⟩
  clear hC hXn hv1 hv2 hXs
  go_enter Tryz.func19, Tryz.ntmps19
  go_upto_region 1 with (fail)
  rw [← hX]
  clear hX
  go_wp2_with (refine wpList_load_mid rfl 23 (.tmp 7) rfl w.heap.size 0 rfl (T.map B) _ hXr Tryz.underlying23 rfl i1 ?_)
  refine HL.out.mono ?_
  rintro e w1 ⟨g1, c1, rfl, hf1, hb1⟩
  have HB1 : Seal (Below w.heap.size w w1) := ⟨hXb.out.trans (((below_alloc X _).trans (hb1.mono (by rw [size_alloc]; omega))).mono hXb.out.size)⟩
  have HE : Seal _ := ⟨encode_any g1 0 2 c1 [.t T, .i v] w1 rfl hf1.out.1 (by simp [wgts, Lf.wgt, HT32.out]) (by decide) hf1.out.2.2 hf1.out.2.1 (fun y hy => by
    simp only [List.mem_cons, List.not_mem_nil, or_false] at hy
    rcases hy with rfl | rfl
    · show T.length < 2 ^ 63; rw [HT32.out]; decide
    · exact HV.out)⟩
  clear HL hf1 hb1 hXr k0 i1
  go_wp2_with (go_at_call 43; refine HE.out.mono ?_; rintro e w2 ⟨g', n', cap', hn', rfl, hf⟩)
  go_ret
  exact ⟨g', n', cap', hn', rfl, ⟨hf.out.1, hf.out.2.1, hf.out.2.2.1, hf.out.2.2.2.1, HB1.out.trans (hf.out.2.2.2.2.mono HB1.out.size)⟩⟩

/-- may a stamp have the value? -/
def fitB (v : Int) : Bool := decide (0 ≤ v) && decide (v ≤ 1099511627776)

theorem sfits_any (C : List Value) (T : Bytes) (v : Int) (t : Bool) (w : World) (hC : IsHead C T v) (ht : fitB v = t) :
    Calls Tryz.prog 20 #[.agg C.toArray] w fun e w' => e = .returned (.bool t) ∧ Below w.heap.size w w' := by
  obtain ⟨X, hX⟩ : ∃ X : World, X = w.alloc (.cells C.toArray 46) := ⟨_, rfl⟩
  have hXb : Seal (Below w.heap.size w X) := ⟨by rw [hX]; exact below_alloc _ _⟩
  have hXn : X.heap[w.heap.size]? = some (.cells C.toArray 46 (0, 0)) := by rw [hX]; exact heap_alloc_new w _
  have k0 : X.cell? ⟨w.heap.size, 32, none⟩ = some (.int .i64 v) := by rw [cell_of_row _ _ _ _ _ _ hXn]; simpa using hC.value
  unfold fitB at ht
  have HT := Seal.mk ht
  clear hC hXn ht
  by_cases h0 : 0 ≤ v
  · by_cases h1 : v ≤ 1099511627776
    · have HF : Seal (t = true) := ⟨by rw [← HT.out, decide_eq_true h0, decide_eq_true h1]; rfl⟩
      go_enter Tryz.func20, Tryz.ntmps20
      go_upto_region 1 with (fail)
      rw [← hX]
      clear hX
      go_wp2
      go_ret
      exact ⟨ret_bool HF.out.symm, hXb.out⟩
    · have HF : Seal (t = false) := ⟨by rw [← HT.out, decide_eq_false h1]; simp⟩
      go_enter Tryz.func20, Tryz.ntmps20
      go_upto_region 1 with (fail)
      rw [← hX]
      clear hX
      go_wp2
      go_ret
      exact ⟨ret_bool HF.out.symm, hXb.out⟩
  · have HF : Seal (t = false) := ⟨by rw [← HT.out, decide_eq_false h0]; simp⟩
    go_enter Tryz.func20, Tryz.ntmps20
    go_upto_region 1 with (fail)
    rw [← hX]
    clear hX
    go_wp2
    go_ret
    exact ⟨ret_bool HF.out.symm, hXb.out⟩

theorem isC_build {T : Bytes} (hT : T.length = 32) (v E S key r : Int) : ((stC T v E S ++ ([.int .i64 0, .int .i64 0] : List Value)).set 35 (.int .i64 key)).set 36 (.int .i64 r) = isC T v E S key r := by
  have h := stC_len (v := v) (E := E) (S := S) hT
  rw [List.set_append_right 35 _ (by omega), h, List.set_append_right 36 _ (by omega), h]
  simp [stC, isC]

theorem fold_is {C : List Value} (h : C.length = 35) : C.zipIdx.foldl (fun (cs : Array Value) (x : Value × Nat) => cs.setIfInBounds x.2 x.1) (.int .u8 0 :: .int .u8 0 :: .int .u8 0 :: .int .u8 0 :: .int .u8 0 :: .int .u8 0 :: .int .u8 0 :: .int .u8 0 :: .int .u8 0 :: .int .u8 0 :: .int .u8 0 :: .int .u8 0 :: .int .u8 0 :: .int .u8 0 :: .int .u8 0 :: .int .u8 0 :: .int .u8 0 :: .int .u8 0 :: .int .u8 0 :: .int .u8 0 :: .int .u8 0 :: .int .u8 0 :: .int .u8 0 :: .int .u8 0 :: .int .u8 0 :: .int .u8 0 :: .int .u8 0 :: .int .u8 0 :: .int .u8 0 :: .int .u8 0 :: .int .u8 0 :: .int .u8 0 :: .int .i64 0 :: .int .i64 0 :: .int .i64 0 :: .int .i64 0 :: .int .i64 0 :: [] : List Value).toArray = (C ++ ([.int .i64 0, .int .i64 0] : List Value)).toArray := by
  have := fold_lay C 0 (.int .u8 0 :: .int .u8 0 :: .int .u8 0 :: .int .u8 0 :: .int .u8 0 :: .int .u8 0 :: .int .u8 0 :: .int .u8 0 :: .int .u8 0 :: .int .u8 0 :: .int .u8 0 :: .int .u8 0 :: .int .u8 0 :: .int .u8 0 :: .int .u8 0 :: .int .u8 0 :: .int .u8 0 :: .int .u8 0 :: .int .u8 0 :: .int .u8 0 :: .int .u8 0 :: .int .u8 0 :: .int .u8 0 :: .int .u8 0 :: .int .u8 0 :: .int .u8 0 :: .int .u8 0 :: .int .u8 0 :: .int .u8 0 :: .int .u8 0 :: .int .u8 0 :: .int .u8 0 :: .int .i64 0 :: .int .i64 0 :: .int .i64 0 :: .int .i64 0 :: .int .i64 0 :: [] : List Value) (by rw [h]; decide)
  rw [this]
  unfold lay
  rw [h]
  rfl
theorem fold_st {T : Bytes} (h : T.length = 32) : (T.map B).zipIdx.foldl (fun (cs : Array Value) (x : Value × Nat) => cs.setIfInBounds x.2 x.1) (.int .u8 0 :: .int .u8 0 :: .int .u8 0 :: .int .u8 0 :: .int .u8 0 :: .int .u8 0 :: .int .u8 0 :: .int .u8 0 :: .int .u8 0 :: .int .u8 0 :: .int .u8 0 :: .int .u8 0 :: .int .u8 0 :: .int .u8 0 :: .int .u8 0 :: .int .u8 0 :: .int .u8 0 :: .int .u8 0 :: .int .u8 0 :: .int .u8 0 :: .int .u8 0 :: .int .u8 0 :: .int .u8 0 :: .int .u8 0 :: .int .u8 0 :: .int .u8 0 :: .int .u8 0 :: .int .u8 0 :: .int .u8 0 :: .int .u8 0 :: .int .u8 0 :: .int .u8 0 :: .int .i64 0 :: .int .i64 0 :: .int .i64 0 :: [] : List Value).toArray = (T.map B ++ ([.int .i64 0, .int .i64 0, .int .i64 0] : List Value)).toArray := by
  have := fold_lay (T.map B) 0 (.int .u8 0 :: .int .u8 0 :: .int .u8 0 :: .int .u8 0 :: .int .u8 0 :: .int .u8 0 :: .int .u8 0 :: .int .u8 0 :: .int .u8 0 :: .int .u8 0 :: .int .u8 0 :: .int .u8 0 :: .int .u8 0 :: .int .u8 0 :: .int .u8 0 :: .int .u8 0 :: .int .u8 0 :: .int .u8 0 :: .int .u8 0 :: .int .u8 0 :: .int .u8 0 :: .int .u8 0 :: .int .u8 0 :: .int .u8 0 :: .int .u8 0 :: .int .u8 0 :: .int .u8 0 :: .int .u8 0 :: .int .u8 0 :: .int .u8 0 :: .int .u8 0 :: .int .u8 0 :: .int .i64 0 :: .int .i64 0 :: .int .i64 0 :: [] : List Value) (by rw [List.length_map, h]; decide)
  rw [this]
  unfold lay
  rw [List.length_map, h]
  rfl
theorem stC_build {T : Bytes} (hT : T.length = 32) (v : Int) : (T.map B ++ ([.int .i64 0, .int .i64 0, .int .i64 0] : List Value)).set 32 (.int .i64 v) = stC T v 0 0 := by
  rw [List.set_append_right 32 _ (by rw [List.length_map, hT]; exact Nat.le_refl _), List.length_map, hT]
  simp [stC]

set_option maxHeartbeats 1000000 in
theorem scheck_no (key : Int) (T : Bytes) (v E S : Int) (w : World) (hT : T.length = 32) (ht : fitB v = false) :
    Calls Tryz.prog 10 #[.int .i64 key, .agg (stC T v E S).toArray] w fun e w' => e = .returned (.bool false) ∧ Below w.heap.size w w' := by
  obtain ⟨C, hC⟩ : ∃ C, C = stC T v E S := ⟨_, rfl⟩
  obtain ⟨I, hI⟩ : ∃ I, I = isC T v E S key 0 := ⟨_, rfl⟩
  have IC : Seal ((Tryz.prog.info? 27).map (·.size) = some C.toArray.size) := ⟨by rw [hC, List.size_toArray]; exact stC_info hT⟩
  have II : Seal ((Tryz.prog.info? 46).map (·.size) = some I.length) := ⟨by rw [hI]; exact isC_info hT⟩
  have LI : Seal ((.int .u8 0 :: .int .u8 0 :: .int .u8 0 :: .int .u8 0 :: .int .u8 0 :: .int .u8 0 :: .int .u8 0 :: .int .u8 0 :: .int .u8 0 :: .int .u8 0 :: .int .u8 0 :: .int .u8 0 :: .int .u8 0 :: .int .u8 0 :: .int .u8 0 :: .int .u8 0 :: .int .u8 0 :: .int .u8 0 :: .int .u8 0 :: .int .u8 0 :: .int .u8 0 :: .int .u8 0 :: .int .u8 0 :: .int .u8 0 :: .int .u8 0 :: .int .u8 0 :: .int .u8 0 :: .int .u8 0 :: .int .u8 0 :: .int .u8 0 :: .int .u8 0 :: .int .u8 0 :: .int .i64 0 :: .int .i64 0 :: .int .i64 0 :: .int .i64 0 :: .int .i64 0 :: [] : List Value).length = I.length) := ⟨by rw [hI, isC_len hT]; rfl⟩
  have OI : Seal (∀ u ∈ I, u.oneCell' = true) := ⟨by rw [hI]; exact isC_one _ _ _ _ _ _⟩
  have HH : Seal (IsHead I T v) := ⟨by rw [hI]; exact isC_head hT⟩
  have cl : C.length = 35 := by rw [hC]; exact stC_len hT
  have ir : (Tryz.prog.info? 27).map (·.size) = some 35 := by kernel_rfl
  obtain ⟨D0, hD0⟩ : ∃ D0, D0 = C ++ ([.int .i64 0, .int .i64 0] : List Value) := ⟨_, rfl⟩
  have hfold := fold_is cl
  rw [← hD0] at hfold
  have hset : (D0.set 35 (.int .i64 key)).set 36 (.int .i64 0) = I := by rw [hD0, hC, isC_build hT, hI]
  have cl0 : D0.length = 37 := by rw [hD0, List.length_append, cl]; rfl
  clear hD0
  obtain ⟨X, hX⟩ : ∃ X : World, X = w.alloc (.cells C.toArray 27) := ⟨_, rfl⟩
  have hXb : Seal (Below w.heap.size w X) := ⟨by rw [hX]; exact below_alloc _ _⟩
  have hXn : Seal (X.heap[w.heap.size]? = some (.cells C.toArray 27 (0, 0))) := ⟨by rw [hX]; exact heap_alloc_new w _⟩
  obtain hXr' : X.rangeAt w.heap.size 33 [.int .i64 E, .int .i64 S] := by
    have := rangeAt_drop (rangeAt_row hXn.out) 33
    rw [hC] at this
    have e : (stC T v E S).drop 33 = [.int .i64 E, .int .i64 S] := by
      unfold stC
      rw [List.drop_append, List.drop_of_length_le (by rw [List.length_map, hT]; decide), List.length_map, hT]
      rfl
    rw [e] at this
    simpa using this
  have hXr := Seal.mk hXr'
  clear hXr'
  rw [← hC]
  clear hC hI
  go_enter Tryz.func10, Tryz.ntmps10
  go_upto_region 1 with (fail)
  rw [← hX]
  clear hX
  go_upto_region 2 with (first | (refine wpList_load_row rfl 27 (.tmp 3) rfl w.heap.size rfl 27 C.toArray (0, 0) _ hXn.out Tryz.underlying27 rfl IC.out ?_) | (refine wpList_store_new rfl 46 (.tmp 5) (.tmp 8) rfl (.int .u8 0 :: .int .u8 0 :: .int .u8 0 :: .int .u8 0 :: .int .u8 0 :: .int .u8 0 :: .int .u8 0 :: .int .u8 0 :: .int .u8 0 :: .int .u8 0 :: .int .u8 0 :: .int .u8 0 :: .int .u8 0 :: .int .u8 0 :: .int .u8 0 :: .int .u8 0 :: .int .u8 0 :: .int .u8 0 :: .int .u8 0 :: .int .u8 0 :: .int .u8 0 :: .int .u8 0 :: .int .u8 0 :: .int .u8 0 :: .int .u8 0 :: .int .u8 0 :: .int .u8 0 :: .int .u8 0 :: .int .u8 0 :: .int .u8 0 :: .int .u8 0 :: .int .u8 0 :: .int .i64 0 :: .int .i64 0 :: .int .i64 0 :: .int .i64 0 :: .int .i64 0 :: [] : List Value) I 46 rfl rfl II.out LI.out OI.out ?_))
  obtain ⟨Z, hZ⟩ : ∃ Z : World, Z = X.alloc (.cells I.toArray 46) := ⟨_, rfl⟩
  have hZb : Seal (Below X.heap.size X Z) := ⟨by rw [hZ]; exact below_alloc _ _⟩
  have hZn : Z.heap[X.heap.size]? = some (.cells I.toArray 46 (0, 0)) := by rw [hZ]; exact heap_alloc_new X _
  have rI : Z.rangeAt X.heap.size 0 I := rangeAt_row hZn
  have rS : Z.rangeAt w.heap.size 33 [.int .i64 E, .int .i64 S] := rangeAt_below' hXr.out hZb.out
  have HBZ : Seal (Below w.heap.size w Z) := ⟨hXb.out.trans (hZb.out.mono hXb.out.size)⟩
  rw [← hZ]
  clear hZ hZn hfold hset cl0 cl ir LI OI
  have iI := II.out
  have uI := Tryz.underlying46
  have iS : (Tryz.prog.info? 25).map (·.size) = some [Value.int .i64 E, .int .i64 S].length := by kernel_rfl
  have uS := Tryz.underlying25
  refine wp_region_held_drew (S := fun w' => w'.rangeAt X.heap.size 0 I ∧ w'.rangeAt w.heap.size 33 [.int .i64 E, .int .i64 S]) (by kernel_rfl) ⟨rI, rS⟩ (fun hHeld => ?_)
  refine take_h 0 _ rfl (by kernel_rfl) (by kernel_rfl) (by kernel_rfl) (fun _ _ _ h => h) (yieldsIf_load_mid (by kernel_rfl) 46 (.tmp 5) rfl X.heap.size 0 rfl I _ (fun w hSw => hSw.1) uI rfl iI) (by assumption) ?_
  try simp only [Act.put, List.setIfInBounds_toArray, List.set_cons_zero, List.set_cons_succ]
  refine call_h 1 rfl (by kernel_rfl) 20 #[.agg I.toArray] (by kernel_rfl) (by go_simp) ?_
  refine (sfits_any I T v _ Z.drew HH.out ht).mono ?_
  rintro e w1 ⟨rfl, hb1⟩
  have hb2 : Below Z.heap.size Z w1 := ⟨hb1.os, hb1.tape, hb1.output, hb1.size, hb1.block⟩
  have HB1 : Seal (Below w.heap.size w w1) := ⟨HBZ.out.trans (hb2.mono HBZ.out.size)⟩
  refine ⟨_, rfl, ⟨rangeAt_below' rI hb2, rangeAt_below' rS hb2⟩, fun hHeld2 => ?_⟩
  have rI1 := hHeld2.1
  have rS1 := hHeld2.2
  clear hHeld hb1 hb2 rI rS
  try simp only [Act.put, List.setIfInBounds_toArray, List.set_cons_zero, List.set_cons_succ]
  refine take_h 2 ?_ rfl (by kernel_rfl) (by kernel_rfl) (by kernel_rfl) (fun _ _ _ h => h) (Or.inl ⟨by kernel_rfl, ?_⟩) (by assumption) ?_
  rotate_left
  · (intro w hSw; (try dsimp only at hSw); go_simp; try (with_reducible rfl))
  try simp only [Act.put, List.setIfInBounds_toArray, List.set_cons_zero, List.set_cons_succ]
  refine take_h 3 undef rfl (by kernel_rfl) (by kernel_rfl) (by kernel_rfl) (fun _ _ _ h => h) (Or.inr ⟨by kernel_rfl, rfl⟩) (by assumption) ?_
  try simp only [Act.put, List.setIfInBounds_toArray, List.set_cons_zero, List.set_cons_succ]
  refine take_h 4 undef rfl (by kernel_rfl) (by kernel_rfl) (by kernel_rfl) (fun _ _ _ h => h) (Or.inr ⟨by kernel_rfl, rfl⟩) (by assumption) ?_
  try simp only [Act.put, List.setIfInBounds_toArray, List.set_cons_zero, List.set_cons_succ]
  refine take_h 5 undef rfl (by kernel_rfl) (by kernel_rfl) (by kernel_rfl) (fun _ _ _ h => h) (Or.inr ⟨by kernel_rfl, rfl⟩) (by assumption) ?_
  try simp only [Act.put, List.setIfInBounds_toArray, List.set_cons_zero, List.set_cons_succ]
  refine take_h 6 undef rfl (by kernel_rfl) (by kernel_rfl) (by kernel_rfl) (fun _ _ _ h => h) (Or.inr ⟨by kernel_rfl, rfl⟩) (by assumption) ?_
  try simp only [Act.put, List.setIfInBounds_toArray, List.set_cons_zero, List.set_cons_succ]
  refine take_h 7 undef rfl (by kernel_rfl) (by kernel_rfl) (by kernel_rfl) (fun _ _ _ h => h) (Or.inr ⟨by kernel_rfl, rfl⟩) (by assumption) ?_
  try simp only [Act.put, List.setIfInBounds_toArray, List.set_cons_zero, List.set_cons_succ]
  refine take_h 8 undef rfl (by kernel_rfl) (by kernel_rfl) (by kernel_rfl) (fun _ _ _ h => h) (Or.inr ⟨by kernel_rfl, rfl⟩) (by assumption) ?_
  try simp only [Act.put, List.setIfInBounds_toArray, List.set_cons_zero, List.set_cons_succ]
  refine take_h 9 ?_ rfl (by kernel_rfl) (by kernel_rfl) (by kernel_rfl) (fun _ _ _ h => h) (Or.inl ⟨by kernel_rfl, ?_⟩) (by assumption) ?_
  rotate_left
  · (intro w hSw; (try dsimp only at hSw); go_simp; try (with_reducible rfl))
  try simp only [Act.put, List.setIfInBounds_toArray, List.set_cons_zero, List.set_cons_succ]
  refine take_h 10 ?_ rfl (by kernel_rfl) (by kernel_rfl) (by kernel_rfl) (fun _ _ _ h => h) (Or.inl ⟨by kernel_rfl, ?_⟩) (by assumption) ?_
  rotate_left
  · (intro w hSw; (try dsimp only at hSw); go_simp; try (with_reducible rfl))
  try simp only [Act.put, List.setIfInBounds_toArray, List.set_cons_zero, List.set_cons_succ]
  refine wpAnyH_done (by kernel_rfl) ?_ _
  clear hHeld2 rI1 rS1
  go_wp2
  go_ret
  exact ⟨rfl, HB1.out⟩

set_option maxHeartbeats 2000000 in
theorem scheck_yes (key : Int) (T : Bytes) (v E S : Int) (t : Bool) (w : World) (hT : T.length = 32) (ht : fitB v = true) (hG : Glob w) (hv : Seal (vrB key (stT T v) E S = t)) :
    Calls Tryz.prog 10 #[.int .i64 key, .agg (stC T v E S).toArray] w fun e w' => e = .returned (.bool t) ∧ Below w.heap.size w w' := by
  have HG := Seal.mk hG
  have HT := Seal.mk hT
  have hv1 : -9223372036854775808 ≤ v ∧ v ≤ 9223372036854775807 := by
    unfold fitB at ht
    simp at ht
    omega
  have HV1 := Seal.mk hv1
  clear hG hv1
  obtain ⟨C, hC⟩ : ∃ C, C = stC T v E S := ⟨_, rfl⟩
  obtain ⟨I, hI⟩ : ∃ I, I = isC T v E S key 0 := ⟨_, rfl⟩
  have IC : Seal ((Tryz.prog.info? 27).map (·.size) = some C.toArray.size) := ⟨by rw [hC, List.size_toArray]; exact stC_info hT⟩
  have II : Seal ((Tryz.prog.info? 46).map (·.size) = some I.length) := ⟨by rw [hI]; exact isC_info hT⟩
  have LI : Seal ((.int .u8 0 :: .int .u8 0 :: .int .u8 0 :: .int .u8 0 :: .int .u8 0 :: .int .u8 0 :: .int .u8 0 :: .int .u8 0 :: .int .u8 0 :: .int .u8 0 :: .int .u8 0 :: .int .u8 0 :: .int .u8 0 :: .int .u8 0 :: .int .u8 0 :: .int .u8 0 :: .int .u8 0 :: .int .u8 0 :: .int .u8 0 :: .int .u8 0 :: .int .u8 0 :: .int .u8 0 :: .int .u8 0 :: .int .u8 0 :: .int .u8 0 :: .int .u8 0 :: .int .u8 0 :: .int .u8 0 :: .int .u8 0 :: .int .u8 0 :: .int .u8 0 :: .int .u8 0 :: .int .i64 0 :: .int .i64 0 :: .int .i64 0 :: .int .i64 0 :: .int .i64 0 :: [] : List Value).length = I.length) := ⟨by rw [hI, isC_len hT]; rfl⟩
  have OI : Seal (∀ u ∈ I, u.oneCell' = true) := ⟨by rw [hI]; exact isC_one _ _ _ _ _ _⟩
  have HH : Seal (IsHead I T v) := ⟨by rw [hI]; exact isC_head hT⟩
  have cl : C.length = 35 := by rw [hC]; exact stC_len hT
  have ir : (Tryz.prog.info? 27).map (·.size) = some 35 := by kernel_rfl
  obtain ⟨D0, hD0⟩ : ∃ D0, D0 = C ++ ([.int .i64 0, .int .i64 0] : List Value) := ⟨_, rfl⟩
  have hfold := fold_is cl
  rw [← hD0] at hfold
  have hset : (D0.set 35 (.int .i64 key)).set 36 (.int .i64 0) = I := by rw [hD0, hC, isC_build hT, hI]
  have cl0 : D0.length = 37 := by rw [hD0, List.length_append, cl]; rfl
  clear hD0
  obtain ⟨X, hX⟩ : ∃ X : World, X = w.alloc (.cells C.toArray 27) := ⟨_, rfl⟩
  have hXb : Seal (Below w.heap.size w X) := ⟨by rw [hX]; exact below_alloc _ _⟩
  have hXn : Seal (X.heap[w.heap.size]? = some (.cells C.toArray 27 (0, 0))) := ⟨by rw [hX]; exact heap_alloc_new w _⟩
  obtain hXr' : X.rangeAt w.heap.size 33 [.int .i64 E, .int .i64 S] := by
    have := rangeAt_drop (rangeAt_row hXn.out) 33
    rw [hC] at this
    have e : (stC T v E S).drop 33 = [.int .i64 E, .int .i64 S] := by
      unfold stC
      rw [List.drop_append, List.drop_of_length_le (by rw [List.length_map, hT]; decide), List.length_map, hT]
      rfl
    rw [e] at this
    simpa using this
  have hXr := Seal.mk hXr'
  clear hXr'
  rw [← hC]
  clear hC hI
  go_enter Tryz.func10, Tryz.ntmps10
  go_upto_region 1 with (fail)
  rw [← hX]
  clear hX
  go_upto_region 2 with (first | (refine wpList_load_row rfl 27 (.tmp 3) rfl w.heap.size rfl 27 C.toArray (0, 0) _ hXn.out Tryz.underlying27 rfl IC.out ?_) | (refine wpList_store_new rfl 46 (.tmp 5) (.tmp 8) rfl (.int .u8 0 :: .int .u8 0 :: .int .u8 0 :: .int .u8 0 :: .int .u8 0 :: .int .u8 0 :: .int .u8 0 :: .int .u8 0 :: .int .u8 0 :: .int .u8 0 :: .int .u8 0 :: .int .u8 0 :: .int .u8 0 :: .int .u8 0 :: .int .u8 0 :: .int .u8 0 :: .int .u8 0 :: .int .u8 0 :: .int .u8 0 :: .int .u8 0 :: .int .u8 0 :: .int .u8 0 :: .int .u8 0 :: .int .u8 0 :: .int .u8 0 :: .int .u8 0 :: .int .u8 0 :: .int .u8 0 :: .int .u8 0 :: .int .u8 0 :: .int .u8 0 :: .int .u8 0 :: .int .i64 0 :: .int .i64 0 :: .int .i64 0 :: .int .i64 0 :: .int .i64 0 :: [] : List Value) I 46 rfl rfl II.out LI.out OI.out ?_))
  obtain ⟨Z, hZ⟩ : ∃ Z : World, Z = X.alloc (.cells I.toArray 46) := ⟨_, rfl⟩
  have hZb : Seal (Below X.heap.size X Z) := ⟨by rw [hZ]; exact below_alloc _ _⟩
  have hZn : Z.heap[X.heap.size]? = some (.cells I.toArray 46 (0, 0)) := by rw [hZ]; exact heap_alloc_new X _
  have rI : Z.rangeAt X.heap.size 0 I := rangeAt_row hZn
  have rS : Z.rangeAt w.heap.size 33 [.int .i64 E, .int .i64 S] := rangeAt_below' hXr.out hZb.out
  have HBZ : Seal (Below w.heap.size w Z) := ⟨hXb.out.trans (hZb.out.mono hXb.out.size)⟩
  rw [← hZ]
  clear hZ hZn hfold hset cl0 cl ir LI OI
  have iI := II.out
  have uI := Tryz.underlying46
  have iS : (Tryz.prog.info? 25).map (·.size) = some [Value.int .i64 E, .int .i64 S].length := by kernel_rfl
  have uS := Tryz.underlying25
  refine wp_region_held_drew (S := fun w' => w'.rangeAt X.heap.size 0 I ∧ w'.rangeAt w.heap.size 33 [.int .i64 E, .int .i64 S]) (by kernel_rfl) ⟨rI, rS⟩ (fun hHeld => ?_)
  refine take_h 0 _ rfl (by kernel_rfl) (by kernel_rfl) (by kernel_rfl) (fun _ _ _ h => h) (yieldsIf_load_mid (by kernel_rfl) 46 (.tmp 5) rfl X.heap.size 0 rfl I _ (fun w hSw => hSw.1) uI rfl iI) (by assumption) ?_
  try simp only [Act.put, List.setIfInBounds_toArray, List.set_cons_zero, List.set_cons_succ]
  refine call_h 1 rfl (by kernel_rfl) 20 #[.agg I.toArray] (by kernel_rfl) (by go_simp) ?_
  refine (sfits_any I T v _ Z.drew HH.out ht).mono ?_
  rintro e w1 ⟨rfl, hb1⟩
  have hb2 : Below Z.heap.size Z w1 := ⟨hb1.os, hb1.tape, hb1.output, hb1.size, hb1.block⟩
  have HB1 : Seal (Below w.heap.size w w1) := ⟨HBZ.out.trans (hb2.mono HBZ.out.size)⟩
  refine ⟨_, rfl, ⟨rangeAt_below' rI hb2, rangeAt_below' rS hb2⟩, fun hHeld2 => ?_⟩
  have rI1 := hHeld2.1
  have rS1 := hHeld2.2
  clear hHeld hb1 hb2 rI rS
  try simp only [Act.put, List.setIfInBounds_toArray, List.set_cons_zero, List.set_cons_succ]
  refine take_h 2 ?_ rfl (by kernel_rfl) (by kernel_rfl) (by kernel_rfl) (fun _ _ _ h => h) (Or.inl ⟨by kernel_rfl, ?_⟩) (by assumption) ?_
  rotate_left
  · (intro w hSw; (try dsimp only at hSw); go_simp; try (with_reducible rfl))
  try simp only [Act.put, List.setIfInBounds_toArray, List.set_cons_zero, List.set_cons_succ]
  refine take_h 3 ?_ rfl (by kernel_rfl) (by kernel_rfl) (by kernel_rfl) (fun _ _ _ h => h) (Or.inl ⟨by kernel_rfl, ?_⟩) (by assumption) ?_
  rotate_left
  · (intro w hSw; (try dsimp only at hSw); go_simp; try (with_reducible rfl))
  try simp only [Act.put, List.setIfInBounds_toArray, List.set_cons_zero, List.set_cons_succ]
  refine take_h 4 _ rfl (by kernel_rfl) (by kernel_rfl) (by kernel_rfl) (fun _ _ _ h => h) (yieldsIf_load_mid (by kernel_rfl) 46 (.tmp 5) rfl X.heap.size 0 rfl I _ (fun w hSw => hSw.1) uI rfl iI) (by assumption) ?_
  try simp only [Act.put, List.setIfInBounds_toArray, List.set_cons_zero, List.set_cons_succ]
  refine take_h 6 ?_ rfl (by kernel_rfl) (by kernel_rfl) (by kernel_rfl) (fun _ _ _ h => h) (Or.inl ⟨by kernel_rfl, ?_⟩) (by assumption) ?_
  rotate_left
  · (intro w hSw; (try dsimp only at hSw); go_simp; try (with_reducible rfl))
  try simp only [Act.put, List.setIfInBounds_toArray, List.set_cons_zero, List.set_cons_succ]
  refine take_h 7 _ rfl (by kernel_rfl) (by kernel_rfl) (by kernel_rfl) (fun _ _ _ h => h) (yieldsIf_load_mid (by kernel_rfl) 25 (.tmp 15) rfl w.heap.size 33 rfl [.int .i64 E, .int .i64 S] _ (fun w hSw => hSw.2) uS rfl iS) (by assumption) ?_
  try simp only [Act.put, List.setIfInBounds_toArray, List.set_cons_zero, List.set_cons_succ]
  refine call_h 5 rfl (by kernel_rfl) 19 #[.agg I.toArray] (by kernel_rfl) (by go_simp) ?_
  refine (stext_any I T v w1 HH.out HV1.out.1 HV1.out.2).mono ?_
  rintro e w2 ⟨g', n', c', hn, rfl, hf⟩
  have hb2 := hf.out.2.2.2.2
  have HB2 : Seal (Below w.heap.size w w2) := ⟨HB1.out.trans (hb2.mono HB1.out.size)⟩
  refine ⟨_, rfl, ⟨rangeAt_below' rI1 hb2, rangeAt_below' rS1 hb2⟩, fun hHeld3 => ?_⟩
  have hlen := stT_length (v := v) HT.out
  have hIB : IsB w2 (some ⟨g', 0, none⟩) n' c' (stT T v) := ⟨hn.out, hf.out.1, by rw [← hn.out]; omega, hf.out.2.1, .inr ⟨g', 0, rfl, hf.out.2.2.2.1, hf.out.2.2.1⟩⟩
  have HVC : Seal _ := ⟨verify_any key E S (some ⟨g', 0, none⟩) n' c' (stT T v) w2 hIB (by rw [← hn.out]; omega) (HG.out.below HB2.out)⟩
  have rI2 := hHeld3.1
  have rS2 := hHeld3.2
  clear hHeld2 hb2 hlen hIB rI1 rS1
  try simp only [Act.put, List.setIfInBounds_toArray, List.set_cons_zero, List.set_cons_succ]
  refine call_h 8 rfl (by kernel_rfl) 29 #[.int .i64 key, .slice (some ⟨g', 0, none⟩) n' c', .agg #[.int .i64 E, .int .i64 S]] (by kernel_rfl) (by go_simp) ?_
  refine HVC.out.mono ?_
  rw [hv.out]
  rintro e w3 ⟨rfl, hb3⟩
  have HB3 : Seal (Below w.heap.size w w3) := ⟨HB2.out.trans (hb3.mono HB2.out.size)⟩
  refine ⟨_, rfl, ⟨rangeAt_below' rI2 hb3, rangeAt_below' rS2 hb3⟩, fun hHeld4 => ?_⟩
  clear hHeld3 hb3 rI2 rS2 HVC
  try simp only [Act.put, List.setIfInBounds_toArray, List.set_cons_zero, List.set_cons_succ]
  refine take_h 9 ?_ rfl (by kernel_rfl) (by kernel_rfl) (by kernel_rfl) (fun _ _ _ h => h) (Or.inl ⟨by kernel_rfl, ?_⟩) (by assumption) ?_
  rotate_left
  · (intro w hSw; (try dsimp only at hSw); go_simp; try (with_reducible rfl))
  try simp only [Act.put, List.setIfInBounds_toArray, List.set_cons_zero, List.set_cons_succ]
  refine take_h 10 ?_ rfl (by kernel_rfl) (by kernel_rfl) (by kernel_rfl) (fun _ _ _ h => h) (Or.inl ⟨by kernel_rfl, ?_⟩) (by assumption) ?_
  rotate_left
  · (intro w hSw; (try dsimp only at hSw); go_simp; try (with_reducible rfl))
  try simp only [Act.put, List.setIfInBounds_toArray, List.set_cons_zero, List.set_cons_succ]
  refine wpAnyH_done (by kernel_rfl) ?_ _
  clear hHeld4
  go_wp2
  go_ret
  exact ⟨rfl, HB3.out⟩

/-- is a stamp right for a key? -/
def skB (key : Int) (T : Bytes) (v E S : Int) : Bool := fitB v && vrB key (stT T v) E S
theorem scheck_any (key : Int) (T : Bytes) (v E S : Int) (t : Bool) (w : World) (hT : T.length = 32) (hG : Glob w) (hv : Seal (skB key T v E S = t)) :
    Calls Tryz.prog 10 #[.int .i64 key, .agg (stC T v E S).toArray] w fun e w' => e = .returned (.bool t) ∧ Below w.heap.size w w' := by
  have hv' := hv.out
  unfold skB at hv'
  cases ht : fitB v with
  | false =>
    rw [ht, Bool.false_and] at hv'
    subst hv'
    exact scheck_no key T v E S w hT ht
  | true =>
    rw [ht, Bool.true_and] at hv'
    exact scheck_yes key T v E S t w hT ht hG ⟨hv'⟩

theorem with_no (f g : Value) (w : World) : Calls Tryz.prog 18 #[f, .bool false, g] w fun e w' => e = .returned (.int .i64 370) ∧ w = w' := by
  go_enter Tryz.func18, Tryz.ntmps18
  go_wp2
  go_ret
  exact ⟨rfl, rfl⟩

set_option maxHeartbeats 1000000 in
theorem sask_in (key r u v d e0 x0 : Int) (a : Option Addr) (len cap : Nat) (b : Bytes) (bI bu bv bc : Nat) (w : World) (h : Seal (askC key r b u v = (d, e0))) (u1 : -9223372036854775808 ≤ u) (u2 : u ≤ 9223372036854775807) (v1 : -9223372036854775808 ≤ v) (v2 : v ≤ 9223372036854775807)
    (hb : IsB w a len cap b) (hl : len ≤ 1099511627776) (hG : Glob w) (k1 : w.cell? ⟨bI, 35, none⟩ = some (.int .i64 key)) (k2 : w.cell? ⟨bI, 36, none⟩ = some (.int .i64 r)) (k3 : w.cell? ⟨bu, 0, none⟩ = some (.int .i64 u)) (k4 : w.cell? ⟨bv, 0, none⟩ = some (.int .i64 v))
    (hc : w.heap[bc]? = some (.cells #[.int .i64 x0] 3 (0, 0))) :
    Calls Tryz.prog 21 #[.slice a len cap, .pointer (some ⟨bI, 0, none⟩), .pointer (some ⟨bu, 0, none⟩), .pointer (some ⟨bv, 0, none⟩), .pointer (some ⟨bc, 0, none⟩)] w fun e w' => e = .returned (.int .i64 e0) ∧ w.grownBy w' (some bc) ∧ w'.heap[bc]? = some (.cells #[.int .i64 d] 3 (0, 0)) := by
  have HA : Seal _ := ⟨ask_at key r u v d e0 a len cap b w h u1 u2 v1 v2 hb hl hG⟩
  have HC := Seal.mk hc
  clear hb hl hG h hc u1 u2 v1 v2
  go_enter Tryz.func21, Tryz.ntmps21
  go_wp2_with fail
  refine HA.out.mono ?_
  rintro e w1 ⟨rfl, hb1⟩
  have hc1 : w1.heap[bc]? = some (.cells #[.int .i64 x0] 3 (0, 0)) := blk hb1 (Array.getElem?_eq_some_iff.1 HC.out).1 HC.out
  have c1 : w1.cell? ⟨bc, 0, none⟩ = some (.int .i64 x0) := by rw [cell_of_row _ _ _ _ _ _ hc1]; rfl
  have f1 : w1.frozen? ⟨bc, 0, none⟩ = false := frozen_of_row _ _ _ _ _ hc1
  have HC1 := Seal.mk hc1
  have HB1 := Seal.mk hb1
  clear hc1 hb1 HA k1 k2 k3 k4
  go_wp2
  go_ret
  exact ⟨rfl, grown_setCell (grown_of_below HB1.out _) _ _, heap_setCell_row (cs := [.int .i64 x0]) (i := 0) (.int .i64 d) HC1.out⟩

theorem isC_set {T : Bytes} (hT : T.length = 32) (v E S key r a b : Int) : ((isC T v E S key r).set 33 (.int .i64 a)).set 34 (.int .i64 b) = isC T v a b key r := by
  have h : (T.map B).length = 32 := by rw [List.length_map, hT]
  unfold isC
  rw [List.set_append_right 33 _ (by omega), h, List.set_append_right 34 _ (by omega), h]
  rfl

set_option maxHeartbeats 1000000 in
theorem stake_in (key r u v s d0 d1 e0 val E S : Int) (T : Bytes) (a : Option Addr) (len cap : Nat) (b : Bytes) (bI bu bv bs : Nat) (w : World) (h : Seal (finishC key r b u v s = (d0, d1, e0))) (u1 : -9223372036854775808 ≤ u) (u2 : u ≤ 9223372036854775807) (v1 : -9223372036854775808 ≤ v) (v2 : v ≤ 9223372036854775807)
    (hb : IsB w a len cap b) (hl : len ≤ 1099511627776) (hG : Glob w) (k3 : w.cell? ⟨bu, 0, none⟩ = some (.int .i64 u)) (k4 : w.cell? ⟨bv, 0, none⟩ = some (.int .i64 v)) (k5 : w.cell? ⟨bs, 0, none⟩ = some (.int .i64 s))
    (hT : T.length = 32) (hc : w.heap[bI]? = some (.cells (isC T val E S key r).toArray 46 (0, 0))) :
    Calls Tryz.prog 26 #[.slice a len cap, .pointer (some ⟨bI, 0, none⟩), .pointer (some ⟨bu, 0, none⟩), .pointer (some ⟨bv, 0, none⟩), .pointer (some ⟨bs, 0, none⟩)] w fun e w' => e = .returned (.int .i64 e0) ∧ w.grownBy w' (some bI) ∧ w'.heap[bI]? = some (.cells (isC T val d0 d1 key r).toArray 46 (0, 0)) := by
  have HA : Seal _ := ⟨finish_at key r u v s d0 d1 e0 a len cap b w h u1 u2 v1 v2 hb hl hG⟩
  have HC := Seal.mk hc
  have hm : (T.map B).length = 32 := by rw [List.length_map, hT]
  have g : ∀ i x, 32 ≤ i → (([.int .i64 val, .int .i64 E, .int .i64 S, .int .i64 key, .int .i64 r] : List Value)[i - 32]? = some x) → (isC T val E S key r)[i]? = some x := fun i x hi hx => by
    unfold isC
    rw [List.getElem?_append_right (by rw [hm]; exact hi), hm]
    exact hx
  have k1 : w.cell? ⟨bI, 35, none⟩ = some (.int .i64 key) := by rw [cell_of_row _ _ _ _ _ _ hc, List.getElem?_toArray]; exact g 35 _ (by decide) rfl
  have k2 : w.cell? ⟨bI, 36, none⟩ = some (.int .i64 r) := by rw [cell_of_row _ _ _ _ _ _ hc, List.getElem?_toArray]; exact g 36 _ (by decide) rfl
  have g3 := g 33 _ (by decide) rfl
  have g4 := g 34 _ (by decide) rfl
  have HSet := Seal.mk (isC_set hT val E S key r d0 d1)
  obtain ⟨I, hI⟩ : ∃ I, I = isC T val E S key r := ⟨_, rfl⟩
  rw [← hI] at HC g3 g4 HSet
  clear hb hl hG h hc u1 u2 v1 v2 g hI
  go_enter Tryz.func26, Tryz.ntmps26
  go_wp2_with fail
  refine HA.out.mono ?_
  rintro e w1 ⟨rfl, hb1⟩
  have hc1 : w1.heap[bI]? = some (.cells I.toArray 46 (0, 0)) := blk hb1 (Array.getElem?_eq_some_iff.1 HC.out).1 HC.out
  have c1 : w1.cell? ⟨bI, 33, none⟩ = some (.int .i64 E) := by rw [cell_of_row _ _ _ _ _ _ hc1, List.getElem?_toArray]; exact g3
  have c2 : w1.cell? ⟨bI, 34, none⟩ = some (.int .i64 S) := by rw [cell_of_row _ _ _ _ _ _ hc1, List.getElem?_toArray]; exact g4
  have f1 : w1.frozen? ⟨bI, 33, none⟩ = false := frozen_of_row _ _ _ _ _ hc1
  have f2 : w1.frozen? ⟨bI, 34, none⟩ = false := frozen_of_row _ _ _ _ _ hc1
  have HC1 := Seal.mk hc1
  have HB1 := Seal.mk hb1
  clear hc1 hb1 HA k1 k2 k3 k4 k5 g3 g4
  go_wp2
  go_ret
  refine ⟨rfl, grown_setCell (grown_setCell (grown_of_below HB1.out _) _ _) _ _, ?_⟩
  rw [← HSet.out]
  exact heap_setCell_row (i := 34) (.int .i64 d1) (heap_setCell_row (cs := I) (i := 33) (.int .i64 d0) HC1.out)

theorem cell_below' {w w' : World} {b i : Nat} {v : Value} (hb : Below w.heap.size w w') (h : w.cell? ⟨b, i, none⟩ = some v) : w'.cell? ⟨b, i, none⟩ = some v :=
  (hb.cell (p := ⟨b, i, none⟩) (block_lt_of_cell h)).trans h

set_option maxHeartbeats 1000000 in
theorem with_ask (key r u v d e0 x0 val E S : Int) (T : Bytes) (bI bu bv bc : Nat) (w : World) (h : Seal (askC key r (stT T val) u v = (d, e0))) (u1 : -9223372036854775808 ≤ u) (u2 : u ≤ 9223372036854775807) (v1 : -9223372036854775808 ≤ v) (v2 : v ≤ 9223372036854775807)
    (w1 : -9223372036854775808 ≤ val) (w2 : val ≤ 9223372036854775807) (hG : Glob w) (hT : T.length = 32) (k1 : w.cell? ⟨bI, 35, none⟩ = some (.int .i64 key)) (k2 : w.cell? ⟨bI, 36, none⟩ = some (.int .i64 r)) (k3 : w.cell? ⟨bu, 0, none⟩ = some (.int .i64 u)) (k4 : w.cell? ⟨bv, 0, none⟩ = some (.int .i64 v))
    (hc : w.heap[bc]? = some (.cells #[.int .i64 x0] 3 (0, 0))) :
    Calls Tryz.prog 18 #[.func (.func 19) #[.agg (isC T val E S key r).toArray] #[], .bool true, .func (.func 21) #[] #[.pointer (some ⟨bI, 0, none⟩), .pointer (some ⟨bu, 0, none⟩), .pointer (some ⟨bv, 0, none⟩), .pointer (some ⟨bc, 0, none⟩)]] w
      fun e w' => e = .returned (.int .i64 e0) ∧ w.grownBy w' (some bc) ∧ w'.heap[bc]? = some (.cells #[.int .i64 d] 3 (0, 0)) := by
  have HX : Seal _ := ⟨stext_any (isC T val E S key r) T val w (isC_head hT) w1 w2⟩
  have HT := Seal.mk hT
  have HU := Seal.mk (And.intro u1 (And.intro u2 (And.intro v1 v2)))
  have HK := Seal.mk (And.intro k1 (And.intro k2 (And.intro k3 (And.intro k4 hc))))
  have HG := Seal.mk hG
  obtain ⟨I, hI⟩ : ∃ I, I = (isC T val E S key r).toArray := ⟨_, rfl⟩
  rw [← hI] at HX ⊢
  clear u1 u2 v1 v2 w1 w2 hG hT k1 k2 k3 k4 hc hI
  go_enter Tryz.func18, Tryz.ntmps18
  go_wp2_with fail
  refine HX.out.mono ?_
  rintro e z1 ⟨g', n', c', hn, rfl, hf⟩
  have hb1 := hf.out.2.2.2.2
  have hlen := stT_length (v := val) HT.out
  have hIB : IsB z1 (some ⟨g', 0, none⟩) n' c' (stT T val) := ⟨hn.out, hf.out.1, by rw [← hn.out]; omega, hf.out.2.1, .inr ⟨g', 0, rfl, hf.out.2.2.2.1, hf.out.2.2.1⟩⟩
  have HA : Seal _ := ⟨sask_in key r u v d e0 x0 (some ⟨g', 0, none⟩) n' c' (stT T val) bI bu bv bc z1 h HU.out.1 HU.out.2.1 HU.out.2.2.1 HU.out.2.2.2 hIB (by rw [← hn.out]; omega) (HG.out.below hb1) (cell_below' hb1 HK.out.1) (cell_below' hb1 HK.out.2.1) (cell_below' hb1 HK.out.2.2.1) (cell_below' hb1 HK.out.2.2.2.1) (blk hb1 (Array.getElem?_eq_some_iff.1 HK.out.2.2.2.2).1 HK.out.2.2.2.2)⟩
  have HB1 := Seal.mk hb1
  clear hf hb1 hlen hIB HX
  go_wp2_with fail
  refine HA.out.mono ?_
  rintro e z2 ⟨rfl, hg, hr⟩
  have HG2 := Seal.mk (And.intro hg hr)
  clear hg hr HA
  go_wp2
  go_ret
  exact ⟨rfl, ⟨HG2.out.1.os.trans HB1.out.os, HG2.out.1.tape.trans HB1.out.tape, HG2.out.1.output.trans HB1.out.output, Nat.le_trans HB1.out.size HG2.out.1.size, fun k hk hne => (HG2.out.1.block k (Nat.lt_of_lt_of_le hk HB1.out.size) hne).trans (HB1.out.block k hk)⟩, HG2.out.2⟩

set_option maxHeartbeats 1000000 in
theorem with_take (key r u v s d0 d1 e0 val E S : Int) (T : Bytes) (bI bu bv bs : Nat) (w : World) (h : Seal (finishC key r (stT T val) u v s = (d0, d1, e0))) (u1 : -9223372036854775808 ≤ u) (u2 : u ≤ 9223372036854775807) (v1 : -9223372036854775808 ≤ v) (v2 : v ≤ 9223372036854775807)
    (w1 : -9223372036854775808 ≤ val) (w2 : val ≤ 9223372036854775807) (hG : Glob w) (hT : T.length = 32) (k3 : w.cell? ⟨bu, 0, none⟩ = some (.int .i64 u)) (k4 : w.cell? ⟨bv, 0, none⟩ = some (.int .i64 v)) (k5 : w.cell? ⟨bs, 0, none⟩ = some (.int .i64 s))
    (hc : w.heap[bI]? = some (.cells (isC T val E S key r).toArray 46 (0, 0))) :
    Calls Tryz.prog 18 #[.func (.func 19) #[.agg (isC T val E S key r).toArray] #[], .bool true, .func (.func 26) #[] #[.pointer (some ⟨bI, 0, none⟩), .pointer (some ⟨bu, 0, none⟩), .pointer (some ⟨bv, 0, none⟩), .pointer (some ⟨bs, 0, none⟩)]] w
      fun e w' => e = .returned (.int .i64 e0) ∧ w.grownBy w' (some bI) ∧ w'.heap[bI]? = some (.cells (isC T val d0 d1 key r).toArray 46 (0, 0)) := by
  have HX : Seal _ := ⟨stext_any (isC T val E S key r) T val w (isC_head hT) w1 w2⟩
  have HT := Seal.mk hT
  have HU := Seal.mk (And.intro u1 (And.intro u2 (And.intro v1 v2)))
  have HK := Seal.mk (And.intro k3 (And.intro k4 (And.intro k5 hc)))
  have HG := Seal.mk hG
  obtain ⟨I, hI⟩ : ∃ I, I = (isC T val E S key r).toArray := ⟨_, rfl⟩
  rw [← hI] at HX ⊢
  clear u1 u2 v1 v2 w1 w2 hG hT k3 k4 k5 hc hI
  go_enter Tryz.func18, Tryz.ntmps18
  go_wp2_with fail
  refine HX.out.mono ?_
  rintro e z1 ⟨g', n', c', hn, rfl, hf⟩
  have hb1 := hf.out.2.2.2.2
  have hlen := stT_length (v := val) HT.out
  have hIB : IsB z1 (some ⟨g', 0, none⟩) n' c' (stT T val) := ⟨hn.out, hf.out.1, by rw [← hn.out]; omega, hf.out.2.1, .inr ⟨g', 0, rfl, hf.out.2.2.2.1, hf.out.2.2.1⟩⟩
  have HA : Seal _ := ⟨stake_in key r u v s d0 d1 e0 val E S T (some ⟨g', 0, none⟩) n' c' (stT T val) bI bu bv bs z1 h HU.out.1 HU.out.2.1 HU.out.2.2.1 HU.out.2.2.2 hIB (by rw [← hn.out]; omega) (HG.out.below hb1) (cell_below' hb1 HK.out.1) (cell_below' hb1 HK.out.2.1) (cell_below' hb1 HK.out.2.2.1) HT.out (blk hb1 (Array.getElem?_eq_some_iff.1 HK.out.2.2.2).1 HK.out.2.2.2)⟩
  have HB1 := Seal.mk hb1
  clear hf hb1 hlen hIB HX
  go_wp2_with fail
  refine HA.out.mono ?_
  rintro e z2 ⟨rfl, hg, hr⟩
  have HG2 := Seal.mk (And.intro hg hr)
  clear hg hr HA
  go_wp2
  go_ret
  exact ⟨rfl, ⟨HG2.out.1.os.trans HB1.out.os, HG2.out.1.tape.trans HB1.out.tape, HG2.out.1.output.trans HB1.out.output, Nat.le_trans HB1.out.size HG2.out.1.size, fun k hk hne => (HG2.out.1.block k (Nat.lt_of_lt_of_le hk HB1.out.size) hne).trans (HB1.out.block k hk)⟩, HG2.out.2⟩

/-- results that lie in a variable and in a slot -/
theorem results_int_tmp {fn : Func} {p q : Tmp} (h : fn.results = #[.cell p 3, .tmp q]) (tmps : Array Value) (w : World) (g : Nat) (x v : Value)
    (hp : tmps.getD p undef = .pointer (some ⟨g, 0, none⟩)) (hq : tmps.getD q undef = v) (hc : w.cell? ⟨g, 0, none⟩ = some x) :
    (results fn tmps).run Tryz.prog w = .ok (.tuple #[x, v]) w := by
  have hp' : tmps[p]?.getD undef = .pointer (some ⟨g, 0, none⟩) := by simpa using hp
  have hq' : tmps[q]?.getD undef = v := by simpa using hq
  simp [results, h, hp', hq', asAddr, go_sem, hc]

/-- what Ask returns -/
def saskF (key r : Int) (T : Bytes) (val u v : Int) : Int × Int := if fitB val = true then askC key r (stT T val) u v else (0, 370)

theorem isC_at {T : Bytes} {v E S key r : Int} (hT : T.length = 32) (i : Nat) (x : Value) (hi : 32 ≤ i) (hx : ([.int .i64 v, .int .i64 E, .int .i64 S, .int .i64 key, .int .i64 r] : List Value)[i - 32]? = some x) : (isC T v E S key r)[i]? = some x := by
  have hm : (T.map B).length = 32 := by rw [List.length_map, hT]
  unfold isC
  rw [List.getElem?_append_right (by rw [hm]; exact hi), hm]
  exact hx

theorem Below.os_grown {w w1 w2 : World} {b g : Nat} (hb : Below b w w1) (hg : w1.grownBy w2 (some g)) (hgb : b ≤ g) (hs : b ≤ w1.heap.size) : Below b w w2 :=
  ⟨hg.os.trans hb.os, hg.tape.trans hb.tape, hg.output.trans hb.output, Nat.le_trans hb.size hg.size, fun k hk => (hg.block k (Nat.lt_of_lt_of_le hk hs) (fun e => by cases e; omega)).trans (hb.block k hk)⟩

set_option maxHeartbeats 2000000 in
theorem sask_yes (key r u v d e0 val : Int) (T : Bytes) (w : World) (h : Seal (askC key r (stT T val) u v = (d, e0))) (u1 : -9223372036854775808 ≤ u) (u2 : u ≤ 9223372036854775807) (v1 : -9223372036854775808 ≤ v) (v2 : v ≤ 9223372036854775807) (hG : Glob w) (hT : T.length = 32) (ht : fitB val = true) :
    Calls Tryz.prog 6 #[.int .i64 key, .int .i64 r, .agg (T.map B).toArray, .int .i64 val, .int .i64 u, .int .i64 v] w fun e w' => e = .returned (.tuple #[.int .i64 d, .int .i64 e0]) ∧ Below w.heap.size w w' := by
  have hv1 : -9223372036854775808 ≤ val ∧ val ≤ 9223372036854775807 := by
    unfold fitB at ht
    simp at ht
    omega
  have HU := Seal.mk (And.intro u1 (And.intro u2 (And.intro v1 (And.intro v2 hv1))))
  clear u1 u2 v1 v2 hv1
  obtain ⟨TC, hTC⟩ : ∃ TC, TC = T.map B := ⟨_, rfl⟩
  obtain ⟨C, hC⟩ : ∃ C, C = stC T val 0 0 := ⟨_, rfl⟩
  obtain ⟨I, hI⟩ : ∃ I, I = isC T val 0 0 key r := ⟨_, rfl⟩
  have cT : TC.length = 32 := by rw [hTC, List.length_map, hT]
  have cl : C.length = 35 := by rw [hC]; exact stC_len hT
  obtain ⟨D0, hD0⟩ : ∃ D0, D0 = TC ++ ([.int .i64 0, .int .i64 0, .int .i64 0] : List Value) := ⟨_, rfl⟩
  obtain ⟨D1, hD1⟩ : ∃ D1, D1 = C ++ ([.int .i64 0, .int .i64 0] : List Value) := ⟨_, rfl⟩
  have hfold0 := fold_st hT
  rw [← hTC, ← hD0] at hfold0
  have hfold1 := fold_is cl
  rw [← hD1] at hfold1
  have hset0 : D0.set 32 (.int .i64 val) = C := by rw [hD0, hTC, stC_build hT, hC]
  have hset1 : (D1.set 35 (.int .i64 key)).set 36 (.int .i64 r) = I := by rw [hD1, hC, isC_build hT, hI]
  have cl0 : D0.length = 35 := by rw [hD0, List.length_append, cT]; rfl
  have cl1 : D1.length = 37 := by rw [hD1, List.length_append, cl]; rfl
  have irT : (Tryz.prog.info? 23).map (·.size) = some 32 := by kernel_rfl
  have ir : (Tryz.prog.info? 27).map (·.size) = some 35 := by kernel_rfl
  have ITC : Seal ((Tryz.prog.info? 23).map (·.size) = some TC.toArray.size) := ⟨by rw [List.size_toArray, cT]; exact irT⟩
  have II : Seal ((Tryz.prog.info? 46).map (·.size) = some I.length) := ⟨by rw [hI]; exact isC_info hT⟩
  have LI : Seal ((.int .u8 0 :: .int .u8 0 :: .int .u8 0 :: .int .u8 0 :: .int .u8 0 :: .int .u8 0 :: .int .u8 0 :: .int .u8 0 :: .int .u8 0 :: .int .u8 0 :: .int .u8 0 :: .int .u8 0 :: .int .u8 0 :: .int .u8 0 :: .int .u8 0 :: .int .u8 0 :: .int .u8 0 :: .int .u8 0 :: .int .u8 0 :: .int .u8 0 :: .int .u8 0 :: .int .u8 0 :: .int .u8 0 :: .int .u8 0 :: .int .u8 0 :: .int .u8 0 :: .int .u8 0 :: .int .u8 0 :: .int .u8 0 :: .int .u8 0 :: .int .u8 0 :: .int .u8 0 :: .int .i64 0 :: .int .i64 0 :: .int .i64 0 :: .int .i64 0 :: .int .i64 0 :: [] : List Value).length = I.length) := ⟨by rw [hI, isC_len hT]; rfl⟩
  have OI : Seal (∀ u ∈ I, u.oneCell' = true) := ⟨by rw [hI]; exact isC_one _ _ _ _ _ _⟩
  have HH : Seal (IsHead I T val) := ⟨by rw [hI]; exact isC_head hT⟩
  have HT := Seal.mk hT
  have HI := Seal.mk hI
  rw [← hTC]
  clear hT hTC hC hD0 hD1
  obtain ⟨W1, hW1⟩ : ∃ W1, W1 = w.alloc (.cells TC.toArray 23) := ⟨_, rfl⟩
  obtain ⟨W2, hW2⟩ : ∃ W2, W2 = W1.alloc (.cells #[.int .i64 u] 3) := ⟨_, rfl⟩
  obtain ⟨W3, hW3⟩ : ∃ W3, W3 = W2.alloc (.cells #[.int .i64 v] 3) := ⟨_, rfl⟩
  obtain ⟨X, hX⟩ : ∃ X, X = W3.alloc (.cells #[.int .i64 0] 3) := ⟨_, rfl⟩
  have z1 : W1.heap.size = w.heap.size + 1 := by rw [hW1, size_alloc]
  have z2 : W2.heap.size = w.heap.size + 2 := by rw [hW2, size_alloc, z1]
  have z3 : W3.heap.size = w.heap.size + 3 := by rw [hW3, size_alloc, z2]
  have z4 : X.heap.size = w.heap.size + 4 := by rw [hX, size_alloc, z3]
  have hXe : X = (((w.alloc (.cells TC.toArray 23)).alloc (.cells #[.int .i64 u] 3)).alloc (.cells #[.int .i64 v] 3)).alloc (.cells #[.int .i64 0] 3) := by rw [hX, hW3, hW2, hW1]
  have HE0 : Seal (Env X none 0 0 [] [(w.heap.size + 3, .cells #[.int .i64 0] 3), (w.heap.size + 2, .cells #[.int .i64 v] 3), (w.heap.size + 1, .cells #[.int .i64 u] 3), (w.heap.size, .cells TC.toArray 23)]) := ⟨by
    have h := Env.push (Env.push (Env.push (Env.push (bs := []) ⟨hG, isB_nil w, by intro p hp; cases hp⟩ (.cells TC.toArray 23)) (.cells #[.int .i64 u] 3)) (.cells #[.int .i64 v] 3)) (.cells #[.int .i64 0] 3)
    rw [← hXe] at h
    simp only [size_alloc] at h
    exact h⟩
  have HB0 : Seal (Below w.heap.size w X) := ⟨by rw [hXe]; exact ((((Below.refl _ w).alloc (Nat.le_refl _) _).alloc (by simp) _).alloc (by simp; omega) _).alloc (by simp; omega) _⟩
  have R1 := Seal.mk (HE0.out.keep (w.heap.size, .cells TC.toArray 23) (by simp))
  have hXE := Seal.mk hXe
  have HZ4 := Seal.mk z4
  clear hG hW1 hW2 hW3 hX z1 z2 z3 hXe z4 hI
  go_enter Tryz.func6, Tryz.ntmps6
  go_upto_region 1 with (fail)
  rw [← hXE.out]
  clear hXE
  go_upto_region 2 with (first | (refine wpList_load_row rfl 23 (.tmp 8) rfl w.heap.size rfl 23 TC.toArray (0, 0) _ R1.out Tryz.underlying23 rfl ITC.out ?_) | (refine wpList_store_new rfl 46 (.tmp 14) (.tmp 20) rfl (.int .u8 0 :: .int .u8 0 :: .int .u8 0 :: .int .u8 0 :: .int .u8 0 :: .int .u8 0 :: .int .u8 0 :: .int .u8 0 :: .int .u8 0 :: .int .u8 0 :: .int .u8 0 :: .int .u8 0 :: .int .u8 0 :: .int .u8 0 :: .int .u8 0 :: .int .u8 0 :: .int .u8 0 :: .int .u8 0 :: .int .u8 0 :: .int .u8 0 :: .int .u8 0 :: .int .u8 0 :: .int .u8 0 :: .int .u8 0 :: .int .u8 0 :: .int .u8 0 :: .int .u8 0 :: .int .u8 0 :: .int .u8 0 :: .int .u8 0 :: .int .u8 0 :: .int .u8 0 :: .int .i64 0 :: .int .i64 0 :: .int .i64 0 :: .int .i64 0 :: .int .i64 0 :: [] : List Value) I 46 rfl rfl II.out LI.out OI.out ?_))
  have HE1 := Seal.mk (HE0.out.push (.cells I.toArray 46))
  have HB1 := Seal.mk (HB0.out.alloc HB0.out.size (.cells I.toArray 46))
  clear HE0 HB0 R1 hfold0 hfold1 hset0 hset1 cl0 cl1 cl irT ir ITC LI OI cT
  rw [HZ4.out] at HE1 ⊢
  obtain ⟨Z, hZ⟩ : ∃ Z : World, Z = X.alloc (.cells I.toArray 46) := ⟨_, rfl⟩
  rw [← hZ] at HE1 HB1 ⊢
  clear hZ HZ4
  have rI : Z.rangeAt (w.heap.size + 4) 0 I := rangeAt_row (HE1.out.keep (w.heap.size + 4, .cells I.toArray 46) (by simp))
  have iI := II.out
  have uI := Tryz.underlying46
  refine wp_region_heldU 5 (S := fun w' => w'.rangeAt (w.heap.size + 4) 0 I) (by kernel_rfl) rI (fun hHeld => ?_)
  refine take_u2 0 1 _ rfl (by kernel_rfl) (by kernel_rfl) (by kernel_rfl) (by kernel_rfl) (by kernel_rfl) (by kernel_rfl) (by kernel_rfl) (by kernel_rfl) (fun _ _ _ h => h) (yieldsIf_load_mid (by kernel_rfl) 46 (.tmp 14) rfl (w.heap.size + 4) 0 rfl I _ (fun w hSw => hSw) uI rfl iI) (by assumption) ?_
  try simp only [Act.put, List.setIfInBounds_toArray, List.set_cons_zero, List.set_cons_succ]
  refine take_u 1 ?_ rfl (by kernel_rfl) (by kernel_rfl) (by kernel_rfl) (by kernel_rfl) (by kernel_rfl) (fun _ _ _ h => h) (Or.inl ⟨by kernel_rfl, ?_⟩) (by assumption) ?_
  rotate_left
  · (intro w hSw; (try dsimp only at hSw); go_simp; try (with_reducible rfl))
  try simp only [Act.put, List.setIfInBounds_toArray, List.set_cons_zero, List.set_cons_succ]
  refine take_u2 2 3 _ rfl (by kernel_rfl) (by kernel_rfl) (by kernel_rfl) (by kernel_rfl) (by kernel_rfl) (by kernel_rfl) (by kernel_rfl) (by kernel_rfl) (fun _ _ _ h => h) (yieldsIf_load_mid (by kernel_rfl) 46 (.tmp 14) rfl (w.heap.size + 4) 0 rfl I _ (fun w hSw => hSw) uI rfl iI) (by assumption) ?_
  try simp only [Act.put, List.setIfInBounds_toArray, List.set_cons_zero, List.set_cons_succ]
  refine take_u 4 ?_ rfl (by kernel_rfl) (by kernel_rfl) (by kernel_rfl) (by kernel_rfl) (by kernel_rfl) (fun _ _ _ h => h) (Or.inl ⟨by kernel_rfl, ?_⟩) (by assumption) ?_
  rotate_left
  · (intro w hSw; (try dsimp only at hSw); go_simp; try (with_reducible rfl))
  try simp only [Act.put, List.setIfInBounds_toArray, List.set_cons_zero, List.set_cons_succ]
  refine call_u 3 rfl (by kernel_rfl) 20 #[.agg I.toArray] (by kernel_rfl) (by go_simp) ?_
  refine (sfits_any I T val _ Z.drew HH.out ht).mono ?_
  rintro e w1 ⟨rfl, hb1⟩
  have hb2 : Below Z.heap.size Z w1 := ⟨hb1.os, hb1.tape, hb1.output, hb1.size, hb1.block⟩
  have HE2 := Seal.mk (HE1.out.below hb2)
  have HB2 : Seal (Below w.heap.size w w1) := ⟨HB1.out.trans (hb2.mono HB1.out.size)⟩
  refine ⟨_, rfl, rangeAt_below' rI hb2, fun hHeld2 => ?_⟩
  clear hHeld hHeld2 hb1 hb2 rI HE1 HB1 iI uI
  try simp only [Act.put, List.setIfInBounds_toArray, List.set_cons_zero, List.set_cons_succ]
  refine call_at_u 5 rfl (by kernel_rfl) (by kernel_rfl) 18 #[.func (.func 19) #[.agg I.toArray] #[], .bool true, .func (.func 21) #[] #[.pointer (some ⟨w.heap.size + 4, 0, none⟩), .pointer (some ⟨w.heap.size + 1, 0, none⟩), .pointer (some ⟨w.heap.size + 2, 0, none⟩), .pointer (some ⟨w.heap.size + 3, 0, none⟩)]] (by kernel_rfl) (by go_simp) ?_
  have HW : Seal _ := ⟨with_ask key r u v d e0 0 val 0 0 T (w.heap.size + 4) (w.heap.size + 1) (w.heap.size + 2) (w.heap.size + 3) w1 h HU.out.1 HU.out.2.1 HU.out.2.2.1 HU.out.2.2.2.1 HU.out.2.2.2.2.1 HU.out.2.2.2.2.2 HE2.out.glob HT.out
    (HE2.out.cell (cs := I.toArray) (t := 46) (by simp) (by rw [HI.out, List.getElem?_toArray]; exact isC_at HT.out 35 _ (by decide) rfl)) (HE2.out.cell (cs := I.toArray) (t := 46) (by simp) (by rw [HI.out, List.getElem?_toArray]; exact isC_at HT.out 36 _ (by decide) rfl))
    (HE2.out.cell (cs := #[.int .i64 u]) (t := 3) (by simp) rfl) (HE2.out.cell (cs := #[.int .i64 v]) (t := 3) (by simp) rfl) (HE2.out.keep (w.heap.size + 3, .cells #[.int .i64 0] 3) (by simp))⟩
  rw [← HI.out] at HW
  refine HW.out.mono ?_
  rintro e w2 ⟨rfl, hg, hr⟩
  have HB3 : Seal (Below w.heap.size w w2) := ⟨Frk.Below.os_grown HB2.out hg (Nat.le_add_right _ 3) HB2.out.size⟩
  have c1 : w2.cell? ⟨w.heap.size + 3, 0, none⟩ = some (.int .i64 d) := by rw [cell_of_row _ _ _ _ _ _ hr]; rfl
  have f1 : w2.frozen? ⟨w.heap.size + 3, 0, none⟩ = false := frozen_of_row _ _ _ _ _ hr
  refine ⟨_, rfl, ?_⟩
  clear HW HE2 hg
  try simp only [Act.put, List.setIfInBounds_toArray, List.set_cons_zero, List.set_cons_succ]
  refine last_u 6 (.int .i64 e0) rfl (by kernel_rfl) (by kernel_rfl) (by kernel_rfl) (by kernel_rfl) (by go_simp) ?_
  have HR := Seal.mk hr
  clear hr
  go_wp2
  have c2 := World.cell?_setCell_same' w2 ⟨w.heap.size + 1 + 1 + 1, 0, none⟩ (.int .i64 d) (by rw [c1]; rfl)
  exact bodyPost_ret (results_int_tmp (fn := Tryz.f6) rfl _ _ _ _ _ rfl rfl c2) rfl ⟨rfl, HB3.out.setCell (p := ⟨w.heap.size + 1 + 1 + 1, 0, none⟩) (by simp; omega) _⟩
set_option maxHeartbeats 1000000 in
theorem sask_no (key r u v val : Int) (T : Bytes) (w : World) (hG : Glob w) (hT : T.length = 32) (ht : fitB val = false) :
    Calls Tryz.prog 6 #[.int .i64 key, .int .i64 r, .agg (T.map B).toArray, .int .i64 val, .int .i64 u, .int .i64 v] w fun e w' => e = .returned (.tuple #[.int .i64 0, .int .i64 370]) ∧ Below w.heap.size w w' := by
  obtain ⟨TC, hTC⟩ : ∃ TC, TC = T.map B := ⟨_, rfl⟩
  obtain ⟨C, hC⟩ : ∃ C, C = stC T val 0 0 := ⟨_, rfl⟩
  obtain ⟨I, hI⟩ : ∃ I, I = isC T val 0 0 key r := ⟨_, rfl⟩
  have cT : TC.length = 32 := by rw [hTC, List.length_map, hT]
  have cl : C.length = 35 := by rw [hC]; exact stC_len hT
  obtain ⟨D0, hD0⟩ : ∃ D0, D0 = TC ++ ([.int .i64 0, .int .i64 0, .int .i64 0] : List Value) := ⟨_, rfl⟩
  obtain ⟨D1, hD1⟩ : ∃ D1, D1 = C ++ ([.int .i64 0, .int .i64 0] : List Value) := ⟨_, rfl⟩
  have hfold0 := fold_st hT
  rw [← hTC, ← hD0] at hfold0
  have hfold1 := fold_is cl
  rw [← hD1] at hfold1
  have hset0 : D0.set 32 (.int .i64 val) = C := by rw [hD0, hTC, stC_build hT, hC]
  have hset1 : (D1.set 35 (.int .i64 key)).set 36 (.int .i64 r) = I := by rw [hD1, hC, isC_build hT, hI]
  have cl0 : D0.length = 35 := by rw [hD0, List.length_append, cT]; rfl
  have cl1 : D1.length = 37 := by rw [hD1, List.length_append, cl]; rfl
  have irT : (Tryz.prog.info? 23).map (·.size) = some 32 := by kernel_rfl
  have ir : (Tryz.prog.info? 27).map (·.size) = some 35 := by kernel_rfl
  have ITC : Seal ((Tryz.prog.info? 23).map (·.size) = some TC.toArray.size) := ⟨by rw [List.size_toArray, cT]; exact irT⟩
  have II : Seal ((Tryz.prog.info? 46).map (·.size) = some I.length) := ⟨by rw [hI]; exact isC_info hT⟩
  have LI : Seal ((.int .u8 0 :: .int .u8 0 :: .int .u8 0 :: .int .u8 0 :: .int .u8 0 :: .int .u8 0 :: .int .u8 0 :: .int .u8 0 :: .int .u8 0 :: .int .u8 0 :: .int .u8 0 :: .int .u8 0 :: .int .u8 0 :: .int .u8 0 :: .int .u8 0 :: .int .u8 0 :: .int .u8 0 :: .int .u8 0 :: .int .u8 0 :: .int .u8 0 :: .int .u8 0 :: .int .u8 0 :: .int .u8 0 :: .int .u8 0 :: .int .u8 0 :: .int .u8 0 :: .int .u8 0 :: .int .u8 0 :: .int .u8 0 :: .int .u8 0 :: .int .u8 0 :: .int .u8 0 :: .int .i64 0 :: .int .i64 0 :: .int .i64 0 :: .int .i64 0 :: .int .i64 0 :: [] : List Value).length = I.length) := ⟨by rw [hI, isC_len hT]; rfl⟩
  have OI : Seal (∀ u ∈ I, u.oneCell' = true) := ⟨by rw [hI]; exact isC_one _ _ _ _ _ _⟩
  have HH : Seal (IsHead I T val) := ⟨by rw [hI]; exact isC_head hT⟩
  have HT := Seal.mk hT
  have HI := Seal.mk hI
  rw [← hTC]
  clear hT hTC hC hD0 hD1
  obtain ⟨W1, hW1⟩ : ∃ W1, W1 = w.alloc (.cells TC.toArray 23) := ⟨_, rfl⟩
  obtain ⟨W2, hW2⟩ : ∃ W2, W2 = W1.alloc (.cells #[.int .i64 u] 3) := ⟨_, rfl⟩
  obtain ⟨W3, hW3⟩ : ∃ W3, W3 = W2.alloc (.cells #[.int .i64 v] 3) := ⟨_, rfl⟩
  obtain ⟨X, hX⟩ : ∃ X, X = W3.alloc (.cells #[.int .i64 0] 3) := ⟨_, rfl⟩
  have z1 : W1.heap.size = w.heap.size + 1 := by rw [hW1, size_alloc]
  have z2 : W2.heap.size = w.heap.size + 2 := by rw [hW2, size_alloc, z1]
  have z3 : W3.heap.size = w.heap.size + 3 := by rw [hW3, size_alloc, z2]
  have z4 : X.heap.size = w.heap.size + 4 := by rw [hX, size_alloc, z3]
  have hXe : X = (((w.alloc (.cells TC.toArray 23)).alloc (.cells #[.int .i64 u] 3)).alloc (.cells #[.int .i64 v] 3)).alloc (.cells #[.int .i64 0] 3) := by rw [hX, hW3, hW2, hW1]
  have HE0 : Seal (Env X none 0 0 [] [(w.heap.size + 3, .cells #[.int .i64 0] 3), (w.heap.size + 2, .cells #[.int .i64 v] 3), (w.heap.size + 1, .cells #[.int .i64 u] 3), (w.heap.size, .cells TC.toArray 23)]) := ⟨by
    have h := Env.push (Env.push (Env.push (Env.push (bs := []) ⟨hG, isB_nil w, by intro p hp; cases hp⟩ (.cells TC.toArray 23)) (.cells #[.int .i64 u] 3)) (.cells #[.int .i64 v] 3)) (.cells #[.int .i64 0] 3)
    rw [← hXe] at h
    simp only [size_alloc] at h
    exact h⟩
  have HB0 : Seal (Below w.heap.size w X) := ⟨by rw [hXe]; exact ((((Below.refl _ w).alloc (Nat.le_refl _) _).alloc (by simp) _).alloc (by simp; omega) _).alloc (by simp; omega) _⟩
  have R1 := Seal.mk (HE0.out.keep (w.heap.size, .cells TC.toArray 23) (by simp))
  have hXE := Seal.mk hXe
  have HZ4 := Seal.mk z4
  clear hG hW1 hW2 hW3 hX z1 z2 z3 hXe z4 hI
  go_enter Tryz.func6, Tryz.ntmps6
  go_upto_region 1 with (fail)
  rw [← hXE.out]
  clear hXE
  go_upto_region 2 with (first | (refine wpList_load_row rfl 23 (.tmp 8) rfl w.heap.size rfl 23 TC.toArray (0, 0) _ R1.out Tryz.underlying23 rfl ITC.out ?_) | (refine wpList_store_new rfl 46 (.tmp 14) (.tmp 20) rfl (.int .u8 0 :: .int .u8 0 :: .int .u8 0 :: .int .u8 0 :: .int .u8 0 :: .int .u8 0 :: .int .u8 0 :: .int .u8 0 :: .int .u8 0 :: .int .u8 0 :: .int .u8 0 :: .int .u8 0 :: .int .u8 0 :: .int .u8 0 :: .int .u8 0 :: .int .u8 0 :: .int .u8 0 :: .int .u8 0 :: .int .u8 0 :: .int .u8 0 :: .int .u8 0 :: .int .u8 0 :: .int .u8 0 :: .int .u8 0 :: .int .u8 0 :: .int .u8 0 :: .int .u8 0 :: .int .u8 0 :: .int .u8 0 :: .int .u8 0 :: .int .u8 0 :: .int .u8 0 :: .int .i64 0 :: .int .i64 0 :: .int .i64 0 :: .int .i64 0 :: .int .i64 0 :: [] : List Value) I 46 rfl rfl II.out LI.out OI.out ?_))
  have HE1 := Seal.mk (HE0.out.push (.cells I.toArray 46))
  have HB1 := Seal.mk (HB0.out.alloc HB0.out.size (.cells I.toArray 46))
  clear HE0 HB0 R1 hfold0 hfold1 hset0 hset1 cl0 cl1 cl irT ir ITC LI OI cT
  rw [HZ4.out] at HE1 ⊢
  obtain ⟨Z, hZ⟩ : ∃ Z : World, Z = X.alloc (.cells I.toArray 46) := ⟨_, rfl⟩
  rw [← hZ] at HE1 HB1 ⊢
  clear hZ HZ4
  have rI : Z.rangeAt (w.heap.size + 4) 0 I := rangeAt_row (HE1.out.keep (w.heap.size + 4, .cells I.toArray 46) (by simp))
  have iI := II.out
  have uI := Tryz.underlying46
  refine wp_region_heldU 5 (S := fun w' => w'.rangeAt (w.heap.size + 4) 0 I) (by kernel_rfl) rI (fun hHeld => ?_)
  refine take_u2 0 1 _ rfl (by kernel_rfl) (by kernel_rfl) (by kernel_rfl) (by kernel_rfl) (by kernel_rfl) (by kernel_rfl) (by kernel_rfl) (by kernel_rfl) (fun _ _ _ h => h) (yieldsIf_load_mid (by kernel_rfl) 46 (.tmp 14) rfl (w.heap.size + 4) 0 rfl I _ (fun w hSw => hSw) uI rfl iI) (by assumption) ?_
  try simp only [Act.put, List.setIfInBounds_toArray, List.set_cons_zero, List.set_cons_succ]
  refine take_u 1 ?_ rfl (by kernel_rfl) (by kernel_rfl) (by kernel_rfl) (by kernel_rfl) (by kernel_rfl) (fun _ _ _ h => h) (Or.inl ⟨by kernel_rfl, ?_⟩) (by assumption) ?_
  rotate_left
  · (intro w hSw; (try dsimp only at hSw); go_simp; try (with_reducible rfl))
  try simp only [Act.put, List.setIfInBounds_toArray, List.set_cons_zero, List.set_cons_succ]
  refine take_u2 2 3 _ rfl (by kernel_rfl) (by kernel_rfl) (by kernel_rfl) (by kernel_rfl) (by kernel_rfl) (by kernel_rfl) (by kernel_rfl) (by kernel_rfl) (fun _ _ _ h => h) (yieldsIf_load_mid (by kernel_rfl) 46 (.tmp 14) rfl (w.heap.size + 4) 0 rfl I _ (fun w hSw => hSw) uI rfl iI) (by assumption) ?_
  try simp only [Act.put, List.setIfInBounds_toArray, List.set_cons_zero, List.set_cons_succ]
  refine take_u 4 ?_ rfl (by kernel_rfl) (by kernel_rfl) (by kernel_rfl) (by kernel_rfl) (by kernel_rfl) (fun _ _ _ h => h) (Or.inl ⟨by kernel_rfl, ?_⟩) (by assumption) ?_
  rotate_left
  · (intro w hSw; (try dsimp only at hSw); go_simp; try (with_reducible rfl))
  try simp only [Act.put, List.setIfInBounds_toArray, List.set_cons_zero, List.set_cons_succ]
  refine call_u 3 rfl (by kernel_rfl) 20 #[.agg I.toArray] (by kernel_rfl) (by go_simp) ?_
  refine (sfits_any I T val _ Z.drew HH.out ht).mono ?_
  rintro e w1 ⟨rfl, hb1⟩
  have hb2 : Below Z.heap.size Z w1 := ⟨hb1.os, hb1.tape, hb1.output, hb1.size, hb1.block⟩
  have HE2 := Seal.mk (HE1.out.below hb2)
  have HB2 : Seal (Below w.heap.size w w1) := ⟨HB1.out.trans (hb2.mono HB1.out.size)⟩
  refine ⟨_, rfl, rangeAt_below' rI hb2, fun hHeld2 => ?_⟩
  clear hHeld hHeld2 hb1 hb2 rI HE1 HB1 iI uI
  try simp only [Act.put, List.setIfInBounds_toArray, List.set_cons_zero, List.set_cons_succ]
  refine call_at_u 5 rfl (by kernel_rfl) (by kernel_rfl) 18 #[.func (.func 19) #[.agg I.toArray] #[], .bool false, .func (.func 21) #[] #[.pointer (some ⟨w.heap.size + 4, 0, none⟩), .pointer (some ⟨w.heap.size + 1, 0, none⟩), .pointer (some ⟨w.heap.size + 2, 0, none⟩), .pointer (some ⟨w.heap.size + 3, 0, none⟩)]] (by kernel_rfl) (by go_simp) ?_
  have hr := HE2.out.keep (w.heap.size + 3, .cells #[.int .i64 0] 3) (by simp)
  refine (with_no _ _ w1).mono ?_
  rintro e w2 ⟨rfl, rfl⟩
  have c1 : w1.cell? ⟨w.heap.size + 3, 0, none⟩ = some (.int .i64 0) := by rw [cell_of_row _ _ _ _ _ _ hr]; rfl
  have f1 : w1.frozen? ⟨w.heap.size + 3, 0, none⟩ = false := frozen_of_row _ _ _ _ _ hr
  refine ⟨_, rfl, ?_⟩
  clear HE2 hr
  try simp only [Act.put, List.setIfInBounds_toArray, List.set_cons_zero, List.set_cons_succ]
  refine last_u 6 (.int .i64 370) rfl (by kernel_rfl) (by kernel_rfl) (by kernel_rfl) (by kernel_rfl) (by go_simp) ?_
  go_wp2
  have c2 := World.cell?_setCell_same' w1 ⟨w.heap.size + 1 + 1 + 1, 0, none⟩ (.int .i64 0) (by rw [c1]; rfl)
  exact bodyPost_ret (results_int_tmp (fn := Tryz.f6) rfl _ _ _ _ _ rfl rfl c2) rfl ⟨rfl, HB2.out.setCell (p := ⟨w.heap.size + 1 + 1 + 1, 0, none⟩) (by simp; omega) _⟩

theorem sask_any (key r u v d e0 val : Int) (T : Bytes) (w : World) (h : Seal (saskF key r T val u v = (d, e0))) (u1 : -9223372036854775808 ≤ u) (u2 : u ≤ 9223372036854775807) (v1 : -9223372036854775808 ≤ v) (v2 : v ≤ 9223372036854775807) (hG : Glob w) (hT : T.length = 32) :
    Calls Tryz.prog 6 #[.int .i64 key, .int .i64 r, .agg (T.map B).toArray, .int .i64 val, .int .i64 u, .int .i64 v] w fun e w' => e = .returned (.tuple #[.int .i64 d, .int .i64 e0]) ∧ Below w.heap.size w w' := by
  have h' := h.out
  unfold saskF at h'
  cases ht : fitB val with
  | false =>
    rw [ht, if_neg (by decide)] at h'
    obtain ⟨rfl, rfl⟩ := Prod.mk.inj h'
    exact sask_no key r u v val T w hG hT ht
  | true =>
    rw [ht, if_pos rfl] at h'
    exact sask_yes key r u v d e0 val T w ⟨h'⟩ u1 u2 v1 v2 hG hT ht
theorem isC_take {T : Bytes} {v E S key r : Int} (hT : T.length = 32) : (isC T v E S key r).take 35 = stC T v E S := by
  have hm : (T.map B).length = 32 := by rw [List.length_map, hT]
  unfold isC stC
  rw [List.take_append, List.take_of_length_le (by omega), hm]
  rfl


theorem zst_eq : (List.toArray (.int .u8 0 :: .int .u8 0 :: .int .u8 0 :: .int .u8 0 :: .int .u8 0 :: .int .u8 0 :: .int .u8 0 :: .int .u8 0 :: .int .u8 0 :: .int .u8 0 :: .int .u8 0 :: .int .u8 0 :: .int .u8 0 :: .int .u8 0 :: .int .u8 0 :: .int .u8 0 :: .int .u8 0 :: .int .u8 0 :: .int .u8 0 :: .int .u8 0 :: .int .u8 0 :: .int .u8 0 :: .int .u8 0 :: .int .u8 0 :: .int .u8 0 :: .int .u8 0 :: .int .u8 0 :: .int .u8 0 :: .int .u8 0 :: .int .u8 0 :: .int .u8 0 :: .int .u8 0 :: .int .i64 0 :: .int .i64 0 :: .int .i64 0 :: [] : List Value) : Array Value) = (stC zb32 0 0 0).toArray := by kernel_rfl
theorem zst_info : (Tryz.prog.info? 27).map (·.size) = some (List.toArray (.int .u8 0 :: .int .u8 0 :: .int .u8 0 :: .int .u8 0 :: .int .u8 0 :: .int .u8 0 :: .int .u8 0 :: .int .u8 0 :: .int .u8 0 :: .int .u8 0 :: .int .u8 0 :: .int .u8 0 :: .int .u8 0 :: .int .u8 0 :: .int .u8 0 :: .int .u8 0 :: .int .u8 0 :: .int .u8 0 :: .int .u8 0 :: .int .u8 0 :: .int .u8 0 :: .int .u8 0 :: .int .u8 0 :: .int .u8 0 :: .int .u8 0 :: .int .u8 0 :: .int .u8 0 :: .int .u8 0 :: .int .u8 0 :: .int .u8 0 :: .int .u8 0 :: .int .u8 0 :: .int .i64 0 :: .int .i64 0 :: .int .i64 0 :: [] : List Value) : Array Value).size := by kernel_rfl
theorem zst_one : (List.toArray (.int .u8 0 :: .int .u8 0 :: .int .u8 0 :: .int .u8 0 :: .int .u8 0 :: .int .u8 0 :: .int .u8 0 :: .int .u8 0 :: .int .u8 0 :: .int .u8 0 :: .int .u8 0 :: .int .u8 0 :: .int .u8 0 :: .int .u8 0 :: .int .u8 0 :: .int .u8 0 :: .int .u8 0 :: .int .u8 0 :: .int .u8 0 :: .int .u8 0 :: .int .u8 0 :: .int .u8 0 :: .int .u8 0 :: .int .u8 0 :: .int .u8 0 :: .int .u8 0 :: .int .u8 0 :: .int .u8 0 :: .int .u8 0 :: .int .u8 0 :: .int .u8 0 :: .int .u8 0 :: .int .i64 0 :: .int .i64 0 :: .int .i64 0 :: [] : List Value) : Array Value).all (·.oneCell') = true := by rw [zst_eq]; exact all_oneCell_toArray (stC_one _ _ _ _)

/-- what Take returns -/
def stakeF (key r : Int) (T : Bytes) (val u v s : Int) : Bytes × Int × Int × Int × Int :=
  if fitB val = true then (if (finishC key r (stT T val) u v s).2.2 = 0 then (T, val, (finishC key r (stT T val) u v s).1, (finishC key r (stT T val) u v s).2.1, 0) else (zb32, 0, 0, 0, (finishC key r (stT T val) u v s).2.2)) else (zb32, 0, 0, 0, 370)

set_option maxHeartbeats 1000000 in
theorem stake_no (key r u v s val : Int) (T : Bytes) (w : World) (hG : Glob w) (hT : T.length = 32) (ht : fitB val = false) :
    Calls Tryz.prog 8 #[.int .i64 key, .int .i64 r, .agg (T.map B).toArray, .int .i64 val, .int .i64 u, .int .i64 v, .int .i64 s] w fun e w' => e = .returned (.tuple #[.agg (stC zb32 0 0 0).toArray, .int .i64 370]) ∧ Below w.heap.size w w' := by
  obtain ⟨TC, hTC⟩ : ∃ TC, TC = T.map B := ⟨_, rfl⟩
  obtain ⟨C, hC⟩ : ∃ C, C = stC T val 0 0 := ⟨_, rfl⟩
  obtain ⟨I, hI⟩ : ∃ I, I = isC T val 0 0 key r := ⟨_, rfl⟩
  have cT : TC.length = 32 := by rw [hTC, List.length_map, hT]
  have cl : C.length = 35 := by rw [hC]; exact stC_len hT
  obtain ⟨D0, hD0⟩ : ∃ D0, D0 = TC ++ ([.int .i64 0, .int .i64 0, .int .i64 0] : List Value) := ⟨_, rfl⟩
  obtain ⟨D1, hD1⟩ : ∃ D1, D1 = C ++ ([.int .i64 0, .int .i64 0] : List Value) := ⟨_, rfl⟩
  have hfold0 := fold_st hT
  rw [← hTC, ← hD0] at hfold0
  have hfold1 := fold_is cl
  rw [← hD1] at hfold1
  have hset0 : D0.set 32 (.int .i64 val) = C := by rw [hD0, hTC, stC_build hT, hC]
  have hset1 : (D1.set 35 (.int .i64 key)).set 36 (.int .i64 r) = I := by rw [hD1, hC, isC_build hT, hI]
  have cl0 : D0.length = 35 := by rw [hD0, List.length_append, cT]; rfl
  have cl1 : D1.length = 37 := by rw [hD1, List.length_append, cl]; rfl
  have irT : (Tryz.prog.info? 23).map (·.size) = some 32 := by kernel_rfl
  have ir : (Tryz.prog.info? 27).map (·.size) = some 35 := by kernel_rfl
  have ITC : Seal ((Tryz.prog.info? 23).map (·.size) = some TC.toArray.size) := ⟨by rw [List.size_toArray, cT]; exact irT⟩
  have II : Seal ((Tryz.prog.info? 46).map (·.size) = some I.length) := ⟨by rw [hI]; exact isC_info hT⟩
  have LI : Seal ((.int .u8 0 :: .int .u8 0 :: .int .u8 0 :: .int .u8 0 :: .int .u8 0 :: .int .u8 0 :: .int .u8 0 :: .int .u8 0 :: .int .u8 0 :: .int .u8 0 :: .int .u8 0 :: .int .u8 0 :: .int .u8 0 :: .int .u8 0 :: .int .u8 0 :: .int .u8 0 :: .int .u8 0 :: .int .u8 0 :: .int .u8 0 :: .int .u8 0 :: .int .u8 0 :: .int .u8 0 :: .int .u8 0 :: .int .u8 0 :: .int .u8 0 :: .int .u8 0 :: .int .u8 0 :: .int .u8 0 :: .int .u8 0 :: .int .u8 0 :: .int .u8 0 :: .int .u8 0 :: .int .i64 0 :: .int .i64 0 :: .int .i64 0 :: .int .i64 0 :: .int .i64 0 :: [] : List Value).length = I.length) := ⟨by rw [hI, isC_len hT]; rfl⟩
  have OI : Seal (∀ u ∈ I, u.oneCell' = true) := ⟨by rw [hI]; exact isC_one _ _ _ _ _ _⟩
  have HH : Seal (IsHead I T val) := ⟨by rw [hI]; exact isC_head hT⟩
  have HT := Seal.mk hT
  have HI := Seal.mk hI
  rw [← hTC]
  clear hT hTC hC hD0 hD1
  have hXe : ∃ X, X = ((((w.alloc (.cells TC.toArray 23)).alloc (.cells #[.int .i64 u] 3)).alloc (.cells #[.int .i64 v] 3)).alloc (.cells #[.int .i64 s] 3)).alloc (.cells (List.toArray (.int .u8 0 :: .int .u8 0 :: .int .u8 0 :: .int .u8 0 :: .int .u8 0 :: .int .u8 0 :: .int .u8 0 :: .int .u8 0 :: .int .u8 0 :: .int .u8 0 :: .int .u8 0 :: .int .u8 0 :: .int .u8 0 :: .int .u8 0 :: .int .u8 0 :: .int .u8 0 :: .int .u8 0 :: .int .u8 0 :: .int .u8 0 :: .int .u8 0 :: .int .u8 0 :: .int .u8 0 :: .int .u8 0 :: .int .u8 0 :: .int .u8 0 :: .int .u8 0 :: .int .u8 0 :: .int .u8 0 :: .int .u8 0 :: .int .u8 0 :: .int .u8 0 :: .int .u8 0 :: .int .i64 0 :: .int .i64 0 :: .int .i64 0 :: [] : List Value) : Array Value) 27) := ⟨_, rfl⟩
  obtain ⟨X, hXe⟩ := hXe
  have z4 : X.heap.size = w.heap.size + 5 := by rw [hXe]; simp only [size_alloc]
  have HE0 : Seal (Env X none 0 0 [] [(w.heap.size + 4, .cells (List.toArray (.int .u8 0 :: .int .u8 0 :: .int .u8 0 :: .int .u8 0 :: .int .u8 0 :: .int .u8 0 :: .int .u8 0 :: .int .u8 0 :: .int .u8 0 :: .int .u8 0 :: .int .u8 0 :: .int .u8 0 :: .int .u8 0 :: .int .u8 0 :: .int .u8 0 :: .int .u8 0 :: .int .u8 0 :: .int .u8 0 :: .int .u8 0 :: .int .u8 0 :: .int .u8 0 :: .int .u8 0 :: .int .u8 0 :: .int .u8 0 :: .int .u8 0 :: .int .u8 0 :: .int .u8 0 :: .int .u8 0 :: .int .u8 0 :: .int .u8 0 :: .int .u8 0 :: .int .u8 0 :: .int .i64 0 :: .int .i64 0 :: .int .i64 0 :: [] : List Value) : Array Value) 27), (w.heap.size + 3, .cells #[.int .i64 s] 3), (w.heap.size + 2, .cells #[.int .i64 v] 3), (w.heap.size + 1, .cells #[.int .i64 u] 3), (w.heap.size, .cells TC.toArray 23)]) := ⟨by
    have h := Env.push (Env.push (Env.push (Env.push (Env.push (bs := []) ⟨hG, isB_nil w, by intro p hp; cases hp⟩ (.cells TC.toArray 23)) (.cells #[.int .i64 u] 3)) (.cells #[.int .i64 v] 3)) (.cells #[.int .i64 s] 3)) (.cells (List.toArray (.int .u8 0 :: .int .u8 0 :: .int .u8 0 :: .int .u8 0 :: .int .u8 0 :: .int .u8 0 :: .int .u8 0 :: .int .u8 0 :: .int .u8 0 :: .int .u8 0 :: .int .u8 0 :: .int .u8 0 :: .int .u8 0 :: .int .u8 0 :: .int .u8 0 :: .int .u8 0 :: .int .u8 0 :: .int .u8 0 :: .int .u8 0 :: .int .u8 0 :: .int .u8 0 :: .int .u8 0 :: .int .u8 0 :: .int .u8 0 :: .int .u8 0 :: .int .u8 0 :: .int .u8 0 :: .int .u8 0 :: .int .u8 0 :: .int .u8 0 :: .int .u8 0 :: .int .u8 0 :: .int .i64 0 :: .int .i64 0 :: .int .i64 0 :: [] : List Value) : Array Value) 27)
    rw [← hXe] at h
    simp only [size_alloc] at h
    exact h⟩
  have HB0 : Seal (Below w.heap.size w X) := ⟨by rw [hXe]; exact (((((Below.refl _ w).alloc (Nat.le_refl _) _).alloc (by simp) _).alloc (by simp; omega) _).alloc (by simp; omega) _).alloc (by simp; omega) _⟩
  have R1 := Seal.mk (HE0.out.keep (w.heap.size, .cells TC.toArray 23) (by simp))
  have hXE := Seal.mk hXe
  have HZ4 := Seal.mk z4
  clear hG hXe z4 hI
  go_enter Tryz.func8, Tryz.ntmps8
  go_upto_region 1 with (fail)
  rw [← hXE.out]
  clear hXE
  go_upto_region 2 with (first | (refine wpList_load_row rfl 23 (.tmp 9) rfl w.heap.size rfl 23 TC.toArray (0, 0) _ R1.out Tryz.underlying23 rfl ITC.out ?_) | (refine wpList_store_new rfl 46 (.tmp 16) (.tmp 22) rfl (.int .u8 0 :: .int .u8 0 :: .int .u8 0 :: .int .u8 0 :: .int .u8 0 :: .int .u8 0 :: .int .u8 0 :: .int .u8 0 :: .int .u8 0 :: .int .u8 0 :: .int .u8 0 :: .int .u8 0 :: .int .u8 0 :: .int .u8 0 :: .int .u8 0 :: .int .u8 0 :: .int .u8 0 :: .int .u8 0 :: .int .u8 0 :: .int .u8 0 :: .int .u8 0 :: .int .u8 0 :: .int .u8 0 :: .int .u8 0 :: .int .u8 0 :: .int .u8 0 :: .int .u8 0 :: .int .u8 0 :: .int .u8 0 :: .int .u8 0 :: .int .u8 0 :: .int .u8 0 :: .int .i64 0 :: .int .i64 0 :: .int .i64 0 :: .int .i64 0 :: .int .i64 0 :: [] : List Value) I 46 rfl rfl II.out LI.out OI.out ?_))
  have HE1 := Seal.mk (HE0.out.push (.cells I.toArray 46))
  have HB1 := Seal.mk (HB0.out.alloc HB0.out.size (.cells I.toArray 46))
  clear HE0 HB0 R1 hfold0 hfold1 hset0 hset1 cl0 cl1 cl irT ir ITC LI OI cT
  rw [HZ4.out] at HE1 ⊢
  obtain ⟨Z, hZ⟩ : ∃ Z : World, Z = X.alloc (.cells I.toArray 46) := ⟨_, rfl⟩
  rw [← hZ] at HE1 HB1 ⊢
  clear hZ HZ4
  have rI : Z.rangeAt (w.heap.size + 5) 0 I := rangeAt_row (HE1.out.keep (w.heap.size + 5, .cells I.toArray 46) (by simp))
  have iI := II.out
  have uI := Tryz.underlying46
  refine wp_region_heldU 5 (S := fun w' => w'.rangeAt (w.heap.size + 5) 0 I) (by kernel_rfl) rI (fun hHeld => ?_)
  refine take_u2 0 1 _ rfl (by kernel_rfl) (by kernel_rfl) (by kernel_rfl) (by kernel_rfl) (by kernel_rfl) (by kernel_rfl) (by kernel_rfl) (by kernel_rfl) (fun _ _ _ h => h) (yieldsIf_load_mid (by kernel_rfl) 46 (.tmp 16) rfl (w.heap.size + 5) 0 rfl I _ (fun w hSw => hSw) uI rfl iI) (by assumption) ?_
  try simp only [Act.put, List.setIfInBounds_toArray, List.set_cons_zero, List.set_cons_succ]
  refine take_u 1 ?_ rfl (by kernel_rfl) (by kernel_rfl) (by kernel_rfl) (by kernel_rfl) (by kernel_rfl) (fun _ _ _ h => h) (Or.inl ⟨by kernel_rfl, ?_⟩) (by assumption) ?_
  rotate_left
  · (intro w hSw; (try dsimp only at hSw); go_simp; try (with_reducible rfl))
  try simp only [Act.put, List.setIfInBounds_toArray, List.set_cons_zero, List.set_cons_succ]
  refine take_u2 2 3 _ rfl (by kernel_rfl) (by kernel_rfl) (by kernel_rfl) (by kernel_rfl) (by kernel_rfl) (by kernel_rfl) (by kernel_rfl) (by kernel_rfl) (fun _ _ _ h => h) (yieldsIf_load_mid (by kernel_rfl) 46 (.tmp 16) rfl (w.heap.size + 5) 0 rfl I _ (fun w hSw => hSw) uI rfl iI) (by assumption) ?_
  try simp only [Act.put, List.setIfInBounds_toArray, List.set_cons_zero, List.set_cons_succ]
  refine take_u 4 ?_ rfl (by kernel_rfl) (by kernel_rfl) (by kernel_rfl) (by kernel_rfl) (by kernel_rfl) (fun _ _ _ h => h) (Or.inl ⟨by kernel_rfl, ?_⟩) (by assumption) ?_
  rotate_left
  · (intro w hSw; (try dsimp only at hSw); go_simp; try (with_reducible rfl))
  try simp only [Act.put, List.setIfInBounds_toArray, List.set_cons_zero, List.set_cons_succ]
  refine call_u 3 rfl (by kernel_rfl) 20 #[.agg I.toArray] (by kernel_rfl) (by go_simp) ?_
  refine (sfits_any I T val _ Z.drew HH.out ht).mono ?_
  rintro e w1 ⟨rfl, hb1⟩
  have hb2 : Below Z.heap.size Z w1 := ⟨hb1.os, hb1.tape, hb1.output, hb1.size, hb1.block⟩
  have HE2 := Seal.mk (HE1.out.below hb2)
  have HB2 : Seal (Below w.heap.size w w1) := ⟨HB1.out.trans (hb2.mono HB1.out.size)⟩
  refine ⟨_, rfl, rangeAt_below' rI hb2, fun hHeld2 => ?_⟩
  clear hHeld hHeld2 hb1 hb2 rI HE1 HB1 iI uI
  try simp only [Act.put, List.setIfInBounds_toArray, List.set_cons_zero, List.set_cons_succ]
  refine call_at_u 5 rfl (by kernel_rfl) (by kernel_rfl) 18 #[.func (.func 19) #[.agg I.toArray] #[], .bool false, .func (.func 26) #[] #[.pointer (some ⟨w.heap.size + 5, 0, none⟩), .pointer (some ⟨w.heap.size + 1, 0, none⟩), .pointer (some ⟨w.heap.size + 2, 0, none⟩), .pointer (some ⟨w.heap.size + 3, 0, none⟩)]] (by kernel_rfl) (by go_simp) ?_
  have HR := Seal.mk (HE2.out.keep (w.heap.size + 4, .cells (List.toArray (.int .u8 0 :: .int .u8 0 :: .int .u8 0 :: .int .u8 0 :: .int .u8 0 :: .int .u8 0 :: .int .u8 0 :: .int .u8 0 :: .int .u8 0 :: .int .u8 0 :: .int .u8 0 :: .int .u8 0 :: .int .u8 0 :: .int .u8 0 :: .int .u8 0 :: .int .u8 0 :: .int .u8 0 :: .int .u8 0 :: .int .u8 0 :: .int .u8 0 :: .int .u8 0 :: .int .u8 0 :: .int .u8 0 :: .int .u8 0 :: .int .u8 0 :: .int .u8 0 :: .int .u8 0 :: .int .u8 0 :: .int .u8 0 :: .int .u8 0 :: .int .u8 0 :: .int .u8 0 :: .int .i64 0 :: .int .i64 0 :: .int .i64 0 :: [] : List Value) : Array Value) 27) (by simp))
  refine (with_no _ _ w1).mono ?_
  rintro e w2 ⟨rfl, rfl⟩
  refine ⟨_, rfl, ?_⟩
  have HB3 := HB2
  clear HE2 HB2
  try simp only [Act.put, List.setIfInBounds_toArray, List.set_cons_zero, List.set_cons_succ]
  refine last_u 6 (.int .i64 370) rfl (by kernel_rfl) (by kernel_rfl) (by kernel_rfl) (by kernel_rfl) (by go_simp) ?_
  go_wp2_with (refine wpList_store_row rfl 27 (.tmp 14) (.tmp 31) rfl (w.heap.size + 4) (List.toArray (.int .u8 0 :: .int .u8 0 :: .int .u8 0 :: .int .u8 0 :: .int .u8 0 :: .int .u8 0 :: .int .u8 0 :: .int .u8 0 :: .int .u8 0 :: .int .u8 0 :: .int .u8 0 :: .int .u8 0 :: .int .u8 0 :: .int .u8 0 :: .int .u8 0 :: .int .u8 0 :: .int .u8 0 :: .int .u8 0 :: .int .u8 0 :: .int .u8 0 :: .int .u8 0 :: .int .u8 0 :: .int .u8 0 :: .int .u8 0 :: .int .u8 0 :: .int .u8 0 :: .int .u8 0 :: .int .u8 0 :: .int .u8 0 :: .int .u8 0 :: .int .u8 0 :: .int .u8 0 :: .int .i64 0 :: .int .i64 0 :: .int .i64 0 :: [] : List Value) : Array Value) rfl rfl 27 (List.toArray (.int .u8 0 :: .int .u8 0 :: .int .u8 0 :: .int .u8 0 :: .int .u8 0 :: .int .u8 0 :: .int .u8 0 :: .int .u8 0 :: .int .u8 0 :: .int .u8 0 :: .int .u8 0 :: .int .u8 0 :: .int .u8 0 :: .int .u8 0 :: .int .u8 0 :: .int .u8 0 :: .int .u8 0 :: .int .u8 0 :: .int .u8 0 :: .int .u8 0 :: .int .u8 0 :: .int .u8 0 :: .int .u8 0 :: .int .u8 0 :: .int .u8 0 :: .int .u8 0 :: .int .u8 0 :: .int .u8 0 :: .int .u8 0 :: .int .u8 0 :: .int .u8 0 :: .int .u8 0 :: .int .i64 0 :: .int .i64 0 :: .int .i64 0 :: [] : List Value) : Array Value) HR.out zst_info rfl zst_one ?_)
  exact bodyPost_ret (results_row_tmp (fn := Tryz.f8) rfl _ _ (w.heap.size + 4) 27 (List.toArray (.int .u8 0 :: .int .u8 0 :: .int .u8 0 :: .int .u8 0 :: .int .u8 0 :: .int .u8 0 :: .int .u8 0 :: .int .u8 0 :: .int .u8 0 :: .int .u8 0 :: .int .u8 0 :: .int .u8 0 :: .int .u8 0 :: .int .u8 0 :: .int .u8 0 :: .int .u8 0 :: .int .u8 0 :: .int .u8 0 :: .int .u8 0 :: .int .u8 0 :: .int .u8 0 :: .int .u8 0 :: .int .u8 0 :: .int .u8 0 :: .int .u8 0 :: .int .u8 0 :: .int .u8 0 :: .int .u8 0 :: .int .u8 0 :: .int .u8 0 :: .int .u8 0 :: .int .u8 0 :: .int .i64 0 :: .int .i64 0 :: .int .i64 0 :: [] : List Value) : Array Value) (0, 0) _ _ rfl rfl (setRow_heap _ _ _ _ _ _ HR.out) Tryz.underlying27 rfl zst_info) rfl ⟨by rw [zst_eq]; rfl, below_row HB3.out (Nat.le_add_right _ _) _⟩

set_option maxHeartbeats 2000000 in
theorem stake_err (key r u v s d0 d1 e0 val : Int) (T : Bytes) (w : World) (h : Seal (finishC key r (stT T val) u v s = (d0, d1, e0))) (u1 : -9223372036854775808 ≤ u) (u2 : u ≤ 9223372036854775807) (v1 : -9223372036854775808 ≤ v) (v2 : v ≤ 9223372036854775807) (hG : Glob w) (hT : T.length = 32) (ht : fitB val = true) (he : ¬ e0 = 0) :
    Calls Tryz.prog 8 #[.int .i64 key, .int .i64 r, .agg (T.map B).toArray, .int .i64 val, .int .i64 u, .int .i64 v, .int .i64 s] w fun e w' => e = .returned (.tuple #[.agg (stC zb32 0 0 0).toArray, .int .i64 e0]) ∧ Below w.heap.size w w' := by
  have hv1 : -9223372036854775808 ≤ val ∧ val ≤ 9223372036854775807 := by
    unfold fitB at ht
    simp at ht
    omega
  have HU := Seal.mk (And.intro u1 (And.intro u2 (And.intro v1 (And.intro v2 hv1))))
  clear u1 u2 v1 v2 hv1
  obtain ⟨TC, hTC⟩ : ∃ TC, TC = T.map B := ⟨_, rfl⟩
  obtain ⟨C, hC⟩ : ∃ C, C = stC T val 0 0 := ⟨_, rfl⟩
  obtain ⟨I, hI⟩ : ∃ I, I = isC T val 0 0 key r := ⟨_, rfl⟩
  have cT : TC.length = 32 := by rw [hTC, List.length_map, hT]
  have cl : C.length = 35 := by rw [hC]; exact stC_len hT
  obtain ⟨D0, hD0⟩ : ∃ D0, D0 = TC ++ ([.int .i64 0, .int .i64 0, .int .i64 0] : List Value) := ⟨_, rfl⟩
  obtain ⟨D1, hD1⟩ : ∃ D1, D1 = C ++ ([.int .i64 0, .int .i64 0] : List Value) := ⟨_, rfl⟩
  have hfold0 := fold_st hT
  rw [← hTC, ← hD0] at hfold0
  have hfold1 := fold_is cl
  rw [← hD1] at hfold1
  have hset0 : D0.set 32 (.int .i64 val) = C := by rw [hD0, hTC, stC_build hT, hC]
  have hset1 : (D1.set 35 (.int .i64 key)).set 36 (.int .i64 r) = I := by rw [hD1, hC, isC_build hT, hI]
  have cl0 : D0.length = 35 := by rw [hD0, List.length_append, cT]; rfl
  have cl1 : D1.length = 37 := by rw [hD1, List.length_append, cl]; rfl
  have irT : (Tryz.prog.info? 23).map (·.size) = some 32 := by kernel_rfl
  have ir : (Tryz.prog.info? 27).map (·.size) = some 35 := by kernel_rfl
  have ITC : Seal ((Tryz.prog.info? 23).map (·.size) = some TC.toArray.size) := ⟨by rw [List.size_toArray, cT]; exact irT⟩
  have II : Seal ((Tryz.prog.info? 46).map (·.size) = some I.length) := ⟨by rw [hI]; exact isC_info hT⟩
  have LI : Seal ((.int .u8 0 :: .int .u8 0 :: .int .u8 0 :: .int .u8 0 :: .int .u8 0 :: .int .u8 0 :: .int .u8 0 :: .int .u8 0 :: .int .u8 0 :: .int .u8 0 :: .int .u8 0 :: .int .u8 0 :: .int .u8 0 :: .int .u8 0 :: .int .u8 0 :: .int .u8 0 :: .int .u8 0 :: .int .u8 0 :: .int .u8 0 :: .int .u8 0 :: .int .u8 0 :: .int .u8 0 :: .int .u8 0 :: .int .u8 0 :: .int .u8 0 :: .int .u8 0 :: .int .u8 0 :: .int .u8 0 :: .int .u8 0 :: .int .u8 0 :: .int .u8 0 :: .int .u8 0 :: .int .i64 0 :: .int .i64 0 :: .int .i64 0 :: .int .i64 0 :: .int .i64 0 :: [] : List Value).length = I.length) := ⟨by rw [hI, isC_len hT]; rfl⟩
  have OI : Seal (∀ u ∈ I, u.oneCell' = true) := ⟨by rw [hI]; exact isC_one _ _ _ _ _ _⟩
  have HH : Seal (IsHead I T val) := ⟨by rw [hI]; exact isC_head hT⟩
  have HT := Seal.mk hT
  have HI := Seal.mk hI
  rw [← hTC]
  clear hT hTC hC hD0 hD1
  have hXe : ∃ X, X = ((((w.alloc (.cells TC.toArray 23)).alloc (.cells #[.int .i64 u] 3)).alloc (.cells #[.int .i64 v] 3)).alloc (.cells #[.int .i64 s] 3)).alloc (.cells (List.toArray (.int .u8 0 :: .int .u8 0 :: .int .u8 0 :: .int .u8 0 :: .int .u8 0 :: .int .u8 0 :: .int .u8 0 :: .int .u8 0 :: .int .u8 0 :: .int .u8 0 :: .int .u8 0 :: .int .u8 0 :: .int .u8 0 :: .int .u8 0 :: .int .u8 0 :: .int .u8 0 :: .int .u8 0 :: .int .u8 0 :: .int .u8 0 :: .int .u8 0 :: .int .u8 0 :: .int .u8 0 :: .int .u8 0 :: .int .u8 0 :: .int .u8 0 :: .int .u8 0 :: .int .u8 0 :: .int .u8 0 :: .int .u8 0 :: .int .u8 0 :: .int .u8 0 :: .int .u8 0 :: .int .i64 0 :: .int .i64 0 :: .int .i64 0 :: [] : List Value) : Array Value) 27) := ⟨_, rfl⟩
  obtain ⟨X, hXe⟩ := hXe
  have z4 : X.heap.size = w.heap.size + 5 := by rw [hXe]; simp only [size_alloc]
  have HE0 : Seal (Env X none 0 0 [] [(w.heap.size + 4, .cells (List.toArray (.int .u8 0 :: .int .u8 0 :: .int .u8 0 :: .int .u8 0 :: .int .u8 0 :: .int .u8 0 :: .int .u8 0 :: .int .u8 0 :: .int .u8 0 :: .int .u8 0 :: .int .u8 0 :: .int .u8 0 :: .int .u8 0 :: .int .u8 0 :: .int .u8 0 :: .int .u8 0 :: .int .u8 0 :: .int .u8 0 :: .int .u8 0 :: .int .u8 0 :: .int .u8 0 :: .int .u8 0 :: .int .u8 0 :: .int .u8 0 :: .int .u8 0 :: .int .u8 0 :: .int .u8 0 :: .int .u8 0 :: .int .u8 0 :: .int .u8 0 :: .int .u8 0 :: .int .u8 0 :: .int .i64 0 :: .int .i64 0 :: .int .i64 0 :: [] : List Value) : Array Value) 27), (w.heap.size + 3, .cells #[.int .i64 s] 3), (w.heap.size + 2, .cells #[.int .i64 v] 3), (w.heap.size + 1, .cells #[.int .i64 u] 3), (w.heap.size, .cells TC.toArray 23)]) := ⟨by
    have h := Env.push (Env.push (Env.push (Env.push (Env.push (bs := []) ⟨hG, isB_nil w, by intro p hp; cases hp⟩ (.cells TC.toArray 23)) (.cells #[.int .i64 u] 3)) (.cells #[.int .i64 v] 3)) (.cells #[.int .i64 s] 3)) (.cells (List.toArray (.int .u8 0 :: .int .u8 0 :: .int .u8 0 :: .int .u8 0 :: .int .u8 0 :: .int .u8 0 :: .int .u8 0 :: .int .u8 0 :: .int .u8 0 :: .int .u8 0 :: .int .u8 0 :: .int .u8 0 :: .int .u8 0 :: .int .u8 0 :: .int .u8 0 :: .int .u8 0 :: .int .u8 0 :: .int .u8 0 :: .int .u8 0 :: .int .u8 0 :: .int .u8 0 :: .int .u8 0 :: .int .u8 0 :: .int .u8 0 :: .int .u8 0 :: .int .u8 0 :: .int .u8 0 :: .int .u8 0 :: .int .u8 0 :: .int .u8 0 :: .int .u8 0 :: .int .u8 0 :: .int .i64 0 :: .int .i64 0 :: .int .i64 0 :: [] : List Value) : Array Value) 27)
    rw [← hXe] at h
    simp only [size_alloc] at h
    exact h⟩
  have HB0 : Seal (Below w.heap.size w X) := ⟨by rw [hXe]; exact (((((Below.refl _ w).alloc (Nat.le_refl _) _).alloc (by simp) _).alloc (by simp; omega) _).alloc (by simp; omega) _).alloc (by simp; omega) _⟩
  have R1 := Seal.mk (HE0.out.keep (w.heap.size, .cells TC.toArray 23) (by simp))
  have hXE := Seal.mk hXe
  have HZ4 := Seal.mk z4
  clear hG hXe z4 hI
  go_enter Tryz.func8, Tryz.ntmps8
  go_upto_region 1 with (fail)
  rw [← hXE.out]
  clear hXE
  go_upto_region 2 with (first | (refine wpList_load_row rfl 23 (.tmp 9) rfl w.heap.size rfl 23 TC.toArray (0, 0) _ R1.out Tryz.underlying23 rfl ITC.out ?_) | (refine wpList_store_new rfl 46 (.tmp 16) (.tmp 22) rfl (.int .u8 0 :: .int .u8 0 :: .int .u8 0 :: .int .u8 0 :: .int .u8 0 :: .int .u8 0 :: .int .u8 0 :: .int .u8 0 :: .int .u8 0 :: .int .u8 0 :: .int .u8 0 :: .int .u8 0 :: .int .u8 0 :: .int .u8 0 :: .int .u8 0 :: .int .u8 0 :: .int .u8 0 :: .int .u8 0 :: .int .u8 0 :: .int .u8 0 :: .int .u8 0 :: .int .u8 0 :: .int .u8 0 :: .int .u8 0 :: .int .u8 0 :: .int .u8 0 :: .int .u8 0 :: .int .u8 0 :: .int .u8 0 :: .int .u8 0 :: .int .u8 0 :: .int .u8 0 :: .int .i64 0 :: .int .i64 0 :: .int .i64 0 :: .int .i64 0 :: .int .i64 0 :: [] : List Value) I 46 rfl rfl II.out LI.out OI.out ?_))
  have HE1 := Seal.mk (HE0.out.push (.cells I.toArray 46))
  have HB1 := Seal.mk (HB0.out.alloc HB0.out.size (.cells I.toArray 46))
  clear HE0 HB0 R1 hfold0 hfold1 hset0 hset1 cl0 cl1 cl irT ir ITC LI OI cT
  rw [HZ4.out] at HE1 ⊢
  obtain ⟨Z, hZ⟩ : ∃ Z : World, Z = X.alloc (.cells I.toArray 46) := ⟨_, rfl⟩
  rw [← hZ] at HE1 HB1 ⊢
  clear hZ HZ4
  have rI : Z.rangeAt (w.heap.size + 5) 0 I := rangeAt_row (HE1.out.keep (w.heap.size + 5, .cells I.toArray 46) (by simp))
  have iI := II.out
  have uI := Tryz.underlying46
  refine wp_region_heldU 5 (S := fun w' => w'.rangeAt (w.heap.size + 5) 0 I) (by kernel_rfl) rI (fun hHeld => ?_)
  refine take_u2 0 1 _ rfl (by kernel_rfl) (by kernel_rfl) (by kernel_rfl) (by kernel_rfl) (by kernel_rfl) (by kernel_rfl) (by kernel_rfl) (by kernel_rfl) (fun _ _ _ h => h) (yieldsIf_load_mid (by kernel_rfl) 46 (.tmp 16) rfl (w.heap.size + 5) 0 rfl I _ (fun w hSw => hSw) uI rfl iI) (by assumption) ?_
  try simp only [Act.put, List.setIfInBounds_toArray, List.set_cons_zero, List.set_cons_succ]
  refine take_u 1 ?_ rfl (by kernel_rfl) (by kernel_rfl) (by kernel_rfl) (by kernel_rfl) (by kernel_rfl) (fun _ _ _ h => h) (Or.inl ⟨by kernel_rfl, ?_⟩) (by assumption) ?_
  rotate_left
  · (intro w hSw; (try dsimp only at hSw); go_simp; try (with_reducible rfl))
  try simp only [Act.put, List.setIfInBounds_toArray, List.set_cons_zero, List.set_cons_succ]
  refine take_u2 2 3 _ rfl (by kernel_rfl) (by kernel_rfl) (by kernel_rfl) (by kernel_rfl) (by kernel_rfl) (by kernel_rfl) (by kernel_rfl) (by kernel_rfl) (fun _ _ _ h => h) (yieldsIf_load_mid (by kernel_rfl) 46 (.tmp 16) rfl (w.heap.size + 5) 0 rfl I _ (fun w hSw => hSw) uI rfl iI) (by assumption) ?_
  try simp only [Act.put, List.setIfInBounds_toArray, List.set_cons_zero, List.set_cons_succ]
  refine take_u 4 ?_ rfl (by kernel_rfl) (by kernel_rfl) (by kernel_rfl) (by kernel_rfl) (by kernel_rfl) (fun _ _ _ h => h) (Or.inl ⟨by kernel_rfl, ?_⟩) (by assumption) ?_
  rotate_left
  · (intro w hSw; (try dsimp only at hSw); go_simp; try (with_reducible rfl))
  try simp only [Act.put, List.setIfInBounds_toArray, List.set_cons_zero, List.set_cons_succ]
  refine call_u 3 rfl (by kernel_rfl) 20 #[.agg I.toArray] (by kernel_rfl) (by go_simp) ?_
  refine (sfits_any I T val _ Z.drew HH.out ht).mono ?_
  rintro e w1 ⟨rfl, hb1⟩
  have hb2 : Below Z.heap.size Z w1 := ⟨hb1.os, hb1.tape, hb1.output, hb1.size, hb1.block⟩
  have HE2 := Seal.mk (HE1.out.below hb2)
  have HB2 : Seal (Below w.heap.size w w1) := ⟨HB1.out.trans (hb2.mono HB1.out.size)⟩
  refine ⟨_, rfl, rangeAt_below' rI hb2, fun hHeld2 => ?_⟩
  clear hHeld hHeld2 hb1 hb2 rI HE1 HB1 iI uI
  try simp only [Act.put, List.setIfInBounds_toArray, List.set_cons_zero, List.set_cons_succ]
  refine call_at_u 5 rfl (by kernel_rfl) (by kernel_rfl) 18 #[.func (.func 19) #[.agg I.toArray] #[], .bool true, .func (.func 26) #[] #[.pointer (some ⟨w.heap.size + 5, 0, none⟩), .pointer (some ⟨w.heap.size + 1, 0, none⟩), .pointer (some ⟨w.heap.size + 2, 0, none⟩), .pointer (some ⟨w.heap.size + 3, 0, none⟩)]] (by kernel_rfl) (by go_simp) ?_
  have HW : Seal _ := ⟨with_take key r u v s d0 d1 e0 val 0 0 T (w.heap.size + 5) (w.heap.size + 1) (w.heap.size + 2) (w.heap.size + 3) w1 h HU.out.1 HU.out.2.1 HU.out.2.2.1 HU.out.2.2.2.1 HU.out.2.2.2.2.1 HU.out.2.2.2.2.2 HE2.out.glob HT.out
    (HE2.out.cell (cs := #[.int .i64 u]) (t := 3) (by simp) rfl) (HE2.out.cell (cs := #[.int .i64 v]) (t := 3) (by simp) rfl) (HE2.out.cell (cs := #[.int .i64 s]) (t := 3) (by simp) rfl) (by rw [← HI.out]; exact HE2.out.keep (w.heap.size + 5, .cells I.toArray 46) (by simp))⟩
  rw [← HI.out] at HW
  have HR2 := HE2.out.keep (w.heap.size + 4, .cells (List.toArray (.int .u8 0 :: .int .u8 0 :: .int .u8 0 :: .int .u8 0 :: .int .u8 0 :: .int .u8 0 :: .int .u8 0 :: .int .u8 0 :: .int .u8 0 :: .int .u8 0 :: .int .u8 0 :: .int .u8 0 :: .int .u8 0 :: .int .u8 0 :: .int .u8 0 :: .int .u8 0 :: .int .u8 0 :: .int .u8 0 :: .int .u8 0 :: .int .u8 0 :: .int .u8 0 :: .int .u8 0 :: .int .u8 0 :: .int .u8 0 :: .int .u8 0 :: .int .u8 0 :: .int .u8 0 :: .int .u8 0 :: .int .u8 0 :: .int .u8 0 :: .int .u8 0 :: .int .u8 0 :: .int .i64 0 :: .int .i64 0 :: .int .i64 0 :: [] : List Value) : Array Value) 27) (by simp)
  refine HW.out.mono ?_
  rintro e w2 ⟨rfl, hg, hr⟩
  have HB3 : Seal (Below w.heap.size w w2) := ⟨Frk.Below.os_grown HB2.out hg (Nat.le_add_right _ 5) HB2.out.size⟩
  have HR : Seal (w2.heap[w.heap.size + 4]? = some (.cells (List.toArray (.int .u8 0 :: .int .u8 0 :: .int .u8 0 :: .int .u8 0 :: .int .u8 0 :: .int .u8 0 :: .int .u8 0 :: .int .u8 0 :: .int .u8 0 :: .int .u8 0 :: .int .u8 0 :: .int .u8 0 :: .int .u8 0 :: .int .u8 0 :: .int .u8 0 :: .int .u8 0 :: .int .u8 0 :: .int .u8 0 :: .int .u8 0 :: .int .u8 0 :: .int .u8 0 :: .int .u8 0 :: .int .u8 0 :: .int .u8 0 :: .int .u8 0 :: .int .u8 0 :: .int .u8 0 :: .int .u8 0 :: .int .u8 0 :: .int .u8 0 :: .int .u8 0 :: .int .u8 0 :: .int .i64 0 :: .int .i64 0 :: .int .i64 0 :: [] : List Value) : Array Value) 27 (0, 0))) := ⟨(hg.block _ (Array.getElem?_eq_some_iff.1 HR2).1 (by simp)).trans HR2⟩
  have HRI := Seal.mk hr
  refine ⟨_, rfl, ?_⟩
  clear HW HE2 hg HR2 hr HB2
  try simp only [Act.put, List.setIfInBounds_toArray, List.set_cons_zero, List.set_cons_succ]
  refine last_u 6 (.int .i64 e0) rfl (by kernel_rfl) (by kernel_rfl) (by kernel_rfl) (by kernel_rfl) (by go_simp) ?_
  clear HRI
  go_wp2_with (refine wpList_store_row rfl 27 (.tmp 14) (.tmp 31) rfl (w.heap.size + 4) (List.toArray (.int .u8 0 :: .int .u8 0 :: .int .u8 0 :: .int .u8 0 :: .int .u8 0 :: .int .u8 0 :: .int .u8 0 :: .int .u8 0 :: .int .u8 0 :: .int .u8 0 :: .int .u8 0 :: .int .u8 0 :: .int .u8 0 :: .int .u8 0 :: .int .u8 0 :: .int .u8 0 :: .int .u8 0 :: .int .u8 0 :: .int .u8 0 :: .int .u8 0 :: .int .u8 0 :: .int .u8 0 :: .int .u8 0 :: .int .u8 0 :: .int .u8 0 :: .int .u8 0 :: .int .u8 0 :: .int .u8 0 :: .int .u8 0 :: .int .u8 0 :: .int .u8 0 :: .int .u8 0 :: .int .i64 0 :: .int .i64 0 :: .int .i64 0 :: [] : List Value) : Array Value) rfl rfl 27 (List.toArray (.int .u8 0 :: .int .u8 0 :: .int .u8 0 :: .int .u8 0 :: .int .u8 0 :: .int .u8 0 :: .int .u8 0 :: .int .u8 0 :: .int .u8 0 :: .int .u8 0 :: .int .u8 0 :: .int .u8 0 :: .int .u8 0 :: .int .u8 0 :: .int .u8 0 :: .int .u8 0 :: .int .u8 0 :: .int .u8 0 :: .int .u8 0 :: .int .u8 0 :: .int .u8 0 :: .int .u8 0 :: .int .u8 0 :: .int .u8 0 :: .int .u8 0 :: .int .u8 0 :: .int .u8 0 :: .int .u8 0 :: .int .u8 0 :: .int .u8 0 :: .int .u8 0 :: .int .u8 0 :: .int .i64 0 :: .int .i64 0 :: .int .i64 0 :: [] : List Value) : Array Value) HR.out zst_info rfl zst_one ?_)
  exact bodyPost_ret (results_row_tmp (fn := Tryz.f8) rfl _ _ (w.heap.size + 4) 27 (List.toArray (.int .u8 0 :: .int .u8 0 :: .int .u8 0 :: .int .u8 0 :: .int .u8 0 :: .int .u8 0 :: .int .u8 0 :: .int .u8 0 :: .int .u8 0 :: .int .u8 0 :: .int .u8 0 :: .int .u8 0 :: .int .u8 0 :: .int .u8 0 :: .int .u8 0 :: .int .u8 0 :: .int .u8 0 :: .int .u8 0 :: .int .u8 0 :: .int .u8 0 :: .int .u8 0 :: .int .u8 0 :: .int .u8 0 :: .int .u8 0 :: .int .u8 0 :: .int .u8 0 :: .int .u8 0 :: .int .u8 0 :: .int .u8 0 :: .int .u8 0 :: .int .u8 0 :: .int .u8 0 :: .int .i64 0 :: .int .i64 0 :: .int .i64 0 :: [] : List Value) : Array Value) (0, 0) _ _ rfl rfl (setRow_heap _ _ _ _ _ _ HR.out) Tryz.underlying27 rfl zst_info) rfl ⟨by rw [zst_eq]; rfl, below_row HB3.out (Nat.le_add_right _ _) _⟩

set_option maxHeartbeats 2000000 in
theorem stake_ok (key r u v s d0 d1 e0 val : Int) (T : Bytes) (w : World) (h : Seal (finishC key r (stT T val) u v s = (d0, d1, e0))) (u1 : -9223372036854775808 ≤ u) (u2 : u ≤ 9223372036854775807) (v1 : -9223372036854775808 ≤ v) (v2 : v ≤ 9223372036854775807) (hG : Glob w) (hT : T.length = 32) (ht : fitB val = true) (he : e0 = 0) :
    Calls Tryz.prog 8 #[.int .i64 key, .int .i64 r, .agg (T.map B).toArray, .int .i64 val, .int .i64 u, .int .i64 v, .int .i64 s] w fun e w' => e = .returned (.tuple #[.agg (stC T val d0 d1).toArray, .int .i64 0]) ∧ Below w.heap.size w w' := by
  subst he
  have hv1 : -9223372036854775808 ≤ val ∧ val ≤ 9223372036854775807 := by
    unfold fitB at ht
    simp at ht
    omega
  have HU := Seal.mk (And.intro u1 (And.intro u2 (And.intro v1 (And.intro v2 hv1))))
  clear u1 u2 v1 v2 hv1
  obtain ⟨TC, hTC⟩ : ∃ TC, TC = T.map B := ⟨_, rfl⟩
  obtain ⟨C, hC⟩ : ∃ C, C = stC T val 0 0 := ⟨_, rfl⟩
  obtain ⟨I, hI⟩ : ∃ I, I = isC T val 0 0 key r := ⟨_, rfl⟩
  have cT : TC.length = 32 := by rw [hTC, List.length_map, hT]
  have cl : C.length = 35 := by rw [hC]; exact stC_len hT
  obtain ⟨D0, hD0⟩ : ∃ D0, D0 = TC ++ ([.int .i64 0, .int .i64 0, .int .i64 0] : List Value) := ⟨_, rfl⟩
  obtain ⟨D1, hD1⟩ : ∃ D1, D1 = C ++ ([.int .i64 0, .int .i64 0] : List Value) := ⟨_, rfl⟩
  have hfold0 := fold_st hT
  rw [← hTC, ← hD0] at hfold0
  have hfold1 := fold_is cl
  rw [← hD1] at hfold1
  have hset0 : D0.set 32 (.int .i64 val) = C := by rw [hD0, hTC, stC_build hT, hC]
  have hset1 : (D1.set 35 (.int .i64 key)).set 36 (.int .i64 r) = I := by rw [hD1, hC, isC_build hT, hI]
  have cl0 : D0.length = 35 := by rw [hD0, List.length_append, cT]; rfl
  have cl1 : D1.length = 37 := by rw [hD1, List.length_append, cl]; rfl
  have irT : (Tryz.prog.info? 23).map (·.size) = some 32 := by kernel_rfl
  have ir : (Tryz.prog.info? 27).map (·.size) = some 35 := by kernel_rfl
  have ITC : Seal ((Tryz.prog.info? 23).map (·.size) = some TC.toArray.size) := ⟨by rw [List.size_toArray, cT]; exact irT⟩
  have II : Seal ((Tryz.prog.info? 46).map (·.size) = some I.length) := ⟨by rw [hI]; exact isC_info hT⟩
  have LI : Seal ((.int .u8 0 :: .int .u8 0 :: .int .u8 0 :: .int .u8 0 :: .int .u8 0 :: .int .u8 0 :: .int .u8 0 :: .int .u8 0 :: .int .u8 0 :: .int .u8 0 :: .int .u8 0 :: .int .u8 0 :: .int .u8 0 :: .int .u8 0 :: .int .u8 0 :: .int .u8 0 :: .int .u8 0 :: .int .u8 0 :: .int .u8 0 :: .int .u8 0 :: .int .u8 0 :: .int .u8 0 :: .int .u8 0 :: .int .u8 0 :: .int .u8 0 :: .int .u8 0 :: .int .u8 0 :: .int .u8 0 :: .int .u8 0 :: .int .u8 0 :: .int .u8 0 :: .int .u8 0 :: .int .i64 0 :: .int .i64 0 :: .int .i64 0 :: .int .i64 0 :: .int .i64 0 :: [] : List Value).length = I.length) := ⟨by rw [hI, isC_len hT]; rfl⟩
  have OI : Seal (∀ u ∈ I, u.oneCell' = true) := ⟨by rw [hI]; exact isC_one _ _ _ _ _ _⟩
  have HH : Seal (IsHead I T val) := ⟨by rw [hI]; exact isC_head hT⟩
  have HT := Seal.mk hT
  have HI := Seal.mk hI
  rw [← hTC]
  clear hT hTC hC hD0 hD1
  have hXe : ∃ X, X = ((((w.alloc (.cells TC.toArray 23)).alloc (.cells #[.int .i64 u] 3)).alloc (.cells #[.int .i64 v] 3)).alloc (.cells #[.int .i64 s] 3)).alloc (.cells (List.toArray (.int .u8 0 :: .int .u8 0 :: .int .u8 0 :: .int .u8 0 :: .int .u8 0 :: .int .u8 0 :: .int .u8 0 :: .int .u8 0 :: .int .u8 0 :: .int .u8 0 :: .int .u8 0 :: .int .u8 0 :: .int .u8 0 :: .int .u8 0 :: .int .u8 0 :: .int .u8 0 :: .int .u8 0 :: .int .u8 0 :: .int .u8 0 :: .int .u8 0 :: .int .u8 0 :: .int .u8 0 :: .int .u8 0 :: .int .u8 0 :: .int .u8 0 :: .int .u8 0 :: .int .u8 0 :: .int .u8 0 :: .int .u8 0 :: .int .u8 0 :: .int .u8 0 :: .int .u8 0 :: .int .i64 0 :: .int .i64 0 :: .int .i64 0 :: [] : List Value) : Array Value) 27) := ⟨_, rfl⟩
  obtain ⟨X, hXe⟩ := hXe
  have z4 : X.heap.size = w.heap.size + 5 := by rw [hXe]; simp only [size_alloc]
  have HE0 : Seal (Env X none 0 0 [] [(w.heap.size + 4, .cells (List.toArray (.int .u8 0 :: .int .u8 0 :: .int .u8 0 :: .int .u8 0 :: .int .u8 0 :: .int .u8 0 :: .int .u8 0 :: .int .u8 0 :: .int .u8 0 :: .int .u8 0 :: .int .u8 0 :: .int .u8 0 :: .int .u8 0 :: .int .u8 0 :: .int .u8 0 :: .int .u8 0 :: .int .u8 0 :: .int .u8 0 :: .int .u8 0 :: .int .u8 0 :: .int .u8 0 :: .int .u8 0 :: .int .u8 0 :: .int .u8 0 :: .int .u8 0 :: .int .u8 0 :: .int .u8 0 :: .int .u8 0 :: .int .u8 0 :: .int .u8 0 :: .int .u8 0 :: .int .u8 0 :: .int .i64 0 :: .int .i64 0 :: .int .i64 0 :: [] : List Value) : Array Value) 27), (w.heap.size + 3, .cells #[.int .i64 s] 3), (w.heap.size + 2, .cells #[.int .i64 v] 3), (w.heap.size + 1, .cells #[.int .i64 u] 3), (w.heap.size, .cells TC.toArray 23)]) := ⟨by
    have h := Env.push (Env.push (Env.push (Env.push (Env.push (bs := []) ⟨hG, isB_nil w, by intro p hp; cases hp⟩ (.cells TC.toArray 23)) (.cells #[.int .i64 u] 3)) (.cells #[.int .i64 v] 3)) (.cells #[.int .i64 s] 3)) (.cells (List.toArray (.int .u8 0 :: .int .u8 0 :: .int .u8 0 :: .int .u8 0 :: .int .u8 0 :: .int .u8 0 :: .int .u8 0 :: .int .u8 0 :: .int .u8 0 :: .int .u8 0 :: .int .u8 0 :: .int .u8 0 :: .int .u8 0 :: .int .u8 0 :: .int .u8 0 :: .int .u8 0 :: .int .u8 0 :: .int .u8 0 :: .int .u8 0 :: .int .u8 0 :: .int .u8 0 :: .int .u8 0 :: .int .u8 0 :: .int .u8 0 :: .int .u8 0 :: .int .u8 0 :: .int .u8 0 :: .int .u8 0 :: .int .u8 0 :: .int .u8 0 :: .int .u8 0 :: .int .u8 0 :: .int .i64 0 :: .int .i64 0 :: .int .i64 0 :: [] : List Value) : Array Value) 27)
    rw [← hXe] at h
    simp only [size_alloc] at h
    exact h⟩
  have HB0 : Seal (Below w.heap.size w X) := ⟨by rw [hXe]; exact (((((Below.refl _ w).alloc (Nat.le_refl _) _).alloc (by simp) _).alloc (by simp; omega) _).alloc (by simp; omega) _).alloc (by simp; omega) _⟩
  have R1 := Seal.mk (HE0.out.keep (w.heap.size, .cells TC.toArray 23) (by simp))
  have hXE := Seal.mk hXe
  have HZ4 := Seal.mk z4
  clear hG hXe z4 hI
  go_enter Tryz.func8, Tryz.ntmps8
  go_upto_region 1 with (fail)
  rw [← hXE.out]
  clear hXE
  go_upto_region 2 with (first | (refine wpList_load_row rfl 23 (.tmp 9) rfl w.heap.size rfl 23 TC.toArray (0, 0) _ R1.out Tryz.underlying23 rfl ITC.out ?_) | (refine wpList_store_new rfl 46 (.tmp 16) (.tmp 22) rfl (.int .u8 0 :: .int .u8 0 :: .int .u8 0 :: .int .u8 0 :: .int .u8 0 :: .int .u8 0 :: .int .u8 0 :: .int .u8 0 :: .int .u8 0 :: .int .u8 0 :: .int .u8 0 :: .int .u8 0 :: .int .u8 0 :: .int .u8 0 :: .int .u8 0 :: .int .u8 0 :: .int .u8 0 :: .int .u8 0 :: .int .u8 0 :: .int .u8 0 :: .int .u8 0 :: .int .u8 0 :: .int .u8 0 :: .int .u8 0 :: .int .u8 0 :: .int .u8 0 :: .int .u8 0 :: .int .u8 0 :: .int .u8 0 :: .int .u8 0 :: .int .u8 0 :: .int .u8 0 :: .int .i64 0 :: .int .i64 0 :: .int .i64 0 :: .int .i64 0 :: .int .i64 0 :: [] : List Value) I 46 rfl rfl II.out LI.out OI.out ?_))
  have HE1 := Seal.mk (HE0.out.push (.cells I.toArray 46))
  have HB1 := Seal.mk (HB0.out.alloc HB0.out.size (.cells I.toArray 46))
  clear HE0 HB0 R1 hfold0 hfold1 hset0 hset1 cl0 cl1 cl irT ir ITC LI OI cT
  rw [HZ4.out] at HE1 ⊢
  obtain ⟨Z, hZ⟩ : ∃ Z : World, Z = X.alloc (.cells I.toArray 46) := ⟨_, rfl⟩
  rw [← hZ] at HE1 HB1 ⊢
  clear hZ HZ4
  have rI : Z.rangeAt (w.heap.size + 5) 0 I := rangeAt_row (HE1.out.keep (w.heap.size + 5, .cells I.toArray 46) (by simp))
  have iI := II.out
  have uI := Tryz.underlying46
  refine wp_region_heldU 5 (S := fun w' => w'.rangeAt (w.heap.size + 5) 0 I) (by kernel_rfl) rI (fun hHeld => ?_)
  refine take_u2 0 1 _ rfl (by kernel_rfl) (by kernel_rfl) (by kernel_rfl) (by kernel_rfl) (by kernel_rfl) (by kernel_rfl) (by kernel_rfl) (by kernel_rfl) (fun _ _ _ h => h) (yieldsIf_load_mid (by kernel_rfl) 46 (.tmp 16) rfl (w.heap.size + 5) 0 rfl I _ (fun w hSw => hSw) uI rfl iI) (by assumption) ?_
  try simp only [Act.put, List.setIfInBounds_toArray, List.set_cons_zero, List.set_cons_succ]
  refine take_u 1 ?_ rfl (by kernel_rfl) (by kernel_rfl) (by kernel_rfl) (by kernel_rfl) (by kernel_rfl) (fun _ _ _ h => h) (Or.inl ⟨by kernel_rfl, ?_⟩) (by assumption) ?_
  rotate_left
  · (intro w hSw; (try dsimp only at hSw); go_simp; try (with_reducible rfl))
  try simp only [Act.put, List.setIfInBounds_toArray, List.set_cons_zero, List.set_cons_succ]
  refine take_u2 2 3 _ rfl (by kernel_rfl) (by kernel_rfl) (by kernel_rfl) (by kernel_rfl) (by kernel_rfl) (by kernel_rfl) (by kernel_rfl) (by kernel_rfl) (fun _ _ _ h => h) (yieldsIf_load_mid (by kernel_rfl) 46 (.tmp 16) rfl (w.heap.size + 5) 0 rfl I _ (fun w hSw => hSw) uI rfl iI) (by assumption) ?_
  try simp only [Act.put, List.setIfInBounds_toArray, List.set_cons_zero, List.set_cons_succ]
  refine take_u 4 ?_ rfl (by kernel_rfl) (by kernel_rfl) (by kernel_rfl) (by kernel_rfl) (by kernel_rfl) (fun _ _ _ h => h) (Or.inl ⟨by kernel_rfl, ?_⟩) (by assumption) ?_
  rotate_left
  · (intro w hSw; (try dsimp only at hSw); go_simp; try (with_reducible rfl))
  try simp only [Act.put, List.setIfInBounds_toArray, List.set_cons_zero, List.set_cons_succ]
  refine call_u 3 rfl (by kernel_rfl) 20 #[.agg I.toArray] (by kernel_rfl) (by go_simp) ?_
  refine (sfits_any I T val _ Z.drew HH.out ht).mono ?_
  rintro e w1 ⟨rfl, hb1⟩
  have hb2 : Below Z.heap.size Z w1 := ⟨hb1.os, hb1.tape, hb1.output, hb1.size, hb1.block⟩
  have HE2 := Seal.mk (HE1.out.below hb2)
  have HB2 : Seal (Below w.heap.size w w1) := ⟨HB1.out.trans (hb2.mono HB1.out.size)⟩
  refine ⟨_, rfl, rangeAt_below' rI hb2, fun hHeld2 => ?_⟩
  clear hHeld hHeld2 hb1 hb2 rI HE1 HB1 iI uI
  try simp only [Act.put, List.setIfInBounds_toArray, List.set_cons_zero, List.set_cons_succ]
  refine call_at_u 5 rfl (by kernel_rfl) (by kernel_rfl) 18 #[.func (.func 19) #[.agg I.toArray] #[], .bool true, .func (.func 26) #[] #[.pointer (some ⟨w.heap.size + 5, 0, none⟩), .pointer (some ⟨w.heap.size + 1, 0, none⟩), .pointer (some ⟨w.heap.size + 2, 0, none⟩), .pointer (some ⟨w.heap.size + 3, 0, none⟩)]] (by kernel_rfl) (by go_simp) ?_
  have HW : Seal _ := ⟨with_take key r u v s d0 d1 0 val 0 0 T (w.heap.size + 5) (w.heap.size + 1) (w.heap.size + 2) (w.heap.size + 3) w1 h HU.out.1 HU.out.2.1 HU.out.2.2.1 HU.out.2.2.2.1 HU.out.2.2.2.2.1 HU.out.2.2.2.2.2 HE2.out.glob HT.out
    (HE2.out.cell (cs := #[.int .i64 u]) (t := 3) (by simp) rfl) (HE2.out.cell (cs := #[.int .i64 v]) (t := 3) (by simp) rfl) (HE2.out.cell (cs := #[.int .i64 s]) (t := 3) (by simp) rfl) (by rw [← HI.out]; exact HE2.out.keep (w.heap.size + 5, .cells I.toArray 46) (by simp))⟩
  rw [← HI.out] at HW
  have HR2 := HE2.out.keep (w.heap.size + 4, .cells (List.toArray (.int .u8 0 :: .int .u8 0 :: .int .u8 0 :: .int .u8 0 :: .int .u8 0 :: .int .u8 0 :: .int .u8 0 :: .int .u8 0 :: .int .u8 0 :: .int .u8 0 :: .int .u8 0 :: .int .u8 0 :: .int .u8 0 :: .int .u8 0 :: .int .u8 0 :: .int .u8 0 :: .int .u8 0 :: .int .u8 0 :: .int .u8 0 :: .int .u8 0 :: .int .u8 0 :: .int .u8 0 :: .int .u8 0 :: .int .u8 0 :: .int .u8 0 :: .int .u8 0 :: .int .u8 0 :: .int .u8 0 :: .int .u8 0 :: .int .u8 0 :: .int .u8 0 :: .int .u8 0 :: .int .i64 0 :: .int .i64 0 :: .int .i64 0 :: [] : List Value) : Array Value) 27) (by simp)
  refine HW.out.mono ?_
  rintro e w2 ⟨rfl, hg, hr⟩
  have HB3 : Seal (Below w.heap.size w w2) := ⟨Frk.Below.os_grown HB2.out hg (Nat.le_add_right _ 5) HB2.out.size⟩
  have HR : Seal (w2.heap[w.heap.size + 4]? = some (.cells (List.toArray (.int .u8 0 :: .int .u8 0 :: .int .u8 0 :: .int .u8 0 :: .int .u8 0 :: .int .u8 0 :: .int .u8 0 :: .int .u8 0 :: .int .u8 0 :: .int .u8 0 :: .int .u8 0 :: .int .u8 0 :: .int .u8 0 :: .int .u8 0 :: .int .u8 0 :: .int .u8 0 :: .int .u8 0 :: .int .u8 0 :: .int .u8 0 :: .int .u8 0 :: .int .u8 0 :: .int .u8 0 :: .int .u8 0 :: .int .u8 0 :: .int .u8 0 :: .int .u8 0 :: .int .u8 0 :: .int .u8 0 :: .int .u8 0 :: .int .u8 0 :: .int .u8 0 :: .int .u8 0 :: .int .i64 0 :: .int .i64 0 :: .int .i64 0 :: [] : List Value) : Array Value) 27 (0, 0))) := ⟨(hg.block _ (Array.getElem?_eq_some_iff.1 HR2).1 (by simp)).trans HR2⟩
  have HRI := Seal.mk hr
  refine ⟨_, rfl, ?_⟩
  clear HW HE2 hg HR2 hr HB2
  try simp only [Act.put, List.setIfInBounds_toArray, List.set_cons_zero, List.set_cons_succ]
  refine last_u 6 (.int .i64 0) rfl (by kernel_rfl) (by kernel_rfl) (by kernel_rfl) (by kernel_rfl) (by go_simp) ?_
  obtain ⟨F, hF⟩ : ∃ F, F = stC T val d0 d1 := ⟨_, rfl⟩
  have rF : w2.rangeAt (w.heap.size + 5) 0 F := by
    have := rangeAt_take (rangeAt_row HRI.out) 35
    rwa [isC_take HT.out, ← hF] at this
  have iF : (Tryz.prog.info? 27).map (·.size) = some F.length := by rw [hF]; exact stC_info HT.out
  have IF : Seal ((Tryz.prog.info? 27).map (·.size) = some F.toArray.size) := ⟨by rw [List.size_toArray]; exact iF⟩
  have SF : Seal ((List.toArray (.int .u8 0 :: .int .u8 0 :: .int .u8 0 :: .int .u8 0 :: .int .u8 0 :: .int .u8 0 :: .int .u8 0 :: .int .u8 0 :: .int .u8 0 :: .int .u8 0 :: .int .u8 0 :: .int .u8 0 :: .int .u8 0 :: .int .u8 0 :: .int .u8 0 :: .int .u8 0 :: .int .u8 0 :: .int .u8 0 :: .int .u8 0 :: .int .u8 0 :: .int .u8 0 :: .int .u8 0 :: .int .u8 0 :: .int .u8 0 :: .int .u8 0 :: .int .u8 0 :: .int .u8 0 :: .int .u8 0 :: .int .u8 0 :: .int .u8 0 :: .int .u8 0 :: .int .u8 0 :: .int .i64 0 :: .int .i64 0 :: .int .i64 0 :: [] : List Value) : Array Value).size = F.toArray.size) := ⟨by show 35 = F.toArray.size; rw [hF, List.size_toArray, stC_len HT.out]⟩
  have AF : Seal (F.toArray.all (·.oneCell') = true) := ⟨by rw [hF]; exact all_oneCell_toArray (stC_one _ _ _ _)⟩
  have HFq := Seal.mk hF
  clear HRI hF
  go_wp2_with (first | (refine wpList_load_mid rfl 27 (.tmp 33) rfl (w.heap.size + 5) 0 rfl F _ rF Tryz.underlying27 rfl iF ?_) | (refine wpList_store_row rfl 27 (.tmp 14) (.tmp 34) rfl (w.heap.size + 4) F.toArray rfl rfl 27 (List.toArray (.int .u8 0 :: .int .u8 0 :: .int .u8 0 :: .int .u8 0 :: .int .u8 0 :: .int .u8 0 :: .int .u8 0 :: .int .u8 0 :: .int .u8 0 :: .int .u8 0 :: .int .u8 0 :: .int .u8 0 :: .int .u8 0 :: .int .u8 0 :: .int .u8 0 :: .int .u8 0 :: .int .u8 0 :: .int .u8 0 :: .int .u8 0 :: .int .u8 0 :: .int .u8 0 :: .int .u8 0 :: .int .u8 0 :: .int .u8 0 :: .int .u8 0 :: .int .u8 0 :: .int .u8 0 :: .int .u8 0 :: .int .u8 0 :: .int .u8 0 :: .int .u8 0 :: .int .u8 0 :: .int .i64 0 :: .int .i64 0 :: .int .i64 0 :: [] : List Value) : Array Value) HR.out IF.out SF.out AF.out ?_))
  exact bodyPost_ret (results_row_tmp (fn := Tryz.f8) rfl _ _ (w.heap.size + 4) 27 F.toArray (0, 0) _ _ rfl rfl (setRow_heap _ _ _ _ _ _ HR.out) Tryz.underlying27 rfl IF.out) rfl ⟨by rw [HFq.out]; rfl, below_row HB3.out (Nat.le_add_right _ _) _⟩

theorem stake_any (key r u v s val v' E' S' e0 : Int) (T T' : Bytes) (w : World) (h : Seal (stakeF key r T val u v s = (T', v', E', S', e0))) (u1 : -9223372036854775808 ≤ u) (u2 : u ≤ 9223372036854775807) (v1 : -9223372036854775808 ≤ v) (v2 : v ≤ 9223372036854775807) (hG : Glob w) (hT : T.length = 32) :
    Calls Tryz.prog 8 #[.int .i64 key, .int .i64 r, .agg (T.map B).toArray, .int .i64 val, .int .i64 u, .int .i64 v, .int .i64 s] w fun e w' => e = .returned (.tuple #[.agg (stC T' v' E' S').toArray, .int .i64 e0]) ∧ Below w.heap.size w w' := by
  have h' := h.out
  unfold stakeF at h'
  cases ht : fitB val with
  | false =>
    rw [ht, if_neg (by decide)] at h'
    simp only [Prod.mk.injEq] at h'
    obtain ⟨rfl, rfl, rfl, rfl, rfl⟩ := h'
    exact stake_no key r u v s val T w hG hT ht
  | true =>
    rw [ht, if_pos rfl] at h'
    obtain ⟨d0, d1, x0, hf⟩ : ∃ d0 d1 x0, finishC key r (stT T val) u v s = (d0, d1, x0) := ⟨_, _, _, rfl⟩
    rw [hf] at h'
    by_cases he : x0 = 0
    · rw [if_pos he] at h'
      simp only [Prod.mk.injEq] at h'
      obtain ⟨rfl, rfl, rfl, rfl, rfl⟩ := h'
      exact stake_ok key r u v s _ _ x0 val T w ⟨hf⟩ u1 u2 v1 v2 hG hT ht he
    · rw [if_neg he] at h'
      simp only [Prod.mk.injEq] at h'
      obtain ⟨rfl, rfl, rfl, rfl, rfl⟩ := h'
      exact stake_err key r u v s _ _ _ val T w ⟨hf⟩ u1 u2 v1 v2 hG hT ht he

set_option maxHeartbeats 1000000 in
theorem sbsearch_any (a : Option Addr) (len cap : Nat) (l : List Bytes) (d : Bytes) (w : World) (hd : IsD w a len cap l) (h32 : d.length = 32) (hu : usedB l = true) :
    Calls Tryz.prog 33 #[.slice a len cap, .agg (d.map B).toArray, .func (.func 31) #[] #[]] w fun e w' => e = .returned (.tuple #[.int .i64 (atB l d : Nat), .bool (hasB l d)]) ∧ Below w.heap.size w w' := by
  have HL := Seal.mk hd.llen
  have hlm := hd.lmax
  have HU := Seal.mk hu
  have HD32 := Seal.mk h32
  have i1 := dg_info d h32
  have ut := Tryz.underlying23
  have HC : Seal (∀ x y W, x.length = 32 → y.length = 32 → Calls Tryz.prog 31 #[.agg (x.map B).toArray, .agg (y.map B).toArray] W fun e w' => e = .returned (.int .i64 (cmpB x y)) ∧ Below W.heap.size W w') := ⟨fun x y W h1 h2 => scompare_any x y W h1 h2⟩
  obtain ⟨X, hX⟩ : ∃ X : World, Seal (X = w.alloc (.cells (d.map B).toArray 23)) := ⟨_, ⟨rfl⟩⟩
  have hXb : Seal (Below w.heap.size w X) := ⟨by rw [hX.out]; exact below_alloc _ _⟩
  have hXs : Seal (X.heap.size = w.heap.size + 1) := ⟨by rw [hX.out, size_alloc]⟩
  have hXr : Seal (X.rangeAt w.heap.size 0 (d.map B)) := ⟨by rw [hX.out]; exact rangeAt_new w _ _ _⟩
  have HD : Seal (IsD X a len cap l) := ⟨hd.of_heap hXb.out⟩
  clear hd hu h32
  go_enter Tryz.func33, Tryz.ntmps33
  go_wp2
  rw [← hX.out]
  go_loopw [9, 10] (fun lo hi wr => ∃ i j : Nat, i ≤ j ∧ j ≤ len ∧ lo = .int .i64 i ∧ hi = .int .i64 j ∧ Seal (Below X.heap.size X wr ∧ (∀ t, t < i → blt (l.getD t []) d = true) ∧ (j < len → blt (l.getD j []) d = false))) (fun lo hi _ => (intOf hi - intOf lo).toNat)
  case atStart => exact ⟨0, len, by omega, by omega, rfl, rfl, ⟨by rw [hX.out]; exact Below.refl _ _, fun t ht => by omega, fun h => by omega⟩⟩
  case round =>
    obtain ⟨i, j, hij, hj, rfl, rfl, hH⟩ := hrel
    by_cases hlt : i < j
    · have HDr := HD.out.of_heap hH.out.1
      have rX := rangeAt_below' hXr.out hH.out.1
      rcases HDr.at_ with h0 | ⟨g, off, rfl, hr, hg⟩
      · omega
      · obtain ⟨m, hm⟩ : ∃ m, m = (i + j) / 2 := ⟨_, rfl⟩
        have hm1 : i ≤ m ∧ m < j := by omega
        have q0 := mid_bits i j (by omega)
        rw [← hm] at q0
        obtain ⟨x, hx⟩ : ∃ x, x = l.getD m [] := ⟨_, rfl⟩
        have r1 := range_dg hr HDr.each (i := m) (by rw [HL.out]; omega)
        have x32 := getD_len HDr.each (i := m) (by rw [HL.out]; omega)
        rw [← hx] at r1 x32
        have HC1 : Seal (∀ W, Calls Tryz.prog 31 #[.agg (x.map B).toArray, .agg (d.map B).toArray] W fun e w' => e = .returned (.int .i64 (cmpB x d)) ∧ Below W.heap.size W w') := ⟨fun W => HC.out x d W x32 HD32.out⟩
        have i2 := dg_info x x32
        have HX := Seal.mk hx
        have HM := Seal.mk hm
        have q5 : (m : Int) < (len : Int) := by omega
        clear hr HDr hx x32 hm
        go_wp2_with fail
        go_still_tail 6, (by kernel_rfl)
        refine wpStill_load_mid rfl 23 (.tmp 27) rfl g (off + m * 32) rfl (x.map B) _ r1 ut rfl i2 ?_
        refine wpStill_load_mid rfl 23 (.tmp 4) rfl w.heap.size 0 rfl (d.map B) _ rX ut rfl i1 ?_
        refine wpStill_nil ?_
        change wpList _ _ _ _ _ wr.drew
        go_wp2_with fail
        refine (HC1.out _).mono ?_
        rintro e w1 ⟨rfl, hb1⟩
        have HB1 : Seal (Below X.heap.size X w1) := ⟨hH.out.1.trans ((show Below wr.heap.size wr w1 from ⟨hb1.os, hb1.tape, hb1.output, hb1.size, hb1.block⟩).mono hH.out.1.size)⟩
        clear hb1 HC1 r1 rX q0
        by_cases hc : cmpB x d < 0
        · have HL1 : Seal (blt (l.getD m []) d = true) := ⟨by rw [← HX.out]; exact (cmpB_neg _ _).1 hc⟩
          generalize cmpB x d = c at *
          go_wp2
          go_roundw
          case rel =>
            refine ⟨m + 1, j, by omega, hj, by go_num, rfl, ⟨HB1.out, fun t ht => ?_, hH.out.2.2⟩⟩
            by_cases htm : t = m
            · subst htm; exact HL1.out
            · exact blt_trans (used_lt HU.out m t (by omega) (by rw [HL.out]; omega)) HL1.out
          case measure => simp [intOf]; omega
        · have HL1 : Seal (blt (l.getD m []) d = false) := ⟨by
            cases h : blt (l.getD m []) d with
            | false => rfl
            | true => rw [← HX.out] at h; exact absurd ((cmpB_neg _ _).2 h) hc⟩
          generalize cmpB x d = c at *
          go_wp2
          go_roundw
          case rel => exact ⟨i, m, hm1.1, by omega, rfl, rfl, ⟨HB1.out, hH.out.2.1, fun _ => HL1.out⟩⟩
          case measure => simp [intOf]; omega
    · obtain rfl : i = j := by omega
      have HA : Seal (i = atB l d) := ⟨atB_unique (by rw [HL.out]; exact hj) hH.out.2.1 (fun h => hH.out.2.2 (by rw [HL.out] at h; exact h))⟩
      have HBw : Seal (Below w.heap.size w wr) := ⟨hXb.out.trans (hH.out.1.mono hXb.out.size)⟩
      by_cases hil : i < len
      · have HDr := HD.out.of_heap hH.out.1
        have rX := rangeAt_below' hXr.out hH.out.1
        rcases HDr.at_ with h0 | ⟨g, off, rfl, hr, hg⟩
        · omega
        · obtain ⟨x, hx⟩ : ∃ x, x = l.getD i [] := ⟨_, rfl⟩
          have r1 := range_dg hr HDr.each (i := i) (by rw [HL.out]; omega)
          have x32 := getD_len HDr.each (i := i) (by rw [HL.out]; omega)
          rw [← hx] at r1 x32
          have HC1 : Seal (∀ W, Calls Tryz.prog 31 #[.agg (x.map B).toArray, .agg (d.map B).toArray] W fun e w' => e = .returned (.int .i64 (cmpB x d)) ∧ Below W.heap.size W w') := ⟨fun W => HC.out x d W x32 HD32.out⟩
          have i2 := dg_info x x32
          have HF : Seal ((cmpB x d == 0) = hasB l d) := ⟨by
            rw [Bool.eq_iff_iff, has_iff_at HU.out, ← HA.out, ← hx, beq_iff_eq, cmpB_zero, HL.out]
            exact ⟨fun h => ⟨hil, h⟩, fun h => h.2⟩⟩
          have q5 : (i : Int) < (len : Int) := by omega
          clear hr HDr hx x32 hlt
          go_wp2_with fail
          refine wp_region_held_drew (S := fun w' => w'.rangeAt g (off + i * 32) (x.map B) ∧ w'.rangeAt w.heap.size 0 (d.map B)) (by kernel_rfl) ⟨r1, rX⟩ (fun hHeld => ?_)
          refine take_h 0 ?_ rfl (by kernel_rfl) (by kernel_rfl) (by kernel_rfl) (fun _ _ _ h => h) (Or.inl ⟨by kernel_rfl, ?_⟩) (by assumption) ?_
          rotate_left
          · (intro w hSw; (try dsimp only at hSw); go_simp; try (with_reducible rfl))
          try simp only [Act.put, List.setIfInBounds_toArray, List.set_cons_zero, List.set_cons_succ]
          refine take_h 1 ?_ rfl (by kernel_rfl) (by kernel_rfl) (by kernel_rfl) (fun _ _ _ h => h) (Or.inl ⟨by kernel_rfl, ?_⟩) (by assumption) ?_
          rotate_left
          · (intro w hSw; (try dsimp only at hSw); go_simp; try (with_reducible rfl))
          try simp only [Act.put, List.setIfInBounds_toArray, List.set_cons_zero, List.set_cons_succ]
          refine take_h 2 ?_ rfl (by kernel_rfl) (by kernel_rfl) (by kernel_rfl) (fun _ _ _ h => h) (Or.inl ⟨by kernel_rfl, ?_⟩) (by assumption) ?_
          rotate_left
          · (intro w hSw; (try dsimp only at hSw); go_simp; try (with_reducible rfl))
          try simp only [Act.put, List.setIfInBounds_toArray, List.set_cons_zero, List.set_cons_succ]
          refine take_h 3 ?_ rfl (by kernel_rfl) (by kernel_rfl) (by kernel_rfl) (fun _ _ _ h => h) (Or.inl ⟨by kernel_rfl, ?_⟩) (by assumption) ?_
          rotate_left
          · (intro w hSw; (try dsimp only at hSw); go_simp; try (with_reducible rfl))
          try simp only [Act.put, List.setIfInBounds_toArray, List.set_cons_zero, List.set_cons_succ]
          refine take_h 4 ?_ rfl (by kernel_rfl) (by kernel_rfl) (by kernel_rfl) (fun _ _ _ h => h) (Or.inl ⟨by kernel_rfl, ?_⟩) (by assumption) ?_
          rotate_left
          · (intro w hSw; (try dsimp only at hSw); go_simp; try (with_reducible rfl))
          try simp only [Act.put, List.setIfInBounds_toArray, List.set_cons_zero, List.set_cons_succ]
          refine take_h 5 ?_ rfl (by kernel_rfl) (by kernel_rfl) (by kernel_rfl) (fun _ _ _ h => h) (Or.inl ⟨by kernel_rfl, ?_⟩) (by assumption) ?_
          rotate_left
          · (intro w hSw; (try dsimp only at hSw); go_simp; try (with_reducible rfl))
          try simp only [Act.put, List.setIfInBounds_toArray, List.set_cons_zero, List.set_cons_succ]
          refine take_h 6 ?_ rfl (by kernel_rfl) (by kernel_rfl) (by kernel_rfl) (fun _ _ _ h => h) (Or.inl ⟨by kernel_rfl, ?_⟩) (by assumption) ?_
          rotate_left
          · (intro w hSw; (try dsimp only at hSw); go_simp; try (with_reducible rfl))
          try simp only [Act.put, List.setIfInBounds_toArray, List.set_cons_zero, List.set_cons_succ]
          refine take_h 7 ?_ rfl (by kernel_rfl) (by kernel_rfl) (by kernel_rfl) (fun _ _ _ h => h) (Or.inl ⟨by kernel_rfl, ?_⟩) (by assumption) ?_
          rotate_left
          · (intro w hSw; (try dsimp only at hSw); go_simp; try (with_reducible rfl))
          try simp only [Act.put, List.setIfInBounds_toArray, List.set_cons_zero, List.set_cons_succ]
          refine take_h 8 ?_ rfl (by kernel_rfl) (by kernel_rfl) (by kernel_rfl) (fun _ _ _ h => h) (Or.inl ⟨by kernel_rfl, ?_⟩) (by assumption) ?_
          rotate_left
          · (intro w hSw; (try dsimp only at hSw); go_simp; try (with_reducible rfl))
          try simp only [Act.put, List.setIfInBounds_toArray, List.set_cons_zero, List.set_cons_succ]
          refine take_h 9 _ rfl (by kernel_rfl) (by kernel_rfl) (by kernel_rfl) (fun _ _ _ h => h) (yieldsIf_load_mid (by kernel_rfl) 23 (.tmp 43) rfl g (off + i * 32) rfl (x.map B) _ (fun w hSw => hSw.1) ut rfl i2) (by assumption) ?_
          try simp only [Act.put, List.setIfInBounds_toArray, List.set_cons_zero, List.set_cons_succ]
          refine take_h 10 _ rfl (by kernel_rfl) (by kernel_rfl) (by kernel_rfl) (fun _ _ _ h => h) (yieldsIf_load_mid (by kernel_rfl) 23 (.tmp 4) rfl w.heap.size 0 rfl (d.map B) _ (fun w hSw => hSw.2) ut rfl i1) (by assumption) ?_
          try simp only [Act.put, List.setIfInBounds_toArray, List.set_cons_zero, List.set_cons_succ]
          refine call_h 11 rfl (by kernel_rfl) 31 #[.agg (x.map B).toArray, .agg (d.map B).toArray] (by kernel_rfl) (by go_simp) ?_
          refine (HC1.out _).mono ?_
          rintro e w1 ⟨rfl, hb1⟩
          have hb2 : Below wr.heap.size wr w1 := ⟨hb1.os, hb1.tape, hb1.output, hb1.size, hb1.block⟩
          have HB1 : Seal (Below w.heap.size w w1) := ⟨HBw.out.trans (hb2.mono HBw.out.size)⟩
          refine ⟨_, rfl, ⟨rangeAt_below' r1 hb2, rangeAt_below' rX hb2⟩, fun hHeld2 => ?_⟩
          clear hb1 hb2 HC1 r1 rX hHeld
          have hHeld := hHeld2
          clear hHeld2
          generalize cmpB x d = c at *
          try simp only [Act.put, List.setIfInBounds_toArray, List.set_cons_zero, List.set_cons_succ]
          refine take_h 12 ?_ rfl (by kernel_rfl) (by kernel_rfl) (by kernel_rfl) (fun _ _ _ h => h) (Or.inl ⟨by kernel_rfl, ?_⟩) (by assumption) ?_
          rotate_left
          · (intro w hSw; (try dsimp only at hSw); go_simp; try (with_reducible rfl))
          try simp only [Act.put, List.setIfInBounds_toArray, List.set_cons_zero, List.set_cons_succ]
          refine take_h 13 ?_ rfl (by kernel_rfl) (by kernel_rfl) (by kernel_rfl) (fun _ _ _ h => h) (Or.inl ⟨by kernel_rfl, ?_⟩) (by assumption) ?_
          rotate_left
          · (intro w hSw; (try dsimp only at hSw); go_simp; try (with_reducible rfl))
          try simp only [Act.put, List.setIfInBounds_toArray, List.set_cons_zero, List.set_cons_succ]
          refine take_h 14 ?_ rfl (by kernel_rfl) (by kernel_rfl) (by kernel_rfl) (fun _ _ _ h => h) (Or.inl ⟨by kernel_rfl, ?_⟩) (by assumption) ?_
          rotate_left
          · (intro w hSw; (try dsimp only at hSw); go_simp; try (with_reducible rfl))
          try simp only [Act.put, List.setIfInBounds_toArray, List.set_cons_zero, List.set_cons_succ]
          refine take_h 15 ?_ rfl (by kernel_rfl) (by kernel_rfl) (by kernel_rfl) (fun _ _ _ h => h) (Or.inl ⟨by kernel_rfl, ?_⟩) (by assumption) ?_
          rotate_left
          · (intro w hSw; (try dsimp only at hSw); go_simp; try (with_reducible rfl))
          try simp only [Act.put, List.setIfInBounds_toArray, List.set_cons_zero, List.set_cons_succ]
          refine wpAnyH_done (by kernel_rfl) ?_ _
          clear hHeld
          go_wp2
          go_ret2
          exact ⟨by rw [← HA.out, ← HF.out]; rfl, HB1.out⟩
      · have HF : Seal (hasB l d = false) := ⟨by
          cases h : hasB l d with
          | false => rfl
          | true =>
            have := ((has_iff_at HU.out).1 h).1
            rw [← HA.out, HL.out] at this; omega⟩
        have q5 : ¬ (i : Int) < (len : Int) := by omega
        have q6 : decide ((i : Int) < (len : Int)) = false := decide_eq_false q5
        clear hH hlt
        go_wp2_with fail
        go_quiet (fail)
        go_wp2
        go_ret2
        exact ⟨by rw [← HA.out, HF.out]; rfl, ⟨HBw.out.os, HBw.out.tape, HBw.out.output, HBw.out.size, HBw.out.block⟩⟩

set_option maxHeartbeats 8000000 in
theorem sspend_any (a : Option Addr) (len cap : Nat) (l r : List Bytes) (key v E S x : Int) (T : Bytes) (w : World) (hG : Glob w) (hd : IsD w a len cap l) (hT : T.length = 32)
    (h : Seal (spendF (skB key T v E S) l T 370 = (r, x))) :
    Calls Tryz.prog 13 #[.slice a len cap, .int .i64 key, .agg (stC T v E S).toArray] w (DigPost r x w) := by
  obtain ⟨C, hC⟩ : ∃ C, C = stC T v E S := ⟨_, rfl⟩
  have IC : Seal ((Tryz.prog.info? 27).map (·.size) = some C.toArray.size) := ⟨by rw [hC, List.size_toArray]; exact stC_info hT⟩
  obtain ⟨X, hX⟩ : ∃ X : World, X = w.alloc (.cells C.toArray 27) := ⟨_, rfl⟩
  have hXb : Seal (Below w.heap.size w X) := ⟨by rw [hX]; exact below_alloc _ _⟩
  have hXn : Seal (X.heap[w.heap.size]? = some (.cells C.toArray 27 (0, 0))) := ⟨by rw [hX]; exact heap_alloc_new w _⟩
  have HT := Seal.mk hT
  have hXd : Seal (X.rangeAt w.heap.size 0 (T.map B)) := ⟨by
    have := rangeAt_take (rangeAt_row hXn.out) 32
    rw [hC, (stC_head (v := v) (E := E) (S := S) hT).text] at this
    exact this⟩
  obtain ⟨c, hc⟩ : ∃ c, skB key T v E S = c := ⟨_, rfl⟩
  have HK : Seal (∀ W, Glob W → Calls Tryz.prog 10 #[.int .i64 key, .agg C.toArray] W fun e w' => e = .returned (.bool c) ∧ Below W.heap.size W w') := ⟨fun W hW => by rw [hC]; exact scheck_any key T v E S c W hT hW ⟨hc⟩⟩
  have HG := Seal.mk hG
  have HD := Seal.mk hd
  have hll := hd.llen
  have hlm := hd.lmax
  rw [hc] at h
  rw [← hC]
  clear hG hT hd hC hc
  go_enter Tryz.func13, Tryz.ntmps13
  go_upto_region 1 with (fail)
  rw [← hX]
  clear hX
  go_wp2
  go_loopw [14] (fun i wr => ∃ k : Nat, k ≤ len ∧ i = .int .i64 k ∧ Seal (Below X.heap.size X wr ∧ ∀ j, j + 1 < k → blt (l.getD j []) (l.getD (j + 1) []) = true)) (fun i _ => len - (intOf i).toNat)
  case atStart => exact ⟨0, by omega, rfl, ⟨Below.refl _ _, fun j hj => by omega⟩⟩
  case round =>
    obtain ⟨k, hk, rfl, hH⟩ := hrel
    have HB : Seal (Below w.heap.size w wr) := ⟨hXb.out.trans (hH.out.1.mono hXb.out.size)⟩
    by_cases hlt : k < len
    · by_cases hk0 : k = 0
      · subst hk0
        have q5 : (0 : Int) < (len : Int) := by omega
        rw [show ((0 : Nat) : Int) = 0 from rfl]
        clear HK HD
        go_wp2_with fail
        refine wp_region_held_drew (S := fun w' => True) (by kernel_rfl) trivial (fun hHeld => ?_)
        refine take_h 0 ?_ rfl (by kernel_rfl) (by kernel_rfl) (by kernel_rfl) (fun _ _ _ h => h) (Or.inl ⟨by kernel_rfl, ?_⟩) (by assumption) ?_
        rotate_left
        · (intro w hSw; (try dsimp only at hSw); go_simp; try (with_reducible rfl))
        try simp only [Act.put, List.setIfInBounds_toArray, List.set_cons_zero, List.set_cons_succ]
        refine take_h 1 ?_ rfl (by kernel_rfl) (by kernel_rfl) (by kernel_rfl) (fun _ _ _ h => h) (Or.inl ⟨by kernel_rfl, ?_⟩) (by assumption) ?_
        rotate_left
        · (intro w hSw; (try dsimp only at hSw); go_simp; try (with_reducible rfl))
        try simp only [Act.put, List.setIfInBounds_toArray, List.set_cons_zero, List.set_cons_succ]
        refine take_h 2 ?_ rfl (by kernel_rfl) (by kernel_rfl) (by kernel_rfl) (fun _ _ _ h => h) (Or.inl ⟨by kernel_rfl, ?_⟩) (by assumption) ?_
        rotate_left
        · (intro w hSw; (try dsimp only at hSw); go_simp; try (with_reducible rfl))
        try simp only [Act.put, List.setIfInBounds_toArray, List.set_cons_zero, List.set_cons_succ]
        refine take_h 3 undef rfl (by kernel_rfl) (by kernel_rfl) (by kernel_rfl) (fun _ _ _ h => h) (Or.inr ⟨by kernel_rfl, rfl⟩) (by assumption) ?_
        try simp only [Act.put, List.setIfInBounds_toArray, List.set_cons_zero, List.set_cons_succ]
        refine take_h 4 undef rfl (by kernel_rfl) (by kernel_rfl) (by kernel_rfl) (fun _ _ _ h => h) (Or.inr ⟨by kernel_rfl, rfl⟩) (by assumption) ?_
        try simp only [Act.put, List.setIfInBounds_toArray, List.set_cons_zero, List.set_cons_succ]
        refine take_h 5 undef rfl (by kernel_rfl) (by kernel_rfl) (by kernel_rfl) (fun _ _ _ h => h) (Or.inr ⟨by kernel_rfl, rfl⟩) (by assumption) ?_
        try simp only [Act.put, List.setIfInBounds_toArray, List.set_cons_zero, List.set_cons_succ]
        refine take_h 6 undef rfl (by kernel_rfl) (by kernel_rfl) (by kernel_rfl) (fun _ _ _ h => h) (Or.inr ⟨by kernel_rfl, rfl⟩) (by assumption) ?_
        try simp only [Act.put, List.setIfInBounds_toArray, List.set_cons_zero, List.set_cons_succ]
        refine take_h 7 undef rfl (by kernel_rfl) (by kernel_rfl) (by kernel_rfl) (fun _ _ _ h => h) (Or.inr ⟨by kernel_rfl, rfl⟩) (by assumption) ?_
        try simp only [Act.put, List.setIfInBounds_toArray, List.set_cons_zero, List.set_cons_succ]
        refine take_h 8 undef rfl (by kernel_rfl) (by kernel_rfl) (by kernel_rfl) (fun _ _ _ h => h) (Or.inr ⟨by kernel_rfl, rfl⟩) (by assumption) ?_
        try simp only [Act.put, List.setIfInBounds_toArray, List.set_cons_zero, List.set_cons_succ]
        refine take_h 9 undef rfl (by kernel_rfl) (by kernel_rfl) (by kernel_rfl) (fun _ _ _ h => h) (Or.inr ⟨by kernel_rfl, rfl⟩) (by assumption) ?_
        try simp only [Act.put, List.setIfInBounds_toArray, List.set_cons_zero, List.set_cons_succ]
        refine take_h 10 undef rfl (by kernel_rfl) (by kernel_rfl) (by kernel_rfl) (fun _ _ _ h => h) (Or.inr ⟨by kernel_rfl, rfl⟩) (by assumption) ?_
        try simp only [Act.put, List.setIfInBounds_toArray, List.set_cons_zero, List.set_cons_succ]
        refine take_h 11 undef rfl (by kernel_rfl) (by kernel_rfl) (by kernel_rfl) (fun _ _ _ h => h) (Or.inr ⟨by kernel_rfl, rfl⟩) (by assumption) ?_
        try simp only [Act.put, List.setIfInBounds_toArray, List.set_cons_zero, List.set_cons_succ]
        refine take_h 12 undef rfl (by kernel_rfl) (by kernel_rfl) (by kernel_rfl) (fun _ _ _ h => h) (Or.inr ⟨by kernel_rfl, rfl⟩) (by assumption) ?_
        try simp only [Act.put, List.setIfInBounds_toArray, List.set_cons_zero, List.set_cons_succ]
        refine take_h 13 undef rfl (by kernel_rfl) (by kernel_rfl) (by kernel_rfl) (fun _ _ _ h => h) (Or.inr ⟨by kernel_rfl, rfl⟩) (by assumption) ?_
        try simp only [Act.put, List.setIfInBounds_toArray, List.set_cons_zero, List.set_cons_succ]
        refine take_h 14 undef rfl (by kernel_rfl) (by kernel_rfl) (by kernel_rfl) (fun _ _ _ h => h) (Or.inr ⟨by kernel_rfl, rfl⟩) (by assumption) ?_
        try simp only [Act.put, List.setIfInBounds_toArray, List.set_cons_zero, List.set_cons_succ]
        refine take_h 15 ?_ rfl (by kernel_rfl) (by kernel_rfl) (by kernel_rfl) (fun _ _ _ h => h) (Or.inl ⟨by kernel_rfl, ?_⟩) (by assumption) ?_
        rotate_left
        · (intro w hSw; (try dsimp only at hSw); go_simp; try (with_reducible rfl))
        try simp only [Act.put, List.setIfInBounds_toArray, List.set_cons_zero, List.set_cons_succ]
        refine wpAnyH_done (by kernel_rfl) ?_ _
        clear hHeld
        go_wp2
        go_roundw
        case rel => exact ⟨1, by omega, by go_num, ⟨⟨hH.out.1.os, hH.out.1.tape, hH.out.1.output, hH.out.1.size, hH.out.1.block⟩, fun j hj => by omega⟩⟩
        case measure => simp [intOf]; omega
      · have HDr := HD.out.of_heap HB.out
        rcases HDr.at_ with h0 | ⟨g, off, rfl, hr, hg⟩
        · omega
        · obtain ⟨x1, hx⟩ : ∃ x, x = l.getD (k - 1) [] := ⟨_, rfl⟩
          obtain ⟨y, hy⟩ : ∃ y, y = l.getD k [] := ⟨_, rfl⟩
          have r1 := range_dg hr HDr.each (i := k - 1) (by omega)
          have r2 := range_dg hr HDr.each (i := k) (by omega)
          have x32 := getD_len HDr.each (i := k - 1) (by omega)
          have y32 := getD_len HDr.each (i := k) (by omega)
          rw [← hx] at r1 x32
          rw [← hy] at r2 y32
          have HC : Seal (∀ W, Calls Tryz.prog 31 #[.agg (x1.map B).toArray, .agg (y.map B).toArray] W fun e w' => e = .returned (.int .i64 (cmpB x1 y)) ∧ Below W.heap.size W w') := ⟨fun W => scompare_any x1 y W x32 y32⟩
          have i1 := dg_info x1 x32
          have i2 := dg_info y y32
          have ut := Tryz.underlying23
          have q1 : IntKind.i64.wrap ((k : Int) - 1) = k - 1 := IntWalk.i64_in _ (by omega)
          have q2 : ((k : Int) - 1).toNat = k - 1 := by omega
          have q3 : 0 ≤ (k : Int) - 1 := by omega
          have q4 : (k : Int) - 1 < (len : Int) := by omega
          have q5 : (k : Int) < (len : Int) := by omega
          have q6 : 0 < (k : Int) := by omega
          have q7 : 1 ≤ (k : Int) := by omega
          have hkp : 0 < k := by omega
          have HX := Seal.mk hx
          have HY := Seal.mk hy
          clear hr HDr hx hy x32 y32 HK
          go_wp2_with fail
          refine wp_region_held_drew (S := fun w' => w'.rangeAt g (off + (k - 1) * 32) (x1.map B) ∧ w'.rangeAt g (off + k * 32) (y.map B)) (by kernel_rfl) ⟨r1, r2⟩ (fun hHeld => ?_)
          refine take_h 0 ?_ rfl (by kernel_rfl) (by kernel_rfl) (by kernel_rfl) (fun _ _ _ h => h) (Or.inl ⟨by kernel_rfl, ?_⟩) (by assumption) ?_
          rotate_left
          · (intro w hSw; (try dsimp only at hSw); go_simp; try (with_reducible rfl))
          try simp only [Act.put, List.setIfInBounds_toArray, List.set_cons_zero, List.set_cons_succ]
          refine take_h 1 ?_ rfl (by kernel_rfl) (by kernel_rfl) (by kernel_rfl) (fun _ _ _ h => h) (Or.inl ⟨by kernel_rfl, ?_⟩) (by assumption) ?_
          rotate_left
          · (intro w hSw; (try dsimp only at hSw); go_simp; try (with_reducible rfl))
          try simp only [Act.put, List.setIfInBounds_toArray, List.set_cons_zero, List.set_cons_succ]
          refine take_h 2 ?_ rfl (by kernel_rfl) (by kernel_rfl) (by kernel_rfl) (fun _ _ _ h => h) (Or.inl ⟨by kernel_rfl, ?_⟩) (by assumption) ?_
          rotate_left
          · (intro w hSw; (try dsimp only at hSw); go_simp; try (with_reducible rfl))
          try simp only [Act.put, List.setIfInBounds_toArray, List.set_cons_zero, List.set_cons_succ]
          refine take_h 3 ?_ rfl (by kernel_rfl) (by kernel_rfl) (by kernel_rfl) (fun _ _ _ h => h) (Or.inl ⟨by kernel_rfl, ?_⟩) (by assumption) ?_
          rotate_left
          · (intro w hSw; (try dsimp only at hSw); go_simp; try (with_reducible rfl))
          try simp only [Act.put, List.setIfInBounds_toArray, List.set_cons_zero, List.set_cons_succ]
          refine take_h 4 ?_ rfl (by kernel_rfl) (by kernel_rfl) (by kernel_rfl) (fun _ _ _ h => h) (Or.inl ⟨by kernel_rfl, ?_⟩) (by assumption) ?_
          rotate_left
          · (intro w hSw; (try dsimp only at hSw); go_simp; try (with_reducible rfl))
          try simp only [Act.put, List.setIfInBounds_toArray, List.set_cons_zero, List.set_cons_succ]
          refine take_h 5 ?_ rfl (by kernel_rfl) (by kernel_rfl) (by kernel_rfl) (fun _ _ _ h => h) (Or.inl ⟨by kernel_rfl, ?_⟩) (by assumption) ?_
          rotate_left
          · (intro w hSw; (try dsimp only at hSw); go_simp; try (with_reducible rfl))
          try simp only [Act.put, List.setIfInBounds_toArray, List.set_cons_zero, List.set_cons_succ]
          refine take_h 6 ?_ rfl (by kernel_rfl) (by kernel_rfl) (by kernel_rfl) (fun _ _ _ h => h) (Or.inl ⟨by kernel_rfl, ?_⟩) (by assumption) ?_
          rotate_left
          · (intro w hSw; (try dsimp only at hSw); go_simp; try (with_reducible rfl))
          try simp only [Act.put, List.setIfInBounds_toArray, List.set_cons_zero, List.set_cons_succ]
          refine take_h 7 ?_ rfl (by kernel_rfl) (by kernel_rfl) (by kernel_rfl) (fun _ _ _ h => h) (Or.inl ⟨by kernel_rfl, ?_⟩) (by assumption) ?_
          rotate_left
          · (intro w hSw; (try dsimp only at hSw); go_simp; try (with_reducible rfl))
          try simp only [Act.put, List.setIfInBounds_toArray, List.set_cons_zero, List.set_cons_succ]
          refine take_h 8 _ rfl (by kernel_rfl) (by kernel_rfl) (by kernel_rfl) (fun _ _ _ h => h) (yieldsIf_load_mid (by kernel_rfl) 23 (.tmp 24) rfl g (off + (k - 1) * 32) rfl (x1.map B) _ (fun w hSw => hSw.1) ut rfl i1) (by assumption) ?_
          try simp only [Act.put, List.setIfInBounds_toArray, List.set_cons_zero, List.set_cons_succ]
          refine take_h 9 ?_ rfl (by kernel_rfl) (by kernel_rfl) (by kernel_rfl) (fun _ _ _ h => h) (Or.inl ⟨by kernel_rfl, ?_⟩) (by assumption) ?_
          rotate_left
          · (intro w hSw; (try dsimp only at hSw); go_simp; try (with_reducible rfl))
          try simp only [Act.put, List.setIfInBounds_toArray, List.set_cons_zero, List.set_cons_succ]
          refine take_h 10 ?_ rfl (by kernel_rfl) (by kernel_rfl) (by kernel_rfl) (fun _ _ _ h => h) (Or.inl ⟨by kernel_rfl, ?_⟩) (by assumption) ?_
          rotate_left
          · (intro w hSw; (try dsimp only at hSw); go_simp; try (with_reducible rfl))
          try simp only [Act.put, List.setIfInBounds_toArray, List.set_cons_zero, List.set_cons_succ]
          refine take_h 11 ?_ rfl (by kernel_rfl) (by kernel_rfl) (by kernel_rfl) (fun _ _ _ h => h) (Or.inl ⟨by kernel_rfl, ?_⟩) (by assumption) ?_
          rotate_left
          · (intro w hSw; (try dsimp only at hSw); go_simp; try (with_reducible rfl))
          try simp only [Act.put, List.setIfInBounds_toArray, List.set_cons_zero, List.set_cons_succ]
          refine take_h 12 _ rfl (by kernel_rfl) (by kernel_rfl) (by kernel_rfl) (fun _ _ _ h => h) (yieldsIf_load_mid (by kernel_rfl) 23 (.tmp 28) rfl g (off + k * 32) rfl (y.map B) _ (fun w hSw => hSw.2) ut rfl i2) (by assumption) ?_
          try simp only [Act.put, List.setIfInBounds_toArray, List.set_cons_zero, List.set_cons_succ]
          refine call_h 13 rfl (by kernel_rfl) 31 #[.agg (x1.map B).toArray, .agg (y.map B).toArray] (by kernel_rfl) (by go_simp) ?_
          refine (HC.out wr.drew).mono ?_
          rintro e w1 ⟨rfl, hb1⟩
          have hb2 : Below wr.heap.size wr w1 := ⟨hb1.os, hb1.tape, hb1.output, hb1.size, hb1.block⟩
          have HB1 : Seal (Below X.heap.size X w1) := ⟨hH.out.1.trans (hb2.mono hH.out.1.size)⟩
          refine ⟨_, rfl, ⟨rangeAt_below' r1 hb2, rangeAt_below' r2 hb2⟩, fun hHeld2 => ?_⟩
          clear hHeld hb1 hb2 HC r1 r2 q1 q2 q3 q4 i1 i2 ut
          try simp only [Act.put, List.setIfInBounds_toArray, List.set_cons_zero, List.set_cons_succ]
          by_cases hc : 0 ≤ cmpB x1 y
          · have HN : Seal (usedB l = false) := ⟨by
              cases hu : usedB l with
              | false => rfl
              | true =>
                have := (usedB_iff l).1 hu (k - 1) (by rw [HD.out.llen]; omega)
                rw [show k - 1 + 1 = k from by omega, ← HX.out, ← HY.out] at this
                have := (cmpB_neg _ _).2 this
                omega⟩
            generalize cmpB x1 y = cc at *
            refine take_h 14 ?_ rfl (by kernel_rfl) (by kernel_rfl) (by kernel_rfl) (fun _ _ _ h => h) (Or.inl ⟨by kernel_rfl, ?_⟩) (by assumption) ?_
            rotate_left
            · (intro w hSw; (try dsimp only at hSw); go_simp; try (with_reducible rfl))
            try simp only [Act.put, List.setIfInBounds_toArray, List.set_cons_zero, List.set_cons_succ]
            refine take_h 15 ?_ rfl (by kernel_rfl) (by kernel_rfl) (by kernel_rfl) (fun _ _ _ h => h) (Or.inl ⟨by kernel_rfl, ?_⟩) (by assumption) ?_
            rotate_left
            · (intro w hSw; (try dsimp only at hSw); go_simp; try (with_reducible rfl))
            try simp only [Act.put, List.setIfInBounds_toArray, List.set_cons_zero, List.set_cons_succ]
            refine wpAnyH_done (by kernel_rfl) ?_ _
            clear hHeld2
            have hh := h.out
            have e1 : spendF c l T 370 = ([], 370) := by unfold spendF; rw [HN.out]; cases c <;> rfl
            rw [e1] at hh
            obtain ⟨rfl, rfl⟩ := Prod.mk.inj hh
            clear hh e1 HN h
            go_wp2
            go_ret2
            exact digPost_nil (hXb.out.trans (HB1.out.mono hXb.out.size))
          · have HL : Seal (blt (l.getD (k - 1) []) (l.getD k []) = true) := ⟨by rw [← HX.out, ← HY.out]; exact (cmpB_neg _ _).1 (by omega)⟩
            generalize cmpB x1 y = cc at *
            refine take_h 14 ?_ rfl (by kernel_rfl) (by kernel_rfl) (by kernel_rfl) (fun _ _ _ h => h) (Or.inl ⟨by kernel_rfl, ?_⟩) (by assumption) ?_
            rotate_left
            · (intro w hSw; (try dsimp only at hSw); go_simp; try (with_reducible rfl))
            try simp only [Act.put, List.setIfInBounds_toArray, List.set_cons_zero, List.set_cons_succ]
            refine take_h 15 ?_ rfl (by kernel_rfl) (by kernel_rfl) (by kernel_rfl) (fun _ _ _ h => h) (Or.inl ⟨by kernel_rfl, ?_⟩) (by assumption) ?_
            rotate_left
            · (intro w hSw; (try dsimp only at hSw); go_simp; try (with_reducible rfl))
            try simp only [Act.put, List.setIfInBounds_toArray, List.set_cons_zero, List.set_cons_succ]
            refine wpAnyH_done (by kernel_rfl) ?_ _
            clear hHeld2
            go_wp2
            go_roundw
            case rel =>
              refine ⟨k + 1, by omega, by go_num, ⟨HB1.out, fun j hj => ?_⟩⟩
              by_cases hjk : j + 1 < k
              · exact hH.out.2 j hjk
              · obtain rfl : j = k - 1 := by omega
                rw [show k - 1 + 1 = k from by omega]
                exact HL.out
            case measure => simp [intOf]; omega
    · have HU : Seal (usedB l = true) := ⟨(usedB_iff l).2 fun i hi => hH.out.2 i (by rw [HD.out.llen] at hi; omega)⟩
      have q5 : ¬ (k : Int) < (len : Int) := by omega
      have hXw := hXn.out
      have RN : Seal (wr.heap[w.heap.size]? = some (.cells C.toArray 27 (0, 0))) := ⟨(hH.out.1.block _ (Array.getElem?_eq_some_iff.1 hXn.out).1).trans hXn.out⟩
      have RD : Seal (wr.rangeAt w.heap.size 0 (T.map B)) := ⟨rangeAt_below' hXd.out hH.out.1⟩
      clear hH hXw
      go_wp2_with (refine wpList_load_row rfl 27 (.tmp 5) rfl w.heap.size rfl 27 C.toArray (0, 0) _ RN.out Tryz.underlying27 rfl IC.out ?_)
      refine (HK.out _ (HG.out.below HB.out)).mono ?_
      rintro e w2 ⟨rfl, hb⟩
      have HB2 : Seal (Below w.heap.size w w2) := ⟨HB.out.trans (hb.mono HB.out.size)⟩
      have HR2 : Seal (w2.rangeAt w.heap.size 0 (T.map B)) := ⟨rangeAt_below' RD.out hb⟩
      have HD2 : Seal (IsD w2 a len cap l) := ⟨HD.out.of_heap HB2.out⟩
      clear hb HB RN RD HK
      cases c with
      | false =>
        have hh := h.out
        have e1 : spendF false l T 370 = ([], 370) := rfl
        rw [e1] at hh
        obtain ⟨rfl, rfl⟩ := Prod.mk.inj hh
        clear hh e1 h
        go_wp2
        go_ret2
        exact digPost_nil HB2.out
      | true =>
        have i1 := dg_info T HT.out
        go_wp2_with (refine wpList_load_mid rfl 23 (.tmp 40) rfl w.heap.size 0 rfl (T.map B) _ HR2.out Tryz.underlying23 rfl i1 ?_)
        refine (sbsearch_any a len cap l T w2 HD2.out HT.out HU.out).mono ?_
        rintro e w3 ⟨rfl, hb3⟩
        have HB3 : Seal (Below w.heap.size w w3) := ⟨HB2.out.trans (hb3.mono HB2.out.size)⟩
        have HR3 : Seal (w3.rangeAt w.heap.size 0 (T.map B)) := ⟨rangeAt_below' HR2.out hb3⟩
        have HD3 : Seal (IsD w3 a len cap l) := ⟨HD.out.of_heap HB3.out⟩
        clear hb3
        have hh := h.out
        have HUU := HU
        cases hhs : hasB l T with
        | true =>
          have e1 : spendF true l T 370 = ([], 161) := by unfold spendF; rw [if_pos rfl, if_pos HU.out, if_pos hhs]
          rw [e1] at hh
          obtain ⟨rfl, rfl⟩ := Prod.mk.inj hh
          clear hh e1 h
          go_wp2
          go_ret2
          exact digPost_nil HB3.out
        | false =>
          by_cases hx : 4096 ≤ len
          · have hx' : (4096 : Int) ≤ (len : Int) := by omega
            have e1 : spendF true l T 370 = ([], 2) := by unfold spendF; rw [if_pos rfl, if_pos HU.out, if_neg (by rw [hhs]; decide), if_pos (by rw [hll]; exact hx)]
            rw [e1] at hh
            obtain ⟨rfl, rfl⟩ := Prod.mk.inj hh
            clear hh e1 h
            go_wp2
            go_ret2
            exact digPost_nil HB3.out
          have hx : len < 4096 := by omega
          have e1 : spendF true l T 370 = (putB l T, 0) := by unfold spendF; rw [if_pos rfl, if_pos HU.out, if_neg (by rw [hhs]; decide), if_neg (by rw [hll]; omega)]
          rw [e1] at hh
          obtain ⟨rfl, rfl⟩ := Prod.mk.inj hh
          clear hh e1 h
          have hx' : ¬ (4096 : Int) ≤ (len : Int) := by omega
          have hat : atB l T ≤ len := by rw [← hll]; exact atB_le l T
          have HLL : Seal (l.length = len ∧ ∀ d ∈ l, d.length = 32) := ⟨HD.out.llen, HD.out.each⟩
          go_wp2_with fail
          have HI : Seal (∀ (base vb : Nat) (v : Value) (W : World), OwnD W base v len l → W.heap[vb]? = some (.cells (T.map B).toArray 23 (0, 0)) → base ≤ W.heap.size → v.ownBlock ≠ some vb →
              Calls Tryz.prog 34 #[v, .int .i64 (atB l T : Nat), .slice (some ⟨vb, 0, none⟩) 1 1] W (InsPost base len (l.take (atB l T) ++ T :: l.drop (atB l T)) W)) :=
            ⟨fun base vb v W h1 h2 h3 h4 => dinsert_any base len (atB l T) vb v l T W ⟨h1⟩ HLL.out.1 HLL.out.2 hat ⟨h2⟩ HT.out (by omega) h3 h4⟩
          obtain ⟨at_, hat_⟩ : ∃ n : Nat, n = atB l T := ⟨_, rfl⟩
          have HAT := Seal.mk hat_
          rw [← hat_] at HI ⊢ hat
          clear hat_
          have ut := Tryz.underlying23
          have hR3 := HR3.out
          refine wp_region_held_drew (S := fun w' => w'.rangeAt w.heap.size 0 (T.map B)) (by kernel_rfl) hR3 (fun hHeld => ?_)
          refine take_h 0 ?_ rfl (by kernel_rfl) (by kernel_rfl) (by kernel_rfl) (fun _ _ _ h => h) (Or.inl ⟨by kernel_rfl, ?_⟩) (by assumption) ?_
          rotate_left
          · (intro w hSw; (try dsimp only at hSw); go_simp; try (with_reducible rfl))
          try simp only [Act.put, List.setIfInBounds_toArray, List.set_cons_zero, List.set_cons_succ]
          refine take_h 2 ?_ rfl (by kernel_rfl) (by kernel_rfl) (by kernel_rfl) (fun _ _ _ h => h) (Or.inl ⟨by kernel_rfl, ?_⟩) (by assumption) ?_
          rotate_left
          · (intro w hSw; (try dsimp only at hSw); go_simp; try (with_reducible rfl))
          try simp only [Act.put, List.setIfInBounds_toArray, List.set_cons_zero, List.set_cons_succ]
          refine take_h 3 ?_ rfl (by kernel_rfl) (by kernel_rfl) (by kernel_rfl) (fun _ _ _ h => h) (Or.inl ⟨by kernel_rfl, ?_⟩) (by assumption) ?_
          rotate_left
          · (intro w hSw; (try dsimp only at hSw); go_simp; try (with_reducible rfl))
          try simp only [Act.put, List.setIfInBounds_toArray, List.set_cons_zero, List.set_cons_succ]
          refine take_h 4 _ rfl (by kernel_rfl) (by kernel_rfl) (by kernel_rfl) (fun _ _ _ h => h) (yieldsIf_load_mid (by kernel_rfl) 23 (.tmp 53) rfl w.heap.size 0 rfl (T.map B) _ (fun w hSw => hSw) ut rfl i1) (by assumption) ?_
          try simp only [Act.put, List.setIfInBounds_toArray, List.set_cons_zero, List.set_cons_succ]
          refine wpAnyH_ready (rs := [1, 5]) (by kernel_rfl) (by simp) (call_b 1 rfl 35 #[.slice a len cap] (by kernel_rfl) (by go_simp) ?_ (oper_b 5 (.slice (some ⟨w3.heap.size, 0, none⟩) 1 1) (w3.drew.alloc (.cells (T.map B).toArray 23)) rfl (by kernel_rfl) (by have h32 := HT.out; go_simp; rw [fold_all (by simp [h32])]) (World.rangeAt_alloc hHeld _) (fun hHeld2 => ?_) AllReadyH.nil))
          · refine (clone_any a len cap l w3.drew (HD3.out.of_heap (below_drewn w3))).mono ?_
            rintro e w4 ⟨v, rfl, ho, hv, hb4⟩
            have HB4 : Seal (Below w.heap.size w w4) := ⟨HB3.out.trans ((show Below w3.heap.size w3 w4 from ⟨hb4.os, hb4.tape, hb4.output, hb4.size, hb4.block⟩).mono HB3.out.size)⟩
            refine ⟨_, rfl, rangeAt_below' hR3 (show Below w3.heap.size w3 w4 from ⟨hb4.os, hb4.tape, hb4.output, hb4.size, hb4.block⟩), fun hHeld2 => ?_⟩
            have hz4 : w3.heap.size ≤ w4.heap.size := hb4.size
            clear hHeld hb4 hv
            try simp only [Act.put, List.setIfInBounds_toArray, List.set_cons_zero, List.set_cons_succ]
            refine oper_h 5 (.slice (some ⟨w4.heap.size, 0, none⟩) 1 1) (w4.alloc (.cells (T.map B).toArray 23)) rfl (by kernel_rfl) (by kernel_rfl) (by have h32 := HT.out; go_simp; rw [fold_all (by simp [h32])]) (World.rangeAt_alloc hHeld2 _) (fun hHeld3 => ?_)
            clear hHeld2
            try simp only [Act.put, List.setIfInBounds_toArray, List.set_cons_zero, List.set_cons_succ]
            refine call_h 6 rfl (by kernel_rfl) 34 #[v, .int .i64 (at_ : Nat), .slice (some ⟨w4.heap.size, 0, none⟩) 1 1] (by kernel_rfl) (by go_simp) ?_
            refine (HI.out w3.heap.size w4.heap.size v _ (ho.out.alloc _) (heap_alloc_new w4 _) (by rw [size_alloc]; omega) (fun e => by have := (ho.out.lt _ e).2; omega)).mono ?_
            rintro e w5 ⟨g, c, rfl, hG, hb5⟩
            have HB5 : Seal (Below w.heap.size w w5) := ⟨(HB4.out.alloc HB4.out.size _).trans (hb5.mono HB3.out.size)⟩
            have hR5 : w5.rangeAt w.heap.size 0 (T.map B) := rangeAt_below hHeld3 hb5 (by have := (Array.getElem?_eq_some_iff.1 hXn.out).1; have := block_lt_of_cell (hR3 0 _ (List.getElem?_eq_getElem (by rw [List.length_map, HT.out]; decide))); exact this)
            refine ⟨_, rfl, hR5, fun hHeld4 => ?_⟩
            clear hHeld3 hb5 hR5
            try simp only [Act.put, List.setIfInBounds_toArray, List.set_cons_zero, List.set_cons_succ]
            refine take_h 7 ?_ rfl (by kernel_rfl) (by kernel_rfl) (by kernel_rfl) (fun _ _ _ h => h) (Or.inl ⟨by kernel_rfl, ?_⟩) (by assumption) ?_
            rotate_left
            · (intro w hSw; (try dsimp only at hSw); go_simp; try (with_reducible rfl))
            try simp only [Act.put, List.setIfInBounds_toArray, List.set_cons_zero, List.set_cons_succ]
            refine take_h 8 ?_ rfl (by kernel_rfl) (by kernel_rfl) (by kernel_rfl) (fun _ _ _ h => h) (Or.inl ⟨by kernel_rfl, ?_⟩) (by assumption) ?_
            rotate_left
            · (intro w hSw; (try dsimp only at hSw); go_simp; try (with_reducible rfl))
            try simp only [Act.put, List.setIfInBounds_toArray, List.set_cons_zero, List.set_cons_succ]
            refine wpAnyH_done (by kernel_rfl) ?_ _
            clear hHeld4
            go_wp2
            go_ret2
            rw [HAT.out] at hG
            exact spend_end hG.out HLL.out.1 HLL.out.2 HT.out hx HB5.out
          · clear hHeld
            try simp only [Act.put, List.setIfInBounds_toArray, List.set_cons_zero, List.set_cons_succ]
            refine call_h 1 rfl (by kernel_rfl) 35 #[.slice a len cap] (by kernel_rfl) (by go_simp) ?_
            obtain ⟨W4, hW4⟩ : ∃ W4, W4 = w3.drew.alloc (.cells (T.map B).toArray 23) := ⟨_, rfl⟩
            have hn4 : W4.heap[w3.heap.size]? = some (.cells (T.map B).toArray 23 (0, 0)) := by rw [hW4]; exact heap_alloc_new w3.drew _
            have hs4 : W4.heap.size = w3.heap.size + 1 := by rw [hW4]; exact size_alloc w3.drew _
            have hb4 : Below w3.heap.size w3 W4 := by rw [hW4]; exact (below_drewn w3).alloc (Nat.le_refl _) _
            rw [← hW4] at hHeld2 ⊢
            clear hW4
            have HB4 : Seal (Below w.heap.size w W4) := ⟨HB3.out.trans (hb4.mono HB3.out.size)⟩
            refine (clone_any a len cap l W4 (HD3.out.of_heap hb4)).mono ?_
            rintro e w5 ⟨v, rfl, ho, hv, hb5⟩
            have HB5 : Seal (Below w.heap.size w w5) := ⟨HB4.out.trans (hb5.mono HB4.out.size)⟩
            have hn5 : w5.heap[w3.heap.size]? = some (.cells (T.map B).toArray 23 (0, 0)) := blk hb5 (by omega) hn4
            have hz5 := hb5.size
            refine ⟨_, rfl, rangeAt_below' hHeld2 hb5, fun hHeld3 => ?_⟩
            clear hHeld2 hb4 hb5 hv hn4
            try simp only [Act.put, List.setIfInBounds_toArray, List.set_cons_zero, List.set_cons_succ]
            refine call_h 6 rfl (by kernel_rfl) 34 #[v, .int .i64 (at_ : Nat), .slice (some ⟨w3.heap.size, 0, none⟩) 1 1] (by kernel_rfl) (by go_simp) ?_
            refine (HI.out W4.heap.size w3.heap.size v _ ho.out hn5 (by omega) (fun e => by have := (ho.out.lt _ e).1; omega)).mono ?_
            rintro e w6 ⟨g, c, rfl, hG, hb6⟩
            have HB6 : Seal (Below w.heap.size w w6) := ⟨HB5.out.trans (hb6.mono HB4.out.size)⟩
            have hR6 : w6.rangeAt w.heap.size 0 (T.map B) := rangeAt_below hHeld3 hb6 (by have := block_lt_of_cell (hR3 0 _ (List.getElem?_eq_getElem (by rw [List.length_map, HT.out]; decide))); exact Nat.lt_of_lt_of_le this (by omega))
            refine ⟨_, rfl, hR6, fun hHeld4 => ?_⟩
            clear hHeld3 hb6 hR6
            try simp only [Act.put, List.setIfInBounds_toArray, List.set_cons_zero, List.set_cons_succ]
            refine take_h 7 ?_ rfl (by kernel_rfl) (by kernel_rfl) (by kernel_rfl) (fun _ _ _ h => h) (Or.inl ⟨by kernel_rfl, ?_⟩) (by assumption) ?_
            rotate_left
            · (intro w hSw; (try dsimp only at hSw); go_simp; try (with_reducible rfl))
            try simp only [Act.put, List.setIfInBounds_toArray, List.set_cons_zero, List.set_cons_succ]
            refine take_h 8 ?_ rfl (by kernel_rfl) (by kernel_rfl) (by kernel_rfl) (fun _ _ _ h => h) (Or.inl ⟨by kernel_rfl, ?_⟩) (by assumption) ?_
            rotate_left
            · (intro w hSw; (try dsimp only at hSw); go_simp; try (with_reducible rfl))
            try simp only [Act.put, List.setIfInBounds_toArray, List.set_cons_zero, List.set_cons_succ]
            refine wpAnyH_done (by kernel_rfl) ?_ _
            clear hHeld4
            go_wp2
            go_ret2
            rw [HAT.out] at hG
            exact spend_end hG.out HLL.out.1 HLL.out.2 HT.out hx HB6.out
end Frk
