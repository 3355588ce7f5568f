/- copy and append at elements of several cells. -/
import Derived.Test.YtllbjakfjpjfnaaGreatDoorVxgKit
import Derived.Laws.IdiomCopy
import Derived.Laws.CopyOwn
import Derived.Lib.AppendZerosOnto
import Derived.Laws.AppendOwn
import Derived.Lib.Overlaps
import Derived.Laws.Externs
import Derived.Deep.RegionLaw
import Derived.Deep.MidRow
import Derived.OrdersIn
import Derived.Deep.RegionHeld
import Derived.TacticsIn
namespace Frk
open Go Go.RowKit

/-- cs laid over L from place off on -/
def lay (L : List Value) (off : Nat) (cs : List Value) : List Value := L.take off ++ cs ++ L.drop (off + cs.length)
theorem length_lay {L : List Value} {off : Nat} {cs : List Value} (h : off + cs.length ≤ L.length) : (lay L off cs).length = L.length := by simp [lay]; omega

theorem run_copy_z {P : Program} (w : World) (dT sT ty elem : TypeId) (z : Nat) (g o dLen dCap : Nat) (a : Addr) (sLen sCap : Nat) (cur : List Value) (t : TypeId) (cs : List Value)
    (hu : P.underlying dT = some (.slice elem)) (hs : (P.info? elem).map (·.size) = some z)
    (hg : w.heap[g]? = some (.cells cur.toArray t (0, 0))) (hn : cs.length = Nat.min sLen dLen * z)
    (hsrc : ∀ j v, cs[j]? = some v → w.cell? (a.add j) = some v) (hfit : o + cs.length ≤ cur.length) (h1 : ∀ v ∈ cs, v.oneCell' = true) :
    (Builtin.copy_ #[dT, sT] ty #[.slice (some ⟨g, o, none⟩) dLen dCap, .slice (some a) sLen sCap]).run P w =
      .ok (goInt (Nat.min sLen dLen)) (w.setRow g (lay cur o cs).toArray) := by
  have hl := run_loadCells_list (P := P) w a cs hsrc
  have hst := run_storeCells_at P g o t cs 0 cur.toArray w hg (by simpa using hfit) h1
  cases hq : P.info? elem with
  | none => simp [hq] at hs
  | some i =>
    have hi : i.size = z := by simpa [hq] using hs
    simp [Builtin.copy_, run_underlying hu, Builtin.lenOf, Builtin.firstCells, Go.sizeOf, typeInfo, hq, hi, ← hn, hl, hst, lay]

/-- a copy whose run is known -/
theorem wpList_copy_run {P : Program} {w w' : World} {ops : Array Oper} {rest : List Oper} {o : Oper} {a : Act} {Q : Exit → Act → World → Prop} (hgd : o.guard = none) (d s : Operand) (t t' : TypeId)
    (ho : o.op = .call { callee := .builtin .copy, args := #[d, s], argTypes := #[t, t'] }) (v u : Value) (hd : a.eval d = v) (hs : a.eval s = u) {v' : Value}
    (hr : ∀ ty, (Builtin.copy_ #[t, t'] ty #[v, u]).run P w = .ok v' w') (h : wpList P ops Q rest (a.put o.dst v') w') : wpList P ops Q (o :: rest) a w := by
  refine wpList_plain hgd fun K hK => ?_
  have hr' := hr o.type
  unfold Oper.wp execOp
  simp only [ho, resolve, invoke, builtin, Sem.run_bind, Sem.run_pure, Result.andThen_ok, List.map_toArray, List.map_cons, List.map_nil, hd, hs, hr']
  exact hK _ _ h

theorem step_copy_run {P : Program} {ops : Array Oper} {o : Oper} {a : Act} {w w' : World} {K : Act → World → Prop} {Q : Exit → Act → World → Prop} {E : Prop}
    (hg : o.guard = none) (d x : Operand) (dT sT : TypeId) (hop : o.op = Op.call { callee := Callee.builtin Builtin.copy, args := #[d, x], argTypes := #[dT, sT] })
    (v u : Value) (hd : a.eval d = v) (hx : a.eval x = u) {v' : Value} (hr : ∀ ty, (Builtin.copy_ #[dT, sT] ty #[v, u]).run P w = .ok v' w') (hK : K (a.put o.dst v') w') :
    if Region.wanted o (yielded ops a.tmps) = true then Oper.wp P o a w K Q else E := by
  have hw : Region.wanted o (yielded ops a.tmps) = true := by simp [Region.wanted, hg]
  have hr' := hr o.type
  rw [if_pos hw]
  unfold Oper.wp
  simp [execOp, hop, resolve, invoke, builtin, hd, hx, hr', Result.andThen]
  exact hK

/-- what insertion leaves of a row in place: what stands from i on goes m cells up, then the new cells -/
theorem lay_shift {cur : List Value} {i m : Nat} {cs ds : List Value} (hc : cur.take cs.length = cs) (hi : i ≤ cs.length) (hd : ds.length = m) (hfit : cs.length + m ≤ cur.length) :
    (lay (lay cur (i + m) (cs.drop i)) i ds).take (cs.length + m) = cs.take i ++ ds ++ cs.drop i := by
  have e1 : cur.take i = cs.take i := by rw [← hc, List.take_take, Nat.min_eq_left hi]
  have l0 : cs.length ≤ cur.length := by omega
  have hl : (cs.drop i).length = cs.length - i := List.length_drop
  have hT : (cur.take (i + m)).length = i + m := by rw [List.length_take]; omega
  have hA : ∀ X : List Value, (cur.take (i + m) ++ X).take i = cs.take i := fun X => by
    rw [List.take_append_of_le_length (by omega), List.take_take, Nat.min_eq_left (by omega), e1]
  have hB : ∀ X : List Value, (cur.take (i + m) ++ X).drop (i + ds.length) = X := fun X => by
    rw [hd, List.drop_append, hT, List.drop_of_length_le (by omega), Nat.sub_self, List.drop_zero, List.nil_append]
  unfold lay
  rw [List.append_assoc (cur.take (i + m)), hA, hB]
  rw [← List.append_assoc, List.take_append_of_le_length]
  · rw [List.take_of_length_le]
    simp; omega
  · simp; omega

open Go Go.RowKit

theorem lay_nil (L : List Value) (off : Nat) : lay L off [] = L := by simp [lay]
theorem lay_cons {L : List Value} {off : Nat} (h : off < L.length) (v : Value) (cs : List Value) : lay (L.set off v) (off + 1) cs = lay L off (v :: cs) := by
  unfold lay
  rw [List.take_set, List.drop_set_of_lt (by omega), List.length_cons, show off + 1 + cs.length = off + (cs.length + 1) from by omega]
  rw [List.set_eq_take_append_cons_drop, if_pos (by rw [List.length_take]; omega), List.take_take, Nat.min_eq_left (by omega), List.drop_of_length_le (by rw [List.length_take]; omega)]
  simp

/-- a literal slice of one array -/
theorem fold_lay : ∀ (L : List Value) (k : Nat) (Z : List Value), k + L.length ≤ Z.length → (L.zipIdx k).foldl (fun cs x => cs.setIfInBounds x.2 x.1) Z.toArray = (lay Z k L).toArray
  | [], k, Z, _ => by rw [lay_nil]; rfl
  | v :: L, k, Z, h => by
    have hk : k < Z.length := by simp at h; omega
    rw [List.zipIdx_cons, List.foldl_cons, List.setIfInBounds_toArray, fold_lay L (k + 1) (Z.set k v) (by simp at h ⊢; omega), lay_cons hk]
theorem fold_all {L Z : List Value} (h : L.length = Z.length) : L.zipIdx.foldl (fun cs x => cs.setIfInBounds x.2 x.1) Z.toArray = L.toArray := by
  rw [fold_lay L 0 Z (by omega)]
  unfold lay
  rw [List.take_zero, List.nil_append, List.drop_of_length_le (by omega), List.append_nil]

open Go Go.RowKit

theorem callsIn_round {l n : Nat} {P : Program} {f : FuncId} {args : Array Value} {w : World} {R : Ending → World → Prop} (h : Calls P f args w R) : CallsIn (Fence.wide.inRound l) n P f args w R :=
  callsIn_wide.2 h

theorem rowsIn_round {l n : Nat} {P : Program} {row : String} {args : Array Value} {w : World} {R : Value → World → Prop} (h : Rows P row args w R) : RowsIn (Fence.wide.inRound l) n P row args w R := by
  intro c cs _
  obtain ⟨v, w', r, s⟩ := h c cs
  exact ⟨v, w', r, stepsIn_wide.2 s⟩

def noDefer (ops : Array Oper) : Bool := ops.all fun o => match o.op with | .defer _ => false | _ => true
theorem opIn_of_op {l n : Nat} {P : Program} {o : Oper} {a : Act} {w : World} {K : Act → World → Prop} {Q : Exit → Act → World → Prop} (hd : ∀ c, o.op ≠ .defer c) (h : o.wp P a w K Q) : o.wpIn (Fence.wide.inRound l) n P a w K Q := by
  refine ⟨fun _ _ => trivial, ?_⟩
  rw [Oper.semAt_eq _ _ _ hd]
  unfold Oper.wp at h
  generalize (execOp a.eval o).run P w = r at h
  cases r with
  | ok x w' =>
    cases x <;> simp only [Oper.upon, Oper.uponIn] at h ⊢ <;> first | exact h | exact h.elim | exact ⟨fun h => (by cases h), callsIn_round h⟩ | exact ⟨fun h => (by cases h), rowsIn_round h⟩
  | halt x w' => cases x <;> simp only [Oper.upon, Oper.uponIn] at h ⊢ <;> first | exact h | exact h.elim

/-! ## calls and new blocks in a region, where several may come up -/

/-- one of several that may come up: an operation that makes or writes memory -/
theorem oper_b {P : Program} {md : Region.Mode} {ops : Array Oper} {Q : Exit → Act → World → Prop} {S : World → Prop} {dst : Option Tmp} {op : Op} {ty : TypeId} {pos : String} {after : Array Edge} {guard : Option (Nat × Bool)} (i : Nat) {fuel : Nat} {listed : Array Bool} {a : Act} {w : World} {rs : List Nat} (v : Value) (w' : World)
    (hi : ops[i]? = some { dst := dst, op := op, type := ty, pos := pos, after := after, guard := guard })
    (hw : Region.wanted { dst := dst, op := op, type := ty, pos := pos, after := after, guard := guard } (yielded ops a.tmps) = true)
    (hrun : (execOp a.eval { dst := dst, op := op, type := ty, pos := pos, after := after, guard := guard }).run P w = .ok (.value v) w')
    (hS : S w') (hn : S w' → wpAnyH P md ops Q S fuel (listed.setIfInBounds i true) (a.put dst v) w')
    (hs : AllReadyH P md ops Q S fuel listed a w rs) : AllReadyH P md ops Q S fuel listed a w (i :: rs) :=
  AllReadyH.cons hi (fun K hK => by
    rw [if_pos hw]
    unfold Oper.wp
    rw [hrun]
    exact hK.out _ _ hS hn) hs

/-- an operation that makes or writes memory, and alone may come up -/
theorem oper_h {P : Program} {md : Region.Mode} {ops : Array Oper} {Q : Exit → Act → World → Prop} {S : World → Prop} {dst : Option Tmp} {op : Op} {ty : TypeId} {pos : String} {after : Array Edge} {guard : Option (Nat × Bool)} (i : Nat) {fuel : Nat} {listed : Array Bool} {a : Act} {w : World} (v : Value) (w' : World)
    (hi : ops[i]? = some { dst := dst, op := op, type := ty, pos := pos, after := after, guard := guard }) (hr : Region.ready md ops listed = [i])
    (hw : Region.wanted { dst := dst, op := op, type := ty, pos := pos, after := after, guard := guard } (yielded ops a.tmps) = true)
    (hrun : (execOp a.eval { dst := dst, op := op, type := ty, pos := pos, after := after, guard := guard }).run P w = .ok (.value v) w')
    (hS : S w') (hn : S w' → wpAnyH P md ops Q S fuel (listed.setIfInBounds i true) (a.put dst v) w') : wpAnyH P md ops Q S (fuel + 1) listed a w :=
  wpAnyH_ready hr (by simp) (oper_b i v w' hi hw hrun hS hn AllReadyH.nil)

/-- a store, which alone may come up -/
theorem skip_h {P : Program} {md : Region.Mode} {ops : Array Oper} {Q : Exit → Act → World → Prop} {S : World → Prop} {dst : Option Tmp} {op : Op} {ty : TypeId} {pos : String} {after : Array Edge} {guard : Option (Nat × Bool)} (i : Nat) {fuel : Nat} {listed : Array Bool} {a : Act} {w : World} (w' : World)
    (hi : ops[i]? = some { dst := dst, op := op, type := ty, pos := pos, after := after, guard := guard }) (hr : Region.ready md ops listed = [i])
    (hw : Region.wanted { dst := dst, op := op, type := ty, pos := pos, after := after, guard := guard } (yielded ops a.tmps) = true)
    (hrun : (execOp a.eval { dst := dst, op := op, type := ty, pos := pos, after := after, guard := guard }).run P w = .ok .skip w')
    (hS : S w') (hn : S w' → wpAnyH P md ops Q S fuel (listed.setIfInBounds i true) (a.put dst undef) w') : wpAnyH P md ops Q S (fuel + 1) listed a w :=
  wpAnyH_ready hr (by simp) (AllReadyH.cons hi (fun K hK => by
    rw [if_pos hw]
    unfold Oper.wp
    rw [hrun]
    exact hK.out _ _ hS hn) AllReadyH.nil)

/-! ## a region whose last operation, number t, waits for all others: behind it nothing need hold -/

section
variable {P : Program} {ops : Array Oper} {Q : Exit → Act → World → Prop} {md : Region.Mode} {S : World → Prop} {t : Nat}

def wpAnyT (P : Program) (md : Region.Mode) (ops : Array Oper) (Q : Exit → Act → World → Prop) (S : World → Prop) (t : Nat) : Nat → Array Bool → Act → World → Prop
  | 0, listed, a, w => Region.ready md ops listed = [] ∧ Q .normal a w
  | fuel + 1, listed, a, w =>
    (Region.ready md ops listed = [] → Q .normal a w) ∧
    ∀ i ∈ Region.ready md ops listed, wpOp P ops Q i (fun a' w' => (i ≠ t → S w') ∧ wpAnyT P md ops Q S t fuel (listed.setIfInBounds i true) a' w') a w

theorem any_of_T : ∀ (fuel : Nat) (listed : Array Bool) (a : Act) (w : World), wpAnyT P md ops Q S t fuel listed a w → wpAny P md ops Q fuel listed a w
  | 0, _, _, _, h => h
  | fuel + 1, _, _, _, h => ⟨h.1, fun i hi => wpOp_mono (fun a' w' h' => any_of_T fuel _ a' w' h'.2) (h.2 i hi)⟩

def waitsFor (md : Region.Mode) (ops : Array Oper) (t i : Nat) : Bool := i != t && (match ops[t]? with | some o => o.after.any (fun e => Region.binds md e && e.on == i) | none => true)

theorem anyT_first {i : Nat} {oi : Oper} {v : Value} (hi : ops[i]? = some oi) (hsel : ∀ (j : Nat) (o : Oper) cs b, ops[j]? = some o → o.op ≠ .select cs b)
    (hQ : ∀ c a w, Q (.panic c) (a.put oi.dst v) w → Q (.panic c) a w) (hwt : waitsFor md ops t i = true) :
    ∀ (fuel : Nat) (listed : Array Bool) (a : Act) (w : World),
      (∀ j oj, ops[j]? = some oj → j ≠ i → listed.getD j true = false → (∀ e ∈ oj.after, Region.binds md e = true → e.on ≠ i) → oi.apart ops oj = true) →
      i ∈ Region.ready md ops listed → YieldsIf P ops S oi v a → S w →
      wpAnyT P md ops Q S t fuel (listed.setIfInBounds i true) (a.put oi.dst v) w → wpAnyT P md ops Q S t (fuel + 1) listed a w := by
  intro fuel
  induction fuel with
  | zero =>
    intro listed a w _ hr hy hS H
    refine ⟨fun h => (by rw [h] at hr; cases hr), fun j hj => ?_⟩
    by_cases hji : j = i
    · subst hji; exact hy.wpOp hi hS ⟨fun _ => hS, H⟩
    · have := ready_mono hj hji
      rw [H.1] at this
      cases this
  | succ fuel ih =>
    intro listed a w hfree hr hy hS H
    refine ⟨fun h => (by rw [h] at hr; cases hr), fun j hj => ?_⟩
    by_cases hji : j = i
    · subst hji; exact hy.wpOp hi hS ⟨fun _ => hS, H⟩
    · have h1 := H.2 j (ready_mono hj hji)
      obtain ⟨hjun, oj, hoj, hall⟩ := mem_ready.1 hj
      have hnot : ∀ e ∈ oj.after, Region.binds md e = true → e.on ≠ i := fun e he hb heq => by
        have h1 := hall e he hb
        have h0 := (mem_ready.1 hr).1
        rw [heq] at h1
        rcases Nat.lt_or_ge i listed.size with h' | h'
        · simp [h'] at h0 h1; rw [h0] at h1; cases h1
        · simp [Array.getElem?_eq_none h'] at h1
      have hjt : j ≠ t := fun e => by
        subst e
        unfold waitsFor at hwt
        rw [hoj] at hwt
        simp only [Bool.and_eq_true] at hwt
        obtain ⟨e, he, hb⟩ := Array.any_eq_true'.1 hwt.2
        simp only [Bool.and_eq_true, beq_iff_eq] at hb
        exact hnot e he hb.1 hb.2
      have h2 := wpOp_putIf hoj (hfree j oj hoj hji hjun hnot) (fun cs b => hsel i oi cs b hi) (fun cs b => hsel j oj cs b hoj) hQ hy h1
      have hfree' : ∀ k ok, ops[k]? = some ok → k ≠ i → (listed.setIfInBounds j true).getD k true = false →
          (∀ e ∈ ok.after, Region.binds md e = true → e.on ≠ i) → oi.apart ops ok = true := fun k ok hk hki hun hno => by
        refine hfree k ok hk hki ?_ hno
        by_cases hjk : j = k
        · subst hjk; exact hjun
        · rw [getD_set_ne true hjk] at hun; exact hun
      refine wpOp_mono (fun a' w' h3 => ⟨h3.2.1, ih (listed.setIfInBounds j true) a' w' hfree' (ready_mono hr (Ne.symm hji)) h3.1 (h3.2.1 hjt) ?_⟩) h2
      rw [Array.setIfInBounds_comm _ _ hji]
      exact h3.2.2
end

section
variable {P : Program} {md : Region.Mode} {ops : Array Oper} {Q : Exit → Act → World → Prop} {S : World → Prop} {t : Nat} {dst : Option Tmp} {op : Op} {ty : TypeId} {pos : String} {after : Array Edge} {guard : Option (Nat × Bool)}

theorem take_t (i : Nat) (v : Value) {fuel : Nat} {listed : Array Bool} {a : Act} {w : World}
    (hi : ops[i]? = some { dst := dst, op := op, type := ty, pos := pos, after := after, guard := guard }) (hs : Region.noSelect ops = true) (hf : Region.free md ops listed i = true) (hr : (Region.ready md ops listed).contains i = true) (hwt : waitsFor md ops t i = true)
    (hQ : ∀ c a w, Q (.panic c) (a.put dst v) w → Q (.panic c) a w) (hy : YieldsIf P ops S { dst := dst, op := op, type := ty, pos := pos, after := after, guard := guard } v a) (hS : S w)
    (h : wpAnyT P md ops Q S t fuel (listed.setIfInBounds i true) (a.put dst v) w) : wpAnyT P md ops Q S t (fuel + 1) listed a w :=
  anyT_first hi (Region.noSelect_spec hs) hQ hwt fuel listed a w (Region.free_spec hi hf) (by simpa using hr) hy hS h

theorem readyT_one {i : Nat} {fuel : Nat} {listed : Array Bool} {a : Act} {w : World} (hr : Region.ready md ops listed = [i]) (h : wpOp P ops Q i (fun a' w' => (i ≠ t → S w') ∧ wpAnyT P md ops Q S t fuel (listed.setIfInBounds i true) a' w') a w) : wpAnyT P md ops Q S t (fuel + 1) listed a w :=
  ⟨fun h0 => (by rw [hr] at h0; cases h0), fun j hj => (by rw [hr] at hj; obtain rfl : j = i := (by simpa using hj); exact h)⟩

theorem call_t (i : Nat) {fuel : Nat} {listed : Array Bool} {a : Act} {w : World}
    (hi : ops[i]? = some { dst := dst, op := op, type := ty, pos := pos, after := after, guard := guard }) (hr : Region.ready md ops listed = [i]) (f : FuncId) (args : Array Value)
    (hw : Region.wanted { dst := dst, op := op, type := ty, pos := pos, after := after, guard := guard } (yielded ops a.tmps) = true)
    (hrun : (execOp a.eval { dst := dst, op := op, type := ty, pos := pos, after := after, guard := guard }).run P w = .ok (.enter f args) w)
    (hc : Calls P f args w fun e w' => ∃ v, e = .returned v ∧ S w' ∧ (S w' → wpAnyT P md ops Q S t fuel (listed.setIfInBounds i true) (a.put dst v) w')) : wpAnyT P md ops Q S t (fuel + 1) listed a w :=
  readyT_one hr (wpOp_step hi (fun K hK => by
    rw [if_pos hw]
    unfold Oper.wp
    rw [hrun, Oper.upon_enter]
    refine hc.mono ?_
    rintro e w' ⟨v, rfl, hS, hn⟩
    exact hK _ _ ⟨fun _ => hS, hn hS⟩))

theorem oper_t (i : Nat) {fuel : Nat} {listed : Array Bool} {a : Act} {w : World} (v : Value) (w' : World)
    (hi : ops[i]? = some { dst := dst, op := op, type := ty, pos := pos, after := after, guard := guard }) (hr : Region.ready md ops listed = [i])
    (hw : Region.wanted { dst := dst, op := op, type := ty, pos := pos, after := after, guard := guard } (yielded ops a.tmps) = true)
    (hrun : (execOp a.eval { dst := dst, op := op, type := ty, pos := pos, after := after, guard := guard }).run P w = .ok (.value v) w')
    (hS : S w') (hn : S w' → wpAnyT P md ops Q S t fuel (listed.setIfInBounds i true) (a.put dst v) w') : wpAnyT P md ops Q S t (fuel + 1) listed a w :=
  readyT_one hr (wpOp_step hi (fun K hK => by
    rw [if_pos hw]
    unfold Oper.wp
    rw [hrun]
    exact hK _ _ ⟨fun _ => hS, hn hS⟩))

/-- the last one: a store -/
theorem last_t {fuel : Nat} {listed : Array Bool} {a : Act} {w : World} (w' : World)
    (hi : ops[t]? = some { dst := dst, op := op, type := ty, pos := pos, after := after, guard := guard }) (hr : Region.ready md ops listed = [t]) (hr' : Region.ready md ops (listed.setIfInBounds t true) = [])
    (hw : Region.wanted { dst := dst, op := op, type := ty, pos := pos, after := after, guard := guard } (yielded ops a.tmps) = true)
    (hrun : (execOp a.eval { dst := dst, op := op, type := ty, pos := pos, after := after, guard := guard }).run P w = .ok .skip w')
    (hn : Q .normal (a.put dst undef) w') : wpAnyT P md ops Q S t (fuel + 1) listed a w :=
  readyT_one hr (wpOp_step hi (fun K hK => by
    rw [if_pos hw]
    unfold Oper.wp
    rw [hrun]
    refine hK _ _ ⟨fun h => absurd rfl h, ?_⟩
    cases fuel with
    | zero => exact ⟨hr', hn⟩
    | succ n => exact ⟨fun _ => hn, by rw [hr']; simp⟩))

theorem wp_region_heldT (t : Nat) {id : Nat} {a : Act} {w : World} (hm : P.follows .mixedOrders = true) (hS : S w.drew)
    (h : S w.drew → wpAnyT P .any ops Q S t ops.size (Array.replicate ops.size false) a w.drew) : (Code.region id ops true).wp P Q a w :=
  wp_region_any hm (any_of_T _ _ _ _ (h hS))
end
end Frk
