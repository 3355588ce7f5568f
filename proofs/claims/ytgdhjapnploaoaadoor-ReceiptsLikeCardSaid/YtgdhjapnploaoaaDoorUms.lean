/- elgamal: what seals a cipher again; Seal. -/
import Derived.Test.YtgdhjapnploaoaaDoorEal
import Derived.OrdersIn
import Derived.Deep.RegionHeld
import Derived.Deep.MidRow
namespace Frk
open Go Go.RowKit Go.Proofs
set_option maxRecDepth 100000

section
variable {P : Program} {ops : Array Oper} {Q : Exit → Act → World → Prop} {md : Region.Mode} {S : World → Prop} {t : Nat}

def wpAnyU (P : Program) (md : Region.Mode) (ops : Array Oper) (Q : Exit → Act → World → Prop) (S : World → Prop) (t : Nat) : Nat → Array Bool → Act → World → Prop
  | 0, listed, a, w => Region.ready md ops listed = [] ∧ Q .normal a w
  | fuel + 1, listed, a, w =>
    (Region.ready md ops listed = [] → Q .normal a w) ∧
    ∀ i ∈ Region.ready md ops listed, wpOp P ops Q i (fun a' w' => ((listed.setIfInBounds i true).getD t true = false → S w') ∧ wpAnyU P md ops Q S t fuel (listed.setIfInBounds i true) a' w') a w

theorem any_of_U : ∀ (fuel : Nat) (listed : Array Bool) (a : Act) (w : World), wpAnyU P md ops Q S t fuel listed a w → wpAny P md ops Q fuel listed a w
  | 0, _, _, _, h => h
  | fuel + 1, _, _, _, h => ⟨h.1, fun i hi => wpOp_mono (fun a' w' h' => any_of_U fuel _ a' w' h'.2) (h.2 i hi)⟩

theorem anyU_first {i : Nat} {oi : Oper} {v : Value} (hi : ops[i]? = some oi) (hsel : ∀ (j : Nat) (o : Oper) cs b, ops[j]? = some o → o.op ≠ .select cs b)
    (hQ : ∀ c a w, Q (.panic c) (a.put oi.dst v) w → Q (.panic c) a w) (hwt : waitsFor md ops t i = true) :
    ∀ (fuel : Nat) (listed : Array Bool) (a : Act) (w : World), listed.getD t true = false →
      (∀ j oj, ops[j]? = some oj → j ≠ i → listed.getD j true = false → (∀ e ∈ oj.after, Region.binds md e = true → e.on ≠ i) → oi.apart ops oj = true) →
      i ∈ Region.ready md ops listed → YieldsIf P ops S oi v a → S w →
      wpAnyU P md ops Q S t fuel (listed.setIfInBounds i true) (a.put oi.dst v) w → wpAnyU P md ops Q S t (fuel + 1) listed a w := by
  intro fuel
  induction fuel with
  | zero =>
    intro listed a w _ _ hr hy hS H
    refine ⟨fun h => (by rw [h] at hr; cases hr), fun j hj => ?_⟩
    by_cases hji : j = i
    · subst hji; exact hy.wpOp hi hS ⟨fun _ => hS, H⟩
    · have := ready_mono hj hji
      rw [H.1] at this
      cases this
  | succ fuel ih =>
    intro listed a w ht hfree hr hy hS H
    refine ⟨fun h => (by rw [h] at hr; cases hr), fun j hj => ?_⟩
    by_cases hji : j = i
    · subst hji; exact hy.wpOp hi hS ⟨fun _ => hS, H⟩
    · have h1 := H.2 j (ready_mono hj hji)
      obtain ⟨hjun, oj, hoj, hall⟩ := mem_ready.1 hj
      have hnot : ∀ e ∈ oj.after, Region.binds md e = true → e.on ≠ i := fun e he hb heq => by
        have h1 := hall e he hb
        have h0 := (mem_ready.1 hr).1
        rw [heq] at h1
        rcases Nat.lt_or_ge i listed.size with h' | h'
        · simp [h'] at h0 h1; rw [h0] at h1; cases h1
        · simp [Array.getElem?_eq_none h'] at h1
      have hjt : j ≠ t := fun e => by
        subst e
        unfold waitsFor at hwt
        rw [hoj] at hwt
        simp only [Bool.and_eq_true] at hwt
        obtain ⟨e, he, hb⟩ := Array.any_eq_true'.1 hwt.2
        simp only [Bool.and_eq_true, beq_iff_eq] at hb
        exact hnot e he hb.1 hb.2
      have h2 := wpOp_putIf hoj (hfree j oj hoj hji hjun hnot) (fun cs b => hsel i oi cs b hi) (fun cs b => hsel j oj cs b hoj) hQ hy h1
      have hfree' : ∀ k ok, ops[k]? = some ok → k ≠ i → (listed.setIfInBounds j true).getD k true = false →
          (∀ e ∈ ok.after, Region.binds md e = true → e.on ≠ i) → oi.apart ops ok = true := fun k ok hk hki hun hno => by
        refine hfree k ok hk hki ?_ hno
        by_cases hjk : j = k
        · subst hjk; exact hjun
        · rw [getD_set_ne true hjk] at hun; exact hun
      have hit : i ≠ t := fun e => by
        subst e
        unfold waitsFor at hwt
        simp at hwt
      have hset : ((listed.setIfInBounds i true).setIfInBounds j true).getD t true = false := by
        rw [getD_set_ne true hjt, getD_set_ne true hit]; exact ht
      refine wpOp_mono (fun a' w' h3 => ⟨fun _ => h3.2.1 hset, ih (listed.setIfInBounds j true) a' w' (by rw [getD_set_ne true hjt]; exact ht) hfree' (ready_mono hr (Ne.symm hji)) h3.1 (h3.2.1 hset) ?_⟩) h2
      rw [Array.setIfInBounds_comm _ _ hji]
      exact h3.2.2
theorem anyU_first2 {i m : Nat} {oi : Oper} {v : Value} (hi : ops[i]? = some oi) (hsel : ∀ (j : Nat) (o : Oper) cs b, ops[j]? = some o → o.op ≠ .select cs b)
    (hQ : ∀ c a w, Q (.panic c) (a.put oi.dst v) w → Q (.panic c) a w) (hwt1 : waitsFor md ops t m = true) (hwt : waitsFor md ops m i = true) (hit : i ≠ t) :
    ∀ (fuel : Nat) (listed : Array Bool) (a : Act) (w : World), listed.getD t true = false → listed.getD m true = false →
      (∀ j oj, ops[j]? = some oj → j ≠ i → listed.getD j true = false → (∀ e ∈ oj.after, Region.binds md e = true → e.on ≠ i) → oi.apart ops oj = true) →
      i ∈ Region.ready md ops listed → YieldsIf P ops S oi v a → S w →
      wpAnyU P md ops Q S t fuel (listed.setIfInBounds i true) (a.put oi.dst v) w → wpAnyU P md ops Q S t (fuel + 1) listed a w := by
  intro fuel
  induction fuel with
  | zero =>
    intro listed a w _ _ _ hr hy hS H
    refine ⟨fun h => (by rw [h] at hr; cases hr), fun j hj => ?_⟩
    by_cases hji : j = i
    · subst hji; exact hy.wpOp hi hS ⟨fun _ => hS, H⟩
    · have := ready_mono hj hji
      rw [H.1] at this
      cases this
  | succ fuel ih =>
    intro listed a w ht hm hfree hr hy hS H
    refine ⟨fun h => (by rw [h] at hr; cases hr), fun j hj => ?_⟩
    by_cases hji : j = i
    · subst hji; exact hy.wpOp hi hS ⟨fun _ => hS, H⟩
    · have h1 := H.2 j (ready_mono hj hji)
      obtain ⟨hjun, oj, hoj, hall⟩ := mem_ready.1 hj
      have hnot : ∀ e ∈ oj.after, Region.binds md e = true → e.on ≠ i := fun e he hb heq => by
        have h1 := hall e he hb
        have h0 := (mem_ready.1 hr).1
        rw [heq] at h1
        rcases Nat.lt_or_ge i listed.size with h' | h'
        · simp [h'] at h0 h1; rw [h0] at h1; cases h1
        · simp [Array.getElem?_eq_none h'] at h1
      have hjm : j ≠ m := fun e => by
        subst e
        unfold waitsFor at hwt
        rw [hoj] at hwt
        simp only [Bool.and_eq_true] at hwt
        obtain ⟨e, he, hb⟩ := Array.any_eq_true'.1 hwt.2
        simp only [Bool.and_eq_true, beq_iff_eq] at hb
        exact hnot e he hb.1 hb.2
      have h2 := wpOp_putIf hoj (hfree j oj hoj hji hjun hnot) (fun cs b => hsel i oi cs b hi) (fun cs b => hsel j oj cs b hoj) hQ hy h1
      have hfree' : ∀ k ok, ops[k]? = some ok → k ≠ i → (listed.setIfInBounds j true).getD k true = false →
          (∀ e ∈ ok.after, Region.binds md e = true → e.on ≠ i) → oi.apart ops ok = true := fun k ok hk hki hun hno => by
        refine hfree k ok hk hki ?_ hno
        by_cases hjk : j = k
        · subst hjk; exact hjun
        · rw [getD_set_ne true hjk] at hun; exact hun
      have hjt : j ≠ t := fun e => by
        subst e
        unfold waitsFor at hwt1
        rw [hoj] at hwt1
        simp only [Bool.and_eq_true] at hwt1
        obtain ⟨e, he, hb⟩ := Array.any_eq_true'.1 hwt1.2
        simp only [Bool.and_eq_true, beq_iff_eq] at hb
        have h1 := hall e he hb.1
        rw [hb.2] at h1
        rcases Nat.lt_or_ge m listed.size with h' | h'
        · simp [h'] at hm h1; rw [hm] at h1; cases h1
        · simp [Array.getElem?_eq_none h'] at h1
      have hset : ((listed.setIfInBounds i true).setIfInBounds j true).getD t true = false := by
        rw [getD_set_ne true hjt, getD_set_ne true hit]; exact ht
      refine wpOp_mono (fun a' w' h3 => ⟨fun _ => h3.2.1 hset, ih (listed.setIfInBounds j true) a' w' (by rw [getD_set_ne true hjt]; exact ht) (by rw [getD_set_ne true hjm]; exact hm) hfree' (ready_mono hr (Ne.symm hji)) h3.1 (h3.2.1 hset) ?_⟩) h2
      rw [Array.setIfInBounds_comm _ _ hji]
      exact h3.2.2
end

section
variable {P : Program} {md : Region.Mode} {ops : Array Oper} {Q : Exit → Act → World → Prop} {S : World → Prop} {t : Nat} {dst : Option Tmp} {op : Op} {ty : TypeId} {pos : String} {after : Array Edge} {guard : Option (Nat × Bool)}

theorem take_u (i : Nat) (v : Value) {fuel : Nat} {listed : Array Bool} {a : Act} {w : World}
    (hi : ops[i]? = some { dst := dst, op := op, type := ty, pos := pos, after := after, guard := guard }) (hs : Region.noSelect ops = true) (hf : Region.free md ops listed i = true) (hr : (Region.ready md ops listed).contains i = true) (hwt : waitsFor md ops t i = true) (ht : listed.getD t true = false)
    (hQ : ∀ c a w, Q (.panic c) (a.put dst v) w → Q (.panic c) a w) (hy : YieldsIf P ops S { dst := dst, op := op, type := ty, pos := pos, after := after, guard := guard } v a) (hS : S w)
    (h : wpAnyU P md ops Q S t fuel (listed.setIfInBounds i true) (a.put dst v) w) : wpAnyU P md ops Q S t (fuel + 1) listed a w :=
  anyU_first hi (Region.noSelect_spec hs) hQ hwt fuel listed a w ht (Region.free_spec hi hf) (by simpa using hr) hy hS h

theorem take_u2 (i m : Nat) (v : Value) {fuel : Nat} {listed : Array Bool} {a : Act} {w : World}
    (hi : ops[i]? = some { dst := dst, op := op, type := ty, pos := pos, after := after, guard := guard }) (hs : Region.noSelect ops = true) (hf : Region.free md ops listed i = true) (hr : (Region.ready md ops listed).contains i = true) (hwt1 : waitsFor md ops t m = true) (hwt : waitsFor md ops m i = true) (hit : decide (i = t) = false) (ht : listed.getD t true = false) (hm : listed.getD m true = false)
    (hQ : ∀ c a w, Q (.panic c) (a.put dst v) w → Q (.panic c) a w) (hy : YieldsIf P ops S { dst := dst, op := op, type := ty, pos := pos, after := after, guard := guard } v a) (hS : S w)
    (h : wpAnyU P md ops Q S t fuel (listed.setIfInBounds i true) (a.put dst v) w) : wpAnyU P md ops Q S t (fuel + 1) listed a w :=
  anyU_first2 hi (Region.noSelect_spec hs) hQ hwt1 hwt (of_decide_eq_false hit) fuel listed a w ht hm (Region.free_spec hi hf) (by simpa using hr) hy hS h

theorem readyU_one {i : Nat} {fuel : Nat} {listed : Array Bool} {a : Act} {w : World} (hr : Region.ready md ops listed = [i]) (h : wpOp P ops Q i (fun a' w' => ((listed.setIfInBounds i true).getD t true = false → S w') ∧ wpAnyU P md ops Q S t fuel (listed.setIfInBounds i true) a' w') a w) : wpAnyU P md ops Q S t (fuel + 1) listed a w :=
  ⟨fun h0 => (by rw [hr] at h0; cases h0), fun j hj => (by rw [hr] at hj; obtain rfl : j = i := (by simpa using hj); exact h)⟩

/-- a call before the one that nothing outlives -/
theorem call_u (i : Nat) {fuel : Nat} {listed : Array Bool} {a : Act} {w : World}
    (hi : ops[i]? = some { dst := dst, op := op, type := ty, pos := pos, after := after, guard := guard }) (hr : Region.ready md ops listed = [i]) (f : FuncId) (args : Array Value)
    (hw : Region.wanted { dst := dst, op := op, type := ty, pos := pos, after := after, guard := guard } (yielded ops a.tmps) = true)
    (hrun : (execOp a.eval { dst := dst, op := op, type := ty, pos := pos, after := after, guard := guard }).run P w = .ok (.enter f args) w)
    (hc : Calls P f args w fun e w' => ∃ v, e = .returned v ∧ S w' ∧ (S w' → wpAnyU P md ops Q S t fuel (listed.setIfInBounds i true) (a.put dst v) w')) : wpAnyU P md ops Q S t (fuel + 1) listed a w :=
  readyU_one hr (wpOp_step hi (fun K hK => by
    rw [if_pos hw]
    unfold Oper.wp
    rw [hrun, Oper.upon_enter]
    refine hc.mono ?_
    rintro e w' ⟨v, rfl, hS, hn⟩
    exact hK _ _ ⟨fun _ => hS, hn hS⟩))

theorem wp_region_heldU (t : Nat) {id : Nat} {a : Act} {w : World} (hm : P.follows .mixedOrders = true) (hS : S w.drew)
    (h : S w.drew → wpAnyU P .any ops Q S t ops.size (Array.replicate ops.size false) a w.drew) : (Code.region id ops true).wp P Q a w :=
  wp_region_any hm (any_of_U _ _ _ _ (h hS))
end

section
variable {P : Program} {md : Region.Mode} {ops : Array Oper} {Q : Exit → Act → World → Prop} {S S' : World → Prop} {t : Nat} {dst : Option Tmp} {op : Op} {ty : TypeId} {pos : String} {after : Array Edge} {guard : Option (Nat × Bool)}

/-- behind number t another word may be kept -/
theorem anyU_of_H : ∀ (fuel : Nat) (listed : Array Bool) (a : Act) (w : World), listed.getD t true = true → wpAnyH P md ops Q S' fuel listed a w → wpAnyU P md ops Q S t fuel listed a w
  | 0, _, _, _, _, h => h
  | fuel + 1, listed, a, w, ht, h => ⟨h.1, fun i hi => wpOp_mono (fun a' w' h' => by
      have hs : (listed.setIfInBounds i true).getD t true = true := by
        by_cases hit : i = t
        · subst hit
          rcases Nat.lt_or_ge i listed.size with h1 | h1
          · simp [h1]
          · simp [h1]
        · rw [getD_set_ne true hit]; exact ht
      exact ⟨fun hf => (by rw [hs] at hf; cases hf), anyU_of_H fuel _ a' w' hs h'.2⟩) (h.2 i hi)⟩

/-- an operation that yields a value and may make memory -/
theorem oper_u (i : Nat) {fuel : Nat} {listed : Array Bool} {a : Act} {w : World} (v : Value) (w' : World)
    (hi : ops[i]? = some { dst := dst, op := op, type := ty, pos := pos, after := after, guard := guard }) (hr : Region.ready md ops listed = [i])
    (hw : Region.wanted { dst := dst, op := op, type := ty, pos := pos, after := after, guard := guard } (yielded ops a.tmps) = true)
    (hrun : (execOp a.eval { dst := dst, op := op, type := ty, pos := pos, after := after, guard := guard }).run P w = .ok (.value v) w')
    (hS : (listed.setIfInBounds i true).getD t true = false → S w') (hn : wpAnyU P md ops Q S t fuel (listed.setIfInBounds i true) (a.put dst v) w') : wpAnyU P md ops Q S t (fuel + 1) listed a w :=
  readyU_one hr (wpOp_step hi (fun K hK => by
    rw [if_pos hw]
    unfold Oper.wp
    rw [hrun]
    exact hK _ _ ⟨hS, hn⟩))

end

section
variable {P : Program} {md : Region.Mode} {ops : Array Oper} {Q : Exit → Act → World → Prop} {S : World → Prop} {t : Nat}
/-- what yields in whatever world may come first -/
theorem anyU_pure {i : Nat} {oi : Oper} {v : Value} (hi : ops[i]? = some oi) (hsel : ∀ (j : Nat) (o : Oper) cs b, ops[j]? = some o → o.op ≠ .select cs b)
    (hQ : ∀ c a w, Q (.panic c) (a.put oi.dst v) w → Q (.panic c) a w) (hit : i ≠ t) :
    ∀ (fuel : Nat) (listed : Array Bool) (a : Act) (w : World),
      (∀ j oj, ops[j]? = some oj → j ≠ i → listed.getD j true = false → (∀ e ∈ oj.after, Region.binds md e = true → e.on ≠ i) → oi.apart ops oj = true) →
      i ∈ Region.ready md ops listed → YieldsIf P ops (fun _ => True) oi v a → (listed.getD t true = false → S w) →
      wpAnyU P md ops Q S t fuel (listed.setIfInBounds i true) (a.put oi.dst v) w → wpAnyU P md ops Q S t (fuel + 1) listed a w := by
  intro fuel
  have hget : ∀ l : Array Bool, (l.setIfInBounds i true).getD t true = l.getD t true := fun l => getD_set_ne true hit
  induction fuel with
  | zero =>
    intro listed a w _ hr hy hS H
    refine ⟨fun h => (by rw [h] at hr; cases hr), fun j hj => ?_⟩
    by_cases hji : j = i
    · subst hji; exact hy.wpOp hi trivial ⟨fun h => hS (by rw [hget] at h; exact h), H⟩
    · have := ready_mono hj hji
      rw [H.1] at this
      cases this
  | succ fuel ih =>
    intro listed a w hfree hr hy hS H
    refine ⟨fun h => (by rw [h] at hr; cases hr), fun j hj => ?_⟩
    by_cases hji : j = i
    · subst hji; exact hy.wpOp hi trivial ⟨fun h => hS (by rw [hget] at h; exact h), H⟩
    · have h1 := H.2 j (ready_mono hj hji)
      obtain ⟨hjun, oj, hoj, hall⟩ := mem_ready.1 hj
      have hnot : ∀ e ∈ oj.after, Region.binds md e = true → e.on ≠ i := fun e he hb heq => by
        have h1 := hall e he hb
        have h0 := (mem_ready.1 hr).1
        rw [heq] at h1
        rcases Nat.lt_or_ge i listed.size with h' | h'
        · simp [h'] at h0 h1; rw [h0] at h1; cases h1
        · simp [Array.getElem?_eq_none h'] at h1
      have h2 := wpOp_putIf hoj (hfree j oj hoj hji hjun hnot) (fun cs b => hsel i oi cs b hi) (fun cs b => hsel j oj cs b hoj) hQ hy h1
      have hfree' : ∀ k ok, ops[k]? = some ok → k ≠ i → (listed.setIfInBounds j true).getD k true = false →
          (∀ e ∈ ok.after, Region.binds md e = true → e.on ≠ i) → oi.apart ops ok = true := fun k ok hk hki hun hno => by
        refine hfree k ok hk hki ?_ hno
        by_cases hjk : j = k
        · subst hjk; exact hjun
        · rw [getD_set_ne true hjk] at hun; exact hun
      have hcm : (listed.setIfInBounds i true).setIfInBounds j true = (listed.setIfInBounds j true).setIfInBounds i true := Array.setIfInBounds_comm _ _ (Ne.symm hji)
      refine wpOp_mono (fun a' w' h3 => ?_) h2
      have h4 := h3.2
      rw [hcm] at h4
      have hS' : (listed.setIfInBounds j true).getD t true = false → S w' := fun h => h4.1 (by rw [hget]; exact h)
      exact ⟨hS', ih (listed.setIfInBounds j true) a' w' hfree' (ready_mono hr (Ne.symm hji)) h3.1 hS' h4.2⟩

variable {dst : Option Tmp} {op : Op} {ty : TypeId} {pos : String} {after : Array Edge} {guard : Option (Nat × Bool)}
theorem take_p (i : Nat) (v : Value) {fuel : Nat} {listed : Array Bool} {a : Act} {w : World}
    (hi : ops[i]? = some { dst := dst, op := op, type := ty, pos := pos, after := after, guard := guard }) (hs : Region.noSelect ops = true) (hf : Region.free md ops listed i = true) (hr : (Region.ready md ops listed).contains i = true) (hit : decide (i = t) = false)
    (hQ : ∀ c a w, Q (.panic c) (a.put dst v) w → Q (.panic c) a w) (hy : YieldsIf P ops (fun _ => True) { dst := dst, op := op, type := ty, pos := pos, after := after, guard := guard } v a) (hS : listed.getD t true = false → S w)
    (h : wpAnyU P md ops Q S t fuel (listed.setIfInBounds i true) (a.put dst v) w) : wpAnyU P md ops Q S t (fuel + 1) listed a w :=
  anyU_pure hi (Region.noSelect_spec hs) hQ (of_decide_eq_false hit) fuel listed a w (Region.free_spec hi hf) (by simpa using hr) hy hS h

/-- the store from which on nothing need hold -/
theorem skip_at_u (i : Nat) {fuel : Nat} {listed : Array Bool} {a : Act} {w : World} (w' : World)
    (hi : ops[i]? = some { dst := dst, op := op, type := ty, pos := pos, after := after, guard := guard }) (hr : Region.ready md ops listed = [i]) (ht : (listed.setIfInBounds i true).getD t true = true)
    (hw : Region.wanted { dst := dst, op := op, type := ty, pos := pos, after := after, guard := guard } (yielded ops a.tmps) = true)
    (hrun : (execOp a.eval { dst := dst, op := op, type := ty, pos := pos, after := after, guard := guard }).run P w = .ok .skip w')
    (hn : wpAnyU P md ops Q S t fuel (listed.setIfInBounds i true) (a.put dst undef) w') : wpAnyU P md ops Q S t (fuel + 1) listed a w :=
  readyU_one hr (wpOp_step hi (fun K hK => by
    rw [if_pos hw]
    unfold Oper.wp
    rw [hrun]
    exact hK _ _ ⟨fun h => (by rw [ht] at h; cases h), hn⟩))
end

section
attribute [local go_sem] Oper.semAt_some

/-- what Seal does to a cipher -/
def onP (K r : Int) (p : Int × Int) : Int × Int := (((mp p.1.toNat (pw 4 r) : Nat) : Int), ((mp p.2.toNat (pw K.toNat r) : Nat) : Int))
theorem onP_ok {K r : Int} {p : Int × Int} (hK : vd K = true) (h : vd p.1 = true ∧ vd p.2 = true) : vd (onP K r p).1 = true ∧ vd (onP K r p).2 = true := by
  obtain ⟨A, hA, vA⟩ := vd_of_vd h.1
  obtain ⟨D, hD, vD⟩ := vd_of_vd h.2
  obtain ⟨k, hk, vk⟩ := vd_of_vd hK
  constructor
  · show vd ((mp p.1.toNat (pw 4 r) : Nat) : Int) = true
    rw [hA, Int.toNat_natCast]
    exact (vd_iff _).2 (vA.mp (vd4.pw _))
  · show vd ((mp p.2.toNat (pw K.toNat r) : Nat) : Int) = true
    rw [hD, hk, Int.toNat_natCast, Int.toNat_natCast]
    exact (vd_iff _).2 (vD.mp (vk.pw _))

set_option maxHeartbeats 4000000 in
theorem more1_at0 (A D K r X Y : Int) (g k rb kb : Nat) (cur : List Value) (w : World) (hg : w.heap[g]? = some (.cells cur.toArray 32 (0, 0))) (hA : cur[k]? = some (.int .i64 A)) (hD : cur[k + 1]? = some (.int .i64 D)) (hr : w.cell? ⟨rb, 0, none⟩ = some (.int .i64 r)) (hk : w.cell? ⟨kb, 0, none⟩ = some (.int .i64 K)) (vA : vd A = true) (vD : vd D = true) (vK : vd K = true) (ir : I64 r)
    (hX : Seal ((onP K r (A, D)) = (X, Y))) :
    Calls Tryd.prog 85 #[.int .i64 0, .pointer (some ⟨g, k, none⟩), .pointer (some ⟨rb, 0, none⟩), .pointer (some ⟨kb, 0, none⟩)] w fun e w' => e = .returned (.tuple #[]) ∧ w.grownBy w' (some g) ∧ w'.heap[g]? = some (.cells ((cur.set k (.int .i64 X)).set (k + 1) (.int .i64 Y)).toArray 32 (0, 0)) := by
  have HP4 : Seal (∀ W, Calls Tryd.prog 55 #[.int .i64 4, .int .i64 r] W fun e w' => e = .returned (.int .i64 (pw 4 r : Nat)) ∧ Below W.heap.size W w') := ⟨fun W => epower_any 4 r W (by decide +kernel) ir.1 ir.2⟩
  have HPK : Seal (∀ W, Calls Tryd.prog 55 #[.int .i64 K, .int .i64 r] W fun e w' => e = .returned (.int .i64 (pw K.toNat r : Nat)) ∧ Below W.heap.size W w') := ⟨fun W => epower_any K r W vK ir.1 ir.2⟩
  obtain ⟨A', rfl, hA'⟩ := vd_of_vd vA
  obtain ⟨D', rfl, hD'⟩ := vd_of_vd vD
  have HAD : Seal (A' < 2147483579 ∧ D' < 2147483579) := ⟨hA'.2.1, hD'.2.1⟩
  obtain ⟨p, hp⟩ : ∃ p : Nat, p = pw 4 r := ⟨_, rfl⟩
  obtain ⟨q, hq⟩ : ∃ q : Nat, q = pw K.toNat r := ⟨_, rfl⟩
  have HPQ : Seal (p < 2147483579 ∧ q < 2147483579) := ⟨by rw [hp, hq]; exact ⟨pw_lt _ _, pw_lt _ _⟩⟩
  have HXe : Seal (((mp A' p : Nat) : Int) = X ∧ ((mp D' q : Nat) : Int) = Y) := ⟨by
    have := hX.out
    unfold onP at this
    simp only [Prod.mk.injEq, Int.toNat_natCast] at this
    rw [hp, hq]; exact this⟩
  rw [← hp] at HP4
  rw [← hq] at HPK
  have kA : w.cell? ⟨g, k, none⟩ = some (.int .i64 (A' : Int)) := by rw [cell_of_row _ _ _ _ _ _ hg]; simpa using hA
  have kD : w.cell? ⟨g, k + 1, none⟩ = some (.int .i64 (D' : Int)) := by rw [cell_of_row _ _ _ _ _ _ hg]; simpa using hD
  have HG := Seal.mk hg
  have HLk : Seal (k < cur.length) := ⟨by rw [List.getElem?_eq_some_iff] at hA; exact hA.1⟩
  have HDk := Seal.mk hD
  clear hg hA hD vA vD vK hA' hD' hp hq hX ir
  go_enter Tryd.func85, Tryd.ntmps85
  refine wp_region_heldU 25 (S := fun w' => w'.cell? ⟨g, k, none⟩ = some (.int .i64 (A' : Int)) ∧ w'.cell? ⟨g, k + 1, none⟩ = some (.int .i64 (D' : Int)) ∧ w'.cell? ⟨rb, 0, none⟩ = some (.int .i64 r) ∧ w'.cell? ⟨kb, 0, none⟩ = some (.int .i64 K)) (by kernel_rfl) ⟨kA, kD, hr, hk⟩ (fun hHeld => ?_)
  refine take_p 0 ?_ rfl (by kernel_rfl) (by kernel_rfl) (by kernel_rfl) (by kernel_rfl) (fun _ _ _ h => h) (Or.inl ⟨by kernel_rfl, ?_⟩) (fun _ => by assumption) ?_
  rotate_left
  · (intro w _; go_simp; try (with_reducible rfl))
  try simp only [Act.put, List.setIfInBounds_toArray, List.set_cons_zero, List.set_cons_succ]
  refine take_p 1 ?_ rfl (by kernel_rfl) (by kernel_rfl) (by kernel_rfl) (by kernel_rfl) (fun _ _ _ h => h) (Or.inl ⟨by kernel_rfl, ?_⟩) (fun _ => by assumption) ?_
  rotate_left
  · (intro w _; go_simp; try (with_reducible rfl))
  try simp only [Act.put, List.setIfInBounds_toArray, List.set_cons_zero, List.set_cons_succ]
  refine take_p 2 ?_ rfl (by kernel_rfl) (by kernel_rfl) (by kernel_rfl) (by kernel_rfl) (fun _ _ _ h => h) (Or.inl ⟨by kernel_rfl, ?_⟩) (fun _ => by assumption) ?_
  rotate_left
  · (intro w _; go_simp; try (with_reducible rfl))
  try simp only [Act.put, List.setIfInBounds_toArray, List.set_cons_zero, List.set_cons_succ]
  refine take_p 3 ?_ rfl (by kernel_rfl) (by kernel_rfl) (by kernel_rfl) (by kernel_rfl) (fun _ _ _ h => h) (Or.inl ⟨by kernel_rfl, ?_⟩) (fun _ => by assumption) ?_
  rotate_left
  · (intro w _; go_simp; try (with_reducible rfl))
  try simp only [Act.put, List.setIfInBounds_toArray, List.set_cons_zero, List.set_cons_succ]
  refine take_p 4 ?_ rfl (by kernel_rfl) (by kernel_rfl) (by kernel_rfl) (by kernel_rfl) (fun _ _ _ h => h) (Or.inl ⟨by kernel_rfl, ?_⟩) (fun _ => by assumption) ?_
  rotate_left
  · (intro w _; go_simp; try (with_reducible rfl))
  try simp only [Act.put, List.setIfInBounds_toArray, List.set_cons_zero, List.set_cons_succ]
  refine take_u 5 ?_ rfl (by kernel_rfl) (by kernel_rfl) (by kernel_rfl) (by kernel_rfl) (by kernel_rfl) (fun _ _ _ h => h) (Or.inl ⟨by kernel_rfl, ?_⟩) (by assumption) ?_
  rotate_left
  · (intro w hSw; (try dsimp only at hSw); go_simp; try (with_reducible rfl))
  try simp only [Act.put, List.setIfInBounds_toArray, List.set_cons_zero, List.set_cons_succ]
  refine take_p 6 ?_ rfl (by kernel_rfl) (by kernel_rfl) (by kernel_rfl) (by kernel_rfl) (fun _ _ _ h => h) (Or.inl ⟨by kernel_rfl, ?_⟩) (fun _ => by assumption) ?_
  rotate_left
  · (intro w _; go_simp; try (with_reducible rfl))
  try simp only [Act.put, List.setIfInBounds_toArray, List.set_cons_zero, List.set_cons_succ]
  refine take_p 7 ?_ rfl (by kernel_rfl) (by kernel_rfl) (by kernel_rfl) (by kernel_rfl) (fun _ _ _ h => h) (Or.inl ⟨by kernel_rfl, ?_⟩) (fun _ => by assumption) ?_
  rotate_left
  · (intro w _; go_simp; try (with_reducible rfl))
  try simp only [Act.put, List.setIfInBounds_toArray, List.set_cons_zero, List.set_cons_succ]
  refine take_u 8 ?_ rfl (by kernel_rfl) (by kernel_rfl) (by kernel_rfl) (by kernel_rfl) (by kernel_rfl) (fun _ _ _ h => h) (Or.inl ⟨by kernel_rfl, ?_⟩) (by assumption) ?_
  rotate_left
  · (intro w hSw; (try dsimp only at hSw); go_simp; try (with_reducible rfl))
  try simp only [Act.put, List.setIfInBounds_toArray, List.set_cons_zero, List.set_cons_succ]
  refine take_p 12 ?_ rfl (by kernel_rfl) (by kernel_rfl) (by kernel_rfl) (by kernel_rfl) (fun _ _ _ h => h) (Or.inl ⟨by kernel_rfl, ?_⟩) (fun _ => by assumption) ?_
  rotate_left
  · (intro w _; go_simp; try (with_reducible rfl))
  try simp only [Act.put, List.setIfInBounds_toArray, List.set_cons_zero, List.set_cons_succ]
  refine take_p 13 ?_ rfl (by kernel_rfl) (by kernel_rfl) (by kernel_rfl) (by kernel_rfl) (fun _ _ _ h => h) (Or.inl ⟨by kernel_rfl, ?_⟩) (fun _ => by assumption) ?_
  rotate_left
  · (intro w _; go_simp; try (with_reducible rfl))
  try simp only [Act.put, List.setIfInBounds_toArray, List.set_cons_zero, List.set_cons_succ]
  refine take_p 14 ?_ rfl (by kernel_rfl) (by kernel_rfl) (by kernel_rfl) (by kernel_rfl) (fun _ _ _ h => h) (Or.inl ⟨by kernel_rfl, ?_⟩) (fun _ => by assumption) ?_
  rotate_left
  · (intro w _; go_simp; try (with_reducible rfl))
  try simp only [Act.put, List.setIfInBounds_toArray, List.set_cons_zero, List.set_cons_succ]
  refine take_u 15 ?_ rfl (by kernel_rfl) (by kernel_rfl) (by kernel_rfl) (by kernel_rfl) (by kernel_rfl) (fun _ _ _ h => h) (Or.inl ⟨by kernel_rfl, ?_⟩) (by assumption) ?_
  rotate_left
  · (intro w hSw; (try dsimp only at hSw); go_simp; try (with_reducible rfl))
  try simp only [Act.put, List.setIfInBounds_toArray, List.set_cons_zero, List.set_cons_succ]
  refine take_u2 16 20 ?_ rfl (by kernel_rfl) (by kernel_rfl) (by kernel_rfl) (by kernel_rfl) (by kernel_rfl) (by kernel_rfl) (by kernel_rfl) (by kernel_rfl) (fun _ _ _ h => h) (Or.inl ⟨by kernel_rfl, ?_⟩) (by assumption) ?_
  rotate_left
  · (intro w hSw; (try dsimp only at hSw); go_simp; try (with_reducible rfl))
  try simp only [Act.put, List.setIfInBounds_toArray, List.set_cons_zero, List.set_cons_succ]
  refine take_p 17 ?_ rfl (by kernel_rfl) (by kernel_rfl) (by kernel_rfl) (by kernel_rfl) (fun _ _ _ h => h) (Or.inl ⟨by kernel_rfl, ?_⟩) (fun _ => by assumption) ?_
  rotate_left
  · (intro w _; go_simp; try (with_reducible rfl))
  try simp only [Act.put, List.setIfInBounds_toArray, List.set_cons_zero, List.set_cons_succ]
  refine take_p 18 ?_ rfl (by kernel_rfl) (by kernel_rfl) (by kernel_rfl) (by kernel_rfl) (fun _ _ _ h => h) (Or.inl ⟨by kernel_rfl, ?_⟩) (fun _ => by assumption) ?_
  rotate_left
  · (intro w _; go_simp; try (with_reducible rfl))
  try simp only [Act.put, List.setIfInBounds_toArray, List.set_cons_zero, List.set_cons_succ]
  refine take_u2 19 20 ?_ rfl (by kernel_rfl) (by kernel_rfl) (by kernel_rfl) (by kernel_rfl) (by kernel_rfl) (by kernel_rfl) (by kernel_rfl) (by kernel_rfl) (fun _ _ _ h => h) (Or.inl ⟨by kernel_rfl, ?_⟩) (by assumption) ?_
  rotate_left
  · (intro w hSw; (try dsimp only at hSw); go_simp; try (with_reducible rfl))
  try simp only [Act.put, List.setIfInBounds_toArray, List.set_cons_zero, List.set_cons_succ]
  refine call_u 9 rfl (by kernel_rfl) 55 #[.int .i64 4, .int .i64 r] (by kernel_rfl) (by go_simp) ?_
  refine (HP4.out w.drew).mono ?_
  rintro e w1 ⟨rfl, hb⟩
  have hb1 : Below w.heap.size w w1 := ⟨hb.os, hb.tape, hb.output, hb.size, hb.block⟩
  have HB1 := Seal.mk hb1
  refine ⟨_, rfl, ⟨cell_later hb1 kA, cell_later hb1 kD, cell_later hb1 hr, cell_later hb1 hk⟩, fun hHeld2 => ?_⟩
  clear hHeld hb hb1 kA kD hr hk
  try simp only [Act.put, List.setIfInBounds_toArray, List.set_cons_zero, List.set_cons_succ]
  refine oper_u 10 (.slice (some ⟨w1.heap.size, 0, none⟩) 2 2) (w1.alloc (.cells #[.int .i64 (A' : Int), .int .i64 (p : Int)] 3)) rfl (by kernel_rfl) (by kernel_rfl) (by go_simp) (fun _ => ⟨cell_allocd hHeld2.1 _, cell_allocd hHeld2.2.1 _, cell_allocd hHeld2.2.2.1 _, cell_allocd hHeld2.2.2.2 _⟩) ?_
  have HT := Seal.mk (etimes_any w1.heap.size A' p (w1.alloc (.cells #[.int .i64 (A' : Int), .int .i64 (p : Int)] 3)) HAD.out.1 HPQ.out.1 (by rw [cell_of_row _ _ _ _ _ _ (heap_alloc_new w1 _)]; rfl) (by rw [cell_of_row _ _ _ _ _ _ (heap_alloc_new w1 _)]; rfl))
  have hHeld3 : _ ∧ _ ∧ _ ∧ _ := ⟨cell_allocd hHeld2.1 (.cells #[.int .i64 (A' : Int), .int .i64 (p : Int)] 3), cell_allocd hHeld2.2.1 (.cells #[.int .i64 (A' : Int), .int .i64 (p : Int)] 3), cell_allocd hHeld2.2.2.1 (.cells #[.int .i64 (A' : Int), .int .i64 (p : Int)] 3), cell_allocd hHeld2.2.2.2 (.cells #[.int .i64 (A' : Int), .int .i64 (p : Int)] 3)⟩
  clear hHeld2
  have HB2 := Seal.mk (HB1.out.alloc HB1.out.size (.cells #[.int .i64 (A' : Int), .int .i64 (p : Int)] 3))
  clear HB1
  obtain ⟨W1, hW1⟩ : ∃ W1, W1 = w1.alloc (.cells #[.int .i64 (A' : Int), .int .i64 (p : Int)] 3) := ⟨_, rfl⟩
  rw [← hW1] at HT HB2 hHeld3 ⊢
  clear hW1
  try simp only [Act.put, List.setIfInBounds_toArray, List.set_cons_zero, List.set_cons_succ]
  refine call_u 11 rfl (by kernel_rfl) 54 #[.slice (some ⟨w1.heap.size, 0, none⟩) 2 2] (by kernel_rfl) (by go_simp) ?_
  refine HT.out.mono ?_
  rintro e w2 ⟨rfl, rfl⟩
  refine ⟨_, rfl, hHeld3, fun hHeld4 => ?_⟩
  clear HT
  rw [HXe.out.1]
  try simp only [Act.put, List.setIfInBounds_toArray, List.set_cons_zero, List.set_cons_succ]
  refine call_u 20 rfl (by kernel_rfl) 55 #[.int .i64 K, .int .i64 r] (by kernel_rfl) (by go_simp) ?_
  refine (HPK.out W1).mono ?_
  rintro e w3 ⟨rfl, hb⟩
  have HB3 := Seal.mk (HB2.out.trans (hb.mono HB2.out.size))
  refine ⟨_, rfl, ⟨cell_later hb hHeld3.1, cell_later hb hHeld3.2.1, cell_later hb hHeld3.2.2.1, cell_later hb hHeld3.2.2.2⟩, fun hHeld5 => ?_⟩
  clear hHeld4 hHeld3 hb HB2
  try simp only [Act.put, List.setIfInBounds_toArray, List.set_cons_zero, List.set_cons_succ]
  refine oper_u 21 (.slice (some ⟨w3.heap.size, 0, none⟩) 2 2) (w3.alloc (.cells #[.int .i64 (D' : Int), .int .i64 (q : Int)] 3)) rfl (by kernel_rfl) (by kernel_rfl) (by go_simp) (fun _ => ⟨cell_allocd hHeld5.1 _, cell_allocd hHeld5.2.1 _, cell_allocd hHeld5.2.2.1 _, cell_allocd hHeld5.2.2.2 _⟩) ?_
  have HT := Seal.mk (etimes_any w3.heap.size D' q (w3.alloc (.cells #[.int .i64 (D' : Int), .int .i64 (q : Int)] 3)) HAD.out.2 HPQ.out.2 (by rw [cell_of_row _ _ _ _ _ _ (heap_alloc_new w3 _)]; rfl) (by rw [cell_of_row _ _ _ _ _ _ (heap_alloc_new w3 _)]; rfl))
  have hHeld6 : _ ∧ _ ∧ _ ∧ _ := ⟨cell_allocd hHeld5.1 (.cells #[.int .i64 (D' : Int), .int .i64 (q : Int)] 3), cell_allocd hHeld5.2.1 (.cells #[.int .i64 (D' : Int), .int .i64 (q : Int)] 3), cell_allocd hHeld5.2.2.1 (.cells #[.int .i64 (D' : Int), .int .i64 (q : Int)] 3), cell_allocd hHeld5.2.2.2 (.cells #[.int .i64 (D' : Int), .int .i64 (q : Int)] 3)⟩
  clear hHeld5
  have HB4 := Seal.mk (HB3.out.alloc HB3.out.size (.cells #[.int .i64 (D' : Int), .int .i64 (q : Int)] 3))
  clear HB3
  obtain ⟨W2, hW2⟩ : ∃ W2, W2 = w3.alloc (.cells #[.int .i64 (D' : Int), .int .i64 (q : Int)] 3) := ⟨_, rfl⟩
  rw [← hW2] at HT HB4 hHeld6 ⊢
  clear hW2
  try simp only [Act.put, List.setIfInBounds_toArray, List.set_cons_zero, List.set_cons_succ]
  refine call_u 22 rfl (by kernel_rfl) 54 #[.slice (some ⟨w3.heap.size, 0, none⟩) 2 2] (by kernel_rfl) (by go_simp) ?_
  refine HT.out.mono ?_
  rintro e w4 ⟨rfl, rfl⟩
  refine ⟨_, rfl, hHeld6, fun hHeld7 => ?_⟩
  clear HT hHeld7
  rw [HXe.out.2]
  try simp only [Act.put, List.setIfInBounds_toArray, List.set_cons_zero, List.set_cons_succ]
  refine take_p 23 ?_ rfl (by kernel_rfl) (by kernel_rfl) (by kernel_rfl) (by kernel_rfl) (fun _ _ _ h => h) (Or.inl ⟨by kernel_rfl, ?_⟩) (fun _ => by assumption) ?_
  rotate_left
  · (intro w _; go_simp; try (with_reducible rfl))
  try simp only [Act.put, List.setIfInBounds_toArray, List.set_cons_zero, List.set_cons_succ]
  refine take_p 24 ?_ rfl (by kernel_rfl) (by kernel_rfl) (by kernel_rfl) (by kernel_rfl) (fun _ _ _ h => h) (Or.inl ⟨by kernel_rfl, ?_⟩) (fun _ => by assumption) ?_
  rotate_left
  · (intro w _; go_simp; try (with_reducible rfl))
  try simp only [Act.put, List.setIfInBounds_toArray, List.set_cons_zero, List.set_cons_succ]
  have hr2 := blk HB4.out (Array.getElem?_eq_some_iff.1 HG.out).1 HG.out
  have f1 : W2.frozen? ⟨g, k, none⟩ = false := frozen_of_row _ _ _ _ _ hr2
  have x1 := hHeld6.1
  refine skip_at_u 25 (W2.setCell ⟨g, k, none⟩ (.int .i64 X)) rfl (by kernel_rfl) (by kernel_rfl) (by kernel_rfl) (by go_simp) ?_
  have HR := Seal.mk (heap_setCell_row (i := k) (.int .i64 X) hr2)
  clear hr2 f1 x1
  refine anyU_of_H (S' := fun _ => True) _ _ _ _ (by kernel_rfl) ?_
  have hT : (fun _ : World => True) W2 := trivial
  have hHeld := hT
  refine take_h 26 ?_ rfl (by kernel_rfl) (by kernel_rfl) (by kernel_rfl) (fun _ _ _ h => h) (Or.inl ⟨by kernel_rfl, ?_⟩) (by assumption) ?_
  rotate_left
  · (intro w hSw; (try dsimp only at hSw); go_simp; try (with_reducible rfl))
  try simp only [Act.put, List.setIfInBounds_toArray, List.set_cons_zero, List.set_cons_succ]
  refine take_h 27 ?_ rfl (by kernel_rfl) (by kernel_rfl) (by kernel_rfl) (fun _ _ _ h => h) (Or.inl ⟨by kernel_rfl, ?_⟩) (by assumption) ?_
  rotate_left
  · (intro w hSw; (try dsimp only at hSw); go_simp; try (with_reducible rfl))
  try simp only [Act.put, List.setIfInBounds_toArray, List.set_cons_zero, List.set_cons_succ]
  have d2 : (cur.set k (.int .i64 X))[k + 1]? = some (.int .i64 (D' : Int)) := by rw [List.getElem?_set_ne (by omega)]; exact HDk.out
  have x2 : (W2.setCell ⟨g, k, none⟩ (.int .i64 X)).cell? ⟨g, k + 1, none⟩ = some (.int .i64 (D' : Int)) := by rw [cell_of_row _ _ _ _ _ _ HR.out]; simpa using d2
  have f2 : (W2.setCell ⟨g, k, none⟩ (.int .i64 X)).frozen? ⟨g, k + 1, none⟩ = false := frozen_of_row _ _ _ _ _ HR.out
  have HR2 := Seal.mk (heap_setCell_row (i := k + 1) (.int .i64 Y) HR.out)
  have HGr : Seal (w.grownBy ((W2.setCell ⟨g, k, none⟩ (.int .i64 X)).setCell ⟨g, k + 1, none⟩ (.int .i64 Y)) (some g)) := ⟨grown_setCell (grown_setCell (grown_of_below HB4.out _) _ _) _ _⟩
  clear hHeld6 d2 hT
  refine skip_h 28 ((W2.setCell ⟨g, k, none⟩ (.int .i64 X)).setCell ⟨g, k + 1, none⟩ (.int .i64 Y)) rfl (by kernel_rfl) (by kernel_rfl) (by go_simp) trivial (fun _ => ?_)
  refine wpAnyH_done (by kernel_rfl) ?_ _
  clear x2 f2 hHeld
  go_wp2
  exact ⟨rfl, .tuple #[], by simp [results, Tryd.results85, go_sem], rfl, HGr.out, HR2.out⟩
set_option maxHeartbeats 4000000 in
theorem more1_at1 (A D K r X Y : Int) (g k rb kb : Nat) (cur : List Value) (w : World) (hg : w.heap[g]? = some (.cells cur.toArray 32 (0, 0))) (hA : cur[k]? = some (.int .i64 A)) (hD : cur[k + 1]? = some (.int .i64 D)) (hr : w.cell? ⟨rb, 1, none⟩ = some (.int .i64 r)) (hk : w.cell? ⟨kb, 0, none⟩ = some (.int .i64 K)) (vA : vd A = true) (vD : vd D = true) (vK : vd K = true) (ir : I64 r)
    (hX : Seal ((onP K r (A, D)) = (X, Y))) :
    Calls Tryd.prog 85 #[.int .i64 1, .pointer (some ⟨g, k, none⟩), .pointer (some ⟨rb, 0, none⟩), .pointer (some ⟨kb, 0, none⟩)] w fun e w' => e = .returned (.tuple #[]) ∧ w.grownBy w' (some g) ∧ w'.heap[g]? = some (.cells ((cur.set k (.int .i64 X)).set (k + 1) (.int .i64 Y)).toArray 32 (0, 0)) := by
  have HP4 : Seal (∀ W, Calls Tryd.prog 55 #[.int .i64 4, .int .i64 r] W fun e w' => e = .returned (.int .i64 (pw 4 r : Nat)) ∧ Below W.heap.size W w') := ⟨fun W => epower_any 4 r W (by decide +kernel) ir.1 ir.2⟩
  have HPK : Seal (∀ W, Calls Tryd.prog 55 #[.int .i64 K, .int .i64 r] W fun e w' => e = .returned (.int .i64 (pw K.toNat r : Nat)) ∧ Below W.heap.size W w') := ⟨fun W => epower_any K r W vK ir.1 ir.2⟩
  obtain ⟨A', rfl, hA'⟩ := vd_of_vd vA
  obtain ⟨D', rfl, hD'⟩ := vd_of_vd vD
  have HAD : Seal (A' < 2147483579 ∧ D' < 2147483579) := ⟨hA'.2.1, hD'.2.1⟩
  obtain ⟨p, hp⟩ : ∃ p : Nat, p = pw 4 r := ⟨_, rfl⟩
  obtain ⟨q, hq⟩ : ∃ q : Nat, q = pw K.toNat r := ⟨_, rfl⟩
  have HPQ : Seal (p < 2147483579 ∧ q < 2147483579) := ⟨by rw [hp, hq]; exact ⟨pw_lt _ _, pw_lt _ _⟩⟩
  have HXe : Seal (((mp A' p : Nat) : Int) = X ∧ ((mp D' q : Nat) : Int) = Y) := ⟨by
    have := hX.out
    unfold onP at this
    simp only [Prod.mk.injEq, Int.toNat_natCast] at this
    rw [hp, hq]; exact this⟩
  rw [← hp] at HP4
  rw [← hq] at HPK
  have kA : w.cell? ⟨g, k, none⟩ = some (.int .i64 (A' : Int)) := by rw [cell_of_row _ _ _ _ _ _ hg]; simpa using hA
  have kD : w.cell? ⟨g, k + 1, none⟩ = some (.int .i64 (D' : Int)) := by rw [cell_of_row _ _ _ _ _ _ hg]; simpa using hD
  have HG := Seal.mk hg
  have HLk : Seal (k < cur.length) := ⟨by rw [List.getElem?_eq_some_iff] at hA; exact hA.1⟩
  have HDk := Seal.mk hD
  clear hg hA hD vA vD vK hA' hD' hp hq hX ir
  go_enter Tryd.func85, Tryd.ntmps85
  refine wp_region_heldU 25 (S := fun w' => w'.cell? ⟨g, k, none⟩ = some (.int .i64 (A' : Int)) ∧ w'.cell? ⟨g, k + 1, none⟩ = some (.int .i64 (D' : Int)) ∧ w'.cell? ⟨rb, 1, none⟩ = some (.int .i64 r) ∧ w'.cell? ⟨kb, 0, none⟩ = some (.int .i64 K)) (by kernel_rfl) ⟨kA, kD, hr, hk⟩ (fun hHeld => ?_)
  refine take_p 0 ?_ rfl (by kernel_rfl) (by kernel_rfl) (by kernel_rfl) (by kernel_rfl) (fun _ _ _ h => h) (Or.inl ⟨by kernel_rfl, ?_⟩) (fun _ => by assumption) ?_
  rotate_left
  · (intro w _; go_simp; try (with_reducible rfl))
  try simp only [Act.put, List.setIfInBounds_toArray, List.set_cons_zero, List.set_cons_succ]
  refine take_p 1 ?_ rfl (by kernel_rfl) (by kernel_rfl) (by kernel_rfl) (by kernel_rfl) (fun _ _ _ h => h) (Or.inl ⟨by kernel_rfl, ?_⟩) (fun _ => by assumption) ?_
  rotate_left
  · (intro w _; go_simp; try (with_reducible rfl))
  try simp only [Act.put, List.setIfInBounds_toArray, List.set_cons_zero, List.set_cons_succ]
  refine take_p 2 ?_ rfl (by kernel_rfl) (by kernel_rfl) (by kernel_rfl) (by kernel_rfl) (fun _ _ _ h => h) (Or.inl ⟨by kernel_rfl, ?_⟩) (fun _ => by assumption) ?_
  rotate_left
  · (intro w _; go_simp; try (with_reducible rfl))
  try simp only [Act.put, List.setIfInBounds_toArray, List.set_cons_zero, List.set_cons_succ]
  refine take_p 3 ?_ rfl (by kernel_rfl) (by kernel_rfl) (by kernel_rfl) (by kernel_rfl) (fun _ _ _ h => h) (Or.inl ⟨by kernel_rfl, ?_⟩) (fun _ => by assumption) ?_
  rotate_left
  · (intro w _; go_simp; try (with_reducible rfl))
  try simp only [Act.put, List.setIfInBounds_toArray, List.set_cons_zero, List.set_cons_succ]
  refine take_p 4 ?_ rfl (by kernel_rfl) (by kernel_rfl) (by kernel_rfl) (by kernel_rfl) (fun _ _ _ h => h) (Or.inl ⟨by kernel_rfl, ?_⟩) (fun _ => by assumption) ?_
  rotate_left
  · (intro w _; go_simp; try (with_reducible rfl))
  try simp only [Act.put, List.setIfInBounds_toArray, List.set_cons_zero, List.set_cons_succ]
  refine take_u 5 ?_ rfl (by kernel_rfl) (by kernel_rfl) (by kernel_rfl) (by kernel_rfl) (by kernel_rfl) (fun _ _ _ h => h) (Or.inl ⟨by kernel_rfl, ?_⟩) (by assumption) ?_
  rotate_left
  · (intro w hSw; (try dsimp only at hSw); go_simp; try (with_reducible rfl))
  try simp only [Act.put, List.setIfInBounds_toArray, List.set_cons_zero, List.set_cons_succ]
  refine take_p 6 ?_ rfl (by kernel_rfl) (by kernel_rfl) (by kernel_rfl) (by kernel_rfl) (fun _ _ _ h => h) (Or.inl ⟨by kernel_rfl, ?_⟩) (fun _ => by assumption) ?_
  rotate_left
  · (intro w _; go_simp; try (with_reducible rfl))
  try simp only [Act.put, List.setIfInBounds_toArray, List.set_cons_zero, List.set_cons_succ]
  refine take_p 7 ?_ rfl (by kernel_rfl) (by kernel_rfl) (by kernel_rfl) (by kernel_rfl) (fun _ _ _ h => h) (Or.inl ⟨by kernel_rfl, ?_⟩) (fun _ => by assumption) ?_
  rotate_left
  · (intro w _; go_simp; try (with_reducible rfl))
  try simp only [Act.put, List.setIfInBounds_toArray, List.set_cons_zero, List.set_cons_succ]
  refine take_u 8 ?_ rfl (by kernel_rfl) (by kernel_rfl) (by kernel_rfl) (by kernel_rfl) (by kernel_rfl) (fun _ _ _ h => h) (Or.inl ⟨by kernel_rfl, ?_⟩) (by assumption) ?_
  rotate_left
  · (intro w hSw; (try dsimp only at hSw); go_simp; try (with_reducible rfl))
  try simp only [Act.put, List.setIfInBounds_toArray, List.set_cons_zero, List.set_cons_succ]
  refine take_p 12 ?_ rfl (by kernel_rfl) (by kernel_rfl) (by kernel_rfl) (by kernel_rfl) (fun _ _ _ h => h) (Or.inl ⟨by kernel_rfl, ?_⟩) (fun _ => by assumption) ?_
  rotate_left
  · (intro w _; go_simp; try (with_reducible rfl))
  try simp only [Act.put, List.setIfInBounds_toArray, List.set_cons_zero, List.set_cons_succ]
  refine take_p 13 ?_ rfl (by kernel_rfl) (by kernel_rfl) (by kernel_rfl) (by kernel_rfl) (fun _ _ _ h => h) (Or.inl ⟨by kernel_rfl, ?_⟩) (fun _ => by assumption) ?_
  rotate_left
  · (intro w _; go_simp; try (with_reducible rfl))
  try simp only [Act.put, List.setIfInBounds_toArray, List.set_cons_zero, List.set_cons_succ]
  refine take_p 14 ?_ rfl (by kernel_rfl) (by kernel_rfl) (by kernel_rfl) (by kernel_rfl) (fun _ _ _ h => h) (Or.inl ⟨by kernel_rfl, ?_⟩) (fun _ => by assumption) ?_
  rotate_left
  · (intro w _; go_simp; try (with_reducible rfl))
  try simp only [Act.put, List.setIfInBounds_toArray, List.set_cons_zero, List.set_cons_succ]
  refine take_u 15 ?_ rfl (by kernel_rfl) (by kernel_rfl) (by kernel_rfl) (by kernel_rfl) (by kernel_rfl) (fun _ _ _ h => h) (Or.inl ⟨by kernel_rfl, ?_⟩) (by assumption) ?_
  rotate_left
  · (intro w hSw; (try dsimp only at hSw); go_simp; try (with_reducible rfl))
  try simp only [Act.put, List.setIfInBounds_toArray, List.set_cons_zero, List.set_cons_succ]
  refine take_u2 16 20 ?_ rfl (by kernel_rfl) (by kernel_rfl) (by kernel_rfl) (by kernel_rfl) (by kernel_rfl) (by kernel_rfl) (by kernel_rfl) (by kernel_rfl) (fun _ _ _ h => h) (Or.inl ⟨by kernel_rfl, ?_⟩) (by assumption) ?_
  rotate_left
  · (intro w hSw; (try dsimp only at hSw); go_simp; try (with_reducible rfl))
  try simp only [Act.put, List.setIfInBounds_toArray, List.set_cons_zero, List.set_cons_succ]
  refine take_p 17 ?_ rfl (by kernel_rfl) (by kernel_rfl) (by kernel_rfl) (by kernel_rfl) (fun _ _ _ h => h) (Or.inl ⟨by kernel_rfl, ?_⟩) (fun _ => by assumption) ?_
  rotate_left
  · (intro w _; go_simp; try (with_reducible rfl))
  try simp only [Act.put, List.setIfInBounds_toArray, List.set_cons_zero, List.set_cons_succ]
  refine take_p 18 ?_ rfl (by kernel_rfl) (by kernel_rfl) (by kernel_rfl) (by kernel_rfl) (fun _ _ _ h => h) (Or.inl ⟨by kernel_rfl, ?_⟩) (fun _ => by assumption) ?_
  rotate_left
  · (intro w _; go_simp; try (with_reducible rfl))
  try simp only [Act.put, List.setIfInBounds_toArray, List.set_cons_zero, List.set_cons_succ]
  refine take_u2 19 20 ?_ rfl (by kernel_rfl) (by kernel_rfl) (by kernel_rfl) (by kernel_rfl) (by kernel_rfl) (by kernel_rfl) (by kernel_rfl) (by kernel_rfl) (fun _ _ _ h => h) (Or.inl ⟨by kernel_rfl, ?_⟩) (by assumption) ?_
  rotate_left
  · (intro w hSw; (try dsimp only at hSw); go_simp; try (with_reducible rfl))
  try simp only [Act.put, List.setIfInBounds_toArray, List.set_cons_zero, List.set_cons_succ]
  refine call_u 9 rfl (by kernel_rfl) 55 #[.int .i64 4, .int .i64 r] (by kernel_rfl) (by go_simp) ?_
  refine (HP4.out w.drew).mono ?_
  rintro e w1 ⟨rfl, hb⟩
  have hb1 : Below w.heap.size w w1 := ⟨hb.os, hb.tape, hb.output, hb.size, hb.block⟩
  have HB1 := Seal.mk hb1
  refine ⟨_, rfl, ⟨cell_later hb1 kA, cell_later hb1 kD, cell_later hb1 hr, cell_later hb1 hk⟩, fun hHeld2 => ?_⟩
  clear hHeld hb hb1 kA kD hr hk
  try simp only [Act.put, List.setIfInBounds_toArray, List.set_cons_zero, List.set_cons_succ]
  refine oper_u 10 (.slice (some ⟨w1.heap.size, 0, none⟩) 2 2) (w1.alloc (.cells #[.int .i64 (A' : Int), .int .i64 (p : Int)] 3)) rfl (by kernel_rfl) (by kernel_rfl) (by go_simp) (fun _ => ⟨cell_allocd hHeld2.1 _, cell_allocd hHeld2.2.1 _, cell_allocd hHeld2.2.2.1 _, cell_allocd hHeld2.2.2.2 _⟩) ?_
  have HT := Seal.mk (etimes_any w1.heap.size A' p (w1.alloc (.cells #[.int .i64 (A' : Int), .int .i64 (p : Int)] 3)) HAD.out.1 HPQ.out.1 (by rw [cell_of_row _ _ _ _ _ _ (heap_alloc_new w1 _)]; rfl) (by rw [cell_of_row _ _ _ _ _ _ (heap_alloc_new w1 _)]; rfl))
  have hHeld3 : _ ∧ _ ∧ _ ∧ _ := ⟨cell_allocd hHeld2.1 (.cells #[.int .i64 (A' : Int), .int .i64 (p : Int)] 3), cell_allocd hHeld2.2.1 (.cells #[.int .i64 (A' : Int), .int .i64 (p : Int)] 3), cell_allocd hHeld2.2.2.1 (.cells #[.int .i64 (A' : Int), .int .i64 (p : Int)] 3), cell_allocd hHeld2.2.2.2 (.cells #[.int .i64 (A' : Int), .int .i64 (p : Int)] 3)⟩
  clear hHeld2
  have HB2 := Seal.mk (HB1.out.alloc HB1.out.size (.cells #[.int .i64 (A' : Int), .int .i64 (p : Int)] 3))
  clear HB1
  obtain ⟨W1, hW1⟩ : ∃ W1, W1 = w1.alloc (.cells #[.int .i64 (A' : Int), .int .i64 (p : Int)] 3) := ⟨_, rfl⟩
  rw [← hW1] at HT HB2 hHeld3 ⊢
  clear hW1
  try simp only [Act.put, List.setIfInBounds_toArray, List.set_cons_zero, List.set_cons_succ]
  refine call_u 11 rfl (by kernel_rfl) 54 #[.slice (some ⟨w1.heap.size, 0, none⟩) 2 2] (by kernel_rfl) (by go_simp) ?_
  refine HT.out.mono ?_
  rintro e w2 ⟨rfl, rfl⟩
  refine ⟨_, rfl, hHeld3, fun hHeld4 => ?_⟩
  clear HT
  rw [HXe.out.1]
  try simp only [Act.put, List.setIfInBounds_toArray, List.set_cons_zero, List.set_cons_succ]
  refine call_u 20 rfl (by kernel_rfl) 55 #[.int .i64 K, .int .i64 r] (by kernel_rfl) (by go_simp) ?_
  refine (HPK.out W1).mono ?_
  rintro e w3 ⟨rfl, hb⟩
  have HB3 := Seal.mk (HB2.out.trans (hb.mono HB2.out.size))
  refine ⟨_, rfl, ⟨cell_later hb hHeld3.1, cell_later hb hHeld3.2.1, cell_later hb hHeld3.2.2.1, cell_later hb hHeld3.2.2.2⟩, fun hHeld5 => ?_⟩
  clear hHeld4 hHeld3 hb HB2
  try simp only [Act.put, List.setIfInBounds_toArray, List.set_cons_zero, List.set_cons_succ]
  refine oper_u 21 (.slice (some ⟨w3.heap.size, 0, none⟩) 2 2) (w3.alloc (.cells #[.int .i64 (D' : Int), .int .i64 (q : Int)] 3)) rfl (by kernel_rfl) (by kernel_rfl) (by go_simp) (fun _ => ⟨cell_allocd hHeld5.1 _, cell_allocd hHeld5.2.1 _, cell_allocd hHeld5.2.2.1 _, cell_allocd hHeld5.2.2.2 _⟩) ?_
  have HT := Seal.mk (etimes_any w3.heap.size D' q (w3.alloc (.cells #[.int .i64 (D' : Int), .int .i64 (q : Int)] 3)) HAD.out.2 HPQ.out.2 (by rw [cell_of_row _ _ _ _ _ _ (heap_alloc_new w3 _)]; rfl) (by rw [cell_of_row _ _ _ _ _ _ (heap_alloc_new w3 _)]; rfl))
  have hHeld6 : _ ∧ _ ∧ _ ∧ _ := ⟨cell_allocd hHeld5.1 (.cells #[.int .i64 (D' : Int), .int .i64 (q : Int)] 3), cell_allocd hHeld5.2.1 (.cells #[.int .i64 (D' : Int), .int .i64 (q : Int)] 3), cell_allocd hHeld5.2.2.1 (.cells #[.int .i64 (D' : Int), .int .i64 (q : Int)] 3), cell_allocd hHeld5.2.2.2 (.cells #[.int .i64 (D' : Int), .int .i64 (q : Int)] 3)⟩
  clear hHeld5
  have HB4 := Seal.mk (HB3.out.alloc HB3.out.size (.cells #[.int .i64 (D' : Int), .int .i64 (q : Int)] 3))
  clear HB3
  obtain ⟨W2, hW2⟩ : ∃ W2, W2 = w3.alloc (.cells #[.int .i64 (D' : Int), .int .i64 (q : Int)] 3) := ⟨_, rfl⟩
  rw [← hW2] at HT HB4 hHeld6 ⊢
  clear hW2
  try simp only [Act.put, List.setIfInBounds_toArray, List.set_cons_zero, List.set_cons_succ]
  refine call_u 22 rfl (by kernel_rfl) 54 #[.slice (some ⟨w3.heap.size, 0, none⟩) 2 2] (by kernel_rfl) (by go_simp) ?_
  refine HT.out.mono ?_
  rintro e w4 ⟨rfl, rfl⟩
  refine ⟨_, rfl, hHeld6, fun hHeld7 => ?_⟩
  clear HT hHeld7
  rw [HXe.out.2]
  try simp only [Act.put, List.setIfInBounds_toArray, List.set_cons_zero, List.set_cons_succ]
  refine take_p 23 ?_ rfl (by kernel_rfl) (by kernel_rfl) (by kernel_rfl) (by kernel_rfl) (fun _ _ _ h => h) (Or.inl ⟨by kernel_rfl, ?_⟩) (fun _ => by assumption) ?_
  rotate_left
  · (intro w _; go_simp; try (with_reducible rfl))
  try simp only [Act.put, List.setIfInBounds_toArray, List.set_cons_zero, List.set_cons_succ]
  refine take_p 24 ?_ rfl (by kernel_rfl) (by kernel_rfl) (by kernel_rfl) (by kernel_rfl) (fun _ _ _ h => h) (Or.inl ⟨by kernel_rfl, ?_⟩) (fun _ => by assumption) ?_
  rotate_left
  · (intro w _; go_simp; try (with_reducible rfl))
  try simp only [Act.put, List.setIfInBounds_toArray, List.set_cons_zero, List.set_cons_succ]
  have hr2 := blk HB4.out (Array.getElem?_eq_some_iff.1 HG.out).1 HG.out
  have f1 : W2.frozen? ⟨g, k, none⟩ = false := frozen_of_row _ _ _ _ _ hr2
  have x1 := hHeld6.1
  refine skip_at_u 25 (W2.setCell ⟨g, k, none⟩ (.int .i64 X)) rfl (by kernel_rfl) (by kernel_rfl) (by kernel_rfl) (by go_simp) ?_
  have HR := Seal.mk (heap_setCell_row (i := k) (.int .i64 X) hr2)
  clear hr2 f1 x1
  refine anyU_of_H (S' := fun _ => True) _ _ _ _ (by kernel_rfl) ?_
  have hT : (fun _ : World => True) W2 := trivial
  have hHeld := hT
  refine take_h 26 ?_ rfl (by kernel_rfl) (by kernel_rfl) (by kernel_rfl) (fun _ _ _ h => h) (Or.inl ⟨by kernel_rfl, ?_⟩) (by assumption) ?_
  rotate_left
  · (intro w hSw; (try dsimp only at hSw); go_simp; try (with_reducible rfl))
  try simp only [Act.put, List.setIfInBounds_toArray, List.set_cons_zero, List.set_cons_succ]
  refine take_h 27 ?_ rfl (by kernel_rfl) (by kernel_rfl) (by kernel_rfl) (fun _ _ _ h => h) (Or.inl ⟨by kernel_rfl, ?_⟩) (by assumption) ?_
  rotate_left
  · (intro w hSw; (try dsimp only at hSw); go_simp; try (with_reducible rfl))
  try simp only [Act.put, List.setIfInBounds_toArray, List.set_cons_zero, List.set_cons_succ]
  have d2 : (cur.set k (.int .i64 X))[k + 1]? = some (.int .i64 (D' : Int)) := by rw [List.getElem?_set_ne (by omega)]; exact HDk.out
  have x2 : (W2.setCell ⟨g, k, none⟩ (.int .i64 X)).cell? ⟨g, k + 1, none⟩ = some (.int .i64 (D' : Int)) := by rw [cell_of_row _ _ _ _ _ _ HR.out]; simpa using d2
  have f2 : (W2.setCell ⟨g, k, none⟩ (.int .i64 X)).frozen? ⟨g, k + 1, none⟩ = false := frozen_of_row _ _ _ _ _ HR.out
  have HR2 := Seal.mk (heap_setCell_row (i := k + 1) (.int .i64 Y) HR.out)
  have HGr : Seal (w.grownBy ((W2.setCell ⟨g, k, none⟩ (.int .i64 X)).setCell ⟨g, k + 1, none⟩ (.int .i64 Y)) (some g)) := ⟨grown_setCell (grown_setCell (grown_of_below HB4.out _) _ _) _ _⟩
  clear hHeld6 d2 hT
  refine skip_h 28 ((W2.setCell ⟨g, k, none⟩ (.int .i64 X)).setCell ⟨g, k + 1, none⟩ (.int .i64 Y)) rfl (by kernel_rfl) (by kernel_rfl) (by go_simp) trivial (fun _ => ?_)
  refine wpAnyH_done (by kernel_rfl) ?_ _
  clear x2 f2 hHeld
  go_wp2
  exact ⟨rfl, .tuple #[], by simp [results, Tryd.results85, go_sem], rfl, HGr.out, HR2.out⟩
set_option maxHeartbeats 4000000 in
theorem more1_at2 (A D K r X Y : Int) (g k rb kb : Nat) (cur : List Value) (w : World) (hg : w.heap[g]? = some (.cells cur.toArray 32 (0, 0))) (hA : cur[k]? = some (.int .i64 A)) (hD : cur[k + 1]? = some (.int .i64 D)) (hr : w.cell? ⟨rb, 2, none⟩ = some (.int .i64 r)) (hk : w.cell? ⟨kb, 0, none⟩ = some (.int .i64 K)) (vA : vd A = true) (vD : vd D = true) (vK : vd K = true) (ir : I64 r)
    (hX : Seal ((onP K r (A, D)) = (X, Y))) :
    Calls Tryd.prog 85 #[.int .i64 2, .pointer (some ⟨g, k, none⟩), .pointer (some ⟨rb, 0, none⟩), .pointer (some ⟨kb, 0, none⟩)] w fun e w' => e = .returned (.tuple #[]) ∧ w.grownBy w' (some g) ∧ w'.heap[g]? = some (.cells ((cur.set k (.int .i64 X)).set (k + 1) (.int .i64 Y)).toArray 32 (0, 0)) := by
  have HP4 : Seal (∀ W, Calls Tryd.prog 55 #[.int .i64 4, .int .i64 r] W fun e w' => e = .returned (.int .i64 (pw 4 r : Nat)) ∧ Below W.heap.size W w') := ⟨fun W => epower_any 4 r W (by decide +kernel) ir.1 ir.2⟩
  have HPK : Seal (∀ W, Calls Tryd.prog 55 #[.int .i64 K, .int .i64 r] W fun e w' => e = .returned (.int .i64 (pw K.toNat r : Nat)) ∧ Below W.heap.size W w') := ⟨fun W => epower_any K r W vK ir.1 ir.2⟩
  obtain ⟨A', rfl, hA'⟩ := vd_of_vd vA
  obtain ⟨D', rfl, hD'⟩ := vd_of_vd vD
  have HAD : Seal (A' < 2147483579 ∧ D' < 2147483579) := ⟨hA'.2.1, hD'.2.1⟩
  obtain ⟨p, hp⟩ : ∃ p : Nat, p = pw 4 r := ⟨_, rfl⟩
  obtain ⟨q, hq⟩ : ∃ q : Nat, q = pw K.toNat r := ⟨_, rfl⟩
  have HPQ : Seal (p < 2147483579 ∧ q < 2147483579) := ⟨by rw [hp, hq]; exact ⟨pw_lt _ _, pw_lt _ _⟩⟩
  have HXe : Seal (((mp A' p : Nat) : Int) = X ∧ ((mp D' q : Nat) : Int) = Y) := ⟨by
    have := hX.out
    unfold onP at this
    simp only [Prod.mk.injEq, Int.toNat_natCast] at this
    rw [hp, hq]; exact this⟩
  rw [← hp] at HP4
  rw [← hq] at HPK
  have kA : w.cell? ⟨g, k, none⟩ = some (.int .i64 (A' : Int)) := by rw [cell_of_row _ _ _ _ _ _ hg]; simpa using hA
  have kD : w.cell? ⟨g, k + 1, none⟩ = some (.int .i64 (D' : Int)) := by rw [cell_of_row _ _ _ _ _ _ hg]; simpa using hD
  have HG := Seal.mk hg
  have HLk : Seal (k < cur.length) := ⟨by rw [List.getElem?_eq_some_iff] at hA; exact hA.1⟩
  have HDk := Seal.mk hD
  clear hg hA hD vA vD vK hA' hD' hp hq hX ir
  go_enter Tryd.func85, Tryd.ntmps85
  refine wp_region_heldU 25 (S := fun w' => w'.cell? ⟨g, k, none⟩ = some (.int .i64 (A' : Int)) ∧ w'.cell? ⟨g, k + 1, none⟩ = some (.int .i64 (D' : Int)) ∧ w'.cell? ⟨rb, 2, none⟩ = some (.int .i64 r) ∧ w'.cell? ⟨kb, 0, none⟩ = some (.int .i64 K)) (by kernel_rfl) ⟨kA, kD, hr, hk⟩ (fun hHeld => ?_)
  refine take_p 0 ?_ rfl (by kernel_rfl) (by kernel_rfl) (by kernel_rfl) (by kernel_rfl) (fun _ _ _ h => h) (Or.inl ⟨by kernel_rfl, ?_⟩) (fun _ => by assumption) ?_
  rotate_left
  · (intro w _; go_simp; try (with_reducible rfl))
  try simp only [Act.put, List.setIfInBounds_toArray, List.set_cons_zero, List.set_cons_succ]
  refine take_p 1 ?_ rfl (by kernel_rfl) (by kernel_rfl) (by kernel_rfl) (by kernel_rfl) (fun _ _ _ h => h) (Or.inl ⟨by kernel_rfl, ?_⟩) (fun _ => by assumption) ?_
  rotate_left
  · (intro w _; go_simp; try (with_reducible rfl))
  try simp only [Act.put, List.setIfInBounds_toArray, List.set_cons_zero, List.set_cons_succ]
  refine take_p 2 ?_ rfl (by kernel_rfl) (by kernel_rfl) (by kernel_rfl) (by kernel_rfl) (fun _ _ _ h => h) (Or.inl ⟨by kernel_rfl, ?_⟩) (fun _ => by assumption) ?_
  rotate_left
  · (intro w _; go_simp; try (with_reducible rfl))
  try simp only [Act.put, List.setIfInBounds_toArray, List.set_cons_zero, List.set_cons_succ]
  refine take_p 3 ?_ rfl (by kernel_rfl) (by kernel_rfl) (by kernel_rfl) (by kernel_rfl) (fun _ _ _ h => h) (Or.inl ⟨by kernel_rfl, ?_⟩) (fun _ => by assumption) ?_
  rotate_left
  · (intro w _; go_simp; try (with_reducible rfl))
  try simp only [Act.put, List.setIfInBounds_toArray, List.set_cons_zero, List.set_cons_succ]
  refine take_p 4 ?_ rfl (by kernel_rfl) (by kernel_rfl) (by kernel_rfl) (by kernel_rfl) (fun _ _ _ h => h) (Or.inl ⟨by kernel_rfl, ?_⟩) (fun _ => by assumption) ?_
  rotate_left
  · (intro w _; go_simp; try (with_reducible rfl))
  try simp only [Act.put, List.setIfInBounds_toArray, List.set_cons_zero, List.set_cons_succ]
  refine take_u 5 ?_ rfl (by kernel_rfl) (by kernel_rfl) (by kernel_rfl) (by kernel_rfl) (by kernel_rfl) (fun _ _ _ h => h) (Or.inl ⟨by kernel_rfl, ?_⟩) (by assumption) ?_
  rotate_left
  · (intro w hSw; (try dsimp only at hSw); go_simp; try (with_reducible rfl))
  try simp only [Act.put, List.setIfInBounds_toArray, List.set_cons_zero, List.set_cons_succ]
  refine take_p 6 ?_ rfl (by kernel_rfl) (by kernel_rfl) (by kernel_rfl) (by kernel_rfl) (fun _ _ _ h => h) (Or.inl ⟨by kernel_rfl, ?_⟩) (fun _ => by assumption) ?_
  rotate_left
  · (intro w _; go_simp; try (with_reducible rfl))
  try simp only [Act.put, List.setIfInBounds_toArray, List.set_cons_zero, List.set_cons_succ]
  refine take_p 7 ?_ rfl (by kernel_rfl) (by kernel_rfl) (by kernel_rfl) (by kernel_rfl) (fun _ _ _ h => h) (Or.inl ⟨by kernel_rfl, ?_⟩) (fun _ => by assumption) ?_
  rotate_left
  · (intro w _; go_simp; try (with_reducible rfl))
  try simp only [Act.put, List.setIfInBounds_toArray, List.set_cons_zero, List.set_cons_succ]
  refine take_u 8 ?_ rfl (by kernel_rfl) (by kernel_rfl) (by kernel_rfl) (by kernel_rfl) (by kernel_rfl) (fun _ _ _ h => h) (Or.inl ⟨by kernel_rfl, ?_⟩) (by assumption) ?_
  rotate_left
  · (intro w hSw; (try dsimp only at hSw); go_simp; try (with_reducible rfl))
  try simp only [Act.put, List.setIfInBounds_toArray, List.set_cons_zero, List.set_cons_succ]
  refine take_p 12 ?_ rfl (by kernel_rfl) (by kernel_rfl) (by kernel_rfl) (by kernel_rfl) (fun _ _ _ h => h) (Or.inl ⟨by kernel_rfl, ?_⟩) (fun _ => by assumption) ?_
  rotate_left
  · (intro w _; go_simp; try (with_reducible rfl))
  try simp only [Act.put, List.setIfInBounds_toArray, List.set_cons_zero, List.set_cons_succ]
  refine take_p 13 ?_ rfl (by kernel_rfl) (by kernel_rfl) (by kernel_rfl) (by kernel_rfl) (fun _ _ _ h => h) (Or.inl ⟨by kernel_rfl, ?_⟩) (fun _ => by assumption) ?_
  rotate_left
  · (intro w _; go_simp; try (with_reducible rfl))
  try simp only [Act.put, List.setIfInBounds_toArray, List.set_cons_zero, List.set_cons_succ]
  refine take_p 14 ?_ rfl (by kernel_rfl) (by kernel_rfl) (by kernel_rfl) (by kernel_rfl) (fun _ _ _ h => h) (Or.inl ⟨by kernel_rfl, ?_⟩) (fun _ => by assumption) ?_
  rotate_left
  · (intro w _; go_simp; try (with_reducible rfl))
  try simp only [Act.put, List.setIfInBounds_toArray, List.set_cons_zero, List.set_cons_succ]
  refine take_u 15 ?_ rfl (by kernel_rfl) (by kernel_rfl) (by kernel_rfl) (by kernel_rfl) (by kernel_rfl) (fun _ _ _ h => h) (Or.inl ⟨by kernel_rfl, ?_⟩) (by assumption) ?_
  rotate_left
  · (intro w hSw; (try dsimp only at hSw); go_simp; try (with_reducible rfl))
  try simp only [Act.put, List.setIfInBounds_toArray, List.set_cons_zero, List.set_cons_succ]
  refine take_u2 16 20 ?_ rfl (by kernel_rfl) (by kernel_rfl) (by kernel_rfl) (by kernel_rfl) (by kernel_rfl) (by kernel_rfl) (by kernel_rfl) (by kernel_rfl) (fun _ _ _ h => h) (Or.inl ⟨by kernel_rfl, ?_⟩) (by assumption) ?_
  rotate_left
  · (intro w hSw; (try dsimp only at hSw); go_simp; try (with_reducible rfl))
  try simp only [Act.put, List.setIfInBounds_toArray, List.set_cons_zero, List.set_cons_succ]
  refine take_p 17 ?_ rfl (by kernel_rfl) (by kernel_rfl) (by kernel_rfl) (by kernel_rfl) (fun _ _ _ h => h) (Or.inl ⟨by kernel_rfl, ?_⟩) (fun _ => by assumption) ?_
  rotate_left
  · (intro w _; go_simp; try (with_reducible rfl))
  try simp only [Act.put, List.setIfInBounds_toArray, List.set_cons_zero, List.set_cons_succ]
  refine take_p 18 ?_ rfl (by kernel_rfl) (by kernel_rfl) (by kernel_rfl) (by kernel_rfl) (fun _ _ _ h => h) (Or.inl ⟨by kernel_rfl, ?_⟩) (fun _ => by assumption) ?_
  rotate_left
  · (intro w _; go_simp; try (with_reducible rfl))
  try simp only [Act.put, List.setIfInBounds_toArray, List.set_cons_zero, List.set_cons_succ]
  refine take_u2 19 20 ?_ rfl (by kernel_rfl) (by kernel_rfl) (by kernel_rfl) (by kernel_rfl) (by kernel_rfl) (by kernel_rfl) (by kernel_rfl) (by kernel_rfl) (fun _ _ _ h => h) (Or.inl ⟨by kernel_rfl, ?_⟩) (by assumption) ?_
  rotate_left
  · (intro w hSw; (try dsimp only at hSw); go_simp; try (with_reducible rfl))
  try simp only [Act.put, List.setIfInBounds_toArray, List.set_cons_zero, List.set_cons_succ]
  refine call_u 9 rfl (by kernel_rfl) 55 #[.int .i64 4, .int .i64 r] (by kernel_rfl) (by go_simp) ?_
  refine (HP4.out w.drew).mono ?_
  rintro e w1 ⟨rfl, hb⟩
  have hb1 : Below w.heap.size w w1 := ⟨hb.os, hb.tape, hb.output, hb.size, hb.block⟩
  have HB1 := Seal.mk hb1
  refine ⟨_, rfl, ⟨cell_later hb1 kA, cell_later hb1 kD, cell_later hb1 hr, cell_later hb1 hk⟩, fun hHeld2 => ?_⟩
  clear hHeld hb hb1 kA kD hr hk
  try simp only [Act.put, List.setIfInBounds_toArray, List.set_cons_zero, List.set_cons_succ]
  refine oper_u 10 (.slice (some ⟨w1.heap.size, 0, none⟩) 2 2) (w1.alloc (.cells #[.int .i64 (A' : Int), .int .i64 (p : Int)] 3)) rfl (by kernel_rfl) (by kernel_rfl) (by go_simp) (fun _ => ⟨cell_allocd hHeld2.1 _, cell_allocd hHeld2.2.1 _, cell_allocd hHeld2.2.2.1 _, cell_allocd hHeld2.2.2.2 _⟩) ?_
  have HT := Seal.mk (etimes_any w1.heap.size A' p (w1.alloc (.cells #[.int .i64 (A' : Int), .int .i64 (p : Int)] 3)) HAD.out.1 HPQ.out.1 (by rw [cell_of_row _ _ _ _ _ _ (heap_alloc_new w1 _)]; rfl) (by rw [cell_of_row _ _ _ _ _ _ (heap_alloc_new w1 _)]; rfl))
  have hHeld3 : _ ∧ _ ∧ _ ∧ _ := ⟨cell_allocd hHeld2.1 (.cells #[.int .i64 (A' : Int), .int .i64 (p : Int)] 3), cell_allocd hHeld2.2.1 (.cells #[.int .i64 (A' : Int), .int .i64 (p : Int)] 3), cell_allocd hHeld2.2.2.1 (.cells #[.int .i64 (A' : Int), .int .i64 (p : Int)] 3), cell_allocd hHeld2.2.2.2 (.cells #[.int .i64 (A' : Int), .int .i64 (p : Int)] 3)⟩
  clear hHeld2
  have HB2 := Seal.mk (HB1.out.alloc HB1.out.size (.cells #[.int .i64 (A' : Int), .int .i64 (p : Int)] 3))
  clear HB1
  obtain ⟨W1, hW1⟩ : ∃ W1, W1 = w1.alloc (.cells #[.int .i64 (A' : Int), .int .i64 (p : Int)] 3) := ⟨_, rfl⟩
  rw [← hW1] at HT HB2 hHeld3 ⊢
  clear hW1
  try simp only [Act.put, List.setIfInBounds_toArray, List.set_cons_zero, List.set_cons_succ]
  refine call_u 11 rfl (by kernel_rfl) 54 #[.slice (some ⟨w1.heap.size, 0, none⟩) 2 2] (by kernel_rfl) (by go_simp) ?_
  refine HT.out.mono ?_
  rintro e w2 ⟨rfl, rfl⟩
  refine ⟨_, rfl, hHeld3, fun hHeld4 => ?_⟩
  clear HT
  rw [HXe.out.1]
  try simp only [Act.put, List.setIfInBounds_toArray, List.set_cons_zero, List.set_cons_succ]
  refine call_u 20 rfl (by kernel_rfl) 55 #[.int .i64 K, .int .i64 r] (by kernel_rfl) (by go_simp) ?_
  refine (HPK.out W1).mono ?_
  rintro e w3 ⟨rfl, hb⟩
  have HB3 := Seal.mk (HB2.out.trans (hb.mono HB2.out.size))
  refine ⟨_, rfl, ⟨cell_later hb hHeld3.1, cell_later hb hHeld3.2.1, cell_later hb hHeld3.2.2.1, cell_later hb hHeld3.2.2.2⟩, fun hHeld5 => ?_⟩
  clear hHeld4 hHeld3 hb HB2
  try simp only [Act.put, List.setIfInBounds_toArray, List.set_cons_zero, List.set_cons_succ]
  refine oper_u 21 (.slice (some ⟨w3.heap.size, 0, none⟩) 2 2) (w3.alloc (.cells #[.int .i64 (D' : Int), .int .i64 (q : Int)] 3)) rfl (by kernel_rfl) (by kernel_rfl) (by go_simp) (fun _ => ⟨cell_allocd hHeld5.1 _, cell_allocd hHeld5.2.1 _, cell_allocd hHeld5.2.2.1 _, cell_allocd hHeld5.2.2.2 _⟩) ?_
  have HT := Seal.mk (etimes_any w3.heap.size D' q (w3.alloc (.cells #[.int .i64 (D' : Int), .int .i64 (q : Int)] 3)) HAD.out.2 HPQ.out.2 (by rw [cell_of_row _ _ _ _ _ _ (heap_alloc_new w3 _)]; rfl) (by rw [cell_of_row _ _ _ _ _ _ (heap_alloc_new w3 _)]; rfl))
  have hHeld6 : _ ∧ _ ∧ _ ∧ _ := ⟨cell_allocd hHeld5.1 (.cells #[.int .i64 (D' : Int), .int .i64 (q : Int)] 3), cell_allocd hHeld5.2.1 (.cells #[.int .i64 (D' : Int), .int .i64 (q : Int)] 3), cell_allocd hHeld5.2.2.1 (.cells #[.int .i64 (D' : Int), .int .i64 (q : Int)] 3), cell_allocd hHeld5.2.2.2 (.cells #[.int .i64 (D' : Int), .int .i64 (q : Int)] 3)⟩
  clear hHeld5
  have HB4 := Seal.mk (HB3.out.alloc HB3.out.size (.cells #[.int .i64 (D' : Int), .int .i64 (q : Int)] 3))
  clear HB3
  obtain ⟨W2, hW2⟩ : ∃ W2, W2 = w3.alloc (.cells #[.int .i64 (D' : Int), .int .i64 (q : Int)] 3) := ⟨_, rfl⟩
  rw [← hW2] at HT HB4 hHeld6 ⊢
  clear hW2
  try simp only [Act.put, List.setIfInBounds_toArray, List.set_cons_zero, List.set_cons_succ]
  refine call_u 22 rfl (by kernel_rfl) 54 #[.slice (some ⟨w3.heap.size, 0, none⟩) 2 2] (by kernel_rfl) (by go_simp) ?_
  refine HT.out.mono ?_
  rintro e w4 ⟨rfl, rfl⟩
  refine ⟨_, rfl, hHeld6, fun hHeld7 => ?_⟩
  clear HT hHeld7
  rw [HXe.out.2]
  try simp only [Act.put, List.setIfInBounds_toArray, List.set_cons_zero, List.set_cons_succ]
  refine take_p 23 ?_ rfl (by kernel_rfl) (by kernel_rfl) (by kernel_rfl) (by kernel_rfl) (fun _ _ _ h => h) (Or.inl ⟨by kernel_rfl, ?_⟩) (fun _ => by assumption) ?_
  rotate_left
  · (intro w _; go_simp; try (with_reducible rfl))
  try simp only [Act.put, List.setIfInBounds_toArray, List.set_cons_zero, List.set_cons_succ]
  refine take_p 24 ?_ rfl (by kernel_rfl) (by kernel_rfl) (by kernel_rfl) (by kernel_rfl) (fun _ _ _ h => h) (Or.inl ⟨by kernel_rfl, ?_⟩) (fun _ => by assumption) ?_
  rotate_left
  · (intro w _; go_simp; try (with_reducible rfl))
  try simp only [Act.put, List.setIfInBounds_toArray, List.set_cons_zero, List.set_cons_succ]
  have hr2 := blk HB4.out (Array.getElem?_eq_some_iff.1 HG.out).1 HG.out
  have f1 : W2.frozen? ⟨g, k, none⟩ = false := frozen_of_row _ _ _ _ _ hr2
  have x1 := hHeld6.1
  refine skip_at_u 25 (W2.setCell ⟨g, k, none⟩ (.int .i64 X)) rfl (by kernel_rfl) (by kernel_rfl) (by kernel_rfl) (by go_simp) ?_
  have HR := Seal.mk (heap_setCell_row (i := k) (.int .i64 X) hr2)
  clear hr2 f1 x1
  refine anyU_of_H (S' := fun _ => True) _ _ _ _ (by kernel_rfl) ?_
  have hT : (fun _ : World => True) W2 := trivial
  have hHeld := hT
  refine take_h 26 ?_ rfl (by kernel_rfl) (by kernel_rfl) (by kernel_rfl) (fun _ _ _ h => h) (Or.inl ⟨by kernel_rfl, ?_⟩) (by assumption) ?_
  rotate_left
  · (intro w hSw; (try dsimp only at hSw); go_simp; try (with_reducible rfl))
  try simp only [Act.put, List.setIfInBounds_toArray, List.set_cons_zero, List.set_cons_succ]
  refine take_h 27 ?_ rfl (by kernel_rfl) (by kernel_rfl) (by kernel_rfl) (fun _ _ _ h => h) (Or.inl ⟨by kernel_rfl, ?_⟩) (by assumption) ?_
  rotate_left
  · (intro w hSw; (try dsimp only at hSw); go_simp; try (with_reducible rfl))
  try simp only [Act.put, List.setIfInBounds_toArray, List.set_cons_zero, List.set_cons_succ]
  have d2 : (cur.set k (.int .i64 X))[k + 1]? = some (.int .i64 (D' : Int)) := by rw [List.getElem?_set_ne (by omega)]; exact HDk.out
  have x2 : (W2.setCell ⟨g, k, none⟩ (.int .i64 X)).cell? ⟨g, k + 1, none⟩ = some (.int .i64 (D' : Int)) := by rw [cell_of_row _ _ _ _ _ _ HR.out]; simpa using d2
  have f2 : (W2.setCell ⟨g, k, none⟩ (.int .i64 X)).frozen? ⟨g, k + 1, none⟩ = false := frozen_of_row _ _ _ _ _ HR.out
  have HR2 := Seal.mk (heap_setCell_row (i := k + 1) (.int .i64 Y) HR.out)
  have HGr : Seal (w.grownBy ((W2.setCell ⟨g, k, none⟩ (.int .i64 X)).setCell ⟨g, k + 1, none⟩ (.int .i64 Y)) (some g)) := ⟨grown_setCell (grown_setCell (grown_of_below HB4.out _) _ _) _ _⟩
  clear hHeld6 d2 hT
  refine skip_h 28 ((W2.setCell ⟨g, k, none⟩ (.int .i64 X)).setCell ⟨g, k + 1, none⟩ (.int .i64 Y)) rfl (by kernel_rfl) (by kernel_rfl) (by go_simp) trivial (fun _ => ?_)
  refine wpAnyH_done (by kernel_rfl) ?_ _
  clear x2 f2 hHeld
  go_wp2
  exact ⟨rfl, .tuple #[], by simp [results, Tryd.results85, go_sem], rfl, HGr.out, HR2.out⟩
end

section
attribute [local go_sem] Oper.semAt_some

/-- a letter, as far as it is sealed -/
def chM (K : Int) (rs : Fin 3 → Int) (L : Fin 3 → Int × Int) (pre : List (Fin 3)) : Fin 3 → Int × Int := pre.foldl (fun M i => setL i (onP K (rs i) (M i)) M) L
theorem chM_snoc (K : Int) (rs : Fin 3 → Int) (L : Fin 3 → Int × Int) (pre : List (Fin 3)) (i : Fin 3) : chM K rs L (pre ++ [i]) = setL i (onP K (rs i) (chM K rs L pre i)) (chM K rs L pre) := by simp [chM]
theorem chM_ok {K : Int} {rs : Fin 3 → Int} (hK : vd K = true) : ∀ (pre : List (Fin 3)) (L : Fin 3 → Int × Int), okL L → okL (chM K rs L pre)
  | [], _, h => h
  | i :: pre, L, h => chM_ok hK pre (setL i (onP K (rs i) (L i)) L) (setL_ok h (onP_ok hK (h i)))
theorem chM_done (K : Int) (rs : Fin 3 → Int) (L : Fin 3 → Int × Int) : chM K rs L [0, 1, 2] = fun j => onP K (rs j) (L j) := by
  funext j
  rcases fin3e j with rfl | rfl | rfl <;> rfl
theorem rowL_set2 (M : Fin 3 → Int × Int) (i : Fin 3) (p : Int × Int) : ((rowL M).set (2 * i.val) (.int .i64 p.1)).set (2 * i.val + 1) (.int .i64 p.2) = rowL (setL i p M) := by
  rcases fin3e i with rfl | rfl | rfl <;> rfl
set_option maxHeartbeats 4000000 in
theorem echanged_more (L : Fin 3 → Int × Int) (K : Int) (rs : Fin 3 → Int) (gf rb kb : Nat) (w : World) (hL : okL L) (hK : vd K = true) (hrs : ∀ i, I64 (rs i)) (hgf : w.heap[gf]? = some (.cells #[.func (.func 85) #[] #[.pointer (some ⟨rb, 0, none⟩), .pointer (some ⟨kb, 0, none⟩)]] 91 (0, 0))) (hcb : w.cell? ⟨kb, 0, none⟩ = some (.int .i64 K)) (hr0 : w.cell? ⟨rb, 0, none⟩ = some (.int .i64 (rs 0))) (hr1 : w.cell? ⟨rb, 1, none⟩ = some (.int .i64 (rs 1))) (hr2 : w.cell? ⟨rb, 2, none⟩ = some (.int .i64 (rs 2))) :
    Calls Tryd.prog 47 #[.agg (rowL L).toArray, .slice (some ⟨gf, 0, none⟩) 1 1] w fun e w' => e = .returned (.agg (rowL (fun j => onP K (rs j) (L j))).toArray) ∧ Below w.heap.size w w' := by
  have HL := Seal.mk hL
  have HN := Seal.mk (And.intro hK hrs)
  have HF := Seal.mk (And.intro hgf (And.intro hcb (And.intro hr0 (And.intro hr1 hr2))))
  obtain ⟨C, hC⟩ : ∃ C, C = rowL L := ⟨_, rfl⟩
  obtain ⟨X, hX⟩ : ∃ X : World, X = ((w.alloc (.cells C.toArray 32)).alloc (.cells #[.slice (some ⟨gf, 0, none⟩) 1 1] 125)).alloc (.cells #[.int .i64 0, .int .i64 0, .int .i64 0, .int .i64 0, .int .i64 0, .int .i64 0] 32) := ⟨_, rfl⟩
  have hXb : Seal (Below w.heap.size w X) := ⟨by rw [hX]; exact (((Below.refl _ w).alloc (Nat.le_refl _) _).alloc (by simp) _).alloc (by simp; omega) _⟩
  have hXs : Seal (X.heap.size = w.heap.size + 3) := ⟨by rw [hX]; simp⟩
  have hXn : Seal (X.heap[w.heap.size]? = some (.cells (rowL L).toArray 32 (0, 0))) := ⟨by rw [hX, hC, Below.heap_alloc _ _ _ (by simp; omega), Below.heap_alloc _ _ _ (by simp)]; exact heap_alloc_new w _⟩
  have hX1 : Seal (X.heap[w.heap.size + 1]? = some (.cells #[.slice (some ⟨gf, 0, none⟩) 1 1] 125 (0, 0))) := ⟨by rw [hX, Below.heap_alloc _ _ _ (by simp)]; have := heap_alloc_new (w.alloc (.cells C.toArray 32)) (.cells #[.slice (some ⟨gf, 0, none⟩) 1 1] 125); rwa [size_alloc] at this⟩
  have hXz : Seal (X.heap[w.heap.size + 1 + 1]? = some (.cells #[.int .i64 0, .int .i64 0, .int .i64 0, .int .i64 0, .int .i64 0, .int .i64 0] 32 (0, 0))) := ⟨by rw [hX]; have := heap_alloc_new ((w.alloc (.cells C.toArray 32)).alloc (.cells #[.slice (some ⟨gf, 0, none⟩) 1 1] 125)) (.cells #[.int .i64 0, .int .i64 0, .int .i64 0, .int .i64 0, .int .i64 0, .int .i64 0] 32); rwa [size_alloc, size_alloc] at this⟩
  rw [← hC]
  clear hL hC hK hrs hgf hcb hr0 hr1 hr2
  refine (callsIn_wide (n := 3)).1 ?_
  refine callsIn_of_wp_marks Tryd.func47 rfl trivial ?_ rfl
  simp only [Tryd.ntmps47, List.size_toArray, List.length_cons, List.length_nil, Nat.reduceAdd, Nat.reduceSub, Array.replicate_succ, Array.replicate_zero, List.push_toArray, List.append_toArray, List.nil_append, List.cons_append]
  refine wpIn_wide.2 ?_
  go_upto_region 1 with (fail)
  rw [← hX]
  clear hX
  go_wp2_with fail
  refine (eciphers_any w.heap.size X).mono ?_
  rintro e Y ⟨rfl, hY⟩
  have hYr : Y.heap[X.heap.size]? = some (.cells #[.pointer (some ⟨w.heap.size, 0, none⟩)] 99 (0, 0)) := by rw [← hY]; exact heap_alloc_new X _
  have hYs : Y.heap.size = X.heap.size + 1 := by rw [← hY, size_alloc]
  have hYb : Below X.heap.size X Y := by rw [← hY]; exact below_alloc _ _
  have Y0 : Y.heap[w.heap.size]? = some (.cells (rowL L).toArray 32 (0, 0)) := blk hYb (by have := hXs.out; omega) hXn.out
  have Y1 := blk hYb (by have := hXs.out; omega) hX1.out
  have Y2 := blk hYb (by have := hXs.out; omega) hXz.out
  have HYb : Below w.heap.size w Y := hXb.out.trans (hYb.mono hXb.out.size)
  have HS := Seal.mk (And.intro hXs.out hYs)
  clear hY
  go_wp2_with fail
  refine (wpIn_wide (n := 3)).1 ?_
  refine wpIn_rangeFunc_round rfl (by decide) (gf := 88) (lb := #[.pointer (some ⟨X.heap.size, 0, none⟩)]) rfl trivial (enters_of Tryd.func88 (by kernel_rfl) rfl)
    (ciphers_seq 2 w.heap.size X.heap.size Y (by rw [cell_of_row _ _ _ _ _ _ hYr]; rfl))
    (by rintro r rfl; omega) (encC_size _)
    (fun pre W => W.heap[w.heap.size]? = some (.cells (rowL (chM K rs L pre)).toArray 32 (0, 0)) ∧ W.heap[w.heap.size + 1]? = some (.cells #[.slice (some ⟨gf, 0, none⟩) 1 1] 125 (0, 0)) ∧ W.heap[w.heap.size + 1 + 1]? = some (.cells #[.int .i64 0, .int .i64 0, .int .i64 0, .int .i64 0, .int .i64 0, .int .i64 0] 32 (0, 0)) ∧ Below w.heap.size w W ∧ Y.heap.size ≤ W.heap.size)
    ?own ⟨Y0, Y1, Y2, HYb, Nat.le_refl _⟩ ?round ?done
  case own =>
    rintro t A B' row ⟨h0, h1, h2, hb, hz⟩ hg hr
    have hrow : ∀ r, row = some r → w.heap.size + 3 ≤ r := by
      intro r e
      have := HS.out
      rcases hr r e with rfl | ⟨h, _⟩ <;> omega
    have keep : ∀ k o, k < w.heap.size + 3 → A.heap[k]? = some o → B'.heap[k]? = some o := fun k o hk h => (hg.block k (Array.getElem?_eq_some_iff.1 h).1 (fun e => by have := hrow _ e.symm; omega)).trans h
    exact ⟨keep _ _ (by omega) h0, keep _ _ (by omega) h1, keep _ _ (by omega) h2, hb.grown hg hb.size (fun k e => by have := hrow k e; omega), Nat.le_trans hz hg.size⟩
  case round =>
    rintro l pre x W ⟨h0, h1, h2, hb, hz⟩ _ hzl
    have hM := Seal.mk (chM_ok (rs := rs) HN.out.1 pre L HL.out)
    have hs := HS.out
    rcases fin3e x with rfl | rfl | rfl
    · skip
      dsimp only [encC]
      gi_wp2
      refine ⟨KeepsOthers.refl _, fun r hr => by first | rfl | trivial, fun Wb hg hsz => ?_⟩
      have keep : ∀ k o, k < w.heap.size + 3 → W.heap[k]? = some o → Wb.heap[k]? = some o := fun k o hk h => (hg.block k (Array.getElem?_eq_some_iff.1 h).1 (fun e => by have := Option.some.inj e; omega)).trans h
      have b0 := keep _ _ (by omega) h0
      have b1 := keep _ _ (by omega) h1
      have b2 := Seal.mk (keep _ _ (by omega) h2)
      have HBb := Seal.mk (hb.grown hg hb.size (fun k e => by have := Option.some.inj e; omega))
      have k1 : Wb.cell? ⟨w.heap.size + 1, 0, none⟩ = some (.slice (some ⟨gf, 0, none⟩) 1 1) := by rw [cell_of_row _ _ _ _ _ _ b1]; rfl
      have kf : Wb.cell? ⟨gf, 0, none⟩ = some (.func (.func 85) #[] #[.pointer (some ⟨rb, 0, none⟩), .pointer (some ⟨kb, 0, none⟩)]) := by
        have h5 := blk HBb.out (Array.getElem?_eq_some_iff.1 HF.out.1).1 HF.out.1
        rw [cell_of_row _ _ _ _ _ _ h5]; rfl
      have hkb2 : Wb.cell? ⟨kb, 0, none⟩ = some (.int .i64 K) := cell_later HBb.out HF.out.2.1
      have hrb2 : Wb.cell? ⟨rb, 0, none⟩ = some (.int .i64 (rs 0)) := cell_later HBb.out HF.out.2.2.1
      have HC1 := Seal.mk (more1_at0 (chM K rs L pre 0).1 (chM K rs L pre 0).2 K (rs 0) _ _ w.heap.size 0 rb kb (rowL (chM K rs L pre)) Wb b0 (rowL_at (chM K rs L pre) 0).1 (rowL_at (chM K rs L pre) 0).2 hrb2 hkb2 (hM.out 0).1 (hM.out 0).2 HN.out.1 (HN.out.2 0) ⟨rfl⟩)
      have b1 := Seal.mk b1
      have b0s := Seal.mk b0
      have hzb : Seal (Y.heap.size ≤ Wb.heap.size) := ⟨by omega⟩
      have hps : Seal (w.heap.size + 3 = X.heap.size ∧ Y.heap.size = X.heap.size + 1) := ⟨by omega⟩
      clear keep hg hsz h0 h1 h2 hb hs b0 hkb2 hrb2
      gi_wp2
      refine wpIn_loop_rounds 2 ?_
      rw [roundsIn_succ]
      gi_wp2_with (refine ⟨trivial, ?_⟩; gi_at_call 85; refine (callsIn_round HC1.out).mono ?_; rintro e w5 ⟨rfl, hg5, hr5⟩)
      rw [roundsIn_succ]
      have hrow5 : ((rowL (chM K rs L pre)).set 0 (.int .i64 ((mp (chM K rs L pre 0).1.toNat (pw 4 (rs 0)) : Nat) : Int))).set (0 + 1) (.int .i64 ((mp (chM K rs L pre 0).2.toNat (pw K.toNat (rs 0)) : Nat) : Int)) = rowL (chM K rs L (pre ++ [0])) := by rw [chM_snoc]; exact rowL_set2 (chM K rs L pre) 0 (onP K (rs 0) (chM K rs L pre 0))
      rw [hrow5] at hr5
      have R5 := Seal.mk hr5
      have G5 := Seal.mk hg5
      clear hr5 hg5 HC1 k1 kf
      gi_wp2
      have keep5 : ∀ k o, k ≠ w.heap.size → Wb.heap[k]? = some o → w5.heap[k]? = some o := fun k o hk h => (G5.out.block k (Array.getElem?_eq_some_iff.1 h).1 (fun e => hk (Option.some.inj e))).trans h
      refine ⟨KeepsOthers.of_grownBy G5.out (fun j o e ho => ?_), fun r hr => ?_, R5.out, keep5 _ _ (by omega) b1.out, keep5 _ _ (by omega) b2.out, HBb.out.grown G5.out HBb.out.size (fun k e => by have := Option.some.inj e; omega), Nat.le_trans hzb.out G5.out.size⟩
      · cases e
        have h9 := b0s.out
        rw [h9] at ho
        cases ho
        rfl
      · subst hr
        exact G5.out.block _ (by have := hzb.out; have := hps.out; omega) (fun e => by have := Option.some.inj e; have := hps.out; omega)
    · skip
      dsimp only [encC]
      gi_wp2
      refine ⟨KeepsOthers.refl _, fun r hr => by first | rfl | trivial, fun Wb hg hsz => ?_⟩
      have keep : ∀ k o, k < w.heap.size + 3 → W.heap[k]? = some o → Wb.heap[k]? = some o := fun k o hk h => (hg.block k (Array.getElem?_eq_some_iff.1 h).1 (fun e => by have := Option.some.inj e; omega)).trans h
      have b0 := keep _ _ (by omega) h0
      have b1 := keep _ _ (by omega) h1
      have b2 := Seal.mk (keep _ _ (by omega) h2)
      have HBb := Seal.mk (hb.grown hg hb.size (fun k e => by have := Option.some.inj e; omega))
      have k1 : Wb.cell? ⟨w.heap.size + 1, 0, none⟩ = some (.slice (some ⟨gf, 0, none⟩) 1 1) := by rw [cell_of_row _ _ _ _ _ _ b1]; rfl
      have kf : Wb.cell? ⟨gf, 0, none⟩ = some (.func (.func 85) #[] #[.pointer (some ⟨rb, 0, none⟩), .pointer (some ⟨kb, 0, none⟩)]) := by
        have h5 := blk HBb.out (Array.getElem?_eq_some_iff.1 HF.out.1).1 HF.out.1
        rw [cell_of_row _ _ _ _ _ _ h5]; rfl
      have hkb2 : Wb.cell? ⟨kb, 0, none⟩ = some (.int .i64 K) := cell_later HBb.out HF.out.2.1
      have hrb2 : Wb.cell? ⟨rb, 1, none⟩ = some (.int .i64 (rs 1)) := cell_later HBb.out HF.out.2.2.2.1
      have HC1 := Seal.mk (more1_at1 (chM K rs L pre 1).1 (chM K rs L pre 1).2 K (rs 1) _ _ w.heap.size 2 rb kb (rowL (chM K rs L pre)) Wb b0 (rowL_at (chM K rs L pre) 1).1 (rowL_at (chM K rs L pre) 1).2 hrb2 hkb2 (hM.out 1).1 (hM.out 1).2 HN.out.1 (HN.out.2 1) ⟨rfl⟩)
      have b1 := Seal.mk b1
      have b0s := Seal.mk b0
      have hzb : Seal (Y.heap.size ≤ Wb.heap.size) := ⟨by omega⟩
      have hps : Seal (w.heap.size + 3 = X.heap.size ∧ Y.heap.size = X.heap.size + 1) := ⟨by omega⟩
      clear keep hg hsz h0 h1 h2 hb hs b0 hkb2 hrb2
      gi_wp2
      refine wpIn_loop_rounds 2 ?_
      rw [roundsIn_succ]
      gi_wp2_with (refine ⟨trivial, ?_⟩; gi_at_call 85; refine (callsIn_round HC1.out).mono ?_; rintro e w5 ⟨rfl, hg5, hr5⟩)
      rw [roundsIn_succ]
      have hrow5 : ((rowL (chM K rs L pre)).set 2 (.int .i64 ((mp (chM K rs L pre 1).1.toNat (pw 4 (rs 1)) : Nat) : Int))).set (2 + 1) (.int .i64 ((mp (chM K rs L pre 1).2.toNat (pw K.toNat (rs 1)) : Nat) : Int)) = rowL (chM K rs L (pre ++ [1])) := by rw [chM_snoc]; exact rowL_set2 (chM K rs L pre) 1 (onP K (rs 1) (chM K rs L pre 1))
      rw [hrow5] at hr5
      have R5 := Seal.mk hr5
      have G5 := Seal.mk hg5
      clear hr5 hg5 HC1 k1 kf
      gi_wp2
      have keep5 : ∀ k o, k ≠ w.heap.size → Wb.heap[k]? = some o → w5.heap[k]? = some o := fun k o hk h => (G5.out.block k (Array.getElem?_eq_some_iff.1 h).1 (fun e => hk (Option.some.inj e))).trans h
      refine ⟨KeepsOthers.of_grownBy G5.out (fun j o e ho => ?_), fun r hr => ?_, R5.out, keep5 _ _ (by omega) b1.out, keep5 _ _ (by omega) b2.out, HBb.out.grown G5.out HBb.out.size (fun k e => by have := Option.some.inj e; omega), Nat.le_trans hzb.out G5.out.size⟩
      · cases e
        have h9 := b0s.out
        rw [h9] at ho
        cases ho
        rfl
      · subst hr
        exact G5.out.block _ (by have := hzb.out; have := hps.out; omega) (fun e => by have := Option.some.inj e; have := hps.out; omega)
    · skip
      dsimp only [encC]
      gi_wp2
      refine ⟨KeepsOthers.refl _, fun r hr => by first | rfl | trivial, fun Wb hg hsz => ?_⟩
      have keep : ∀ k o, k < w.heap.size + 3 → W.heap[k]? = some o → Wb.heap[k]? = some o := fun k o hk h => (hg.block k (Array.getElem?_eq_some_iff.1 h).1 (fun e => by have := Option.some.inj e; omega)).trans h
      have b0 := keep _ _ (by omega) h0
      have b1 := keep _ _ (by omega) h1
      have b2 := Seal.mk (keep _ _ (by omega) h2)
      have HBb := Seal.mk (hb.grown hg hb.size (fun k e => by have := Option.some.inj e; omega))
      have k1 : Wb.cell? ⟨w.heap.size + 1, 0, none⟩ = some (.slice (some ⟨gf, 0, none⟩) 1 1) := by rw [cell_of_row _ _ _ _ _ _ b1]; rfl
      have kf : Wb.cell? ⟨gf, 0, none⟩ = some (.func (.func 85) #[] #[.pointer (some ⟨rb, 0, none⟩), .pointer (some ⟨kb, 0, none⟩)]) := by
        have h5 := blk HBb.out (Array.getElem?_eq_some_iff.1 HF.out.1).1 HF.out.1
        rw [cell_of_row _ _ _ _ _ _ h5]; rfl
      have hkb2 : Wb.cell? ⟨kb, 0, none⟩ = some (.int .i64 K) := cell_later HBb.out HF.out.2.1
      have hrb2 : Wb.cell? ⟨rb, 2, none⟩ = some (.int .i64 (rs 2)) := cell_later HBb.out HF.out.2.2.2.2
      have HC1 := Seal.mk (more1_at2 (chM K rs L pre 2).1 (chM K rs L pre 2).2 K (rs 2) _ _ w.heap.size 4 rb kb (rowL (chM K rs L pre)) Wb b0 (rowL_at (chM K rs L pre) 2).1 (rowL_at (chM K rs L pre) 2).2 hrb2 hkb2 (hM.out 2).1 (hM.out 2).2 HN.out.1 (HN.out.2 2) ⟨rfl⟩)
      have b1 := Seal.mk b1
      have b0s := Seal.mk b0
      have hzb : Seal (Y.heap.size ≤ Wb.heap.size) := ⟨by omega⟩
      have hps : Seal (w.heap.size + 3 = X.heap.size ∧ Y.heap.size = X.heap.size + 1) := ⟨by omega⟩
      clear keep hg hsz h0 h1 h2 hb hs b0 hkb2 hrb2
      gi_wp2
      refine wpIn_loop_rounds 2 ?_
      rw [roundsIn_succ]
      gi_wp2_with (refine ⟨trivial, ?_⟩; gi_at_call 85; refine (callsIn_round HC1.out).mono ?_; rintro e w5 ⟨rfl, hg5, hr5⟩)
      rw [roundsIn_succ]
      have hrow5 : ((rowL (chM K rs L pre)).set 4 (.int .i64 ((mp (chM K rs L pre 2).1.toNat (pw 4 (rs 2)) : Nat) : Int))).set (4 + 1) (.int .i64 ((mp (chM K rs L pre 2).2.toNat (pw K.toNat (rs 2)) : Nat) : Int)) = rowL (chM K rs L (pre ++ [2])) := by rw [chM_snoc]; exact rowL_set2 (chM K rs L pre) 2 (onP K (rs 2) (chM K rs L pre 2))
      rw [hrow5] at hr5
      have R5 := Seal.mk hr5
      have G5 := Seal.mk hg5
      clear hr5 hg5 HC1 k1 kf
      gi_wp2
      have keep5 : ∀ k o, k ≠ w.heap.size → Wb.heap[k]? = some o → w5.heap[k]? = some o := fun k o hk h => (G5.out.block k (Array.getElem?_eq_some_iff.1 h).1 (fun e => hk (Option.some.inj e))).trans h
      refine ⟨KeepsOthers.of_grownBy G5.out (fun j o e ho => ?_), fun r hr => ?_, R5.out, keep5 _ _ (by omega) b1.out, keep5 _ _ (by omega) b2.out, HBb.out.grown G5.out HBb.out.size (fun k e => by have := Option.some.inj e; omega), Nat.le_trans hzb.out G5.out.size⟩
      · cases e
        have h9 := b0s.out
        rw [h9] at ho
        cases ho
        rfl
      · subst hr
        exact G5.out.block _ (by have := hzb.out; have := hps.out; omega) (fun e => by have := Option.some.inj e; have := hps.out; omega)
  case done =>
    rintro D xs W hD rfl ⟨h0, h1, h2, hb, hz⟩ hK
    rw [chM_done] at h0
    obtain ⟨R, hR⟩ : ∃ R, R = (rowL (fun j => onP K (rs j) (L j))).toArray := ⟨_, rfl⟩
    have HB := Seal.mk hb
    have H0 : Seal (W.heap[w.heap.size]? = some (.cells R 32 (0, 0))) := ⟨by rw [hR]; exact h0⟩
    have H2 := Seal.mk h2
    have IR : Seal ((Tryd.prog.info? 32).map (·.size) = some R.size) := ⟨by rw [hR]; exact rowL_info _⟩
    have SR : Seal ((#[.int .i64 0, .int .i64 0, .int .i64 0, .int .i64 0, .int .i64 0, .int .i64 0] : Array Value).size = R.size) := ⟨by rw [hR]; rfl⟩
    have OR : Seal (R.all (·.oneCell') = true) := ⟨by rw [hR]; exact rowL_one _⟩
    have HRq := Seal.mk hR
    have hs := HS.out
    clear h0 h1 h2 hb hR
    go_wp2_with (first | (refine wpList_load_row rfl 32 (.tmp 2) rfl w.heap.size rfl 32 R (0, 0) _ H0.out Tryd.underlying32 rfl IR.out ?_) | (refine wpList_store_row rfl 32 (.tmp 4) (.tmp 23) rfl (w.heap.size + 1 + 1) R rfl rfl 32 #[.int .i64 0, .int .i64 0, .int .i64 0, .int .i64 0, .int .i64 0, .int .i64 0] H2.out IR.out SR.out OR.out ?_))
    have hK' := (keeps_setRow H2.out R).same D _ hK rfl
    refine ⟨by simp, .inl ⟨_, _, rfl, run_takeDeferred hK', ?_⟩⟩
    refine ⟨_, results_cell_row (fn := Tryd.f47) rfl _ _ (w.heap.size + 1 + 1) 32 R (0, 0) _ rfl ((World.putObj_heap_other (by omega)).trans (setRow_heap _ _ _ _ _ _ H2.out)) Tryd.underlying32 rfl IR.out, by rw [HRq.out], ?_⟩
    exact (below_row HB.out (by omega) _).trans (belowK_b (w := w) (Nat.le_refl _) _ D _ _ (by omega) hK' rfl rfl)
end

theorem exec_store_row {P : Program} {o : Oper} {a : Act} {w : World} (ty : TypeId) (x y : Operand) (ho : o.op = .store ty x y)
    (g : Nat) (cells : Array Value) (hx : a.eval x = .pointer (some ⟨g, 0, none⟩)) (hy : a.eval y = .agg cells)
    (t : TypeId) (old : Array Value) (hg : w.heap[g]? = some (.cells old t (0, 0))) (hi : (P.info? ty).map (·.size) = some cells.size)
    (hold : old.size = cells.size) (h1 : cells.all (·.oneCell') = true) : (execOp a.eval o).run P w = .ok .skip (w.setRow g cells) := by
  unfold execOp
  simp only [ho, hx, hy, Instr.storeAt, Instr.sureAddr, Sem.run_bind, Sem.run_pure, Result.andThen_ok, run_storeVar_row w g t ty old cells hg hi hold h1]

theorem emore_any (K r0 r1 r2 : Int) (w : World) : Calls Tryd.prog 48 #[.int .i64 K, .agg #[.int .i64 r0, .int .i64 r1, .int .i64 r2]] w fun e w' => e = .returned (.func (.func 85) #[] #[.pointer (some ⟨w.heap.size + 1, 0, none⟩), .pointer (some ⟨w.heap.size, 0, none⟩)]) ∧ (w.alloc (.cells #[.int .i64 K] 3)).alloc (.cells #[.int .i64 r0, .int .i64 r1, .int .i64 r2] 22) = w' := by
  go_enter Tryd.func48, Tryd.ntmps48
  go_wp2
  go_ret
  exact ⟨rfl, rfl⟩

theorem idxw0 (a b c : Int) (w : World) : (Instr.index 23 (.agg #[.int .i64 a, .int .i64 b, .int .i64 c]) (.int .i64 0)).run Tryd.prog w = .ok (.int .i64 a) w := by kernel_rfl
theorem idxw1 (a b c : Int) (w : World) : (Instr.index 23 (.agg #[.int .i64 a, .int .i64 b, .int .i64 c]) (.int .i64 1)).run Tryd.prog w = .ok (.int .i64 b) w := by kernel_rfl
theorem idxw2 (a b c : Int) (w : World) : (Instr.index 23 (.agg #[.int .i64 a, .int .i64 b, .int .i64 c]) (.int .i64 2)).run Tryd.prog w = .ok (.int .i64 c) w := by kernel_rfl
set_option maxHeartbeats 4000000 in
theorem eseal_yes (K a b c r0 r1 r2 : Int) (w : World) (vK : vd K = true) (ha : 1 ≤ a ∧ a ≤ 1073741789) (hb : 1 ≤ b ∧ b ≤ 1073741789) (hc : 1 ≤ c ∧ c ≤ 1073741789) (i0 : I64 r0) (i1 : I64 r1) (i2 : I64 r2) :
    Calls Tryd.prog 18 #[.int .i64 K, .agg #[.int .i64 a, .int .i64 b, .int .i64 c], .agg #[.int .i64 r0, .int .i64 r1, .int .i64 r2]] w fun e w' => e = .returned (.tuple #[.agg (rowL (fun | 0 => onP K r0 (1, elB a) | 1 => onP K r1 (1, elB b) | 2 => onP K r2 (1, elB c))).toArray, .int .i64 0]) ∧ Below w.heap.size w w' := by
  have HV := Seal.mk vK
  have HEa : Seal (∀ W, Calls Tryd.prog 42 #[.int .i64 a] W fun e w' => e = .returned (.tuple #[.int .i64 (elB a), .int .i64 0]) ∧ W = w') := ⟨fun W => element_yes a _ W ha.1 ha.2 ⟨rfl⟩⟩
  have HEb : Seal (∀ W, Calls Tryd.prog 42 #[.int .i64 b] W fun e w' => e = .returned (.tuple #[.int .i64 (elB b), .int .i64 0]) ∧ W = w') := ⟨fun W => element_yes b _ W hb.1 hb.2 ⟨rfl⟩⟩
  have HEc : Seal (∀ W, Calls Tryd.prog 42 #[.int .i64 c] W fun e w' => e = .returned (.tuple #[.int .i64 (elB c), .int .i64 0]) ∧ W = w') := ⟨fun W => element_yes c _ W hc.1 hc.2 ⟨rfl⟩⟩
  obtain ⟨x, hx⟩ : ∃ x, x = elB a := ⟨_, rfl⟩
  obtain ⟨y, hy⟩ : ∃ y, y = elB b := ⟨_, rfl⟩
  obtain ⟨z, hz⟩ : ∃ z, z = elB c := ⟨_, rfl⟩
  have HXV : Seal (vd x = true ∧ vd y = true ∧ vd z = true) := ⟨by rw [hx, hy, hz]; exact ⟨elB_vd ha.1 ha.2, elB_vd hb.1 hb.2, elB_vd hc.1 hc.2⟩⟩
  rw [← hx, ← hy, ← hz]
  rw [← hx] at HEa
  rw [← hy] at HEb
  rw [← hz] at HEc
  have HI : Seal (I64 r0 ∧ I64 r1 ∧ I64 r2) := ⟨i0, i1, i2⟩
  clear ha hb hc hx hy hz vK i0 i1 i2
  have id0 := fun W => idxw0 a b c W
  have id1 := fun W => idxw1 a b c W
  have id2 := fun W => idxw2 a b c W
  go_enter Tryd.func18, Tryd.ntmps18
  go_wp2_with (go_at_call 37; refine (valid_at1 _ true _ HV.out).mono ?_; rintro e w' ⟨rfl, rfl⟩)
  refine wp_loop_rounds 4 ?_
  rw [rounds_succ]
  go_wp2_with (go_at_call 42; refine (HEa.out _).mono ?_; rintro e w' ⟨rfl, rfl⟩)
  rw [rounds_succ]
  go_wp2_with (go_at_call 42; refine (HEb.out _).mono ?_; rintro e w' ⟨rfl, rfl⟩)
  rw [rounds_succ]
  go_wp2_with (go_at_call 42; refine (HEc.out _).mono ?_; rintro e w' ⟨rfl, rfl⟩)
  rw [rounds_succ]
  go_wp2_with fail
  obtain ⟨Y, hY⟩ : ∃ Y : World, Y = ((w.alloc (.cells #[.int .i64 a, .int .i64 b, .int .i64 c] 23)).alloc (.cells #[.int .i64 r0, .int .i64 r1, .int .i64 r2] 22)).alloc (.cells #[.int .i64 1, .int .i64 x, .int .i64 1, .int .i64 y, .int .i64 1, .int .i64 z] 32) := ⟨_, rfl⟩
  have HYb : Seal (Below w.heap.size w Y) := ⟨by rw [hY]; exact (((Below.refl _ w).alloc (Nat.le_refl _) _).alloc (by simp) _).alloc (by simp; omega) _⟩
  have HYs : Seal (Y.heap.size = w.heap.size + 3) := ⟨by rw [hY]; simp⟩
  have HY2 : Seal (Y.heap[w.heap.size + 1 + 1]? = some (.cells #[.int .i64 1, .int .i64 x, .int .i64 1, .int .i64 y, .int .i64 1, .int .i64 z] 32 (0, 0))) := ⟨by rw [hY]; have := heap_alloc_new ((w.alloc (.cells #[.int .i64 a, .int .i64 b, .int .i64 c] 23)).alloc (.cells #[.int .i64 r0, .int .i64 r1, .int .i64 r2] 22)) (.cells #[.int .i64 1, .int .i64 x, .int .i64 1, .int .i64 y, .int .i64 1, .int .i64 z] 32); rwa [size_alloc, size_alloc] at this⟩
  have HY1 : Seal (Y.heap[w.heap.size + 1]? = some (.cells #[.int .i64 r0, .int .i64 r1, .int .i64 r2] 22 (0, 0))) := ⟨by rw [hY, Below.heap_alloc _ _ _ (by simp)]; have := heap_alloc_new (w.alloc (.cells #[.int .i64 a, .int .i64 b, .int .i64 c] 23)) (.cells #[.int .i64 r0, .int .i64 r1, .int .i64 r2] 22); rwa [size_alloc] at this⟩
  rw [← hY]
  clear hY id0 id1 id2 HEa HEb HEc
  have q1 : Y.rangeAt (w.heap.size + 1 + 1) 0 [.int .i64 1, .int .i64 x, .int .i64 1, .int .i64 y, .int .i64 1, .int .i64 z] := rangeAt_row (cs := [.int .i64 1, .int .i64 x, .int .i64 1, .int .i64 y, .int .i64 1, .int .i64 z]) HY2.out
  have q2 : Y.rangeAt (w.heap.size + 1) 0 [.int .i64 r0, .int .i64 r1, .int .i64 r2] := rangeAt_row (cs := [.int .i64 r0, .int .i64 r1, .int .i64 r2]) HY1.out
  have i1 : (Tryd.prog.info? 32).map (·.size) = some ([.int .i64 1, .int .i64 x, .int .i64 1, .int .i64 y, .int .i64 1, .int .i64 z] : List Value).length := by kernel_rfl
  have i2 : (Tryd.prog.info? 22).map (·.size) = some ([.int .i64 r0, .int .i64 r1, .int .i64 r2] : List Value).length := by kernel_rfl
  have u1 := Tryd.underlying32
  have u2 := Tryd.underlying22
  refine wp_region_heldU 6 (S := fun w' => w'.rangeAt (w.heap.size + 1 + 1) 0 [.int .i64 1, .int .i64 x, .int .i64 1, .int .i64 y, .int .i64 1, .int .i64 z] ∧ w'.rangeAt (w.heap.size + 1) 0 [.int .i64 r0, .int .i64 r1, .int .i64 r2]) (by kernel_rfl) ⟨q1, q2⟩ (fun hHeld => ?_)
  refine take_u 0 _ rfl (by kernel_rfl) (by kernel_rfl) (by kernel_rfl) (by kernel_rfl) (by kernel_rfl) (fun _ _ _ h => h) (yieldsIf_load_mid (by kernel_rfl) 32 (.tmp 6) rfl (w.heap.size + 1 + 1) 0 rfl [.int .i64 1, .int .i64 x, .int .i64 1, .int .i64 y, .int .i64 1, .int .i64 z] _ (fun w hSw => hSw.1) u1 rfl i1) (by assumption) ?_
  try simp only [Act.put, List.setIfInBounds_toArray, List.set_cons_zero, List.set_cons_succ]
  refine take_p 1 ?_ rfl (by kernel_rfl) (by kernel_rfl) (by kernel_rfl) (by kernel_rfl) (fun _ _ _ h => h) (Or.inl ⟨by kernel_rfl, ?_⟩) (fun _ => by assumption) ?_
  rotate_left
  · (intro w _; go_simp; try (with_reducible rfl))
  try simp only [Act.put, List.setIfInBounds_toArray, List.set_cons_zero, List.set_cons_succ]
  refine take_u 2 _ rfl (by kernel_rfl) (by kernel_rfl) (by kernel_rfl) (by kernel_rfl) (by kernel_rfl) (fun _ _ _ h => h) (yieldsIf_load_mid (by kernel_rfl) 22 (.tmp 5) rfl (w.heap.size + 1) 0 rfl [.int .i64 r0, .int .i64 r1, .int .i64 r2] _ (fun w hSw => hSw.2) u2 rfl i2) (by assumption) ?_
  try simp only [Act.put, List.setIfInBounds_toArray, List.set_cons_zero, List.set_cons_succ]
  refine call_u 3 rfl (by kernel_rfl) 48 #[.int .i64 K, .agg #[.int .i64 r0, .int .i64 r1, .int .i64 r2]] (by kernel_rfl) (by go_simp) ?_
  refine (emore_any K r0 r1 r2 Y.drew).mono ?_
  rintro e w1 ⟨rfl, hw1⟩
  have hs1 : w1.heap.size = Y.heap.size + 2 := by rw [← hw1]; simp
  have hb0 : Below Y.drew.heap.size Y.drew w1 := by rw [← hw1]; exact ((Below.refl _ Y.drew).alloc (Nat.le_refl _) _).alloc (by simp) _
  have hb1 : Below Y.heap.size Y w1 := ⟨hb0.os, hb0.tape, hb0.output, hb0.size, hb0.block⟩
  have hk1 : w1.heap[Y.heap.size]? = some (.cells #[.int .i64 K] 3 (0, 0)) := by rw [← hw1]; exact heap_alloc2_old Y.drew _ _
  have hr1 : w1.heap[Y.heap.size + 1]? = some (.cells #[.int .i64 r0, .int .i64 r1, .int .i64 r2] 22 (0, 0)) := by rw [← hw1]; exact heap_alloc2_new Y.drew _ _
  have HB1 := Seal.mk hb1
  have HK1 := Seal.mk (And.intro hk1 (And.intro hr1 hs1))
  refine ⟨_, rfl, ⟨rangeAt_below' q1 hb1, rangeAt_below' q2 hb1⟩, fun hHeld2 => ?_⟩
  clear hHeld hb0 hb1 hk1 hr1 hs1 hw1 q1 q2
  try simp only [Act.put, List.setIfInBounds_toArray, List.set_cons_zero, List.set_cons_succ]
  obtain ⟨R, hR⟩ : ∃ R, R = (rowL (fun | 0 => onP K r0 (1, x) | 1 => onP K r1 (1, y) | 2 => onP K r2 (1, z))).toArray := ⟨_, rfl⟩
  have HRq := Seal.mk hR
  have IR : Seal ((Tryd.prog.info? 32).map (·.size) = some R.size) := ⟨by rw [hR]; exact rowL_info _⟩
  have SR : Seal ((#[.int .i64 1, .int .i64 x, .int .i64 1, .int .i64 y, .int .i64 1, .int .i64 z] : Array Value).size = R.size) := ⟨by rw [hR]; rfl⟩
  have OR : Seal (R.all (·.oneCell') = true) := ⟨by rw [hR]; exact rowL_one _⟩
  have HCh := Seal.mk (echanged_more (fun | 0 => (1, x) | 1 => (1, y) | 2 => (1, z)) K (fun | 0 => r0 | 1 => r1 | 2 => r2) w1.heap.size (Y.heap.size + 1) Y.heap.size (w1.alloc (.cells #[.func (.func 85) #[] #[.pointer (some ⟨Y.heap.size + 1, 0, none⟩), .pointer (some ⟨Y.heap.size, 0, none⟩)]] 91))
    (fun j => by have v1 : vd 1 = true := by decide +kernel
                 rcases fin3e j with rfl | rfl | rfl
                 · exact ⟨v1, HXV.out.1⟩
                 · exact ⟨v1, HXV.out.2.1⟩
                 · exact ⟨v1, HXV.out.2.2⟩)
    HV.out (fun j => by rcases fin3e j with rfl | rfl | rfl
                        · exact HI.out.1
                        · exact HI.out.2.1
                        · exact HI.out.2.2)
    (heap_alloc_new w1 _) (cell_allocd (by rw [cell_of_row _ _ _ _ _ _ HK1.out.1]; rfl) _)
    (cell_allocd (by rw [cell_of_row _ _ _ _ _ _ HK1.out.2.1]; rfl) _) (cell_allocd (by rw [cell_of_row _ _ _ _ _ _ HK1.out.2.1]; rfl) _) (cell_allocd (by rw [cell_of_row _ _ _ _ _ _ HK1.out.2.1]; rfl) _))
  have eL : (rowL (fun | 0 => (1, x) | 1 => (1, y) | 2 => (1, z))).toArray = #[.int .i64 1, .int .i64 x, .int .i64 1, .int .i64 y, .int .i64 1, .int .i64 z] := rfl
  have eR : (rowL (fun j => onP K ((fun | 0 => r0 | 1 => r1 | 2 => r2 : Fin 3 → Int) j) ((fun | 0 => (1, x) | 1 => (1, y) | 2 => (1, z) : Fin 3 → Int × Int) j))).toArray = R := by
    rw [hR]; rfl
  have HCh' : Seal (Calls Tryd.prog 47 #[.agg #[.int .i64 1, .int .i64 x, .int .i64 1, .int .i64 y, .int .i64 1, .int .i64 z], .slice (some ⟨w1.heap.size, 0, none⟩) 1 1] (w1.alloc (.cells #[.func (.func 85) #[] #[.pointer (some ⟨Y.heap.size + 1, 0, none⟩), .pointer (some ⟨Y.heap.size, 0, none⟩)]] 91)) fun e w' => e = .returned (.agg R) ∧ Below (w1.alloc (.cells #[.func (.func 85) #[] #[.pointer (some ⟨Y.heap.size + 1, 0, none⟩), .pointer (some ⟨Y.heap.size, 0, none⟩)]] 91)).heap.size (w1.alloc (.cells #[.func (.func 85) #[] #[.pointer (some ⟨Y.heap.size + 1, 0, none⟩), .pointer (some ⟨Y.heap.size, 0, none⟩)]] 91)) w') := ⟨by
    have h := HCh.out
    rw [eR, eL] at h
    exact h⟩
  clear HCh eL eR hR
  refine oper_u 4 (.slice (some ⟨w1.heap.size, 0, none⟩) 1 1) (w1.alloc (.cells #[.func (.func 85) #[] #[.pointer (some ⟨Y.heap.size + 1, 0, none⟩), .pointer (some ⟨Y.heap.size, 0, none⟩)]] 91)) rfl (by kernel_rfl) (by kernel_rfl) (by go_simp) (fun _ => ⟨World.rangeAt_alloc hHeld2.1 _, World.rangeAt_alloc hHeld2.2 _⟩) ?_
  try simp only [Act.put, List.setIfInBounds_toArray, List.set_cons_zero, List.set_cons_succ]
  have hHeld3 : _ ∧ _ := ⟨World.rangeAt_alloc hHeld2.1 (.cells #[.func (.func 85) #[] #[.pointer (some ⟨Y.heap.size + 1, 0, none⟩), .pointer (some ⟨Y.heap.size, 0, none⟩)]] 91), World.rangeAt_alloc hHeld2.2 (.cells #[.func (.func 85) #[] #[.pointer (some ⟨Y.heap.size + 1, 0, none⟩), .pointer (some ⟨Y.heap.size, 0, none⟩)]] 91)⟩
  clear hHeld2
  refine call_u 5 rfl (by kernel_rfl) 47 #[.agg #[.int .i64 1, .int .i64 x, .int .i64 1, .int .i64 y, .int .i64 1, .int .i64 z], .slice (some ⟨w1.heap.size, 0, none⟩) 1 1] (by kernel_rfl) (by go_simp) ?_
  refine HCh'.out.mono ?_
  rintro e w2 ⟨rfl, hb⟩
  have HB2 : Seal (Below Y.heap.size Y w2) := ⟨(HB1.out.alloc HB1.out.size _).trans (hb.mono (by have := HB1.out.size; rw [size_alloc]; omega))⟩
  refine ⟨_, rfl, ⟨rangeAt_below' hHeld3.1 hb, rangeAt_below' hHeld3.2 hb⟩, fun hHeld4 => ?_⟩
  clear hHeld3 hb HCh' HB1
  try simp only [Act.put, List.setIfInBounds_toArray, List.set_cons_zero, List.set_cons_succ]
  have r6 := blk HB2.out (Array.getElem?_eq_some_iff.1 HY2.out).1 HY2.out
  refine skip_at_u 6 (w2.setRow (w.heap.size + 1 + 1) R) rfl (by kernel_rfl) (by kernel_rfl) (by kernel_rfl) (exec_store_row 32 (.tmp 6) (.tmp 39) rfl (w.heap.size + 1 + 1) R rfl rfl 32 #[.int .i64 1, .int .i64 x, .int .i64 1, .int .i64 y, .int .i64 1, .int .i64 z] r6 IR.out SR.out OR.out) ?_
  have R6 := Seal.mk r6
  clear r6 hHeld4
  refine anyU_of_H (S' := fun _ => True) _ _ _ _ (by kernel_rfl) ?_
  have hHeld : (fun _ : World => True) (w2.setRow (w.heap.size + 1 + 1) R) := trivial
  refine take_h 7 ?_ rfl (by kernel_rfl) (by kernel_rfl) (by kernel_rfl) (fun _ _ _ h => h) (Or.inl ⟨by kernel_rfl, ?_⟩) (by assumption) ?_
  rotate_left
  · (intro w hSw; (try dsimp only at hSw); go_simp; try (with_reducible rfl))
  try simp only [Act.put, List.setIfInBounds_toArray, List.set_cons_zero, List.set_cons_succ]
  refine wpAnyH_done (by kernel_rfl) ?_ _
  clear hHeld
  go_wp2
  have hs := HYs.out
  exact bodyPost_ret (results_row_tmp (fn := Tryd.f18) rfl _ _ (w.heap.size + 1 + 1) 32 R (0, 0) _ _ rfl rfl (setRow_heap _ _ _ _ _ _ R6.out) Tryd.underlying32 rfl IR.out) rfl ⟨by rw [HRq.out]; rfl, below_row (HYb.out.trans (HB2.out.mono HYb.out.size)) (by omega) _⟩
end Frk
