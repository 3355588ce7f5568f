/- Maps whose elements are read as they are, with the number of their entries; numbers and digests as keys. -/
import Derived.Test.YtnpnboldjbljaaaDoorVfKpt
import Derived.Maps.OwnIn
import Derived.Maps.RangeWalk
import Derived.DeepKeys4
namespace Frk
open Go Go.RowKit Go.Proofs
open Go.Maps (Keyed)
set_option maxRecDepth 100000

/-- an element reads as itself -/
def rv (v : Value) : Option (DataW Value × List MemPlace) := some (.held v, [])
open Classical in
/-- a function turned at one place -/
noncomputable def upd (f : Value → Option Value) (k v : Value) : Value → Option Value := fun x => if x = k then some v else f x
theorem upd_same (f : Value → Option Value) (k v : Value) : upd f k v k = some v := by unfold upd; rw [if_pos rfl]
theorem upd_other (f : Value → Option Value) {k x : Value} (v : Value) (h : x ≠ k) : upd f k v x = f x := by unfold upd; rw [if_neg h]

/-- the datum D says what f says, and has n entries -/
def SaysN (P : Program) (k : TypeId) (n : Nat) (f : Value → Option Value) (D : DataW Value) : Prop :=
  Maps.size D = n ∧ ∀ kv kl, keyOf P k kv = some kl → (∀ z, D.atKey kl (.held z) = .held ((f kv).getD z)) ∧ Maps.has D kl = (f kv).isSome
/-- block b is a map of n entries; at each key it has what f says -/
def MapN (w : World) (P : Program) (k : TypeId) (b n : Nat) (f : Value → Option Value) : Prop := ∃ D, w.ownsMap P k rv b n D ∧ SaysN P k n f D

variable {P : Program} {k : TypeId} {w : World} {b n : Nat} {f : Value → Option Value}

theorem own_exact {D : DataW Value} {m : Nat} (h : w.ownsMap P k rv b m D) : w.ownsMap P k rv b (Maps.size D) D := by
  obtain ⟨es, clock, hb, F, hs, rfl⟩ := h
  exact ⟨es, clock, hb, F, by simp [Maps.size, length_sorted], rfl⟩
theorem mapN_made (w : World) (P : Program) (k : TypeId) : MapN (w.alloc (.map #[] 0)) P k w.heap.size 0 (fun _ => none) :=
  ⟨_, World.ownsMap_made w P k rv, rfl, fun _ _ _ => ⟨fun _ => rfl, rfl⟩⟩
theorem MapN.lt (h : MapN w P k b n f) : b < w.heap.size := by obtain ⟨D, h, _⟩ := h; exact h.lt
theorem MapN.of_block {w' : World} (h : MapN w P k b n f) (e : w'.heap[b]? = w.heap[b]?) : MapN w' P k b n f := by
  obtain ⟨D, ⟨es, c, hb, r⟩, h2⟩ := h
  exact ⟨D, ⟨es, c, e.trans hb, r⟩, h2⟩
theorem MapN.kept {w' : World} {row : Option Nat} (h : MapN w P k b n f) (hg : w.grownBy w' row) (hne : some b ≠ row) : MapN w' P k b n f := h.of_block (hg.block b h.lt hne)
theorem MapN.below {w' : World} (h : MapN w P k b n f) (hb : Below w.heap.size w w') : MapN w' P k b n f := h.of_block (hb.block b h.lt)
theorem MapN.congr {g : Value → Option Value} (h : MapN w P k b n f) (e : ∀ kv kl, keyOf P k kv = some kl → f kv = g kv) : MapN w P k b n g := by
  obtain ⟨D, h1, h0, h2⟩ := h
  exact ⟨D, h1, h0, fun kv kl hk => by rw [← e kv kl hk]; exact h2 kv kl hk⟩

theorem MapN.look {t e : TypeId} (h : MapN w P k b n f) (K : Keyed P k) (ht : P.underlying t = some (.map k e)) {z : Value} (hz : (zeroValue e).run P w = .ok z w) {key : Value} {kl : Lit} (hkey : keyOf P k key = some kl) :
    (Instr.lookup t (.map (some b)) key true).run P w = .ok (.tuple #[(f key).getD z, .bool (f key).isSome]) w := by
  obtain ⟨D, h1, h0, h2⟩ := h
  obtain ⟨v, ps, hr, hv⟩ := h1.look_ok K ht hz (zd := .held z) (zp := []) rfl hkey
  rw [(h2 key kl hkey).1 z] at hv
  have : v = (f key).getD z := by
    unfold rv at hv
    simp only [Option.some.injEq, Prod.mk.injEq, DataW.held.injEq] at hv
    exact hv.1
  rw [hr, this, (h2 key kl hkey).2]
theorem MapN.look1 {t e : TypeId} (h : MapN w P k b n f) (K : Keyed P k) (ht : P.underlying t = some (.map k e)) {z : Value} (hz : (zeroValue e).run P w = .ok z w) {key : Value} {kl : Lit} (hkey : keyOf P k key = some kl) :
    (Instr.lookup t (.map (some b)) key false).run P w = .ok ((f key).getD z) w := by
  obtain ⟨D, h1, h0, h2⟩ := h
  obtain ⟨v, ps, hr, hv⟩ := h1.lookup K ht hz (zd := .held z) (zp := []) rfl hkey
  rw [(h2 key kl hkey).1 z] at hv
  have : v = (f key).getD z := by
    unfold rv at hv
    simp only [Option.some.injEq, Prod.mk.injEq, DataW.held.injEq] at hv
    exact hv.1
  rw [hr, this]
theorem MapN.store {t e : TypeId} (h : MapN w P k b n f) (K : Keyed P k) (ht : P.underlying t = some (.map k e)) (hn : n < maxLen) {key : Value} {kl : Lit} (hkey : keyOf P k key = some kl) (v : Value) {n' : Nat} (hn' : n' = if (f key).isSome then n else n + 1) :
    ∃ w', (Instr.mapUpdate t (.map (some b)) key v).run P w = .ok () w' ∧ MapN w' P k b n' (upd f key v) ∧ w.grownBy w' (some b) ∧ w'.heap.size = w.heap.size := by
  obtain ⟨D, h1, h0, h2⟩ := h
  obtain ⟨w', hr, ho, hg⟩ := h1.store K ht hn (d := .held v) (ps := []) hkey rfl
  have hsz : Maps.size (D.put kl (.held v)) = n' := by
    rw [Maps.size_put (h1.tidy K), (h2 key kl hkey).2, h0, hn']
  refine ⟨w', hr, ⟨_, hsz ▸ own_exact ho, hsz, fun kv kl' hk' => ?_⟩, hg.grown, ?_⟩
  · by_cases he : kv = key
    · subst he
      obtain rfl : kl' = kl := by rw [hkey] at hk'; exact (Option.some.inj hk').symm
      rw [upd_same]
      exact ⟨fun z => Maps.atKey_put_same h1.isMap (K.key hkey) _ _, Maps.has_put_same h1.isMap (K.key hkey) _⟩
    · rw [upd_other _ _ he]
      have hne : kl' ≠ kl := fun e => he (K.inj (e ▸ hk') hkey)
      exact ⟨fun z => by rw [Maps.atKey_put_other hne]; exact (h2 kv kl' hk').1 z, by rw [Maps.has_put_other hne]; exact (h2 kv kl' hk').2⟩
  · obtain ⟨_, _, _, _, _, rfl⟩ := hg
    simp [Go.ChangeMaps.setBlock]

/-! ## at the operation -/
section
variable {ops : Array Oper} {rest : List Oper} {o : Oper} {a : Act} {Q : Exit → Act → World → Prop}
theorem wpList_lookN (hg : o.guard = none) (m x : Operand) (t : TypeId) (hop : o.op = Op.lookup t m x true) (k e : TypeId) (K : Keyed P k) (ht : P.underlying t = some (.map k e)) {z : Value} (hz : (zeroValue e).run P w = .ok z w)
    (b n : Nat) (f : Value → Option Value) (hm : a.eval m = .map (some b)) (hown : MapN w P k b n f) (key : Value) (hx : a.eval x = key) {kl : Lit} (hkey : keyOf P k key = some kl) (v : Value) (ok : Bool) (hv : (f key).getD z = v) (hok : (f key).isSome = ok)
    (hK : wpList P ops Q rest (a.put o.dst (.tuple #[v, .bool ok])) w) : wpList P ops Q (o :: rest) a w := by
  refine wpList_plain hg fun K' hK' => ?_
  have hrun := hown.look K ht hz hkey
  rw [hv, hok] at hrun
  unfold Oper.wp
  simp [execOp, hop, hm, hx, hrun, Result.andThen]
  exact hK' _ _ hK
theorem wpList_look1N (hg : o.guard = none) (m x : Operand) (t : TypeId) (hop : o.op = Op.lookup t m x false) (k e : TypeId) (K : Keyed P k) (ht : P.underlying t = some (.map k e)) {z : Value} (hz : (zeroValue e).run P w = .ok z w)
    (b n : Nat) (f : Value → Option Value) (hm : a.eval m = .map (some b)) (hown : MapN w P k b n f) (key : Value) (hx : a.eval x = key) {kl : Lit} (hkey : keyOf P k key = some kl) (v : Value) (hv : (f key).getD z = v)
    (hK : wpList P ops Q rest (a.put o.dst v) w) : wpList P ops Q (o :: rest) a w := by
  refine wpList_plain hg fun K' hK' => ?_
  have hrun := hown.look1 K ht hz hkey
  rw [hv] at hrun
  unfold Oper.wp
  simp [execOp, hop, hm, hx, hrun, Result.andThen]
  exact hK' _ _ hK
theorem wpList_updN (hg : o.guard = none) (m x v : Operand) (t : TypeId) (hop : o.op = Op.mapUpdate t m x v) (k e : TypeId) (K : Keyed P k) (ht : P.underlying t = some (.map k e))
    (b n n' : Nat) (f : Value → Option Value) (hm : a.eval m = .map (some b)) (hown : MapN w P k b n f) (hn : n < maxLen) (key val : Value) (hx : a.eval x = key) (hv : a.eval v = val) {kl : Lit} (hkey : keyOf P k key = some kl) (hn' : n' = if (f key).isSome then n else n + 1)
    (hK : ∀ w', MapN w' P k b n' (upd f key val) → w.grownBy w' (some b) → w'.heap.size = w.heap.size → wpList P ops Q rest (a.put o.dst undef) w') : wpList P ops Q (o :: rest) a w := by
  refine wpList_plain hg fun K' hK' => ?_
  obtain ⟨w', hrun, r1, r2, r3⟩ := hown.store K ht hn hkey val hn'
  unfold Oper.wp
  simp [execOp, hop, hm, hx, hv, hrun, Result.andThen]
  exact hK' _ _ (hK w' r1 r2 r3)
theorem wpList_lenN (hw : Region.wanted o (yielded ops a.tmps) = true) (m : Operand) (t : TypeId) (hop : o.op = Op.call { callee := Callee.builtin Builtin.len, args := #[m], argTypes := #[t] })
    (k e : TypeId) (ht : P.underlying t = some (.map k e)) (b n : Nat) (f : Value → Option Value) (hm : a.eval m = .map (some b)) (hown : MapN w P k b n f)
    (hK : wpList P ops Q rest (a.put o.dst (.int .i64 (n : Nat))) w) : wpList P ops Q (o :: rest) a w := by
  refine wpList_wanted hw fun K' hK' => ?_
  obtain ⟨D, h1, h0, _⟩ := hown
  have hrun := h1.len ht o.type
  rw [h0] at hrun
  unfold Oper.wp
  simp [execOp, hop, resolve, invoke, builtin, hm, hrun, Result.andThen]
  exact hK' _ _ hK
end

/-! ## the keys -/
theorem i64_lit {n : Int} (h : I64 n) : (Lit.int .i64 n).wf = true := by
  unfold I64 at h
  show (decide (IntKind.i64.min ≤ n) && decide (n ≤ IntKind.i64.max)) = true
  rw [show IntKind.i64.min = -9223372036854775808 from by decide, show IntKind.i64.max = 9223372036854775807 from by decide]
  simp only [decide_eq_true_eq, Bool.and_eq_true]
  exact h
theorem int_keys : Keyed Tryd.prog 3 := Maps.int_keyed Tryd.underlying3
theorem keyOf_i64 {n : Int} (h : I64 n) : keyOf Tryd.prog 3 (.int .i64 n) = some (.int .i64 n) := Maps.keyOf_int_mk Tryd.underlying3 (i64_lit h)
theorem dig_keys : Keyed Tryd.prog 29 := Keyed.of_law (deep_law_laid (by kernel_rfl) (m := 9) (by decide) (by decide +kernel) (by kernel_rfl) (by kernel_rfl))
theorem mapM_ex {α β : Type} (g : α → Option β) : ∀ l : List α, (∀ x ∈ l, ∃ y, g x = some y) → ∃ r, l.mapM g = some r
  | [], _ => ⟨[], rfl⟩
  | x :: l, h => by
    obtain ⟨y, hy⟩ := h x List.mem_cons_self
    obtain ⟨r, hr⟩ := mapM_ex g l fun z hz => h z (List.mem_cons_of_mem _ hz)
    exact ⟨y :: r, by simp [List.mapM_cons, hy, hr]⟩
theorem keyOf_dig {T : Bytes} (h : T.length = 32) : ∃ kl, keyOf Tryd.prog 29 (.agg (T.map B).toArray) = some kl := by
  obtain ⟨d, hd⟩ : ∃ d, Tryd.prog.types.size + 1 = d + 1 + 1 := ⟨Tryd.prog.types.size - 1, by kernel_rfl⟩
  have h8 : ∀ u : UInt8, Tryd.prog.keyLits (d + 1) 5 [B u] = some [.int .u8 (u.toNat : Int)] := fun u => by
    have hw : (Lit.int .u8 (u.toNat : Int)).wf = true := by
      show (decide (IntKind.u8.min ≤ (u.toNat : Int)) && decide ((u.toNat : Int) ≤ IntKind.u8.max)) = true
      rw [show IntKind.u8.min = 0 from by decide, show IntKind.u8.max = 255 from by decide]
      have := u.toNat_lt
      simp
      omega
    unfold Program.keyLits
    simp [Tryd.underlying5, B, hw]
  have hm := mapM_ex (fun i => Tryd.prog.keyLits (d + 1) 5 (((T.map B).drop (i * 1)).take 1)) (List.range 32) (fun i hi => by
    have hi : i < 32 := List.mem_range.1 hi
    refine ⟨[.int .u8 ((T[i]'(by omega)).toNat : Int)], ?_⟩
    have e : ((T.map B).drop (i * 1)).take 1 = [B (T[i]'(by omega))] := by
      rw [Nat.mul_one, List.drop_eq_getElem_cons (by simp; omega)]
      simp
    rw [e]
    exact h8 _)
  obtain ⟨r, hr⟩ := hm
  have hs : Tryd.prog.keyLits (d + 1 + 1) 29 (T.map B) = some r.flatten := by
    unfold Program.keyLits
    simp only [Tryd.underlying29]
    rw [if_pos (by rw [List.length_map, h]; kernel_rfl)]
    rw [show Tryd.prog.cellsOf 5 = 1 from by kernel_rfl, hr]
    rfl
  unfold keyOf
  rw [Tryd.underlying29]
  dsimp only
  rw [if_pos (by
    rw [Bool.and_eq_true]
    refine ⟨by kernel_rfl, ?_⟩
    unfold Value.formed
    simp [Tryd.underlying29, h, show Tryd.prog.cellsOf 29 = 32 from by kernel_rfl]), hd]
  exact ⟨_, by rw [show (Value.agg (T.map B).toArray).cells.toList = T.map B from rfl, hs]; rfl⟩
end Frk
