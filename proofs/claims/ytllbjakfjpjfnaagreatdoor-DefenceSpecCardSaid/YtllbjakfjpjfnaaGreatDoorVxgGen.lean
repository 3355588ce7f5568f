/- Parts of the proof, joined. -/
import Derived.Test.YtllbjakfjpjfnaaGreatDoorVxgEqd
import Derived.Lib.Bytealg
import Derived.Lib.BytesEntry
import Derived.Laws.Externs
import Derived.Deep.QuietTactic
import Derived.BigQuiet
import Derived.StillTailTactics
import Derived.Test.YtllbjakfjpjfnaaGreatDoorVxgSig
import Derived.Test.YtllbjakfjpjfnaaGreatDoorVxRow
import Derived.Deep.Cut
/- Digests compared: bytes.Compare, the packages' compare. -/
namespace Frk
open Go Go.RowKit Go.Proofs
set_option maxRecDepth 100000

/-- less, equal, greater -/
def cmpB (a b : Bytes) : Int := Lib.compareBytes a b

theorem u8_lt_iff (a b : UInt8) : a < b ↔ a.toNat < b.toNat := UInt8.lt_iff_toNat_lt

theorem cmpB_neg : ∀ a b : Bytes, cmpB a b < 0 ↔ blt a b = true
  | [], [] => by simp [cmpB, Lib.compareBytes, blt]
  | [], _ :: _ => by simp [cmpB, Lib.compareBytes, blt]
  | _ :: _, [] => by simp [cmpB, Lib.compareBytes, blt]
  | a :: s, b :: t => by
    have ih := cmpB_neg s t
    unfold cmpB at ih ⊢
    unfold Lib.compareBytes blt
    by_cases h1 : a < b
    · have h1' := (u8_lt_iff a b).1 h1
      have hne : a ≠ b := by intro e; subst e; omega
      rw [if_pos h1, if_neg hne]
      simp [h1']
    · rw [if_neg h1]
      by_cases h2 : b < a
      · have h2' := (u8_lt_iff b a).1 h2
        have hne : a ≠ b := by intro e; subst e; omega
        rw [if_pos h2, if_neg hne]
        simp; omega
      · have e : a = b := by
          rcases Nat.lt_trichotomy a.toNat b.toNat with h | h | h
          · exact absurd ((u8_lt_iff a b).2 h) h1
          · exact UInt8.toNat_inj.1 h
          · exact absurd ((u8_lt_iff b a).2 h) h2
        rw [if_neg h2, if_pos e]
        exact ih

theorem cmpB_zero : ∀ a b : Bytes, cmpB a b = 0 ↔ a = b
  | [], [] => by simp [cmpB, Lib.compareBytes]
  | [], _ :: _ => by simp [cmpB, Lib.compareBytes]
  | _ :: _, [] => by simp [cmpB, Lib.compareBytes]
  | a :: s, b :: t => by
    have ih := cmpB_zero s t
    unfold cmpB at ih ⊢
    unfold Lib.compareBytes
    by_cases h1 : a < b
    · have h1' := (u8_lt_iff a b).1 h1
      rw [if_pos h1]
      simp
      intro e; subst e; omega
    · rw [if_neg h1]
      by_cases h2 : b < a
      · have h2' := (u8_lt_iff b a).1 h2
        rw [if_pos h2]
        simp
        intro e; subst e; omega
      · have e : a = b := by
          rcases Nat.lt_trichotomy a.toNat b.toNat with h | h | h
          · exact absurd ((u8_lt_iff a b).2 h) h1
          · exact UInt8.toNat_inj.1 h
          · exact absurd ((u8_lt_iff b a).2 h) h2
        rw [if_neg h2, ih]
        simp [e]

theorem run_bytesOf {w : World} {a : Option Addr} {n c : Nat} {l : Bytes} (h : IsB w a n c l) : (Extern.Bytes.bytesOf (.slice a n c)).run Tryz.prog w = .ok ⟨l.toArray⟩ w := by
  rcases h.at_ with h0 | ⟨g, off, rfl, hr, hg⟩
  · subst h0
    obtain rfl := List.eq_nil_of_length_eq_zero h.llen
    cases a with
    | none => rfl
    | some ad => rfl
  · have := Lib.run_loadBytesX (P := Tryz.prog) w (l.map fun x => (x.toNat : Int)) ⟨g, off, none⟩ .empty (fun j x hx => by
      rw [Addr.add_mid]
      rw [List.getElem?_map] at hx
      obtain ⟨y, hy, rfl⟩ := Option.map_eq_some_iff.1 hx
      exact hr j _ (by rw [List.getElem?_map, hy]; rfl))
    rw [List.length_map, h.llen] at this
    unfold Extern.Bytes.bytesOf
    refine this.trans ?_
    have e : Lib.bytesOf (l.map fun x => (x.toNat : Int)) = l := by
      unfold Lib.bytesOf
      rw [List.map_map]
      conv => rhs; rw [← List.map_id l]
      apply List.map_congr_left
      intro x _
      show UInt8.ofNat (((x.toNat : Nat) : Int)).toNat = x
      rw [Int.toNat_natCast]
      exact UInt8.ofNat_toNat
    rw [e]
    simp

theorem run_compare {w : World} {a b : Option Addr} {n c m d : Nat} {l k : Bytes} (h1 : IsB w a n c l) (h2 : IsB w b m d k) :
    (callFunc 77 #[.slice a n c, .slice b m d]).run Tryz.prog w = .ok (.value (.int .i64 (cmpB l k))) w := by
  rw [run_callFunc_extern Tryz.func77 (by kernel_rfl) (by kernel_rfl) (by kernel_rfl) (e := Extern.BytealgCompare.compare) (by kernel_rfl)]
  have e : (Extern.BytealgCompare.compare #[.slice a n c, .slice b m d]).run Tryz.prog w = .ok (.int .i64 (cmpB l k)) w := by
    change Sem.run Tryz.prog (do pure (goInt (Extern.BytealgCompare.cmp (← Extern.Bytes.bytesOf (.slice a n c)) (← Extern.Bytes.bytesOf (.slice b m d))))) w = _
    simp only [Sem.run_bind, run_bytesOf h1, run_bytesOf h2, Sem.run_pure, Result.andThen]
    rw [Lib.cmp_eq]
    rfl
  rw [e]
  rfl

theorem bytesCompare_any {w : World} {a b : Option Addr} {n c m d : Nat} {l k : Bytes} (h1 : IsB w a n c l) (h2 : IsB w b m d k) :
    Calls Tryz.prog 47 #[.slice a n c, .slice b m d] w fun e w' => e = .returned (.int .i64 (cmpB l k)) ∧ w = w' := by
  have hr := run_compare h1 h2
  clear h1 h2
  go_enter Tryz.func47, Tryz.ntmps47
  go_wp2
  go_ret
  exact ⟨rfl, rfl⟩

theorem IsB.drewN {w : World} {a : Option Addr} {len cap : Nat} {l : Bytes} (h : IsB w a len cap l) (n : Nat) : IsB (w.drewN n) a len cap l := ⟨h.llen, h.lcap, h.lmax, h.cmax, h.at_⟩

/-- a digest as a value -/
def dgV (d : Bytes) : Value := .agg (d.map B).toArray

/-- the cells of a list of digests -/
def dcells (l : List Bytes) : List Value := (l.flatten).map B

/-- a slice of digests -/
structure IsD (w : World) (a : Option Addr) (len cap : Nat) (l : List Bytes) : Prop where
  llen : l.length = len
  lcap : len ≤ cap
  lmax : len ≤ 1099511627776
  cmax : cap ≤ 9223372036854775807
  each : ∀ d ∈ l, d.length = 32
  at_ : len = 0 ∨ ∃ g off, a = some ⟨g, off, none⟩ ∧ w.rangeAt g off (dcells l) ∧ g < w.heap.size

theorem IsD.of_heap {w w' : World} {a : Option Addr} {len cap : Nat} {l : List Bytes} (h : IsD w a len cap l) (hb : Below w.heap.size w w') : IsD w' a len cap l :=
  ⟨h.llen, h.lcap, h.lmax, h.cmax, h.each, by
    rcases h.at_ with h0 | ⟨g, off, e, hr, hg⟩
    · exact .inl h0
    · exact .inr ⟨g, off, e, rangeAt_below' hr hb, Nat.lt_of_lt_of_le hg hb.size⟩⟩

theorem flat_at : ∀ (l : List Bytes) (i : Nat), (∀ d ∈ l, d.length = 32) → i < l.length → (l.flatten.drop (i * 32)).take 32 = l.getD i []
  | [], i, _, h => by simp at h
  | d :: l, 0, he, _ => by
    have hd := he d (by simp)
    rw [List.flatten_cons, Nat.zero_mul, List.drop_zero, List.take_append_of_le_length (by omega), List.take_of_length_le (by omega)]
    rfl
  | d :: l, i + 1, he, h => by
    have hd := he d (by simp)
    rw [List.flatten_cons, List.drop_append, List.drop_of_length_le (by omega), List.nil_append, hd, show (i + 1) * 32 - 32 = i * 32 from by omega, flat_at l i (fun x hx => he x (by simp [hx])) (by simpa using h)]
    rfl

theorem range_dg {w : World} {g off : Nat} {l : List Bytes} (h : w.rangeAt g off (dcells l)) (he : ∀ d ∈ l, d.length = 32) {i : Nat} (hi : i < l.length) : w.rangeAt g (off + i * 32) ((l.getD i []).map B) := by
  have h1 := rangeAt_take (rangeAt_drop h (i * 32)) 32
  unfold dcells at h1
  rwa [← List.map_drop, ← List.map_take, flat_at l i he hi] at h1

theorem getD_len {l : List Bytes} (he : ∀ d ∈ l, d.length = 32) {i : Nat} (hi : i < l.length) : (l.getD i []).length = 32 := by
  rw [List.getD_eq_getElem?_getD, List.getElem?_eq_getElem hi]
  exact he _ (List.getElem_mem hi)

theorem dg_info (d : Bytes) (h : d.length = 32) : (Tryz.prog.info? 42).map (·.size) = some (d.map B).length := by rw [List.length_map, h]; kernel_rfl

/-- a load of a long array in a region that draws its order -/
theorem wpStill_load_mid {P : Program} {ops : Array Oper} {w : World} {Q : Act → Prop} {a : Act} {o : Oper} {rest : List Oper} (hgd : o.guard = none) (ty : TypeId) (x : Operand) (ho : o.op = .load ty x)
    (b off : Nat) (hx : a.eval x = .pointer (some ⟨b, off, none⟩)) (cs : List Value) (d : TypeDesc) (hc : w.rangeAt b off cs)
    (hu : P.underlying ty = some d) (hd : d.isRow = true) (hi : (P.info? ty).map (·.size) = some cs.length)
    (h : wpStill P ops w Q rest (a.put o.dst (.agg cs.toArray))) : wpStill P ops w Q (o :: rest) a := by
  have hw : Region.wanted o (yielded ops a.tmps) = true := by simp [Region.wanted, hgd]
  unfold wpStill
  rw [if_pos hw]
  unfold Oper.still execOp
  simp only [ho, hx, Instr.loadAt, Instr.sureAddr, Sem.run_bind, Sem.run_pure, Result.andThen_ok, run_loadVar_mid w b off ty cs d hc hu hd hi, Oper.stillUpon_value]
  exact h

/-- an operation of a region is taken first, its parts laid out -/
theorem take_h {P : Program} {md : Region.Mode} {ops : Array Oper} {Q : Exit → Act → World → Prop} {S : World → Prop} {dst : Option Tmp} {op : Op} {ty : TypeId} {pos : String} {after : Array Edge} {guard : Option (Nat × Bool)} (i : Nat) (v : Value) {fuel : Nat} {listed : Array Bool} {a : Act} {w : World}
    (hi : ops[i]? = some { dst := dst, op := op, type := ty, pos := pos, after := after, guard := guard }) (hs : Region.noSelect ops = true) (hf : Region.free md ops listed i = true) (hr : (Region.ready md ops listed).contains i = true)
    (hQ : ∀ c a w, Q (.panic c) (a.put dst v) w → Q (.panic c) a w) (hy : YieldsIf P ops S { dst := dst, op := op, type := ty, pos := pos, after := after, guard := guard } v a) (hS : S w)
    (h : wpAnyH P md ops Q S fuel (listed.setIfInBounds i true) (a.put dst v) w) : wpAnyH P md ops Q S (fuel + 1) listed a w :=
  wpAnyH_take hi hs hf hr hQ hy hS h

/-- a call that alone may come up -/
theorem call_h {P : Program} {md : Region.Mode} {ops : Array Oper} {Q : Exit → Act → World → Prop} {S : World → Prop} {dst : Option Tmp} {op : Op} {ty : TypeId} {pos : String} {after : Array Edge} {guard : Option (Nat × Bool)} (i : Nat) {fuel : Nat} {listed : Array Bool} {a : Act} {w : World}
    (hi : ops[i]? = some { dst := dst, op := op, type := ty, pos := pos, after := after, guard := guard }) (hr : Region.ready md ops listed = [i]) (f : FuncId) (args : Array Value)
    (hw : Region.wanted { dst := dst, op := op, type := ty, pos := pos, after := after, guard := guard } (yielded ops a.tmps) = true)
    (hrun : (execOp a.eval { dst := dst, op := op, type := ty, pos := pos, after := after, guard := guard }).run P w = .ok (.enter f args) w)
    (hc : Calls P f args w fun e w' => ∃ v, e = .returned v ∧ S w' ∧ (S w' → wpAnyH P md ops Q S fuel (listed.setIfInBounds i true) (a.put dst v) w')) : wpAnyH P md ops Q S (fuel + 1) listed a w :=
  wpAnyH_ready hr (by simp) (AllReadyH.cons hi (fun K hK => by
    rw [if_pos hw]
    unfold Oper.wp
    rw [hrun, Oper.upon_enter]
    refine hc.mono ?_
    rintro e w' ⟨v, rfl, hS, hn⟩
    exact hK.out _ _ hS hn) AllReadyH.nil)

theorem mid_bits (i j : Nat) (_h : i + j < 9223372036854775808) : ((i : Int) + (j : Int)) / 2 = (((i + j) / 2 : Nat) : Int) := by omega

end Frk

/- General things. -/
namespace Frk
open Go Go.RowKit Go.Proofs
set_option maxRecDepth 100000

def I64 (n : Int) : Prop := -9223372036854775808 ≤ n ∧ n ≤ 9223372036854775807

theorem exec_append {P : Program} {o : Oper} {a : Act} {w w' : World} (s x : Operand) (t tn : TypeId) (ho : o.op = .call { callee := .builtin .append, args := #[s, x], argTypes := #[t, tn] }) (sv xv v : Value) (hs : a.eval s = sv) (hx : a.eval x = xv)
    (hrun : ∀ ty, (Builtin.append_ #[t, tn] ty #[sv, xv]).run P w = .ok v w') : (execOp a.eval o).run P w = .ok (.value v) w' := by
  have := hrun o.type
  simp [execOp, ho, resolve, invoke, builtin, hs, hx, this, Result.andThen]

theorem ownsRow_below {w w' : World} {base : Nat} {e : TypeId} {size n : Nat} {v : Value} {xs : List Value} (h : w.ownsRow base e size v n xs) (hb : Below w.heap.size w w') : w'.ownsRow base e size v n xs :=
  h.kept (row := none) (grown_of_below hb none) (by cases hv : v.ownBlock with | none => exact .inl rfl | some b => exact .inr (by simp))

theorem exec_append1 {P : Program} {o : Oper} {a : Act} {w w' : World} (s x : Operand) (t tn ty : TypeId) (hty : o.type = ty) (ho : o.op = .call { callee := .builtin .append, args := #[s, x], argTypes := #[t, tn] }) (sv xv v : Value) (hs : a.eval s = sv) (hx : a.eval x = xv)
    (hrun : (Builtin.append_ #[t, tn] ty #[sv, xv]).run P w = .ok v w') : (execOp a.eval o).run P w = .ok (.value v) w' := by
  subst hty
  simp [execOp, ho, resolve, invoke, builtin, hs, hx, hrun, Result.andThen]

/-- numbers as leaves -/
def lfs (ns : List Int) : List Lf := ns.map Lf.i

theorem wgts_lfs (ns : List Int) : wgts (lfs ns) = ns.length * 11 := by
  induction ns with
  | nil => rfl
  | cons n ns ih =>
    have e : lfs (n :: ns) = Lf.i n :: lfs ns := rfl
    rw [e, wgts_cons, ih, List.length_cons]
    show 11 + _ = _
    omega

def zb32 : Bytes := [0, 0, 0, 0, 0, 0, 0, 0, 0, 0, 0, 0, 0, 0, 0, 0, 0, 0, 0, 0, 0, 0, 0, 0, 0, 0, 0, 0, 0, 0, 0, 0]

theorem cell_below' {w w' : World} {b i : Nat} {v : Value} (hb : Below w.heap.size w w') (h : w.cell? ⟨b, i, none⟩ = some v) : w'.cell? ⟨b, i, none⟩ = some v :=
  (hb.cell (p := ⟨b, i, none⟩) (block_lt_of_cell h)).trans h

/-- a stretch of a walk, ended by what its slots and its world are -/
def CutQ (F : Nat → Act) (R : Nat → World → Prop) : Exit → Act → World → Prop
  | .normal, a, W => ∃ g, a = F g ∧ R g W
  | _, _, _ => False

theorem exec_store_row {P : Program} {o : Oper} {a : Act} {w : World} (ty : TypeId) (x y : Operand) (ho : o.op = .store ty x y)
    (g : Nat) (cells : Array Value) (hx : a.eval x = .pointer (some ⟨g, 0, none⟩)) (hy : a.eval y = .agg cells)
    (t : TypeId) (old : Array Value) (hg : w.heap[g]? = some (.cells old t (0, 0))) (hi : (P.info? ty).map (·.size) = some cells.size)
    (hold : old.size = cells.size) (h1 : cells.all (·.oneCell') = true) : (execOp a.eval o).run P w = .ok .skip (w.setRow g cells) := by
  unfold execOp
  simp only [ho, hx, hy, Instr.storeAt, Instr.sureAddr, Sem.run_bind, Sem.run_pure, Result.andThen_ok, run_storeVar_row w g t ty old cells hg hi hold h1]

theorem row_keeps {w w' : World} {b k : Nat} {o : Obj} (h : w.grownBy w' (some b)) (hk : w.heap[k]? = some o) (hne : k ≠ b) : w'.heap[k]? = some o :=
  (h.block k (Array.getElem?_eq_some_iff.1 hk).1 (by intro e; exact hne (Option.some.inj e))).trans hk

theorem fold_lay_at (k : Nat) : ∀ (L : List Value) (j : Nat) (Z : List Value), k + j + L.length ≤ Z.length → (L.zipIdx j).foldl (fun cs x => cs.setIfInBounds (k + x.2) x.1) Z.toArray = (lay Z (k + j) L).toArray
  | [], j, Z, _ => by rw [lay_nil]; rfl
  | v :: L, j, Z, h => by
    have hk : k + j < Z.length := by simp at h; omega
    rw [List.zipIdx_cons, List.foldl_cons, List.setIfInBounds_toArray, fold_lay_at k L (j + 1) (Z.set (k + j) v) (by simp at h ⊢; omega), ← Nat.add_assoc, lay_cons hk]

end Frk

