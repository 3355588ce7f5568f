/- Parts of the proof, joined. -/
import Derived.Test.YtemoomfnmiodeaaGreatDoorVugSig
import Derived.Laws.BitsLemmas
import Derived.Laws.StructEq
import Derived.Test.YtemoomfnmiodeaaGreatDoorVugKit
import Derived.DeepKeys
import Derived.Lib.Bytealg
import Derived.Lib.BytesEntry
import Derived.Laws.Externs
import Derived.Deep.QuietTactic
import Derived.BigQuiet
import Derived.StillTailTactics
import Derived.Test.YtemoomfnmiodeaaGreatDoorVuRow
import Derived.Deep.Cut
import Derived.Lib.SlBytesConst
import Derived.Test.YtemoomfnmiodeaaGreatDoorVugGpr
import Derived.Test.YtemoomfnmiodeaaGreatDoorProg
import Derived.Lib.Hide
/- The program's sign: Verify. -/
namespace Frk
open Go Go.RowKit Go.Proofs
set_option maxRecDepth 100000

def inQ (x : Int) : Bool := decide (0 ≤ x) && decide (x < 1073741789)
/-- the point of a signature for a key -/
def sgPoint (key E S : Int) : Nat := mp (pw 4 S) (pw key.toNat (-E))
/-- is a signature right? -/
def vrB (key : Int) (b : Bytes) (E S : Int) : Bool := inQ E && inQ S && vd key && (E == (sgHash (sgPoint key E S) key b : Nat))

theorem vd_of_nat {n : Nat} (h : Vd n) : vd (n : Int) = true := (vd_iff n).2 h
theorem vd_pw {a : Int} (h : vd a = true) (n : Int) : vd (pw a.toNat n : Nat) = true := by
  obtain ⟨A, rfl, hA⟩ := vd_of_vd h
  exact vd_of_nat (hA.pw n)

end Frk

/- Powers that can be reckoned. -/
namespace Frk

/-- a power, by squares -/
def pwq (a : Nat) (n : Int) : Nat := qpow P 31 a (lq n) 1
def sgHashQ (r key : Int) (b : Bytes) : Nat := sgHash r key b
def sgEQ (x : Int) (b : Bytes) : Nat := sgHash (pwq 4 (sgK x b)) (pwq 4 x) b
def sgSQ (x : Int) (b : Bytes) : Int := ((sgK x b : Int) + (sgEQ x b : Int) * x % 1073741789) % 1073741789
def sgPointQ (key E S : Int) : Nat := mp (pwq 4 S) (pwq key.toNat (-E))
def vrQ (key : Int) (b : Bytes) (E S : Int) : Bool := inQ E && inQ S && vd key && (E == (sgHash (sgPointQ key E S) key b : Nat))
end Frk

/- What a law carries along: the tables, a text, blocks that it has made. -/
namespace Frk
open Go Go.RowKit Go.Proofs
set_option maxRecDepth 100000

structure Env (w : World) (a : Option Addr) (len cap : Nat) (b : Bytes) (bs : List (Nat × Obj)) : Prop where
  glob : Glob w
  isb : IsB w a len cap b
  keep : ∀ p ∈ bs, w.heap[p.1]? = some p.2

theorem Env.below {w w' : World} {a : Option Addr} {len cap : Nat} {b : Bytes} {bs : List (Nat × Obj)} (h : Env w a len cap b bs) (hb : Below w.heap.size w w') : Env w' a len cap b bs :=
  ⟨h.glob.below hb, h.isb.below hb, fun p hp => blk hb (Array.getElem?_eq_some_iff.1 (h.keep p hp)).1 (h.keep p hp)⟩

theorem Env.push {w : World} {a : Option Addr} {len cap : Nat} {b : Bytes} {bs : List (Nat × Obj)} (h : Env w a len cap b bs) (o : Obj) : Env (w.alloc o) a len cap b ((w.heap.size, o) :: bs) :=
  ⟨h.glob.below (below_alloc w o), h.isb.below (below_alloc w o), fun p hp => by
    rcases List.mem_cons.1 hp with rfl | hp
    · exact heap_alloc_new w o
    · exact blk (below_alloc w o) (Array.getElem?_eq_some_iff.1 (h.keep p hp)).1 (h.keep p hp)⟩

theorem Env.cell {w : World} {a : Option Addr} {len cap : Nat} {b : Bytes} {bs : List (Nat × Obj)} (h : Env w a len cap b bs) {g i : Nat} {cs : Array Value} {t : TypeId} {v : Value} (hp : (g, Obj.cells cs t) ∈ bs) (hi : cs[i]? = some v) : w.cell? ⟨g, i, none⟩ = some v := by
  rw [cell_of_row _ _ _ _ _ _ (h.keep _ hp)]; exact hi

theorem Env.lt {w : World} {a : Option Addr} {len cap : Nat} {b : Bytes} {bs : List (Nat × Obj)} (h : Env w a len cap b bs) {g : Nat} {o : Obj} (hp : (g, o) ∈ bs) : g < w.heap.size :=
  (Array.getElem?_eq_some_iff.1 (h.keep _ hp)).1

theorem Env.frozen {w : World} {a : Option Addr} {len cap : Nat} {b : Bytes} {bs : List (Nat × Obj)} (h : Env w a len cap b bs) {g i : Nat} {cs : Array Value} {t : TypeId} (hp : (g, Obj.cells cs t) ∈ bs) : w.frozen? ⟨g, i, none⟩ = false :=
  frozen_of_row _ _ _ _ _ (h.keep _ hp)

/-- another text -/
theorem Env.text {w : World} {a a' : Option Addr} {len cap len' cap' : Nat} {b b' : Bytes} {bs : List (Nat × Obj)} (h : Env w a len cap b bs) (hb : IsB w a' len' cap' b') : Env w a' len' cap' b' bs := ⟨h.glob, hb, h.keep⟩

theorem isB_new (w : World) (l : Bytes) (n : Nat) (t : TypeId) (fr : Nat × Nat) (hl : l.length = n) (hn : n ≤ 140737488355328) : IsB (w.alloc (.cells (l.map B).toArray t fr)) (some ⟨w.heap.size, 0, none⟩) n n l :=
  ⟨hl, Nat.le_refl _, hn, by omega, .inr ⟨w.heap.size, 0, rfl, rangeAt_new w _ _ _, by rw [size_alloc]; omega⟩⟩

end Frk

/- Digests held against each other. -/
namespace Frk
open Go Go.RowKit Go.Proofs
set_option maxRecDepth 100000

theorem mapM_some {α β : Type} {f : α → Option β} {g : α → β} : ∀ (L : List α), (∀ x ∈ L, f x = some (g x)) → L.mapM f = some (L.map g)
  | [], _ => by simp
  | x :: L, h => by
    rw [List.mapM_cons, h x (by simp)]
    simp only [bind, Option.bind_some]
    rw [mapM_some L (fun y hy => h y (by simp [hy]))]
    rfl

theorem flatten_one {α β : Type} (f : α → β) : ∀ L : List α, (L.map fun i => [f i]).flatten = L.map f
  | [] => rfl
  | x :: L => by simp only [List.map_cons, List.flatten_cons, flatten_one f L]; rfl

theorem lits_u8 (a : Bytes) (n : Nat) (hn : a.length = n) :
    (List.range n).mapM (fun i => Tryz.prog.keyLits 1 5 (((a.map B).toArray.toList.drop (i * Tryz.prog.cellsOf 5)).take (Tryz.prog.cellsOf 5))) = some ((List.range n).map fun i => [Lit.int .u8 ((a.getD i 0).toNat : Int)]) := by
  have c1 : Tryz.prog.cellsOf 5 = 1 := by kernel_rfl
  apply mapM_some
  intro i hi
  have hlt : i < a.length := by rw [hn]; exact List.mem_range.1 hi
  rw [c1, Nat.mul_one]
  have e : ((a.map B).toArray.toList.drop i).take 1 = [B (a.getD i 0)] := by
    rw [show (a.map B).toArray.toList = a.map B from rfl, List.drop_eq_getElem_cons (by simpa using hlt), List.take_succ_cons, List.take_zero, List.getElem_map, List.getD_eq_getElem?_getD, List.getElem?_eq_getElem hlt]
    rfl
  rw [e]
  unfold Program.keyLits
  rw [Tryz.underlying5]
  have hb := UInt8.toNat_lt (a.getD i 0)
  have h1 : IntKind.u8.min = 0 := by decide
  have h2 : IntKind.u8.max = 255 := by decide
  have hw : (Lit.int .u8 ((a.getD i 0).toNat : Int)).wf = true := by
    simp only [Lit.wf, h1, h2]
    simp only [Bool.and_eq_true, decide_eq_true_eq]
    omega
  simp only []
  rw [if_pos ⟨trivial, hw⟩]

theorem eqAt_u8 : EqAt Tryz.prog 9999 5 := run_equalIn_deep 9998 1 5 (by kernel_rfl)

theorem eqDig (a b : Bytes) (ha : a.length = 32) (hb : b.length = 32) (w : World) :
    (Op.equalIn 10000 26 (.agg (a.map B).toArray) (.agg (b.map B).toArray)).run Tryz.prog w = .ok (a == b) w := by
  obtain ⟨i0, hi, _⟩ := info_parts info_u8
  rw [show (10000 : Nat) = 9999 + 1 from rfl, run_equalIn_array w 9999 _ _ Tryz.underlying26 hi]
  obtain ⟨r, hr, hiff⟩ := run_eqItems_deep w 9999 eqAt_u8 (a.map B).toArray (b.map B).toArray (List.range 32) _ _ (lits_u8 a 32 ha) (lits_u8 b 32 hb)
  rw [hr]
  congr 1
  have key : (((List.range 32).map fun i => [Lit.int .u8 ((a.getD i 0).toNat : Int)]).flatten = ((List.range 32).map fun i => [Lit.int .u8 ((b.getD i 0).toNat : Int)]).flatten) ↔ a = b := by
    constructor
    · intro h
      apply bytes_ext (by rw [ha, hb])
      intro j hj
      have e : ∀ c : Bytes, ((List.range 32).map fun i => [Lit.int .u8 ((c.getD i 0).toNat : Int)]).flatten = (List.range 32).map fun i => Lit.int .u8 ((c.getD i 0).toNat : Int) := by
        intro c
        exact flatten_one _ _
      rw [e, e] at h
      have h2 := congrArg (·[j]?) h
      simp only [List.getElem?_map, List.getElem?_range (show j < 32 by omega), Option.map_some, Option.some.injEq, Lit.int.injEq, true_and] at h2
      exact UInt8.toNat_inj.1 (by omega)
    · intro h; rw [h]
  cases r with
  | true => exact (beq_iff_eq.2 (key.1 (hiff.1 rfl))).symm
  | false =>
    symm
    rw [beq_eq_false_iff_ne]
    intro e
    have := hiff.2 (key.2 e)
    cases this
end Frk

/- Digests compared: bytes.Compare, the packages' compare. -/
namespace Frk
open Go Go.RowKit Go.Proofs
set_option maxRecDepth 100000

/-- less, equal, greater -/
def cmpB (a b : Bytes) : Int := Lib.compareBytes a b

theorem IsB.drewN {w : World} {a : Option Addr} {len cap : Nat} {l : Bytes} (h : IsB w a len cap l) (n : Nat) : IsB (w.drewN n) a len cap l := ⟨h.llen, h.lcap, h.lmax, h.cmax, h.at_⟩

/-- a digest as a value -/
def dgV (d : Bytes) : Value := .agg (d.map B).toArray

/-- the cells of a list of digests -/
def dcells (l : List Bytes) : List Value := (l.flatten).map B

/-- a slice of digests -/
structure IsD (w : World) (a : Option Addr) (len cap : Nat) (l : List Bytes) : Prop where
  llen : l.length = len
  lcap : len ≤ cap
  lmax : len ≤ 1099511627776
  cmax : cap ≤ 9223372036854775807
  each : ∀ d ∈ l, d.length = 32
  at_ : len = 0 ∨ ∃ g off, a = some ⟨g, off, none⟩ ∧ w.rangeAt g off (dcells l) ∧ g < w.heap.size

theorem IsD.of_heap {w w' : World} {a : Option Addr} {len cap : Nat} {l : List Bytes} (h : IsD w a len cap l) (hb : Below w.heap.size w w') : IsD w' a len cap l :=
  ⟨h.llen, h.lcap, h.lmax, h.cmax, h.each, by
    rcases h.at_ with h0 | ⟨g, off, e, hr, hg⟩
    · exact .inl h0
    · exact .inr ⟨g, off, e, rangeAt_below' hr hb, Nat.lt_of_lt_of_le hg hb.size⟩⟩

theorem flat_at : ∀ (l : List Bytes) (i : Nat), (∀ d ∈ l, d.length = 32) → i < l.length → (l.flatten.drop (i * 32)).take 32 = l.getD i []
  | [], i, _, h => by simp at h
  | d :: l, 0, he, _ => by
    have hd := he d (by simp)
    rw [List.flatten_cons, Nat.zero_mul, List.drop_zero, List.take_append_of_le_length (by omega), List.take_of_length_le (by omega)]
    rfl
  | d :: l, i + 1, he, h => by
    have hd := he d (by simp)
    rw [List.flatten_cons, List.drop_append, List.drop_of_length_le (by omega), List.nil_append, hd, show (i + 1) * 32 - 32 = i * 32 from by omega, flat_at l i (fun x hx => he x (by simp [hx])) (by simpa using h)]
    rfl

theorem range_dg {w : World} {g off : Nat} {l : List Bytes} (h : w.rangeAt g off (dcells l)) (he : ∀ d ∈ l, d.length = 32) {i : Nat} (hi : i < l.length) : w.rangeAt g (off + i * 32) ((l.getD i []).map B) := by
  have h1 := rangeAt_take (rangeAt_drop h (i * 32)) 32
  unfold dcells at h1
  rwa [← List.map_drop, ← List.map_take, flat_at l i he hi] at h1

theorem getD_len {l : List Bytes} (he : ∀ d ∈ l, d.length = 32) {i : Nat} (hi : i < l.length) : (l.getD i []).length = 32 := by
  rw [List.getD_eq_getElem?_getD, List.getElem?_eq_getElem hi]
  exact he _ (List.getElem_mem hi)

theorem dg_info (d : Bytes) (h : d.length = 32) : (Tryz.prog.info? 26).map (·.size) = some (d.map B).length := by rw [List.length_map, h]; kernel_rfl

/-- an operation of a region is taken first, its parts laid out -/
theorem take_h {P : Program} {md : Region.Mode} {ops : Array Oper} {Q : Exit → Act → World → Prop} {S : World → Prop} {dst : Option Tmp} {op : Op} {ty : TypeId} {pos : String} {after : Array Edge} {guard : Option (Nat × Bool)} (i : Nat) (v : Value) {fuel : Nat} {listed : Array Bool} {a : Act} {w : World}
    (hi : ops[i]? = some { dst := dst, op := op, type := ty, pos := pos, after := after, guard := guard }) (hs : Region.noSelect ops = true) (hf : Region.free md ops listed i = true) (hr : (Region.ready md ops listed).contains i = true)
    (hQ : ∀ c a w, Q (.panic c) (a.put dst v) w → Q (.panic c) a w) (hy : YieldsIf P ops S { dst := dst, op := op, type := ty, pos := pos, after := after, guard := guard } v a) (hS : S w)
    (h : wpAnyH P md ops Q S fuel (listed.setIfInBounds i true) (a.put dst v) w) : wpAnyH P md ops Q S (fuel + 1) listed a w :=
  wpAnyH_take hi hs hf hr hQ hy hS h

/-- a call that alone may come up -/
theorem call_h {P : Program} {md : Region.Mode} {ops : Array Oper} {Q : Exit → Act → World → Prop} {S : World → Prop} {dst : Option Tmp} {op : Op} {ty : TypeId} {pos : String} {after : Array Edge} {guard : Option (Nat × Bool)} (i : Nat) {fuel : Nat} {listed : Array Bool} {a : Act} {w : World}
    (hi : ops[i]? = some { dst := dst, op := op, type := ty, pos := pos, after := after, guard := guard }) (hr : Region.ready md ops listed = [i]) (f : FuncId) (args : Array Value)
    (hw : Region.wanted { dst := dst, op := op, type := ty, pos := pos, after := after, guard := guard } (yielded ops a.tmps) = true)
    (hrun : (execOp a.eval { dst := dst, op := op, type := ty, pos := pos, after := after, guard := guard }).run P w = .ok (.enter f args) w)
    (hc : Calls P f args w fun e w' => ∃ v, e = .returned v ∧ S w' ∧ (S w' → wpAnyH P md ops Q S fuel (listed.setIfInBounds i true) (a.put dst v) w')) : wpAnyH P md ops Q S (fuel + 1) listed a w :=
  wpAnyH_ready hr (by simp) (AllReadyH.cons hi (fun K hK => by
    rw [if_pos hw]
    unfold Oper.wp
    rw [hrun, Oper.upon_enter]
    refine hc.mono ?_
    rintro e w' ⟨v, rfl, hS, hn⟩
    exact hK.out _ _ hS hn) AllReadyH.nil)

end Frk

/- General things. -/
namespace Frk
open Go Go.RowKit Go.Proofs
set_option maxRecDepth 100000

def I64 (n : Int) : Prop := -9223372036854775808 ≤ n ∧ n ≤ 9223372036854775807

theorem exec_append {P : Program} {o : Oper} {a : Act} {w w' : World} (s x : Operand) (t tn : TypeId) (ho : o.op = .call { callee := .builtin .append, args := #[s, x], argTypes := #[t, tn] }) (sv xv v : Value) (hs : a.eval s = sv) (hx : a.eval x = xv)
    (hrun : ∀ ty, (Builtin.append_ #[t, tn] ty #[sv, xv]).run P w = .ok v w') : (execOp a.eval o).run P w = .ok (.value v) w' := by
  have := hrun o.type
  simp [execOp, ho, resolve, invoke, builtin, hs, hx, this, Result.andThen]

theorem ownsRow_below {w w' : World} {base : Nat} {e : TypeId} {size n : Nat} {v : Value} {xs : List Value} (h : w.ownsRow base e size v n xs) (hb : Below w.heap.size w w') : w'.ownsRow base e size v n xs :=
  h.kept (row := none) (grown_of_below hb none) (by cases hv : v.ownBlock with | none => exact .inl rfl | some b => exact .inr (by simp))

theorem exec_append1 {P : Program} {o : Oper} {a : Act} {w w' : World} (s x : Operand) (t tn ty : TypeId) (hty : o.type = ty) (ho : o.op = .call { callee := .builtin .append, args := #[s, x], argTypes := #[t, tn] }) (sv xv v : Value) (hs : a.eval s = sv) (hx : a.eval x = xv)
    (hrun : (Builtin.append_ #[t, tn] ty #[sv, xv]).run P w = .ok v w') : (execOp a.eval o).run P w = .ok (.value v) w' := by
  subst hty
  simp [execOp, ho, resolve, invoke, builtin, hs, hx, hrun, Result.andThen]

/-- numbers as leaves -/
def lfs (ns : List Int) : List Lf := ns.map Lf.i

theorem wgts_lfs (ns : List Int) : wgts (lfs ns) = ns.length * 11 := by
  induction ns with
  | nil => rfl
  | cons n ns ih =>
    have e : lfs (n :: ns) = Lf.i n :: lfs ns := rfl
    rw [e, wgts_cons, ih, List.length_cons]
    show 11 + _ = _
    omega

def zb32 : Bytes := [0, 0, 0, 0, 0, 0, 0, 0, 0, 0, 0, 0, 0, 0, 0, 0, 0, 0, 0, 0, 0, 0, 0, 0, 0, 0, 0, 0, 0, 0, 0, 0]

theorem zb32_len : zb32.length = 32 := rfl

theorem cell_below' {w w' : World} {b i : Nat} {v : Value} (hb : Below w.heap.size w w') (h : w.cell? ⟨b, i, none⟩ = some v) : w'.cell? ⟨b, i, none⟩ = some v :=
  (hb.cell (p := ⟨b, i, none⟩) (block_lt_of_cell h)).trans h

/-- a stretch of a walk, ended by what its slots and its world are -/
def CutQ (F : Nat → Act) (R : Nat → World → Prop) : Exit → Act → World → Prop
  | .normal, a, W => ∃ g, a = F g ∧ R g W
  | _, _, _ => False

theorem exec_store_row {P : Program} {o : Oper} {a : Act} {w : World} (ty : TypeId) (x y : Operand) (ho : o.op = .store ty x y)
    (g : Nat) (cells : Array Value) (hx : a.eval x = .pointer (some ⟨g, 0, none⟩)) (hy : a.eval y = .agg cells)
    (t : TypeId) (old : Array Value) (hg : w.heap[g]? = some (.cells old t (0, 0))) (hi : (P.info? ty).map (·.size) = some cells.size)
    (hold : old.size = cells.size) (h1 : cells.all (·.oneCell') = true) : (execOp a.eval o).run P w = .ok .skip (w.setRow g cells) := by
  unfold execOp
  simp only [ho, hx, hy, Instr.storeAt, Instr.sureAddr, Sem.run_bind, Sem.run_pure, Result.andThen_ok, run_storeVar_row w g t ty old cells hg hi hold h1]

theorem fold_lay_at (k : Nat) : ∀ (L : List Value) (j : Nat) (Z : List Value), k + j + L.length ≤ Z.length → (L.zipIdx j).foldl (fun cs x => cs.setIfInBounds (k + x.2) x.1) Z.toArray = (lay Z (k + j) L).toArray
  | [], j, Z, _ => by rw [lay_nil]; rfl
  | v :: L, j, Z, h => by
    have hk : k + j < Z.length := by simp at h; omega
    rw [List.zipIdx_cons, List.foldl_cons, List.setIfInBounds_toArray, fold_lay_at k L (j + 1) (Z.set (k + j) v) (by simp at h ⊢; omega), ← Nat.add_assoc, lay_cons hk]

theorem eqAt_u8s (d : Nat) : EqAt Tryz.prog (d + 1) 5 := run_equalIn_deep d 1 5 (by kernel_rfl)

theorem eqDig_s (dd : Nat) (a b : Bytes) (ha : a.length = 32) (hb : b.length = 32) (w : World) :
    (Op.equalIn (dd + 1 + 1) 26 (.agg (a.map B).toArray) (.agg (b.map B).toArray)).run Tryz.prog w = .ok (a == b) w := by
  obtain ⟨i0, hi, _⟩ := info_parts info_u8
  rw [run_equalIn_array w (dd + 1) _ _ Tryz.underlying26 hi]
  obtain ⟨r, hr, hiff⟩ := run_eqItems_deep w (dd + 1) (eqAt_u8s dd) (a.map B).toArray (b.map B).toArray (List.range 32) _ _ (lits_u8 a 32 ha) (lits_u8 b 32 hb)
  rw [hr]
  congr 1
  have key : (((List.range 32).map fun i => [Lit.int .u8 ((a.getD i 0).toNat : Int)]).flatten = ((List.range 32).map fun i => [Lit.int .u8 ((b.getD i 0).toNat : Int)]).flatten) ↔ a = b := by
    constructor
    · intro h
      apply bytes_ext (by rw [ha, hb])
      intro j hj
      have e : ∀ c : Bytes, ((List.range 32).map fun i => [Lit.int .u8 ((c.getD i 0).toNat : Int)]).flatten = (List.range 32).map fun i => Lit.int .u8 ((c.getD i 0).toNat : Int) := by
        intro c
        exact flatten_one _ _
      rw [e, e] at h
      have h2 := congrArg (·[j]?) h
      simp only [List.getElem?_map, List.getElem?_range (show j < 32 by omega), Option.map_some, Option.some.injEq, Lit.int.injEq, true_and] at h2
      exact UInt8.toNat_inj.1 (by omega)
    · intro h; rw [h]
  cases r with
  | true => exact (beq_iff_eq.2 (key.1 (hiff.1 rfl))).symm
  | false =>
    symm
    rw [beq_eq_false_iff_ne]
    intro e
    have := hiff.2 (key.2 e)
    cases this

theorem eqFields_s {P : Program} (d : Nat) (xs ys : Array Value) (f : Field) (fs : List Field) (w : World) (a b : Value) (r : Bool) (hn : f.name ≠ "_") (ha : (part f.type xs f.offset).run P w = .ok a w) (hb : (part f.type ys f.offset).run P w = .ok b w) (hr : (Op.equalIn d f.type a b).run P w = .ok r w) :
    (Op.eqFields d xs ys (f :: fs)).run P w = if r = true then (Op.eqFields d xs ys fs).run P w else .ok false w := by
  rw [Op.eqFields, if_pos hn]
  simp only [Sem.run_bind, ha, hb, hr, Result.andThen_ok]
  cases r <;> rfl

theorem eqInt_s (d : Nat) (a b : Int) (w : World) : (Op.equalIn (d + 1) 3 (.int .i64 a) (.int .i64 b)).run Tryz.prog w = .ok (a == b) w := by
  have u3 := Tryz.underlying3
  go_simp

end Frk

/- The examples of signatures, reckoned. -/
namespace Frk
open Go Go.RowKit Go.Proofs
set_option maxRecDepth 100000

def tLetter : Bytes := [108, 101, 116, 116, 101, 114]
end Frk

/- The reference's Mod, Times, Power and Quotient. -/
namespace Frk
open Go Go.RowKit Go.Proofs
set_option maxRecDepth 100000

def pwqn (a n : Nat) : Nat := a ^ n % Q

/-- Q less 2 -/
def eQ : Nat := 1073741787
attribute [irreducible] eQ

/-- the quotient modulo Q -/
def quo (a b : Int) : Nat := lq a * pwqn (lq b) eQ % 1073741789
end Frk

/- The reference's Pow and Mul. -/
namespace Frk
open Go Go.RowKit Go.Proofs
set_option maxRecDepth 100000

theorem rvalid_at (x : Int) (r : Bool) (w : World) (hr : vd x = r) : Calls Tryz.prog 82 #[.int .i64 x] w fun e w' => e = .returned (.bool r) ∧ w = w' := by
  rw [← hr]; exact rvalid_any x w
end Frk

/- Elements and numbers: group.Element, group.Number and the reference's. -/
namespace Frk
open Go Go.RowKit Go.Proofs
set_option maxRecDepth 100000

/-- the element of a number -/
def elB (n : Int) : Int := if vd n = true then n else 2147483579 - n
def numOk (n : Int) : Bool := decide (1 ≤ n) && decide (n ≤ 1073741789)

theorem valid_at1 (x : Int) (r : Bool) (w : World) (hr : vd x = r) : Calls Tryz.prog 63 #[.int .i64 x] w fun e w' => e = .returned (.bool r) ∧ w = w' := by
  rw [← hr]; exact valid_any x w

theorem element_no (n : Int) (w : World) (h : n < 1 ∨ 1073741789 < n) : Calls Tryz.prog 45 #[.int .i64 n] w fun e w' => e = .returned (.tuple #[.int .i64 0, .int .i64 1]) ∧ w = w' := by
  rcases h with h | h
  · go_enter Tryz.func45, Tryz.ntmps45
    go_wp2
    go_ret2
    exact ⟨rfl, rfl⟩
  · have h' : ¬ n < 1 := by omega
    go_enter Tryz.func45, Tryz.ntmps45
    go_wp2
    go_ret2
    exact ⟨rfl, rfl⟩

theorem element_yes (n p : Int) (w : World) (h1 : 1 ≤ n) (h2 : n ≤ 1073741789) (hp : Seal (elB n = p)) : Calls Tryz.prog 45 #[.int .i64 n] w fun e w' => e = .returned (.tuple #[.int .i64 p, .int .i64 0]) ∧ w = w' := by
  have hp' := hp.out
  unfold elB at hp'
  have n1 : ¬ n < 1 := by omega
  have n2 : ¬ 1073741789 < n := by omega
  cases hv : vd n with
  | true =>
    rw [if_pos hv] at hp'
    have HV := Seal.mk hv
    subst hp'
    clear hv hp
    go_enter Tryz.func45, Tryz.ntmps45
    go_wp2_with fail
    refine (valid_at1 n true _ HV.out).mono ?_
    rintro e w' ⟨rfl, rfl⟩
    go_wp2
    go_ret2
    exact ⟨rfl, rfl⟩
  | false =>
    rw [if_neg (by rw [hv]; decide)] at hp'
    have HV := Seal.mk hv
    subst hp'
    clear hv hp
    go_enter Tryz.func45, Tryz.ntmps45
    go_wp2_with fail
    refine (valid_at1 n false _ HV.out).mono ?_
    rintro e w' ⟨rfl, rfl⟩
    go_wp2
    go_ret2
    exact ⟨rfl, rfl⟩
/-- the number of an element -/
def nmB (x : Int) : Int := if x ≤ 1073741789 then x else 2147483579 - x

end Frk

