/- Parts of the proof, joined. -/
import Derived.Test.YtemoomfnmiodeaaDoorVrgSig
import Derived.Test.YtemoomfnmiodeaaDoorVrRow
import Derived.Test.YtemoomfnmiodeaaDoorVrgDbs
import Derived.Deep.Cut
import Derived.Lib.SlBytesConst
import Derived.Test.YtemoomfnmiodeaaDoorVrgGpr
import Derived.Test.YtemoomfnmiodeaaDoorVrgKit
import Derived.Test.YtemoomfnmiodeaaDoorProg
import Derived.BigQuiet
import Derived.Lib.Hide
/- General things. -/
namespace Frk
open Go Go.RowKit Go.Proofs
set_option maxRecDepth 100000

def I64 (n : Int) : Prop := -9223372036854775808 ≤ n ∧ n ≤ 9223372036854775807

theorem exec_append {P : Program} {o : Oper} {a : Act} {w w' : World} (s x : Operand) (t tn : TypeId) (ho : o.op = .call { callee := .builtin .append, args := #[s, x], argTypes := #[t, tn] }) (sv xv v : Value) (hs : a.eval s = sv) (hx : a.eval x = xv)
    (hrun : ∀ ty, (Builtin.append_ #[t, tn] ty #[sv, xv]).run P w = .ok v w') : (execOp a.eval o).run P w = .ok (.value v) w' := by
  have := hrun o.type
  simp [execOp, ho, resolve, invoke, builtin, hs, hx, this, Result.andThen]

theorem ownsRow_below {w w' : World} {base : Nat} {e : TypeId} {size n : Nat} {v : Value} {xs : List Value} (h : w.ownsRow base e size v n xs) (hb : Below w.heap.size w w') : w'.ownsRow base e size v n xs :=
  h.kept (row := none) (grown_of_below hb none) (by cases hv : v.ownBlock with | none => exact .inl rfl | some b => exact .inr (by simp))

theorem exec_append1 {P : Program} {o : Oper} {a : Act} {w w' : World} (s x : Operand) (t tn ty : TypeId) (hty : o.type = ty) (ho : o.op = .call { callee := .builtin .append, args := #[s, x], argTypes := #[t, tn] }) (sv xv v : Value) (hs : a.eval s = sv) (hx : a.eval x = xv)
    (hrun : (Builtin.append_ #[t, tn] ty #[sv, xv]).run P w = .ok v w') : (execOp a.eval o).run P w = .ok (.value v) w' := by
  subst hty
  simp [execOp, ho, resolve, invoke, builtin, hs, hx, hrun, Result.andThen]

/-- numbers as leaves -/
def lfs (ns : List Int) : List Lf := ns.map Lf.i

theorem wgts_lfs (ns : List Int) : wgts (lfs ns) = ns.length * 11 := by
  induction ns with
  | nil => rfl
  | cons n ns ih =>
    have e : lfs (n :: ns) = Lf.i n :: lfs ns := rfl
    rw [e, wgts_cons, ih, List.length_cons]
    show 11 + _ = _
    omega

def zb32 : Bytes := [0, 0, 0, 0, 0, 0, 0, 0, 0, 0, 0, 0, 0, 0, 0, 0, 0, 0, 0, 0, 0, 0, 0, 0, 0, 0, 0, 0, 0, 0, 0, 0]

theorem zb32_len : zb32.length = 32 := rfl

theorem cell_below' {w w' : World} {b i : Nat} {v : Value} (hb : Below w.heap.size w w') (h : w.cell? ⟨b, i, none⟩ = some v) : w'.cell? ⟨b, i, none⟩ = some v :=
  (hb.cell (p := ⟨b, i, none⟩) (block_lt_of_cell h)).trans h

/-- a stretch of a walk, ended by what its slots and its world are -/
def CutQ (F : Nat → Act) (R : Nat → World → Prop) : Exit → Act → World → Prop
  | .normal, a, W => ∃ g, a = F g ∧ R g W
  | _, _, _ => False

theorem exec_store_row {P : Program} {o : Oper} {a : Act} {w : World} (ty : TypeId) (x y : Operand) (ho : o.op = .store ty x y)
    (g : Nat) (cells : Array Value) (hx : a.eval x = .pointer (some ⟨g, 0, none⟩)) (hy : a.eval y = .agg cells)
    (t : TypeId) (old : Array Value) (hg : w.heap[g]? = some (.cells old t (0, 0))) (hi : (P.info? ty).map (·.size) = some cells.size)
    (hold : old.size = cells.size) (h1 : cells.all (·.oneCell') = true) : (execOp a.eval o).run P w = .ok .skip (w.setRow g cells) := by
  unfold execOp
  simp only [ho, hx, hy, Instr.storeAt, Instr.sureAddr, Sem.run_bind, Sem.run_pure, Result.andThen_ok, run_storeVar_row w g t ty old cells hg hi hold h1]

theorem fold_lay_at (k : Nat) : ∀ (L : List Value) (j : Nat) (Z : List Value), k + j + L.length ≤ Z.length → (L.zipIdx j).foldl (fun cs x => cs.setIfInBounds (k + x.2) x.1) Z.toArray = (lay Z (k + j) L).toArray
  | [], j, Z, _ => by rw [lay_nil]; rfl
  | v :: L, j, Z, h => by
    have hk : k + j < Z.length := by simp at h; omega
    rw [List.zipIdx_cons, List.foldl_cons, List.setIfInBounds_toArray, fold_lay_at k L (j + 1) (Z.set (k + j) v) (by simp at h ⊢; omega), ← Nat.add_assoc, lay_cons hk]

theorem eqAt_u8s (d : Nat) : EqAt Tryd.prog (d + 1) 5 := run_equalIn_deep d 1 5 (by kernel_rfl)

theorem eqDig_s (dd : Nat) (a b : Bytes) (ha : a.length = 32) (hb : b.length = 32) (w : World) :
    (Op.equalIn (dd + 1 + 1) 37 (.agg (a.map B).toArray) (.agg (b.map B).toArray)).run Tryd.prog w = .ok (a == b) w := by
  obtain ⟨i0, hi, _⟩ := info_parts info_u8
  rw [run_equalIn_array w (dd + 1) _ _ Tryd.underlying37 hi]
  obtain ⟨r, hr, hiff⟩ := run_eqItems_deep w (dd + 1) (eqAt_u8s dd) (a.map B).toArray (b.map B).toArray (List.range 32) _ _ (lits_u8 a 32 ha) (lits_u8 b 32 hb)
  rw [hr]
  congr 1
  have key : (((List.range 32).map fun i => [Lit.int .u8 ((a.getD i 0).toNat : Int)]).flatten = ((List.range 32).map fun i => [Lit.int .u8 ((b.getD i 0).toNat : Int)]).flatten) ↔ a = b := by
    constructor
    · intro h
      apply bytes_ext (by rw [ha, hb])
      intro j hj
      have e : ∀ c : Bytes, ((List.range 32).map fun i => [Lit.int .u8 ((c.getD i 0).toNat : Int)]).flatten = (List.range 32).map fun i => Lit.int .u8 ((c.getD i 0).toNat : Int) := by
        intro c
        exact flatten_one _ _
      rw [e, e] at h
      have h2 := congrArg (·[j]?) h
      simp only [List.getElem?_map, List.getElem?_range (show j < 32 by omega), Option.map_some, Option.some.injEq, Lit.int.injEq, true_and] at h2
      exact UInt8.toNat_inj.1 (by omega)
    · intro h; rw [h]
  cases r with
  | true => exact (beq_iff_eq.2 (key.1 (hiff.1 rfl))).symm
  | false =>
    symm
    rw [beq_eq_false_iff_ne]
    intro e
    have := hiff.2 (key.2 e)
    cases this

theorem eqFields_s {P : Program} (d : Nat) (xs ys : Array Value) (f : Field) (fs : List Field) (w : World) (a b : Value) (r : Bool) (hn : f.name ≠ "_") (ha : (part f.type xs f.offset).run P w = .ok a w) (hb : (part f.type ys f.offset).run P w = .ok b w) (hr : (Op.equalIn d f.type a b).run P w = .ok r w) :
    (Op.eqFields d xs ys (f :: fs)).run P w = if r = true then (Op.eqFields d xs ys fs).run P w else .ok false w := by
  rw [Op.eqFields, if_pos hn]
  simp only [Sem.run_bind, ha, hb, hr, Result.andThen_ok]
  cases r <;> rfl

theorem eqInt_s (d : Nat) (a b : Int) (w : World) : (Op.equalIn (d + 1) 3 (.int .i64 a) (.int .i64 b)).run Tryd.prog w = .ok (a == b) w := by
  have u3 := Tryd.underlying3
  go_simp

end Frk

/- The examples of signatures, reckoned. -/
namespace Frk
open Go Go.RowKit Go.Proofs
set_option maxRecDepth 100000

def tLetter : Bytes := [108, 101, 116, 116, 101, 114]
end Frk

/- The reference's Mod, Times, Power and Quotient. -/
namespace Frk
open Go Go.RowKit Go.Proofs
set_option maxRecDepth 100000

def pwqn (a n : Nat) : Nat := a ^ n % Q

/-- Q less 2 -/
def eQ : Nat := 1073741787
attribute [irreducible] eQ

/-- the quotient modulo Q -/
def quo (a b : Int) : Nat := lq a * pwqn (lq b) eQ % 1073741789
end Frk

/- Elements and numbers: group.Element, group.Number and the reference's. -/
namespace Frk
open Go Go.RowKit Go.Proofs
set_option maxRecDepth 100000

/-- the element of a number -/
def elB (n : Int) : Int := if vd n = true then n else 2147483579 - n
def numOk (n : Int) : Bool := decide (1 ≤ n) && decide (n ≤ 1073741789)

theorem valid_at1 (x : Int) (r : Bool) (w : World) (hr : vd x = r) : Calls Tryd.prog 28 #[.int .i64 x] w fun e w' => e = .returned (.bool r) ∧ w = w' := by
  rw [← hr]; exact valid_any x w

theorem element_no (n : Int) (w : World) (h : n < 1 ∨ 1073741789 < n) : Calls Tryd.prog 29 #[.int .i64 n] w fun e w' => e = .returned (.tuple #[.int .i64 0, .int .i64 1]) ∧ w = w' := by
  rcases h with h | h
  · go_enter Tryd.func29, Tryd.ntmps29
    go_wp2
    go_ret2
    exact ⟨rfl, rfl⟩
  · have h' : ¬ n < 1 := by omega
    go_enter Tryd.func29, Tryd.ntmps29
    go_wp2
    go_ret2
    exact ⟨rfl, rfl⟩

theorem element_yes (n p : Int) (w : World) (h1 : 1 ≤ n) (h2 : n ≤ 1073741789) (hp : Seal (elB n = p)) : Calls Tryd.prog 29 #[.int .i64 n] w fun e w' => e = .returned (.tuple #[.int .i64 p, .int .i64 0]) ∧ w = w' := by
  have hp' := hp.out
  unfold elB at hp'
  have n1 : ¬ n < 1 := by omega
  have n2 : ¬ 1073741789 < n := by omega
  cases hv : vd n with
  | true =>
    rw [if_pos hv] at hp'
    have HV := Seal.mk hv
    subst hp'
    clear hv hp
    go_enter Tryd.func29, Tryd.ntmps29
    go_wp2_with fail
    refine (valid_at1 n true _ HV.out).mono ?_
    rintro e w' ⟨rfl, rfl⟩
    go_wp2
    go_ret2
    exact ⟨rfl, rfl⟩
  | false =>
    rw [if_neg (by rw [hv]; decide)] at hp'
    have HV := Seal.mk hv
    subst hp'
    clear hv hp
    go_enter Tryd.func29, Tryd.ntmps29
    go_wp2_with fail
    refine (valid_at1 n false _ HV.out).mono ?_
    rintro e w' ⟨rfl, rfl⟩
    go_wp2
    go_ret2
    exact ⟨rfl, rfl⟩
/-- the number of an element -/
def nmB (x : Int) : Int := if x ≤ 1073741789 then x else 2147483579 - x

end Frk

