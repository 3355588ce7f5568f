/- Parts of the proof, joined. -/
import Derived.Test.YtnpnboldjbljaaaDoorVfgDls
import Derived.Test.YtnpnboldjbljaaaDoorVfgEnv
import Derived.DeepKeys
import Derived.Test.YtnpnboldjbljaaaDoorVfRow
import Derived.Test.YtnpnboldjbljaaaDoorVfDbs
import Derived.Deep.Cut
import Derived.Test.YtnpnboldjbljaaaDoorVfDvb
/- Digests held against each other. -/
namespace Frk
open Go Go.RowKit Go.Proofs
set_option maxRecDepth 100000

theorem mapM_some {α β : Type} {f : α → Option β} {g : α → β} : ∀ (L : List α), (∀ x ∈ L, f x = some (g x)) → L.mapM f = some (L.map g)
  | [], _ => by simp
  | x :: L, h => by
    rw [List.mapM_cons, h x (by simp)]
    simp only [bind, Option.bind_some]
    rw [mapM_some L (fun y hy => h y (by simp [hy]))]
    rfl

theorem flatten_one {α β : Type} (f : α → β) : ∀ L : List α, (L.map fun i => [f i]).flatten = L.map f
  | [] => rfl
  | x :: L => by simp only [List.map_cons, List.flatten_cons, flatten_one f L]; rfl

theorem lits_u8 (a : Bytes) (n : Nat) (hn : a.length = n) :
    (List.range n).mapM (fun i => Tryd.prog.keyLits 1 5 (((a.map B).toArray.toList.drop (i * Tryd.prog.cellsOf 5)).take (Tryd.prog.cellsOf 5))) = some ((List.range n).map fun i => [Lit.int .u8 ((a.getD i 0).toNat : Int)]) := by
  have c1 : Tryd.prog.cellsOf 5 = 1 := by kernel_rfl
  apply mapM_some
  intro i hi
  have hlt : i < a.length := by rw [hn]; exact List.mem_range.1 hi
  rw [c1, Nat.mul_one]
  have e : ((a.map B).toArray.toList.drop i).take 1 = [B (a.getD i 0)] := by
    rw [show (a.map B).toArray.toList = a.map B from rfl, List.drop_eq_getElem_cons (by simpa using hlt), List.take_succ_cons, List.take_zero, List.getElem_map, List.getD_eq_getElem?_getD, List.getElem?_eq_getElem hlt]
    rfl
  rw [e]
  unfold Program.keyLits
  rw [Tryd.underlying5]
  have hb := UInt8.toNat_lt (a.getD i 0)
  have h1 : IntKind.u8.min = 0 := by decide
  have h2 : IntKind.u8.max = 255 := by decide
  have hw : (Lit.int .u8 ((a.getD i 0).toNat : Int)).wf = true := by
    simp only [Lit.wf, h1, h2]
    simp only [Bool.and_eq_true, decide_eq_true_eq]
    omega
  simp only []
  rw [if_pos ⟨trivial, hw⟩]

theorem eqAt_u8 : EqAt Tryd.prog 9999 5 := run_equalIn_deep 9998 1 5 (by kernel_rfl)

theorem eqDig (a b : Bytes) (ha : a.length = 32) (hb : b.length = 32) (w : World) :
    (Op.equalIn 10000 29 (.agg (a.map B).toArray) (.agg (b.map B).toArray)).run Tryd.prog w = .ok (a == b) w := by
  obtain ⟨i0, hi, _⟩ := info_parts info_u8
  rw [show (10000 : Nat) = 9999 + 1 from rfl, run_equalIn_array w 9999 _ _ Tryd.underlying29 hi]
  obtain ⟨r, hr, hiff⟩ := run_eqItems_deep w 9999 eqAt_u8 (a.map B).toArray (b.map B).toArray (List.range 32) _ _ (lits_u8 a 32 ha) (lits_u8 b 32 hb)
  rw [hr]
  congr 1
  have key : (((List.range 32).map fun i => [Lit.int .u8 ((a.getD i 0).toNat : Int)]).flatten = ((List.range 32).map fun i => [Lit.int .u8 ((b.getD i 0).toNat : Int)]).flatten) ↔ a = b := by
    constructor
    · intro h
      apply bytes_ext (by rw [ha, hb])
      intro j hj
      have e : ∀ c : Bytes, ((List.range 32).map fun i => [Lit.int .u8 ((c.getD i 0).toNat : Int)]).flatten = (List.range 32).map fun i => Lit.int .u8 ((c.getD i 0).toNat : Int) := by
        intro c
        exact flatten_one _ _
      rw [e, e] at h
      have h2 := congrArg (·[j]?) h
      simp only [List.getElem?_map, List.getElem?_range (show j < 32 by omega), Option.map_some, Option.some.injEq, Lit.int.injEq, true_and] at h2
      exact UInt8.toNat_inj.1 (by omega)
    · intro h; rw [h]
  cases r with
  | true => exact (beq_iff_eq.2 (key.1 (hiff.1 rfl))).symm
  | false =>
    symm
    rw [beq_eq_false_iff_ne]
    intro e
    have := hiff.2 (key.2 e)
    cases this
end Frk

/- General things. -/
namespace Frk
open Go Go.RowKit Go.Proofs
set_option maxRecDepth 100000

def I64 (n : Int) : Prop := -9223372036854775808 ≤ n ∧ n ≤ 9223372036854775807

theorem ownsRow_below {w w' : World} {base : Nat} {e : TypeId} {size n : Nat} {v : Value} {xs : List Value} (h : w.ownsRow base e size v n xs) (hb : Below w.heap.size w w') : w'.ownsRow base e size v n xs :=
  h.kept (row := none) (grown_of_below hb none) (by cases hv : v.ownBlock with | none => exact .inl rfl | some b => exact .inr (by simp))

/-- numbers as leaves -/
def lfs (ns : List Int) : List Lf := ns.map Lf.i

theorem wgts_lfs (ns : List Int) : wgts (lfs ns) = ns.length * 11 := by
  induction ns with
  | nil => rfl
  | cons n ns ih =>
    have e : lfs (n :: ns) = Lf.i n :: lfs ns := rfl
    rw [e, wgts_cons, ih, List.length_cons]
    show 11 + _ = _
    omega

def zb32 : Bytes := [0, 0, 0, 0, 0, 0, 0, 0, 0, 0, 0, 0, 0, 0, 0, 0, 0, 0, 0, 0, 0, 0, 0, 0, 0, 0, 0, 0, 0, 0, 0, 0]

theorem cell_below' {w w' : World} {b i : Nat} {v : Value} (hb : Below w.heap.size w w') (h : w.cell? ⟨b, i, none⟩ = some v) : w'.cell? ⟨b, i, none⟩ = some v :=
  (hb.cell (p := ⟨b, i, none⟩) (block_lt_of_cell h)).trans h

/-- a stretch of a walk, ended by what its slots and its world are -/
def CutQ (F : Nat → Act) (R : Nat → World → Prop) : Exit → Act → World → Prop
  | .normal, a, W => ∃ g, a = F g ∧ R g W
  | _, _, _ => False

theorem exec_store_row {P : Program} {o : Oper} {a : Act} {w : World} (ty : TypeId) (x y : Operand) (ho : o.op = .store ty x y)
    (g : Nat) (cells : Array Value) (hx : a.eval x = .pointer (some ⟨g, 0, none⟩)) (hy : a.eval y = .agg cells)
    (t : TypeId) (old : Array Value) (hg : w.heap[g]? = some (.cells old t (0, 0))) (hi : (P.info? ty).map (·.size) = some cells.size)
    (hold : old.size = cells.size) (h1 : cells.all (·.oneCell') = true) : (execOp a.eval o).run P w = .ok .skip (w.setRow g cells) := by
  unfold execOp
  simp only [ho, hx, hy, Instr.storeAt, Instr.sureAddr, Sem.run_bind, Sem.run_pure, Result.andThen_ok, run_storeVar_row w g t ty old cells hg hi hold h1]

theorem rangeAt_setRow {w : World} {g b off : Nat} {cs : List Value} {ds : Array Value} (h : w.rangeAt b off cs) (hne : b ≠ g) : (w.setRow g ds).rangeAt b off cs :=
  fun j u hu => (cell_setRow_other w g ds ⟨b, off + j, none⟩ hne).trans (h j u hu)

theorem fold_lay_at (k : Nat) : ∀ (L : List Value) (j : Nat) (Z : List Value), k + j + L.length ≤ Z.length → (L.zipIdx j).foldl (fun cs x => cs.setIfInBounds (k + x.2) x.1) Z.toArray = (lay Z (k + j) L).toArray
  | [], j, Z, _ => by rw [lay_nil]; rfl
  | v :: L, j, Z, h => by
    have hk : k + j < Z.length := by simp at h; omega
    rw [List.zipIdx_cons, List.foldl_cons, List.setIfInBounds_toArray, fold_lay_at k L (j + 1) (Z.set (k + j) v) (by simp at h ⊢; omega), ← Nat.add_assoc, lay_cons hk]

theorem eqAt_u8s (d : Nat) : EqAt Tryd.prog (d + 1) 5 := run_equalIn_deep d 1 5 (by kernel_rfl)

theorem eqDig_s (dd : Nat) (a b : Bytes) (ha : a.length = 32) (hb : b.length = 32) (w : World) :
    (Op.equalIn (dd + 1 + 1) 29 (.agg (a.map B).toArray) (.agg (b.map B).toArray)).run Tryd.prog w = .ok (a == b) w := by
  obtain ⟨i0, hi, _⟩ := info_parts info_u8
  rw [run_equalIn_array w (dd + 1) _ _ Tryd.underlying29 hi]
  obtain ⟨r, hr, hiff⟩ := run_eqItems_deep w (dd + 1) (eqAt_u8s dd) (a.map B).toArray (b.map B).toArray (List.range 32) _ _ (lits_u8 a 32 ha) (lits_u8 b 32 hb)
  rw [hr]
  congr 1
  have key : (((List.range 32).map fun i => [Lit.int .u8 ((a.getD i 0).toNat : Int)]).flatten = ((List.range 32).map fun i => [Lit.int .u8 ((b.getD i 0).toNat : Int)]).flatten) ↔ a = b := by
    constructor
    · intro h
      apply bytes_ext (by rw [ha, hb])
      intro j hj
      have e : ∀ c : Bytes, ((List.range 32).map fun i => [Lit.int .u8 ((c.getD i 0).toNat : Int)]).flatten = (List.range 32).map fun i => Lit.int .u8 ((c.getD i 0).toNat : Int) := by
        intro c
        exact flatten_one _ _
      rw [e, e] at h
      have h2 := congrArg (·[j]?) h
      simp only [List.getElem?_map, List.getElem?_range (show j < 32 by omega), Option.map_some, Option.some.injEq, Lit.int.injEq, true_and] at h2
      exact UInt8.toNat_inj.1 (by omega)
    · intro h; rw [h]
  cases r with
  | true => exact (beq_iff_eq.2 (key.1 (hiff.1 rfl))).symm
  | false =>
    symm
    rw [beq_eq_false_iff_ne]
    intro e
    have := hiff.2 (key.2 e)
    cases this

theorem eqFields_s {P : Program} (d : Nat) (xs ys : Array Value) (f : Field) (fs : List Field) (w : World) (a b : Value) (r : Bool) (hn : f.name ≠ "_") (ha : (part f.type xs f.offset).run P w = .ok a w) (hb : (part f.type ys f.offset).run P w = .ok b w) (hr : (Op.equalIn d f.type a b).run P w = .ok r w) :
    (Op.eqFields d xs ys (f :: fs)).run P w = if r = true then (Op.eqFields d xs ys fs).run P w else .ok false w := by
  rw [Op.eqFields, if_pos hn]
  simp only [Sem.run_bind, ha, hb, hr, Result.andThen_ok]
  cases r <;> rfl

theorem eqInt_s (d : Nat) (a b : Int) (w : World) : (Op.equalIn (d + 1) 3 (.int .i64 a) (.int .i64 b)).run Tryd.prog w = .ok (a == b) w := by
  have u3 := Tryd.underlying3
  go_simp

end Frk

/- Slices of rows of equal length, in general; law 44's postings. -/
namespace Frk
open Go Go.RowKit Go.Proofs
set_option maxRecDepth 100000

/-! ## a slice whose elements are told by their cells -/
section
variable {α : Type} (C : α → List Value) (z : Nat)

structure IsC (w : World) (a : Option Addr) (n c : Nat) (l : List α) : Prop where
  llen : l.length = n
  lcap : n ≤ c
  lmax : n ≤ 5000
  cmax : c ≤ 9223372036854775807
  each : ∀ x ∈ l, (C x).length = z
  at_ : n = 0 ∨ ∃ g o, a = some ⟨g, o, none⟩ ∧ w.rangeAt g o (l.flatMap C) ∧ g < w.heap.size
end
section
variable {α : Type} {C : α → List Value} {z : Nat}

theorem isC_flat_at : ∀ {l : List α} {i : Nat} {x : α} (_ : ∀ x ∈ l, (C x).length = z) (_ : l[i]? = some x) (j : Nat) (v : Value), (C x)[j]? = some v → (l.flatMap C)[i * z + j]? = some v
  | [], i, x, _, hx, _, _, _ => by simp at hx
  | y :: l, i, x, he, hx, j, v, hv => by
    rw [List.flatMap_cons]
    cases i with
    | zero =>
      cases hx
      rw [Nat.zero_mul, Nat.zero_add, List.getElem?_append_left (List.getElem?_eq_some_iff.1 hv).1]
      exact hv
    | succ i =>
      have hy := he y List.mem_cons_self
      rw [List.getElem?_append_right (by rw [hy, Nat.succ_mul]; omega), hy, show (i + 1) * z + j - z = i * z + j from by rw [Nat.succ_mul]; omega]
      exact isC_flat_at (fun x hx => he x (List.mem_cons_of_mem _ hx)) (by simpa using hx) j v hv
theorem isC_flat_len : ∀ {l : List α} (_ : ∀ x ∈ l, (C x).length = z), (l.flatMap C).length = l.length * z
  | [], _ => by simp
  | y :: l, he => by
    rw [List.flatMap_cons, List.length_append, he y List.mem_cons_self, isC_flat_len fun x hx => he x (List.mem_cons_of_mem _ hx), List.length_cons, Nat.succ_mul]
    omega
theorem IsC.below {w w' : World} {a : Option Addr} {n c : Nat} {l : List α} (h : IsC C z w a n c l) (hb : Below w.heap.size w w') : IsC C z w' a n c l :=
  ⟨h.llen, h.lcap, h.lmax, h.cmax, h.each, by
    rcases h.at_ with h0 | ⟨g, o, e, hr, hg⟩
    · exact .inl h0
    · exact .inr ⟨g, o, e, rangeAt_below' hr hb, Nat.lt_of_lt_of_le hg hb.size⟩⟩
theorem rangeC_row {w : World} {g o : Nat} {l : List α} (hr : w.rangeAt g o (l.flatMap C)) (he : ∀ x ∈ l, (C x).length = z) {i : Nat} {x : α} (hx : l[i]? = some x) : w.rangeAt g (o + i * z) (C x) := fun j v hv => by
  have := hr (i * z + j) v (isC_flat_at he hx j v hv)
  rwa [show o + i * z + j = o + (i * z + j) from by omega]
/-- one's own, as a slice -/
theorem isC_own {w : World} {base : Nat} {e : TypeId} {v : Value} {n : Nat} {l : List α} (h : w.ownsRow base e z v n (l.flatMap C)) (he : ∀ x ∈ l, (C x).length = z) (hl : l.length = n) (hm : n ≤ 5000) : ∃ a c, v = .slice a n c ∧ IsC C z w a n c l := by
  rcases h.2 with ⟨rfl, rfl⟩ | ⟨g, cap, cur, rfl, _, hg, hc, hcm, hs, ht⟩
  · exact ⟨none, 0, rfl, hl, Nat.le_refl _, hm, by decide, he, .inl rfl⟩
  · refine ⟨some ⟨g, 0, none⟩, cap, rfl, hl, hc, hm, by unfold maxLen at hcm; omega, he, .inr ⟨g, 0, rfl, ?_, (Array.getElem?_eq_some_iff.1 hg).1⟩⟩
    intro j u hu
    rw [cell_of_row _ _ _ _ _ _ hg]
    rw [← ht, List.getElem?_take] at hu
    split at hu
    · simpa using hu
    · cases hu
end

/-! ## postings -/
def Po.C (p : Po) : List Value := .int .i64 p.o :: p.S.map B
structure Po.ok (p : Po) : Prop where
  s32 : p.S.length = 32
  io : I64 p.o
theorem Po.C_len {p : Po} (h : p.S.length = 32) : p.C.length = 33 := by simp [Po.C, h]
theorem Po.C_one (p : Po) : ∀ u ∈ p.C, u.oneCell' = true := by
  intro u hu
  rcases List.mem_cons.1 hu with e | e
  · rw [e]; rfl
  · obtain ⟨b, _, rfl⟩ := List.mem_map.1 e
    rfl
def intC (n : Int) : List Value := [.int .i64 n]
theorem intC_flat (l : List Int) : l.flatMap intC = l.map (Value.int .i64) := by
  induction l with
  | nil => rfl
  | cons x l ih => rw [List.flatMap_cons, ih]; rfl
abbrev IsPs (w : World) (a : Option Addr) (n c : Nat) (l : List Po) : Prop := IsC Po.C 33 w a n c l
abbrev IsIs (w : World) (a : Option Addr) (n c : Nat) (l : List Int) : Prop := IsC intC 1 w a n c l
end Frk

