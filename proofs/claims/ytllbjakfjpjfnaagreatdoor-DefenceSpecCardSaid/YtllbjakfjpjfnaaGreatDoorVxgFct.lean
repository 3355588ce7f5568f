/- Parts of the proof, joined. -/
import Derived.Test.YtllbjakfjpjfnaaGreatDoorVxgEqd
import Derived.Test.YtllbjakfjpjfnaaGreatDoorVxgGen
import Derived.Deep.Cut
import Derived.Test.YtllbjakfjpjfnaaGreatDoorVxRow
import Derived.Test.YtllbjakfjpjfnaaGreatDoorVxFpl
import Derived.Recover
import Derived.WalkLawsBesides
/- Law 44, plain: lists that rise; what is put in its place; what two lists give together. -/
namespace Frk
set_option maxRecDepth 100000

section
variable {α : Type} (key : α → Int)

def RisK (l : List α) : Prop := l.Pairwise (fun a b => key a < key b)
instance (l : List α) : Decidable (RisK key l) := by unfold RisK; infer_instance
def risB (l : List α) : Bool := decide (RisK key l)
def atK (l : List α) (n : Int) : Nat := (l.takeWhile (fun a => decide (key a < n))).length
def hasK (l : List α) (n : Int) : Bool := l.any (fun a => key a == n)
def insK (l : List α) (a : α) : List α := l.take (atK key l (key a)) ++ a :: l.drop (atK key l (key a))
/-- two lists say the same of what is in both -/
def AgrK (a b : List α) : Prop := ∀ x ∈ a, ∀ y ∈ b, key x = key y → x = y
def mrgK : List α → List α → List α
  | [], b => b
  | x :: a, [] => x :: a
  | x :: a, y :: b => if key x < key y then x :: mrgK a (y :: b) else if key y < key x then y :: mrgK (x :: a) b else y :: mrgK a b
termination_by a b => a.length + b.length
end

section
variable {α : Type} {key : α → Int}

theorem RisK.lt {l : List α} (h : RisK key l) {i j : Nat} {x y : α} (hij : i < j) (hx : l[i]? = some x) (hy : l[j]? = some y) : key x < key y := by
  obtain ⟨hi, ex⟩ := List.getElem?_eq_some_iff.1 hx
  obtain ⟨hj, ey⟩ := List.getElem?_eq_some_iff.1 hy
  have := List.pairwise_iff_getElem.1 h i j hi hj hij
  rw [ex, ey] at this
  exact this
theorem RisK.inj {l : List α} (h : RisK key l) {x y : α} (hx : x ∈ l) (hy : y ∈ l) (e : key x = key y) : x = y := by
  obtain ⟨i, hi⟩ := List.mem_iff_getElem?.1 hx
  obtain ⟨j, hj⟩ := List.mem_iff_getElem?.1 hy
  rcases Nat.lt_trichotomy i j with h1 | h1 | h1
  · have := h.lt h1 hi hj; omega
  · subst h1; rw [hi] at hj; exact Option.some.inj hj
  · have := h.lt h1 hj hi; omega

/-- the reference's way to merge: one after the other is put in -/
def foldP (a : List α) (b : List α) : List α := b.foldl (fun x p => if hasK key a (key p) then x else insK key x p) a
end

/-! ## numbers -/

def idI (n : Int) : Int := n
/-- a number is put in its place, once -/
def putI (l : List Int) (n : Int) : List Int := if hasK idI l n then l else insK idI l n
def foldG (a b : List Int) : List Int := b.foldl putI a
end Frk

/- Law 44, plain: devices. -/
namespace Frk
set_option maxRecDepth 100000

structure Po where
  o : Int
  S : Bytes
deriving DecidableEq
structure Dv where
  P : List Po
  G : List Int
def Dv.z : Dv := ⟨[], []⟩

def okP (p : Po) : Bool := decide (0 ≤ p.o) && decide (p.o ≤ 1048576)
def rightD (d : Dv) : Bool := d.P.all okP && (risB Po.o d.P && (risB idI d.G && d.G.all (fun n => hasK Po.o d.P n)))
def chkD (d : Dv) : Int := if 4096 < d.P.length then 2 else if rightD d then 0 else 440
/-- a posting of b that a knows otherwise -/
def confD (a b : List Po) : Bool := b.any (fun p => a.any (fun q => (q.o == p.o) && !decide (q = p)))
theorem AgrK.symm {α : Type} {key : α → Int} {a b : List α} (h : AgrK key a b) : AgrK key b a := fun x hx y hy e => (h y hy x hx e.symm).symm
def mrgD (a b : Dv) : Dv := ⟨mrgK Po.o a.P b.P, mrgK idI a.G b.G⟩
def mergeE (a b : Dv) : Int := if chkD a ≠ 0 then chkD a else if chkD b ≠ 0 then chkD b else if confD a.P b.P then 440 else if 4096 < (mrgK Po.o a.P b.P).length then 2 else 0
def mergeD (a b : Dv) : Dv := if mergeE a b = 0 then mrgD a b else Dv.z
/-! ## receipts -/

def gotE (d : Dv) (n : Int) : Int := if chkD d ≠ 0 then chkD d else if hasK Po.o d.P n then 0 else 1
def gotD (d : Dv) (n : Int) : Dv := if gotE d n = 0 then ⟨d.P, putI d.G n⟩ else Dv.z
def owedL (d : Dv) : List Int := (d.P.map Po.o).filter (fun n => !hasK idI d.G n)
end Frk

/- Slices of rows of equal length, in general; law 44's postings. -/
namespace Frk
open Go Go.RowKit Go.Proofs
set_option maxRecDepth 100000

/-! ## a slice whose elements are told by their cells -/
section
variable {α : Type} (C : α → List Value) (z : Nat)

structure IsC (w : World) (a : Option Addr) (n c : Nat) (l : List α) : Prop where
  llen : l.length = n
  lcap : n ≤ c
  lmax : n ≤ 5000
  cmax : c ≤ 9223372036854775807
  each : ∀ x ∈ l, (C x).length = z
  at_ : n = 0 ∨ ∃ g o, a = some ⟨g, o, none⟩ ∧ w.rangeAt g o (l.flatMap C) ∧ g < w.heap.size
end
section
variable {α : Type} {C : α → List Value} {z : Nat}

theorem isC_flat_at : ∀ {l : List α} {i : Nat} {x : α} (_ : ∀ x ∈ l, (C x).length = z) (_ : l[i]? = some x) (j : Nat) (v : Value), (C x)[j]? = some v → (l.flatMap C)[i * z + j]? = some v
  | [], i, x, _, hx, _, _, _ => by simp at hx
  | y :: l, i, x, he, hx, j, v, hv => by
    rw [List.flatMap_cons]
    cases i with
    | zero =>
      cases hx
      rw [Nat.zero_mul, Nat.zero_add, List.getElem?_append_left (List.getElem?_eq_some_iff.1 hv).1]
      exact hv
    | succ i =>
      have hy := he y List.mem_cons_self
      rw [List.getElem?_append_right (by rw [hy, Nat.succ_mul]; omega), hy, show (i + 1) * z + j - z = i * z + j from by rw [Nat.succ_mul]; omega]
      exact isC_flat_at (fun x hx => he x (List.mem_cons_of_mem _ hx)) (by simpa using hx) j v hv
theorem isC_flat_len : ∀ {l : List α} (_ : ∀ x ∈ l, (C x).length = z), (l.flatMap C).length = l.length * z
  | [], _ => by simp
  | y :: l, he => by
    rw [List.flatMap_cons, List.length_append, he y List.mem_cons_self, isC_flat_len fun x hx => he x (List.mem_cons_of_mem _ hx), List.length_cons, Nat.succ_mul]
    omega
theorem IsC.below {w w' : World} {a : Option Addr} {n c : Nat} {l : List α} (h : IsC C z w a n c l) (hb : Below w.heap.size w w') : IsC C z w' a n c l :=
  ⟨h.llen, h.lcap, h.lmax, h.cmax, h.each, by
    rcases h.at_ with h0 | ⟨g, o, e, hr, hg⟩
    · exact .inl h0
    · exact .inr ⟨g, o, e, rangeAt_below' hr hb, Nat.lt_of_lt_of_le hg hb.size⟩⟩
theorem rangeC_row {w : World} {g o : Nat} {l : List α} (hr : w.rangeAt g o (l.flatMap C)) (he : ∀ x ∈ l, (C x).length = z) {i : Nat} {x : α} (hx : l[i]? = some x) : w.rangeAt g (o + i * z) (C x) := fun j v hv => by
  have := hr (i * z + j) v (isC_flat_at he hx j v hv)
  rwa [show o + i * z + j = o + (i * z + j) from by omega]
end

/-! ## postings -/
def Po.C (p : Po) : List Value := .int .i64 p.o :: p.S.map B
structure Po.ok (p : Po) : Prop where
  s32 : p.S.length = 32
  io : I64 p.o
def intC (n : Int) : List Value := [.int .i64 n]
theorem intC_flat (l : List Int) : l.flatMap intC = l.map (Value.int .i64) := by
  induction l with
  | nil => rfl
  | cons x l ih => rw [List.flatMap_cons, ih]; rfl
abbrev IsPs (w : World) (a : Option Addr) (n c : Nat) (l : List Po) : Prop := IsC Po.C 33 w a n c l
abbrev IsIs (w : World) (a : Option Addr) (n c : Nat) (l : List Int) : Prop := IsC intC 1 w a n c l
end Frk

/- Long loads under a guard. -/
namespace Frk
open Go Go.RowKit Go.Proofs
set_option maxRecDepth 100000

theorem wpList_wanted {P : Program} {ops : Array Oper} {rest : List Oper} {o : Oper} {a : Act} {w : World} {Q : Exit → Act → World → Prop} (hw : Region.wanted o (yielded ops a.tmps) = true)
    (h : ∀ K : Act → World → Prop, (∀ a w, wpList P ops Q rest a w → K a w) → o.wp P a w K Q) : wpList P ops Q (o :: rest) a w :=
  wpList_step fun K hK => by simp only [hw, if_true]; exact h K hK

/-- a long load out of the midst of a block under a guard that holds -/
theorem wpList_load_mid_g {P : Program} {ops : Array Oper} {rest : List Oper} {o : Oper} {a : Act} {w : World} {Q : Exit → Act → World → Prop} (hw : Region.wanted o (yielded ops a.tmps) = true) (ty : TypeId) (x : Operand) (ho : o.op = .load ty x)
    (b off : Nat) (hx : a.eval x = .pointer (some ⟨b, off, none⟩)) (cs : List Value) (d : TypeDesc) (hc : w.rangeAt b off cs)
    (hu : P.underlying ty = some d) (hd : d.isRow = true) (hi : (P.info? ty).map (·.size) = some cs.length)
    (h : wpList P ops Q rest (a.put o.dst (.agg cs.toArray)) w) : wpList P ops Q (o :: rest) a w :=
  wpList_wanted hw fun _ hK => wp_load_mid ty x ho b off hx cs d hc hu hd hi (hK _ _ h)
end Frk

/- Literal slices of elements of several cells. -/
namespace Frk
open Go Go.RowKit Go.Proofs
set_option maxRecDepth 100000

theorem lay_lay (Z A C : List Value) (k : Nat) (h : k + A.length + C.length ≤ Z.length) : lay (lay Z k A) (k + A.length) C = lay Z k (A ++ C) := by
  unfold lay
  have h1 : (Z.take k).length = k := by rw [List.length_take]; omega
  rw [List.take_left' (by rw [List.length_append, h1]), List.length_append, List.drop_append, List.drop_of_length_le (by rw [List.length_append, h1]; omega), List.nil_append, List.length_append, h1, List.drop_drop]
  simp only [List.append_assoc]
  congr 4
  omega
/-- the parts of a literal slice -/
def sparts : List (List Value) → Nat → List (Nat × Value)
  | [], _ => []
  | C :: r, k => (k, .agg C.toArray) :: sparts r (k + 1)
theorem fill_parts (z : Nat) : ∀ (Cs : List (List Value)) (k : Nat) (Z : List Value), (∀ C ∈ Cs, C.length = z) → (k + Cs.length) * z ≤ Z.length →
    Instr.fill (fun i => some (i * z, z)) Z.toArray (sparts Cs k) = some (lay Z (k * z) Cs.flatten).toArray
  | [], k, Z, _, _ => by simp [sparts, Instr.fill, lay_nil]
  | C :: r, k, Z, hC, hl => by
    have h0 := hC C (by simp)
    have hk : (k + (C :: r).length) * z = k * z + z + r.length * z := by rw [List.length_cons, Nat.add_mul, Nat.add_mul]; omega
    rw [hk] at hl
    have e := fold_lay_at (k * z) C 0 Z (by omega)
    have ih := fill_parts z r (k + 1) (lay Z (k * z) C) (fun D hD => hC D (by simp [hD])) (by rw [length_lay (by omega), Nat.add_mul, Nat.add_mul]; omega)
    rw [Nat.add_zero] at e
    simp [sparts, Instr.fill, Value.cells, h0]
    refine ⟨by omega, ?_⟩
    rw [e, ih, show (k + 1) * z = k * z + C.length from by rw [h0, Nat.add_mul]; omega, lay_lay _ _ _ _ (by
      have := isC_flat_len (C := id) (z := z) (l := r) (fun x hx => hC x (by simp [hx]))
      simp only [List.flatMap_id] at this
      rw [this]; omega)]
theorem sparts_flat {z : Nat} {Cs : List (List Value)} (hC : ∀ C ∈ Cs, C.length = z) : Cs.flatten.length = Cs.length * z := by
  have := isC_flat_len (C := id) (z := z) (l := Cs) hC
  simpa using this

theorem exec_bslice {P : Program} {ρ : Operand → Value} {o : Oper} {t elem : TypeId} {m z : Nat} {ps : Array (Nat × Operand)} (ho : o.op = .buildSlice t m ps) (Cs : List (List Value)) (hu : P.underlying t = some (.slice elem)) (w : World) (hs : (Go.sizeOf elem).run P w = .ok z w) {zv : Value} (hz : (zeroValue elem).run P w = .ok zv w)
    (_hzs : zv.cells.size = z) (hm : Cs.length = m) (hC : ∀ C ∈ Cs, C.length = z) (h0 : 0 < m * z) (hb : m * z ≤ 16777216) (hp : ps.toList.map (fun x => (x.1, ρ x.2)) = sparts Cs 0) :
    (execOp ρ o).run P w = .ok (.value (.slice (some ⟨w.heap.size, 0, none⟩) m m)) (w.alloc (.cells Cs.flatten.toArray elem)) := by
  obtain ⟨Z, hZ⟩ : ∃ Z : List Value, Z.toArray = (Array.range (m * z)).map (zv.cells[· % zv.cells.size]!) := ⟨((Array.range (m * z)).map (zv.cells[· % zv.cells.size]!)).toList, by rw [Array.toArray_toList]⟩
  have hZl : Z.length = m * z := by
    have := congrArg Array.size hZ
    simpa using this
  have hf := fill_parts z Cs 0 Z hC (by rw [Nat.zero_add, hm, hZl]; exact Nat.le_refl _)
  have hl : lay Z (0 * z) Cs.flatten = Cs.flatten := by
    unfold lay
    rw [Nat.zero_mul, List.take_zero, List.nil_append, List.drop_of_length_le (by rw [sparts_flat hC, hZl, hm]; omega), List.append_nil]
  rw [hl] at hf
  have h1 : ¬ (16777216 < m * z) := by omega
  have h2 : ¬ (m * z = 0) := by omega
  have hbs : (Instr.buildSlice t m (ps.map fun x => (x.1, ρ x.2))).run P w = .ok (.slice (some ⟨w.heap.size, 0, none⟩) m m) (w.alloc (.cells Cs.flatten.toArray elem)) := by
    unfold Instr.buildSlice
    simp only [run_underlying hu, Sem.run_bind, Result.andThen_ok, hs]
    simp [h1, h2, hz, Result.andThen, ← hZ, newRow]
    rw [hp, hf]
    simp [go_sem]
  unfold execOp
  rw [ho]
  simp [hbs, Result.andThen]

section
variable {l n : Nat} {P : Program} {ops : Array Oper} {rest : List Oper} {o o2 : Oper} {a : Act} {w : World} {Q : Exit → Act → World → Prop}
/-- a literal slice -/
theorem wpList_bslice (hw : Region.wanted o (yielded ops a.tmps) = true) (t elem : TypeId) (m z : Nat) (ps : Array (Nat × Operand)) (ho : o.op = .buildSlice t m ps) (Cs : List (List Value)) (hu : P.underlying t = some (.slice elem)) (hs : ∀ w, (Go.sizeOf elem).run P w = .ok z w) (zv : Value) (hz : ∀ w, (zeroValue elem).run P w = .ok zv w)
    (hzs : zv.cells.size = z) (hm : Cs.length = m) (hC : ∀ C ∈ Cs, C.length = z) (h0 : 0 < m * z) (hb : m * z ≤ 16777216) (hp : ps.toList.map (fun x => (x.1, a.eval x.2)) = sparts Cs 0)
    (h : wpList P ops Q rest (a.put o.dst (.slice (some ⟨w.heap.size, 0, none⟩) m m)) (w.alloc (.cells Cs.flatten.toArray elem))) : wpList P ops Q (o :: rest) a w :=
  wpList_wanted hw fun K hK => by unfold Oper.wp; rw [exec_bslice ho Cs hu w (hs w) (hz w) hzs hm hC h0 hb hp]; exact hK _ _ h
end
end Frk

/- Law 57: steps for the walks. -/
namespace Frk
open Go Go.RowKit Go.Proofs
set_option maxRecDepth 100000

theorem below_drewn_f (w : World) : Below w.heap.size w w.drew := ⟨rfl, rfl, rfl, Nat.le_refl _, fun _ _ => rfl⟩
/-- what holds from here on -/
def Kf (w : World) (Φ : World → Prop) : Prop := ∀ W, Below w.heap.size w W → Φ W
theorem Kf.step {w w' : World} {Φ : World → Prop} (h : Kf w Φ) (hb : Below w.heap.size w w') : Kf w' Φ := fun W hW => h W (hb.trans (hW.mono hb.size))
theorem Kf.at {w : World} {Φ : World → Prop} (h : Kf w Φ) : Φ w := h w (Below.refl _ _)
/-- a new variable that is written at once -/
theorem newf (w : World) (Z : Array Value) (D : List Value) (t : TypeId) : ∃ V g, g = w.heap.size ∧ (w.alloc (.cells Z t)).setRow g D.toArray = V ∧ (w.alloc (.cells Z t)).heap[g]? = some (.cells Z t (0, 0)) ∧ Kf V (fun W => W.rangeAt g 0 D) ∧ Below w.heap.size w V ∧ V.heap[g]? = some (.cells D.toArray t (0, 0)) ∧ g < V.heap.size := by
  have e : (w.alloc (.cells Z t)).setRow w.heap.size D.toArray = w.alloc (.cells D.toArray t) := by
    have := setRow_new w Z.toList D t
    simpa using this
  refine ⟨_, w.heap.size, rfl, e, heap_alloc_new w _, fun W hW => rangeAt_below' (rangeAt_row (heap_alloc_new w _)) hW, below_alloc _ _, heap_alloc_new w _, by rw [size_alloc]; omega⟩
abbrev IsE (w : World) (a : Option Addr) (n c : Nat) (l : List Ep) : Prop := IsC Ep.C 3 w a n c l
theorem ep_len (x : Ep) : x.C.length = 3 := rfl
theorem ep_one (x : Ep) : x.C.toArray.all (·.oneCell') = true := by unfold Ep.C; simp [Value.oneCell']
theorem ep_info (x : Ep) : (Tryz.prog.info? 80).map (·.size) = some x.C.length := by rw [ep_len]; kernel_rfl
end Frk

/- Law 57: what catches Admit's panics. -/
namespace Frk
open Go Go.RowKit Go.Proofs
set_option maxRecDepth 100000

theorem ta_errno (v : Value) (W : World) : (Instr.typeAssert (.iface 38 v) 20 38 true).run Tryz.prog W = .ok (.tuple #[v, .bool true]) W := by kernel_rfl
set_option maxHeartbeats 2000000 in
theorem fcatch_panicking (g h : Nat) (x y : Value) (ex : Int) (w : World) (hc : w.cell? ⟨g, 0, none⟩ = some x) (hz : w.frozen? ⟨g, 0, none⟩ = false) (hc2 : w.cell? ⟨h, 0, none⟩ = some y) (hz2 : w.frozen? ⟨h, 0, none⟩ = false) (_hne : ¬ g = h) (hne2 : ¬ h = g) :
    CallsD Tryz.prog 15 #[.pointer (some ⟨g, 0, none⟩), .pointer (some ⟨h, 0, none⟩)] (.panicking [{ v := .iface 38 (.int .i64 ex), recovered := false }]) w fun e u' w' =>
      e = .returned (.tuple #[]) ∧ u' = .panicking [{ v := .iface 38 (.int .i64 ex), recovered := true }] ∧ w' = (w.setCell ⟨g, 0, none⟩ (.slice none 0 0)).setCell ⟨h, 0, none⟩ (.int .i64 ex) := by
  have ta := fun W => ta_errno (.int .i64 ex) W
  refine callsD_of_wpS Tryz.func15 rfl fun c₀ cs hu => ?_
  simp only [Tryz.ntmps15, List.size_toArray, List.length_cons, List.length_nil, Nat.reduceAdd, Nat.reduceSub, Array.replicate_succ, Array.replicate_zero, List.push_toArray, List.append_toArray, List.nil_append, List.cons_append]
  apply wpS_seq
  apply wpS_region
  simp [wpOpsS, go_sem, recoverD, hu, Exit.thenS]
  refine wpS_of_wp ?_
  go_wp2
  exact ⟨rfl, _, rfl, .tuple #[], by simp [results, Tryz.results15, go_sem], rfl, rfl, rfl⟩
theorem fcatch_idle (g h : Nat) (w : World) :
    CallsD Tryz.prog 15 #[.pointer (some ⟨g, 0, none⟩), .pointer (some ⟨h, 0, none⟩)] .returning w fun e u' w' => e = .returned (.tuple #[]) ∧ u' = .returning ∧ w' = w := by
  refine callsD_of_wpS Tryz.func15 rfl fun c₀ cs hu => ?_
  simp only [Tryz.ntmps15, List.size_toArray, List.length_cons, List.length_nil, Nat.reduceAdd, Nat.reduceSub, Array.replicate_succ, Array.replicate_zero, List.push_toArray, List.append_toArray, List.nil_append, List.cons_append]
  apply wpS_seq
  apply wpS_region
  simp [wpOpsS, go_sem, recoverD, hu, Exit.thenS]
  refine wpS_of_wp ?_
  go_wp2
  exact ⟨rfl, .returning, by cases c₀; simp_all, .tuple #[], by simp [results, Tryz.results15, go_sem], rfl, rfl, rfl⟩
end Frk

