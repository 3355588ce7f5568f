/- Literal slices of elements of several cells. -/
import Derived.Test.YtllbjakfjpjfnaaDoorVwgRsg
import Derived.Test.YtllbjakfjpjfnaaDoorVwRow
import Derived.Test.YtllbjakfjpjfnaaDoorVwgGrd
namespace Frk
open Go Go.RowKit Go.Proofs
set_option maxRecDepth 100000

theorem lay_lay (Z A C : List Value) (k : Nat) (h : k + A.length + C.length ≤ Z.length) : lay (lay Z k A) (k + A.length) C = lay Z k (A ++ C) := by
  unfold lay
  have h1 : (Z.take k).length = k := by rw [List.length_take]; omega
  rw [List.take_left' (by rw [List.length_append, h1]), List.length_append, List.drop_append, List.drop_of_length_le (by rw [List.length_append, h1]; omega), List.nil_append, List.length_append, h1, List.drop_drop]
  simp only [List.append_assoc]
  congr 4
  omega
/-- the parts of a literal slice -/
def sparts : List (List Value) → Nat → List (Nat × Value)
  | [], _ => []
  | C :: r, k => (k, .agg C.toArray) :: sparts r (k + 1)
theorem fill_parts (z : Nat) : ∀ (Cs : List (List Value)) (k : Nat) (Z : List Value), (∀ C ∈ Cs, C.length = z) → (k + Cs.length) * z ≤ Z.length →
    Instr.fill (fun i => some (i * z, z)) Z.toArray (sparts Cs k) = some (lay Z (k * z) Cs.flatten).toArray
  | [], k, Z, _, _ => by simp [sparts, Instr.fill, lay_nil]
  | C :: r, k, Z, hC, hl => by
    have h0 := hC C (by simp)
    have hk : (k + (C :: r).length) * z = k * z + z + r.length * z := by rw [List.length_cons, Nat.add_mul, Nat.add_mul]; omega
    rw [hk] at hl
    have e := fold_lay_at (k * z) C 0 Z (by omega)
    have ih := fill_parts z r (k + 1) (lay Z (k * z) C) (fun D hD => hC D (by simp [hD])) (by rw [length_lay (by omega), Nat.add_mul, Nat.add_mul]; omega)
    rw [Nat.add_zero] at e
    simp [sparts, Instr.fill, Value.cells, h0]
    refine ⟨by omega, ?_⟩
    rw [e, ih, show (k + 1) * z = k * z + C.length from by rw [h0, Nat.add_mul]; omega, lay_lay _ _ _ _ (by
      have := isC_flat_len (C := id) (z := z) (l := r) (fun x hx => hC x (by simp [hx]))
      simp only [List.flatMap_id] at this
      rw [this]; omega)]
theorem sparts_flat {z : Nat} {Cs : List (List Value)} (hC : ∀ C ∈ Cs, C.length = z) : Cs.flatten.length = Cs.length * z := by
  have := isC_flat_len (C := id) (z := z) (l := Cs) hC
  simpa using this

theorem exec_bslice {P : Program} {ρ : Operand → Value} {o : Oper} {t elem : TypeId} {m z : Nat} {ps : Array (Nat × Operand)} (ho : o.op = .buildSlice t m ps) (Cs : List (List Value)) (hu : P.underlying t = some (.slice elem)) (w : World) (hs : (Go.sizeOf elem).run P w = .ok z w) {zv : Value} (hz : (zeroValue elem).run P w = .ok zv w)
    (_hzs : zv.cells.size = z) (hm : Cs.length = m) (hC : ∀ C ∈ Cs, C.length = z) (h0 : 0 < m * z) (hb : m * z ≤ 16777216) (hp : ps.toList.map (fun x => (x.1, ρ x.2)) = sparts Cs 0) :
    (execOp ρ o).run P w = .ok (.value (.slice (some ⟨w.heap.size, 0, none⟩) m m)) (w.alloc (.cells Cs.flatten.toArray elem)) := by
  obtain ⟨Z, hZ⟩ : ∃ Z : List Value, Z.toArray = (Array.range (m * z)).map (zv.cells[· % zv.cells.size]!) := ⟨((Array.range (m * z)).map (zv.cells[· % zv.cells.size]!)).toList, by rw [Array.toArray_toList]⟩
  have hZl : Z.length = m * z := by
    have := congrArg Array.size hZ
    simpa using this
  have hf := fill_parts z Cs 0 Z hC (by rw [Nat.zero_add, hm, hZl]; exact Nat.le_refl _)
  have hl : lay Z (0 * z) Cs.flatten = Cs.flatten := by
    unfold lay
    rw [Nat.zero_mul, List.take_zero, List.nil_append, List.drop_of_length_le (by rw [sparts_flat hC, hZl, hm]; omega), List.append_nil]
  rw [hl] at hf
  have h1 : ¬ (16777216 < m * z) := by omega
  have h2 : ¬ (m * z = 0) := by omega
  have hbs : (Instr.buildSlice t m (ps.map fun x => (x.1, ρ x.2))).run P w = .ok (.slice (some ⟨w.heap.size, 0, none⟩) m m) (w.alloc (.cells Cs.flatten.toArray elem)) := by
    unfold Instr.buildSlice
    simp only [run_underlying hu, Sem.run_bind, Result.andThen_ok, hs]
    simp [h1, h2, hz, Result.andThen, ← hZ, newRow]
    rw [hp, hf]
    simp [go_sem]
  unfold execOp
  rw [ho]
  simp [hbs, Result.andThen]

section
variable {l n : Nat} {P : Program} {ops : Array Oper} {rest : List Oper} {o o2 : Oper} {a : Act} {w : World} {Q : Exit → Act → World → Prop}
/-- a literal slice -/
theorem wpList_bslice (hw : Region.wanted o (yielded ops a.tmps) = true) (t elem : TypeId) (m z : Nat) (ps : Array (Nat × Operand)) (ho : o.op = .buildSlice t m ps) (Cs : List (List Value)) (hu : P.underlying t = some (.slice elem)) (hs : ∀ w, (Go.sizeOf elem).run P w = .ok z w) (zv : Value) (hz : ∀ w, (zeroValue elem).run P w = .ok zv w)
    (hzs : zv.cells.size = z) (hm : Cs.length = m) (hC : ∀ C ∈ Cs, C.length = z) (h0 : 0 < m * z) (hb : m * z ≤ 16777216) (hp : ps.toList.map (fun x => (x.1, a.eval x.2)) = sparts Cs 0)
    (h : wpList P ops Q rest (a.put o.dst (.slice (some ⟨w.heap.size, 0, none⟩) m m)) (w.alloc (.cells Cs.flatten.toArray elem))) : wpList P ops Q (o :: rest) a w :=
  wpList_wanted hw fun K hK => by unfold Oper.wp; rw [exec_bslice ho Cs hu w (hs w) (hz w) hzs hm hC h0 hb hp]; exact hK _ _ h
end
end Frk
