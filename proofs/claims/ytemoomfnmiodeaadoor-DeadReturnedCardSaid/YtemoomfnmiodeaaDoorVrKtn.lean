/- Law 45: a slice in which kept letters are stored in place. -/
import Derived.Test.YtemoomfnmiodeaaDoorVrKsn
namespace Frk
open Go Go.RowKit Go.Proofs
set_option maxRecDepth 100000

theorem exec_store_mid {P : Program} {o : Oper} {a : Act} {w : World} (ty : TypeId) (x y : Operand) (ho : o.op = .store ty x y) (g off : Nat) (cs : List Value) (hx : a.eval x = .pointer (some ⟨g, off, none⟩)) (hy : a.eval y = .agg cs.toArray) (t : TypeId) (cur : List Value)
    (hg : w.heap[g]? = some (.cells cur.toArray t (0, 0))) (hi : (P.info? ty).map (·.size) = some cs.length) (hfit : off + cs.length ≤ cur.length) (h1 : ∀ v ∈ cs, v.oneCell' = true) :
    (execOp a.eval o).run P w = .ok .skip (w.setRow g (lay cur off cs).toArray) := by
  have ht : w.there g off cs.toArray.size := fun j hj => by
    have hj' : j < cs.length := by simpa using hj
    refine ⟨?_, frozen_of_row _ _ _ _ _ hg⟩
    rw [cell_of_row _ _ _ _ _ _ hg]
    simp; omega
  unfold execOp
  simp only [ho, hx, hy, Instr.storeAt, Instr.sureAddr, Sem.run_bind, Sem.run_pure, Result.andThen_ok, run_storeVar_mid w g off ty cs.toArray ht (by simpa using hi) (all_oneCell_toArray h1)]
  rw [setCells_row cs off cur w hg hfit]

section
variable {P : Program} {ops : Array Oper} {rest : List Oper} {o : Oper} {a : Act} {w : World} {Q : Exit → Act → World → Prop}
theorem wpList_store_mid (hw : Region.wanted o (yielded ops a.tmps) = true) (ty : TypeId) (x y : Operand) (ho : o.op = .store ty x y) (g off : Nat) (cs : List Value) (hx : a.eval x = .pointer (some ⟨g, off, none⟩)) (hy : a.eval y = .agg cs.toArray) (t : TypeId) (cur : List Value)
    (hg : w.heap[g]? = some (.cells cur.toArray t (0, 0))) (hi : (P.info? ty).map (·.size) = some cs.length) (hfit : off + cs.length ≤ cur.length) (h1 : ∀ v ∈ cs, v.oneCell' = true)
    (h : wpList P ops Q rest (a.put o.dst undef) (w.setRow g (lay cur off cs).toArray)) : wpList P ops Q (o :: rest) a w :=
  wpList_wanted hw fun K hK => by unfold Oper.wp; rw [exec_store_mid ty x y ho g off cs hx hy t cur hg hi hfit h1]; exact hK _ _ h
end

theorem lay_kcells : ∀ (t : List Ltr) (i : Nat) (h : Ltr) (R : List Value), (∀ x ∈ t, x.C.length = 38) → h.C.length = 38 → i < t.length → lay (kcells t ++ R) (i * 38) h.C = kcells (t.set i h) ++ R
  | [], i, h, R, _, _, hi => by simp at hi
  | x :: t, i, h, R, hx, lh, hi => by
    have lx : x.C.length = 38 := hx x List.mem_cons_self
    cases i with
    | zero =>
      unfold lay kcells
      rw [List.set_cons_zero, List.flatMap_cons, List.flatMap_cons, Nat.zero_mul, List.take_zero, List.nil_append, Nat.zero_add, lh, List.append_assoc, List.drop_left' lx, List.append_assoc]
    | succ i =>
      have ih := lay_kcells t i h R (fun x hx' => hx x (List.mem_cons_of_mem _ hx')) lh (by simpa using hi)
      unfold lay kcells at *
      have e1 : ∀ Y : List Value, (x.C ++ Y).take (38 + i * 38) = x.C ++ Y.take (i * 38) := fun Y => by
        rw [List.take_append, List.take_of_length_le (by omega), lx, show 38 + i * 38 - 38 = i * 38 from by omega]
      have e2 : ∀ Y : List Value, (x.C ++ Y).drop (38 + i * 38 + h.C.length) = Y.drop (i * 38 + h.C.length) := fun Y => by
        rw [List.drop_append, List.drop_of_length_le (by omega), List.nil_append, lx, show 38 + i * 38 + h.C.length - 38 = i * 38 + h.C.length from by omega]
      rw [List.set_cons_succ, List.flatMap_cons, List.flatMap_cons, show (i + 1) * 38 = 38 + i * 38 from by omega, List.append_assoc x.C, List.append_assoc x.C, e1, e2, ← ih]
      simp only [List.append_assoc]

/-- the slice that is changed in place: what it holds, and what lies behind -/
def TurnK (w : World) (g : Nat) (t : List Ltr) (R : List Value) : Prop := w.heap[g]? = some (.cells (kcells t ++ R).toArray 45 (0, 0)) ∧ ∀ x ∈ t, x.C.length = 38
theorem TurnK.block {w w' : World} {g : Nat} {t : List Ltr} {R : List Value} (h : TurnK w g t R) (hb : w'.heap[g]? = w.heap[g]?) : TurnK w' g t R := ⟨hb.trans h.1, h.2⟩
theorem TurnK.below {w w' : World} {g : Nat} {t : List Ltr} {R : List Value} (h : TurnK w g t R) (hb : Below w.heap.size w w') : TurnK w' g t R :=
  h.block (hb.block g (Array.getElem?_eq_some_iff.1 h.1).1)
theorem TurnK.range {w : World} {g : Nat} {t : List Ltr} {R : List Value} (h : TurnK w g t R) : w.rangeAt g 0 (kcells t) := by
  have := rangeAt_take (rangeAt_row h.1) (kcells t).length
  rwa [List.take_left' rfl] at this
theorem TurnK.row {w : World} {g : Nat} {t : List Ltr} {R : List Value} (h : TurnK w g t R) {i : Nat} {x : Ltr} (hx : t[i]? = some x) : w.rangeAt g (i * 38) x.C := by
  have := rangeC_row h.range h.2 hx
  rwa [Nat.zero_add] at this
theorem TurnK.set {w : World} {g : Nat} {t : List Ltr} {R : List Value} (h : TurnK w g t R) {i : Nat} {x : Ltr} (hi : i < t.length) (hx : x.C.length = 38) : TurnK (w.setRow g (lay (kcells t ++ R) (i * 38) x.C).toArray) g (t.set i x) R :=
  ⟨by
    have := heap_lay (i * 38) x.C h.1
    rw [lay_kcells t i x R h.2 hx hi] at this ⊢
    exact this, fun y hy => by
    rcases List.mem_or_eq_of_mem_set hy with e | e
    · exact h.2 y e
    · rw [e]; exact hx⟩
theorem TurnK.fit {w : World} {g : Nat} {t : List Ltr} {R : List Value} (h : TurnK w g t R) {i : Nat} (hi : i < t.length) : i * 38 + 38 ≤ (kcells t ++ R).length := by
  rw [List.length_append, kcells_length t h.2]
  omega
theorem turnK_own {w : World} {base : Nat} {n : Nat} {v : Value} {l : List Ltr} (h : OwnK w base v n l) (_hl : l.length = n) (hn : 0 < n) (he : ∀ x ∈ l, x.C.length = 38) :
    ∃ g c R, v = .slice (some ⟨g, 0, none⟩) n c ∧ base ≤ g ∧ n ≤ c ∧ c ≤ 9223372036854775807 ∧ TurnK w g l R ∧ (kcells l ++ R).length = c * 38 := by
  rcases h.2 with ⟨_, h0⟩ | ⟨g, cap, cur, rfl, hb, hg, hc, hcm, hs, ht⟩
  · omega
  · refine ⟨g, cap, cur.toList.drop (n * 38), rfl, hb, hc, by unfold maxLen at hcm; omega, ⟨?_, he⟩, ?_⟩
    · rw [show kcells l = cur.toList.take (n * 38) from ht.symm, List.take_append_drop]
      exact hg
    · rw [show kcells l = cur.toList.take (n * 38) from ht.symm, List.take_append_drop]
      simpa using hs
end Frk
