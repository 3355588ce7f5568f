/- onetime.plain: its three ciphers. -/
import Derived.Test.YtcioeedlfbioaaaGreatDoorOsp
import Derived.Test.YtcioeedlfbioaaaGreatDoorPow
import Derived.Test.YtcioeedlfbioaaaGreatDoorRnb
namespace Frk
open Go Go.RowKit Go.Proofs
set_option maxRecDepth 100000
attribute [local go_sem] Oper.semAt_some

/-- what plain yields -/
def encPl (P Q a b : Int) : Fin 3 → Array Value
  | 0 => #[.int .i64 0, .agg #[.int .i64 P, .int .i64 Q]]
  | 1 => #[.int .i64 1, .agg #[.int .i64 1, .int .i64 a]]
  | 2 => #[.int .i64 2, .agg #[.int .i64 1, .int .i64 b]]
theorem encPl_size (P Q a b : Int) : ∀ k, (encPl P Q a b k).size = 2
  | 0 => rfl
  | 1 => rfl
  | 2 => rfl

attribute [local go_sem] Oper.semAt_some

/-- the cells of a letter, as far as it is made -/
def rowU (p q : Fin 3 → Int) (pre : List (Fin 3)) : List Value := pre.foldl (fun r k => lay r (2 * k.val) [.int .i64 (p k), .int .i64 (q k)]) [.int .i64 0, .int .i64 0, .int .i64 0, .int .i64 0, .int .i64 0, .int .i64 0]
theorem rowU_snoc (p q : Fin 3 → Int) (pre : List (Fin 3)) (k : Fin 3) : rowU p q (pre ++ [k]) = lay (rowU p q pre) (2 * k.val) [.int .i64 (p k), .int .i64 (q k)] := by simp [rowU]
theorem rowU_len' (p q : Fin 3 → Int) : ∀ (pre : List (Fin 3)) (r : List Value), r.length = 6 → (pre.foldl (fun r k => lay r (2 * k.val) [.int .i64 (p k), .int .i64 (q k)]) r).length = 6
  | [], _, h => h
  | k :: pre, r, h => rowU_len' p q pre _ (by rw [length_lay (by rw [h]; have := k.isLt; simp; omega), h])
theorem rowU_len (p q : Fin 3 → Int) (pre : List (Fin 3)) : (rowU p q pre).length = 6 := rowU_len' p q pre _ rfl
theorem rowU_done (p q : Fin 3 → Int) : rowU p q [0, 1, 2] = [.int .i64 (p 0), .int .i64 (q 0), .int .i64 (p 1), .int .i64 (q 1), .int .i64 (p 2), .int .i64 (q 2)] := rfl

/-- one step of a region: a store into a block known whole -/
theorem run_store_at {P : Program} {o : Oper} {a : Act} {w : World} (ty : TypeId) (x y : Operand) (ho : o.op = .store ty x y) (g off : Nat) (cs : List Value) (hx : a.eval x = .pointer (some ⟨g, off, none⟩)) (hy : a.eval y = .agg cs.toArray) (t : TypeId) (cur : List Value)
    (hg : w.heap[g]? = some (.cells cur.toArray t (0, 0))) (hi : (P.info? ty).map (·.size) = some cs.length) (hfit : off + cs.length ≤ cur.length) (h1 : ∀ v ∈ cs, v.oneCell' = true) :
    (execOp a.eval o).run P w = .ok .skip (w.setRow g (lay cur off cs).toArray) := by
  have ht : w.there g off cs.toArray.size := fun j hj => by
    have hj' : j < cs.length := by simpa using hj
    refine ⟨?_, frozen_of_row _ _ _ _ _ hg⟩
    rw [cell_of_row _ _ _ _ _ _ hg]
    simp; omega
  unfold execOp
  simp only [ho, hx, hy, Instr.storeAt, Instr.sureAddr, Sem.run_bind, Sem.run_pure, Result.andThen_ok, run_storeVar_mid w g off ty cs.toArray ht (by simpa using hi) (all_oneCell_toArray h1)]
  rw [setCells_row cs off cur w hg hfit]

theorem fin3 : ∀ x : Fin 3, x = 0 ∨ x = 1 ∨ x = 2 := by decide

theorem keeps_setRow {w : World} {g : Nat} {cs : Array Value} {t : TypeId} {fr : Nat × Nat} (h : w.heap[g]? = some (.cells cs t fr)) (ds : Array Value) : KeepsOthers w (w.setRow g ds) :=
  ⟨by rw [size_setRow]; exact Nat.le_refl _, fun k o hk ho => by
    by_cases e : k = g
    · subst e
      rw [h] at hk
      cases hk
      cases ho
    · rw [setRow_other _ _ _ _ e]; exact hk⟩

/-- what Use returns: six numbers, the error -/
def useF (t : Bool) (K P Q a b r0 r1 r2 : Int) : Int × Int × Int × Int × Int × Int × Int :=
  if t = true then (if 1 ≤ a ∧ a ≤ 1073741789 then (if 1 ≤ b ∧ b ≤ 1073741789 then
    (((mp P.toNat (pw 4 r0) : Nat) : Int), ((mp Q.toNat (pw K.toNat r0) : Nat) : Int), ((mp (1 : Int).toNat (pw 4 r1) : Nat) : Int), ((mp (elB a).toNat (pw K.toNat r1) : Nat) : Int),
      ((mp (1 : Int).toNat (pw 4 r2) : Nat) : Int), ((mp (elB b).toNat (pw K.toNat r2) : Nat) : Int), 0)
    else (0, 0, 0, 0, 0, 0, 100)) else (0, 0, 0, 0, 0, 0, 100)) else (0, 0, 0, 0, 0, 0, 160)

end Frk
