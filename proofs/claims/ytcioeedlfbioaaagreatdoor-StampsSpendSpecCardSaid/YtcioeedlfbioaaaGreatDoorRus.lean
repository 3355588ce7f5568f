/- The reference's Ints; its Tag of a return address. -/
import Derived.Test.YtcioeedlfbioaaaGreatDoorRsg
import Derived.Test.YtcioeedlfbioaaaGreatDoorOuf
import Derived.BigQuiet
namespace Frk
open Go Go.RowKit Go.Proofs
set_option maxRecDepth 100000

theorem exec_append {P : Program} {o : Oper} {a : Act} {w w' : World} (s x : Operand) (t tn : TypeId) (ho : o.op = .call { callee := .builtin .append, args := #[s, x], argTypes := #[t, tn] }) (sv xv v : Value) (hs : a.eval s = sv) (hx : a.eval x = xv)
    (hrun : ∀ ty, (Builtin.append_ #[t, tn] ty #[sv, xv]).run P w = .ok v w') : (execOp a.eval o).run P w = .ok (.value v) w' := by
  have := hrun o.type
  simp [execOp, ho, resolve, invoke, builtin, hs, hx, this, Result.andThen]

theorem ownsRow_below {w w' : World} {base : Nat} {e : TypeId} {size n : Nat} {v : Value} {xs : List Value} (h : w.ownsRow base e size v n xs) (hb : Below w.heap.size w w') : w'.ownsRow base e size v n xs :=
  h.kept (row := none) (grown_of_below hb none) (by cases hv : v.ownBlock with | none => exact .inl rfl | some b => exact .inr (by simp))

/-- what Ints returns: a list that bears these leaves -/
def IntsPost (xs : List Lf) (k : Nat) (w : World) (e : Ending) (w' : World) : Prop :=
  ∃ g c, e = .returned (.agg #[.int .i64 3, .int .i64 0, .string ByteArray.empty, .slice (some ⟨g, 0, none⟩) k c]) ∧ Seal (k ≤ c ∧ g < w'.heap.size ∧ LeavesAt w' g 0 xs ∧ w'.ownsRow w.heap.size 71 4 (.slice (some ⟨g, 0, none⟩) k c) k (xs.flatMap Lf.cells)) ∧ Below w.heap.size w w'

theorem lay_all {L cs : List Value} (h : L.length = cs.length) : lay L 0 cs = cs := by
  unfold lay
  rw [List.take_zero, List.nil_append, List.drop_of_length_le (by omega), List.append_nil]

theorem vd_mp {a b : Nat} (ha : Vd a) (hb : Vd b) : vd ((mp a b : Nat) : Int) = true := (vd_iff _).2 (ha.mp hb)
theorem Vd_of {x : Int} (h : vd x = true) : Vd x.toNat := by
  obtain ⟨n, rfl, hn⟩ := vd_of_vd h
  exact hn

end Frk
