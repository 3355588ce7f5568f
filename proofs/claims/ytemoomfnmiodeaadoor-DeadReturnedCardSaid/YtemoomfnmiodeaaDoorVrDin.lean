/- slices.Clone at digests. -/
import Derived.Test.YtemoomfnmiodeaaDoorVrgDbs
import Derived.Deep.AppendLies
import Derived.Lib.LazyBuf
import Derived.Test.YtemoomfnmiodeaaDoorVrRow
import Derived.Deep.RegionHeldLaw
namespace Frk
open Go Go.RowKit Go.Proofs
set_option maxRecDepth 100000

/-- a slice of digests of the call's own -/
def OwnD (w : World) (base : Nat) (v : Value) (n : Nat) (l : List Bytes) : Prop := w.ownsRow base 37 32 v n (dcells l)

/-- what Insert leaves -/
def InsPost (base n : Nat) (l : List Bytes) (w : World) (e : Ending) (w' : World) : Prop :=
  ∃ g c, e = .returned (.slice (some ⟨g, 0, none⟩) (n + 1) c) ∧ Seal (OwnD w' base (.slice (some ⟨g, 0, none⟩) (n + 1) c) (n + 1) l) ∧ Below base w w'

theorem digest_one (d : Bytes) : ∀ u ∈ d.map B, u.oneCell' = true := by
  intro u hu
  obtain ⟨b, _, rfl⟩ := List.mem_map.1 hu
  rfl

/-- what insertion leaves in a new row -/
theorem lay_grow (A Z D E : List Value) :
    (lay (lay (A ++ Z) A.length D) (A.length + D.length) E).take (A.length + D.length + E.length) = A ++ D ++ E := by
  have e1 : lay (A ++ Z) A.length D = (A ++ D) ++ Z.drop D.length := by
    unfold lay
    rw [List.take_left, List.drop_append, List.drop_of_length_le (by omega), List.nil_append, show A.length + D.length - A.length = D.length from by omega]
  have e2 : lay ((A ++ D) ++ Z.drop D.length) (A.length + D.length) E = (A ++ D ++ E) ++ Z.drop (D.length + E.length) := by
    have hl : A.length + D.length = (A ++ D).length := by simp
    unfold lay
    rw [hl, List.take_left, List.drop_append, List.drop_of_length_le (by omega), List.nil_append, show (A ++ D).length + E.length - (A ++ D).length = E.length from by omega, List.drop_drop]
  rw [e1, e2, List.take_left' (by simp; omega)]

end Frk
