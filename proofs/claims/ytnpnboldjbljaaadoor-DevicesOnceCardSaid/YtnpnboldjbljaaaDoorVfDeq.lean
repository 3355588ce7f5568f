/- Law 44: postings compared. -/
import Derived.Test.YtnpnboldjbljaaaDoorVfgDpa
namespace Frk
open Go Go.RowKit Go.Proofs
set_option maxRecDepth 100000

theorem eqEnd44 {P : Program} (d : Nat) (xs ys : Array Value) (w : World) : (Op.eqFields d xs ys []).run P w = .ok true w := by rw [Op.eqFields]; rfl
set_option maxHeartbeats 2000000 in
theorem eqPo (x y : Po) (kx : x.S.length = 32) (ky : y.S.length = 32) (w : World) :
    (Op.equalIn 10000 31 (.agg x.C.toArray) (.agg y.C.toArray)).run Tryd.prog w = .ok (x.o == y.o && x.S == y.S) w := by
  have a3 := Tryd.isAgg3
  have aD := Tryd.isAgg29
  have zD := Tryd.sizeOf29
  have hS : Tryd.prog.underlying 31 = some (.struct (Tryd.prog.fieldsOf 31)) := by kernel_rfl
  have hp : Tryd.prog.stoodInHeld 31 = false := by kernel_rfl
  have p0 : ∀ h : Po, (part 3 h.C.toArray 0).run Tryd.prog w = .ok (.int .i64 h.o) w := fun h => by simp [part, a3, Po.C]
  have p1 : ∀ h : Po, h.S.length = 32 → (part 29 h.C.toArray 1).run Tryd.prog w = .ok (.agg (h.S.map B).toArray) w := fun h k => by
    have e : (h.C.drop 1).take 32 = h.S.map B := by
      show (h.S.map B).take 32 = _
      rw [List.take_of_length_le (by simp [k])]
    have e2 : h.C.tail.take 32 = h.S.map B := e
    simp [part, aD, zD, e2]
  rw [show (10000 : Nat) = 9999 + 1 from rfl, run_equalIn_agg w 9999 31 _ _ hS hp]
  simp only [Program.fieldsOf, Tryd.underlying31]
  rw [eqFields_s _ _ _ _ _ _ _ _ _ (by decide) (p0 x) (p0 y) (eqInt_s 9998 x.o y.o w)]
  rw [eqFields_s _ _ _ _ _ _ _ _ _ (by decide) (p1 x kx) (p1 y ky) (eqDig_s 9997 x.S y.S kx ky w)]
  rw [eqEnd44]
  cases x.o == y.o <;> cases x.S == y.S <;> rfl
theorem poB_iff (x y : Po) : (x.o == y.o && x.S == y.S) = true ↔ x = y := by
  obtain ⟨o, S⟩ := x
  obtain ⟨o', S'⟩ := y
  simp
end Frk
