/- Law 44: a slice of steps as an argument. -/
import Derived.Test.YtnpnboldjbljaaaDoorVfLon
import Derived.Lib.SmallJoins
namespace Frk
open Go Go.RowKit Go.Proofs Go.ChangeShapes Go.WideShapes Go.ChangeAt
set_option maxRecDepth 100000
section
variable {H : Type} {enc : TypeId × Value → H} {W : World} {base : Nat} {sp : Nat → Bool} {hd : Bool} {fuel : Nat} {cs : List Value} {x : DataW H × List MemPlace}

theorem cells_u8 (h : DataW.trod enc Tryd.prog W base sp hd fuel 5 cs = some x) : ∃ n, cs = [.int .u8 n] ∧ 0 ≤ n ∧ n < 256 := by
  obtain ⟨n, e, _, hw⟩ := DataW.trod_int Tryd.underlying5 h
  simp [Lit.wf] at hw
  have h1 : IntKind.u8.min = 0 := by decide
  have h2 : IntKind.u8.max = 255 := by decide
  exact ⟨n, e, by omega, by omega⟩
theorem cells_step (h : DataW.trod enc Tryd.prog W base sp hd fuel 59 cs = some x) : ∃ k : Sp, cs = k.C ∧ k.ok := by
  obtain ⟨y0, y1, y2, y3, n, _, hl, h0, h1, h2, h3⟩ := Joins.trod_struct4 Tryd.underlying59 h
  have c1 : Tryd.prog.cellsOf 5 = 1 := by kernel_rfl
  have c2 : Tryd.prog.cellsOf 59 = 4 := by kernel_rfl
  rw [c2] at hl
  simp only [c1] at h0 h1 h2 h3
  obtain ⟨a, e0, r0⟩ := cells_u8 h0
  obtain ⟨b, e1, r1⟩ := cells_u8 h1
  obtain ⟨c, e2, r2⟩ := cells_u8 h2
  obtain ⟨d, e3, r3⟩ := cells_u8 h3
  refine ⟨⟨a, b, c, d⟩, ?_, r0, r1, r2, r3⟩
  match cs, hl with
  | [p, q, r, s], _ =>
    simp at e0 e1 e2 e3
    subst e0; subst e1; subst e2; subst e3
    rfl
theorem steps_open {v : Value} {d : DataW H} {p : List MemPlace} (hval : Value.okWide Tryd.prog W .any base 51 v) (h1 : DataW.Trod enc Tryd.prog W 0 (fun _ => true) true 51 v d p) :
    ∃ a n c l, v = .slice a n c ∧ (n : Int) ≤ 9223372036854775807 ∧ (∀ x ∈ l, Sp.ok x) ∧ (n ≤ 5000 → IsC Sp.C 4 W a n c l) := by
  obtain ⟨a1, len, cap, rfl⟩ := okWide_slice Tryd.underlying51 hval
  obtain ⟨fuel, hf⟩ := h1
  obtain ⟨a, n, c, l, e, hm, hok, hd, _⟩ := rows_open (C := Sp.C) (ok := Sp.ok) (z := 4) Tryd.underlying51 (by kernel_rfl) (by decide) (fun _ _ => rfl) (fun n cs x h => cells_step h) hf
  simp [Value.cells] at e
  obtain ⟨rfl, rfl, rfl⟩ := e
  exact ⟨_, _, _, l, rfl, hm, hok, hd⟩
end
end Frk
