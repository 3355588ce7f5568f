/- Law 44: what merged reads and keeps. -/
import Derived.Test.YtnpnboldjbljaaaDoorVfAsq
import Derived.Test.YtnpnboldjbljaaaDoorVfDpc
namespace Frk
open Go Go.RowKit Go.Proofs
set_option maxRecDepth 100000

theorem skip_t {P : Program} {md : Region.Mode} {ops : Array Oper} {Q : Exit → Act → World → Prop} {S : World → Prop} {t : Nat} {dst : Option Tmp} {op : Op} {ty : TypeId} {pos : String} {after : Array Edge} {guard : Option (Nat × Bool)} (i : Nat) {fuel : Nat} {listed : Array Bool} {a : Act} {w : World} (w' : World)
    (hi : ops[i]? = some { dst := dst, op := op, type := ty, pos := pos, after := after, guard := guard }) (hr : Region.ready md ops listed = [i])
    (hw : Region.wanted { dst := dst, op := op, type := ty, pos := pos, after := after, guard := guard } (yielded ops a.tmps) = true)
    (hrun : (execOp a.eval { dst := dst, op := op, type := ty, pos := pos, after := after, guard := guard }).run P w = .ok .skip w')
    (hS : S w') (hn : S w' → wpAnyT P md ops Q S t fuel (listed.setIfInBounds i true) (a.put dst undef) w') : wpAnyT P md ops Q S t (fuel + 1) listed a w :=
  readyT_one hr (wpOp_step hi (fun K hK => by
    rw [if_pos hw]
    unfold Oper.wp
    rw [hrun]
    exact hK _ _ ⟨fun _ => hS, hn hS⟩))

/-- the rest of a slice behind its first element -/
def tailA (g o z c : Nat) : Option Addr := if c = 1 then some ⟨g, o, none⟩ else some ⟨g, o + z, none⟩
theorem run_tailP (g o n c : Nat) (h1 : 1 ≤ n) (w : World) : (Instr.sliceAt 22 (.slice (some ⟨g, o, none⟩) n c) (some (.int .i64 1)) none none).run Tryd.prog w = .ok (.slice (tailA g o 33 c) (n - 1) (c - 1)) w := by
  have e : Tryd.prog.elem 22 = 31 := by kernel_rfl
  have hu : Tryd.prog.underlying 22 = some (.slice (Tryd.prog.elem 22)) := by rw [e]; exact Tryd.underlying22
  rw [run_sliceAt_slice (h := hu), run_slice_l (ht := hu) (h0 := by decide) (h1 := by omega), e, size_po w]
  simp only [Result.andThen_ok]
  unfold sliced tailA
  by_cases hc : c = 1
  · simp [hc]
  · have : (1 : Int).toNat = 1 := rfl
    simp [hc, Addr.add]
theorem size_int (w : World) : (Go.sizeOf 3).run Tryd.prog w = .ok 1 w := by kernel_rfl
theorem run_tailI (g o n c : Nat) (h1 : 1 ≤ n) (w : World) : (Instr.sliceAt 23 (.slice (some ⟨g, o, none⟩) n c) (some (.int .i64 1)) none none).run Tryd.prog w = .ok (.slice (tailA g o 1 c) (n - 1) (c - 1)) w := by
  have e : Tryd.prog.elem 23 = 3 := by kernel_rfl
  have hu : Tryd.prog.underlying 23 = some (.slice (Tryd.prog.elem 23)) := by rw [e]; exact Tryd.underlying23
  rw [run_sliceAt_slice (h := hu), run_slice_l (ht := hu) (h0 := by decide) (h1 := by omega), e, size_int w]
  simp only [Result.andThen_ok]
  unfold sliced tailA
  by_cases hc : c = 1
  · simp [hc]
  · simp [hc, Addr.add]

section
variable {α : Type} {C : α → List Value} {z : Nat}
theorem IsC.same {w w' : World} {a : Option Addr} {n c : Nat} {l : List α} (h : IsC C z w a n c l) (hk : ∀ g o, 0 < n → a = some ⟨g, o, none⟩ → g < w.heap.size → w'.heap[g]? = w.heap[g]?) (hz : w.heap.size ≤ w'.heap.size) : IsC C z w' a n c l :=
  ⟨h.llen, h.lcap, h.lmax, h.cmax, h.each, by
    rcases h.at_ with h0 | ⟨g, o, e, hr, hg⟩
    · exact .inl h0
    · rcases Nat.eq_zero_or_pos n with h0 | h0
      · exact .inl h0
      · exact .inr ⟨g, o, e, fun j v hv => (World.cell?_of_block (w := w) (hk g o h0 e hg)).trans (hr j v hv), Nat.lt_of_lt_of_le hg hz⟩⟩
/-- the rest of a slice is one -/
theorem IsC.tail {w : World} {g o n c : Nat} {x : α} {l : List α} (h : IsC C z w (some ⟨g, o, none⟩) n c (x :: l)) : IsC C z w (tailA g o z c) (n - 1) (c - 1) l := by
  have h1 := h.llen
  have h2 := h.lcap
  have h3 := h.lmax
  have h4 := h.cmax
  simp only [List.length_cons] at h1
  refine ⟨by omega, by omega, by omega, by omega, fun y hy => h.each y (List.mem_cons_of_mem _ hy), ?_⟩
  rcases Nat.eq_zero_or_pos (n - 1) with h0 | h0
  · exact .inl h0
  · right
    have hc : ¬ c = 1 := by omega
    rcases h.at_ with e | ⟨g', o', e, hr, hg⟩
    · omega
    · cases e
      refine ⟨g, o + z, by unfold tailA; rw [if_neg hc], fun j v hv => ?_, hg⟩
      have hx := h.each x List.mem_cons_self
      have := hr (z + j) v (by rw [List.flatMap_cons, List.getElem?_append_right (by omega), hx, show z + j - z = j from by omega]; exact hv)
      rwa [show o + z + j = o + (z + j) from by omega]

/-- a box that holds a slice of these elements, which lie where rd says -/
def BoxC (C : α → List Value) (z : Nat) (ts : TypeId) (rd : Nat → Prop) (w : World) (p : Nat) (l : List α) : Prop :=
  ∃ a n c, w.heap[p]? = some (.cells #[.slice a n c] ts (0, 0)) ∧ IsC C z w a n c l ∧ ∀ g o, 0 < n → a = some ⟨g, o, none⟩ → rd g
/-- how long the slice is that a box holds -/
def bxl (w : World) (p : Nat) : Nat := match w.cell? ⟨p, 0, none⟩ with | some (.slice _ n _) => n | _ => 0
theorem BoxC.len {ts : TypeId} {rd : Nat → Prop} {w : World} {p : Nat} {l : List α} (h : BoxC C z ts rd w p l) : bxl w p = l.length := by
  obtain ⟨a, n, c, hb, hi, _⟩ := h
  unfold bxl
  rw [cell_of_row _ _ _ _ _ _ hb]
  exact hi.llen.symm
theorem BoxC.same {ts : TypeId} {rd : Nat → Prop} {w w' : World} {p : Nat} {l : List α} (h : BoxC C z ts rd w p l) (hp : w'.heap[p]? = w.heap[p]?) (hr : ∀ r, rd r → r < w.heap.size → w'.heap[r]? = w.heap[r]?) (hz : w.heap.size ≤ w'.heap.size) : BoxC C z ts rd w' p l := by
  obtain ⟨a, n, c, hb, hi, hd⟩ := h
  exact ⟨a, n, c, hp.trans hb, hi.same (fun g o h0 e hg => hr g (hd g o h0 e) hg) hz, hd⟩
/-- the box, its first element taken away -/
theorem BoxC.pop {ts : TypeId} {rd : Nat → Prop} {w : World} {p g o n c : Nat} {x : α} {l : List α} (hb : w.heap[p]? = some (.cells #[.slice (some ⟨g, o, none⟩) n c] ts (0, 0))) (hi : IsC C z w (some ⟨g, o, none⟩) n c (x :: l)) (hd : rd g) (hp : ¬ rd p) :
    BoxC C z ts rd (w.setCell ⟨p, 0, none⟩ (.slice (tailA g o z c) (n - 1) (c - 1))) p l := by
  have hset := grownBy_setCell' w p (.slice (tailA g o z c) (n - 1) (c - 1))
  refine ⟨_, _, _, ?_, hi.tail.same (fun g' o' h0 e hg => hset.block g' hg (fun e2 => ?_)) hset.size, fun g' o' h0 e => ?_⟩
  · have := heap_setCell_row (cs := [.slice (some ⟨g, o, none⟩) n c]) (i := 0) (.slice (tailA g o z c) (n - 1) (c - 1)) hb
    simpa using this
  · have : g' = g := by
      unfold tailA at e
      split at e
      · cases e; rfl
      · cases e; rfl
    exact hp (by rw [← Option.some.inj e2, this]; exact hd)
  · have : g' = g := by
      unfold tailA at e
      split at e
      · cases e; rfl
      · cases e; rfl
    rw [this]; exact hd
end
end Frk
