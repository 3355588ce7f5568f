/- The point of a signature, by the law's own helper; Encode at values that have just been laid out. -/
import Derived.Test.YtkkkfkefbjpmaaaDoorLawA
namespace Frk
open Go Go.RowKit Go.Proofs
set_option maxRecDepth 100000

theorem flatCells_at : ∀ (xs : List Lf) (k : Nat) (x : Lf), xs[k]? = some x → ∀ (j : Nat) (c : Value), x.cells[j]? = some c → (xs.flatMap Lf.cells)[k * 4 + j]? = some c
  | [], k, x, h, _, _, _ => by simp at h
  | y :: xs, 0, x, h, j, c, hc => by
    have e : y = x := by simpa using h
    subst e
    rw [List.flatMap_cons, Nat.zero_mul, Nat.zero_add, List.getElem?_append_left (List.getElem?_eq_some_iff.1 hc).1]
    exact hc
  | y :: xs, k + 1, x, h, j, c, hc => by
    have := flatCells_at xs k x (by simpa using h) j c hc
    have hl : y.cells.length = 4 := by cases y <;> rfl
    rw [List.flatMap_cons, List.getElem?_append_right (by omega), hl, show (k + 1) * 4 + j - 4 = k * 4 + j from by omega]
    exact this

theorem encode_new (xs : List Lf) (k H : Nat) (w : World) (hH : w.heap.size = H) (hk : xs.length = k) (hk0 : 0 < k) (hf : ∀ y ∈ xs, y.fits) (hl : wgts xs + 22 ≤ 140737488355328) :
    Calls Tryd.prog 112 #[.agg #[.int .i64 3, .int .i64 0, .string ByteArray.empty, .slice (some ⟨H, 0, none⟩) k k]] (w.alloc (.cells (xs.flatMap Lf.cells).toArray 100)) (EncPost (encL xs) w) := by
  subst hH
  refine (encode_any w.heap.size 0 k k xs (w.alloc (.cells (xs.flatMap Lf.cells).toArray 100)) hk (Nat.le_refl _) hl hk0 (fun q x hx j c hc => ?_) (by rw [size_alloc]; omega) hf).mono ?_
  · rw [Nat.add_assoc]
    exact rangeAt_new w (xs.flatMap Lf.cells) _ _ (q * 4 + j) c (flatCells_at xs q x hx j c hc)
  · rintro e w' ⟨g', n', cap', hn, rfl, hf⟩
    exact ⟨g', n', cap', hn, rfl, ⟨hf.out.1, hf.out.2.1, hf.out.2.2.1, hf.out.2.2.2.1, (below_alloc w _).trans (hf.out.2.2.2.2.mono (by rw [size_alloc]; omega))⟩⟩

end Frk
