/- The point of a signature, by the law's own helper; Encode at values that have just been laid out. -/
import Derived.Test.YtbifjlejelcicaaDoorLawA
namespace Frk
open Go Go.RowKit Go.Proofs
set_option maxRecDepth 100000

theorem flatCells_at : ∀ (xs : List Lf) (k : Nat) (x : Lf), xs[k]? = some x → ∀ (j : Nat) (c : Value), x.cells[j]? = some c → (xs.flatMap Lf.cells)[k * 4 + j]? = some c
  | [], k, x, h, _, _, _ => by simp at h
  | y :: xs, 0, x, h, j, c, hc => by
    have e : y = x := by simpa using h
    subst e
    rw [List.flatMap_cons, Nat.zero_mul, Nat.zero_add, List.getElem?_append_left (List.getElem?_eq_some_iff.1 hc).1]
    exact hc
  | y :: xs, k + 1, x, h, j, c, hc => by
    have := flatCells_at xs k x (by simpa using h) j c hc
    have hl : y.cells.length = 4 := by cases y <;> rfl
    rw [List.flatMap_cons, List.getElem?_append_right (by omega), hl, show (k + 1) * 4 + j - 4 = k * 4 + j from by omega]
    exact this

theorem encode_new (xs : List Lf) (k H : Nat) (w : World) (hH : w.heap.size = H) (hk : xs.length = k) (hk0 : 0 < k) (hf : ∀ y ∈ xs, y.fits) (hl : wgts xs + 22 ≤ 140737488355328) :
    Calls Tryd.prog 21 #[.agg #[.int .i64 3, .int .i64 0, .string ByteArray.empty, .slice (some ⟨H, 0, none⟩) k k]] (w.alloc (.cells (xs.flatMap Lf.cells).toArray 41)) (EncPost (encL xs) w) := by
  subst hH
  refine (encode_any w.heap.size 0 k k xs (w.alloc (.cells (xs.flatMap Lf.cells).toArray 41)) hk (Nat.le_refl _) hl hk0 (fun q x hx j c hc => ?_) (by rw [size_alloc]; omega) hf).mono ?_
  · rw [Nat.add_assoc]
    exact rangeAt_new w (xs.flatMap Lf.cells) _ _ (q * 4 + j) c (flatCells_at xs q x hx j c hc)
  · rintro e w' ⟨g', n', cap', hn, rfl, hf⟩
    exact ⟨g', n', cap', hn, rfl, ⟨hf.out.1, hf.out.2.1, hf.out.2.2.1, hf.out.2.2.2.1, (below_alloc w _).trans (hf.out.2.2.2.2.mono (by rw [size_alloc]; omega))⟩⟩

set_option maxHeartbeats 1000000 in
theorem point_yes (key E S : Int) (w : World) (hE : 0 ≤ E) (hE2 : E < 1073741789) (hS : 0 ≤ S) (hS2 : S < 1073741789) (hk : vd key = true) :
    Calls Tryd.prog 20 #[.int .i64 key, .agg #[.int .i64 E, .int .i64 S]] w fun e w' => e = .returned (.tuple #[.int .i64 (sgPoint key E S : Nat), .bool true]) ∧ Below w.heap.size w w' := by
  have h4 : vd 4 = true := by decide +kernel
  have H4S := Seal.mk (vd_pw h4 S)
  have HKE := Seal.mk (vd_pw hk (-E))
  have HK := Seal.mk hk
  have HP : Seal (sgPoint key E S = mp (pw 4 S) (pw key.toNat (-E))) := ⟨rfl⟩
  have hneg : IntKind.i64.wrap (-E) = -E := by rw [IntKind.wrap_i64]; omega
  have hneg2 : wrap64 (-E) = -E := IntWalk.wrap64_in _ (by omega)
  have HR0 : Seal ((w.alloc (.cells #[.int .i64 E, .int .i64 S] 24)).heap[w.heap.size]? = some (.cells #[.int .i64 E, .int .i64 S] 24)) := ⟨heap_alloc_new w _⟩
  have HB0 := Seal.mk (below_alloc w (.cells #[.int .i64 E, .int .i64 S] 24))
  clear hk
  go_enter Tryd.func20, Tryd.ntmps20
  go_wp2_with fail
  refine (pow_yes 4 S _ (by decide +kernel) (by omega) (by omega)).mono ?_
  rintro e w2 ⟨rfl, hb⟩
  have HR2 := Seal.mk (blk hb (Array.getElem?_eq_some_iff.1 HR0.out).1 HR0.out)
  have HB2 := Seal.mk (HB0.out.trans (hb.mono HB0.out.size))
  clear hb HR0 HB0
  have c0 : w2.cell? ⟨w.heap.size, 0, none⟩ = some (.int .i64 E) := by rw [cell_of_row _ _ _ _ _ _ HR2.out]; rfl
  go_wp2_with fail
  refine (pow_yes key (-E) _ HK.out (by omega) (by omega)).mono ?_
  rintro e w3 ⟨rfl, hb⟩
  have HB3 := Seal.mk (HB2.out.trans (hb.mono HB2.out.size))
  clear hb HR2 HB2 c0
  have q1 : pw 4 S < 2147483579 := pw_lt 4 S
  have q2 : pw key.toNat (-E) < 2147483579 := pw_lt _ _
  go_wp2_with fail
  refine (mul_yes _ _ _ H4S.out HKE.out).mono ?_
  rintro e w4 ⟨rfl, rfl⟩
  go_wp2_with fail
  go_ret2
  exact ⟨by rw [HP.out]; rfl, HB3.out⟩
end Frk
