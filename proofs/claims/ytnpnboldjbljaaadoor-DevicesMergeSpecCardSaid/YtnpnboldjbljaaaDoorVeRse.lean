/- Law 44's reference: Serial. -/
import Derived.Test.YtnpnboldjbljaaaDoorVeDpf
import Derived.Test.YtnpnboldjbljaaaDoorVegRin
import Derived.Test.YtnpnboldjbljaaaDoorVeRel
namespace Frk
open Go Go.RowKit Go.Proofs
set_option maxRecDepth 100000

set_option maxHeartbeats 2000000 in
theorem rserial44_any (s o : Int) (w : World) (hs : I64 s) (ho : I64 o) :
    Calls Tryd.prog 17 #[.int .i64 s, .int .i64 o] w fun e w' => e = .returned (.agg ((serB s o).map B).toArray) ∧ Below w.heap.size w w' := by
  obtain ⟨X, hX⟩ : ∃ X : World, X = (w.alloc (.cells #[.int .u8 0, .int .u8 0, .int .u8 0, .int .u8 0, .int .u8 0, .int .u8 0, .int .u8 0, .int .u8 0, .int .u8 0, .int .u8 0, .int .u8 0, .int .u8 0, .int .u8 0, .int .u8 0, .int .u8 0, .int .u8 0, .int .u8 0, .int .u8 0, .int .u8 0, .int .u8 0, .int .u8 0, .int .u8 0, .int .u8 0, .int .u8 0, .int .u8 0, .int .u8 0, .int .u8 0, .int .u8 0, .int .u8 0, .int .u8 0, .int .u8 0, .int .u8 0] 29)).alloc (.cells #[.int .i64 s, .int .i64 o] 3) := ⟨_, rfl⟩
  have hXb : Seal (Below w.heap.size w X) := ⟨by rw [hX]; exact ((Below.refl _ w).alloc (Nat.le_refl _) _).alloc (by simp) _⟩
  have hXs : Seal (X.heap.size = w.heap.size + 2) := ⟨by rw [hX, size_alloc, size_alloc]⟩
  have hXn : Seal (X.heap[w.heap.size]? = some (.cells #[.int .u8 0, .int .u8 0, .int .u8 0, .int .u8 0, .int .u8 0, .int .u8 0, .int .u8 0, .int .u8 0, .int .u8 0, .int .u8 0, .int .u8 0, .int .u8 0, .int .u8 0, .int .u8 0, .int .u8 0, .int .u8 0, .int .u8 0, .int .u8 0, .int .u8 0, .int .u8 0, .int .u8 0, .int .u8 0, .int .u8 0, .int .u8 0, .int .u8 0, .int .u8 0, .int .u8 0, .int .u8 0, .int .u8 0, .int .u8 0, .int .u8 0, .int .u8 0] 29 (0, 0))) := ⟨by rw [hX]; exact heap_alloc2_old w _ _⟩
  have hXr : X.heap[w.heap.size + 1]? = some (.cells #[.int .i64 s, .int .i64 o] 3 (0, 0)) := by rw [hX]; exact heap_alloc2_new w _ _
  have HT : Seal (Calls Tryd.prog 48 #[.slice (some ⟨w.heap.size + 1, 0, none⟩) 2 2] X (IntsPost (lfs [s, o]) 2 X)) := ⟨rints_any (w.heap.size + 1) 0 2 2 [s, o] X rfl (Nat.le_refl _) (by decide) (by decide) (fun j n hj => by
    rw [Nat.zero_add, cell_of_row _ _ _ _ _ _ hXr]
    match j, hj with
    | 0, hj => cases hj; rfl
    | 1, hj => cases hj; rfl)⟩
  have HF : Seal (∀ y ∈ lfs [s, o], y.fits) := ⟨fun y hy => by
    simp only [lfs, List.map_cons, List.map_nil, List.mem_cons, List.not_mem_nil, or_false] at hy
    rcases hy with rfl | rfl
    · exact hs
    · exact ho⟩
  have HW : Seal (wgts (lfs [s, o]) = 22) := ⟨by rw [wgts_lfs]; rfl⟩
  have HN : Seal ((lfs [s, o]).length = 2) := ⟨rfl⟩
  have HL : Seal ((encL (lfs [s, o])).length ≤ 55) := ⟨by have := encL_length (lfs [s, o]); rw [wgts_lfs] at this; simp at this; omega⟩
  obtain ⟨E, hE⟩ : ∃ E, Seal (E = ((serB s o).map B).toArray) := ⟨_, ⟨rfl⟩⟩
  have HE1 : Seal ((Tryd.prog.info? 29).map (·.size) = some E.size) := ⟨by rw [hE.out, List.size_toArray]; exact sha_info _⟩
  have HE2 : Seal (E.size = 32) := ⟨by rw [hE.out, List.size_toArray, List.length_map]; exact sha_length _⟩
  have HE3 : Seal (E.all (·.oneCell') = true) := ⟨by rw [hE.out]; simp [Value.oneCell']⟩
  have HR : Seal (((tagged tSerial (encL (lfs [s, o]))).map B).toArray = E) := ⟨by rw [hE.out]; rfl⟩
  generalize lfs [s, o] = T at HT HL HR HF HW HN
  clear hXr hs ho
  rw [← hE.out]
  go_enter Tryd.func17, Tryd.ntmps17
  go_wp2_with fail
  rw [hX] at HT
  refine HT.out.mono ?_
  rw [← hX]
  clear hX
  rintro e w1 ⟨g1, c1, rfl, hI, hb1⟩
  have HB1 : Seal (Below w.heap.size w w1) := ⟨hXb.out.trans (hb1.mono hXb.out.size)⟩
  have HZ1 : Seal (w1.heap[w.heap.size]? = some (.cells #[.int .u8 0, .int .u8 0, .int .u8 0, .int .u8 0, .int .u8 0, .int .u8 0, .int .u8 0, .int .u8 0, .int .u8 0, .int .u8 0, .int .u8 0, .int .u8 0, .int .u8 0, .int .u8 0, .int .u8 0, .int .u8 0, .int .u8 0, .int .u8 0, .int .u8 0, .int .u8 0, .int .u8 0, .int .u8 0, .int .u8 0, .int .u8 0, .int .u8 0, .int .u8 0, .int .u8 0, .int .u8 0, .int .u8 0, .int .u8 0, .int .u8 0, .int .u8 0] 29 (0, 0))) := ⟨(hb1.block _ (by rw [hXs.out]; omega)).trans hXn.out⟩
  have HE : Seal _ := ⟨rencode_any g1 0 2 c1 T w1 HN.out hI.out.1 (by rw [HW.out]; decide) hI.out.2.2.1 hI.out.2.1 HF.out⟩
  clear hb1 hI
  go_wp2_with fail
  refine HE.out.mono ?_
  rintro e w2 ⟨g2, n2, c2, rfl, hS⟩
  have hn2 : n2 ≤ 55 := by have := hS.out.len; have := HL.out; omega
  have HB2 : Seal (Below w.heap.size w w2) := ⟨HB1.out.trans (hS.out.bel.mono HB1.out.size)⟩
  have hz1 := (Array.getElem?_eq_some_iff.1 HZ1.out).1
  have HZ2 : Seal (w2.heap[w.heap.size]? = some (.cells #[.int .u8 0, .int .u8 0, .int .u8 0, .int .u8 0, .int .u8 0, .int .u8 0, .int .u8 0, .int .u8 0, .int .u8 0, .int .u8 0, .int .u8 0, .int .u8 0, .int .u8 0, .int .u8 0, .int .u8 0, .int .u8 0, .int .u8 0, .int .u8 0, .int .u8 0, .int .u8 0, .int .u8 0, .int .u8 0, .int .u8 0, .int .u8 0, .int .u8 0, .int .u8 0, .int .u8 0, .int .u8 0, .int .u8 0, .int .u8 0, .int .u8 0, .int .u8 0] 29 (0, 0))) := ⟨(hS.out.bel.block _ hz1).trans HZ1.out⟩
  have HC : Seal _ := ⟨rtagged_any ⟨tSerial.toArray⟩ (some ⟨g2, 0, none⟩) n2 c2 (encL T) w2 (hS.out.isB (by omega)) (by decide) (by omega)⟩
  have HCr : Seal (Calls Tryd.prog 49 #[.string ⟨tSerial.toArray⟩, .slice (some ⟨g2, 0, none⟩) n2 c2] w2 fun e w' => e = .returned (.agg E) ∧ Below w2.heap.size w2 w') := ⟨by rw [← HR.out]; exact HC.out⟩
  have hz2 : w.heap.size < w2.heap.size := (Array.getElem?_eq_some_iff.1 HZ2.out).1
  clear HC hS HE
  go_wp2_with (first | (go_at_call 49; refine HCr.out.mono ?_; rintro e w4 ⟨rfl, hb4⟩; have HZ4 := Seal.mk ((hb4.block _ hz2).trans HZ2.out); have HB5 := Seal.mk (HB2.out.trans (hb4.mono (by omega))); clear hb4) | (refine wpList_store_row rfl 29 (.tmp 4) (.tmp 16) rfl w.heap.size E rfl rfl 29 _ HZ4.out HE1.out HE2.out.symm HE3.out ?_))
  refine bodyPost_ret (results_cell_row (fn := Tryd.f17) rfl _ _ w.heap.size 29 E (0, 0) _ rfl (setRow_heap _ _ _ _ _ _ HZ4.out) Tryd.underlying29 rfl HE1.out) rfl ⟨rfl, below_row HB5.out (Nat.le_refl _) _⟩
end Frk
