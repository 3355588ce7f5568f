/- Law 44: Serial. -/
import Derived.Test.YtnpnboldjbljaaaDoorVfgDpa
import Derived.Test.YtnpnboldjbljaaaDoorVfgLin
import Derived.Test.YtnpnboldjbljaaaDoorVfTag
import Derived.Test.YtnpnboldjbljaaaDoorVfEnf
namespace Frk
open Go Go.RowKit Go.Proofs
set_option maxRecDepth 100000

def tSerial : Bytes := [115, 101, 114, 105, 97, 108]
/-- the serial of an order -/
def serB (s o : Int) : Bytes := tagged tSerial (encL (lfs [s, o]))
theorem serB_len (s o : Int) : (serB s o).length = 32 := sha_length _

theorem dnumber_any (n : Int) (w : World) : Calls Tryd.prog 44 #[.int .i64 n] w fun e w' => e = .returned (.agg #[.int .i64 1, .int .i64 n, .string ByteArray.empty, .slice none 0 0]) ∧ Below w.heap.size w w' := by
  go_enter Tryd.func44, Tryd.ntmps44
  go_wp2
  refine bodyPost_ret (results_cell_row (fn := Tryd.f44) rfl _ _ w.heap.size 78 _ (0, 0) _ rfl (heap_alloc_new w _) Tryd.underlying78 rfl (by kernel_rfl)) rfl ⟨rfl, below_alloc _ _⟩

theorem leaves_two (s o : Int) (w : World) : LeavesAt (w.alloc (.cells [(Lf.i s).cells, (Lf.i o).cells].flatten.toArray 78)) w.heap.size 0 (lfs [s, o]) := by
  intro k x hk j c hj
  rw [cell_of_row _ _ _ _ _ _ (heap_alloc_new w _)]
  have hj4 : j < 4 := by
    have := (List.getElem?_eq_some_iff.1 hj).1
    match k, hk with
    | 0, hk => cases hk; exact this
    | 1, hk => cases hk; exact this
  match k, hk with
  | 0, hk =>
    cases hk
    match j, hj4, hj with
    | 0, _, hj => cases hj; rfl
    | 1, _, hj => cases hj; rfl
    | 2, _, hj => cases hj; rfl
    | 3, _, hj => cases hj; rfl
  | 1, hk =>
    cases hk
    match j, hj4, hj with
    | 0, _, hj => cases hj; rfl
    | 1, _, hj => cases hj; rfl
    | 2, _, hj => cases hj; rfl
    | 3, _, hj => cases hj; rfl

theorem size_val (w : World) : (Go.sizeOf 78).run Tryd.prog w = .ok 4 w := by kernel_rfl
theorem zero_val (w : World) : (zeroValue 78).run Tryd.prog w = .ok (.agg #[.int .i64 0, .int .i64 0, .string ByteArray.empty, .slice none 0 0]) w := by kernel_rfl

set_option maxHeartbeats 2000000 in
theorem dserial_any (s o : Int) (w : World) (hG : Glob w) (hs : I64 s) (ho : I64 o) :
    Calls Tryd.prog 16 #[.int .i64 s, .int .i64 o] w fun e w' => e = .returned (.agg ((serB s o).map B).toArray) ∧ Below w.heap.size w w' := by
  obtain ⟨X, hX⟩ : ∃ X : World, X = w.alloc (.cells #[.int .u8 0, .int .u8 0, .int .u8 0, .int .u8 0, .int .u8 0, .int .u8 0, .int .u8 0, .int .u8 0, .int .u8 0, .int .u8 0, .int .u8 0, .int .u8 0, .int .u8 0, .int .u8 0, .int .u8 0, .int .u8 0, .int .u8 0, .int .u8 0, .int .u8 0, .int .u8 0, .int .u8 0, .int .u8 0, .int .u8 0, .int .u8 0, .int .u8 0, .int .u8 0, .int .u8 0, .int .u8 0, .int .u8 0, .int .u8 0, .int .u8 0, .int .u8 0] 29) := ⟨_, rfl⟩
  have HB : Seal (Below w.heap.size w X) := ⟨by rw [hX]; exact below_alloc _ _⟩
  have HX : Seal (X.heap[w.heap.size]? = some (.cells #[.int .u8 0, .int .u8 0, .int .u8 0, .int .u8 0, .int .u8 0, .int .u8 0, .int .u8 0, .int .u8 0, .int .u8 0, .int .u8 0, .int .u8 0, .int .u8 0, .int .u8 0, .int .u8 0, .int .u8 0, .int .u8 0, .int .u8 0, .int .u8 0, .int .u8 0, .int .u8 0, .int .u8 0, .int .u8 0, .int .u8 0, .int .u8 0, .int .u8 0, .int .u8 0, .int .u8 0, .int .u8 0, .int .u8 0, .int .u8 0, .int .u8 0, .int .u8 0] 29 (0, 0))) := ⟨by rw [hX]; exact heap_alloc_new _ _⟩
  have hgs : w.heap.size < X.heap.size := by rw [hX, size_alloc]; omega
  have HG : Seal (∀ W, Below w.heap.size w W → Glob W) := ⟨fun W h => hG.below h⟩
  have HI : Seal (∀ y ∈ lfs [s, o], y.fits) := ⟨by
    intro y hy
    simp only [lfs, List.map_cons, List.map_nil, List.mem_cons, List.not_mem_nil, or_false] at hy
    rcases hy with rfl | rfl
    · exact hs
    · exact ho⟩
  have HL : Seal ((encL (lfs [s, o])).length ≤ 55) := ⟨by have := encL_length (lfs [s, o]); rw [wgts_lfs] at this; simp at this; omega⟩
  have HW : Seal (wgts (lfs [s, o]) = 22) := ⟨by rw [wgts_lfs]; rfl⟩
  obtain ⟨T, hT⟩ : ∃ T, T = encL (lfs [s, o]) := ⟨_, rfl⟩
  have HR : Seal (tagged tSerial T = serB s o) := ⟨by rw [hT]; rfl⟩
  have HTt := Seal.mk hT
  rw [← hT] at HL
  obtain ⟨E, hE⟩ : ∃ E, E = ((serB s o).map B).toArray := ⟨_, rfl⟩
  have HE1 : Seal ((Tryd.prog.info? 29).map (·.size) = some E.size) := ⟨by rw [hE, List.size_toArray]; exact sha_info _⟩
  have HE2 : Seal (E.size = 32) := ⟨by rw [hE, List.size_toArray, List.length_map]; exact sha_length _⟩
  have HE3 : Seal (E.all (·.oneCell') = true) := ⟨by rw [hE]; simp [Value.oneCell']⟩
  have HEE := Seal.mk hE
  rw [← hE]
  clear hG hs ho hT hE
  go_enter Tryd.func16, Tryd.ntmps16
  go_wp2_with fail
  rw [← hX]
  clear hX
  refine (dnumber_any s X).mono ?_
  rintro e w1 ⟨rfl, hb⟩
  have HB1 := Seal.mk (HB.out.trans (hb.mono HB.out.size))
  have HX1 := Seal.mk ((hb.block _ hgs).trans HX.out)
  have hgs := Nat.lt_of_lt_of_le hgs hb.size
  clear hb HB HX
  go_wp2_with fail
  refine (dnumber_any o w1).mono ?_
  rintro e w2 ⟨rfl, hb⟩
  have HB2 := Seal.mk (HB1.out.trans (hb.mono HB1.out.size))
  have HX2 := Seal.mk ((hb.block _ hgs).trans HX1.out)
  have hgs := Nat.lt_of_lt_of_le hgs hb.size
  clear hb HB1 HX1
  go_wp2_with (first
    | (refine wpList_bslice (by kernel_rfl) 76 78 2 4 #[(0, .tmp 11), (1, .tmp 14)] rfl [(Lf.i s).cells, (Lf.i o).cells] Tryd.underlying76 size_val _ zero_val rfl rfl (by intro D hD; simp only [List.mem_cons, List.not_mem_nil, or_false] at hD; rcases hD with rfl | rfl <;> rfl) (by decide) (by decide) rfl ?_; obtain ⟨V, hV⟩ : ∃ Z, Z = w2.alloc (.cells [(Lf.i s).cells, (Lf.i o).cells].flatten.toArray 78) := ⟨_, rfl⟩; have hb : Below w2.heap.size w2 V := (by rw [hV]; exact below_alloc _ _); have HB3 := Seal.mk (HB2.out.trans (hb.mono HB2.out.size)); have HX3 := Seal.mk ((hb.block _ hgs).trans HX2.out); have HLV : Seal (LeavesAt V w2.heap.size 0 (lfs [s, o]) ∧ w2.heap.size < V.heap.size) := ⟨(by rw [hV]; exact ⟨leaves_two s o w2, (by simp)⟩)⟩; have hgs3 := Nat.lt_of_lt_of_le hgs hb.size; rw [← hV]; clear hb hV HB2 HX2; (try simp only [Act.put, List.setIfInBounds_toArray, List.set_cons_zero, List.set_cons_succ]))
    | (refine (encode_any w2.heap.size 0 2 2 (lfs [s, o]) V rfl (Nat.le_refl _) (by rw [HW.out]; decide) (by decide) HLV.out.1 HLV.out.2 HI.out).mono ?_))
  rintro e w4 ⟨g, n, c, hn, rfl, hf⟩
  rw [← HTt.out] at hn hf
  have HB4 := Seal.mk (HB3.out.trans (hf.out.2.2.2.2.mono HB3.out.size))
  have HX4 := Seal.mk ((hf.out.2.2.2.2.block _ hgs3).trans HX3.out)
  have HC : Seal (Calls Tryd.prog 46 #[.string ⟨tSerial.toArray⟩, .slice (some ⟨g, 0, none⟩) n c] w4 fun e w' => e = .returned (.agg E) ∧ Below w4.heap.size w4 w') := ⟨by
    have h := tagged_some ⟨tSerial.toArray⟩ g 0 n c T w4 (HG.out _ HB4.out) (by decide) (by decide) hn.out hf.out.1 (by have := hn.out; have := HL.out; omega) hf.out.2.1 hf.out.2.2.2.1 hf.out.2.2.1
    rw [HEE.out, ← HR.out]
    exact h⟩
  have hgs := Nat.lt_of_lt_of_le hgs3 hf.out.2.2.2.2.size
  clear hf hn HB3 HX3 HLV hgs3 HTt
  go_wp2_with (first | (go_at_call 46; refine HC.out.mono ?_; rintro e w5 ⟨rfl, hb⟩; have HX5 := Seal.mk ((hb.block _ hgs).trans HX4.out); have HB5 := Seal.mk (HB4.out.trans (hb.mono HB4.out.size)); clear hb) | (refine wpList_store_row rfl 29 (.tmp 4) (.tmp 21) rfl w.heap.size E rfl rfl 29 _ HX5.out HE1.out HE2.out.symm HE3.out ?_))
  refine bodyPost_ret (results_cell_row (fn := Tryd.f16) rfl _ _ w.heap.size 29 E (0, 0) _ rfl (setRow_heap _ _ _ _ _ _ HX5.out) Tryd.underlying29 rfl HE1.out) rfl ⟨rfl, below_row HB5.out (Nat.le_refl _) _⟩
end Frk
