/- Parts of the proof, joined. -/
import Derived.Test.YtllbjakfjpjfnaaGreatDoorVxRsm
import Derived.Test.YtllbjakfjpjfnaaGreatDoorVxgSig
import Derived.Test.YtllbjakfjpjfnaaGreatDoorVxgEqd
import Derived.Lib.SlBytesConst
import Derived.Test.YtllbjakfjpjfnaaGreatDoorVxgVal
import Derived.Test.YtllbjakfjpjfnaaGreatDoorVxgKit
import Derived.Test.YtllbjakfjpjfnaaGreatDoorProg
import Derived.BigQuiet
import Derived.Lib.Hide
import Derived.Test.YtllbjakfjpjfnaaGreatDoorVxRel
/- The reference's Tagged and Hash. -/
namespace Frk
open Go Go.RowKit Go.Proofs
set_option maxRecDepth 100000

set_option maxHeartbeats 2000000 in
theorem rtagged_any (tag : ByteArray) (a : Option Addr) (len cap : Nat) (l : Bytes) (w : World) (hb : IsB w a len cap l) (ht2 : tag.size ≤ 64) (hm : len + 200 ≤ 140737488355328) :
   Calls Tryz.prog 59 #[.string tag, .slice a len cap] w fun e w' => e = .returned (.agg ((tagged tag.data.toList l).map B).toArray) ∧ Below w.heap.size w w' := by
  obtain ⟨ct, W1, hrun, hW1⟩ := conv_str (w.alloc (.cells #[.int .u8 0, .int .u8 0, .int .u8 0, .int .u8 0, .int .u8 0, .int .u8 0, .int .u8 0, .int .u8 0, .int .u8 0, .int .u8 0, .int .u8 0, .int .u8 0, .int .u8 0, .int .u8 0, .int .u8 0, .int .u8 0, .int .u8 0, .int .u8 0, .int .u8 0, .int .u8 0, .int .u8 0, .int .u8 0, .int .u8 0, .int .u8 0, .int .u8 0, .int .u8 0, .int .u8 0, .int .u8 0, .int .u8 0, .int .u8 0, .int .u8 0, .int .u8 0] 42)) tag (by omega)
  have HB := Seal.mk hb
  have HL := Seal.mk hb.llen
  have hsz1 := hW1.out.2.2.2.2
  rw [size_alloc] at hrun hsz1
  have HS1 := Seal.mk hsz1
  have hr1 : W1.rangeAt (w.heap.size + 1) 0 (tag.data.toList.map B) := by have := hW1.out.2.1; rwa [size_alloc] at this
  have HC1 := Seal.mk (rsum_any (some ⟨w.heap.size + 1, 0, none⟩) tag.size ct tag.data.toList W1 ⟨by simp, hW1.out.2.2.1, by omega, hW1.out.2.2.2.1, .inr ⟨_, _, rfl, hr1, by omega⟩⟩ (by omega))
  clear hb hsz1 hr1
  go_enter Tryz.func59, Tryz.ntmps59
  have HD1 : Seal ((Tryz.prog.info? 42).map (·.size) = some ((sha tag.data.toList).map B).length) := ⟨sha_info _⟩
  have HD2 : Seal (((sha tag.data.toList).map B).length = 32) := ⟨by rw [List.length_map, sha_length]⟩
  have HD3 : Seal (∀ u ∈ (sha tag.data.toList).map B, u.oneCell' = true) := ⟨by simp [Value.oneCell']⟩
  obtain ⟨D, hD⟩ : ∃ D, Seal (D = (sha tag.data.toList).map B) := ⟨_, ⟨rfl⟩⟩
  rw [← hD.out] at HD1 HD2 HD3 HC1
  go_wp2_with fail
  refine HC1.out.mono ?_
  rintro e w2 ⟨rfl, hb2⟩
  have hs1 := HS1.out
  have hb0 : Below w.heap.size w w2 := (below_alloc w _).trans ((hW1.out.1.mono (by rw [size_alloc]; omega)).trans (hb2.mono (by omega)))
  have hz1 : W1.heap[w.heap.size]? = some (.cells #[.int .u8 0, .int .u8 0, .int .u8 0, .int .u8 0, .int .u8 0, .int .u8 0, .int .u8 0, .int .u8 0, .int .u8 0, .int .u8 0, .int .u8 0, .int .u8 0, .int .u8 0, .int .u8 0, .int .u8 0, .int .u8 0, .int .u8 0, .int .u8 0, .int .u8 0, .int .u8 0, .int .u8 0, .int .u8 0, .int .u8 0, .int .u8 0, .int .u8 0, .int .u8 0, .int .u8 0, .int .u8 0, .int .u8 0, .int .u8 0, .int .u8 0, .int .u8 0] 42 (0, 0)) := (hW1.out.1.block _ (by rw [size_alloc]; omega)).trans (heap_alloc_new w _)
  have hz2' : w2.heap[w.heap.size]? = some (.cells #[.int .u8 0, .int .u8 0, .int .u8 0, .int .u8 0, .int .u8 0, .int .u8 0, .int .u8 0, .int .u8 0, .int .u8 0, .int .u8 0, .int .u8 0, .int .u8 0, .int .u8 0, .int .u8 0, .int .u8 0, .int .u8 0, .int .u8 0, .int .u8 0, .int .u8 0, .int .u8 0, .int .u8 0, .int .u8 0, .int .u8 0, .int .u8 0, .int .u8 0, .int .u8 0, .int .u8 0, .int .u8 0, .int .u8 0, .int .u8 0, .int .u8 0, .int .u8 0] 42 (0, 0)) := (hb2.block _ (by omega)).trans hz1
  obtain ⟨Y, hY⟩ : ∃ Y : World, Seal (Y = w2.alloc (.cells D.toArray 42)) := ⟨_, ⟨rfl⟩⟩
  have hYb : Seal (Below w.heap.size w Y) := ⟨by rw [hY.out]; exact hb0.alloc hb0.size _⟩
  have hYz : Seal (Y.heap[w.heap.size]? = some (.cells #[.int .u8 0, .int .u8 0, .int .u8 0, .int .u8 0, .int .u8 0, .int .u8 0, .int .u8 0, .int .u8 0, .int .u8 0, .int .u8 0, .int .u8 0, .int .u8 0, .int .u8 0, .int .u8 0, .int .u8 0, .int .u8 0, .int .u8 0, .int .u8 0, .int .u8 0, .int .u8 0, .int .u8 0, .int .u8 0, .int .u8 0, .int .u8 0, .int .u8 0, .int .u8 0, .int .u8 0, .int .u8 0, .int .u8 0, .int .u8 0, .int .u8 0, .int .u8 0] 42 (0, 0))) := ⟨by rw [hY.out, Below.heap_alloc _ _ _ (Array.getElem?_eq_some_iff.1 hz2').1]; exact hz2'⟩
  have hYd : Seal (IsB Y (some ⟨w2.heap.size, 0, none⟩) 32 32 (sha tag.data.toList)) := ⟨by rw [hY.out, hD.out]; exact isB_new w2 _ 32 _ (0, 0) (sha_length _) (by decide)⟩
  have hS0 : Seal (Stg Y (Y.alloc (.cells #[] 5)) Y.heap.size 0 0 []) := ⟨stg_new Y [] 0 rfl (by decide)⟩
  have hI0 : Seal (IsB (Y.alloc (.cells #[] 5)) (some ⟨w2.heap.size, 0, none⟩) 32 32 (sha tag.data.toList)) := ⟨hYd.out.below (below_alloc _ _)⟩
  clear hz1 hz2' hb2 hb0 hs1 HC1 hrun hW1 HS1
  obtain ⟨E, hE⟩ : ∃ E : Array Value, Seal (E = ((sha (sha tag.data.toList ++ l)).map B).toArray) := ⟨_, ⟨rfl⟩⟩
  have HE1 : Seal ((Tryz.prog.info? 42).map (·.size) = some E.size) := ⟨by rw [hE.out, List.size_toArray]; exact sha_info _⟩
  have HE2 : Seal (E.size = 32) := ⟨by rw [hE.out, List.size_toArray, List.length_map, sha_length]⟩
  have HE3 : Seal (E.all (·.oneCell') = true) := ⟨by rw [hE.out]; simp [Value.oneCell']⟩
  go_wp2_with (first
    | (at_builtin; refine wpList_append_st rfl (.tmp 9) (.tmp 10) rfl Y Y.heap.size 0 0 [] (some ⟨w2.heap.size, 0, none⟩) 32 32 (sha tag.data.toList) rfl rfl hS0 hI0 (by omega) ?_
       intro g1 cap1 w3 hS3 _ _
       rw [Nat.zero_add] at hS3 ⊢
       rw [List.nil_append] at hS3
       have hI3 : Seal (IsB w3 a len cap l) := ⟨(HB.out.below hYb.out).below hS3.out.bel⟩
       clear hS0 hI0)
    | (at_builtin; refine wpList_append_st rfl (.tmp 11) (.tmp 12) rfl Y g1 32 cap1 (sha tag.data.toList) a len cap l rfl rfl hS3 hI3 (by omega) ?_
       intro g4 cap4 w4 hS4 _ _
       have hC4 : Seal _ := ⟨rsum_any (some ⟨g4, 0, none⟩) (32 + len) cap4 _ w4 (hS4.out.isB (by omega)) (by omega)⟩
       rw [← hE.out] at hC4
       have hB4 := Seal.mk (hYb.out.trans (hS4.out.bel.mono hYb.out.size))
       have hZ4 := Seal.mk ((hS4.out.bel.block _ (Array.getElem?_eq_some_iff.1 hYz.out).1).trans hYz.out)
       clear hS3 hI3 hS4)
    | (go_at_call 85; refine hC4.out.mono ?_; rintro e w5 ⟨rfl, hb5⟩
       have hZ5 := Seal.mk ((hb5.block _ (Array.getElem?_eq_some_iff.1 hZ4.out).1).trans hZ4.out)
       have hB5 := Seal.mk (hB4.out.trans (hb5.mono hB4.out.size))
       clear hb5)
    | (refine wpList_store_row rfl 42 (.tmp 4) (.tmp 14) rfl w.heap.size E rfl rfl 42 _ hZ5.out HE1.out HE2.out.symm HE3.out ?_)
    | (refine wpList_store_new rfl 42 (.tmp 5) (.tmp 8) rfl [.int .u8 0, .int .u8 0, .int .u8 0, .int .u8 0, .int .u8 0, .int .u8 0, .int .u8 0, .int .u8 0, .int .u8 0, .int .u8 0, .int .u8 0, .int .u8 0, .int .u8 0, .int .u8 0, .int .u8 0, .int .u8 0, .int .u8 0, .int .u8 0, .int .u8 0, .int .u8 0, .int .u8 0, .int .u8 0, .int .u8 0, .int .u8 0, .int .u8 0, .int .u8 0, .int .u8 0, .int .u8 0, .int .u8 0, .int .u8 0, .int .u8 0, .int .u8 0] D 42 rfl rfl HD1.out HD2.out.symm HD3.out ?_; rw [← hY.out]))
  refine bodyPost_ret (results_cell_row (fn := Tryz.f59) rfl _ _ w.heap.size 42 E (0, 0) _ rfl (setRow_heap _ _ _ _ _ _ hZ5.out) Tryz.underlying42 rfl HE1.out) rfl ⟨?_, below_row hB5.out (Nat.le_refl _) _⟩
  rw [hE.out]
  rfl

end Frk

/- The examples of signatures, reckoned. -/
namespace Frk
open Go Go.RowKit Go.Proofs
set_option maxRecDepth 100000

def tLetter : Bytes := [108, 101, 116, 116, 101, 114]
end Frk

/- The reference's Mod, Times, Power and Quotient. -/
namespace Frk
open Go Go.RowKit Go.Proofs
set_option maxRecDepth 100000

def pwqn (a n : Nat) : Nat := a ^ n % Q

/-- Q less 2 -/
def eQ : Nat := 1073741787
attribute [irreducible] eQ

/-- the quotient modulo Q -/
def quo (a b : Int) : Nat := lq a * pwqn (lq b) eQ % 1073741789
end Frk

/- The reference's sign: values, Hash. -/
namespace Frk
open Go Go.RowKit Go.Proofs
set_option maxRecDepth 100000

theorem rint_any (n : Int) (w : World) : Calls Tryz.prog 115 #[.int .i64 n] w fun e w' => e = .returned (.agg #[.int .i64 1, .int .i64 n, .string ByteArray.empty, .slice none 0 0]) ∧ Below w.heap.size w w' := by
  go_enter Tryz.func115, Tryz.ntmps115
  go_wp2
  refine bodyPost_ret (results_cell_row (fn := Tryz.f115) rfl _ _ w.heap.size 51 _ (0, 0) _ rfl (heap_alloc_new w _) Tryz.underlying51 rfl (by kernel_rfl)) rfl ⟨rfl, below_alloc _ _⟩

theorem IsB.drew {w : World} {a : Option Addr} {len cap : Nat} {l : Bytes} (h : IsB w a len cap l) : IsB w.drew a len cap l := ⟨h.llen, h.lcap, h.lmax, h.cmax, h.at_⟩

end Frk

