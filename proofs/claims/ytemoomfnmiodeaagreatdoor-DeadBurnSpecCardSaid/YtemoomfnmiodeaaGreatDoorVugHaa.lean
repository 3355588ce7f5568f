/- Parts of the proof, joined. -/
import Derived.Test.YtemoomfnmiodeaaGreatDoorVuRsm
import Derived.Test.YtemoomfnmiodeaaGreatDoorVugSig
import Derived.Test.YtemoomfnmiodeaaGreatDoorVuRel
import Derived.Test.YtemoomfnmiodeaaGreatDoorVugElm
import Derived.Test.YtemoomfnmiodeaaGreatDoorVuRow
import Derived.Test.YtemoomfnmiodeaaGreatDoorProg
import Derived.OrdersIn
import Derived.Deep.RegionHeld
import Derived.Deep.MidRow
/- The reference's Tagged and Hash. -/
namespace Frk
open Go Go.RowKit Go.Proofs
set_option maxRecDepth 100000

set_option maxHeartbeats 2000000 in
theorem rtagged_any (tag : ByteArray) (a : Option Addr) (len cap : Nat) (l : Bytes) (w : World) (hb : IsB w a len cap l) (ht2 : tag.size ≤ 64) (hm : len + 200 ≤ 140737488355328) :
   Calls Tryz.prog 51 #[.string tag, .slice a len cap] w fun e w' => e = .returned (.agg ((tagged tag.data.toList l).map B).toArray) ∧ Below w.heap.size w w' := by
  obtain ⟨ct, W1, hrun, hW1⟩ := conv_str (w.alloc (.cells #[.int .u8 0, .int .u8 0, .int .u8 0, .int .u8 0, .int .u8 0, .int .u8 0, .int .u8 0, .int .u8 0, .int .u8 0, .int .u8 0, .int .u8 0, .int .u8 0, .int .u8 0, .int .u8 0, .int .u8 0, .int .u8 0, .int .u8 0, .int .u8 0, .int .u8 0, .int .u8 0, .int .u8 0, .int .u8 0, .int .u8 0, .int .u8 0, .int .u8 0, .int .u8 0, .int .u8 0, .int .u8 0, .int .u8 0, .int .u8 0, .int .u8 0, .int .u8 0] 26)) tag (by omega)
  have HB := Seal.mk hb
  have HL := Seal.mk hb.llen
  have hsz1 := hW1.out.2.2.2.2
  rw [size_alloc] at hrun hsz1
  have HS1 := Seal.mk hsz1
  have hr1 : W1.rangeAt (w.heap.size + 1) 0 (tag.data.toList.map B) := by have := hW1.out.2.1; rwa [size_alloc] at this
  have HC1 := Seal.mk (rsum_any (some ⟨w.heap.size + 1, 0, none⟩) tag.size ct tag.data.toList W1 ⟨by simp, hW1.out.2.2.1, by omega, hW1.out.2.2.2.1, .inr ⟨_, _, rfl, hr1, by omega⟩⟩ (by omega))
  clear hb hsz1 hr1
  go_enter Tryz.func51, Tryz.ntmps51
  have HD1 : Seal ((Tryz.prog.info? 26).map (·.size) = some ((sha tag.data.toList).map B).length) := ⟨sha_info _⟩
  have HD2 : Seal (((sha tag.data.toList).map B).length = 32) := ⟨by rw [List.length_map, sha_length]⟩
  have HD3 : Seal (∀ u ∈ (sha tag.data.toList).map B, u.oneCell' = true) := ⟨by simp [Value.oneCell']⟩
  obtain ⟨D, hD⟩ : ∃ D, Seal (D = (sha tag.data.toList).map B) := ⟨_, ⟨rfl⟩⟩
  rw [← hD.out] at HD1 HD2 HD3 HC1
  go_wp2_with fail
  refine HC1.out.mono ?_
  rintro e w2 ⟨rfl, hb2⟩
  have hs1 := HS1.out
  have hb0 : Below w.heap.size w w2 := (below_alloc w _).trans ((hW1.out.1.mono (by rw [size_alloc]; omega)).trans (hb2.mono (by omega)))
  have hz1 : W1.heap[w.heap.size]? = some (.cells #[.int .u8 0, .int .u8 0, .int .u8 0, .int .u8 0, .int .u8 0, .int .u8 0, .int .u8 0, .int .u8 0, .int .u8 0, .int .u8 0, .int .u8 0, .int .u8 0, .int .u8 0, .int .u8 0, .int .u8 0, .int .u8 0, .int .u8 0, .int .u8 0, .int .u8 0, .int .u8 0, .int .u8 0, .int .u8 0, .int .u8 0, .int .u8 0, .int .u8 0, .int .u8 0, .int .u8 0, .int .u8 0, .int .u8 0, .int .u8 0, .int .u8 0, .int .u8 0] 26 (0, 0)) := (hW1.out.1.block _ (by rw [size_alloc]; omega)).trans (heap_alloc_new w _)
  have hz2' : w2.heap[w.heap.size]? = some (.cells #[.int .u8 0, .int .u8 0, .int .u8 0, .int .u8 0, .int .u8 0, .int .u8 0, .int .u8 0, .int .u8 0, .int .u8 0, .int .u8 0, .int .u8 0, .int .u8 0, .int .u8 0, .int .u8 0, .int .u8 0, .int .u8 0, .int .u8 0, .int .u8 0, .int .u8 0, .int .u8 0, .int .u8 0, .int .u8 0, .int .u8 0, .int .u8 0, .int .u8 0, .int .u8 0, .int .u8 0, .int .u8 0, .int .u8 0, .int .u8 0, .int .u8 0, .int .u8 0] 26 (0, 0)) := (hb2.block _ (by omega)).trans hz1
  obtain ⟨Y, hY⟩ : ∃ Y : World, Seal (Y = w2.alloc (.cells D.toArray 26)) := ⟨_, ⟨rfl⟩⟩
  have hYb : Seal (Below w.heap.size w Y) := ⟨by rw [hY.out]; exact hb0.alloc hb0.size _⟩
  have hYz : Seal (Y.heap[w.heap.size]? = some (.cells #[.int .u8 0, .int .u8 0, .int .u8 0, .int .u8 0, .int .u8 0, .int .u8 0, .int .u8 0, .int .u8 0, .int .u8 0, .int .u8 0, .int .u8 0, .int .u8 0, .int .u8 0, .int .u8 0, .int .u8 0, .int .u8 0, .int .u8 0, .int .u8 0, .int .u8 0, .int .u8 0, .int .u8 0, .int .u8 0, .int .u8 0, .int .u8 0, .int .u8 0, .int .u8 0, .int .u8 0, .int .u8 0, .int .u8 0, .int .u8 0, .int .u8 0, .int .u8 0] 26 (0, 0))) := ⟨by rw [hY.out, Below.heap_alloc _ _ _ (Array.getElem?_eq_some_iff.1 hz2').1]; exact hz2'⟩
  have hYd : Seal (IsB Y (some ⟨w2.heap.size, 0, none⟩) 32 32 (sha tag.data.toList)) := ⟨by rw [hY.out, hD.out]; exact isB_new w2 _ 32 _ (0, 0) (sha_length _) (by decide)⟩
  have hS0 : Seal (Stg Y (Y.alloc (.cells #[] 5)) Y.heap.size 0 0 []) := ⟨stg_new Y [] 0 rfl (by decide)⟩
  have hI0 : Seal (IsB (Y.alloc (.cells #[] 5)) (some ⟨w2.heap.size, 0, none⟩) 32 32 (sha tag.data.toList)) := ⟨hYd.out.below (below_alloc _ _)⟩
  clear hz1 hz2' hb2 hb0 hs1 HC1 hrun hW1 HS1
  obtain ⟨E, hE⟩ : ∃ E : Array Value, Seal (E = ((sha (sha tag.data.toList ++ l)).map B).toArray) := ⟨_, ⟨rfl⟩⟩
  have HE1 : Seal ((Tryz.prog.info? 26).map (·.size) = some E.size) := ⟨by rw [hE.out, List.size_toArray]; exact sha_info _⟩
  have HE2 : Seal (E.size = 32) := ⟨by rw [hE.out, List.size_toArray, List.length_map, sha_length]⟩
  have HE3 : Seal (E.all (·.oneCell') = true) := ⟨by rw [hE.out]; simp [Value.oneCell']⟩
  go_wp2_with (first
    | (at_builtin; refine wpList_append_st rfl (.tmp 9) (.tmp 10) rfl Y Y.heap.size 0 0 [] (some ⟨w2.heap.size, 0, none⟩) 32 32 (sha tag.data.toList) rfl rfl hS0 hI0 (by omega) ?_
       intro g1 cap1 w3 hS3 _ _
       rw [Nat.zero_add] at hS3 ⊢
       rw [List.nil_append] at hS3
       have hI3 : Seal (IsB w3 a len cap l) := ⟨(HB.out.below hYb.out).below hS3.out.bel⟩
       clear hS0 hI0)
    | (at_builtin; refine wpList_append_st rfl (.tmp 11) (.tmp 12) rfl Y g1 32 cap1 (sha tag.data.toList) a len cap l rfl rfl hS3 hI3 (by omega) ?_
       intro g4 cap4 w4 hS4 _ _
       have hC4 : Seal _ := ⟨rsum_any (some ⟨g4, 0, none⟩) (32 + len) cap4 _ w4 (hS4.out.isB (by omega)) (by omega)⟩
       rw [← hE.out] at hC4
       have hB4 := Seal.mk (hYb.out.trans (hS4.out.bel.mono hYb.out.size))
       have hZ4 := Seal.mk ((hS4.out.bel.block _ (Array.getElem?_eq_some_iff.1 hYz.out).1).trans hYz.out)
       clear hS3 hI3 hS4)
    | (go_at_call 74; refine hC4.out.mono ?_; rintro e w5 ⟨rfl, hb5⟩
       have hZ5 := Seal.mk ((hb5.block _ (Array.getElem?_eq_some_iff.1 hZ4.out).1).trans hZ4.out)
       have hB5 := Seal.mk (hB4.out.trans (hb5.mono hB4.out.size))
       clear hb5)
    | (refine wpList_store_row rfl 26 (.tmp 4) (.tmp 14) rfl w.heap.size E rfl rfl 26 _ hZ5.out HE1.out HE2.out.symm HE3.out ?_)
    | (refine wpList_store_new rfl 26 (.tmp 5) (.tmp 8) rfl [.int .u8 0, .int .u8 0, .int .u8 0, .int .u8 0, .int .u8 0, .int .u8 0, .int .u8 0, .int .u8 0, .int .u8 0, .int .u8 0, .int .u8 0, .int .u8 0, .int .u8 0, .int .u8 0, .int .u8 0, .int .u8 0, .int .u8 0, .int .u8 0, .int .u8 0, .int .u8 0, .int .u8 0, .int .u8 0, .int .u8 0, .int .u8 0, .int .u8 0, .int .u8 0, .int .u8 0, .int .u8 0, .int .u8 0, .int .u8 0, .int .u8 0, .int .u8 0] D 26 rfl rfl HD1.out HD2.out.symm HD3.out ?_; rw [← hY.out]))
  refine bodyPost_ret (results_cell_row (fn := Tryz.f51) rfl _ _ w.heap.size 26 E (0, 0) _ rfl (setRow_heap _ _ _ _ _ _ hZ5.out) Tryz.underlying26 rfl HE1.out) rfl ⟨?_, below_row hB5.out (Nat.le_refl _) _⟩
  rw [hE.out]
  rfl

end Frk

/- The reference's sign: values, Hash. -/
namespace Frk
open Go Go.RowKit Go.Proofs
set_option maxRecDepth 100000

theorem rint_any (n : Int) (w : World) : Calls Tryz.prog 122 #[.int .i64 n] w fun e w' => e = .returned (.agg #[.int .i64 1, .int .i64 n, .string ByteArray.empty, .slice none 0 0]) ∧ Below w.heap.size w w' := by
  go_enter Tryz.func122, Tryz.ntmps122
  go_wp2
  refine bodyPost_ret (results_cell_row (fn := Tryz.f122) rfl _ _ w.heap.size 111 _ (0, 0) _ rfl (heap_alloc_new w _) Tryz.underlying111 rfl (by kernel_rfl)) rfl ⟨rfl, below_alloc _ _⟩

theorem IsB.drew {w : World} {a : Option Addr} {len cap : Nat} {l : Bytes} (h : IsB w a len cap l) : IsB w.drew a len cap l := ⟨h.llen, h.lcap, h.lmax, h.cmax, h.at_⟩

end Frk

/- A region in which an operation, number t, waits for all that reads: from it on nothing need hold. -/
namespace Frk
open Go Go.RowKit Go.Proofs
set_option maxRecDepth 100000

section
variable {P : Program} {ops : Array Oper} {Q : Exit → Act → World → Prop} {md : Region.Mode} {S : World → Prop} {t : Nat}

def wpAnyU (P : Program) (md : Region.Mode) (ops : Array Oper) (Q : Exit → Act → World → Prop) (S : World → Prop) (t : Nat) : Nat → Array Bool → Act → World → Prop
  | 0, listed, a, w => Region.ready md ops listed = [] ∧ Q .normal a w
  | fuel + 1, listed, a, w =>
    (Region.ready md ops listed = [] → Q .normal a w) ∧
    ∀ i ∈ Region.ready md ops listed, wpOp P ops Q i (fun a' w' => ((listed.setIfInBounds i true).getD t true = false → S w') ∧ wpAnyU P md ops Q S t fuel (listed.setIfInBounds i true) a' w') a w

end

section
variable {P : Program} {md : Region.Mode} {ops : Array Oper} {Q : Exit → Act → World → Prop} {S : World → Prop} {t : Nat} {dst : Option Tmp} {op : Op} {ty : TypeId} {pos : String} {after : Array Edge} {guard : Option (Nat × Bool)}

end

section
variable {P : Program} {md : Region.Mode} {ops : Array Oper} {Q : Exit → Act → World → Prop} {S S' : World → Prop} {t : Nat} {dst : Option Tmp} {op : Op} {ty : TypeId} {pos : String} {after : Array Edge} {guard : Option (Nat × Bool)}

end

/-- the cells of values, one behind the other -/
def lcs (ls : List Lf) : List Value := ls.flatMap Lf.cells
theorem lcs_len : ∀ ls : List Lf, (lcs ls).length = ls.length * 4
  | [] => rfl
  | x :: ls => by
    have := lcs_len ls
    unfold lcs at this ⊢
    rw [List.flatMap_cons, List.length_append, this, List.length_cons]
    cases x <;> simp [Lf.cells] <;> omega
theorem lcs_snoc (ls : List Lf) (x : Lf) : lcs (ls ++ [x]) = lcs ls ++ x.cells := by unfold lcs; simp

theorem ownsRow_set1 {w : World} {base : Nat} {e : TypeId} {size n g cap i : Nat} {xs : List Value} (u : Value) (h : w.ownsRow base e size (.slice (some ⟨g, 0, none⟩) n cap) n xs) (_hi : i < xs.length) :
    (w.setCell ⟨g, i, none⟩ u).ownsRow base e size (.slice (some ⟨g, 0, none⟩) n cap) n (xs.set i u) := by
  refine ⟨by rw [List.length_set]; exact h.1, .inr ?_⟩
  rcases h.2 with ⟨h0, _⟩ | ⟨g', cap', cur, hv, hb, hg, h1, h2, h3, h4⟩
  · cases h0
  · cases hv
    have hr := heap_setCell_row (cs := cur.toList) (i := i) u (by simpa using hg)
    refine ⟨g, cap, (cur.toList.set i u).toArray, rfl, hb, hr, h1, h2, by simpa using h3, ?_⟩
    simp only [List.take_set, h4]

theorem set_at {α : Type} (l r : List α) (k m : Nat) (v : α) (hk : l.length = k) (_hm : m < r.length) : (l ++ r).set (k + m) v = l ++ r.set m v := by
  rw [List.set_append_right _ _ (by omega)]; congr 2; omega

/-- the four cells of a value, stored -/
def set4 (w : World) (g k : Nat) (a b c d : Value) : World := (((w.setCell ⟨g, k, none⟩ a).setCell ⟨g, k + 1, none⟩ b).setCell ⟨g, k + 2, none⟩ c).setCell ⟨g, k + 3, none⟩ d

theorem ownsRow_set4 {w : World} {base : Nat} {e : TypeId} {n g cap k : Nat} {xs : List Value} {z0 z1 z2 z3 : Value} (a b c d : Value) (h : w.ownsRow base e 4 (.slice (some ⟨g, 0, none⟩) n cap) n (xs ++ [z0, z1, z2, z3])) (hk : xs.length = k) :
    (set4 w g k a b c d).ownsRow base e 4 (.slice (some ⟨g, 0, none⟩) n cap) n (xs ++ [a, b, c, d]) := by
  have h0 := ownsRow_set1 (i := k) a h (by simp [hk])
  have e0 := set_at xs [z0, z1, z2, z3] k 0 a hk (by simp)
  rw [Nat.add_zero] at e0
  rw [e0] at h0
  have h1 := ownsRow_set1 (i := k + 1) b h0 (by simp [hk])
  rw [set_at xs _ k 1 b hk (by simp)] at h1
  have h2 := ownsRow_set1 (i := k + 2) c h1 (by simp [hk])
  rw [set_at xs _ k 2 c hk (by simp)] at h2
  have h3 := ownsRow_set1 (i := k + 3) d h2 (by simp [hk])
  rw [set_at xs _ k 3 d hk (by simp)] at h3
  exact h3

theorem set4_block (w : World) (g k j : Nat) (a b c d : Value) (h : j ≠ g) : (set4 w g k a b c d).heap[j]? = w.heap[j]? := by
  unfold set4
  exact (Below.heap_setCell _ _ _ j h).trans ((Below.heap_setCell _ _ _ j h).trans ((Below.heap_setCell _ _ _ j h).trans (Below.heap_setCell _ _ _ j h)))
theorem set4_below {w0 w : World} {B g : Nat} (h : Below B w0 w) (hg : B ≤ g) (k : Nat) (a b c d : Value) : Below B w0 (set4 w g k a b c d) := by
  unfold set4
  exact (((h.setCell (p := ⟨g, k, none⟩) hg _).setCell (p := ⟨g, k + 1, none⟩) hg _).setCell (p := ⟨g, k + 2, none⟩) hg _).setCell (p := ⟨g, k + 3, none⟩) hg _

/-- a list value that grows in block B -/
structure VL (B : Nat) (w0 : World) (ls : List Lf) (v : Value) (w : World) : Prop where
  row : w.heap[B]? = some (.cells #[.int .i64 3, .int .i64 0, .string ByteArray.empty, v] 111 (0, 0))
  own : w.ownsRow (B + 1) 111 4 v ls.length (lcs ls)
  bel : Below B w0 w

theorem VL.ne {B : Nat} {w0 : World} {ls : List Lf} {v : Value} {w : World} (h : VL B w0 ls v w) : some B ≠ v.ownBlock := fun e => by have := (h.own.lt _ e.symm).1; omega
theorem VL.drew {B : Nat} {w0 : World} {ls : List Lf} {v : Value} {w : World} (h : VL B w0 ls v w) : VL B w0 ls v w.drew :=
  ⟨h.row, ⟨h.own.1, h.own.2⟩, ⟨h.bel.os, h.bel.tape, h.bel.output, h.bel.size, h.bel.block⟩⟩

theorem VL.form {B : Nat} {w0 : World} {ls : List Lf} {v : Value} {w : World} (h : VL B w0 ls v w) : ∃ a cap, v = .slice a ls.length cap := by
  rcases h.own.2 with ⟨rfl, h0⟩ | ⟨g, cap, _, rfl, _⟩
  · exact ⟨none, 0, by rw [h0]⟩
  · exact ⟨_, cap, rfl⟩

/-- the world behind an append of one value, in either order of the stores -/
theorem VL.next {B : Nat} {w0 w w1 : World} {ls : List Lf} {v z0 z1 z2 z3 : Value} {o : Obj} {g1 cap1 : Nat} {x : Lf} {a b c d : Value} (h : VL B w0 ls v w) (hBw : B < w.heap.size)
    (hg : (w.alloc o).grownBy w1 v.ownBlock) (hown : w1.ownsRow (B + 1) 111 4 (.slice (some ⟨g1, 0, none⟩) (ls.length + 1) cap1) (ls.length + 1) (lcs ls ++ [z0, z1, z2, z3])) (hx : x.cells = [a, b, c, d]) :
    VL B w0 (ls ++ [x]) (.slice (some ⟨g1, 0, none⟩) (ls.length + 1) cap1) ((set4 w1 g1 (ls.length * 4) a b c d).setCell ⟨B, 3, none⟩ (.slice (some ⟨g1, 0, none⟩) (ls.length + 1) cap1)) ∧
    VL B w0 (ls ++ [x]) (.slice (some ⟨g1, 0, none⟩) (ls.length + 1) cap1) (set4 (w1.setCell ⟨B, 3, none⟩ (.slice (some ⟨g1, 0, none⟩) (ls.length + 1) cap1)) g1 (ls.length * 4) a b c d) := by
  have hr1 : w1.heap[B]? = some (.cells #[.int .i64 3, .int .i64 0, .string ByteArray.empty, v] 111 (0, 0)) := (hg.block _ (by rw [size_alloc]; omega) h.ne).trans ((Below.heap_alloc w _ _ hBw).trans h.row)
  have hb1 : Below B w0 w1 := by
    have h1 : Below B (w.alloc o) w1 := ⟨hg.os, hg.tape, hg.output, hg.size, fun k hk => hg.block k (by rw [size_alloc]; omega) (fun e => by have := (h.own.lt k e.symm).1; omega)⟩
    exact (h.bel.alloc (by omega) o).trans h1
  have hgB : B + 1 ≤ g1 := (hown.lt g1 rfl).1
  have hne : B ≠ g1 := by omega
  have hlen : (ls ++ [x]).length = ls.length + 1 := by simp
  have hkeep : ∀ (W : World) (ys : List Value), W.ownsRow (B + 1) 111 4 (.slice (some ⟨g1, 0, none⟩) (ls.length + 1) cap1) (ls.length + 1) ys → (W.setCell ⟨B, 3, none⟩ (.slice (some ⟨g1, 0, none⟩) (ls.length + 1) cap1)).ownsRow (B + 1) 111 4 (.slice (some ⟨g1, 0, none⟩) (ls.length + 1) cap1) (ls.length + 1) ys := fun W ys hW =>
    hW.kept (row := some B) (grown_setCell (grown_of_below (Below.refl _ W) _) _ _) (.inr fun e => hne (by simpa [Value.ownBlock] using e.symm))
  constructor
  · refine ⟨?_, ?_, ?_⟩
    · exact heap_setCell_row (cs := [.int .i64 3, .int .i64 0, .string ByteArray.empty, v]) _ ((set4_block w1 g1 _ B a b c d hne).trans hr1)
    · rw [hlen, lcs_snoc, hx]
      exact hkeep _ _ (ownsRow_set4 a b c d hown (lcs_len ls))
    · exact (set4_below hb1 (by omega) _ a b c d).setCell (p := ⟨B, 3, none⟩) (Nat.le_refl _) _
  · refine ⟨?_, ?_, ?_⟩
    · exact (set4_block _ g1 _ B a b c d hne).trans (heap_setCell_row (cs := [.int .i64 3, .int .i64 0, .string ByteArray.empty, v]) _ hr1)
    · rw [hlen, lcs_snoc, hx]
      exact ownsRow_set4 a b c d (hkeep _ _ hown) (lcs_len ls)
    · exact set4_below (hb1.setCell (p := ⟨B, 3, none⟩) (Nat.le_refl _) _) (by omega) _ a b c d

/-- the integers behind which the loop stands -/
def HtxRel (B g off k : Nat) (ns : List Int) (ls : List Lf) (w0 : World) (i : Value) (w : World) : Prop :=
  ∃ (j : Nat) (v : Value), j ≤ k ∧ i = .int .i64 j ∧ Seal (VL B w0 (ls ++ lfs (ns.take j)) v w ∧ B < w.heap.size) ∧ Seal (v.ownBlock ≠ some g ∧ g < w.heap.size ∧ ∀ j n, ns[j]? = some n → w.cell? ⟨g, off + j, none⟩ = some (.int .i64 n))


/-- what text is called with -/
inductive HA where
  | i (n : Int)
  | r (a b c : Int)
  | ci (a b : Int)
  | t (T : Bytes)
def HA.lfs : HA → List Lf
  | .i n => [.i n]
  | .r a b c => [.i a, .i b, .i c]
  | .ci a b => [.i a, .i b]
  | .t T => [.t T]
def HA.ok : HA → Prop
  | .t T => T.length = 32
  | _ => True

theorem VL.alloc {B : Nat} {w0 : World} {ls : List Lf} {v : Value} {w : World} (h : VL B w0 ls v w) (hB : B < w.heap.size) (o : Obj) : VL B w0 ls v (w.alloc o) :=
  ⟨(Below.heap_alloc w _ _ hB).trans h.row, h.own.alloc _, h.bel.alloc (by omega) _⟩

def HtyRel (xs : List HA) (w0 : World) (i : Value) (w : World) : Prop :=
  ∃ (j : Nat) (v : Value), j ≤ xs.length ∧ i = .int .i64 j ∧ Seal (VL w0.heap.size w0 ((xs.take j).flatMap HA.lfs) v w ∧ w0.heap.size < w.heap.size)

end Frk

