/- Law 57: sane. -/
import Derived.Test.YtllbjakfjpjfnaaGreatDoorVxgDio
import Derived.Test.YtllbjakfjpjfnaaGreatDoorVxRpf
import Derived.Test.YtllbjakfjpjfnaaGreatDoorVxgEqd
namespace Frk
open Go Go.RowKit Go.Proofs
set_option maxRecDepth 100000

/-- an append of a whole value -/
theorem VL.put {B : Nat} {w0 w w1 : World} {ls : List Lf} {v : Value} {o : Obj} {g1 cap1 : Nat} {x : Lf} (h : VL B w0 ls v w) (hBw : B < w.heap.size)
    (hg : (w.alloc o).grownBy w1 v.ownBlock) (hown : w1.ownsRow (B + 1) 51 4 (.slice (some ⟨g1, 0, none⟩) (ls.length + 1) cap1) (ls.length + 1) (lcs ls ++ x.cells)) :
    VL B w0 (ls ++ [x]) (.slice (some ⟨g1, 0, none⟩) (ls.length + 1) cap1) (w1.setCell ⟨B, 3, none⟩ (.slice (some ⟨g1, 0, none⟩) (ls.length + 1) cap1)) ∧ w1.heap[B]? = some (.cells #[.int .i64 3, .int .i64 0, .string ByteArray.empty, v] 51 (0, 0)) := by
  have hr1 : w1.heap[B]? = some (.cells #[.int .i64 3, .int .i64 0, .string ByteArray.empty, v] 51 (0, 0)) := (hg.block _ (by rw [size_alloc]; omega) h.ne).trans ((Below.heap_alloc w _ _ hBw).trans h.row)
  have hb1 : Below B w0 w1 := by
    have h1 : Below B (w.alloc o) w1 := ⟨hg.os, hg.tape, hg.output, hg.size, fun k hk => hg.block k (by rw [size_alloc]; omega) (fun e => by have := (h.own.lt k e.symm).1; omega)⟩
    exact (h.bel.alloc (Nat.le_of_lt hBw) o).trans h1
  refine ⟨⟨by simpa using heap_setCell_row (cs := [.int .i64 3, .int .i64 0, .string ByteArray.empty, v]) (i := 3) _ hr1, ?_, hb1.setCell (p := ⟨B, 3, none⟩) (Nat.le_refl _) _⟩, hr1⟩
  have e : lcs (ls ++ [x]) = lcs ls ++ x.cells := by unfold lcs; simp
  rw [List.length_append, e]
  refine hown.kept (row := some B) (grown_setCell (grown_of_below (Below.refl _ w1) _) _ _) (.inr ?_)
  intro e
  have := (hown.lt _ e).1
  omega

/-- what lies when the example has been made -/
structure SvS (w0 : World) (gE gO gF gK gx : Nat) (vJ : Value) (W : World) : Prop where
  bel : Below w0.heap.size w0 W
  E : IsE W (some ⟨gE, 0, none⟩) 3 3 exE
  O : IsIs W (some ⟨gO, 0, none⟩) 2 2 [0, 3]
  F : IsL W (some ⟨gF, 0, none⟩) 2 2 exC.F
  K : IsIs W (some ⟨gK, 0, none⟩) 2 2 exC.K
  x : W.heap[gx]? = some (.cells (exX gF gK vJ).C.toArray 35 (0, 0))
  lt : gE < gx ∧ gO < gx ∧ gF < gx ∧ gK < gx
  le : w0.heap.size ≤ gx
theorem SvS.step {w0 : World} {gE gO gF gK gx : Nat} {vJ : Value} {W W' : World} (h : SvS w0 gE gO gF gK gx vJ W) (hb : Below W.heap.size W W') : SvS w0 gE gO gF gK gx vJ W' :=
  ⟨h.bel.trans (hb.mono h.bel.size), h.E.below hb, h.O.below hb, h.F.of_heap hb, h.K.below hb, (hb.block _ (Array.getElem?_eq_some_iff.1 h.x).1).trans h.x, h.lt, h.le⟩
theorem isC_lt {α : Type} {C : α → List Value} {z : Nat} {w : World} {g n c : Nat} {l : List α} (h : IsC C z w (some ⟨g, 0, none⟩) n c l) (hn : 0 < n) : g < w.heap.size := by
  rcases h.at_ with h0 | ⟨g', o, e, _, hg⟩
  · omega
  · cases e; exact hg
theorem isL_lt {w : World} {g n c : Nat} {l : List (List Int)} (h : IsL w (some ⟨g, 0, none⟩) n c l) (hn : 0 < n) : g < w.heap.size := by
  rcases h.at_ with h0 | ⟨g', o, e, _, hg⟩
  · omega
  · cases e; exact hg
theorem isC_blk {α : Type} {C : α → List Value} {z : Nat} {w w' : World} {g n c : Nat} {l : List α} (h : IsC C z w (some ⟨g, 0, none⟩) n c l) (hb : w'.heap[g]? = w.heap[g]?) : IsC C z w' (some ⟨g, 0, none⟩) n c l := by
  refine ⟨h.llen, h.lcap, h.lmax, h.cmax, h.each, ?_⟩
  rcases h.at_ with h0 | ⟨g', o, e, hr, hg⟩
  · exact .inl h0
  · cases e
    refine .inr ⟨g, 0, rfl, fun j u hu => (World.cell?_of_block (w := w) hb).trans (hr j u hu), ?_⟩
    rw [Array.getElem?_eq_getElem hg] at hb
    exact (Array.getElem?_eq_some_iff.1 hb).1
theorem isL_blk {w w' : World} {g n c : Nat} {l : List (List Int)} (h : IsL w (some ⟨g, 0, none⟩) n c l) (hb : w'.heap[g]? = w.heap[g]?) : IsL w' (some ⟨g, 0, none⟩) n c l := by
  refine ⟨h.llen, h.lcap, h.lmax, h.cmax, h.each, ?_⟩
  rcases h.at_ with h0 | ⟨g', o, e, hr, hg⟩
  · exact .inl h0
  · cases e
    refine .inr ⟨g, 0, rfl, fun j u hu => (World.cell?_of_block (w := w) hb).trans (hr j u hu), ?_⟩
    rw [Array.getElem?_eq_getElem hg] at hb
    exact (Array.getElem?_eq_some_iff.1 hb).1
theorem SvS.jobs {w0 : World} {gE gO gF gK gx : Nat} {vJ : Value} {W : World} (h : SvS w0 gE gO gF gK gx vJ W) (v : Value) : SvS w0 gE gO gF gK gx v (W.setCell ⟨gx, 5, none⟩ v) := by
  obtain ⟨l1, l2, l3, l4⟩ := h.lt
  have ho : ∀ k, k ≠ gx → (W.setCell ⟨gx, 5, none⟩ v).heap[k]? = W.heap[k]? := fun k hk => Below.heap_setCell W ⟨gx, 5, none⟩ v k hk
  refine ⟨h.bel.setCell (p := ⟨gx, 5, none⟩) h.le _, isC_blk h.E (ho _ (by omega)), isC_blk h.O (ho _ (by omega)), isL_blk h.F (ho _ (by omega)), isC_blk h.K (ho _ (by omega)), ?_, h.lt, h.le⟩
  have h2 := heap_setCell_row (cs := (exX gF gK vJ).C) (i := 5) v h.x
  simpa [CaX.C, exX] using h2
def jobZ : List Value := [.slice none 0 0, .slice none 0 0, .slice none 0 0, .slice none 0 0, .slice none 0 0, .slice none 0 0, .slice none 0 0, .int .i64 0, .int .i64 0, .int .i64 0, .int .i64 0, .int .i64 0, .int .i64 0, .int .i64 0, .int .u8 0, .int .u8 0, .int .u8 0, .int .u8 0, .int .u8 0, .int .u8 0, .int .u8 0, .int .u8 0, .int .u8 0, .int .u8 0, .int .u8 0, .int .u8 0, .int .u8 0, .int .u8 0, .int .u8 0, .int .u8 0, .int .u8 0, .int .u8 0, .int .u8 0, .int .u8 0, .int .u8 0, .int .u8 0, .int .u8 0, .int .u8 0, .int .u8 0, .int .u8 0, .int .u8 0, .int .u8 0, .int .u8 0, .int .u8 0, .int .u8 0, .int .u8 0, .int .i64 0, .int .i64 0, .int .i64 0]
def jobZ2 : Array Value := (jobZ ++ jobZ).toArray
theorem make_jobs (w : World) : (Instr.makeSlice 28 (.int .i64 2) (.int .i64 2)).run Tryz.prog w = .ok (.slice (some ⟨w.heap.size, 0, none⟩) 2 2) (w.alloc (.cells jobZ2 184)) := by kernel_rfl
def exLf : List Lf := [.i 1, .i 10, .i 20, .i 0, .i 7, .i 8, .i 9]
def exNs : List Int := [1, 10, 20, 0, 7, 8, 9]
/-- the loop that puts the numbers into the list -/
def SvRel (B : Nat) (w0 : World) (gi : Nat) (i : Value) (w : World) : Prop :=
  ∃ (j : Nat) (v : Value), j ≤ 7 ∧ i = .int .i64 j ∧ Seal (VL B w0 (exLf.take j) v w ∧ B < w.heap.size) ∧ Seal (v.ownBlock ≠ some gi ∧ gi < w.heap.size ∧ ∀ j n, exNs[j]? = some n → w.cell? ⟨gi, j, none⟩ = some (.int .i64 n))

/-- the table of the examples -/
def exTab : List (Int × Int × Int) := [(30, 0, 0), (35, 5, 0), (36, 5, 570), (29, 5, 570), (49, 100, 0), (50, 100, 570), (-1, 0, 1), (30, -1, 1)]
def tabC (l : List (Int × Int × Int)) : List Value := l.flatMap fun r => [.int .i64 r.1, .int .i64 r.2.1, .int .i64 r.2.2]
theorem tabC_at : ∀ (l : List (Int × Int × Int)) (j : Nat) (r : Int × Int × Int), l[j]? = some r → ∀ (i : Nat) (v : Value), [Value.int .i64 r.1, .int .i64 r.2.1, .int .i64 r.2.2][i]? = some v → (tabC l)[j * 3 + i]? = some v
  | x :: l, 0, r, h, i, v, hv => by
    cases h
    unfold tabC
    rw [List.flatMap_cons, Nat.zero_mul, Nat.zero_add, List.getElem?_append_left (by obtain ⟨h, _⟩ := List.getElem?_eq_some_iff.1 hv; simpa using h)]
    exact hv
  | x :: l, j + 1, r, h, i, v, hv => by
    unfold tabC
    rw [List.flatMap_cons, List.getElem?_append_right (by show 3 ≤ _; omega), show (j + 1) * 3 + i - [Value.int .i64 x.1, .int .i64 x.2.1, .int .i64 x.2.2].length = j * 3 + i from by show (j + 1) * 3 + i - 3 = _; omega]
    exact tabC_at l j r h i v hv
theorem exTab_adm : ∀ r ∈ exTab, admE exE [0, 3] [] exC r.1 r.2.1 = r.2.2 := by decide +kernel
def RvRel (w0 : World) (i : Value) (w : World) : Prop := ∃ j : Nat, j ≤ 8 ∧ i = .int .i64 j ∧ Seal (Below w0.heap.size w0 w)
theorem exX_ok (gF gK : Nat) (vJ : Value) (h : vJ.oneCell' = true) : (exX gF gK vJ).ok := ⟨(⟨by decide, by decide⟩ : I64 1), (⟨by decide, by decide⟩ : I64 10), (⟨by decide, by decide⟩ : I64 20), (⟨by decide, by decide⟩ : I64 0), (⟨by decide, by decide⟩ : I64 7), (⟨by decide, by decide⟩ : I64 8), (⟨by decide, by decide⟩ : I64 9), (⟨by decide, by decide⟩ : I64 30), h, rfl, rfl, rfl, rfl⟩
def exA (gE gO gF gK : Nat) (vJ : Value) (n t : Int) : AdA := { aE := some ⟨gE, 0, none⟩, nE := 3, cE := 3, l := exE, aO := some ⟨gO, 0, none⟩, nO := 2, cO := 2, off := [0, 3], aP := none, nP := 0, cP := 0, past := [], x := exX gF gK vJ, now := n, term := t }

theorem newD (W : World) (L : List Bytes) (n : Nat) (hL : ∀ d ∈ L, d.length = 32) (hn : L.length = n) (h5 : n ≤ 5000) (C : List Value) (hC : dcells L = C) : IsD (W.alloc (.cells C.toArray 42)) (some ⟨W.heap.size, 0, none⟩) n n L := by
  have h := heap_alloc_new W (.cells C.toArray 42)
  exact ⟨hn, Nat.le_refl _, by omega, by omega, hL, .inr ⟨_, 0, rfl, by rw [hC]; exact rangeAt_row h, (Array.getElem?_eq_some_iff.1 h).1⟩⟩
theorem isE_tail {W : World} {g : Nat} {a b c : Ep} (h : IsE W (some ⟨g, 0, none⟩) 3 3 [a, b, c]) : IsE W (some ⟨g, 3, none⟩) 2 2 [b, c] := by
  refine ⟨rfl, Nat.le_refl _, by decide, by decide, fun x _ => rfl, ?_⟩
  rcases h.at_ with h0 | ⟨g', o, e, hr, hg⟩
  · omega
  · cases e
    have h1 := rangeAt_drop hr 3
    exact .inr ⟨g, 3, rfl, by simpa [Ep.C] using h1, hg⟩
theorem isE_nil (w : World) : IsE w none 0 0 [] := ⟨rfl, Nat.le_refl _, by decide, by decide, by simp, .inl rfl⟩
theorem isIs_nilF (w : World) : IsIs w none 0 0 [] := ⟨rfl, Nat.le_refl _, by decide, by decide, by simp, .inl rfl⟩
theorem isL_nilF (w : World) : IsL w none 0 0 [] := ⟨rfl, Nat.le_refl _, by decide, by decide, by simp, .inl rfl⟩
/-- Admit of the example -/
theorem exAdm {w0 : World} {gE gO gF gK gx : Nat} {vJ : Value} {W : World} (hG : Glob W) (h : SvS w0 gE gO gF gK gx vJ W) (ho : vJ.oneCell' = true) {aE aO aP : Option Addr} {nE cE nO cO nP cP : Nat} {l : List Ep} {off : List Int} {past : List Bytes} (hE : IsE W aE nE cE l) (hO : IsIs W aO nO cO off) (hP : IsD W aP nP cP past) (h4 : nP ≤ 4000) (n t : Int) :
    Calls Tryz.prog 6 #[.slice aE nE cE, .slice aO nO cO, .slice aP nP cP, .agg (exX gF gK vJ).C.toArray, .int .i64 n, .int .i64 t] W (FdPost (admL l off past exC n t) (admE l off past exC n t) W) :=
  fadmit_any { aE := aE, nE := nE, cE := cE, l := l, aO := aO, nO := nO, cO := cO, off := off, aP := aP, nP := nP, cP := cP, past := past, x := exX gF gK vJ, now := n, term := t } W ⟨hG, hE, hO, hP, h.F, h.K, show 2 ≤ 100 by decide, h4, exX_ok _ _ _ ho⟩
theorem noX_ok : noX.ok := ⟨(⟨by decide, by decide⟩ : I64 0), (⟨by decide, by decide⟩ : I64 0), (⟨by decide, by decide⟩ : I64 0), (⟨by decide, by decide⟩ : I64 0), (⟨by decide, by decide⟩ : I64 0), (⟨by decide, by decide⟩ : I64 0), (⟨by decide, by decide⟩ : I64 0), (⟨by decide, by decide⟩ : I64 0), rfl, rfl, rfl, rfl, rfl⟩
theorem noAdm {W : World} (hG : Glob W) {aE aO : Option Addr} {nE cE nO cO : Nat} {l : List Ep} {off : List Int} (hE : IsE W aE nE cE l) (hO : IsIs W aO nO cO off) (n t : Int) :
    Calls Tryz.prog 6 #[.slice aE nE cE, .slice aO nO cO, .slice none 0 0, .agg noX.C.toArray, .int .i64 n, .int .i64 t] W (FdPost (admL l off [] noC n t) (admE l off [] noC n t) W) :=
  fadmit_any { aE := aE, nE := nE, cE := cE, l := l, aO := aO, nO := nO, cO := cO, off := off, aP := none, nP := 0, cP := 0, past := [], x := noX, now := n, term := t } W ⟨hG, hE, hO, isD_nilF W, isL_nilF W, isIs_nilF W, show 0 ≤ 100 by decide, show 0 ≤ 4000 by decide, noX_ok⟩
theorem epChk_exE : epChk exE = 0 := by decide +kernel
theorem formB_exC : formB [0, 3] exC = true := by decide +kernel
theorem sv1 (d : Bytes) (hd : caseD exC = d) : admE exE [0, 3] [d] exC 30 5 = 181 := adm_3 epChk_exE rfl formB_exC (by rw [hd]; simp [hasB])
theorem sv2 : admE [] [0, 3] [] exC 30 0 = 570 := by decide +kernel
theorem sv3 : admE [] [] [] exC 0 0 = 560 := by decide +kernel
theorem blt_selfF (d : Bytes) : blt d d = false := by
  cases h : blt d d with
  | false => rfl
  | true => exact absurd h (by simp [blt_irrefl])
theorem sv4 (d : Bytes) : admE exE [0, 3] [d, d] exC 30 5 = 1 := adm_1 epChk_exE (by
  unfold argB
  rw [show usedB [d, d] = false from by unfold usedB; rw [blt_selfF]; rfl]
  simp)
theorem sv5 : admE [⟨3, 5, 16⟩, ⟨3, 50, 64⟩] [0, 3] [] noC 30 5 = 560 := by decide +kernel

set_option maxHeartbeats 8000000 in
theorem fsane_any (w : World) (hG : Glob w) : Calls Tryz.prog 4 #[] w fun e w' => e = .returned (.bool true) ∧ Below w.heap.size w w' := by
  have HG : Seal (∀ W, Below w.heap.size w W → Glob W) := ⟨fun W h => hG.below h⟩
  obtain ⟨i0, hi, hz0, hz1, hz2⟩ := info_parts info_val
  have HI := Seal.mk (And.intro hi (And.intro hz0 (And.intro hz1 hz2)))
  clear hG hi hz0 hz1 hz2
  go_enter Tryz.func4, Tryz.ntmps4
  go_wp2_with fail
  refine (fcomplaint_any w).mono ?_
  rintro e w1 ⟨gE, gO, gF, gK, rfl, HK, hb1⟩
  rw [exC_val]
  obtain ⟨X1, hX1⟩ : ∃ X, X = w1.alloc (.cells (exX gF gK (.slice none 0 0)).C.toArray 35) := ⟨_, rfl⟩
  obtain ⟨gx, hgx⟩ : ∃ g, g = w1.heap.size := ⟨_, rfl⟩
  have HS : Seal (SvS w gE gO gF gK gx (.slice none 0 0) X1) := ⟨by
    have hb : Below w1.heap.size w1 X1 := by rw [hX1]; exact below_alloc _ _
    refine ⟨hb1.trans (hb.mono hb1.size), HK.out.1.below hb, HK.out.2.1.below hb, HK.out.2.2.1.of_heap hb, HK.out.2.2.2.below hb, ?_, ?_, by rw [hgx]; exact hb1.size⟩
    · rw [hX1, hgx]; exact heap_alloc_new w1 _
    · rw [hgx]; exact ⟨isC_lt HK.out.1 (by decide), isC_lt HK.out.2.1 (by decide), isL_lt HK.out.2.2.1 (by decide), isC_lt HK.out.2.2.2 (by decide)⟩⟩
  rw [exC_val] at hX1
  clear HK hb1
  go_wp2_with fail
  rw [← hX1, ← hgx]
  clear hX1 hgx
  refine (hroot_any (some ⟨gF, 0, none⟩) 2 2 exC.F X1 (HG.out _ HS.out.bel) HS.out.F (by decide)).mono ?_
  rintro e w2 ⟨rfl, hb⟩
  have HS := Seal.mk (HS.out.step hb)
  obtain ⟨RT, hRT⟩ : ∃ R, R = rootB (exC.F.map txL) := ⟨_, rfl⟩
  rw [← hRT]
  obtain ⟨TC, hTC⟩ : ∃ C, C = RT.map B := ⟨_, rfl⟩
  have h32 : RT.length = 32 := by rw [hRT]; exact rootB_len _
  have cT : TC.length = 32 := by rw [hTC, List.length_map, h32]
  have IT : Seal ((Tryz.prog.info? 42).map (·.size) = some TC.length) := ⟨by rw [cT]; kernel_rfl⟩
  have LT : Seal ((([.int .u8 0, .int .u8 0, .int .u8 0, .int .u8 0, .int .u8 0, .int .u8 0, .int .u8 0, .int .u8 0, .int .u8 0, .int .u8 0, .int .u8 0, .int .u8 0, .int .u8 0, .int .u8 0, .int .u8 0, .int .u8 0, .int .u8 0, .int .u8 0, .int .u8 0, .int .u8 0, .int .u8 0, .int .u8 0, .int .u8 0, .int .u8 0, .int .u8 0, .int .u8 0, .int .u8 0, .int .u8 0, .int .u8 0, .int .u8 0, .int .u8 0, .int .u8 0] : List Value)).length = TC.length) := ⟨by rw [cT]; rfl⟩
  have OT : Seal (∀ u ∈ TC, u.oneCell' = true) := ⟨by rw [hTC]; intro u hu; obtain ⟨b, _, rfl⟩ := List.mem_map.1 hu; rfl⟩
  obtain ⟨X2, hX2⟩ : ∃ X, X = w2.alloc (.cells TC.toArray 42) := ⟨_, rfl⟩
  obtain ⟨g4, hg4⟩ : ∃ g, g = w2.heap.size := ⟨_, rfl⟩
  have HS := Seal.mk (HS.out.step (W' := X2) (by rw [hX2]; exact below_alloc _ _))
  have HT : Seal (X2.heap[g4]? = some (.cells TC.toArray 42 (0, 0))) := ⟨by rw [hX2, hg4]; exact heap_alloc_new w2 _⟩
  rw [← hTC]
  have HTC := Seal.mk (And.intro hTC (And.intro hRT h32))
  clear hTC hRT cT h32 hb
  go_wp2_with (refine wpList_store_new rfl 42 (.tmp 4) (.tmp 32) rfl ([.int .u8 0, .int .u8 0, .int .u8 0, .int .u8 0, .int .u8 0, .int .u8 0, .int .u8 0, .int .u8 0, .int .u8 0, .int .u8 0, .int .u8 0, .int .u8 0, .int .u8 0, .int .u8 0, .int .u8 0, .int .u8 0, .int .u8 0, .int .u8 0, .int .u8 0, .int .u8 0, .int .u8 0, .int .u8 0, .int .u8 0, .int .u8 0, .int .u8 0, .int .u8 0, .int .u8 0, .int .u8 0, .int .u8 0, .int .u8 0, .int .u8 0, .int .u8 0] : List Value) TC 42 rfl rfl IT.out LT.out OT.out ?_)
  rw [← hX2]
  rw [← hg4]
  obtain ⟨g5, hg5⟩ : ∃ g, g = X2.heap.size := ⟨_, rfl⟩
  obtain ⟨X3, hX3⟩ : ∃ X, X = X2.alloc (.cells #[.int .i64 3, .int .i64 0, .string ByteArray.empty, .slice none 0 0] 51) := ⟨_, rfl⟩
  obtain ⟨X4, hX4⟩ : ∃ X, X = X3.alloc (.cells #[.int .i64 1, .int .i64 10, .int .i64 20, .int .i64 0, .int .i64 7, .int .i64 8, .int .i64 9] 3) := ⟨_, rfl⟩
  have s3 : X3.heap.size = g5 + 1 := by rw [hX3, size_alloc, hg5]
  have s4 : X4.heap.size = g5 + 2 := by rw [hX4, size_alloc, s3]
  have HV : Seal (VL g5 X2 (exLf.take 0) (.slice none 0 0) X4 ∧ g5 < X4.heap.size) := ⟨by
    have h3 : VL g5 X2 [] (.slice none 0 0) X3 := by rw [hX3, hg5]; exact ⟨heap_alloc_new X2 _, World.ownsRow_nil _ _ _ _, below_alloc _ _⟩
    refine ⟨?_, by omega⟩
    rw [hX4]; exact h3.alloc (by omega) _⟩
  have HN : Seal ((Value.slice none 0 0).ownBlock ≠ some (g5 + 1) ∧ g5 + 1 < X4.heap.size ∧ ∀ (j : Nat) (n : Int), exNs[j]? = some n → X4.cell? ⟨g5 + 1, j, none⟩ = some (.int .i64 n)) := ⟨by
    refine ⟨fun e => by simp [Value.ownBlock] at e, by omega, fun j n hj => ?_⟩
    have h : X4.heap[g5 + 1]? = some (.cells #[.int .i64 1, .int .i64 10, .int .i64 20, .int .i64 0, .int .i64 7, .int .i64 8, .int .i64 9] 3 (0, 0)) := by rw [← s3, hX4]; exact heap_alloc_new X3 _
    rw [cell_of_row _ _ _ _ _ _ h]
    have : (#[.int .i64 1, .int .i64 10, .int .i64 20, .int .i64 0, .int .i64 7, .int .i64 8, .int .i64 9] : Array Value) = (exNs.map (Value.int .i64)).toArray := rfl
    rw [this, List.getElem?_toArray, List.getElem?_map, hj]; rfl⟩
  have HX : Seal (∀ W, Below g5 X2 W → SvS w gE gO gF gK gx (.slice none 0 0) W ∧ W.heap[g4]? = some (.cells TC.toArray 42 (0, 0))) := ⟨fun W h => by
    rw [hg5] at h
    exact ⟨HS.out.step h, (h.block _ (Array.getElem?_eq_some_iff.1 HT.out).1).trans HT.out⟩⟩
  clear HS HT
  rw [show (⟨#[]⟩ : ByteArray) = ByteArray.empty from rfl, ← hX3, ← hX4]
  have h54 : g5 = g4 + 1 := by rw [hg5, hX2, size_alloc, hg4]
  rw [← h54]
  have HB5 := Seal.mk (And.intro hg5 h54)
  clear hX2 hX3 hX4 hg4 hg5 s3 s4 h54
  go_loopw [36] (fun i wr => SvRel g5 X2 (g5 + 1) i wr) (fun i _ => 7 - (intOf i).toNat)
  case atStart => exact ⟨0, .slice none 0 0, Nat.zero_le _, rfl, HV, HN⟩
  case round =>
    obtain ⟨j, v, hj, rfl, HV, HN⟩ := hrel
    by_cases hlt : j < 7
    · obtain ⟨n, hn⟩ : ∃ n, exNs[j]? = some n := ⟨_, List.getElem?_eq_getElem hlt⟩
      have hcx := HN.out.2.2 j n hn
      have q1 : (j : Int) < 7 := by omega
      have q2 : (0 : Int) ≤ (j : Int) := by omega
      obtain ⟨m, hm⟩ : ∃ m, m = exLf.take j := ⟨_, rfl⟩
      have HT : Seal (exLf.take (j + 1) = m ++ [.i n]) := ⟨by
        rw [hm, List.take_add_one, show exLf = exNs.map Lf.i from rfl, List.getElem?_map, hn]
        rfl⟩
      have HM : Seal (m.length = j) := ⟨by rw [hm]; simp [exLf]; omega⟩
      rw [← hm] at HV
      clear hm hn
      obtain ⟨a0, c0, rfl⟩ := HV.out.1.form
      have cV : wr.cell? ⟨g5, 3, none⟩ = some (.slice a0 m.length c0) := by rw [cell_of_row _ _ _ _ _ _ HV.out.1.row]; rfl
      go_wp2_with (at_builtin; refine wpList_append_lies _ rfl (.tmp 41) (.tmp 44) 49 rfl (g5 + 1) 51 i0 _ 4 56 Tryz.underlying49 HI.out.1 HI.out.2.1 HI.out.2.2.1 HI.out.2.2.2 rfl (by decide) (.slice a0 m.length c0) m.length (lcs m) rfl (HV.out.1.own.alloc _) ⟨wr.heap.size, 0, none⟩ 1 1 (Lf.i n).cells rfl rfl (World.news_of_block (heap_alloc_new wr _)) (by simp [Lf.cells, Value.oneCell']) (by decide) (by unfold maxLen; have := HM.out; omega) (by have := HM.out; omega) (by have := HV.out.2; rw [size_alloc]; omega) _ rfl ?_; intro g1 cap1 w1 hown1 hgrow1 hat hlt1; have hp := VL.put HV.out.1 HV.out.2 hgrow1 hown1; have c1 : w1.cell? ⟨g5, 3, none⟩ = some (.slice a0 m.length c0) := by { rw [cell_of_row _ _ _ _ _ _ hp.2]; rfl }; have f1 : w1.frozen? ⟨g5, 3, none⟩ = false := frozen_of_row _ _ _ _ _ hp.2; have HP := Seal.mk hp.1; have HG1 := Seal.mk (And.intro hgrow1 hat); clear hp hgrow1 hown1 hat)
      refine ⟨⟨j + 1, _, by omega, rfl, ⟨by rw [HT.out]; exact HP.out, (Array.getElem?_eq_some_iff.1 HP.out.row).1⟩, ⟨?_⟩⟩, by simp only [intOf]; omega⟩
      have hne : g1 ≠ g5 + 1 := by
        intro e
        rcases HG1.out.2 with h | h
        · exact HN.out.1 (by rw [h, e])
        · have := HN.out.2.1; rw [size_alloc] at h; omega
      have hb : ∀ k, k ≠ g1 → k ≠ g5 → k < wr.heap.size → (Value.slice a0 m.length c0).ownBlock ≠ some k → (w1.setCell ⟨g5, 3, none⟩ (.slice (some ⟨g1, 0, none⟩) (m.length + 1) cap1)).heap[k]? = wr.heap[k]? := fun k _ h2 h3 h4 => (Below.heap_setCell _ _ _ k h2).trans ((HG1.out.1.block k (by rw [size_alloc]; omega) (fun e => h4 e.symm)).trans (Below.heap_alloc wr _ _ h3))
      have hk := hb (g5 + 1) (Ne.symm hne) (by omega) HN.out.2.1 HN.out.1
      refine ⟨fun e => hne (by simpa [Value.ownBlock] using e), ?_, fun j n hn => (World.cell?_of_block (w := wr) hk).trans (HN.out.2.2 j n hn)⟩
      rw [Array.getElem?_eq_getElem HN.out.2.1] at hk
      exact (Array.getElem?_eq_some_iff.1 hk).1
    · obtain rfl : j = 7 := by omega
      rw [show exLf.take 7 = exLf from rfl] at HV
      obtain ⟨a0, c0, rfl⟩ := HV.out.1.form
      have cV : wr.cell? ⟨g5, 3, none⟩ = some (.slice a0 7 c0) := by rw [cell_of_row _ _ _ _ _ _ HV.out.1.row]; rfl
      have rT : wr.rangeAt g4 0 TC := rangeAt_row (HX.out wr HV.out.1.bel).2
      have HS := Seal.mk (HX.out wr HV.out.1.bel)
      go_upto_region 9 with (fail)
      refine wp_region_heldT 8 (S := fun W => W.cell? ⟨g5, 3, none⟩ = some (.slice a0 7 c0) ∧ W.rangeAt g4 0 TC) (by kernel_rfl) ⟨cV, rT⟩ (fun hHeld => ?_)
      obtain ⟨V, hV⟩ : ∃ V, V = wr.drew := ⟨_, rfl⟩
      have HVd : Seal (VL g5 X2 exLf (.slice a0 7 c0) V ∧ g5 < V.heap.size) := ⟨by rw [hV]; exact ⟨HV.out.1.drew, HV.out.2⟩⟩
      rw [← hV] at hHeld ⊢
      clear hV cV rT HV HN HS
      refine take_t 0 ?_ rfl (by kernel_rfl) (by kernel_rfl) (by kernel_rfl) (by kernel_rfl) (fun _ _ _ h => h) (Or.inl ⟨by kernel_rfl, ?_⟩) (by assumption) ?_
      rotate_left
      · (intro w hSw; (try dsimp only at hSw); go_simp; try (with_reducible rfl))
      try simp only [Act.put, List.setIfInBounds_toArray, List.set_cons_zero, List.set_cons_succ]
      refine take_t 1 ?_ rfl (by kernel_rfl) (by kernel_rfl) (by kernel_rfl) (by kernel_rfl) (fun _ _ _ h => h) (Or.inl ⟨by kernel_rfl, ?_⟩) (by assumption) ?_
      rotate_left
      · (intro w hSw; (try dsimp only at hSw); go_simp; try (with_reducible rfl))
      try simp only [Act.put, List.setIfInBounds_toArray, List.set_cons_zero, List.set_cons_succ]
      refine take_t 2 ?_ rfl (by kernel_rfl) (by kernel_rfl) (by kernel_rfl) (by kernel_rfl) (fun _ _ _ h => h) (Or.inl ⟨by kernel_rfl, ?_⟩) (by assumption) ?_
      rotate_left
      · (intro w hSw; (try dsimp only at hSw); go_simp; try (with_reducible rfl))
      try simp only [Act.put, List.setIfInBounds_toArray, List.set_cons_zero, List.set_cons_succ]
      refine take_t 3 (.string ⟨RT.toArray⟩) rfl (by kernel_rfl) (by kernel_rfl) (by kernel_rfl) (by kernel_rfl) (fun _ _ _ h => h) (Or.inl ⟨by kernel_rfl, ?_⟩) (by assumption) ?_
      · intro w hSw
        have hcv := IsB.conv (w := w) (a := some ⟨g4, 0, none⟩) (len := 32) (cap := 32) (l := RT) ⟨HTC.out.2.2, Nat.le_refl _, by decide, by decide, .inr ⟨_, 0, rfl, by rw [← HTC.out.1]; exact hSw.2, by
          have := hSw.2 0 _ (List.getElem?_eq_getElem (show 0 < TC.length by rw [HTC.out.1, List.length_map, HTC.out.2.2]; decide))
          exact block_lt_of_cell this⟩⟩
        go_simp
      try simp only [Act.put, List.setIfInBounds_toArray, List.set_cons_zero, List.set_cons_succ]
      refine take_t 4 ?_ rfl (by kernel_rfl) (by kernel_rfl) (by kernel_rfl) (by kernel_rfl) (fun _ _ _ h => h) (Or.inl ⟨by kernel_rfl, ?_⟩) (by assumption) ?_
      rotate_left
      · (intro w hSw; (try dsimp only at hSw); go_simp; try (with_reducible rfl))
      try simp only [Act.put, List.setIfInBounds_toArray, List.set_cons_zero, List.set_cons_succ]
      refine oper_t 5 (.slice (some ⟨V.heap.size, 0, none⟩) 1 1) (V.alloc (.cells #[.int .i64 2, .int .i64 0, .string ⟨RT.toArray⟩, .slice none 0 0] 51)) rfl (by kernel_rfl) (by kernel_rfl) (by go_simp; try rfl) ⟨cell_allocd hHeld.1 _, World.rangeAt_alloc hHeld.2 _⟩ (fun hHeld2 => ?_)
      try simp only [Act.put, List.setIfInBounds_toArray, List.set_cons_zero, List.set_cons_succ]
      obtain ⟨g1, cap1, w5, hrun, hown1, hgrow1, hat, hlt1⟩ := run_append_lies (P := Tryz.prog) (w := V.alloc (.cells #[.int .i64 2, .int .i64 0, .string ⟨RT.toArray⟩, .slice none 0 0] 51)) 49 49 (g5 + 1) 51 i0 _ 4 56 Tryz.underlying49 HI.out.1 HI.out.2.1 HI.out.2.2.1 HI.out.2.2.2 rfl (by decide) (.slice a0 7 c0) 7 (lcs exLf) (HVd.out.1.own.alloc _) ⟨V.heap.size, 0, none⟩ 1 1 (Lf.t RT).cells rfl (World.news_of_block (heap_alloc_new V _)) (by simp [Lf.cells, Value.oneCell']) (by decide) (by unfold maxLen; decide) (by decide) (by have := HVd.out.2; simp; omega) _ rfl
      have hp := VL.put (x := .t RT) HVd.out.1 HVd.out.2 hgrow1 hown1
      have y3 : w5.cell? ⟨g5, 3, none⟩ = some (.slice a0 7 c0) := by rw [cell_of_row _ _ _ _ _ _ hp.2]; rfl
      have f3 : w5.frozen? ⟨g5, 3, none⟩ = false := frozen_of_row _ _ _ _ _ hp.2
      have rT5 : w5.rangeAt g4 0 TC := rangeAt_row (HX.out w5 (by
        refine ⟨hgrow1.os.trans HVd.out.1.bel.os, hgrow1.tape.trans HVd.out.1.bel.tape, hgrow1.output.trans HVd.out.1.bel.output, Nat.le_trans HVd.out.1.bel.size (Nat.le_trans (by rw [size_alloc]; omega) hgrow1.size), fun k hk => (hgrow1.block k (by rw [size_alloc]; have := HVd.out.2; omega) (fun e => by have := (HVd.out.1.own.lt k e.symm).1; omega)).trans ((Below.heap_alloc V _ _ (by have := HVd.out.2; omega)).trans (HVd.out.1.bel.block k hk))⟩)).2
      refine oper_t 6 (.slice (some ⟨g1, 0, none⟩) 8 cap1) w5 rfl (by kernel_rfl) (by kernel_rfl) (exec_append (.tmp 49) (.tmp 53) 49 49 rfl _ _ _ rfl rfl (fun ty => hrun)) ⟨y3, rT5⟩ (fun hHeld3 => ?_)
      try simp only [Act.put, List.setIfInBounds_toArray, List.set_cons_zero, List.set_cons_succ]
      refine take_t 7 ?_ rfl (by kernel_rfl) (by kernel_rfl) (by kernel_rfl) (by kernel_rfl) (fun _ _ _ h => h) (Or.inl ⟨by kernel_rfl, ?_⟩) (by assumption) ?_
      rotate_left
      · (intro w hSw; (try dsimp only at hSw); go_simp; try (with_reducible rfl))
      try simp only [Act.put, List.setIfInBounds_toArray, List.set_cons_zero, List.set_cons_succ]
      obtain ⟨W5, hW5⟩ : ∃ W, W = w5.setCell ⟨g5, 3, none⟩ (.slice (some ⟨g1, 0, none⟩) 8 cap1) := ⟨_, rfl⟩
      have HP : Seal (VL g5 X2 (exLf ++ [.t RT]) (.slice (some ⟨g1, 0, none⟩) 8 cap1) W5) := ⟨by rw [hW5]; exact hp.1⟩
      clear hrun hown1 hgrow1 hat hlt1 hp HVd hHeld hHeld2 rT5
      refine last_t W5 rfl (by kernel_rfl) (by kernel_rfl) (by kernel_rfl) (by rw [hW5]; go_simp) ?_
      try simp only [Act.put]
      clear hW5 hHeld3 y3 f3
      have HS := Seal.mk (HX.out W5 HP.out.bel)
      obtain ⟨TX, hTX⟩ : ∃ T, T = encL (exLf ++ [.t RT]) := ⟨_, rfl⟩
      obtain ⟨CD, hCD⟩ : ∃ C, C = (caseD exC).map B := ⟨_, rfl⟩
      have HCD : Seal (CD.toArray = ((tagged tCase TX).map B).toArray ∧ CD = (caseD exC).map B ∧ CD.length = 32) := ⟨by rw [hCD, hTX, HTC.out.2.1]; rfl, hCD, by rw [hCD, List.length_map, caseD_len]⟩
      have hwg : wgts (exLf ++ [.t RT]) ≤ 200 := by simp [exLf, wgts, Lf.wgt, HTC.out.2.2]
      have HTX : Seal (TX.length ≤ 400) := ⟨by
        have h1 := encL_length (exLf ++ [.t RT])
        rw [hTX]; omega⟩
      have HA1 : Seal (LeavesAt W5 g1 0 (exLf ++ [.t RT])) := ⟨fun q y hy r c hrc => by
        have h2 := HP.out.own.cells (g := g1) rfl (q * 4 + r) c (lcs_at _ q y hy r c hrc)
        rw [Addr.add_mid] at h2
        rw [Nat.add_assoc]; exact h2⟩
      have HQ : Seal (8 ≤ cap1) := ⟨by
        rcases HP.out.own.2 with ⟨e, _⟩ | ⟨_, _, _, hv, _, _, hle, _⟩
        · cases e
        · cases hv; exact hle⟩
      have HE : Seal _ := ⟨encode_any g1 0 8 cap1 (exLf ++ [.t RT]) W5 rfl HQ.out (by omega) (by decide) HA1.out (by obtain ⟨g2, cap2, e, _, hg2⟩ := HP.out.own.form (by simp [exLf]); cases e; exact hg2) (by
        intro y hy
        simp only [exLf, List.cons_append, List.nil_append, List.mem_cons, List.not_mem_nil, or_false] at hy
        rcases hy with rfl | rfl | rfl | rfl | rfl | rfl | rfl | rfl
        · exact (⟨by decide, by decide⟩ : I64 1)
        · exact (⟨by decide, by decide⟩ : I64 10)
        · exact (⟨by decide, by decide⟩ : I64 20)
        · exact (⟨by decide, by decide⟩ : I64 0)
        · exact (⟨by decide, by decide⟩ : I64 7)
        · exact (⟨by decide, by decide⟩ : I64 8)
        · exact (⟨by decide, by decide⟩ : I64 9)
        · show RT.length < 2 ^ 63
          rw [HTC.out.2.2]; decide)⟩
      rw [← hTX] at HE
      have c0 : W5.cell? ⟨g5, 0, none⟩ = some (.int .i64 3) := by rw [cell_of_row _ _ _ _ _ _ HP.out.row]; rfl
      have c1 : W5.cell? ⟨g5, 1, none⟩ = some (.int .i64 0) := by rw [cell_of_row _ _ _ _ _ _ HP.out.row]; rfl
      have c2 : W5.cell? ⟨g5, 2, none⟩ = some (.string ByteArray.empty) := by rw [cell_of_row _ _ _ _ _ _ HP.out.row]; rfl
      have c3 : W5.cell? ⟨g5, 3, none⟩ = some (.slice (some ⟨g1, 0, none⟩) 8 cap1) := by rw [cell_of_row _ _ _ _ _ _ HP.out.row]; rfl
      clear hTX hCD hwg HA1 HQ
      go_wp2_with fail
      refine HE.out.mono ?_
      rintro e w6 ⟨g', n', cap', hn', rfl, hf⟩
      have HS := Seal.mk (HS.out.1.step hf.out.2.2.2.2)
      have HF := Seal.mk (And.intro hn'.out (And.intro hf.out.1 (And.intro hf.out.2.1 (And.intro hf.out.2.2.1 hf.out.2.2.2.1))))
      have HDig : Seal (∀ W vJ, SvS w gE gO gF gK gx vJ W → vJ.oneCell' = true → Calls Tryz.prog 8 #[.agg (exX gF gK vJ).C.toArray] W fun e w' => e = .returned (.agg CD.toArray) ∧ Below W.heap.size W w') := ⟨fun W vJ h ho => by
        rw [HCD.out.2.1]
        exact dcase_any (exX gF gK vJ) W (HG.out _ h.bel) (exX_ok _ _ _ ho) h.F (show 2 ≤ 100 by decide)⟩
      have heq : ∀ W, (Op.equalIn 10000 42 (.agg CD.toArray) (.agg CD.toArray)).run Tryz.prog W = .ok true W := fun W => by rw [HCD.out.2.1, eqDig _ _ (caseD_len _) (caseD_len _) W]; simp
      obtain ⟨CX, hCX⟩ : ∃ C, C = (exX gF gK (.slice none 0 0)).C := ⟨_, rfl⟩
      have iC : (Tryz.prog.info? 35).map (·.size) = some CX.length := by rw [hCX]; exact CaX.info _
      have uC := Tryz.underlying35
      have HCX := Seal.mk hCX
      have rX : w6.rangeAt gx 0 CX := by rw [hCX]; exact rangeAt_row HS.out.x
      clear hCX hf hn' c0 c1 c2 c3 HE HP
      go_wp2_with
        (refine wpList_load_mid_g (by kernel_rfl) 35 (.tmp 3) rfl gx 0 rfl CX _ rX uC rfl iC ?_; (try simp only [Act.put, List.setIfInBounds_toArray, List.set_cons_zero, List.set_cons_succ]))
      rw [HCX.out]
      refine (HDig.out w6 _ HS.out rfl).mono ?_
      rintro e w7 ⟨rfl, hb⟩
      have HS := Seal.mk (HS.out.step hb)
      have hT : Calls Tryz.prog 14 #[.string ⟨#[99, 97, 115, 101]⟩, .slice (some ⟨g', 0, none⟩) n' cap'] w7 fun e w' => e = .returned (.agg CD.toArray) ∧ Below w7.heap.size w7 w' := by
        rw [HCD.out.1]
        have hl := HTX.out
        have hl2 := HF.out.1
        exact tagged_some ⟨#[99, 97, 115, 101]⟩ g' 0 n' cap' TX w7 (HG.out _ HS.out.bel) (by decide) (by decide) HF.out.1 HF.out.2.1 (by omega) HF.out.2.2.1 (rangeAt_below' HF.out.2.2.2.2 hb) (Nat.lt_of_lt_of_le HF.out.2.2.2.1 hb.size)
      clear hb rX
      go_wp2_with fail
      refine hT.mono ?_
      rintro e w8 ⟨rfl, hb⟩
      have HS := Seal.mk (HS.out.step hb)
      clear hb hT HF HX
      go_wp2_with fail
      obtain ⟨gt, hgt⟩ : ∃ g, g = w8.heap.size := ⟨_, rfl⟩
      obtain ⟨X9, hX9⟩ : ∃ X, X = w8.alloc (.cells #[.int .i64 30, .int .i64 0, .int .i64 0, .int .i64 35, .int .i64 5, .int .i64 0, .int .i64 36, .int .i64 5, .int .i64 570, .int .i64 29, .int .i64 5, .int .i64 570, .int .i64 49, .int .i64 100, .int .i64 0, .int .i64 50, .int .i64 100, .int .i64 570, .int .i64 (-1), .int .i64 0, .int .i64 1, .int .i64 30, .int .i64 (-1), .int .i64 1] 56) := ⟨_, rfl⟩
      have HS := Seal.mk (HS.out.step (W' := X9) (by rw [hX9]; exact below_alloc _ _))
      have HT9 : Seal (X9.rangeAt gt 0 (tabC exTab) ∧ gt < X9.heap.size) := ⟨by
        have h : X9.heap[gt]? = some (.cells #[.int .i64 30, .int .i64 0, .int .i64 0, .int .i64 35, .int .i64 5, .int .i64 0, .int .i64 36, .int .i64 5, .int .i64 570, .int .i64 29, .int .i64 5, .int .i64 570, .int .i64 49, .int .i64 100, .int .i64 0, .int .i64 50, .int .i64 100, .int .i64 570, .int .i64 (-1), .int .i64 0, .int .i64 1, .int .i64 30, .int .i64 (-1), .int .i64 1] 56 (0, 0)) := by rw [hX9, hgt]; exact heap_alloc_new w8 _
        exact ⟨rangeAt_row (cs := tabC exTab) h, (Array.getElem?_eq_some_iff.1 h).1⟩⟩
      rw [← hX9, ← hgt]
      clear hX9 hgt
      go_loopw [80] (fun i wr => RvRel X9 i wr) (fun i _ => 8 - (intOf i).toNat)
      case atStart => exact ⟨0, Nat.zero_le _, rfl, ⟨Below.refl _ _⟩⟩
      case round =>
        obtain ⟨j, hj, rfl, hb⟩ := hrel
        have HSr := Seal.mk (HS.out.step hb.out)
        by_cases hlt : j < 8
        · obtain ⟨⟨n, t, ee⟩, hr⟩ : ∃ r, exTab[j]? = some r := ⟨_, List.getElem?_eq_getElem hlt⟩
          have q1 : (j : Int) < 8 := by omega
          have q2 : (0 : Int) ≤ (j : Int) := by omega
          have rR : wr.rangeAt gt (j * 3) [.int .i64 n, .int .i64 t, .int .i64 ee] := fun i v hv => by
            have h := (rangeAt_below' HT9.out.1 hb.out) _ v (tabC_at exTab j _ hr i v hv)
            rwa [Nat.zero_add] at h
          have iR : (Tryz.prog.info? 56).map (·.size) = some ([.int .i64 n, .int .i64 t, .int .i64 ee] : List Value).length := by kernel_rfl
          have uR := Tryz.underlying56
          have HAd := Seal.mk (exTab_adm _ (List.mem_of_getElem? hr))
          obtain ⟨Z, hZ⟩ : ∃ Z, Z = wr.alloc (.cells #[.int .i64 n, .int .i64 t, .int .i64 ee] 56) := ⟨_, rfl⟩
          have bZ : Below wr.heap.size wr Z := by rw [hZ]; exact below_alloc _ _
          have HSz := Seal.mk (HSr.out.step bZ)
          have HBz := Seal.mk (hb.out.trans (bZ.mono hb.out.size))
          have HZ : Seal (Z.heap[wr.heap.size]? = some (.cells #[.int .i64 n, .int .i64 t, .int .i64 ee] 56 (0, 0))) := ⟨by rw [hZ]; exact heap_alloc_new wr _⟩
          have rX : Z.rangeAt gx 0 CX := by rw [HCX.out]; exact rangeAt_row HSz.out.x
          clear hr hb bZ
          obtain ⟨gz, hgz⟩ : ∃ g, g = wr.heap.size := ⟨_, rfl⟩
          rw [← hgz] at HZ
          have z0 : Z.cell? ⟨gz, 0, none⟩ = some (.int .i64 n) := by rw [cell_of_row _ _ _ _ _ _ HZ.out]; rfl
          have z1 : Z.cell? ⟨gz, 1, none⟩ = some (.int .i64 t) := by rw [cell_of_row _ _ _ _ _ _ HZ.out]; rfl
          go_upto_region 16 with (refine wpList_load_mid_g (by kernel_rfl) 56 (.tmp 82) rfl gt (j * 3) rfl [.int .i64 n, .int .i64 t, .int .i64 ee] _ rR uR rfl iR ?_; (try simp only [Act.put, List.setIfInBounds_toArray, List.set_cons_zero, List.set_cons_succ]))
          rw [← hZ, ← hgz]
          clear hZ hgz rR
          go_wp2_with
            (refine wpList_load_mid_g (by kernel_rfl) 35 (.tmp 3) rfl gx 0 rfl CX _ rX uC rfl iC ?_; (try simp only [Act.put, List.setIfInBounds_toArray, List.set_cons_zero, List.set_cons_succ]))
          rw [HCX.out]
          have hA := exAdm (HG.out _ HSz.out.bel) HSz.out rfl HSz.out.E HSz.out.O (isD_nilF Z) (by decide) n t
          have HA2 : Seal (admE exE [0, 3] [] exC n t = ee) := ⟨HAd.out⟩
          rw [HA2.out] at hA
          clear rX z0 z1 HAd
          by_cases he : ee = 0
          · subst he
            have hl : admL exE [0, 3] [] exC n t = [caseD exC] := by rw [adm_yes HA2.out]; rfl
            rw [hl] at hA
            refine hA.mono ?_
            rintro e w10 ⟨a, m, c, rfl, hi, hb⟩
            obtain rfl : m = 1 := by have := hi.out.1.llen; simpa using this.symm
            have HD := Seal.mk hi.out.1
            have HSq := Seal.mk (HSz.out.step hb)
            have HBq := Seal.mk (HBz.out.trans (hb.mono HBz.out.size))
            have z2 : w10.cell? ⟨gz, 2, none⟩ = some (.int .i64 0) := cell_below' hb (by rw [cell_of_row _ _ _ _ _ _ HZ.out]; rfl)
            have rX : w10.rangeAt gx 0 CX := by rw [HCX.out]; exact rangeAt_row HSq.out.x
            clear hA hl hi hb HZ HA2 HSz HBz HSr
            go_wp2_with
              (refine wpList_load_mid_g (by kernel_rfl) 35 (.tmp 3) rfl gx 0 rfl CX _ rX uC rfl iC ?_; (try simp only [Act.put, List.setIfInBounds_toArray, List.set_cons_zero, List.set_cons_succ]))
            rw [HCX.out]
            refine (HDig.out w10 _ HSq.out rfl).mono ?_
            rintro e w11 ⟨rfl, hb⟩
            have HD := Seal.mk (HD.out.of_heap hb)
            have HBq := Seal.mk (HBq.out.trans (hb.mono HBq.out.size))
            obtain ⟨W12, hW12⟩ : ∃ W, W = w11.alloc (.cells CD.toArray 42) := ⟨_, rfl⟩
            have hb2 : Below w11.heap.size w11 W12 := by rw [hW12]; exact below_alloc _ _
            have HD := Seal.mk (HD.out.of_heap hb2)
            have HBq := Seal.mk (HBq.out.trans (hb2.mono HBq.out.size))
            have HD2 : Seal (IsD W12 (some ⟨w11.heap.size, 0, none⟩) 1 1 [caseD exC]) := ⟨by
              have h : W12.heap[w11.heap.size]? = some (.cells CD.toArray 42 (0, 0)) := by rw [hW12]; exact heap_alloc_new w11 _
              refine ⟨rfl, by decide, by decide, by decide, by intro d hd; obtain rfl : d = caseD exC := (by simpa using hd); exact caseD_len _, .inr ⟨_, 0, rfl, ?_, (Array.getElem?_eq_some_iff.1 h).1⟩⟩
              have e : dcells [caseD exC] = CD := by rw [HCD.out.2.1]; simp [dcells]
              rw [e]; exact rangeAt_row h⟩
            have hSm : Calls Tryz.prog 10 #[.slice a 1 c, .slice (some ⟨w11.heap.size, 0, none⟩) 1 1] W12 fun e w' => e = .returned (.bool true) ∧ Below W12.heap.size W12 w' := by
              have h := rsame_any a (some ⟨w11.heap.size, 0, none⟩) 1 c 1 1 [caseD exC] [caseD exC] W12 HD.out HD2.out
              rwa [show ([caseD exC] == [caseD exC]) = true from by simp] at h
            clear hb hb2 rX
            go_wp2_with (refine wpList_bslice (by kernel_rfl) 24 42 1 32 #[(0, .tmp 105)] rfl [CD] Tryz.underlying24 size_dgF _ zero_dgF rfl rfl (by intro D hD; obtain rfl : D = CD := (by simpa using hD); exact HCD.out.2.2) (by decide) (by decide) rfl ?_; rw [show [CD].flatten = CD from by simp, ← hW12]; clear hW12; (try simp only [Act.put, List.setIfInBounds_toArray, List.set_cons_zero, List.set_cons_succ]))
            refine hSm.mono ?_
            rintro e w13 ⟨rfl, hb⟩
            have HBq := Seal.mk (HBq.out.trans (hb.mono HBq.out.size))
            clear hSm hb HD HD2 z2
            go_wp2_with fail
            exact ⟨⟨j + 1, by omega, rfl, HBq⟩, by simp only [intOf]; omega⟩
          · have hl : admL exE [0, 3] [] exC n t = [] := adm_no HA2.out he
            rw [hl] at hA
            refine hA.mono ?_
            rintro e w10 ⟨a, m, c, rfl, hi, hb⟩
            obtain rfl : m = 0 := by have := hi.out.1.llen; simpa using this.symm
            have HBq := Seal.mk (HBz.out.trans (hb.mono HBz.out.size))
            have z2 : w10.cell? ⟨gz, 2, none⟩ = some (.int .i64 ee) := cell_below' hb (by rw [cell_of_row _ _ _ _ _ _ HZ.out]; rfl)
            clear hA hl hi hb HZ HA2 HSz HBz HSr
            go_wp2_with fail
            exact ⟨⟨j + 1, by omega, rfl, HBq⟩, by simp only [intOf]; omega⟩
        · obtain rfl : j = 8 := by omega
          clear HT9 HS
          have rX : wr.rangeAt gx 0 CX := by rw [HCX.out]; exact rangeAt_row HSr.out.x
          have ID : Seal ((Tryz.prog.info? 42).map (·.size) = some CD.length) := ⟨by rw [HCD.out.2.2]; kernel_rfl⟩
          have LD : Seal ((([.int .u8 0, .int .u8 0, .int .u8 0, .int .u8 0, .int .u8 0, .int .u8 0, .int .u8 0, .int .u8 0, .int .u8 0, .int .u8 0, .int .u8 0, .int .u8 0, .int .u8 0, .int .u8 0, .int .u8 0, .int .u8 0, .int .u8 0, .int .u8 0, .int .u8 0, .int .u8 0, .int .u8 0, .int .u8 0, .int .u8 0, .int .u8 0, .int .u8 0, .int .u8 0, .int .u8 0, .int .u8 0, .int .u8 0, .int .u8 0, .int .u8 0, .int .u8 0] : List Value)).length = CD.length) := ⟨by rw [HCD.out.2.2]; rfl⟩
          have OD : Seal (∀ u ∈ CD, u.oneCell' = true) := ⟨by rw [HCD.out.2.1]; intro u hu; obtain ⟨b, _, rfl⟩ := List.mem_map.1 hu; rfl⟩
          go_wp2_with
            (refine wpList_load_mid_g (by kernel_rfl) 35 (.tmp 3) rfl gx 0 rfl CX _ rX uC rfl iC ?_; (try simp only [Act.put, List.setIfInBounds_toArray, List.set_cons_zero, List.set_cons_succ]))
          rw [HCX.out]
          refine (HDig.out wr _ HSr.out rfl).mono ?_
          rintro e w12 ⟨rfl, hb2⟩
          have HS := Seal.mk (HSr.out.step hb2)
          obtain ⟨g14, hg14⟩ : ∃ g, g = w12.heap.size := ⟨_, rfl⟩
          obtain ⟨X13, hX13⟩ : ∃ X, X = w12.alloc (.cells CD.toArray 42) := ⟨_, rfl⟩
          have HS := Seal.mk (HS.out.step (W' := X13) (by rw [hX13]; exact below_alloc _ _))
          have HD : Seal (X13.heap[g14]? = some (.cells CD.toArray 42 (0, 0))) := ⟨by rw [hX13, hg14]; exact heap_alloc_new w12 _⟩
          obtain ⟨gj, hgj⟩ : ∃ g, g = X13.heap.size := ⟨_, rfl⟩
          obtain ⟨X14, hX14⟩ : ∃ X, X = X13.alloc (.cells jobZ2 184) := ⟨_, rfl⟩
          have hb14 : Below X13.heap.size X13 X14 := by rw [hX14]; exact below_alloc _ _
          have HS := Seal.mk (HS.out.step hb14)
          have HD := Seal.mk ((hb14.block _ (Array.getElem?_eq_some_iff.1 HD.out).1).trans HD.out)
          have x5 : X14.cell? ⟨gx, 5, none⟩ = some (.slice none 0 0) := by rw [cell_of_row _ _ _ _ _ _ HS.out.x]; rfl
          have f5 : X14.frozen? ⟨gx, 5, none⟩ = false := frozen_of_row _ _ _ _ _ HS.out.x
          have mkj := fun W => make_jobs W
          obtain ⟨X15, hX15⟩ : ∃ X, X = X14.setCell ⟨gx, 5, none⟩ (.slice (some ⟨gj, 0, none⟩) 2 2) := ⟨_, rfl⟩
          have hgx14 : g14 ≠ gx := by
            have h1 := (Array.getElem?_eq_some_iff.1 HSr.out.x).1
            have := hb2.size
            omega
          have HS15 : Seal (SvS w gE gO gF gK gx (.slice (some ⟨gj, 0, none⟩) 2 2) X15) := ⟨by rw [hX15]; exact HS.out.jobs _⟩
          have HD : Seal (X15.rangeAt g14 0 CD) := ⟨rangeAt_row ((by rw [hX15]; exact (Below.heap_setCell _ ⟨gx, 5, none⟩ _ g14 hgx14).trans HD.out) : X15.heap[g14]? = some (.cells CD.toArray 42 (0, 0)))⟩
          clear hb2 HSr hb14 HS rX hgx14
          have rv13 := Seal.mk hX13.symm
          have rv14 := Seal.mk hX14.symm
          have rv15 := Seal.mk hX15.symm
          have rvj := Seal.mk hgj.symm
          have rvg := Seal.mk hg14.symm
          clear hX13 hX14 hX15 hgj hg14
          go_upto_region 21 with (refine wpList_store_new rfl 42 (.tmp 14) (.tmp 122) rfl ([.int .u8 0, .int .u8 0, .int .u8 0, .int .u8 0, .int .u8 0, .int .u8 0, .int .u8 0, .int .u8 0, .int .u8 0, .int .u8 0, .int .u8 0, .int .u8 0, .int .u8 0, .int .u8 0, .int .u8 0, .int .u8 0, .int .u8 0, .int .u8 0, .int .u8 0, .int .u8 0, .int .u8 0, .int .u8 0, .int .u8 0, .int .u8 0, .int .u8 0, .int .u8 0, .int .u8 0, .int .u8 0, .int .u8 0, .int .u8 0, .int .u8 0, .int .u8 0] : List Value) CD 42 rfl rfl ID.out LD.out OD.out ?_)
          rw [rv13.out, rvg.out]
          have rv14' := rv14.out
          have rv15' := rv15.out
          have rvj' := rvj.out
          clear rv13 rvg rv14 rv15 rvj
          go_upto_region 22 with (fail)
          clear rv14' rv15' rvj' x5 f5 mkj
          obtain ⟨CY, hCY⟩ : ∃ C, C = (exX gF gK (.slice (some ⟨gj, 0, none⟩) 2 2)).C := ⟨_, rfl⟩
          have iY : (Tryz.prog.info? 35).map (·.size) = some CY.length := by rw [hCY]; exact CaX.info _
          have HCY := Seal.mk hCY
          have uD := Tryz.underlying42
          have HS := HS15
          clear hCY HS15 LD OD HCX
          obtain ⟨X16, hX16⟩ : ∃ X, X = X15.alloc (.cells (CD).toArray 42) := ⟨_, rfl⟩
          obtain ⟨gX16, hgX16⟩ : ∃ g, g = X15.heap.size := ⟨_, rfl⟩
          have bX16 : Below X15.heap.size X15 X16 := by rw [hX16]; exact below_alloc _ _
          have hP : IsD X16 (some ⟨gX16, 0, none⟩) 1 1 [caseD exC] := by rw [hX16, hgX16]; exact newD X15 [caseD exC] 1 (by intro d hd; obtain rfl : d = caseD exC := (by simpa using hd); exact caseD_len _) rfl (by decide) (CD) (by rw [HCD.out.2.1]; simp [dcells])
          have rD := HD.out
          have HS := Seal.mk (HS.out.step bX16)
          have HD := Seal.mk (rangeAt_below' HD.out bX16)
          have rY : X16.rangeAt gx 0 CY := by rw [HCY.out]; exact rangeAt_row HS.out.x
          have HP := Seal.mk hP
          clear bX16 hP
          go_wp2_with (first
            | (refine wpList_load_mid_g (by kernel_rfl) 42 (.tmp 14) rfl g14 0 rfl CD _ rD uD rfl ID.out ?_; (try simp only [Act.put, List.setIfInBounds_toArray, List.set_cons_zero, List.set_cons_succ]))
            | (refine wpList_load_mid_g (by kernel_rfl) 35 (.tmp 3) rfl gx 0 rfl CY _ rY uC rfl iY ?_; (try simp only [Act.put, List.setIfInBounds_toArray, List.set_cons_zero, List.set_cons_succ]))
            | (refine wpList_bslice (by kernel_rfl) 24 42 1 32 #[(0, .tmp 128)] rfl [CD] Tryz.underlying24 size_dgF _ zero_dgF rfl rfl (by intro D hD; obtain rfl : D = CD := (by simpa using hD); exact HCD.out.2.2) (by decide) (by decide) rfl ?_; rw [show [CD].flatten = CD from by simp, ← hX16, ← hgX16]; clear hX16 hgX16; (try simp only [Act.put, List.setIfInBounds_toArray, List.set_cons_zero, List.set_cons_succ])))
          rw [HCY.out]
          have hA := exAdm (HG.out _ HS.out.bel) HS.out rfl HS.out.E HS.out.O HP.out (by decide) 30 5
          rw [sv1 (caseD exC) rfl] at hA
          refine hA.mono ?_
          rintro e w16 ⟨aw16, mw16, cw16, rfl, hi, hb⟩
          have HS := Seal.mk (HS.out.step hb)
          have HD := Seal.mk (rangeAt_below' HD.out hb)
          clear hA hi hb rD rY HP
          have rY : w16.rangeAt gx 0 CY := by rw [HCY.out]; exact rangeAt_row HS.out.x
          go_wp2_with
            (refine wpList_load_mid_g (by kernel_rfl) 35 (.tmp 3) rfl gx 0 rfl CY _ rY uC rfl iY ?_; (try simp only [Act.put, List.setIfInBounds_toArray, List.set_cons_zero, List.set_cons_succ]))
          rw [HCY.out]
          have hA := exAdm (HG.out _ HS.out.bel) HS.out rfl (isE_nil w16) HS.out.O (isD_nilF w16) (by decide) 30 0
          rw [sv2] at hA
          refine hA.mono ?_
          rintro e w17 ⟨aw17, mw17, cw17, rfl, hi, hb⟩
          have HS := Seal.mk (HS.out.step hb)
          have HD := Seal.mk (rangeAt_below' HD.out hb)
          clear hA hi hb rY
          have rY : w17.rangeAt gx 0 CY := by rw [HCY.out]; exact rangeAt_row HS.out.x
          go_wp2_with
            (refine wpList_load_mid_g (by kernel_rfl) 35 (.tmp 3) rfl gx 0 rfl CY _ rY uC rfl iY ?_; (try simp only [Act.put, List.setIfInBounds_toArray, List.set_cons_zero, List.set_cons_succ]))
          rw [HCY.out]
          have hA := exAdm (HG.out _ HS.out.bel) HS.out rfl (isE_nil w17) (isIs_nilF w17) (isD_nilF w17) (by decide) 0 0
          rw [sv3] at hA
          refine hA.mono ?_
          rintro e w18 ⟨aw18, mw18, cw18, rfl, hi, hb⟩
          have HS := Seal.mk (HS.out.step hb)
          have HD := Seal.mk (rangeAt_below' HD.out hb)
          clear hA hi hb rY
          obtain ⟨X19, hX19⟩ : ∃ X, X = w18.alloc (.cells (CD ++ CD).toArray 42) := ⟨_, rfl⟩
          obtain ⟨gX19, hgX19⟩ : ∃ g, g = w18.heap.size := ⟨_, rfl⟩
          have bX19 : Below w18.heap.size w18 X19 := by rw [hX19]; exact below_alloc _ _
          have hP : IsD X19 (some ⟨gX19, 0, none⟩) 2 2 [caseD exC, caseD exC] := by rw [hX19, hgX19]; exact newD w18 [caseD exC, caseD exC] 2 (by intro d hd; obtain rfl : d = caseD exC := (by simpa using hd); exact caseD_len _) rfl (by decide) (CD ++ CD) (by rw [HCD.out.2.1]; simp [dcells])
          have rD := HD.out
          have HS := Seal.mk (HS.out.step bX19)
          have HD := Seal.mk (rangeAt_below' HD.out bX19)
          have rY : X19.rangeAt gx 0 CY := by rw [HCY.out]; exact rangeAt_row HS.out.x
          have HP := Seal.mk hP
          clear bX19 hP
          go_wp2_with (first
            | (refine wpList_load_mid_g (by kernel_rfl) 42 (.tmp 14) rfl g14 0 rfl CD _ rD uD rfl ID.out ?_; (try simp only [Act.put, List.setIfInBounds_toArray, List.set_cons_zero, List.set_cons_succ]))
            | (refine wpList_load_mid_g (by kernel_rfl) 35 (.tmp 3) rfl gx 0 rfl CY _ rY uC rfl iY ?_; (try simp only [Act.put, List.setIfInBounds_toArray, List.set_cons_zero, List.set_cons_succ]))
            | (refine wpList_bslice (by kernel_rfl) 24 42 2 32 #[(0, .tmp 148), (1, .tmp 149)] rfl [CD, CD] Tryz.underlying24 size_dgF _ zero_dgF rfl rfl (by intro D hD; obtain rfl : D = CD := (by simpa using hD); exact HCD.out.2.2) (by decide) (by decide) rfl ?_; rw [show [CD, CD].flatten = CD ++ CD from by simp, ← hX19, ← hgX19]; clear hX19 hgX19; (try simp only [Act.put, List.setIfInBounds_toArray, List.set_cons_zero, List.set_cons_succ])))
          rw [HCY.out]
          have hA := exAdm (HG.out _ HS.out.bel) HS.out rfl HS.out.E HS.out.O HP.out (by decide) 30 5
          rw [sv4 (caseD exC)] at hA
          refine hA.mono ?_
          rintro e w19 ⟨aw19, mw19, cw19, rfl, hi, hb⟩
          have HS := Seal.mk (HS.out.step hb)
          have HD := Seal.mk (rangeAt_below' HD.out hb)
          clear hA hi hb rD rY HP
          have hTl : IsE w19 (some ⟨gE, 3, none⟩) 2 2 [⟨3, 5, 16⟩, ⟨3, 50, 64⟩] := isE_tail HS.out.E
          go_wp2_with fail
          have hA := noAdm (HG.out _ HS.out.bel) hTl HS.out.O 30 5
          rw [sv5] at hA
          refine hA.mono ?_
          rintro e w20 ⟨aw20, mw20, cw20, rfl, hi, hb⟩
          have HS := Seal.mk (HS.out.step hb)
          have HD := Seal.mk (rangeAt_below' HD.out hb)
          clear hA hi hb hTl
          have cy := HCY.out
          have rY : w20.rangeAt gx 0 CY := by rw [HCY.out]; exact rangeAt_row HS.out.x
          have rD := HD.out
          clear cy
          go_wp2_with fail
          refine wp_region_held_drew (S := fun W => W.rangeAt gx 0 CY ∧ W.rangeAt g14 0 CD) (by kernel_rfl) ⟨rY, rD⟩ (fun hHeld => ?_)
          obtain ⟨V, hV⟩ : ∃ V, V = w20.drew := ⟨_, rfl⟩
          have HS := Seal.mk (HS.out.step (W' := V) (by rw [hV]; exact below_drewn_f _))
          rw [← hV] at hHeld ⊢
          clear hV rY rD HD
          refine take_h 0 _ rfl (by kernel_rfl) (by kernel_rfl) (by kernel_rfl) (fun _ _ _ h => h) (yieldsIf_load_mid (by kernel_rfl) 35 (.tmp 3) rfl gx 0 rfl CY _ (fun w hSw => hSw.1) uC rfl iY) (by assumption) ?_
          try simp only [Act.put, List.setIfInBounds_toArray, List.set_cons_zero, List.set_cons_succ]
          refine take_h 2 _ rfl (by kernel_rfl) (by kernel_rfl) (by kernel_rfl) (fun _ _ _ h => h) (yieldsIf_load_mid (by kernel_rfl) 42 (.tmp 14) rfl g14 0 rfl CD _ (fun w hSw => hSw.2) uD rfl ID.out) (by assumption) ?_
          try simp only [Act.put, List.setIfInBounds_toArray, List.set_cons_zero, List.set_cons_succ]
          refine call_h 1 rfl (by kernel_rfl) 8 #[.agg CY.toArray] (by kernel_rfl) (by go_simp) ?_
          have hDg := HDig.out V _ HS.out rfl
          rw [← HCY.out] at hDg
          refine hDg.mono ?_
          rintro e V1 ⟨rfl, hb⟩
          have HS := Seal.mk (HS.out.step hb)
          refine ⟨_, rfl, ⟨rangeAt_below' hHeld.1 hb, rangeAt_below' hHeld.2 hb⟩, fun hHeld2 => ?_⟩
          clear hHeld hb hDg
          have hHeld := hHeld2
          clear hHeld2
          try simp only [Act.put, List.setIfInBounds_toArray, List.set_cons_zero, List.set_cons_succ]
          refine take_h 3 ?_ rfl (by kernel_rfl) (by kernel_rfl) (by kernel_rfl) (fun _ _ _ h => h) (Or.inl ⟨by kernel_rfl, ?_⟩) (by assumption) ?_
          rotate_left
          · (intro w hSw; (try dsimp only at hSw); go_simp; try (with_reducible rfl))
          try simp only [Act.put, List.setIfInBounds_toArray, List.set_cons_zero, List.set_cons_succ]
          refine take_h 4 ?_ rfl (by kernel_rfl) (by kernel_rfl) (by kernel_rfl) (fun _ _ _ h => h) (Or.inl ⟨by kernel_rfl, ?_⟩) (by assumption) ?_
          rotate_left
          · (intro w hSw; (try dsimp only at hSw); go_simp; try (with_reducible rfl))
          try simp only [Act.put, List.setIfInBounds_toArray, List.set_cons_zero, List.set_cons_succ]
          refine take_h 5 ?_ rfl (by kernel_rfl) (by kernel_rfl) (by kernel_rfl) (fun _ _ _ h => h) (Or.inl ⟨by kernel_rfl, ?_⟩) (by assumption) ?_
          rotate_left
          · (intro w hSw; (try dsimp only at hSw); go_simp; try (with_reducible rfl))
          try simp only [Act.put, List.setIfInBounds_toArray, List.set_cons_zero, List.set_cons_succ]
          refine take_h 6 ?_ rfl (by kernel_rfl) (by kernel_rfl) (by kernel_rfl) (fun _ _ _ h => h) (Or.inl ⟨by kernel_rfl, ?_⟩) (by assumption) ?_
          rotate_left
          · (intro w hSw; (try dsimp only at hSw); go_simp; try (with_reducible rfl))
          try simp only [Act.put, List.setIfInBounds_toArray, List.set_cons_zero, List.set_cons_succ]
          refine take_h 7 ?_ rfl (by kernel_rfl) (by kernel_rfl) (by kernel_rfl) (fun _ _ _ h => h) (Or.inl ⟨by kernel_rfl, ?_⟩) (by assumption) ?_
          rotate_left
          · (intro w hSw; (try dsimp only at hSw); go_simp; try (with_reducible rfl))
          try simp only [Act.put, List.setIfInBounds_toArray, List.set_cons_zero, List.set_cons_succ]
          refine take_h 8 ?_ rfl (by kernel_rfl) (by kernel_rfl) (by kernel_rfl) (fun _ _ _ h => h) (Or.inl ⟨by kernel_rfl, ?_⟩) (by assumption) ?_
          rotate_left
          · (intro w hSw; (try dsimp only at hSw); go_simp; try (with_reducible rfl))
          try simp only [Act.put, List.setIfInBounds_toArray, List.set_cons_zero, List.set_cons_succ]
          refine take_h 9 ?_ rfl (by kernel_rfl) (by kernel_rfl) (by kernel_rfl) (fun _ _ _ h => h) (Or.inl ⟨by kernel_rfl, ?_⟩) (by assumption) ?_
          rotate_left
          · (intro w hSw; (try dsimp only at hSw); go_simp; try (with_reducible rfl))
          try simp only [Act.put, List.setIfInBounds_toArray, List.set_cons_zero, List.set_cons_succ]
          refine take_h 10 ?_ rfl (by kernel_rfl) (by kernel_rfl) (by kernel_rfl) (fun _ _ _ h => h) (Or.inl ⟨by kernel_rfl, ?_⟩) (by assumption) ?_
          rotate_left
          · (intro w hSw; (try dsimp only at hSw); go_simp; try (with_reducible rfl))
          try simp only [Act.put, List.setIfInBounds_toArray, List.set_cons_zero, List.set_cons_succ]
          refine take_h 11 ?_ rfl (by kernel_rfl) (by kernel_rfl) (by kernel_rfl) (fun _ _ _ h => h) (Or.inl ⟨by kernel_rfl, ?_⟩) (by assumption) ?_
          rotate_left
          · (intro w hSw; (try dsimp only at hSw); go_simp; try (with_reducible rfl))
          try simp only [Act.put, List.setIfInBounds_toArray, List.set_cons_zero, List.set_cons_succ]
          refine take_h 12 ?_ rfl (by kernel_rfl) (by kernel_rfl) (by kernel_rfl) (fun _ _ _ h => h) (Or.inl ⟨by kernel_rfl, ?_⟩) (by assumption) ?_
          rotate_left
          · (intro w hSw; (try dsimp only at hSw); go_simp; try (with_reducible rfl))
          try simp only [Act.put, List.setIfInBounds_toArray, List.set_cons_zero, List.set_cons_succ]
          refine take_h 13 ?_ rfl (by kernel_rfl) (by kernel_rfl) (by kernel_rfl) (fun _ _ _ h => h) (Or.inl ⟨by kernel_rfl, ?_⟩) (by assumption) ?_
          rotate_left
          · (intro w hSw; (try dsimp only at hSw); go_simp; try (with_reducible rfl))
          try simp only [Act.put, List.setIfInBounds_toArray, List.set_cons_zero, List.set_cons_succ]
          refine take_h 14 ?_ rfl (by kernel_rfl) (by kernel_rfl) (by kernel_rfl) (fun _ _ _ h => h) (Or.inl ⟨by kernel_rfl, ?_⟩) (by assumption) ?_
          rotate_left
          · (intro w hSw; (try dsimp only at hSw); go_simp; try (with_reducible rfl))
          try simp only [Act.put, List.setIfInBounds_toArray, List.set_cons_zero, List.set_cons_succ]
          refine take_h 15 ?_ rfl (by kernel_rfl) (by kernel_rfl) (by kernel_rfl) (fun _ _ _ h => h) (Or.inl ⟨by kernel_rfl, ?_⟩) (by assumption) ?_
          rotate_left
          · (intro w hSw; (try dsimp only at hSw); go_simp; try (with_reducible rfl))
          try simp only [Act.put, List.setIfInBounds_toArray, List.set_cons_zero, List.set_cons_succ]
          refine take_h 16 ?_ rfl (by kernel_rfl) (by kernel_rfl) (by kernel_rfl) (fun _ _ _ h => h) (Or.inl ⟨by kernel_rfl, ?_⟩) (by assumption) ?_
          rotate_left
          · (intro w hSw; (try dsimp only at hSw); go_simp; try (with_reducible rfl))
          try simp only [Act.put, List.setIfInBounds_toArray, List.set_cons_zero, List.set_cons_succ]
          refine take_h 17 ?_ rfl (by kernel_rfl) (by kernel_rfl) (by kernel_rfl) (fun _ _ _ h => h) (Or.inl ⟨by kernel_rfl, ?_⟩) (by assumption) ?_
          rotate_left
          · (intro w hSw; (try dsimp only at hSw); go_simp; try (with_reducible rfl))
          try simp only [Act.put, List.setIfInBounds_toArray, List.set_cons_zero, List.set_cons_succ]
          refine take_h 18 ?_ rfl (by kernel_rfl) (by kernel_rfl) (by kernel_rfl) (fun _ _ _ h => h) (Or.inl ⟨by kernel_rfl, ?_⟩) (by assumption) ?_
          rotate_left
          · (intro w hSw; (try dsimp only at hSw); go_simp; try (with_reducible rfl))
          try simp only [Act.put, List.setIfInBounds_toArray, List.set_cons_zero, List.set_cons_succ]
          refine take_h 19 ?_ rfl (by kernel_rfl) (by kernel_rfl) (by kernel_rfl) (fun _ _ _ h => h) (Or.inl ⟨by kernel_rfl, ?_⟩) (by assumption) ?_
          rotate_left
          · (intro w hSw; (try dsimp only at hSw); go_simp; try (with_reducible rfl))
          try simp only [Act.put, List.setIfInBounds_toArray, List.set_cons_zero, List.set_cons_succ]
          refine take_h 20 ?_ rfl (by kernel_rfl) (by kernel_rfl) (by kernel_rfl) (fun _ _ _ h => h) (Or.inl ⟨by kernel_rfl, ?_⟩) (by assumption) ?_
          rotate_left
          · (intro w hSw; (try dsimp only at hSw); go_simp; try (with_reducible rfl))
          try simp only [Act.put, List.setIfInBounds_toArray, List.set_cons_zero, List.set_cons_succ]
          refine take_h 21 ?_ rfl (by kernel_rfl) (by kernel_rfl) (by kernel_rfl) (fun _ _ _ h => h) (Or.inl ⟨by kernel_rfl, ?_⟩) (by assumption) ?_
          rotate_left
          · (intro w hSw; (try dsimp only at hSw); go_simp; try (with_reducible rfl))
          try simp only [Act.put, List.setIfInBounds_toArray, List.set_cons_zero, List.set_cons_succ]
          refine take_h 22 ?_ rfl (by kernel_rfl) (by kernel_rfl) (by kernel_rfl) (fun _ _ _ h => h) (Or.inl ⟨by kernel_rfl, ?_⟩) (by assumption) ?_
          rotate_left
          · (intro w hSw; (try dsimp only at hSw); go_simp; try (with_reducible rfl))
          try simp only [Act.put, List.setIfInBounds_toArray, List.set_cons_zero, List.set_cons_succ]
          refine take_h 23 ?_ rfl (by kernel_rfl) (by kernel_rfl) (by kernel_rfl) (fun _ _ _ h => h) (Or.inl ⟨by kernel_rfl, ?_⟩) (by assumption) ?_
          rotate_left
          · (intro w hSw; (try dsimp only at hSw); go_simp; try (with_reducible rfl))
          try simp only [Act.put, List.setIfInBounds_toArray, List.set_cons_zero, List.set_cons_succ]
          refine take_h 24 ?_ rfl (by kernel_rfl) (by kernel_rfl) (by kernel_rfl) (fun _ _ _ h => h) (Or.inl ⟨by kernel_rfl, ?_⟩) (by assumption) ?_
          rotate_left
          · (intro w hSw; (try dsimp only at hSw); go_simp; try (with_reducible rfl))
          try simp only [Act.put, List.setIfInBounds_toArray, List.set_cons_zero]
          refine wpAnyH_done (by kernel_rfl) ?_ _
          go_wp2
          go_ret
          exact ⟨by first | rfl | simp, HS.out.bel⟩
end Frk
