/- Law 57: epochs.Key. -/
import Derived.Test.YtllbjakfjpjfnaaGreatDoorVxFof
namespace Frk
open Go Go.RowKit Go.Proofs
set_option maxRecDepth 100000
attribute [local go_sem] Oper.semAt_some

def kOf (p : List Ep) : Int := match p.getLast? with | some x => x.K | none => 0
def bOf (p : List Ep) : Bool := p.getLast?.isSome
theorem kOf_snoc (p : List Ep) (x : Ep) : kOf (p ++ [x]) = x.K ∧ bOf (p ++ [x]) = true := by unfold kOf bOf; simp
/-- the program's variables -/
structure KyI (w : World) (t : Int) (g5 g6 g7 : Nat) (k : Int) (b : Bool) (W : World) : Prop where
  c5 : W.heap[g5]? = some (.cells #[.int .i64 t] 3 (0, 0))
  c6 : W.heap[g6]? = some (.cells #[.int .i64 k] 3 (0, 0))
  c7 : W.heap[g7]? = some (.cells #[.bool b] 4 (0, 0))
  bel : Below w.heap.size w W
theorem KyI.grown {w : World} {t : Int} {g5 g6 g7 : Nat} {k : Int} {b : Bool} {W W' : World} {row : Option Nat} (h : KyI w t g5 g6 g7 k b W) (hg : W.grownBy W' row) (hr : ∀ r, row = some r → r ≠ g5 ∧ r ≠ g6 ∧ r ≠ g7 ∧ w.heap.size ≤ r) : KyI w t g5 g6 g7 k b W' :=
  ⟨(hg.block _ (Array.getElem?_eq_some_iff.1 h.c5).1 (fun e => (hr _ e.symm).1 rfl)).trans h.c5, (hg.block _ (Array.getElem?_eq_some_iff.1 h.c6).1 (fun e => (hr _ e.symm).2.1 rfl)).trans h.c6, (hg.block _ (Array.getElem?_eq_some_iff.1 h.c7).1 (fun e => (hr _ e.symm).2.2.1 rfl)).trans h.c7, h.bel.grown hg h.bel.size (fun r e => (hr r e).2.2.2)⟩
theorem KyI.later {w : World} {t : Int} {g5 g6 g7 : Nat} {k : Int} {b : Bool} {W W' : World} (h : KyI w t g5 g6 g7 k b W) (hb : Below W.heap.size W W') : KyI w t g5 g6 g7 k b W' :=
  ⟨(hb.block _ (Array.getElem?_eq_some_iff.1 h.c5).1).trans h.c5, (hb.block _ (Array.getElem?_eq_some_iff.1 h.c6).1).trans h.c6, (hb.block _ (Array.getElem?_eq_some_iff.1 h.c7).1).trans h.c7, h.bel.trans (hb.mono h.bel.size)⟩
theorem KyI.cells {w : World} {t : Int} {g5 g6 g7 : Nat} {k : Int} {b : Bool} {W : World} (h : KyI w t g5 g6 g7 k b W) :
    W.cell? ⟨g5, 0, none⟩ = some (.int .i64 t) ∧ W.cell? ⟨g6, 0, none⟩ = some (.int .i64 k) ∧ W.cell? ⟨g7, 0, none⟩ = some (.bool b) ∧ W.frozen? ⟨g6, 0, none⟩ = false ∧ W.frozen? ⟨g7, 0, none⟩ = false :=
  ⟨by rw [cell_of_row _ _ _ _ _ _ h.c5]; rfl, by rw [cell_of_row _ _ _ _ _ _ h.c6]; rfl, by rw [cell_of_row _ _ _ _ _ _ h.c7]; rfl, frozen_of_row _ _ _ _ _ h.c6, frozen_of_row _ _ _ _ _ h.c7⟩
theorem KyI.set6 {w : World} {t : Int} {g5 g6 g7 : Nat} {k : Int} {b : Bool} {W : World} (h : KyI w t g5 g6 g7 k b W) (h56 : g5 ≠ g6) (h67 : g6 ≠ g7) (hw : w.heap.size ≤ g6) (k' : Int) : KyI w t g5 g6 g7 k' b (W.setCell ⟨g6, 0, none⟩ (.int .i64 k')) :=
  ⟨(Below.heap_setCell W ⟨g6, 0, none⟩ _ g5 h56).trans h.c5, by simpa using heap_setCell_row (cs := [.int .i64 k]) (i := 0) (.int .i64 k') h.c6, (Below.heap_setCell W ⟨g6, 0, none⟩ _ g7 (Ne.symm h67)).trans h.c7, h.bel.setCell (p := ⟨g6, 0, none⟩) hw _⟩
theorem KyI.set7 {w : World} {t : Int} {g5 g6 g7 : Nat} {k : Int} {b : Bool} {W : World} (h : KyI w t g5 g6 g7 k b W) (h57 : g5 ≠ g7) (h67 : g6 ≠ g7) (hw : w.heap.size ≤ g7) (b' : Bool) : KyI w t g5 g6 g7 k b' (W.setCell ⟨g7, 0, none⟩ (.bool b')) :=
  ⟨(Below.heap_setCell W ⟨g7, 0, none⟩ _ g5 h57).trans h.c5, (Below.heap_setCell W ⟨g7, 0, none⟩ _ g6 h67).trans h.c6, by simpa using heap_setCell_row (cs := [.bool b]) (i := 0) (.bool b') h.c7, h.bel.setCell (p := ⟨g7, 0, none⟩) hw _⟩
theorem KyI.set {w : World} {t : Int} {g5 g6 g7 : Nat} {k : Int} {b : Bool} {W : World} (h : KyI w t g5 g6 g7 k b W) (h56 : g5 ≠ g6) (h57 : g5 ≠ g7) (h67 : g6 ≠ g7) (hw : w.heap.size ≤ g6 ∧ w.heap.size ≤ g7) (k' : Int) (b' : Bool) : KyI w t g5 g6 g7 k' b' ((W.setCell ⟨g6, 0, none⟩ (.int .i64 k')).setCell ⟨g7, 0, none⟩ (.bool b')) :=
  (h.set6 h56 h67 hw.1 k').set7 h57 h67 hw.2 b'
theorem keyF_all {l : List Ep} {o t : Int} (h : ∀ x ∈ l.filter (ofO o), x.F ≤ t) : keyF l o t = (l.filter (ofO o)).getLast? := by
  unfold keyF
  congr 1
  refine List.filter_congr fun x hx => ?_
  unfold selE
  by_cases ho : x.O = o
  · have := h x (List.mem_filter.2 ⟨hx, by unfold ofO; exact decide_eq_true ho⟩)
    unfold ofO
    rw [decide_eq_true ho, decide_eq_true this]
    rfl
  · unfold ofO
    rw [decide_eq_false ho]
    rfl
theorem key_of {l : List Ep} {o t : Int} {p : List Ep} (h : keyF l o t = p.getLast?) : keyV l o t = kOf p ∧ keyB l o t = bOf p := by
  unfold keyV keyB kOf bOf
  rw [h]
  exact ⟨rfl, rfl⟩
theorem exec_alloc_ep {ρ : Operand → Value} {op : Oper} (ho : op.op = .alloc 80) (w : World) :
    (execOp ρ op).run Tryz.prog w = .ok (.value (.pointer (some ⟨w.heap.size, 0, none⟩))) (w.alloc (.cells #[.int .i64 0, .int .i64 0, .int .i64 0] 80)) := by
  unfold execOp
  rw [ho]
  go_simp
theorem wpListIn_alloc_f {l n : Nat} {P : Program} {ops : Array Oper} {rest : List Oper} {o : Oper} {a : Act} {w : World} {Q : Exit → Act → World → Prop} (hg : o.guard = none) (ty : TypeId) (ho : o.op = .alloc ty) (v : Value) (w' : World) (hrun : (execOp a.eval o).run P w = .ok (.value v) w')
    (h : wpListIn (Fence.wide.inRound l) n P ops Q rest (a.put o.dst v) w') : wpListIn (Fence.wide.inRound l) n P ops Q (o :: rest) a w :=
  wpListIn_plain hg fun K hK' => opIn_of_op (by rw [ho]; intro c hc; cases hc) (by unfold Oper.wp; rw [hrun]; exact hK' _ _ h)

set_option maxHeartbeats 8000000 in
theorem fkey_any (a : Option Addr) (n c : Nat) (l : List Ep) (o t : Int) (w : World) (hd : IsE w a n c l) :
    Calls Tryz.prog 50 #[.slice a n c, .int .i64 o, .int .i64 t] w fun e w' => e = .returned (.tuple #[.int .i64 (keyR l o t).1, .bool (keyR l o t).2.1, .int .i64 (keyR l o t).2.2]) ∧ Below w.heap.size w w' := by
  obtain ⟨X, hX⟩ : ∃ X : World, X = ((w.alloc (.cells #[.int .i64 t] 3)).alloc (.cells #[.int .i64 0] 3)).alloc (.cells #[.bool false] 4) := ⟨_, rfl⟩
  obtain ⟨g5, h5⟩ : ∃ g, g = w.heap.size := ⟨_, rfl⟩
  obtain ⟨g6, h6⟩ : ∃ g, g = w.heap.size + 1 := ⟨_, rfl⟩
  obtain ⟨g7, h7⟩ : ∃ g, g = w.heap.size + 1 + 1 := ⟨_, rfl⟩
  have HG : Seal (g5 = w.heap.size ∧ g6 = g5 + 1 ∧ g7 = g5 + 2) := ⟨by omega⟩
  have HK : Seal (KyI w t g5 g6 g7 0 false X) := ⟨by
    obtain ⟨X1, hX1⟩ : ∃ X1, X1 = w.alloc (.cells #[.int .i64 t] 3) := ⟨_, rfl⟩
    obtain ⟨X2, hX2⟩ : ∃ X2, X2 = X1.alloc (.cells #[.int .i64 0] 3) := ⟨_, rfl⟩
    have hX3 : X = X2.alloc (.cells #[.bool false] 4) := by rw [hX, hX2, hX1]
    have b1 : Below w.heap.size w X1 := by rw [hX1]; exact below_alloc _ _
    have b2 : Below X1.heap.size X1 X2 := by rw [hX2]; exact below_alloc _ _
    have b3 : Below X2.heap.size X2 X := by rw [hX3]; exact below_alloc _ _
    have s1 : X1.heap.size = w.heap.size + 1 := by rw [hX1, size_alloc]
    have s2 : X2.heap.size = w.heap.size + 1 + 1 := by rw [hX2, size_alloc, s1]
    have p1 : X1.heap[g5]? = some (.cells #[.int .i64 t] 3 (0, 0)) := by rw [h5, hX1]; exact heap_alloc_new w _
    have p2 : X2.heap[g6]? = some (.cells #[.int .i64 0] 3 (0, 0)) := by rw [h6, ← s1, hX2]; exact heap_alloc_new X1 _
    have p3 : X.heap[g7]? = some (.cells #[.bool false] 4 (0, 0)) := by rw [h7, ← s2, hX3]; exact heap_alloc_new X2 _
    have b23 := b2.trans (b3.mono b2.size)
    exact ⟨(b23.block _ (by omega)).trans p1, (b3.block _ (by omega)).trans p2, p3, b1.trans (b23.mono b1.size)⟩⟩
  obtain ⟨e0, he0⟩ : ∃ e, e = epChk l := ⟨_, rfl⟩
  have HC1 := Seal.mk (fcheck_any a n c l X (hd.below HK.out.bel))
  rw [← he0] at HC1
  have HD := Seal.mk hd
  obtain ⟨R, hR⟩ : ∃ R, R = keyR l o t := ⟨_, rfl⟩
  have HRE := Seal.mk hR
  have HE0 := Seal.mk he0
  rw [← hR]
  clear hd hR he0
  refine (callsIn_wide (n := 3)).1 ?_
  refine callsIn_of_wp_marks Tryz.func50 rfl trivial ?_ rfl
  simp only [Tryz.ntmps50, List.size_toArray, List.length_cons, List.length_nil, Nat.reduceAdd, Nat.reduceSub, Array.replicate_succ, Array.replicate_zero, List.push_toArray, List.append_toArray, List.nil_append, List.cons_append]
  refine wpIn_wide.2 ?_
  go_upto_region 1 with (fail)
  rw [← hX, ← h7, ← h6, ← h5]
  clear hX h5 h6 h7
  go_wp2_with fail
  refine HC1.out.mono ?_
  rintro e w1 ⟨rfl, hb⟩
  have HK1 := Seal.mk (HK.out.later hb)
  obtain ⟨c5, c6, c7, z6, z7⟩ := HK1.out.cells
  have n67 : ¬ g6 = g7 := by have := HG.out; omega
  have n76 : ¬ g7 = g6 := by have := HG.out; omega
  clear hb HC1 HK
  by_cases hz : e0 = 0
  rotate_left
  · have HR : Seal (R = (0, false, e0)) := ⟨by rw [HRE.out]; unfold keyR keyE; rw [if_pos (show epChk l ≠ 0 by rw [← HE0.out]; exact hz), if_pos (by rw [← HE0.out]; exact hz), HE0.out]⟩
    have HS := Seal.mk (HK1.out.set (by have := HG.out; omega) (by have := HG.out; omega) (by have := HG.out; omega) (by have := HG.out; omega) 0 false)
    go_wp2
    obtain ⟨Z, hZ⟩ : ∃ Z, Z = (w1.setCell ⟨g6, 0, none⟩ (.int .i64 0)).setCell ⟨g7, 0, none⟩ (.bool false) := ⟨_, rfl⟩
    rw [← hZ] at HS ⊢
    obtain ⟨_, d6, d7, _, _⟩ := HS.out.cells
    refine ⟨_, by simp [results, Tryz.results50, go_sem, d6, d7]; rfl, by rw [HR.out], HS.out.bel⟩
  · subst hz
    have HKE : Seal (keyE l o t = if o < 0 ∨ t < 0 ∨ 24 ≤ o ∨ 2097152 ≤ t then 1 else 0) := ⟨by unfold keyE; rw [if_neg (by rw [← HE0.out]; simp)]⟩
    by_cases a1 : (if t < o then t else o) < 0
    · have HR : Seal (R = (0, false, 1)) := ⟨by rw [HRE.out]; unfold keyR; rw [HKE.out, if_pos (show o < 0 ∨ t < 0 ∨ 24 ≤ o ∨ 2097152 ≤ t by split at a1 <;> omega)]; rfl⟩
      have HS := Seal.mk (HK1.out.set (by have := HG.out; omega) (by have := HG.out; omega) (by have := HG.out; omega) (by have := HG.out; omega) 0 false)
      go_wp2
      obtain ⟨Z, hZ⟩ : ∃ Z, Z = (w1.setCell ⟨g6, 0, none⟩ (.int .i64 0)).setCell ⟨g7, 0, none⟩ (.bool false) := ⟨_, rfl⟩
      rw [← hZ] at HS ⊢
      obtain ⟨_, d6, d7, _, _⟩ := HS.out.cells
      refine ⟨_, by simp [results, Tryz.results50, go_sem, d6, d7]; rfl, by rw [HR.out], HS.out.bel⟩
    · by_cases a2 : 24 ≤ o
      · have HR : Seal (R = (0, false, 1)) := ⟨by rw [HRE.out]; unfold keyR; rw [HKE.out, if_pos (show o < 0 ∨ t < 0 ∨ 24 ≤ o ∨ 2097152 ≤ t by omega)]; rfl⟩
        have HS := Seal.mk (HK1.out.set (by have := HG.out; omega) (by have := HG.out; omega) (by have := HG.out; omega) (by have := HG.out; omega) 0 false)
        go_wp2
        obtain ⟨Z, hZ⟩ : ∃ Z, Z = (w1.setCell ⟨g6, 0, none⟩ (.int .i64 0)).setCell ⟨g7, 0, none⟩ (.bool false) := ⟨_, rfl⟩
        rw [← hZ] at HS ⊢
        obtain ⟨_, d6, d7, _, _⟩ := HS.out.cells
        refine ⟨_, by simp [results, Tryz.results50, go_sem, d6, d7]; rfl, by rw [HR.out], HS.out.bel⟩
      · by_cases a3 : 2097152 ≤ t
        · have HR : Seal (R = (0, false, 1)) := ⟨by rw [HRE.out]; unfold keyR; rw [HKE.out, if_pos (show o < 0 ∨ t < 0 ∨ 24 ≤ o ∨ 2097152 ≤ t by omega)]; rfl⟩
          have HS := Seal.mk (HK1.out.set (by have := HG.out; omega) (by have := HG.out; omega) (by have := HG.out; omega) (by have := HG.out; omega) 0 false)
          go_wp2
          obtain ⟨Z, hZ⟩ : ∃ Z, Z = (w1.setCell ⟨g6, 0, none⟩ (.int .i64 0)).setCell ⟨g7, 0, none⟩ (.bool false) := ⟨_, rfl⟩
          rw [← hZ] at HS ⊢
          obtain ⟨_, d6, d7, _, _⟩ := HS.out.cells
          refine ⟨_, by simp [results, Tryz.results50, go_sem, d6, d7]; rfl, by rw [HR.out], HS.out.bel⟩
        · have HR : Seal (R = (keyV l o t, keyB l o t, 0)) := ⟨by rw [HRE.out]; unfold keyR; rw [HKE.out, if_neg (show ¬ (o < 0 ∨ t < 0 ∨ 24 ≤ o ∨ 2097152 ≤ t) by split at a1 <;> omega)]; rfl⟩
          go_wp2_with fail
          refine (fof_any a n c o w1).mono ?_
          rintro e Y0 ⟨rfl, hY⟩
          obtain ⟨Y, rfl⟩ : ∃ Y, Y = Y0 := ⟨_, rfl⟩
          have hYb : Below w1.heap.size w1 Y := by rw [← hY]; exact (below_alloc w1 _).trans ((below_alloc _ _).mono (by rw [size_alloc]; omega))
          obtain ⟨gl, hgl⟩ : ∃ g, g = w1.heap.size := ⟨_, rfl⟩
          have hYs : Y.heap.size = gl + 2 := by rw [← hY]; simp; omega
          have hY1 : Y.cell? ⟨gl + 1, 0, none⟩ = some (.int .i64 o) := by
            have h := heap_alloc_new (w1.alloc (.cells #[.slice a n c] 22)) (.cells #[.int .i64 o] 3)
            rw [size_alloc] at h
            rw [← hY, hgl, cell_of_row _ _ _ _ _ _ h]; rfl
          have hY2 : Y.cell? ⟨gl, 0, none⟩ = some (.slice a n c) := by
            have h := heap_alloc_new w1 (.cells #[.slice a n c] 22)
            rw [← hY, hgl, cell_of_row _ _ _ _ _ _ ((Below.heap_alloc _ _ _ (by rw [size_alloc]; omega)).trans h)]; rfl
          have HKY := Seal.mk (HK1.out.later hYb)
          have HSeq := Seal.mk (fof_brk 2 gl (gl + 1) a n c l o Y hY2 hY1 (HD.out.below HKY.out.bel))
          have hg7 : g7 < gl := by rw [hgl]; exact (Array.getElem?_eq_some_iff.1 HK1.out.c7).1
          have HMi : Seal (∀ r, r = gl + 1 ∨ (0 < n ∧ ∃ off, a = some ⟨r, off, none⟩) → r < Y.heap.size ∧ r ≠ g6 ∧ r ≠ g7) := ⟨fun r hr => by
            have hGG := HG.out
            rcases hr with rfl | ⟨h0, off, e⟩
            · omega
            · rcases HD.out.at_ with h1 | ⟨g, o', e', _, hg⟩
              · omega
              · rw [e] at e'; cases e'; have := HKY.out.bel.size; omega⟩
          have HYs : Seal (Y.heap.size = gl + 2 ∧ g7 < gl) := ⟨hYs, hg7⟩
          have HR1 : Seal (risE l) := ⟨(epChk_zero.1 HE0.out.symm).2.2⟩
          rw [← hgl]
          clear hY hYb hYs hY1 hY2 hgl hg7 c5 c6 c7 z6 z7 HK1
          go_wp2_with fail
          refine (wpIn_wide (n := 3)).1 ?_
          refine wpIn_rangeFunc_brk1 (q := 9) rfl (by decide) (gf := 95) (lb := #[.pointer (some ⟨gl, 0, none⟩), .pointer (some ⟨gl + 1, 0, none⟩)]) rfl trivial (enters_of Tryz.func95 (by kernel_rfl) rfl)
            HSeq.out (fun r hr => (HMi.out r hr).1)
            (fun pre W => (∀ x ∈ pre, x.F ≤ t) ∧ KyI w t g5 g6 g7 (kOf pre) (bOf pre) W)
            (fun id pre W => id = 0 ∧ ∃ p x, pre = p ++ [x] ∧ (∀ y ∈ p, y.F ≤ t) ∧ t < x.F ∧ KyI w t g5 g6 g7 (kOf p) (bOf p) W) ?own ?none ?ownx ⟨by simp, HKY.out⟩ (fun x => .cells x.C.toArray 80) ?assign ?body ?done ?stop
          case own =>
            rintro pre A B' ⟨h, hA⟩ hg
            exact ⟨h, hA.grown hg (fun r e => by have := Option.some.inj e; have := HYs.out; have := HG.out; omega)⟩
          case none =>
            rintro pre A B' ⟨h, hA⟩ hg
            exact ⟨h, hA.grown hg (fun r e => by cases e)⟩
          case ownx =>
            rintro id pre A B' ⟨h0, p, x, h1, h2, h3, hA⟩ hg
            exact ⟨h0, p, x, h1, h2, h3, hA.grown hg (fun r e => by have := Option.some.inj e; have := HYs.out; have := HG.out; omega)⟩
          case assign =>
            intro lx x W K hK
            have hn := heap_alloc_new W (.cells #[.int .i64 0, .int .i64 0, .int .i64 0] 80)
            have iC : (Tryz.prog.info? 80).map (·.size) = some x.C.toArray.size := by rw [List.size_toArray]; exact ep_info x
            have aC := ep_one x
            have hK' : (W.alloc (.cells #[.int .i64 0, .int .i64 0, .int .i64 0] 80)).setRow W.heap.size x.C.toArray = W.alloc (.cells x.C.toArray 80) := by
              have := setRow_new W [.int .i64 0, .int .i64 0, .int .i64 0] x.C 80
              simpa using this
            unfold encEp at hK ⊢
            simp only [List.setIfInBounds_toArray, List.set_cons_zero, List.set_cons_succ] at hK ⊢
            obtain ⟨C, hC⟩ : ∃ C, C = x.C.toArray := ⟨_, rfl⟩
            have sC : (#[.int .i64 0, .int .i64 0, .int .i64 0] : Array Value).size = C.size := by rw [hC]; rfl
            rw [← hC] at hK hK' iC aC ⊢
            clear hC
            apply wpIn_region_lit
            refine wpListIn_alloc_f rfl 80 rfl (.pointer (some ⟨W.heap.size, 0, none⟩)) (W.alloc (.cells #[.int .i64 0, .int .i64 0, .int .i64 0] 80)) (exec_alloc_ep rfl _) ?_
            (try simp only [Act.put, List.setIfInBounds_toArray, List.set_cons_zero, List.set_cons_succ])
            refine wpListIn_store_row rfl 80 (.tmp 9) (.tmp 30) rfl W.heap.size C rfl rfl 80 _ hn iC sC aC ?_
            rw [hK']
            exact hK
          case body =>
            rintro lx pre x gx W ⟨hp, hA⟩ hnx hgx hsz
            obtain ⟨F, hF⟩ : ∃ F, F = x.F := ⟨_, rfl⟩
            obtain ⟨K, hK⟩ : ∃ F, F = x.K := ⟨_, rfl⟩
            have k1 : W.cell? ⟨gx, 1, none⟩ = some (.int .i64 F) := by rw [cell_of_row _ _ _ _ _ _ hnx, hF]; rfl
            have k2 : W.cell? ⟨gx, 2, none⟩ = some (.int .i64 K) := by rw [cell_of_row _ _ _ _ _ _ hnx, hK]; rfl
            obtain ⟨c5, c6, c7, z6, z7⟩ := hA.cells
            have HA := Seal.mk hA
            have HP := Seal.mk hp
            have HX : Seal (F = x.F ∧ K = x.K) := ⟨hF, hK⟩
            unfold encEp
            simp only [List.setIfInBounds_toArray, List.set_cons_zero, List.set_cons_succ]
            obtain ⟨CV, hCV⟩ : ∃ C, C = Value.agg x.C.toArray := ⟨_, rfl⟩
            rw [← hCV]
            clear hA hp hF hK hnx hgx hsz hCV
            by_cases hf : t < F
            · have HL : Seal (t < x.F) := ⟨by rw [← HX.out.1]; exact hf⟩
              gi_wp2
              exact ⟨⟨Nat.le_refl _, fun _ _ => rfl⟩, rfl, pre, x, rfl, HP.out, HL.out, HA.out⟩
            · have HL : Seal (x.F ≤ t) := ⟨by rw [← HX.out.1]; omega⟩
              have HS := Seal.mk (HA.out.set (by have := HG.out; omega) (by have := HG.out; omega) (by have := HG.out; omega) (by have := HG.out; omega) K true)
              gi_wp2
              obtain ⟨Z, hZ⟩ : ∃ Z, Z = (W.setCell ⟨g6, 0, none⟩ (.int .i64 K)).setCell ⟨g7, 0, none⟩ (.bool true) := ⟨_, rfl⟩
              have hot : ∀ r, r ≠ g6 → r ≠ g7 → Z.heap[r]? = W.heap[r]? := fun r h1 h2 => by rw [hZ]; exact (Below.heap_setCell _ ⟨g7, 0, none⟩ _ r h2).trans (Below.heap_setCell W ⟨g6, 0, none⟩ _ r h1)
              have hsz : W.heap.size ≤ Z.heap.size := by rw [hZ]; simp
              rw [← hZ] at HS ⊢
              refine ⟨⟨hsz, fun r hr => hot r (by have := HYs.out; have := HG.out; omega) (by have := HYs.out; omega)⟩, fun r hr => hot r (HMi.out r hr).2.1 (HMi.out r hr).2.2, fun y hy => ?_, ?_⟩
              · rcases List.mem_append.1 hy with hy | hy
                · exact HP.out y hy
                · rw [List.mem_singleton.1 hy]; exact HL.out
              · rw [(kOf_snoc pre x).1, (kOf_snoc pre x).2, ← HX.out.2]
                exact HS.out
          case done =>
            clear HSeq HKY
            rintro xs W rfl ⟨h, hA⟩ hw1 hD
            have hkb := key_of (keyF_all h)
            obtain ⟨k, hk⟩ : ∃ k, k = kOf (l.filter (ofO o)) := ⟨_, rfl⟩
            obtain ⟨b, hb⟩ : ∃ k, k = bOf (l.filter (ofO o)) := ⟨_, rfl⟩
            rw [← hk, ← hb] at hA hkb
            have HKB := Seal.mk hkb
            clear hk hb h hw1 hkb
            obtain ⟨V, hV⟩ : ∃ V, V = W.drew := ⟨_, rfl⟩
            have HV : Seal (KyI w t g5 g6 g7 k b V ∧ V.heap[Y.heap.size]? = some (.deferred (some []))) := ⟨by rw [hV]; exact hA.later (below_drewn_f W), by rw [hV]; exact hD⟩
            clear hA hD
            go_wp2_with fail
            obtain ⟨_, d6, d7, y6, y7⟩ := HV.out.1.cells
            refine wp_region_held_drew (S := fun W' => W'.cell? ⟨g6, 0, none⟩ = some (.int .i64 k) ∧ W'.cell? ⟨g7, 0, none⟩ = some (.bool b) ∧ W'.frozen? ⟨g6, 0, none⟩ = false ∧ W'.frozen? ⟨g7, 0, none⟩ = false) (by kernel_rfl) (by rw [← hV]; exact ⟨d6, d7, y6, y7⟩) (fun hHeld => ?_)
            rw [← hV] at hHeld ⊢
            clear hV
            have K6 := Seal.mk (HV.out.1.set6 (by have := HG.out; omega) (by have := HG.out; omega) (by have := HG.out; omega) k)
            refine wpAnyH_ready (rs := [0, 1]) (by kernel_rfl) (by simp) (oper_b 0 (.int .i64 k) V rfl (by kernel_rfl) (by go_simp) hHeld (fun hHeld1 => ?_) (oper_b 1 (.bool b) V rfl (by kernel_rfl) (by go_simp) hHeld (fun hHeld1 => ?_) AllReadyH.nil))
            · clear hHeld1
              try simp only [Act.put, List.setIfInBounds_toArray, List.set_cons_zero, List.set_cons_succ]
              refine wpAnyH_ready (rs := [1, 2]) (by kernel_rfl) (by simp) (oper_b 1 (.bool b) V rfl (by kernel_rfl) (by go_simp) hHeld (fun hHeld1 => ?_) (skip_b 2 (V.setCell ⟨g6, 0, none⟩ (.int .i64 k)) rfl (by kernel_rfl) (by go_simp) (by obtain ⟨_, x6, x7, v6, v7⟩ := K6.out.cells; exact ⟨x6, x7, v6, v7⟩) (fun hHeld2 => ?_) AllReadyH.nil))
              · clear hHeld1
                try simp only [Act.put, List.setIfInBounds_toArray, List.set_cons_zero, List.set_cons_succ]
                refine skip_h 2 (V.setCell ⟨g6, 0, none⟩ (.int .i64 k)) rfl (by kernel_rfl) (by kernel_rfl) (by go_simp) (by obtain ⟨_, x6, x7, v6, v7⟩ := K6.out.cells; exact ⟨x6, x7, v6, v7⟩) (fun hHeld2 => ?_)
                try simp only [Act.put]
                have K7 := Seal.mk (K6.out.set7 (by have := HG.out; omega) (by have := HG.out; omega) (by have := HG.out; omega) b)
                have hD7 : Seal (((V.setCell ⟨g6, 0, none⟩ (.int .i64 k)).setCell ⟨g7, 0, none⟩ (.bool b)).heap[Y.heap.size]? = some (.deferred (some []))) := ⟨(Below.heap_setCell _ ⟨g7, 0, none⟩ _ _ (by have := HYs.out; show Y.heap.size ≠ g7; omega)).trans ((Below.heap_setCell _ ⟨g6, 0, none⟩ _ _ (by have := HYs.out; have := HG.out; show Y.heap.size ≠ g6; omega)).trans HV.out.2)⟩
                obtain ⟨V6, hV6⟩ : ∃ Z, Z = V.setCell ⟨g6, 0, none⟩ (.int .i64 k) := ⟨_, rfl⟩
                rw [← hV6] at hHeld2 K6 K7 hD7 ⊢
                clear hV6 hHeld d6 d7 y6 y7
                obtain ⟨_, d6, d7, y6, y7⟩ := K6.out.cells
                refine skip_h 3 (V6.setCell ⟨g7, 0, none⟩ (.bool b)) rfl (by kernel_rfl) (by kernel_rfl) (by go_simp) (by obtain ⟨_, x6, x7, v6, v7⟩ := K7.out.cells; exact ⟨x6, x7, v6, v7⟩) (fun hHeld3 => ?_)
                try simp only [Act.put]
                obtain ⟨Z, hZ⟩ : ∃ Z, Z = V6.setCell ⟨g7, 0, none⟩ (.bool b) := ⟨_, rfl⟩
                rw [← hZ] at hHeld3 K7 hD7 ⊢
                clear hZ hHeld2 d6 d7 y6 y7 K6
                refine oper_h 4 (.int .i64 0) Z rfl (by kernel_rfl) (by kernel_rfl) (by go_simp) hHeld3 (fun hHeld4 => ?_)
                try simp only [Act.put, List.setIfInBounds_toArray, List.set_cons_zero, List.set_cons_succ]
                refine wpAnyH_done (by kernel_rfl) ?_ _
                clear hHeld3 hHeld4
                go_wp2
                have hZ5 : KyI w t g5 g6 g7 k b (Z.putObj Y.heap.size (.deferred none)) := K7.out.grown (grownBy_putObj' _ _ _) (fun r e => by have := Option.some.inj e; have := HYs.out; have := HG.out; omega)
                obtain ⟨_, d6, d7, _, _⟩ := hZ5.cells
                refine ⟨by simp, .inl ⟨_, _, rfl, run_takeDeferred hD7.out, ?_⟩⟩
                refine ⟨_, by simp [results, Tryz.results50, go_sem, d6, d7]; rfl, by rw [HR.out, HKB.out.1, HKB.out.2], hZ5.bel⟩
              · skip
                try simp only [Act.put]
                have K7 := Seal.mk (K6.out.set7 (by have := HG.out; omega) (by have := HG.out; omega) (by have := HG.out; omega) b)
                have hD7 : Seal (((V.setCell ⟨g6, 0, none⟩ (.int .i64 k)).setCell ⟨g7, 0, none⟩ (.bool b)).heap[Y.heap.size]? = some (.deferred (some []))) := ⟨(Below.heap_setCell _ ⟨g7, 0, none⟩ _ _ (by have := HYs.out; show Y.heap.size ≠ g7; omega)).trans ((Below.heap_setCell _ ⟨g6, 0, none⟩ _ _ (by have := HYs.out; have := HG.out; show Y.heap.size ≠ g6; omega)).trans HV.out.2)⟩
                obtain ⟨V6, hV6⟩ : ∃ Z, Z = V.setCell ⟨g6, 0, none⟩ (.int .i64 k) := ⟨_, rfl⟩
                rw [← hV6] at hHeld2 K6 K7 hD7 ⊢
                clear hV6 hHeld d6 d7 y6 y7
                obtain ⟨_, d6, d7, y6, y7⟩ := K6.out.cells
                refine oper_h 1 (.bool b) V6 rfl (by kernel_rfl) (by kernel_rfl) (by go_simp) hHeld2 (fun hHeld1 => ?_)
                clear hHeld1
                try simp only [Act.put, List.setIfInBounds_toArray, List.set_cons_zero, List.set_cons_succ]
                refine skip_h 3 (V6.setCell ⟨g7, 0, none⟩ (.bool b)) rfl (by kernel_rfl) (by kernel_rfl) (by go_simp) (by obtain ⟨_, x6, x7, v6, v7⟩ := K7.out.cells; exact ⟨x6, x7, v6, v7⟩) (fun hHeld3 => ?_)
                try simp only [Act.put]
                obtain ⟨Z, hZ⟩ : ∃ Z, Z = V6.setCell ⟨g7, 0, none⟩ (.bool b) := ⟨_, rfl⟩
                rw [← hZ] at hHeld3 K7 hD7 ⊢
                clear hZ hHeld2 d6 d7 y6 y7 K6
                refine oper_h 4 (.int .i64 0) Z rfl (by kernel_rfl) (by kernel_rfl) (by go_simp) hHeld3 (fun hHeld4 => ?_)
                try simp only [Act.put, List.setIfInBounds_toArray, List.set_cons_zero, List.set_cons_succ]
                refine wpAnyH_done (by kernel_rfl) ?_ _
                clear hHeld3 hHeld4
                go_wp2
                have hZ5 : KyI w t g5 g6 g7 k b (Z.putObj Y.heap.size (.deferred none)) := K7.out.grown (grownBy_putObj' _ _ _) (fun r e => by have := Option.some.inj e; have := HYs.out; have := HG.out; omega)
                obtain ⟨_, d6, d7, _, _⟩ := hZ5.cells
                refine ⟨by simp, .inl ⟨_, _, rfl, run_takeDeferred hD7.out, ?_⟩⟩
                refine ⟨_, by simp [results, Tryz.results50, go_sem, d6, d7]; rfl, by rw [HR.out, HKB.out.1, HKB.out.2], hZ5.bel⟩
            · clear hHeld1
              try simp only [Act.put, List.setIfInBounds_toArray, List.set_cons_zero, List.set_cons_succ]
              refine oper_h 0 (.int .i64 k) V rfl (by kernel_rfl) (by kernel_rfl) (by go_simp) hHeld (fun hHeld1 => ?_)
              clear hHeld1
              try simp only [Act.put, List.setIfInBounds_toArray, List.set_cons_zero, List.set_cons_succ]
              refine skip_h 2 (V.setCell ⟨g6, 0, none⟩ (.int .i64 k)) rfl (by kernel_rfl) (by kernel_rfl) (by go_simp) (by obtain ⟨_, x6, x7, v6, v7⟩ := K6.out.cells; exact ⟨x6, x7, v6, v7⟩) (fun hHeld2 => ?_)
              try simp only [Act.put]
              have K7 := Seal.mk (K6.out.set7 (by have := HG.out; omega) (by have := HG.out; omega) (by have := HG.out; omega) b)
              have hD7 : Seal (((V.setCell ⟨g6, 0, none⟩ (.int .i64 k)).setCell ⟨g7, 0, none⟩ (.bool b)).heap[Y.heap.size]? = some (.deferred (some []))) := ⟨(Below.heap_setCell _ ⟨g7, 0, none⟩ _ _ (by have := HYs.out; show Y.heap.size ≠ g7; omega)).trans ((Below.heap_setCell _ ⟨g6, 0, none⟩ _ _ (by have := HYs.out; have := HG.out; show Y.heap.size ≠ g6; omega)).trans HV.out.2)⟩
              obtain ⟨V6, hV6⟩ : ∃ Z, Z = V.setCell ⟨g6, 0, none⟩ (.int .i64 k) := ⟨_, rfl⟩
              rw [← hV6] at hHeld2 K6 K7 hD7 ⊢
              clear hV6 hHeld d6 d7 y6 y7
              obtain ⟨_, d6, d7, y6, y7⟩ := K6.out.cells
              refine skip_h 3 (V6.setCell ⟨g7, 0, none⟩ (.bool b)) rfl (by kernel_rfl) (by kernel_rfl) (by go_simp) (by obtain ⟨_, x6, x7, v6, v7⟩ := K7.out.cells; exact ⟨x6, x7, v6, v7⟩) (fun hHeld3 => ?_)
              try simp only [Act.put]
              obtain ⟨Z, hZ⟩ : ∃ Z, Z = V6.setCell ⟨g7, 0, none⟩ (.bool b) := ⟨_, rfl⟩
              rw [← hZ] at hHeld3 K7 hD7 ⊢
              clear hZ hHeld2 d6 d7 y6 y7 K6
              refine oper_h 4 (.int .i64 0) Z rfl (by kernel_rfl) (by kernel_rfl) (by go_simp) hHeld3 (fun hHeld4 => ?_)
              try simp only [Act.put, List.setIfInBounds_toArray, List.set_cons_zero, List.set_cons_succ]
              refine wpAnyH_done (by kernel_rfl) ?_ _
              clear hHeld3 hHeld4
              go_wp2
              have hZ5 : KyI w t g5 g6 g7 k b (Z.putObj Y.heap.size (.deferred none)) := K7.out.grown (grownBy_putObj' _ _ _) (fun r e => by have := Option.some.inj e; have := HYs.out; have := HG.out; omega)
              obtain ⟨_, d6, d7, _, _⟩ := hZ5.cells
              refine ⟨by simp, .inl ⟨_, _, rfl, run_takeDeferred hD7.out, ?_⟩⟩
              refine ⟨_, by simp [results, Tryz.results50, go_sem, d6, d7]; rfl, by rw [HR.out, HKB.out.1, HKB.out.2], hZ5.bel⟩
          case stop =>
            clear HSeq HKY
            rintro id pre W ⟨i, x, hx, hxo, e⟩ ⟨rfl, p, x', e', hp, hxt, hA⟩ hw1 hD
            rw [e] at e'
            obtain ⟨e1, e2⟩ := List.append_inj' e' rfl
            obtain rfl : x = x' := by simpa using e2
            have hf : keyF l o t = p.getLast? := by
              rw [keyF_stop HR1.out hx hxo hxt, ← e1]
              exact keyF_all (by rw [e1]; exact hp)
            have hkb := key_of hf
            obtain ⟨k, hk⟩ : ∃ k, k = kOf p := ⟨_, rfl⟩
            obtain ⟨b, hb⟩ : ∃ k, k = bOf p := ⟨_, rfl⟩
            rw [← hk, ← hb] at hA hkb
            have HKB := Seal.mk hkb
            clear hk hb e e' e1 e2 hx hxo hp hxt hw1 hkb hf
            refine wpIn_wide.2 ?_
            obtain ⟨V, hV⟩ : ∃ V, V = W.drew := ⟨_, rfl⟩
            have HV : Seal (KyI w t g5 g6 g7 k b V ∧ V.heap[Y.heap.size]? = some (.deferred (some []))) := ⟨by rw [hV]; exact hA.later (below_drewn_f W), by rw [hV]; exact hD⟩
            clear hA hD
            go_wp2_with fail
            obtain ⟨_, d6, d7, y6, y7⟩ := HV.out.1.cells
            refine wp_region_held_drew (S := fun W' => W'.cell? ⟨g6, 0, none⟩ = some (.int .i64 k) ∧ W'.cell? ⟨g7, 0, none⟩ = some (.bool b) ∧ W'.frozen? ⟨g6, 0, none⟩ = false ∧ W'.frozen? ⟨g7, 0, none⟩ = false) (by kernel_rfl) (by rw [← hV]; exact ⟨d6, d7, y6, y7⟩) (fun hHeld => ?_)
            rw [← hV] at hHeld ⊢
            clear hV
            have K6 := Seal.mk (HV.out.1.set6 (by have := HG.out; omega) (by have := HG.out; omega) (by have := HG.out; omega) k)
            refine wpAnyH_ready (rs := [0, 1]) (by kernel_rfl) (by simp) (oper_b 0 (.int .i64 k) V rfl (by kernel_rfl) (by go_simp) hHeld (fun hHeld1 => ?_) (oper_b 1 (.bool b) V rfl (by kernel_rfl) (by go_simp) hHeld (fun hHeld1 => ?_) AllReadyH.nil))
            · clear hHeld1
              try simp only [Act.put, List.setIfInBounds_toArray, List.set_cons_zero, List.set_cons_succ]
              refine wpAnyH_ready (rs := [1, 2]) (by kernel_rfl) (by simp) (oper_b 1 (.bool b) V rfl (by kernel_rfl) (by go_simp) hHeld (fun hHeld1 => ?_) (skip_b 2 (V.setCell ⟨g6, 0, none⟩ (.int .i64 k)) rfl (by kernel_rfl) (by go_simp) (by obtain ⟨_, x6, x7, v6, v7⟩ := K6.out.cells; exact ⟨x6, x7, v6, v7⟩) (fun hHeld2 => ?_) AllReadyH.nil))
              · clear hHeld1
                try simp only [Act.put, List.setIfInBounds_toArray, List.set_cons_zero, List.set_cons_succ]
                refine skip_h 2 (V.setCell ⟨g6, 0, none⟩ (.int .i64 k)) rfl (by kernel_rfl) (by kernel_rfl) (by go_simp) (by obtain ⟨_, x6, x7, v6, v7⟩ := K6.out.cells; exact ⟨x6, x7, v6, v7⟩) (fun hHeld2 => ?_)
                try simp only [Act.put]
                have K7 := Seal.mk (K6.out.set7 (by have := HG.out; omega) (by have := HG.out; omega) (by have := HG.out; omega) b)
                have hD7 : Seal (((V.setCell ⟨g6, 0, none⟩ (.int .i64 k)).setCell ⟨g7, 0, none⟩ (.bool b)).heap[Y.heap.size]? = some (.deferred (some []))) := ⟨(Below.heap_setCell _ ⟨g7, 0, none⟩ _ _ (by have := HYs.out; show Y.heap.size ≠ g7; omega)).trans ((Below.heap_setCell _ ⟨g6, 0, none⟩ _ _ (by have := HYs.out; have := HG.out; show Y.heap.size ≠ g6; omega)).trans HV.out.2)⟩
                obtain ⟨V6, hV6⟩ : ∃ Z, Z = V.setCell ⟨g6, 0, none⟩ (.int .i64 k) := ⟨_, rfl⟩
                rw [← hV6] at hHeld2 K6 K7 hD7 ⊢
                clear hV6 hHeld d6 d7 y6 y7
                obtain ⟨_, d6, d7, y6, y7⟩ := K6.out.cells
                refine skip_h 3 (V6.setCell ⟨g7, 0, none⟩ (.bool b)) rfl (by kernel_rfl) (by kernel_rfl) (by go_simp) (by obtain ⟨_, x6, x7, v6, v7⟩ := K7.out.cells; exact ⟨x6, x7, v6, v7⟩) (fun hHeld3 => ?_)
                try simp only [Act.put]
                obtain ⟨Z, hZ⟩ : ∃ Z, Z = V6.setCell ⟨g7, 0, none⟩ (.bool b) := ⟨_, rfl⟩
                rw [← hZ] at hHeld3 K7 hD7 ⊢
                clear hZ hHeld2 d6 d7 y6 y7 K6
                refine oper_h 4 (.int .i64 0) Z rfl (by kernel_rfl) (by kernel_rfl) (by go_simp) hHeld3 (fun hHeld4 => ?_)
                try simp only [Act.put, List.setIfInBounds_toArray, List.set_cons_zero, List.set_cons_succ]
                refine wpAnyH_done (by kernel_rfl) ?_ _
                clear hHeld3 hHeld4
                go_wp2
                have hZ5 : KyI w t g5 g6 g7 k b (Z.putObj Y.heap.size (.deferred none)) := K7.out.grown (grownBy_putObj' _ _ _) (fun r e => by have := Option.some.inj e; have := HYs.out; have := HG.out; omega)
                obtain ⟨_, d6, d7, _, _⟩ := hZ5.cells
                refine ⟨by simp, .inl ⟨_, _, rfl, run_takeDeferred hD7.out, ?_⟩⟩
                refine ⟨_, by simp [results, Tryz.results50, go_sem, d6, d7]; rfl, by rw [HR.out, HKB.out.1, HKB.out.2], hZ5.bel⟩
              · skip
                try simp only [Act.put]
                have K7 := Seal.mk (K6.out.set7 (by have := HG.out; omega) (by have := HG.out; omega) (by have := HG.out; omega) b)
                have hD7 : Seal (((V.setCell ⟨g6, 0, none⟩ (.int .i64 k)).setCell ⟨g7, 0, none⟩ (.bool b)).heap[Y.heap.size]? = some (.deferred (some []))) := ⟨(Below.heap_setCell _ ⟨g7, 0, none⟩ _ _ (by have := HYs.out; show Y.heap.size ≠ g7; omega)).trans ((Below.heap_setCell _ ⟨g6, 0, none⟩ _ _ (by have := HYs.out; have := HG.out; show Y.heap.size ≠ g6; omega)).trans HV.out.2)⟩
                obtain ⟨V6, hV6⟩ : ∃ Z, Z = V.setCell ⟨g6, 0, none⟩ (.int .i64 k) := ⟨_, rfl⟩
                rw [← hV6] at hHeld2 K6 K7 hD7 ⊢
                clear hV6 hHeld d6 d7 y6 y7
                obtain ⟨_, d6, d7, y6, y7⟩ := K6.out.cells
                refine oper_h 1 (.bool b) V6 rfl (by kernel_rfl) (by kernel_rfl) (by go_simp) hHeld2 (fun hHeld1 => ?_)
                clear hHeld1
                try simp only [Act.put, List.setIfInBounds_toArray, List.set_cons_zero, List.set_cons_succ]
                refine skip_h 3 (V6.setCell ⟨g7, 0, none⟩ (.bool b)) rfl (by kernel_rfl) (by kernel_rfl) (by go_simp) (by obtain ⟨_, x6, x7, v6, v7⟩ := K7.out.cells; exact ⟨x6, x7, v6, v7⟩) (fun hHeld3 => ?_)
                try simp only [Act.put]
                obtain ⟨Z, hZ⟩ : ∃ Z, Z = V6.setCell ⟨g7, 0, none⟩ (.bool b) := ⟨_, rfl⟩
                rw [← hZ] at hHeld3 K7 hD7 ⊢
                clear hZ hHeld2 d6 d7 y6 y7 K6
                refine oper_h 4 (.int .i64 0) Z rfl (by kernel_rfl) (by kernel_rfl) (by go_simp) hHeld3 (fun hHeld4 => ?_)
                try simp only [Act.put, List.setIfInBounds_toArray, List.set_cons_zero, List.set_cons_succ]
                refine wpAnyH_done (by kernel_rfl) ?_ _
                clear hHeld3 hHeld4
                go_wp2
                have hZ5 : KyI w t g5 g6 g7 k b (Z.putObj Y.heap.size (.deferred none)) := K7.out.grown (grownBy_putObj' _ _ _) (fun r e => by have := Option.some.inj e; have := HYs.out; have := HG.out; omega)
                obtain ⟨_, d6, d7, _, _⟩ := hZ5.cells
                refine ⟨by simp, .inl ⟨_, _, rfl, run_takeDeferred hD7.out, ?_⟩⟩
                refine ⟨_, by simp [results, Tryz.results50, go_sem, d6, d7]; rfl, by rw [HR.out, HKB.out.1, HKB.out.2], hZ5.bel⟩
            · clear hHeld1
              try simp only [Act.put, List.setIfInBounds_toArray, List.set_cons_zero, List.set_cons_succ]
              refine oper_h 0 (.int .i64 k) V rfl (by kernel_rfl) (by kernel_rfl) (by go_simp) hHeld (fun hHeld1 => ?_)
              clear hHeld1
              try simp only [Act.put, List.setIfInBounds_toArray, List.set_cons_zero, List.set_cons_succ]
              refine skip_h 2 (V.setCell ⟨g6, 0, none⟩ (.int .i64 k)) rfl (by kernel_rfl) (by kernel_rfl) (by go_simp) (by obtain ⟨_, x6, x7, v6, v7⟩ := K6.out.cells; exact ⟨x6, x7, v6, v7⟩) (fun hHeld2 => ?_)
              try simp only [Act.put]
              have K7 := Seal.mk (K6.out.set7 (by have := HG.out; omega) (by have := HG.out; omega) (by have := HG.out; omega) b)
              have hD7 : Seal (((V.setCell ⟨g6, 0, none⟩ (.int .i64 k)).setCell ⟨g7, 0, none⟩ (.bool b)).heap[Y.heap.size]? = some (.deferred (some []))) := ⟨(Below.heap_setCell _ ⟨g7, 0, none⟩ _ _ (by have := HYs.out; show Y.heap.size ≠ g7; omega)).trans ((Below.heap_setCell _ ⟨g6, 0, none⟩ _ _ (by have := HYs.out; have := HG.out; show Y.heap.size ≠ g6; omega)).trans HV.out.2)⟩
              obtain ⟨V6, hV6⟩ : ∃ Z, Z = V.setCell ⟨g6, 0, none⟩ (.int .i64 k) := ⟨_, rfl⟩
              rw [← hV6] at hHeld2 K6 K7 hD7 ⊢
              clear hV6 hHeld d6 d7 y6 y7
              obtain ⟨_, d6, d7, y6, y7⟩ := K6.out.cells
              refine skip_h 3 (V6.setCell ⟨g7, 0, none⟩ (.bool b)) rfl (by kernel_rfl) (by kernel_rfl) (by go_simp) (by obtain ⟨_, x6, x7, v6, v7⟩ := K7.out.cells; exact ⟨x6, x7, v6, v7⟩) (fun hHeld3 => ?_)
              try simp only [Act.put]
              obtain ⟨Z, hZ⟩ : ∃ Z, Z = V6.setCell ⟨g7, 0, none⟩ (.bool b) := ⟨_, rfl⟩
              rw [← hZ] at hHeld3 K7 hD7 ⊢
              clear hZ hHeld2 d6 d7 y6 y7 K6
              refine oper_h 4 (.int .i64 0) Z rfl (by kernel_rfl) (by kernel_rfl) (by go_simp) hHeld3 (fun hHeld4 => ?_)
              try simp only [Act.put, List.setIfInBounds_toArray, List.set_cons_zero, List.set_cons_succ]
              refine wpAnyH_done (by kernel_rfl) ?_ _
              clear hHeld3 hHeld4
              go_wp2
              have hZ5 : KyI w t g5 g6 g7 k b (Z.putObj Y.heap.size (.deferred none)) := K7.out.grown (grownBy_putObj' _ _ _) (fun r e => by have := Option.some.inj e; have := HYs.out; have := HG.out; omega)
              obtain ⟨_, d6, d7, _, _⟩ := hZ5.cells
              refine ⟨by simp, .inl ⟨_, _, rfl, run_takeDeferred hD7.out, ?_⟩⟩
              refine ⟨_, by simp [results, Tryz.results50, go_sem, d6, d7]; rfl, by rw [HR.out, HKB.out.1, HKB.out.2], hZ5.bel⟩
end Frk
