/- Law 57: epochs.of, epochs.Key. -/
import Derived.Test.YtllbjakfjpjfnaaGreatDoorVxFep
import Derived.Test.YtllbjakfjpjfnaaGreatDoorVxBrk
import Derived.LoopIn
import Derived.RangeFuncBound
import Derived.RangeFuncNested
import Derived.RangeFuncLeaves
import Derived.OwnWalkIn
namespace Frk
open Go Go.RowKit Go.Proofs
set_option maxRecDepth 100000

theorem rowsIn_f {n : Nat} {P : Program} {row : String} {args : Array Value} {w : World} {R : Value → World → Prop} (h : Rows P row args w R) : RowsIn Fence.wide n P row args w R := by
  intro c cs _
  obtain ⟨v, w', r, s⟩ := h c cs
  exact ⟨v, w', r, stepsIn_wide.2 s⟩
theorem opIn_of_op_f {n : Nat} {P : Program} {o : Oper} {a : Act} {w : World} {K : Act → World → Prop} {Q : Exit → Act → World → Prop} (hd : ∀ c, o.op ≠ .defer c) (h : o.wp P a w K Q) : o.wpIn Fence.wide n P a w K Q := by
  refine ⟨fun _ _ => trivial, ?_⟩
  rw [Oper.semAt_eq _ _ _ hd]
  unfold Oper.wp at h
  generalize (execOp a.eval o).run P w = r at h
  cases r with
  | ok x w' =>
    cases x <;> simp only [Oper.upon, Oper.uponIn] at h ⊢ <;> first | exact h | exact h.elim | exact ⟨fun h => (by cases h), callsIn_wide.2 h⟩ | exact ⟨fun h => (by cases h), rowsIn_f h⟩
  | halt x w' => cases x <;> simp only [Oper.upon, Oper.uponIn] at h ⊢ <;> first | exact h | exact h.elim
section
variable {n : Nat} {P : Program} {ops : Array Oper} {rest : List Oper} {o : Oper} {a : Act} {w : World} {Q : Exit → Act → World → Prop}
theorem wpListIn_wanted {F : Fence} (hw : Region.wanted o (yielded ops a.tmps) = true)
    (h : ∀ K : Act → World → Prop, (∀ a w, wpListIn F n P ops Q rest a w → K a w) → o.wpIn F n P a w K Q) : wpListIn F n P ops Q (o :: rest) a w :=
  wpListIn_step fun K hK => by simp only [hw, if_true]; exact h K hK
theorem wpListIn_load_mid_f (hw : Region.wanted o (yielded ops a.tmps) = true) (ty : TypeId) (x : Operand) (ho : o.op = .load ty x)
    (b off : Nat) (hx : a.eval x = .pointer (some ⟨b, off, none⟩)) (cs : List Value) (d : TypeDesc) (hc : w.rangeAt b off cs)
    (hu : P.underlying ty = some d) (hd : d.isRow = true) (hi : (P.info? ty).map (·.size) = some cs.length)
    (h : wpListIn Fence.wide n P ops Q rest (a.put o.dst (.agg cs.toArray)) w) : wpListIn Fence.wide n P ops Q (o :: rest) a w :=
  wpListIn_wanted hw fun K hK' => opIn_of_op_f (by rw [ho]; intro c hc'; cases hc') (wp_load_mid ty x ho b off hx cs d hc hu hd hi (hK' _ _ h))
theorem wpListIn_store_row_f (hgd : o.guard = none) (ty : TypeId) (x y : Operand) (ho : o.op = .store ty x y)
    (g : Nat) (cells : Array Value) (hx : a.eval x = .pointer (some ⟨g, 0, none⟩)) (hy : a.eval y = .agg cells)
    (t : TypeId) (old : Array Value) (hg : w.heap[g]? = some (.cells old t (0, 0))) (hi : (P.info? ty).map (·.size) = some cells.size)
    (hold : old.size = cells.size) (h1 : cells.all (·.oneCell') = true)
    (h : wpListIn Fence.wide n P ops Q rest (a.put o.dst undef) (w.setRow g cells)) : wpListIn Fence.wide n P ops Q (o :: rest) a w :=
  wpListIn_plain hgd fun K hK' => opIn_of_op_f (by rw [ho]; intro c hc'; cases hc') (by
    unfold Oper.wp
    rw [exec_store_row ty x y ho g cells hx hy t old hg hi hold h1]
    exact hK' _ _ h)
end

def ofO (o : Int) (x : Ep) : Bool := decide (x.O = o)
def encEp (x : Ep) : Value := .agg x.C.toArray
theorem ofO_take_succ {l : List Ep} {i : Nat} {x : Ep} (hx : l[i]? = some x) (o : Int) : (l.take (i + 1)).filter (ofO o) = if x.O = o then (l.take i).filter (ofO o) ++ [x] else (l.take i).filter (ofO o) := by
  rw [List.take_add_one, hx, List.filter_append]
  split
  · rename_i h
    rw [Option.toList_some, List.filter_cons_of_pos (by unfold ofO; exact decide_eq_true h)]
    simp
  · rename_i h
    rw [Option.toList_some, List.filter_cons_of_neg (by unfold ofO; rw [decide_eq_false h]; simp)]
    simp

set_option maxHeartbeats 4000000 in
theorem fof_brk (m bl bo : Nat) (a : Option Addr) (n c : Nat) (l : List Ep) (o : Int) (w : World) (h0 : w.cell? ⟨bl, 0, none⟩ = some (.slice a n c)) (h1 : w.cell? ⟨bo, 0, none⟩ = some (.int .i64 o)) (hd : IsE w a n c l) :
    SeqBrk Fence.wide m Tryz.prog 95 #[.pointer (some ⟨bl, 0, none⟩), .pointer (some ⟨bo, 0, none⟩)] (fun x => #[encEp x]) (fun r => r = bo ∨ (0 < n ∧ ∃ off, a = some ⟨r, off, none⟩)) (fun xs => xs = l.filter (ofO o)) (fun pre => ∃ k x, l[k]? = some x ∧ x.O = o ∧ pre = (l.take k).filter (ofO o) ++ [x]) w := by
  intro t J Jx W hW hJb hY hJ0
  refine callsIn_of_wp Tryz.func95 rfl trivial ?_ rfl
  simp only [Tryz.ntmps95, List.size_toArray, List.length_cons, List.length_nil, Nat.reduceAdd, Nat.reduceSub, Array.replicate_succ, Array.replicate_zero, List.push_toArray, List.append_toArray, List.nil_append, List.cons_append]
  have c0 : W.cell? ⟨bl, 0, none⟩ = some (.slice a n c) := (hW.cell (p := ⟨bl, 0, none⟩) (block_lt_of_cell h0)).trans h0
  have hdW := hd.below hW
  have cW : W.cell? ⟨bo, 0, none⟩ = some (.int .i64 o) := (hW.cell (p := ⟨bo, 0, none⟩) (block_lt_of_cell h1)).trans h1
  have HC : Seal (∀ W' : World, W.heap.size ≤ W'.heap.size → (∀ r, r = bo ∨ (0 < n ∧ ∃ off, a = some ⟨r, off, none⟩) → W'.heap[r]? = W.heap[r]?) → W'.cell? ⟨bo, 0, none⟩ = some (.int .i64 o) ∧ IsE W' a n c l) := ⟨fun W' hz hk => by
    refine ⟨(World.cell?_of_block (w := W) (hk bo (.inl rfl))).trans cW, hdW.llen, hdW.lcap, hdW.lmax, hdW.cmax, hdW.each, ?_⟩
    rcases hdW.at_ with h0 | ⟨g2, o2, e2, hr2, hg2⟩
    · exact .inl h0
    · rcases Nat.eq_zero_or_pos n with hn | hn
      · exact .inl hn
      · exact .inr ⟨g2, o2, e2, fun j u hu => (World.cell?_of_block (w := W) (hk g2 (.inr ⟨hn, o2, e2⟩))).trans (hr2 j u hu), by omega⟩⟩
  have HMl : Seal (∀ r, r = bo ∨ (0 < n ∧ ∃ off, a = some ⟨r, off, none⟩) → r < W.heap.size) := ⟨fun r hr => by
    rcases hr with rfl | ⟨hn, off, e⟩
    · exact block_lt_of_cell cW
    · rcases hdW.at_ with h0 | ⟨g2, o2, e2, hr2, hg2⟩
      · omega
      · rw [e] at e2; cases e2; exact hg2⟩
  have HY := Seal.mk hY
  have HJB := Seal.mk hJb
  have HJ0 := Seal.mk hJ0
  have hll := hd.llen
  have hmx := hd.lmax
  have ut := Tryz.underlying80
  clear hY hJ0 hJb hd hW h0 h1 hdW cW
  gi_wp2
  gi_loopw [8] (fun i Wk => ∃ k : Nat, k ≤ n ∧ i = .int .i64 k ∧ Seal (W.heap.size ≤ Wk.heap.size ∧ (∀ r, r = bo ∨ (0 < n ∧ ∃ off, a = some ⟨r, off, none⟩) → Wk.heap[r]? = W.heap[r]?) ∧ J ((l.take k).filter (ofO o)) Wk)) (fun i _ => n - (intOf i).toNat)
  case atStart => exact ⟨0, by omega, rfl, ⟨Nat.le_refl _, fun _ _ => rfl, HJ0.out⟩⟩
  case round =>
    obtain ⟨Wk, rfl⟩ : ∃ z, z = wr := ⟨_, rfl⟩
    obtain ⟨k, hk, rfl, hH⟩ := hrel
    clear c0 HJ0
    by_cases hlt : k < n
    · obtain ⟨cB, hD⟩ := HC.out Wk hH.out.1 hH.out.2.1
      rcases hD.at_ with hz | ⟨g, off, rfl, hr, hg⟩
      · omega
      · obtain ⟨x, hx⟩ : ∃ x, l[k]? = some x := ⟨_, List.getElem?_eq_getElem (by omega)⟩
        have rX := rangeC_row hr hD.each hx
        have q5 : (k : Int) < (n : Int) := by omega
        have q6 : (0 : Int) ≤ (k : Int) := by omega
        obtain ⟨C, hC⟩ : ∃ C, C = x.C := ⟨_, rfl⟩
        obtain ⟨O, hO⟩ : ∃ N, N = x.O := ⟨_, rfl⟩
        have HX : Seal (l[k]? = some x ∧ C = x.C ∧ O = x.O) := ⟨hx, hC, hO⟩
        have IC : Seal ((Tryz.prog.info? 80).map (·.size) = some C.length ∧ (#[.int .i64 0, .int .i64 0, .int .i64 0] : Array Value).size = C.toArray.size ∧ C.toArray.all (·.oneCell') = true) := ⟨by rw [hC]; exact ep_info x, by rw [hC]; rfl, by rw [hC]; exact ep_one x⟩
        have iX := IC.out.1
        rw [← hC] at rX
        obtain ⟨V, gd, hgd, n1, n2, n3, n4, _, _⟩ := newf Wk #[.int .i64 0, .int .i64 0, .int .i64 0] C 80
        have cO : V.cell? ⟨gd, 0, none⟩ = some (.int .i64 O) := by have h := n3.at 0 (.int .i64 O) (by rw [hC, hO]; rfl); simpa using h
        have cB2 := cell_below' n4 cB
        have r5 := n3.at
        have HV : Seal (W.heap.size ≤ V.heap.size ∧ (∀ r, r = bo ∨ (0 < n ∧ ∃ o', some (⟨g, off, none⟩ : Addr) = some ⟨r, o', none⟩) → V.heap[r]? = W.heap[r]?) ∧ J ((l.take k).filter (ofO o)) V) := ⟨Nat.le_trans hH.out.1 n4.size, fun r hr => (n4.block r (Nat.lt_of_lt_of_le (HMl.out r hr) hH.out.1)).trans (hH.out.2.1 r hr), HJB.out _ _ _ hH.out.1 hH.out.2.2 n4⟩
        have hgn := hgd.symm
        clear hr hg hx hC hO hD hgd n3 n4 hH cB
        by_cases ho : O = o
        · have qo : (O == o) = true := by rw [beq_iff_eq]; exact ho
          obtain ⟨fn, tmps, asg, body, hy, hR⟩ := HY.out _ x V HV.out.1 HV.out.2.2
          dsimp only [encEp] at hy
          rw [← HX.out.2.1] at hy
          have HR := Seal.mk hR
          have HF : Seal ((l.take (k + 1)).filter (ofO o) = (l.take k).filter (ofO o) ++ [x]) := ⟨by rw [ofO_take_succ HX.out.1, if_pos (by rw [← HX.out.2.2]; exact ho)]⟩
          have HO : Seal (x.O = o) := ⟨by rw [← HX.out.2.2]; exact ho⟩
          clear hR ho
          gi_wp2_with
            (first
              | (refine wpListIn_load_mid_f (by kernel_rfl) 80 (.tmp 10) rfl g (off + k * 3) rfl C _ rX ut rfl iX ?_; (try simp only [Act.put, List.setIfInBounds_toArray, List.set_cons_zero, List.set_cons_succ]))
              | (refine wpListIn_load_mid_f (by kernel_rfl) 80 (.tmp 5) rfl gd 0 rfl C _ r5 ut rfl iX ?_; (try simp only [Act.put, List.setIfInBounds_toArray, List.set_cons_zero, List.set_cons_succ]))
              | (refine wpListIn_store_row_f rfl 80 (.tmp 5) (.tmp 11) (by first | rfl | (rw [hgn]; rfl)) gd C.toArray (by first | rfl | (rw [hgn]; rfl)) rfl 80 _ n2 (by simpa using IC.out.1) IC.out.2.1 IC.out.2.2 ?_; rw [n1]; clear n1 n2 rX; (try simp only [Act.put])))
          refine ⟨fun h => (by cases h), ?_⟩
          refine HR.out.mono ?_
          rintro e W' (⟨rfl, hJ', hz', hk'⟩ | ⟨rfl, hJx⟩)
          · have HN : Seal (W.heap.size ≤ W'.heap.size ∧ (∀ r, r = bo ∨ (0 < n ∧ ∃ o', some (⟨g, off, none⟩ : Addr) = some ⟨r, o', none⟩) → W'.heap[r]? = W.heap[r]?) ∧ J ((l.take (k + 1)).filter (ofO o)) W') := ⟨Nat.le_trans HV.out.1 hz', fun r hr => (hk' r hr).trans (HV.out.2.1 r hr), by rw [HF.out]; exact hJ'⟩
            clear hJ' hz' hk' HR hy cO cB2 r5
            gi_wp2
            go_roundw
            case rel => exact ⟨k + 1, by omega, by go_num, HN⟩
            case measure => simp [intOf]; omega
          · have HN : Seal (∃ pre, (∃ k x, l[k]? = some x ∧ x.O = o ∧ pre = (l.take k).filter (ofO o) ++ [x]) ∧ Jx pre W') := ⟨_, ⟨k, x, HX.out.1, HO.out, rfl⟩, hJx⟩
            clear hJx HR hy cO cB2 r5
            gi_wp2
            refine bodyPost_ret (results_none rfl _ _ _) rfl ?_
            exact ⟨⟨_, rfl⟩, .inr HN.out⟩
        · have qo : (O == o) = false := by rw [beq_eq_false_iff_ne]; exact ho
          have HN : Seal (W.heap.size ≤ V.heap.size ∧ (∀ r, r = bo ∨ (0 < n ∧ ∃ o', some (⟨g, off, none⟩ : Addr) = some ⟨r, o', none⟩) → V.heap[r]? = W.heap[r]?) ∧ J ((l.take (k + 1)).filter (ofO o)) V) := ⟨HV.out.1, HV.out.2.1, by rw [ofO_take_succ HX.out.1, if_neg (by rw [← HX.out.2.2]; exact ho)]; exact HV.out.2.2⟩
          clear ho
          gi_wp2_with
            (first
              | (refine wpListIn_load_mid_f (by kernel_rfl) 80 (.tmp 10) rfl g (off + k * 3) rfl C _ rX ut rfl iX ?_; (try simp only [Act.put, List.setIfInBounds_toArray, List.set_cons_zero, List.set_cons_succ]))
              | (refine wpListIn_load_mid_f (by kernel_rfl) 80 (.tmp 5) rfl gd 0 rfl C _ r5 ut rfl iX ?_; (try simp only [Act.put, List.setIfInBounds_toArray, List.set_cons_zero, List.set_cons_succ]))
              | (refine wpListIn_store_row_f rfl 80 (.tmp 5) (.tmp 11) (by first | rfl | (rw [hgn]; rfl)) gd C.toArray (by first | rfl | (rw [hgn]; rfl)) rfl 80 _ n2 (by simpa using IC.out.1) IC.out.2.1 IC.out.2.2 ?_; rw [n1]; clear n1 n2 rX; (try simp only [Act.put])))
          refine ⟨fun f h => (by cases h), ?_⟩
          gi_wp2
          go_roundw
          case rel => exact ⟨k + 1, by omega, by go_num, HN⟩
          case measure => simp [intOf]; omega
    · obtain rfl : k = n := by omega
      have q5 : ¬ (k : Int) < (k : Int) := by omega
      have e1 : l.take k = l := List.take_of_length_le (by omega)
      have HX : Seal (J (l.filter (ofO o)) Wk) := ⟨by rw [← e1]; exact hH.out.2.2⟩
      clear hH e1
      gi_wp2
      go_end0
      exact ⟨⟨_, rfl⟩, .inl (by first | exact HX.out | exact ⟨_, rfl, HX.out⟩)⟩

theorem fof_any (a : Option Addr) (n c : Nat) (o : Int) (w : World) : Calls Tryz.prog 79 #[.slice a n c, .int .i64 o] w fun e w' => e = .returned (.func (.func 95) #[] #[.pointer (some ⟨w.heap.size, 0, none⟩), .pointer (some ⟨w.heap.size + 1, 0, none⟩)]) ∧ (w.alloc (.cells #[.slice a n c] 22)).alloc (.cells #[.int .i64 o] 3) = w' := by
  go_enter Tryz.func79, Tryz.ntmps79
  go_wp2
  go_ret
  exact ⟨rfl, rfl⟩
end Frk
