/- Law 44: slices.Collect over an iterator that keeps its own state. -/
import Derived.Test.YtnpnboldjbljaaaDoorVfgLin
import Derived.Test.YtnpnboldjbljaaaDoorVfDpi
namespace Frk
open Go Go.RowKit Go.Proofs
set_option maxRecDepth 100000

theorem kept_of_cells {A : World} {k b : Nat} {cs : Array Value} {t : TypeId} {fr : Nat × Nat} (h : A.heap[k]? = some (.cells cs t fr)) (ho : ∃ o : Obj, A.heap[b]? = some o ∧ o.isCells = false) : k ≠ b := by
  rintro rfl
  obtain ⟨o, h1, h2⟩ := ho
  rw [h1] at h
  cases h
  cases h2
section
variable {α : Type} (C : α → List Value) (z : Nat) (ts te : TypeId) (mine : Nat → Prop)
/-- what Collect has gathered -/
structure AO (w0 : World) (pre : List α) (v : Value) (W : World) : Prop where
  cell : W.heap[w0.heap.size]? = some (.cells #[v] ts (0, 0))
  own : W.ownsRow (w0.heap.size + 1) te z v pre.length (pre.flatMap C)
  kept : KeptBut mine w0 W
  big : w0.heap.size + 1 ≤ W.heap.size
end
section
variable {α : Type} {C : α → List Value} {z : Nat} {ts te : TypeId} {mine : Nat → Prop} {w0 : World} {pre : List α} {v : Value} {A B' : World}
theorem AO.later (h : AO C z ts te mine w0 pre v A) (hm : ∀ r, mine r → r < w0.heap.size) (hk : KeptBut mine A B') : AO C z ts te mine w0 pre v B' := by
  refine ⟨(hk.block _ (Array.getElem?_eq_some_iff.1 h.cell).1 (fun e => by have := hm _ e; omega)).trans h.cell, ⟨h.own.1, ?_⟩, h.kept.trans hk, Nat.le_trans h.big hk.size⟩
  rcases h.own.2 with e | ⟨g, cap, cur, e, hb, hg, hr⟩
  · exact .inl e
  · exact .inr ⟨g, cap, cur, e, hb, (hk.block _ (Array.getElem?_eq_some_iff.1 hg).1 (fun e => by have := hm _ e; omega)).trans hg, hr⟩
theorem AO.grown (h : AO C z ts te mine w0 pre v A) {b : Nat} (hg : A.grownBy B' (some b)) (hb : w0.heap.size ≤ b) (ho : ∃ o : Obj, A.heap[b]? = some o ∧ o.isCells = false) : AO C z ts te mine w0 pre v B' := by
  refine ⟨(hg.block _ (Array.getElem?_eq_some_iff.1 h.cell).1 (fun e => kept_of_cells h.cell ho (Option.some.inj e))).trans h.cell, ⟨h.own.1, ?_⟩, ?_, Nat.le_trans h.big hg.size⟩
  · rcases h.own.2 with e | ⟨g, cap, cur, e, hb, hgc, hr⟩
    · exact .inl e
    · exact .inr ⟨g, cap, cur, e, hb, (hg.block _ (Array.getElem?_eq_some_iff.1 hgc).1 (fun e => kept_of_cells hgc ho (Option.some.inj e))).trans hgc, hr⟩
  · exact ⟨hg.os.trans h.kept.os, hg.tape.trans h.kept.tape, hg.output.trans h.kept.output, Nat.le_trans h.kept.size hg.size, fun k hk hn => (hg.block k (Nat.lt_of_lt_of_le hk h.kept.size) (fun e => by have := Option.some.inj e; omega)).trans (h.kept.block k hk hn)⟩
/-- a round: what was appended, laid into the box -/
theorem AO.step {W V w5 : World} {v5 : Value} {x : α} (h : AO C z ts te mine w0 pre v W) (hW : Below W.heap.size W V) (hown : w5.ownsRow (w0.heap.size + 1) te z v5 (pre.length + 1) (pre.flatMap C ++ C x)) (hg : V.grownBy w5 v.ownBlock) :
    AO C z ts te mine w0 (pre ++ [x]) v5 (w5.setCell ⟨w0.heap.size, 0, none⟩ v5) ∧ (∀ r, r < w0.heap.size → (w5.setCell ⟨w0.heap.size, 0, none⟩ v5).heap[r]? = W.heap[r]?) ∧ KeepsOthers W (w5.setCell ⟨w0.heap.size, 0, none⟩ v5) ∧ w5.heap[w0.heap.size]? = some (.cells #[v] ts (0, 0)) := by
  have vlt := h.own.lt
  have hbig := h.big
  have hset := grownBy_setCell' w5 w0.heap.size v5
  have hz := Nat.le_trans hW.size hg.size
  have hk : ∀ k, k < W.heap.size → v.ownBlock ≠ some k → w5.heap[k]? = W.heap[k]? := fun k hk hne => (hg.block k (Nat.lt_of_lt_of_le hk hW.size) (fun e => hne e.symm)).trans (hW.block k hk)
  have c5 : w5.heap[w0.heap.size]? = some (.cells #[v] ts (0, 0)) := (hk _ (by omega) (fun e => by have := (vlt _ e).1; omega)).trans h.cell
  have cell' : (w5.setCell ⟨w0.heap.size, 0, none⟩ v5).heap[w0.heap.size]? = some (.cells #[v5] ts (0, 0)) := by
    have := heap_setCell_row (cs := [v]) (i := 0) v5 c5
    simpa using this
  have low : ∀ r, r < w0.heap.size → (w5.setCell ⟨w0.heap.size, 0, none⟩ v5).heap[r]? = W.heap[r]? := fun r hr =>
    (hset.block r (by omega) (fun e => by have := Option.some.inj e; omega)).trans (hk r (by omega) (fun e => by have := (vlt _ e).1; omega))
  have ho1 := hg.os.trans hW.os
  have ho2 := hg.tape.trans hW.tape
  have ho3 := hg.output.trans hW.output
  refine ⟨⟨cell', ?_, ⟨hset.os.trans (ho1.trans h.kept.os), hset.tape.trans (ho2.trans h.kept.tape), hset.output.trans (ho3.trans h.kept.output), by have := hset.size; have := h.kept.size; omega, fun k hk2 hn => (low k hk2).trans (h.kept.block k hk2 hn)⟩, by have := hset.size; omega⟩, low, ?_, c5⟩
  · have := hown.kept hset (by
      cases hv : v5.ownBlock with
      | none => exact .inl rfl
      | some b => exact .inr (fun e => by have := (hown.lt b hv).1; have := Option.some.inj e; omega))
    rw [List.length_append, List.flatMap_append, show [x].flatMap C = C x from by simp]
    exact this
  · refine (KeepsOthers.of_grownBy (row := v.ownBlock) ⟨ho1, ho2, ho3, hz, fun k hk1 hk2 => hk k hk1 (fun e => hk2 e.symm)⟩ (fun j o e ho => ?_)).trans (KeepsOthers.setCell _ _ _)
    rcases h.own.2 with ⟨rfl, _⟩ | ⟨g, cap, cur, rfl, _, hgc, _⟩
    · cases e
    · have hgj : g = j := by simpa [Value.ownBlock] using e
      subst hgj
      rw [hgc] at ho
      cases ho; rfl
end
theorem slice_form0 {w : World} {base : Nat} {e : TypeId} {size n : Nat} {v : Value} {xs : List Value} (h : w.ownsRow base e size v n xs) : ∃ a m c, v = .slice a m c := by
  rcases h.2 with ⟨rfl, _⟩ | ⟨g, cap, cur, rfl, _⟩
  · exact ⟨_, _, _, rfl⟩
  · exact ⟨_, _, _, rfl⟩
theorem exec_alloc_po {ρ : Operand → Value} {o : Oper} (ho : o.op = .alloc 31) (w : World) : (execOp ρ o).run Tryd.prog w = .ok (.value (.pointer (some ⟨w.heap.size, 0, none⟩))) (w.alloc (.cells (Value.int .i64 0 :: zs 32).toArray 31)) := by
  unfold execOp
  rw [ho]
  go_simp
  rfl
def encP (x : Po) : Array Value := #[.agg x.C.toArray]
theorem size_po (w : World) : (Go.sizeOf 31).run Tryd.prog w = .ok 33 w := by kernel_rfl
theorem zero_po (w : World) : (zeroValue 31).run Tryd.prog w = .ok (.agg (Value.int .i64 0 :: zs 32).toArray) w := by kernel_rfl

section
attribute [local go_sem] Oper.semAt_some

set_option maxHeartbeats 4000000 in
theorem pappendSeq_any (gf : FuncId) (lb : Array Value) (mine rd : Nat → Prop) (S : List Po → Prop) (N : Nat) (w : World) (hN : N ≤ 20000) (hmine : ∀ r, mine r ∨ rd r → r < w.heap.size)
    (hseq : ∀ X, Below w.heap.size w X → SeqOwn Fence.wide 2 Tryd.prog gf lb encP (fun x => x.C.length = 33) mine rd S N X) (hen : ∀ args w, (callFunc gf args).run Tryd.prog w = .ok (.enter gf args) w) :
    Calls Tryd.prog 77 #[.slice none 0 0, .func (.func gf) #[] lb] w fun e w' => ∃ xs v, e = .returned v ∧ S xs ∧ (∀ x ∈ xs, x.C.length = 33) ∧ Seal (w'.ownsRow (w.heap.size + 1) 31 33 v xs.length (pcells xs) ∧ KeptBut mine w w') := by
  obtain ⟨X, hX⟩ : ∃ X : World, X = w.alloc (.cells #[.slice none 0 0] 22) := ⟨_, rfl⟩
  have hXb : Below w.heap.size w X := by rw [hX]; exact below_alloc _ _
  have hXs : X.heap.size = w.heap.size + 1 := by rw [hX, size_alloc]
  have hXn : X.heap[w.heap.size]? = some (.cells #[.slice none 0 0] 22 (0, 0)) := by rw [hX]; exact heap_alloc_new w _
  have HX := Seal.mk (And.intro hXb (And.intro hXs hXn))
  have HSQ := Seal.mk (hseq X hXb)
  have HMI := Seal.mk hmine
  have HEN := Seal.mk hen
  have hA0 : AO Po.C 33 22 31 mine w [] (.slice none 0 0) X := ⟨hXn, World.ownsRow_nil _ _ _ _, .of_below hXb, by omega⟩
  have HA0 := Seal.mk (And.intro hA0 (show ∀ x ∈ ([] : List Po), x.C.length = 33 from fun x hx => by cases hx))
  obtain ⟨i0, hi, hz0, hz1, hz2⟩ := info_parts info_po
  have HI := Seal.mk (And.intro hi (And.intro hz0 (And.intro hz1 hz2)))
  have ut := Tryd.underlying31
  clear hXb hXs hXn hA0 hseq hmine hen hi hz0 hz1 hz2
  refine (callsIn_wide (n := 3)).1 ?_
  refine callsIn_of_wp_marks Tryd.func77 rfl trivial ?_ rfl
  simp only [Tryd.ntmps77, List.size_toArray, List.length_cons, List.length_nil, Nat.reduceAdd, Nat.reduceSub, Array.replicate_succ, Array.replicate_zero, List.push_toArray, List.append_toArray, List.nil_append, List.cons_append]
  refine wpIn_wide.2 ?_
  go_upto_region 1 with (fail)
  rw [← hX]
  clear hX
  go_wp2_with fail
  refine (wpIn_wide (n := 3)).1 ?_
  refine wpIn_rangeFunc_own rfl (by decide) (gf := gf) (lb := lb) rfl trivial HEN.out
    HSQ.out (fun r hr => by have := HMI.out r hr; have := HX.out.2.1; omega) (fun x => rfl)
    (fun pre W => (∃ v, AO Po.C 33 22 31 mine w pre v W) ∧ ∀ x ∈ pre, x.C.length = 33)
    ?own ?none ⟨⟨_, HA0.out.1⟩, HA0.out.2⟩
    (fun x Wa => { tmps := #[.slice none 0 0, .func (.func gf) #[] lb, .pointer (some ⟨w.heap.size, 0, none⟩), undef, .slice none 0 0, .pointer (some ⟨Wa.heap.size, 0, none⟩), .func (.func gf) #[] lb, .agg x.C.toArray, undef, undef, undef, undef, undef], defers := [] })
    (fun x W => W.alloc (.cells x.C.toArray 31)) (fun x W => below_alloc W _) ?assign ?body ?done
  case own =>
    rintro pre A B' ⟨⟨v, hA⟩, h2⟩ hg ho
    exact ⟨⟨v, hA.grown hg (by have := HX.out.2.1; omega) ho⟩, h2⟩
  case none =>
    rintro pre A B' ⟨⟨v, hA⟩, h2⟩ hk
    exact ⟨⟨v, hA.later (fun r hr => HMI.out r (.inl hr)) hk⟩, h2⟩
  case assign =>
    rintro t x W K hx hK
    have iC : (Tryd.prog.info? 31).map (·.size) = some x.C.toArray.size := by rw [List.size_toArray, hx]; kernel_rfl
    have sC : ((Value.int .i64 0 :: zs 32).toArray : Array Value).size = x.C.toArray.size := by rw [List.size_toArray, List.size_toArray, hx]; rfl
    have aC : x.C.toArray.all (·.oneCell') = true := all_oneCell_toArray (Po.C_one _)
    have hn := heap_alloc_new W (.cells (Value.int .i64 0 :: zs 32).toArray 31)
    try dsimp only at hK
    unfold encP
    obtain ⟨C, hC⟩ : ∃ C, C = x.C.toArray := ⟨_, rfl⟩
    rw [← hC] at hK iC sC aC ⊢
    clear hC
    have hK' : (W.alloc (.cells (Value.int .i64 0 :: zs 32).toArray 31)).setRow W.heap.size C = W.alloc (.cells C 31) := by
      have := setRow_new W (Value.int .i64 0 :: zs 32) C.toList 31
      simpa using this
    rw [foldl_one]
    simp only [List.setIfInBounds_toArray, List.set_cons_zero, List.set_cons_succ]
    apply wpIn_region_lit
    refine wpListIn_alloc rfl 31 rfl (.pointer (some ⟨W.heap.size, 0, none⟩)) (W.alloc (.cells (Value.int .i64 0 :: zs 32).toArray 31)) (exec_alloc_po rfl W) ?_
    try simp only [Act.put, List.setIfInBounds_toArray, List.set_cons_zero, List.set_cons_succ]
    refine wpListIn_store_row rfl 31 (.tmp 5) (.tmp 7) rfl W.heap.size C rfl rfl 31 (Value.int .i64 0 :: zs 32).toArray hn iC sC aC ?_
    rw [hK']
    exact hK
  case body =>
    rintro t pre x W0 Wa W ⟨⟨v, hA⟩, h2⟩ hnew hw1 hw2 hsz hx hlen
    have nX : W.heap[Wa.heap.size]? = some (.cells x.C.toArray 31 (0, 0)) := (hnew _ (by omega)).trans (heap_alloc_new Wa _)
    have iC : (Tryd.prog.info? 31).map (·.size) = some x.C.length := by rw [hx]; kernel_rfl
    have oC := Po.C_one x
    have HPRE : Seal (∀ y ∈ pre ++ [x], y.C.length = 33) := ⟨fun y hy => by
      rcases List.mem_append.1 hy with h | h
      · exact h2 y h
      · rw [List.mem_singleton.1 h]; exact hx⟩
    obtain ⟨D, hD⟩ : ∃ D, D = x.C := ⟨_, rfl⟩
    rw [← hD] at nX iC oC hx
    have rX := rangeAt_row nX
    have c0 : W.cell? ⟨w.heap.size, 0, none⟩ = some v := by rw [cell_of_row _ _ _ _ _ _ hA.cell]; rfl
    have HA := Seal.mk hA
    have HD := Seal.mk hD
    have HO := Seal.mk (hA.own.alloc (.cells #[] 31))
    have hbig := hA.big
    have hpl : pre.length ≤ 20000 := by omega
    have HL : Seal (D.length = 33 ∧ ∀ v ∈ D, v.oneCell' = true) := ⟨hx, oC⟩
    obtain ⟨gx, hgx⟩ : ∃ g, g = Wa.heap.size := ⟨_, rfl⟩
    rw [← hgx] at rX ⊢
    clear hA h2 hnew hw1 hw2 hsz nX hD HO oC hx hgx
    rw [← HD.out]
    gi_wp2_with (first
      | (refine wpListIn_load_mid rfl 31 (.tmp 5) rfl gx 0 rfl D _ rX ut rfl iC ?_; (try simp only [Act.put, List.setIfInBounds_toArray, List.set_cons_zero, List.set_cons_succ]))
      | (refine wpListIn_bslice rfl 22 31 1 33 #[(0, .tmp 9)] rfl [D] Tryd.underlying22 size_po _ zero_po rfl rfl (by intro E hE; obtain rfl : E = D := (by simpa using hE); exact HL.out.1) (by decide) (by decide) rfl ?_; obtain ⟨V2, hV2⟩ : ∃ Z, Z = W.alloc (.cells [D].flatten.toArray 31) := ⟨_, rfl⟩; have HV : Seal (V2.ownsRow (w.heap.size + 1) 31 33 v pre.length (pre.flatMap Po.C) ∧ (∀ j u, D[j]? = some u → V2.cell? ((⟨W.heap.size, 0, none⟩ : Addr).add j) = some u) ∧ Below W.heap.size W V2) := ⟨(by rw [hV2]; exact ⟨HA.out.own.alloc _, fun j u hu => (by rw [Addr.add_mid]; exact rangeAt_row (heap_alloc_new W _) j u (by simpa using hu)), below_alloc _ _⟩)⟩; have c0 : V2.cell? ⟨w.heap.size, 0, none⟩ = some v := (by have h := HV.out.2.2; exact cell_below' h c0); have hz2 : w.heap.size + 1 ≤ V2.heap.size := (by have := HV.out.2.2.size; omega); rw [← hV2]; clear hV2 rX; (try simp only [Act.put, List.setIfInBounds_toArray, List.set_cons_zero, List.set_cons_succ]))
      | (refine wpListIn_append_own _ rfl (.tmp 8) (.tmp 10) 22 rfl (w.heap.size + 1) 31 i0 _ 33 40 Tryd.underlying22 HI.out.1 HI.out.2.1 HI.out.2.2.1 HI.out.2.2.2 rfl (by decide) v pre.length (pre.flatMap Po.C) rfl HV.out.1 ⟨W.heap.size, 0, none⟩ 1 1 D rfl HL.out.1 HV.out.2.1 HL.out.2 (by unfold maxLen; omega) (by omega) hz2 ?_; intro v5 w5 hown5 hgrow5 _; have HR := Seal.mk (HA.out.step (x := x) HV.out.2.2 (by rw [← HD.out]; exact hown5) hgrow5); obtain ⟨a5, n5, q5, rfl⟩ := slice_form0 hown5; have H5 := Seal.mk HR.out.2.2.2; have c5 : w5.cell? ⟨w.heap.size, 0, none⟩ = some v := (by rw [cell_of_row _ _ _ _ _ _ H5.out]; rfl); have f5 : w5.frozen? ⟨w.heap.size, 0, none⟩ = false := frozen_of_row _ _ _ _ _ H5.out; clear hown5 hgrow5 c0; (try simp only [Act.put, List.setIfInBounds_toArray, List.set_cons_zero, List.set_cons_succ])))
    exact ⟨HR.out.2.2.1, fun r hr => HR.out.2.1 r (HMI.out r hr), ⟨_, HR.out.1⟩, HPRE.out⟩
  case done =>
    rintro xs W hS ⟨⟨v, hA⟩, h2⟩ hz hD
    have hA' := hA.grown (grownBy_putObj' W X.heap.size (.deferred none)) (by have := HX.out.2.1; omega) ⟨_, hD, rfl⟩
    have HF := Seal.mk (And.intro hS (And.intro h2 (And.intro hA'.own hA'.kept)))
    have c0 : W.cell? ⟨w.heap.size, 0, none⟩ = some v := by rw [cell_of_row _ _ _ _ _ _ hA.cell]; rfl
    clear hA hA' hS h2
    go_wp2
    refine ⟨by simp, .inl ⟨_, _, rfl, run_takeDeferred hD, ?_⟩⟩
    refine ⟨_, by simp [results, Tryd.results77, go_sem], xs, v, rfl, HF.out.1, HF.out.2.1, ⟨HF.out.2.2⟩⟩
end
/-- numbers -/
def encI (x : Int) : Array Value := #[.int .i64 x]
theorem info_int : (Tryd.prog.info? 3).map (fun i => (i.zero, i.size, i.bytes)) = some (some (.int .i64 0), 1, 8) := by kernel_rfl
section
attribute [local go_sem] Oper.semAt_some

set_option maxHeartbeats 4000000 in
theorem iappendSeq_any (gf : FuncId) (lb : Array Value) (mine rd : Nat → Prop) (S : List Int → Prop) (N : Nat) (w : World) (hN : N ≤ 20000) (hmine : ∀ r, mine r ∨ rd r → r < w.heap.size)
    (hseq : ∀ X, Below w.heap.size w X → SeqOwn Fence.wide 2 Tryd.prog gf lb encI (fun _ => True) mine rd S N X) (hen : ∀ args w, (callFunc gf args).run Tryd.prog w = .ok (.enter gf args) w) :
    Calls Tryd.prog 79 #[.slice none 0 0, .func (.func gf) #[] lb] w fun e w' => ∃ xs v, e = .returned v ∧ S xs ∧ Seal (w'.ownsRow (w.heap.size + 1) 3 1 v xs.length (xs.flatMap intC) ∧ KeptBut mine w w') := by
  obtain ⟨X, hX⟩ : ∃ X : World, X = w.alloc (.cells #[.slice none 0 0] 23) := ⟨_, rfl⟩
  have hXb : Below w.heap.size w X := by rw [hX]; exact below_alloc _ _
  have hXs : X.heap.size = w.heap.size + 1 := by rw [hX, size_alloc]
  have hXn : X.heap[w.heap.size]? = some (.cells #[.slice none 0 0] 23 (0, 0)) := by rw [hX]; exact heap_alloc_new w _
  have HX := Seal.mk (And.intro hXb (And.intro hXs hXn))
  have HSQ := Seal.mk (hseq X hXb)
  have HMI := Seal.mk hmine
  have HEN := Seal.mk hen
  have hA0 : AO intC 1 23 3 mine w [] (.slice none 0 0) X := ⟨hXn, World.ownsRow_nil _ _ _ _, .of_below hXb, by omega⟩
  have HA0 := Seal.mk hA0
  obtain ⟨i0, hi, hz0, hz1, hz2⟩ := info_parts info_int
  have HI := Seal.mk (And.intro hi (And.intro hz0 (And.intro hz1 hz2)))
  clear hXb hXs hXn hA0 hseq hmine hen hi hz0 hz1 hz2
  refine (callsIn_wide (n := 3)).1 ?_
  refine callsIn_of_wp_marks Tryd.func79 rfl trivial ?_ rfl
  simp only [Tryd.ntmps79, List.size_toArray, List.length_cons, List.length_nil, Nat.reduceAdd, Nat.reduceSub, Array.replicate_succ, Array.replicate_zero, List.push_toArray, List.append_toArray, List.nil_append, List.cons_append]
  refine wpIn_wide.2 ?_
  go_upto_region 1 with (fail)
  rw [← hX]
  clear hX
  go_wp2_with fail
  refine (wpIn_wide (n := 3)).1 ?_
  refine wpIn_rangeFunc_own rfl (by decide) (gf := gf) (lb := lb) rfl trivial HEN.out
    HSQ.out (fun r hr => by have := HMI.out r hr; have := HX.out.2.1; omega) (fun x => rfl)
    (fun pre W => ∃ v, AO intC 1 23 3 mine w pre v W)
    ?own ?none ⟨_, HA0.out⟩
    (fun x Wa => { tmps := #[.slice none 0 0, .func (.func gf) #[] lb, .pointer (some ⟨w.heap.size, 0, none⟩), undef, .slice none 0 0, .int .i64 x, .func (.func gf) #[] lb, .int .i64 x, undef, undef, undef, undef, undef], defers := [] })
    (fun x W => W) (fun x W => Below.refl _ _) ?assign ?body ?done
  case own =>
    rintro pre A B' ⟨v, hA⟩ hg ho
    exact ⟨v, hA.grown hg (by have := HX.out.2.1; omega) ho⟩
  case none =>
    rintro pre A B' ⟨v, hA⟩ hk
    exact ⟨v, hA.later (fun r hr => HMI.out r (.inl hr)) hk⟩
  case assign =>
    rintro t x W K _ hK
    try dsimp only at hK
    unfold encI
    gi_wp2
    exact hK
  case body =>
    rintro t pre x W0 Wa W ⟨v, hA⟩ hnew hw1 hw2 hsz hx hlen
    have c0 : W.cell? ⟨w.heap.size, 0, none⟩ = some v := by rw [cell_of_row _ _ _ _ _ _ hA.cell]; rfl
    have HA := Seal.mk hA
    have hbig := hA.big
    have hpl : pre.length ≤ 20000 := by omega
    have HV : Seal ((W.alloc (.cells #[.int .i64 x] 3)).ownsRow (w.heap.size + 1) 3 1 v pre.length (pre.flatMap intC) ∧ (∀ j u, [Value.int .i64 x][j]? = some u → (W.alloc (.cells #[.int .i64 x] 3)).cell? ((⟨W.heap.size, 0, none⟩ : Addr).add j) = some u) ∧ Below W.heap.size W (W.alloc (.cells #[.int .i64 x] 3))) := ⟨hA.own.alloc _, fun j u hu => (by rw [Addr.add_mid]; exact rangeAt_row (heap_alloc_new W _) j u hu), below_alloc _ _⟩
    clear hA hnew hw1 hw2 hsz hx
    gi_wp2_with (refine wpListIn_append_own _ rfl (.tmp 8) (.tmp 10) 23 rfl (w.heap.size + 1) 3 i0 _ 1 8 Tryd.underlying23 HI.out.1 HI.out.2.1 HI.out.2.2.1 HI.out.2.2.2 rfl (by decide) v pre.length (pre.flatMap intC) rfl HV.out.1 ⟨W.heap.size, 0, none⟩ 1 1 [.int .i64 x] rfl rfl HV.out.2.1 (by simp [Value.oneCell']) (by unfold maxLen; omega) (by omega) (by rw [size_alloc]; omega) ?_; intro v5 w5 hown5 hgrow5 _; have HR := Seal.mk (HA.out.step (x := x) HV.out.2.2 hown5 hgrow5); obtain ⟨a5, n5, q5, rfl⟩ := slice_form0 hown5; have H5 := Seal.mk HR.out.2.2.2; have c5 : w5.cell? ⟨w.heap.size, 0, none⟩ = some v := (by rw [cell_of_row _ _ _ _ _ _ H5.out]; rfl); have f5 : w5.frozen? ⟨w.heap.size, 0, none⟩ = false := frozen_of_row _ _ _ _ _ H5.out; clear hown5 hgrow5 c0; (try simp only [Act.put, List.setIfInBounds_toArray, List.set_cons_zero, List.set_cons_succ]))
    exact ⟨HR.out.2.2.1, fun r hr => HR.out.2.1 r (HMI.out r hr), ⟨_, HR.out.1⟩⟩
  case done =>
    rintro xs W hS ⟨v, hA⟩ hz hD
    have hA' := hA.grown (grownBy_putObj' W X.heap.size (.deferred none)) (by have := HX.out.2.1; omega) ⟨_, hD, rfl⟩
    have HF := Seal.mk (And.intro hS (And.intro hA'.own hA'.kept))
    have c0 : W.cell? ⟨w.heap.size, 0, none⟩ = some v := by rw [cell_of_row _ _ _ _ _ _ hA.cell]; rfl
    clear hA hA' hS
    go_wp2
    refine ⟨by simp, .inl ⟨_, _, rfl, run_takeDeferred hD, ?_⟩⟩
    refine ⟨_, by simp [results, Tryd.results79, go_sem], xs, v, rfl, HF.out.1, ⟨HF.out.2⟩⟩
end

theorem pcollect_any (gf : FuncId) (lb : Array Value) (mine rd : Nat → Prop) (S : List Po → Prop) (N : Nat) (w : World) (hN : N ≤ 20000) (hmine : ∀ r, mine r ∨ rd r → r < w.heap.size)
    (hseq : ∀ X, Below w.heap.size w X → SeqOwn Fence.wide 2 Tryd.prog gf lb encP (fun x => x.C.length = 33) mine rd S N X) (hen : ∀ args w, (callFunc gf args).run Tryd.prog w = .ok (.enter gf args) w) :
    Calls Tryd.prog 50 #[.func (.func gf) #[] lb] w fun e w' => ∃ xs v, e = .returned v ∧ S xs ∧ (∀ x ∈ xs, x.C.length = 33) ∧ Seal (w'.ownsRow (w.heap.size + 1) 31 33 v xs.length (pcells xs) ∧ KeptBut mine w w') := by
  have H := Seal.mk (pappendSeq_any gf lb mine rd S N w hN hmine hseq hen)
  clear hmine hseq hen hN
  go_enter Tryd.func50, Tryd.ntmps50
  go_wp2_with fail
  refine H.out.mono ?_
  rintro e w1 ⟨xs, v, rfl, h1, h2, h3⟩
  have HF := Seal.mk (And.intro h1 (And.intro h2 h3))
  clear h1 h2 h3 H
  go_wp2
  go_ret
  exact ⟨xs, v, rfl, HF.out.1, HF.out.2.1, HF.out.2.2⟩
theorem icollect_any (gf : FuncId) (lb : Array Value) (mine rd : Nat → Prop) (S : List Int → Prop) (N : Nat) (w : World) (hN : N ≤ 20000) (hmine : ∀ r, mine r ∨ rd r → r < w.heap.size)
    (hseq : ∀ X, Below w.heap.size w X → SeqOwn Fence.wide 2 Tryd.prog gf lb encI (fun _ => True) mine rd S N X) (hen : ∀ args w, (callFunc gf args).run Tryd.prog w = .ok (.enter gf args) w) :
    Calls Tryd.prog 52 #[.func (.func gf) #[] lb] w fun e w' => ∃ xs v, e = .returned v ∧ S xs ∧ Seal (w'.ownsRow (w.heap.size + 1) 3 1 v xs.length (xs.flatMap intC) ∧ KeptBut mine w w') := by
  have H := Seal.mk (iappendSeq_any gf lb mine rd S N w hN hmine hseq hen)
  clear hmine hseq hen hN
  go_enter Tryd.func52, Tryd.ntmps52
  go_wp2_with fail
  refine H.out.mono ?_
  rintro e w1 ⟨xs, v, rfl, h1, h3⟩
  have HF := Seal.mk (And.intro h1 h3)
  clear h1 h3 H
  go_wp2
  go_ret
  exact ⟨xs, v, rfl, HF.out.1, HF.out.2⟩
end Frk
