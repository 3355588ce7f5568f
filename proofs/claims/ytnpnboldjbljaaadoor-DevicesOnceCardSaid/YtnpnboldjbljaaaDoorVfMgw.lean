/- Law 44: what merged yields. -/
import Derived.Test.YtnpnboldjbljaaaDoorVfMrg
namespace Frk
open Go Go.RowKit Go.Proofs
set_option maxRecDepth 100000

theorem rowsIn_w {n : Nat} {P : Program} {row : String} {args : Array Value} {w : World} {R : Value → World → Prop} (h : Rows P row args w R) : RowsIn Fence.wide n P row args w R := by
  intro c cs _
  obtain ⟨v, w', r, s⟩ := h c cs
  exact ⟨v, w', r, stepsIn_wide.2 s⟩
theorem opIn_of_op_w {n : Nat} {P : Program} {o : Oper} {a : Act} {w : World} {K : Act → World → Prop} {Q : Exit → Act → World → Prop} (hd : ∀ c, o.op ≠ .defer c) (h : o.wp P a w K Q) : o.wpIn Fence.wide n P a w K Q := by
  refine ⟨fun _ _ => trivial, ?_⟩
  rw [Oper.semAt_eq _ _ _ hd]
  unfold Oper.wp at h
  generalize (execOp a.eval o).run P w = r at h
  cases r with
  | ok x w' =>
    cases x <;> simp only [Oper.upon, Oper.uponIn] at h ⊢ <;> first | exact h | exact h.elim | exact ⟨fun h => (by cases h), callsIn_wide.2 h⟩ | exact ⟨fun h => (by cases h), rowsIn_w h⟩
  | halt x w' => cases x <;> simp only [Oper.upon, Oper.uponIn] at h ⊢ <;> first | exact h | exact h.elim

section
variable {n : Nat} {P : Program} {ops : Array Oper} {rest : List Oper} {o : Oper} {a : Act} {w : World} {Q : Exit → Act → World → Prop}
theorem wpListIn_load_mid_w (hg : o.guard = none) (ty : TypeId) (x : Operand) (ho : o.op = .load ty x)
    (b off : Nat) (hx : a.eval x = .pointer (some ⟨b, off, none⟩)) (cs : List Value) (d : TypeDesc) (hc : w.rangeAt b off cs)
    (hu : P.underlying ty = some d) (hd : d.isRow = true) (hi : (P.info? ty).map (·.size) = some cs.length)
    (h : wpListIn Fence.wide n P ops Q rest (a.put o.dst (.agg cs.toArray)) w) : wpListIn Fence.wide n P ops Q (o :: rest) a w :=
  wpListIn_plain hg fun K hK' => opIn_of_op_w (by rw [ho]; intro c hc'; cases hc') (wp_load_mid ty x ho b off hx cs d hc hu hd hi (hK' _ _ h))
end

theorem exec_slice {P : Program} {ρ : Operand → Value} {o : Oper} {w : World} (t : TypeId) (x lo : Operand) (ho : o.op = .slice t x (some lo) none none) (xv lv v : Value) (hx : ρ x = xv) (hl : ρ lo = lv) (hrun : (Instr.sliceAt t xv (some lv) none none).run P w = .ok v w) : (execOp ρ o).run P w = .ok (.value v) w := by
  unfold execOp
  simp [ho, hx, hl, hrun, Result.andThen]
theorem mrgK_none {α : Type} {key : α → Int} (l : List α) : mrgK key l [] = l := by cases l <;> simp [mrgK]
def mineP (pa pb : Nat) (k : Nat) : Prop := k = pa ∨ k = pb
/-- between two yields -/
structure MZ (pa pb pc : Nat) (tc : TypeId) (rd : Nat → Prop) (Wk : World) (l r : List Po) (Z : World) : Prop where
  ba : BoxC Po.C 33 22 rd Z pa l
  bb : BoxC Po.C 33 22 rd Z pb r
  bc : Z.heap[pc]? = some (.cells #[.func (.func 40) #[] #[]] tc (0, 0))
  kept : KeptBut (mineP pa pb) Wk Z
structure MR (pa pb pc : Nat) (rd : Nat → Prop) (Wk : World) : Prop where
  ab : pa ≠ pb
  ra : ¬ rd pa
  rb : ¬ rd pb
  rc : rd pc
  lt : ∀ k, rd k ∨ mineP pa pb k → k < Wk.heap.size
section
variable {pa pb pc : Nat} {tc : TypeId} {rd : Nat → Prop} {Wk Z Z' : World} {l r : List Po}
theorem MZ.same (h : MZ pa pb pc tc rd Wk l r Z) (hR : MR pa pb pc rd Wk) (hk : ∀ k, k < Wk.heap.size → Z'.heap[k]? = Z.heap[k]?) (hz : Z.heap.size ≤ Z'.heap.size) (ho : Z'.os = Z.os ∧ Z'.tape = Z.tape ∧ Z'.output = Z.output) : MZ pa pb pc tc rd Wk l r Z' :=
  ⟨h.ba.same (hk _ (hR.lt _ (.inr (.inl rfl)))) (fun k hr _ => hk k (hR.lt k (.inl hr))) hz, h.bb.same (hk _ (hR.lt _ (.inr (.inr rfl)))) (fun k hr _ => hk k (hR.lt k (.inl hr))) hz, (hk _ (hR.lt _ (.inl hR.rc))).trans h.bc,
    ⟨ho.1.trans h.kept.os, ho.2.1.trans h.kept.tape, ho.2.2.trans h.kept.output, Nat.le_trans h.kept.size hz, fun k h1 h2 => (hk k h1).trans (h.kept.block k h1 h2)⟩⟩
theorem MZ.popA {g o n c : Nat} {x : Po} (h : MZ pa pb pc tc rd Wk (x :: l) r Z) (hR : MR pa pb pc rd Wk) (hb : Z.heap[pa]? = some (.cells #[.slice (some ⟨g, o, none⟩) n c] 22 (0, 0))) :
    MZ pa pb pc tc rd Wk l r (Z.setCell ⟨pa, 0, none⟩ (.slice (tailA g o 33 c) (n - 1) (c - 1))) := by
  obtain ⟨a', n', c', hb', hi, hd⟩ := h.ba
  rw [hb] at hb'
  cases hb'
  have hlen := hi.llen
  simp only [List.length_cons] at hlen
  have hset := grownBy_setCell' Z pa (.slice (tailA g o 33 c) (n - 1) (c - 1))
  refine ⟨BoxC.pop hb hi (hd g o (by omega) rfl) hR.ra, h.bb.same (hset.block _ (Nat.lt_of_lt_of_le (hR.lt _ (.inr (.inr rfl))) h.kept.size) (fun e => hR.ab (Option.some.inj e).symm)) (fun k hr hl => hset.block k hl (fun e => hR.ra (by rw [← Option.some.inj e]; exact hr))) hset.size, (hset.block _ (Nat.lt_of_lt_of_le (hR.lt _ (.inl hR.rc)) h.kept.size) (fun e => hR.ra (by rw [← Option.some.inj e]; exact hR.rc))).trans h.bc, h.kept.cellSet (.inl rfl) _⟩
theorem MZ.popB {g o n c : Nat} {x : Po} (h : MZ pa pb pc tc rd Wk l (x :: r) Z) (hR : MR pa pb pc rd Wk) (hb : Z.heap[pb]? = some (.cells #[.slice (some ⟨g, o, none⟩) n c] 22 (0, 0))) :
    MZ pa pb pc tc rd Wk l r (Z.setCell ⟨pb, 0, none⟩ (.slice (tailA g o 33 c) (n - 1) (c - 1))) := by
  obtain ⟨a', n', c', hb', hi, hd⟩ := h.bb
  rw [hb] at hb'
  cases hb'
  have hlen := hi.llen
  simp only [List.length_cons] at hlen
  have hset := grownBy_setCell' Z pb (.slice (tailA g o 33 c) (n - 1) (c - 1))
  refine ⟨h.ba.same (hset.block _ (Nat.lt_of_lt_of_le (hR.lt _ (.inr (.inl rfl))) h.kept.size) (fun e => hR.ab (Option.some.inj e))) (fun k hr hl => hset.block k hl (fun e => hR.rb (by rw [← Option.some.inj e]; exact hr))) hset.size, BoxC.pop hb hi (hd g o (by omega) rfl) hR.rb, (hset.block _ (Nat.lt_of_lt_of_le (hR.lt _ (.inl hR.rc)) h.kept.size) (fun e => hR.rb (by rw [← Option.some.inj e]; exact hR.rc))).trans h.bc, h.kept.cellSet (.inr rfl) _⟩
/-- the head of a box that is not empty -/
theorem BoxC.head {ts : TypeId} {p : Nat} {x : Po} (h : BoxC Po.C 33 ts rd Z p (x :: l)) : ∃ g o n c, Z.heap[p]? = some (.cells #[.slice (some ⟨g, o, none⟩) n c] ts (0, 0)) ∧ Z.rangeAt g o x.C ∧ n = l.length + 1 ∧ n ≤ 5000 ∧ n ≤ c ∧ rd g ∧ x.C.length = 33 ∧ c ≤ 9223372036854775807 := by
  obtain ⟨a, n, c, hb, hi, hd⟩ := h
  have hlen := hi.llen
  simp only [List.length_cons] at hlen
  rcases hi.at_ with h0 | ⟨g, o, rfl, hr, hg⟩
  · omega
  · exact ⟨g, o, n, c, hb, by have := rangeC_row hr hi.each (i := 0) (x := x) rfl; simpa using this, hlen.symm, hi.lmax, hi.lcap, hd g o (by omega) rfl, hi.each x List.mem_cons_self, hi.cmax⟩
theorem BoxC.none {ts : TypeId} {p : Nat} (h : BoxC Po.C 33 ts rd Z p []) : ∃ a c, Z.heap[p]? = some (.cells #[.slice a 0 c] ts (0, 0)) := by
  obtain ⟨a, n, c, hb, hi, _⟩ := h
  have hlen := hi.llen
  simp only [List.length_nil] at hlen
  subst hlen
  exact ⟨a, c, hb⟩
theorem heap_setRow_ne {w : World} {g k : Nat} {cs : Array Value} (h : k ≠ g) : (w.setRow g cs).heap[k]? = w.heap[k]? := setRow_other _ _ _ _ h
end

attribute [local go_sem] Oper.semAt_some
set_option maxHeartbeats 8000000 in
theorem pmerged_own (m pa pb pc : Nat) (tc : TypeId) (rd : Nat → Prop) (l r : List Po) (w : World) (hR : MR pa pb pc rd w) (hA : BoxC Po.C 33 22 rd w pa l) (hB : BoxC Po.C 33 22 rd w pb r) (hC : w.heap[pc]? = some (.cells #[.func (.func 40) #[] #[]] tc (0, 0))) :
    SeqOwn Fence.wide m Tryd.prog 78 #[.pointer (some ⟨pa, 0, none⟩), .pointer (some ⟨pb, 0, none⟩), .pointer (some ⟨pc, 0, none⟩)] encP (fun x => x.C.length = 33) (mineP pa pb) rd (fun xs => xs = mrgK Po.o l r) (l.length + r.length) w := by
  intro t J W hW hY hJ0
  refine callsIn_of_wp Tryd.func78 rfl trivial ?_ rfl
  simp only [Tryd.ntmps78, List.size_toArray, List.length_cons, List.length_nil, Nat.reduceAdd, Nat.reduceSub, Array.replicate_succ, Array.replicate_zero, List.push_toArray, List.append_toArray, List.nil_append, List.cons_append]
  have hz0 := hW.size
  have H0 : Seal (MZ pa pb pc tc rd W l r W ∧ MR pa pb pc rd W ∧ W.heap.size ≤ W.heap.size ∧ ∃ xs W0, mrgK Po.o l r = xs ++ mrgK Po.o l r ∧ xs.length + l.length + r.length ≤ l.length + r.length ∧ J xs W0 ∧ KeptBut (mineP pa pb) W0 W ∧ W.heap.size ≤ W0.heap.size) := ⟨⟨⟨hA.same (hW.block _ (hR.lt _ (.inr (.inl rfl)))) (fun k _ hl => hW.block k hl) hz0, hB.same (hW.block _ (hR.lt _ (.inr (.inr rfl)))) (fun k _ hl => hW.block k hl) hz0, (hW.block _ (hR.lt _ (.inl hR.rc))).trans hC, KeptBut.refl _ _⟩, ⟨hR.ab, hR.ra, hR.rb, hR.rc, fun k hk => by have := hR.lt k hk; omega⟩, Nat.le_refl _, [], W, rfl, by simp, hJ0, KeptBut.refl _ _, Nat.le_refl _⟩⟩
  have HY := Seal.mk hY
  have ut := Tryd.underlying31
  clear hW hY hJ0 hR hA hB hC hz0
  gi_wp2
  gi_loopw [] (fun Wk => ∃ (l' r' : List Po), Seal (MZ pa pb pc tc rd Wk l' r' Wk ∧ MR pa pb pc rd Wk ∧ W.heap.size ≤ Wk.heap.size ∧ ∃ xs W0, mrgK Po.o l r = xs ++ mrgK Po.o l' r' ∧ xs.length + l'.length + r'.length ≤ l.length + r.length ∧ J xs W0 ∧ KeptBut (mineP pa pb) W0 Wk ∧ W.heap.size ≤ W0.heap.size)) (fun Wk => bxl Wk pa + bxl Wk pb)
  case atStart => exact ⟨l, r, H0⟩
  case round =>
    obtain ⟨Wk, rfl⟩ : ∃ z, z = wr := ⟨_, rfl⟩
    obtain ⟨l', r', hH⟩ := hrel
    clear H0
    have HR := Seal.mk hH.out.2.1
    have HM0 := Seal.mk hH.out.1
    have HJ := Seal.mk hH.out.2.2.2
    have HLEN : Seal (bxl Wk pa = l'.length ∧ bxl Wk pb = r'.length) := ⟨HM0.out.ba.len, HM0.out.bb.len⟩
    have cc : Wk.cell? ⟨pc, 0, none⟩ = some (.func (.func 40) #[] #[]) := by rw [cell_of_row _ _ _ _ _ _ HM0.out.bc]; rfl
    clear hH
    obtain ⟨gx, hgx⟩ : ∃ g, g = Wk.heap.size := ⟨_, rfl⟩
    have HG : Seal (Wk.heap.size ≤ gx) := ⟨by omega⟩
    cases l' with
    | nil =>
      obtain ⟨a1, c1, h1⟩ := HM0.out.ba.none
      have ca : Wk.cell? ⟨pa, 0, none⟩ = some (.slice a1 0 c1) := by rw [cell_of_row _ _ _ _ _ _ h1]; rfl
      cases r' with
      | nil =>
        obtain ⟨a2, c2, h2⟩ := HM0.out.bb.none
        have cb : Wk.cell? ⟨pb, 0, none⟩ = some (.slice a2 0 c2) := by rw [cell_of_row _ _ _ _ _ _ h2]; rfl
        clear h1 h2 hgx
        gi_wp2
        go_end0
        obtain ⟨xs, W0, j1, j2, j3, j4, j5⟩ := HJ.out
        exact ⟨⟨_, rfl⟩, xs, W0, by rw [j1]; simp [mrgK], j3, j4, j5⟩
      | cons y r2 =>
        obtain ⟨g2, o2, n2, c2, hby, ry, hn2, hm2, hc2, hd2, ly, hcm2⟩ := HM0.out.bb.head
        have cb : Wk.cell? ⟨pb, 0, none⟩ = some (.slice (some ⟨g2, o2, none⟩) n2 c2) := by rw [cell_of_row _ _ _ _ _ _ hby]; rfl
        obtain ⟨Cy, hCy⟩ : ∃ C, C = y.C := ⟨_, rfl⟩
        have HCy := Seal.mk hCy
        have iy : (Tryd.prog.info? 31).map (·.size) = some Cy.length := by rw [hCy, ly]; kernel_rfl
        have HXy : Seal (Cy.length = 33 ∧ (∀ v ∈ Cy, v.oneCell' = true) ∧ y.C.length = 33 ∧ rd g2) := ⟨by rw [hCy]; exact ⟨ly, Po.C_one y, ly, hd2⟩⟩
        have HM : Seal (mrgK Po.o [] (y :: r2) = [y] ++ mrgK Po.o [] r2) := ⟨by simp [mrgK]⟩
        rw [← hCy] at ry
        have q1 : 0 < n2 := by omega
        have q2 : (0 : Int) < (n2 : Int) := by omega
        clear h1 hCy hd2 ly hn2
        gi_wp2_with fail
        have hny := heap_alloc_new Wk (.cells #[.int .i64 0, .int .u8 0, .int .u8 0, .int .u8 0, .int .u8 0, .int .u8 0, .int .u8 0, .int .u8 0, .int .u8 0, .int .u8 0, .int .u8 0, .int .u8 0, .int .u8 0, .int .u8 0, .int .u8 0, .int .u8 0, .int .u8 0, .int .u8 0, .int .u8 0, .int .u8 0, .int .u8 0, .int .u8 0, .int .u8 0, .int .u8 0, .int .u8 0, .int .u8 0, .int .u8 0, .int .u8 0, .int .u8 0, .int .u8 0, .int .u8 0, .int .u8 0, .int .u8 0] 31)
        have hbl := below_alloc Wk (.cells #[.int .i64 0, .int .u8 0, .int .u8 0, .int .u8 0, .int .u8 0, .int .u8 0, .int .u8 0, .int .u8 0, .int .u8 0, .int .u8 0, .int .u8 0, .int .u8 0, .int .u8 0, .int .u8 0, .int .u8 0, .int .u8 0, .int .u8 0, .int .u8 0, .int .u8 0, .int .u8 0, .int .u8 0, .int .u8 0, .int .u8 0, .int .u8 0, .int .u8 0, .int .u8 0, .int .u8 0, .int .u8 0, .int .u8 0, .int .u8 0, .int .u8 0, .int .u8 0, .int .u8 0] 31)
        obtain ⟨Z, hZ⟩ : ∃ Z, Z = Wk.alloc (.cells #[.int .i64 0, .int .u8 0, .int .u8 0, .int .u8 0, .int .u8 0, .int .u8 0, .int .u8 0, .int .u8 0, .int .u8 0, .int .u8 0, .int .u8 0, .int .u8 0, .int .u8 0, .int .u8 0, .int .u8 0, .int .u8 0, .int .u8 0, .int .u8 0, .int .u8 0, .int .u8 0, .int .u8 0, .int .u8 0, .int .u8 0, .int .u8 0, .int .u8 0, .int .u8 0, .int .u8 0, .int .u8 0, .int .u8 0, .int .u8 0, .int .u8 0, .int .u8 0, .int .u8 0] 31) := ⟨_, rfl⟩
        rw [← hZ] at hny hbl ⊢
        rw [← hgx] at hny ⊢
        have MZ1 := Seal.mk (HM0.out.same HR.out (fun k hk => hbl.block k hk) hbl.size ⟨hbl.os, hbl.tape, hbl.output⟩)
        have hby := (hbl.block _ (HR.out.lt _ (.inr (.inr rfl)))).trans hby
        have ry := rangeAt_below' ry hbl
        clear hZ hbl HM0 ca cb cc hgx
        have cbx : Z.cell? ⟨pb, 0, none⟩ = some (.slice (some ⟨g2, o2, none⟩) n2 c2) := by rw [cell_of_row _ _ _ _ _ _ hby]; rfl
        have tl := run_tailP g2 o2 n2 c2 (by omega)
        refine wpIn_wide.2 ?_
        refine wp_region_heldT 6 (S := fun w' => w'.cell? ⟨pb, 0, none⟩ = some (.slice (some ⟨g2, o2, none⟩) n2 c2) ∧ w'.rangeAt g2 o2 Cy) (by kernel_rfl) ⟨cbx, ry⟩ (fun hHeld => ?_)
        obtain ⟨Vy, hV⟩ : ∃ V, V = Z.drew := ⟨_, rfl⟩
        have MVy : Seal (MZ pa pb pc tc rd Wk [] (y :: r2) Vy ∧ Vy.heap[gx]? = some (.cells #[.int .i64 0, .int .u8 0, .int .u8 0, .int .u8 0, .int .u8 0, .int .u8 0, .int .u8 0, .int .u8 0, .int .u8 0, .int .u8 0, .int .u8 0, .int .u8 0, .int .u8 0, .int .u8 0, .int .u8 0, .int .u8 0, .int .u8 0, .int .u8 0, .int .u8 0, .int .u8 0, .int .u8 0, .int .u8 0, .int .u8 0, .int .u8 0, .int .u8 0, .int .u8 0, .int .u8 0, .int .u8 0, .int .u8 0, .int .u8 0, .int .u8 0, .int .u8 0, .int .u8 0] 31 (0, 0)) ∧ Vy.heap[pb]? = some (.cells #[.slice (some ⟨g2, o2, none⟩) n2 c2] 22 (0, 0))) := ⟨by rw [hV]; exact ⟨MZ1.out.same HR.out (fun _ _ => rfl) (Nat.le_refl _) ⟨rfl, rfl, rfl⟩, hny, hby⟩⟩
        rw [← hV] at hHeld ⊢
        clear hV cbx hby ry
        have q5 : (1 : Int) ≤ (n2 : Int) := by omega
        refine take_t 0 ?_ rfl (by kernel_rfl) (by kernel_rfl) (by kernel_rfl) (by kernel_rfl) (fun _ _ _ h => h) (Or.inl ⟨by kernel_rfl, ?_⟩) (by assumption) ?_
        rotate_left
        · (intro w hSw; (try dsimp only at hSw); go_simp; try (with_reducible rfl))
        try simp only [Act.put, List.setIfInBounds_toArray, List.set_cons_zero, List.set_cons_succ]
        refine take_t 1 ?_ rfl (by kernel_rfl) (by kernel_rfl) (by kernel_rfl) (by kernel_rfl) (fun _ _ _ h => h) (Or.inl ⟨by kernel_rfl, ?_⟩) (by assumption) ?_
        rotate_left
        · (intro w hSw; (try dsimp only at hSw); go_simp; try (with_reducible rfl))
        try simp only [Act.put, List.setIfInBounds_toArray, List.set_cons_zero, List.set_cons_succ]
        refine take_t 2 _ rfl (by kernel_rfl) (by kernel_rfl) (by kernel_rfl) (by kernel_rfl) (fun _ _ _ h => h) (yieldsIf_load_mid (by kernel_rfl) 31 (.tmp 37) rfl g2 o2 rfl Cy _ (fun w hSw => hSw.2) ut rfl iy) (by assumption) ?_
        try simp only [Act.put, List.setIfInBounds_toArray, List.set_cons_zero, List.set_cons_succ]
        refine take_t 3 ?_ rfl (by kernel_rfl) (by kernel_rfl) (by kernel_rfl) (by kernel_rfl) (fun _ _ _ h => h) (Or.inl ⟨by kernel_rfl, ?_⟩) (by assumption) ?_
        rotate_left
        · (intro w hSw; (try dsimp only at hSw); go_simp; try (with_reducible rfl))
        try simp only [Act.put, List.setIfInBounds_toArray, List.set_cons_zero, List.set_cons_succ]
        refine take_t 4 (.slice (tailA g2 o2 33 c2) (n2 - 1) (c2 - 1)) rfl (by kernel_rfl) (by kernel_rfl) (by kernel_rfl) (by kernel_rfl) (fun _ _ _ h => h) (Or.inl ⟨by kernel_rfl, fun w _ => exec_slice 22 (.tmp 39) _ rfl (.slice (some ⟨g2, o2, none⟩) n2 c2) (.int .i64 1) _ rfl rfl (tl w)⟩) (by assumption) ?_
        try simp only [Act.put, List.setIfInBounds_toArray, List.set_cons_zero, List.set_cons_succ]
        refine skip_t 5 (Vy.setRow gx Cy.toArray) rfl (by kernel_rfl) (by kernel_rfl) (exec_store_row 31 (.tmp 6) (.tmp 38) rfl gx Cy.toArray rfl rfl 31 _ MVy.out.2.1 (by simpa using iy) (by simp [HXy.out.1]) (all_oneCell_toArray HXy.out.2.1)) ⟨(cell_setRow_other _ _ _ ⟨pb, 0, none⟩ (by have := HG.out; have := HR.out.lt pb (.inr (by unfold mineP; simp)); show pb ≠ gx; omega)).trans hHeld.1, rangeAt_setRow hHeld.2 (by have := HG.out; have := HR.out.lt g2 (.inl HXy.out.2.2.2); omega)⟩ (fun hHeld2 => ?_)
        try simp only [Act.put]
        clear hHeld
        obtain ⟨Uy, hU⟩ : ∃ U, U = Vy.setRow gx Cy.toArray := ⟨_, rfl⟩
        have MUy : Seal (MZ pa pb pc tc rd Wk [] (y :: r2) Uy ∧ Uy.heap[gx]? = some (.cells Cy.toArray 31 (0, 0)) ∧ Uy.heap[pb]? = some (.cells #[.slice (some ⟨g2, o2, none⟩) n2 c2] 22 (0, 0))) := ⟨by
          rw [hU]
          refine ⟨MVy.out.1.same HR.out (fun k hk => heap_setRow_ne (by have := HG.out; omega)) (by simp) ⟨rfl, rfl, rfl⟩, setRow_heap _ _ _ _ _ _ MVy.out.2.1, (heap_setRow_ne (by have := HG.out; have := HR.out.lt pb (.inr (by unfold mineP; simp)); omega)).trans MVy.out.2.2⟩⟩
        rw [← hU] at hHeld2 ⊢
        clear hU
        have cbu : Uy.cell? ⟨pb, 0, none⟩ = some (.slice (some ⟨g2, o2, none⟩) n2 c2) := hHeld2.1
        have fbu : Uy.frozen? ⟨pb, 0, none⟩ = false := frozen_of_row _ _ _ _ _ MUy.out.2.2
        refine last_t (Uy.setCell ⟨pb, 0, none⟩ (.slice (tailA g2 o2 33 c2) (n2 - 1) (c2 - 1))) rfl (by kernel_rfl) (by kernel_rfl) (by kernel_rfl) (by go_simp) ?_
        try simp only [Act.put]
        obtain ⟨Yy, hYY⟩ : ∃ U, U = Uy.setCell ⟨pb, 0, none⟩ (.slice (tailA g2 o2 33 c2) (n2 - 1) (c2 - 1)) := ⟨_, rfl⟩
        have MYy : Seal (MZ pa pb pc tc rd Wk [] r2 Yy ∧ Yy.heap[gx]? = some (.cells Cy.toArray 31 (0, 0))) := ⟨by
          rw [hYY]
          exact ⟨MUy.out.1.popB HR.out MUy.out.2.2, ((grownBy_setCell' Uy pb _).block gx (Array.getElem?_eq_some_iff.1 MUy.out.2.1).1 (fun e => by have := Option.some.inj e; have := HG.out; have := HR.out.lt pb (.inr (by unfold mineP; simp)); omega)).trans MUy.out.2.1⟩⟩
        rw [← hYY]
        clear hYY hHeld2 cbu fbu tl MVy MUy q5
        clear hny MZ1
        have rY := rangeAt_row MYy.out.2
        have hlt6 : gx < Yy.heap.size := (Array.getElem?_eq_some_iff.1 MYy.out.2).1
        obtain ⟨xs, W0, j1, j2, j3, j4, j5⟩ := HJ.out
        obtain ⟨fn, tmps, asg, body, hy, hRR⟩ := HY.out xs y W0 Yy j3 (j4.trans MYy.out.1.kept) j5 HXy.out.2.2.1 (by simp only [List.length_cons, List.length_nil] at j2; omega)
        have hRR := Seal.mk hRR
        have HJ2 : Seal (mrgK Po.o l r = (xs ++ [y]) ++ mrgK Po.o ([] : List Po) r2 ∧ xs.length + 1 + (([] : List Po)).length + (r2).length ≤ l.length + r.length) := ⟨by rw [j1, HM.out]; simp, by simp only [List.length_cons, List.length_nil] at j2 ⊢; omega⟩
        have HSZ : Seal (W.heap.size ≤ Yy.heap.size) := ⟨by have := j4.size; have := MYy.out.1.kept.size; omega⟩
        unfold encP at hy
        rw [← HCy.out] at hy
        clear j1 j2 j3 j4 j5 HJ
        gi_wp2_with (refine wpListIn_load_mid_w rfl 31 (.tmp 6) rfl gx 0 rfl Cy _ rY ut rfl iy ?_; (try simp only [Act.put, List.setIfInBounds_toArray, List.set_cons_zero, List.set_cons_succ]))
        refine ⟨fun h => (by cases h), ?_⟩
        refine hRR.out.mono ?_
        rintro e W' ⟨rfl, hJ', hz', hk'⟩
        have HN : Seal (MZ pa pb pc tc rd W' ([] : List Po) r2 W' ∧ MR pa pb pc rd W' ∧ W.heap.size ≤ W'.heap.size ∧ ∃ xs W0, mrgK Po.o l r = xs ++ mrgK Po.o ([] : List Po) r2 ∧ xs.length + (([] : List Po)).length + (r2).length ≤ l.length + r.length ∧ J xs W0 ∧ KeptBut (mineP pa pb) W0 W' ∧ W.heap.size ≤ W0.heap.size) := ⟨by
          have hm := MYy.out.1
          have hRk := HR.out
          have hsz := HSZ.out
          refine ⟨⟨hm.ba.same (hk' _ (.inl (.inl rfl))) (fun k hr _ => hk' k (.inr hr)) hz', hm.bb.same (hk' _ (.inl (.inr rfl))) (fun k hr _ => hk' k (.inr hr)) hz', (hk' _ (.inr hRk.rc)).trans hm.bc, KeptBut.refl _ _⟩, ⟨hRk.ab, hRk.ra, hRk.rb, hRk.rc, fun k hk => by have := hRk.lt k hk; have := hm.kept.size; omega⟩, by omega, xs ++ [y], W', HJ2.out.1, by rw [List.length_append, List.length_singleton]; exact HJ2.out.2, hJ', KeptBut.refl _ _, by omega⟩⟩
        clear hJ' hz' hk' hy hRR HSZ HJ2 rY hlt6 MYy
        gi_wp2
        go_roundw
        case rel => exact ⟨([] : List Po), r2, HN⟩
        case measure =>
          rw [HN.out.1.ba.len, HN.out.1.bb.len, HLEN.out.1, HLEN.out.2]
          (try simp only [List.length_cons, List.length_nil]); omega
    | cons x l2 =>
      obtain ⟨g1, o1, n1, c1, hbx, rx, hn1, hm1, hc1, hd1, lx, hcm1⟩ := HM0.out.ba.head
      have ca : Wk.cell? ⟨pa, 0, none⟩ = some (.slice (some ⟨g1, o1, none⟩) n1 c1) := by rw [cell_of_row _ _ _ _ _ _ hbx]; rfl
      obtain ⟨Cx, hCx⟩ : ∃ C, C = x.C := ⟨_, rfl⟩
      have HCx := Seal.mk hCx
      have ix : (Tryd.prog.info? 31).map (·.size) = some Cx.length := by rw [hCx, lx]; kernel_rfl
      have HXx : Seal (Cx.length = 33 ∧ (∀ v ∈ Cx, v.oneCell' = true) ∧ x.C.length = 33 ∧ rd g1) := ⟨by rw [hCx]; exact ⟨lx, Po.C_one x, lx, hd1⟩⟩
      rw [← hCx] at rx
      clear hCx hd1 lx
      have q1 : 0 < n1 := by omega
      have q2 : (0 : Int) < (n1 : Int) := by omega
      cases r' with
      | nil =>
        obtain ⟨a2, c2, h2⟩ := HM0.out.bb.none
        have cb : Wk.cell? ⟨pb, 0, none⟩ = some (.slice a2 0 c2) := by rw [cell_of_row _ _ _ _ _ _ h2]; rfl
        have HM : Seal (mrgK Po.o (x :: l2) [] = [x] ++ mrgK Po.o l2 []) := ⟨by rw [mrgK_none, mrgK_none]; rfl⟩
        have MB := HM0
        have q3 : ¬ (n1 : Int) = 0 := by omega
        have q4 : ¬ n1 = 0 := by omega
        clear h2 hn1 HM0
        gi_wp2_with fail
        have hnn := heap_alloc_new Wk (.cells #[.int .i64 0, .int .u8 0, .int .u8 0, .int .u8 0, .int .u8 0, .int .u8 0, .int .u8 0, .int .u8 0, .int .u8 0, .int .u8 0, .int .u8 0, .int .u8 0, .int .u8 0, .int .u8 0, .int .u8 0, .int .u8 0, .int .u8 0, .int .u8 0, .int .u8 0, .int .u8 0, .int .u8 0, .int .u8 0, .int .u8 0, .int .u8 0, .int .u8 0, .int .u8 0, .int .u8 0, .int .u8 0, .int .u8 0, .int .u8 0, .int .u8 0, .int .u8 0, .int .u8 0] 31)
        have hbl := below_alloc Wk (.cells #[.int .i64 0, .int .u8 0, .int .u8 0, .int .u8 0, .int .u8 0, .int .u8 0, .int .u8 0, .int .u8 0, .int .u8 0, .int .u8 0, .int .u8 0, .int .u8 0, .int .u8 0, .int .u8 0, .int .u8 0, .int .u8 0, .int .u8 0, .int .u8 0, .int .u8 0, .int .u8 0, .int .u8 0, .int .u8 0, .int .u8 0, .int .u8 0, .int .u8 0, .int .u8 0, .int .u8 0, .int .u8 0, .int .u8 0, .int .u8 0, .int .u8 0, .int .u8 0, .int .u8 0] 31)
        obtain ⟨Z, hZ⟩ : ∃ Z, Z = Wk.alloc (.cells #[.int .i64 0, .int .u8 0, .int .u8 0, .int .u8 0, .int .u8 0, .int .u8 0, .int .u8 0, .int .u8 0, .int .u8 0, .int .u8 0, .int .u8 0, .int .u8 0, .int .u8 0, .int .u8 0, .int .u8 0, .int .u8 0, .int .u8 0, .int .u8 0, .int .u8 0, .int .u8 0, .int .u8 0, .int .u8 0, .int .u8 0, .int .u8 0, .int .u8 0, .int .u8 0, .int .u8 0, .int .u8 0, .int .u8 0, .int .u8 0, .int .u8 0, .int .u8 0, .int .u8 0] 31) := ⟨_, rfl⟩
        rw [← hZ] at hnn hbl ⊢
        rw [← hgx] at hnn ⊢
        have MZ1 := Seal.mk (MB.out.same HR.out (fun k hk => hbl.block k (Nat.lt_of_lt_of_le hk MB.out.kept.size)) hbl.size ⟨hbl.os, hbl.tape, hbl.output⟩)
        have hbx := (hbl.block _ (Nat.lt_of_lt_of_le (HR.out.lt pa (.inr (by unfold mineP; simp))) MB.out.kept.size)).trans hbx
        have rx := rangeAt_below' rx hbl
        clear hZ hbl hgx
        clear ca cb cc
        have cbx : Z.cell? ⟨pa, 0, none⟩ = some (.slice (some ⟨g1, o1, none⟩) n1 c1) := by rw [cell_of_row _ _ _ _ _ _ hbx]; rfl
        have tl := run_tailP g1 o1 n1 c1 (by omega)
        refine wpIn_wide.2 ?_
        refine wp_region_heldT 6 (S := fun w' => w'.cell? ⟨pa, 0, none⟩ = some (.slice (some ⟨g1, o1, none⟩) n1 c1) ∧ w'.rangeAt g1 o1 Cx) (by kernel_rfl) ⟨cbx, rx⟩ (fun hHeld => ?_)
        obtain ⟨Vx, hV⟩ : ∃ V, V = Z.drew := ⟨_, rfl⟩
        have MVx : Seal (MZ pa pb pc tc rd Wk (x :: l2) [] Vx ∧ Vx.heap[gx]? = some (.cells #[.int .i64 0, .int .u8 0, .int .u8 0, .int .u8 0, .int .u8 0, .int .u8 0, .int .u8 0, .int .u8 0, .int .u8 0, .int .u8 0, .int .u8 0, .int .u8 0, .int .u8 0, .int .u8 0, .int .u8 0, .int .u8 0, .int .u8 0, .int .u8 0, .int .u8 0, .int .u8 0, .int .u8 0, .int .u8 0, .int .u8 0, .int .u8 0, .int .u8 0, .int .u8 0, .int .u8 0, .int .u8 0, .int .u8 0, .int .u8 0, .int .u8 0, .int .u8 0, .int .u8 0] 31 (0, 0)) ∧ Vx.heap[pa]? = some (.cells #[.slice (some ⟨g1, o1, none⟩) n1 c1] 22 (0, 0))) := ⟨by rw [hV]; exact ⟨MZ1.out.same HR.out (fun _ _ => rfl) (Nat.le_refl _) ⟨rfl, rfl, rfl⟩, hnn, hbx⟩⟩
        rw [← hV] at hHeld ⊢
        clear hV cbx hbx rx
        have q5 : (1 : Int) ≤ (n1 : Int) := by omega
        refine take_t 0 ?_ rfl (by kernel_rfl) (by kernel_rfl) (by kernel_rfl) (by kernel_rfl) (fun _ _ _ h => h) (Or.inl ⟨by kernel_rfl, ?_⟩) (by assumption) ?_
        rotate_left
        · (intro w hSw; (try dsimp only at hSw); go_simp; try (with_reducible rfl))
        try simp only [Act.put, List.setIfInBounds_toArray, List.set_cons_zero, List.set_cons_succ]
        refine take_t 1 ?_ rfl (by kernel_rfl) (by kernel_rfl) (by kernel_rfl) (by kernel_rfl) (fun _ _ _ h => h) (Or.inl ⟨by kernel_rfl, ?_⟩) (by assumption) ?_
        rotate_left
        · (intro w hSw; (try dsimp only at hSw); go_simp; try (with_reducible rfl))
        try simp only [Act.put, List.setIfInBounds_toArray, List.set_cons_zero, List.set_cons_succ]
        refine take_t 2 _ rfl (by kernel_rfl) (by kernel_rfl) (by kernel_rfl) (by kernel_rfl) (fun _ _ _ h => h) (yieldsIf_load_mid (by kernel_rfl) 31 (.tmp 30) rfl g1 o1 rfl Cx _ (fun w hSw => hSw.2) ut rfl ix) (by assumption) ?_
        try simp only [Act.put, List.setIfInBounds_toArray, List.set_cons_zero, List.set_cons_succ]
        refine take_t 3 ?_ rfl (by kernel_rfl) (by kernel_rfl) (by kernel_rfl) (by kernel_rfl) (fun _ _ _ h => h) (Or.inl ⟨by kernel_rfl, ?_⟩) (by assumption) ?_
        rotate_left
        · (intro w hSw; (try dsimp only at hSw); go_simp; try (with_reducible rfl))
        try simp only [Act.put, List.setIfInBounds_toArray, List.set_cons_zero, List.set_cons_succ]
        refine take_t 4 (.slice (tailA g1 o1 33 c1) (n1 - 1) (c1 - 1)) rfl (by kernel_rfl) (by kernel_rfl) (by kernel_rfl) (by kernel_rfl) (fun _ _ _ h => h) (Or.inl ⟨by kernel_rfl, fun w _ => exec_slice 22 (.tmp 32) _ rfl (.slice (some ⟨g1, o1, none⟩) n1 c1) (.int .i64 1) _ rfl rfl (tl w)⟩) (by assumption) ?_
        try simp only [Act.put, List.setIfInBounds_toArray, List.set_cons_zero, List.set_cons_succ]
        refine skip_t 5 (Vx.setRow gx Cx.toArray) rfl (by kernel_rfl) (by kernel_rfl) (exec_store_row 31 (.tmp 6) (.tmp 31) rfl gx Cx.toArray rfl rfl 31 _ MVx.out.2.1 (by simpa using ix) (by simp [HXx.out.1]) (all_oneCell_toArray HXx.out.2.1)) ⟨(cell_setRow_other _ _ _ ⟨pa, 0, none⟩ (by have := HG.out; have := HR.out.lt pa (.inr (by unfold mineP; simp)); show pa ≠ gx; omega)).trans hHeld.1, rangeAt_setRow hHeld.2 (by have := HG.out; have := HR.out.lt g1 (.inl HXx.out.2.2.2); omega)⟩ (fun hHeld2 => ?_)
        try simp only [Act.put]
        clear hHeld
        obtain ⟨Ux, hU⟩ : ∃ U, U = Vx.setRow gx Cx.toArray := ⟨_, rfl⟩
        have MUx : Seal (MZ pa pb pc tc rd Wk (x :: l2) [] Ux ∧ Ux.heap[gx]? = some (.cells Cx.toArray 31 (0, 0)) ∧ Ux.heap[pa]? = some (.cells #[.slice (some ⟨g1, o1, none⟩) n1 c1] 22 (0, 0))) := ⟨by
          rw [hU]
          refine ⟨MVx.out.1.same HR.out (fun k hk => heap_setRow_ne (by have := HG.out; omega)) (by simp) ⟨rfl, rfl, rfl⟩, setRow_heap _ _ _ _ _ _ MVx.out.2.1, (heap_setRow_ne (by have := HG.out; have := HR.out.lt pa (.inr (by unfold mineP; simp)); omega)).trans MVx.out.2.2⟩⟩
        rw [← hU] at hHeld2 ⊢
        clear hU
        have cbu : Ux.cell? ⟨pa, 0, none⟩ = some (.slice (some ⟨g1, o1, none⟩) n1 c1) := hHeld2.1
        have fbu : Ux.frozen? ⟨pa, 0, none⟩ = false := frozen_of_row _ _ _ _ _ MUx.out.2.2
        refine last_t (Ux.setCell ⟨pa, 0, none⟩ (.slice (tailA g1 o1 33 c1) (n1 - 1) (c1 - 1))) rfl (by kernel_rfl) (by kernel_rfl) (by kernel_rfl) (by go_simp) ?_
        try simp only [Act.put]
        obtain ⟨Yx, hYY⟩ : ∃ U, U = Ux.setCell ⟨pa, 0, none⟩ (.slice (tailA g1 o1 33 c1) (n1 - 1) (c1 - 1)) := ⟨_, rfl⟩
        have MYx : Seal (MZ pa pb pc tc rd Wk l2 [] Yx ∧ Yx.heap[gx]? = some (.cells Cx.toArray 31 (0, 0))) := ⟨by
          rw [hYY]
          exact ⟨MUx.out.1.popA HR.out MUx.out.2.2, ((grownBy_setCell' Ux pa _).block gx (Array.getElem?_eq_some_iff.1 MUx.out.2.1).1 (fun e => by have := Option.some.inj e; have := HG.out; have := HR.out.lt pa (.inr (by unfold mineP; simp)); omega)).trans MUx.out.2.1⟩⟩
        rw [← hYY]
        clear hYY hHeld2 cbu fbu tl MVx MUx q5
        clear hnn MZ1
        have rY := rangeAt_row MYx.out.2
        have hlt6 : gx < Yx.heap.size := (Array.getElem?_eq_some_iff.1 MYx.out.2).1
        obtain ⟨xs, W0, j1, j2, j3, j4, j5⟩ := HJ.out
        obtain ⟨fn, tmps, asg, body, hy, hRR⟩ := HY.out xs x W0 Yx j3 (j4.trans MYx.out.1.kept) j5 HXx.out.2.2.1 (by simp only [List.length_cons, List.length_nil] at j2; omega)
        have hRR := Seal.mk hRR
        have HJ2 : Seal (mrgK Po.o l r = (xs ++ [x]) ++ mrgK Po.o l2 ([] : List Po) ∧ xs.length + 1 + (l2).length + (([] : List Po)).length ≤ l.length + r.length) := ⟨by rw [j1, HM.out]; simp, by simp only [List.length_cons, List.length_nil] at j2 ⊢; omega⟩
        have HSZ : Seal (W.heap.size ≤ Yx.heap.size) := ⟨by have := j4.size; have := MYx.out.1.kept.size; omega⟩
        unfold encP at hy
        rw [← HCx.out] at hy
        clear j1 j2 j3 j4 j5 HJ
        gi_wp2_with (refine wpListIn_load_mid_w rfl 31 (.tmp 6) rfl gx 0 rfl Cx _ rY ut rfl ix ?_; (try simp only [Act.put, List.setIfInBounds_toArray, List.set_cons_zero, List.set_cons_succ]))
        refine ⟨fun h => (by cases h), ?_⟩
        refine hRR.out.mono ?_
        rintro e W' ⟨rfl, hJ', hz', hk'⟩
        have HN : Seal (MZ pa pb pc tc rd W' l2 ([] : List Po) W' ∧ MR pa pb pc rd W' ∧ W.heap.size ≤ W'.heap.size ∧ ∃ xs W0, mrgK Po.o l r = xs ++ mrgK Po.o l2 ([] : List Po) ∧ xs.length + (l2).length + (([] : List Po)).length ≤ l.length + r.length ∧ J xs W0 ∧ KeptBut (mineP pa pb) W0 W' ∧ W.heap.size ≤ W0.heap.size) := ⟨by
          have hm := MYx.out.1
          have hRk := HR.out
          have hsz := HSZ.out
          refine ⟨⟨hm.ba.same (hk' _ (.inl (.inl rfl))) (fun k hr _ => hk' k (.inr hr)) hz', hm.bb.same (hk' _ (.inl (.inr rfl))) (fun k hr _ => hk' k (.inr hr)) hz', (hk' _ (.inr hRk.rc)).trans hm.bc, KeptBut.refl _ _⟩, ⟨hRk.ab, hRk.ra, hRk.rb, hRk.rc, fun k hk => by have := hRk.lt k hk; have := hm.kept.size; omega⟩, by omega, xs ++ [x], W', HJ2.out.1, by rw [List.length_append, List.length_singleton]; exact HJ2.out.2, hJ', KeptBut.refl _ _, by omega⟩⟩
        clear hJ' hz' hk' hy hRR HSZ HJ2 rY hlt6 MYx
        gi_wp2
        go_roundw
        case rel => exact ⟨l2, ([] : List Po), HN⟩
        case measure =>
          rw [HN.out.1.ba.len, HN.out.1.bb.len, HLEN.out.1, HLEN.out.2]
          (try simp only [List.length_cons, List.length_nil]); omega
      | cons y r2 =>
        obtain ⟨g2, o2, n2, c2, hby, ry, hn2, hm2, hc2, hd2, ly, hcm2⟩ := HM0.out.bb.head
        have cb : Wk.cell? ⟨pb, 0, none⟩ = some (.slice (some ⟨g2, o2, none⟩) n2 c2) := by rw [cell_of_row _ _ _ _ _ _ hby]; rfl
        obtain ⟨Cy, hCy⟩ : ∃ C, C = y.C := ⟨_, rfl⟩
        have HCy := Seal.mk hCy
        have iy : (Tryd.prog.info? 31).map (·.size) = some Cy.length := by rw [hCy, ly]; kernel_rfl
        have HXy : Seal (Cy.length = 33 ∧ (∀ v ∈ Cy, v.oneCell' = true) ∧ y.C.length = 33 ∧ rd g2) := ⟨by rw [hCy]; exact ⟨ly, Po.C_one y, ly, hd2⟩⟩
        rw [← hCy] at ry
        clear hCy hd2 ly
        have q3 : 0 < n2 := by omega
        have q4 : (0 : Int) < (n2 : Int) := by omega
        have q6 : ¬ n1 = 0 := by omega
        have q7 : ¬ (n1 : Int) = 0 := by omega
        have HCB : Seal (∀ W, Calls Tryd.prog 40 #[.agg Cx.toArray, .agg Cy.toArray] W fun e w' => e = .returned (.int .i64 (cmpZ x.o y.o)) ∧ Below W.heap.size W w') := ⟨fun W => by rw [HCx.out, HCy.out]; exact byOrder_any x y W⟩
        clear hn1 hn2 hgx HG
        gi_wp2_with fail
        refine wpIn_wide.2 ?_
        refine wp_region_held_drew (S := fun w' => w'.cell? ⟨pa, 0, none⟩ = some (.slice (some ⟨g1, o1, none⟩) n1 c1) ∧ w'.cell? ⟨pb, 0, none⟩ = some (.slice (some ⟨g2, o2, none⟩) n2 c2) ∧ w'.cell? ⟨pc, 0, none⟩ = some (.func (.func 40) #[] #[]) ∧ w'.rangeAt g1 o1 Cx ∧ w'.rangeAt g2 o2 Cy) (by kernel_rfl) ⟨ca, cb, cc, rx, ry⟩ (fun hHeld => ?_)
        obtain ⟨V, hV⟩ : ∃ V, V = Wk.drew := ⟨_, rfl⟩
        have MV : Seal (MZ pa pb pc tc rd Wk (x :: l2) (y :: r2) V ∧ V.heap[pa]? = some (.cells #[.slice (some ⟨g1, o1, none⟩) n1 c1] 22 (0, 0)) ∧ V.heap[pb]? = some (.cells #[.slice (some ⟨g2, o2, none⟩) n2 c2] 22 (0, 0))) := ⟨by rw [hV]; exact ⟨HM0.out.same HR.out (fun _ _ => rfl) (Nat.le_refl _) ⟨rfl, rfl, rfl⟩, hbx, hby⟩⟩
        rw [← hV] at hHeld ⊢
        clear hV ca cb cc rx ry hbx hby HM0
        refine take_h 0 ?_ rfl (by kernel_rfl) (by kernel_rfl) (by kernel_rfl) (fun _ _ _ h => h) (Or.inl ⟨by kernel_rfl, ?_⟩) (by assumption) ?_
        rotate_left
        · (intro w hSw; (try dsimp only at hSw); go_simp; try (with_reducible rfl))
        try simp only [Act.put, List.setIfInBounds_toArray, List.set_cons_zero, List.set_cons_succ]
        refine take_h 1 ?_ rfl (by kernel_rfl) (by kernel_rfl) (by kernel_rfl) (fun _ _ _ h => h) (Or.inl ⟨by kernel_rfl, ?_⟩) (by assumption) ?_
        rotate_left
        · (intro w hSw; (try dsimp only at hSw); go_simp; try (with_reducible rfl))
        try simp only [Act.put, List.setIfInBounds_toArray, List.set_cons_zero, List.set_cons_succ]
        refine take_h 2 ?_ rfl (by kernel_rfl) (by kernel_rfl) (by kernel_rfl) (fun _ _ _ h => h) (Or.inl ⟨by kernel_rfl, ?_⟩) (by assumption) ?_
        rotate_left
        · (intro w hSw; (try dsimp only at hSw); go_simp; try (with_reducible rfl))
        try simp only [Act.put, List.setIfInBounds_toArray, List.set_cons_zero, List.set_cons_succ]
        refine take_h 3 _ rfl (by kernel_rfl) (by kernel_rfl) (by kernel_rfl) (fun _ _ _ h => h) (yieldsIf_load_mid (by kernel_rfl) 31 (.tmp 21) rfl g1 o1 rfl Cx _ (fun w hSw => hSw.2.2.2.1) ut rfl ix) (by assumption) ?_
        try simp only [Act.put, List.setIfInBounds_toArray, List.set_cons_zero, List.set_cons_succ]
        refine take_h 4 ?_ rfl (by kernel_rfl) (by kernel_rfl) (by kernel_rfl) (fun _ _ _ h => h) (Or.inl ⟨by kernel_rfl, ?_⟩) (by assumption) ?_
        rotate_left
        · (intro w hSw; (try dsimp only at hSw); go_simp; try (with_reducible rfl))
        try simp only [Act.put, List.setIfInBounds_toArray, List.set_cons_zero, List.set_cons_succ]
        refine take_h 5 ?_ rfl (by kernel_rfl) (by kernel_rfl) (by kernel_rfl) (fun _ _ _ h => h) (Or.inl ⟨by kernel_rfl, ?_⟩) (by assumption) ?_
        rotate_left
        · (intro w hSw; (try dsimp only at hSw); go_simp; try (with_reducible rfl))
        try simp only [Act.put, List.setIfInBounds_toArray, List.set_cons_zero, List.set_cons_succ]
        refine take_h 6 _ rfl (by kernel_rfl) (by kernel_rfl) (by kernel_rfl) (fun _ _ _ h => h) (yieldsIf_load_mid (by kernel_rfl) 31 (.tmp 24) rfl g2 o2 rfl Cy _ (fun w hSw => hSw.2.2.2.2) ut rfl iy) (by assumption) ?_
        try simp only [Act.put, List.setIfInBounds_toArray, List.set_cons_zero, List.set_cons_succ]
        refine call_h 7 rfl (by kernel_rfl) 40 #[.agg Cx.toArray, .agg Cy.toArray] (by kernel_rfl) (by go_simp) ?_
        refine (HCB.out V).mono ?_
        rintro e V1 ⟨rfl, hb1⟩
        refine ⟨_, rfl, ⟨cell_below' hb1 hHeld.1, cell_below' hb1 hHeld.2.1, cell_below' hb1 hHeld.2.2.1, rangeAt_below' hHeld.2.2.2.1 hb1, rangeAt_below' hHeld.2.2.2.2 hb1⟩, fun hHeld2 => ?_⟩
        try simp only [Act.put, List.setIfInBounds_toArray, List.set_cons_zero, List.set_cons_succ]
        have MB := Seal.mk (MV.out.1.same HR.out (fun k hk => hb1.block k (Nat.lt_of_lt_of_le hk MV.out.1.kept.size)) hb1.size ⟨hb1.os, hb1.tape, hb1.output⟩)
        have hbx := (hb1.block _ (Nat.lt_of_lt_of_le (HR.out.lt pa (.inr (by unfold mineP; simp))) MV.out.1.kept.size)).trans MV.out.2.1
        have hby := (hb1.block _ (Nat.lt_of_lt_of_le (HR.out.lt pb (.inr (by unfold mineP; simp))) MV.out.1.kept.size)).trans MV.out.2.2
        clear hb1 hHeld MV HCB
        refine take_h 8 ?_ rfl (by kernel_rfl) (by kernel_rfl) (by kernel_rfl) (fun _ _ _ h => h) (Or.inl ⟨by kernel_rfl, ?_⟩) (by assumption) ?_
        rotate_left
        · (intro w hSw; (try dsimp only at hSw); go_simp; try (with_reducible rfl))
        try simp only [Act.put, List.setIfInBounds_toArray, List.set_cons_zero, List.set_cons_succ]
        refine wpAnyH_done (by kernel_rfl) ?_ _
        have rx := hHeld2.2.2.2.1
        have ry := hHeld2.2.2.2.2
        clear hHeld2
        obtain ⟨gx, hgx⟩ : ∃ g, g = V1.heap.size := ⟨_, rfl⟩
        have HG : Seal (Wk.heap.size ≤ gx) := ⟨by rw [hgx]; exact MB.out.kept.size⟩
        rcases Int.lt_trichotomy x.o y.o with hlt | heq | hgt
        · have HM : Seal (mrgK Po.o (x :: l2) (y :: r2) = [x] ++ mrgK Po.o l2 (y :: r2)) := ⟨by rw [mrgK, if_pos hlt]; rfl⟩
          rw [show cmpZ x.o y.o = -1 from by unfold cmpZ; rw [if_pos hlt]]
          clear hlt hby ry iy HXy HCy
          gi_wp2_with fail
          have hnn := heap_alloc_new V1 (.cells #[.int .i64 0, .int .u8 0, .int .u8 0, .int .u8 0, .int .u8 0, .int .u8 0, .int .u8 0, .int .u8 0, .int .u8 0, .int .u8 0, .int .u8 0, .int .u8 0, .int .u8 0, .int .u8 0, .int .u8 0, .int .u8 0, .int .u8 0, .int .u8 0, .int .u8 0, .int .u8 0, .int .u8 0, .int .u8 0, .int .u8 0, .int .u8 0, .int .u8 0, .int .u8 0, .int .u8 0, .int .u8 0, .int .u8 0, .int .u8 0, .int .u8 0, .int .u8 0, .int .u8 0] 31)
          have hbl := below_alloc V1 (.cells #[.int .i64 0, .int .u8 0, .int .u8 0, .int .u8 0, .int .u8 0, .int .u8 0, .int .u8 0, .int .u8 0, .int .u8 0, .int .u8 0, .int .u8 0, .int .u8 0, .int .u8 0, .int .u8 0, .int .u8 0, .int .u8 0, .int .u8 0, .int .u8 0, .int .u8 0, .int .u8 0, .int .u8 0, .int .u8 0, .int .u8 0, .int .u8 0, .int .u8 0, .int .u8 0, .int .u8 0, .int .u8 0, .int .u8 0, .int .u8 0, .int .u8 0, .int .u8 0, .int .u8 0] 31)
          obtain ⟨Z, hZ⟩ : ∃ Z, Z = V1.alloc (.cells #[.int .i64 0, .int .u8 0, .int .u8 0, .int .u8 0, .int .u8 0, .int .u8 0, .int .u8 0, .int .u8 0, .int .u8 0, .int .u8 0, .int .u8 0, .int .u8 0, .int .u8 0, .int .u8 0, .int .u8 0, .int .u8 0, .int .u8 0, .int .u8 0, .int .u8 0, .int .u8 0, .int .u8 0, .int .u8 0, .int .u8 0, .int .u8 0, .int .u8 0, .int .u8 0, .int .u8 0, .int .u8 0, .int .u8 0, .int .u8 0, .int .u8 0, .int .u8 0, .int .u8 0] 31) := ⟨_, rfl⟩
          rw [← hZ] at hnn hbl ⊢
          rw [← hgx] at hnn ⊢
          have MZ1 := Seal.mk (MB.out.same HR.out (fun k hk => hbl.block k (Nat.lt_of_lt_of_le hk MB.out.kept.size)) hbl.size ⟨hbl.os, hbl.tape, hbl.output⟩)
          have hbx := (hbl.block _ (Nat.lt_of_lt_of_le (HR.out.lt pa (.inr (by unfold mineP; simp))) MB.out.kept.size)).trans hbx
          have rx := rangeAt_below' rx hbl
          clear hZ hbl hgx
          have cbx : Z.cell? ⟨pa, 0, none⟩ = some (.slice (some ⟨g1, o1, none⟩) n1 c1) := by rw [cell_of_row _ _ _ _ _ _ hbx]; rfl
          have tl := run_tailP g1 o1 n1 c1 (by omega)
          refine wpIn_wide.2 ?_
          refine wp_region_heldT 6 (S := fun w' => w'.cell? ⟨pa, 0, none⟩ = some (.slice (some ⟨g1, o1, none⟩) n1 c1) ∧ w'.rangeAt g1 o1 Cx) (by kernel_rfl) ⟨cbx, rx⟩ (fun hHeld => ?_)
          obtain ⟨Vx, hV⟩ : ∃ V, V = Z.drew := ⟨_, rfl⟩
          have MVx : Seal (MZ pa pb pc tc rd Wk (x :: l2) (y :: r2) Vx ∧ Vx.heap[gx]? = some (.cells #[.int .i64 0, .int .u8 0, .int .u8 0, .int .u8 0, .int .u8 0, .int .u8 0, .int .u8 0, .int .u8 0, .int .u8 0, .int .u8 0, .int .u8 0, .int .u8 0, .int .u8 0, .int .u8 0, .int .u8 0, .int .u8 0, .int .u8 0, .int .u8 0, .int .u8 0, .int .u8 0, .int .u8 0, .int .u8 0, .int .u8 0, .int .u8 0, .int .u8 0, .int .u8 0, .int .u8 0, .int .u8 0, .int .u8 0, .int .u8 0, .int .u8 0, .int .u8 0, .int .u8 0] 31 (0, 0)) ∧ Vx.heap[pa]? = some (.cells #[.slice (some ⟨g1, o1, none⟩) n1 c1] 22 (0, 0))) := ⟨by rw [hV]; exact ⟨MZ1.out.same HR.out (fun _ _ => rfl) (Nat.le_refl _) ⟨rfl, rfl, rfl⟩, hnn, hbx⟩⟩
          rw [← hV] at hHeld ⊢
          clear hV cbx hbx rx
          have q5 : (1 : Int) ≤ (n1 : Int) := by omega
          refine take_t 0 ?_ rfl (by kernel_rfl) (by kernel_rfl) (by kernel_rfl) (by kernel_rfl) (fun _ _ _ h => h) (Or.inl ⟨by kernel_rfl, ?_⟩) (by assumption) ?_
          rotate_left
          · (intro w hSw; (try dsimp only at hSw); go_simp; try (with_reducible rfl))
          try simp only [Act.put, List.setIfInBounds_toArray, List.set_cons_zero, List.set_cons_succ]
          refine take_t 1 ?_ rfl (by kernel_rfl) (by kernel_rfl) (by kernel_rfl) (by kernel_rfl) (fun _ _ _ h => h) (Or.inl ⟨by kernel_rfl, ?_⟩) (by assumption) ?_
          rotate_left
          · (intro w hSw; (try dsimp only at hSw); go_simp; try (with_reducible rfl))
          try simp only [Act.put, List.setIfInBounds_toArray, List.set_cons_zero, List.set_cons_succ]
          refine take_t 2 _ rfl (by kernel_rfl) (by kernel_rfl) (by kernel_rfl) (by kernel_rfl) (fun _ _ _ h => h) (yieldsIf_load_mid (by kernel_rfl) 31 (.tmp 30) rfl g1 o1 rfl Cx _ (fun w hSw => hSw.2) ut rfl ix) (by assumption) ?_
          try simp only [Act.put, List.setIfInBounds_toArray, List.set_cons_zero, List.set_cons_succ]
          refine take_t 3 ?_ rfl (by kernel_rfl) (by kernel_rfl) (by kernel_rfl) (by kernel_rfl) (fun _ _ _ h => h) (Or.inl ⟨by kernel_rfl, ?_⟩) (by assumption) ?_
          rotate_left
          · (intro w hSw; (try dsimp only at hSw); go_simp; try (with_reducible rfl))
          try simp only [Act.put, List.setIfInBounds_toArray, List.set_cons_zero, List.set_cons_succ]
          refine take_t 4 (.slice (tailA g1 o1 33 c1) (n1 - 1) (c1 - 1)) rfl (by kernel_rfl) (by kernel_rfl) (by kernel_rfl) (by kernel_rfl) (fun _ _ _ h => h) (Or.inl ⟨by kernel_rfl, fun w _ => exec_slice 22 (.tmp 32) _ rfl (.slice (some ⟨g1, o1, none⟩) n1 c1) (.int .i64 1) _ rfl rfl (tl w)⟩) (by assumption) ?_
          try simp only [Act.put, List.setIfInBounds_toArray, List.set_cons_zero, List.set_cons_succ]
          refine skip_t 5 (Vx.setRow gx Cx.toArray) rfl (by kernel_rfl) (by kernel_rfl) (exec_store_row 31 (.tmp 6) (.tmp 31) rfl gx Cx.toArray rfl rfl 31 _ MVx.out.2.1 (by simpa using ix) (by simp [HXx.out.1]) (all_oneCell_toArray HXx.out.2.1)) ⟨(cell_setRow_other _ _ _ ⟨pa, 0, none⟩ (by have := HG.out; have := HR.out.lt pa (.inr (by unfold mineP; simp)); show pa ≠ gx; omega)).trans hHeld.1, rangeAt_setRow hHeld.2 (by have := HG.out; have := HR.out.lt g1 (.inl HXx.out.2.2.2); omega)⟩ (fun hHeld2 => ?_)
          try simp only [Act.put]
          clear hHeld
          obtain ⟨Ux, hU⟩ : ∃ U, U = Vx.setRow gx Cx.toArray := ⟨_, rfl⟩
          have MUx : Seal (MZ pa pb pc tc rd Wk (x :: l2) (y :: r2) Ux ∧ Ux.heap[gx]? = some (.cells Cx.toArray 31 (0, 0)) ∧ Ux.heap[pa]? = some (.cells #[.slice (some ⟨g1, o1, none⟩) n1 c1] 22 (0, 0))) := ⟨by
            rw [hU]
            refine ⟨MVx.out.1.same HR.out (fun k hk => heap_setRow_ne (by have := HG.out; omega)) (by simp) ⟨rfl, rfl, rfl⟩, setRow_heap _ _ _ _ _ _ MVx.out.2.1, (heap_setRow_ne (by have := HG.out; have := HR.out.lt pa (.inr (by unfold mineP; simp)); omega)).trans MVx.out.2.2⟩⟩
          rw [← hU] at hHeld2 ⊢
          clear hU
          have cbu : Ux.cell? ⟨pa, 0, none⟩ = some (.slice (some ⟨g1, o1, none⟩) n1 c1) := hHeld2.1
          have fbu : Ux.frozen? ⟨pa, 0, none⟩ = false := frozen_of_row _ _ _ _ _ MUx.out.2.2
          refine last_t (Ux.setCell ⟨pa, 0, none⟩ (.slice (tailA g1 o1 33 c1) (n1 - 1) (c1 - 1))) rfl (by kernel_rfl) (by kernel_rfl) (by kernel_rfl) (by go_simp) ?_
          try simp only [Act.put]
          obtain ⟨Yx, hYY⟩ : ∃ U, U = Ux.setCell ⟨pa, 0, none⟩ (.slice (tailA g1 o1 33 c1) (n1 - 1) (c1 - 1)) := ⟨_, rfl⟩
          have MYx : Seal (MZ pa pb pc tc rd Wk l2 (y :: r2) Yx ∧ Yx.heap[gx]? = some (.cells Cx.toArray 31 (0, 0))) := ⟨by
            rw [hYY]
            exact ⟨MUx.out.1.popA HR.out MUx.out.2.2, ((grownBy_setCell' Ux pa _).block gx (Array.getElem?_eq_some_iff.1 MUx.out.2.1).1 (fun e => by have := Option.some.inj e; have := HG.out; have := HR.out.lt pa (.inr (by unfold mineP; simp)); omega)).trans MUx.out.2.1⟩⟩
          rw [← hYY]
          clear hYY hHeld2 cbu fbu tl MVx MUx q5
          clear hnn MZ1 MB
          have rY := rangeAt_row MYx.out.2
          have hlt6 : gx < Yx.heap.size := (Array.getElem?_eq_some_iff.1 MYx.out.2).1
          obtain ⟨xs, W0, j1, j2, j3, j4, j5⟩ := HJ.out
          obtain ⟨fn, tmps, asg, body, hy, hRR⟩ := HY.out xs x W0 Yx j3 (j4.trans MYx.out.1.kept) j5 HXx.out.2.2.1 (by simp only [List.length_cons] at j2; omega)
          have hRR := Seal.mk hRR
          have HJ2 : Seal (mrgK Po.o l r = (xs ++ [x]) ++ mrgK Po.o l2 (y :: r2) ∧ xs.length + 1 + (l2).length + ((y :: r2)).length ≤ l.length + r.length) := ⟨by rw [j1, HM.out]; simp, by simp only [List.length_cons] at j2 ⊢; omega⟩
          have HSZ : Seal (W.heap.size ≤ Yx.heap.size) := ⟨by have := j4.size; have := MYx.out.1.kept.size; omega⟩
          unfold encP at hy
          rw [← HCx.out] at hy
          clear j1 j2 j3 j4 j5 HJ
          gi_wp2_with (refine wpListIn_load_mid_w rfl 31 (.tmp 6) rfl gx 0 rfl Cx _ rY ut rfl ix ?_; (try simp only [Act.put, List.setIfInBounds_toArray, List.set_cons_zero, List.set_cons_succ]))
          refine ⟨fun h => (by cases h), ?_⟩
          refine hRR.out.mono ?_
          rintro e W' ⟨rfl, hJ', hz', hk'⟩
          have HN : Seal (MZ pa pb pc tc rd W' l2 (y :: r2) W' ∧ MR pa pb pc rd W' ∧ W.heap.size ≤ W'.heap.size ∧ ∃ xs W0, mrgK Po.o l r = xs ++ mrgK Po.o l2 (y :: r2) ∧ xs.length + (l2).length + ((y :: r2)).length ≤ l.length + r.length ∧ J xs W0 ∧ KeptBut (mineP pa pb) W0 W' ∧ W.heap.size ≤ W0.heap.size) := ⟨by
            have hm := MYx.out.1
            have hRk := HR.out
            have hsz := HSZ.out
            refine ⟨⟨hm.ba.same (hk' _ (.inl (.inl rfl))) (fun k hr _ => hk' k (.inr hr)) hz', hm.bb.same (hk' _ (.inl (.inr rfl))) (fun k hr _ => hk' k (.inr hr)) hz', (hk' _ (.inr hRk.rc)).trans hm.bc, KeptBut.refl _ _⟩, ⟨hRk.ab, hRk.ra, hRk.rb, hRk.rc, fun k hk => by have := hRk.lt k hk; have := hm.kept.size; omega⟩, by omega, xs ++ [x], W', HJ2.out.1, by rw [List.length_append, List.length_singleton]; exact HJ2.out.2, hJ', KeptBut.refl _ _, by omega⟩⟩
          clear hJ' hz' hk' hy hRR HSZ HJ2 rY hlt6 MYx
          gi_wp2
          go_roundw
          case rel => exact ⟨l2, y :: r2, HN⟩
          case measure =>
            rw [HN.out.1.ba.len, HN.out.1.bb.len, HLEN.out.1, HLEN.out.2]
            (try simp only [List.length_cons]); omega
        · have HM : Seal (mrgK Po.o (x :: l2) (y :: r2) = [y] ++ mrgK Po.o l2 r2) := ⟨by rw [mrgK, if_neg (by omega), if_neg (by omega)]; rfl⟩
          rw [show cmpZ x.o y.o = 0 from by unfold cmpZ; rw [if_neg (by omega), if_neg (by omega)]]
          clear heq hby ry
          gi_wp2_with fail
          have hnn := heap_alloc_new V1 (.cells #[.int .i64 0, .int .u8 0, .int .u8 0, .int .u8 0, .int .u8 0, .int .u8 0, .int .u8 0, .int .u8 0, .int .u8 0, .int .u8 0, .int .u8 0, .int .u8 0, .int .u8 0, .int .u8 0, .int .u8 0, .int .u8 0, .int .u8 0, .int .u8 0, .int .u8 0, .int .u8 0, .int .u8 0, .int .u8 0, .int .u8 0, .int .u8 0, .int .u8 0, .int .u8 0, .int .u8 0, .int .u8 0, .int .u8 0, .int .u8 0, .int .u8 0, .int .u8 0, .int .u8 0] 31)
          have hbl := below_alloc V1 (.cells #[.int .i64 0, .int .u8 0, .int .u8 0, .int .u8 0, .int .u8 0, .int .u8 0, .int .u8 0, .int .u8 0, .int .u8 0, .int .u8 0, .int .u8 0, .int .u8 0, .int .u8 0, .int .u8 0, .int .u8 0, .int .u8 0, .int .u8 0, .int .u8 0, .int .u8 0, .int .u8 0, .int .u8 0, .int .u8 0, .int .u8 0, .int .u8 0, .int .u8 0, .int .u8 0, .int .u8 0, .int .u8 0, .int .u8 0, .int .u8 0, .int .u8 0, .int .u8 0, .int .u8 0] 31)
          obtain ⟨Z, hZ⟩ : ∃ Z, Z = V1.alloc (.cells #[.int .i64 0, .int .u8 0, .int .u8 0, .int .u8 0, .int .u8 0, .int .u8 0, .int .u8 0, .int .u8 0, .int .u8 0, .int .u8 0, .int .u8 0, .int .u8 0, .int .u8 0, .int .u8 0, .int .u8 0, .int .u8 0, .int .u8 0, .int .u8 0, .int .u8 0, .int .u8 0, .int .u8 0, .int .u8 0, .int .u8 0, .int .u8 0, .int .u8 0, .int .u8 0, .int .u8 0, .int .u8 0, .int .u8 0, .int .u8 0, .int .u8 0, .int .u8 0, .int .u8 0] 31) := ⟨_, rfl⟩
          rw [← hZ] at hnn hbl ⊢
          rw [← hgx] at hnn ⊢
          have MZ1 := Seal.mk (MB.out.same HR.out (fun k hk => hbl.block k (Nat.lt_of_lt_of_le hk MB.out.kept.size)) hbl.size ⟨hbl.os, hbl.tape, hbl.output⟩)
          have hbx := (hbl.block _ (Nat.lt_of_lt_of_le (HR.out.lt pa (.inr (by unfold mineP; simp))) MB.out.kept.size)).trans hbx
          have rx := rangeAt_below' rx hbl
          clear hZ hbl hgx
          have cbx : Z.cell? ⟨pa, 0, none⟩ = some (.slice (some ⟨g1, o1, none⟩) n1 c1) := by rw [cell_of_row _ _ _ _ _ _ hbx]; rfl
          have tl := run_tailP g1 o1 n1 c1 (by omega)
          refine wpIn_wide.2 ?_
          refine wp_region_heldT 6 (S := fun w' => w'.cell? ⟨pa, 0, none⟩ = some (.slice (some ⟨g1, o1, none⟩) n1 c1) ∧ w'.rangeAt g1 o1 Cx) (by kernel_rfl) ⟨cbx, rx⟩ (fun hHeld => ?_)
          obtain ⟨Vx, hV⟩ : ∃ V, V = Z.drew := ⟨_, rfl⟩
          have MVx : Seal (MZ pa pb pc tc rd Wk (x :: l2) (y :: r2) Vx ∧ Vx.heap[gx]? = some (.cells #[.int .i64 0, .int .u8 0, .int .u8 0, .int .u8 0, .int .u8 0, .int .u8 0, .int .u8 0, .int .u8 0, .int .u8 0, .int .u8 0, .int .u8 0, .int .u8 0, .int .u8 0, .int .u8 0, .int .u8 0, .int .u8 0, .int .u8 0, .int .u8 0, .int .u8 0, .int .u8 0, .int .u8 0, .int .u8 0, .int .u8 0, .int .u8 0, .int .u8 0, .int .u8 0, .int .u8 0, .int .u8 0, .int .u8 0, .int .u8 0, .int .u8 0, .int .u8 0, .int .u8 0] 31 (0, 0)) ∧ Vx.heap[pa]? = some (.cells #[.slice (some ⟨g1, o1, none⟩) n1 c1] 22 (0, 0))) := ⟨by rw [hV]; exact ⟨MZ1.out.same HR.out (fun _ _ => rfl) (Nat.le_refl _) ⟨rfl, rfl, rfl⟩, hnn, hbx⟩⟩
          rw [← hV] at hHeld ⊢
          clear hV cbx hbx rx
          have q5 : (1 : Int) ≤ (n1 : Int) := by omega
          refine take_t 0 ?_ rfl (by kernel_rfl) (by kernel_rfl) (by kernel_rfl) (by kernel_rfl) (fun _ _ _ h => h) (Or.inl ⟨by kernel_rfl, ?_⟩) (by assumption) ?_
          rotate_left
          · (intro w hSw; (try dsimp only at hSw); go_simp; try (with_reducible rfl))
          try simp only [Act.put, List.setIfInBounds_toArray, List.set_cons_zero, List.set_cons_succ]
          refine take_t 1 ?_ rfl (by kernel_rfl) (by kernel_rfl) (by kernel_rfl) (by kernel_rfl) (fun _ _ _ h => h) (Or.inl ⟨by kernel_rfl, ?_⟩) (by assumption) ?_
          rotate_left
          · (intro w hSw; (try dsimp only at hSw); go_simp; try (with_reducible rfl))
          try simp only [Act.put, List.setIfInBounds_toArray, List.set_cons_zero, List.set_cons_succ]
          refine take_t 2 _ rfl (by kernel_rfl) (by kernel_rfl) (by kernel_rfl) (by kernel_rfl) (fun _ _ _ h => h) (yieldsIf_load_mid (by kernel_rfl) 31 (.tmp 30) rfl g1 o1 rfl Cx _ (fun w hSw => hSw.2) ut rfl ix) (by assumption) ?_
          try simp only [Act.put, List.setIfInBounds_toArray, List.set_cons_zero, List.set_cons_succ]
          refine take_t 3 ?_ rfl (by kernel_rfl) (by kernel_rfl) (by kernel_rfl) (by kernel_rfl) (fun _ _ _ h => h) (Or.inl ⟨by kernel_rfl, ?_⟩) (by assumption) ?_
          rotate_left
          · (intro w hSw; (try dsimp only at hSw); go_simp; try (with_reducible rfl))
          try simp only [Act.put, List.setIfInBounds_toArray, List.set_cons_zero, List.set_cons_succ]
          refine take_t 4 (.slice (tailA g1 o1 33 c1) (n1 - 1) (c1 - 1)) rfl (by kernel_rfl) (by kernel_rfl) (by kernel_rfl) (by kernel_rfl) (fun _ _ _ h => h) (Or.inl ⟨by kernel_rfl, fun w _ => exec_slice 22 (.tmp 32) _ rfl (.slice (some ⟨g1, o1, none⟩) n1 c1) (.int .i64 1) _ rfl rfl (tl w)⟩) (by assumption) ?_
          try simp only [Act.put, List.setIfInBounds_toArray, List.set_cons_zero, List.set_cons_succ]
          refine skip_t 5 (Vx.setRow gx Cx.toArray) rfl (by kernel_rfl) (by kernel_rfl) (exec_store_row 31 (.tmp 6) (.tmp 31) rfl gx Cx.toArray rfl rfl 31 _ MVx.out.2.1 (by simpa using ix) (by simp [HXx.out.1]) (all_oneCell_toArray HXx.out.2.1)) ⟨(cell_setRow_other _ _ _ ⟨pa, 0, none⟩ (by have := HG.out; have := HR.out.lt pa (.inr (by unfold mineP; simp)); show pa ≠ gx; omega)).trans hHeld.1, rangeAt_setRow hHeld.2 (by have := HG.out; have := HR.out.lt g1 (.inl HXx.out.2.2.2); omega)⟩ (fun hHeld2 => ?_)
          try simp only [Act.put]
          clear hHeld
          obtain ⟨Ux, hU⟩ : ∃ U, U = Vx.setRow gx Cx.toArray := ⟨_, rfl⟩
          have MUx : Seal (MZ pa pb pc tc rd Wk (x :: l2) (y :: r2) Ux ∧ Ux.heap[gx]? = some (.cells Cx.toArray 31 (0, 0)) ∧ Ux.heap[pa]? = some (.cells #[.slice (some ⟨g1, o1, none⟩) n1 c1] 22 (0, 0))) := ⟨by
            rw [hU]
            refine ⟨MVx.out.1.same HR.out (fun k hk => heap_setRow_ne (by have := HG.out; omega)) (by simp) ⟨rfl, rfl, rfl⟩, setRow_heap _ _ _ _ _ _ MVx.out.2.1, (heap_setRow_ne (by have := HG.out; have := HR.out.lt pa (.inr (by unfold mineP; simp)); omega)).trans MVx.out.2.2⟩⟩
          rw [← hU] at hHeld2 ⊢
          clear hU
          have cbu : Ux.cell? ⟨pa, 0, none⟩ = some (.slice (some ⟨g1, o1, none⟩) n1 c1) := hHeld2.1
          have fbu : Ux.frozen? ⟨pa, 0, none⟩ = false := frozen_of_row _ _ _ _ _ MUx.out.2.2
          refine last_t (Ux.setCell ⟨pa, 0, none⟩ (.slice (tailA g1 o1 33 c1) (n1 - 1) (c1 - 1))) rfl (by kernel_rfl) (by kernel_rfl) (by kernel_rfl) (by go_simp) ?_
          try simp only [Act.put]
          obtain ⟨Yx, hYY⟩ : ∃ U, U = Ux.setCell ⟨pa, 0, none⟩ (.slice (tailA g1 o1 33 c1) (n1 - 1) (c1 - 1)) := ⟨_, rfl⟩
          have MYx : Seal (MZ pa pb pc tc rd Wk l2 (y :: r2) Yx ∧ Yx.heap[gx]? = some (.cells Cx.toArray 31 (0, 0))) := ⟨by
            rw [hYY]
            exact ⟨MUx.out.1.popA HR.out MUx.out.2.2, ((grownBy_setCell' Ux pa _).block gx (Array.getElem?_eq_some_iff.1 MUx.out.2.1).1 (fun e => by have := Option.some.inj e; have := HG.out; have := HR.out.lt pa (.inr (by unfold mineP; simp)); omega)).trans MUx.out.2.1⟩⟩
          rw [← hYY]
          clear hYY hHeld2 cbu fbu tl MVx MUx q5
          clear hnn MZ1 MB HXy
          obtain ⟨g3, o3, n3, c3, hby, ry, hn3, hm3, hc3, hd3, ly, hcm3⟩ := MYx.out.1.bb.head
          rw [← HCy.out] at ry
          have HXy : Seal (Cy.length = 33 ∧ (∀ v ∈ Cy, v.oneCell' = true) ∧ y.C.length = 33 ∧ rd g3) := ⟨by rw [HCy.out]; exact ⟨ly, Po.C_one y, ly, hd3⟩⟩
          have hnz := MYx.out.2
          have MZ2 := Seal.mk MYx.out.1
          have HLx := HXx.out.1
          have hn4 : 1 ≤ n3 := by omega
          have q8 : 0 < n3 := by omega
          have q9 : (0 : Int) < (n3 : Int) := by omega
          clear hd3 ly MYx hn3
          gi_wp2_with fail
          have cbx : Yx.cell? ⟨pb, 0, none⟩ = some (.slice (some ⟨g3, o3, none⟩) n3 c3) := by rw [cell_of_row _ _ _ _ _ _ hby]; rfl
          have tl := run_tailP g3 o3 n3 c3 (by omega)
          refine wpIn_wide.2 ?_
          refine wp_region_heldT 6 (S := fun w' => w'.cell? ⟨pb, 0, none⟩ = some (.slice (some ⟨g3, o3, none⟩) n3 c3) ∧ w'.rangeAt g3 o3 Cy) (by kernel_rfl) ⟨cbx, ry⟩ (fun hHeld => ?_)
          obtain ⟨Vy, hV⟩ : ∃ V, V = Yx.drew := ⟨_, rfl⟩
          have MVy : Seal (MZ pa pb pc tc rd Wk l2 (y :: r2) Vy ∧ Vy.heap[gx]? = some (.cells Cx.toArray 31 (0, 0)) ∧ Vy.heap[pb]? = some (.cells #[.slice (some ⟨g3, o3, none⟩) n3 c3] 22 (0, 0))) := ⟨by rw [hV]; exact ⟨MZ2.out.same HR.out (fun _ _ => rfl) (Nat.le_refl _) ⟨rfl, rfl, rfl⟩, hnz, hby⟩⟩
          rw [← hV] at hHeld ⊢
          clear hV cbx hby ry
          have q5 : (1 : Int) ≤ (n3 : Int) := by omega
          refine take_t 0 ?_ rfl (by kernel_rfl) (by kernel_rfl) (by kernel_rfl) (by kernel_rfl) (fun _ _ _ h => h) (Or.inl ⟨by kernel_rfl, ?_⟩) (by assumption) ?_
          rotate_left
          · (intro w hSw; (try dsimp only at hSw); go_simp; try (with_reducible rfl))
          try simp only [Act.put, List.setIfInBounds_toArray, List.set_cons_zero, List.set_cons_succ]
          refine take_t 1 ?_ rfl (by kernel_rfl) (by kernel_rfl) (by kernel_rfl) (by kernel_rfl) (fun _ _ _ h => h) (Or.inl ⟨by kernel_rfl, ?_⟩) (by assumption) ?_
          rotate_left
          · (intro w hSw; (try dsimp only at hSw); go_simp; try (with_reducible rfl))
          try simp only [Act.put, List.setIfInBounds_toArray, List.set_cons_zero, List.set_cons_succ]
          refine take_t 2 _ rfl (by kernel_rfl) (by kernel_rfl) (by kernel_rfl) (by kernel_rfl) (fun _ _ _ h => h) (yieldsIf_load_mid (by kernel_rfl) 31 (.tmp 37) rfl g3 o3 rfl Cy _ (fun w hSw => hSw.2) ut rfl iy) (by assumption) ?_
          try simp only [Act.put, List.setIfInBounds_toArray, List.set_cons_zero, List.set_cons_succ]
          refine take_t 3 ?_ rfl (by kernel_rfl) (by kernel_rfl) (by kernel_rfl) (by kernel_rfl) (fun _ _ _ h => h) (Or.inl ⟨by kernel_rfl, ?_⟩) (by assumption) ?_
          rotate_left
          · (intro w hSw; (try dsimp only at hSw); go_simp; try (with_reducible rfl))
          try simp only [Act.put, List.setIfInBounds_toArray, List.set_cons_zero, List.set_cons_succ]
          refine take_t 4 (.slice (tailA g3 o3 33 c3) (n3 - 1) (c3 - 1)) rfl (by kernel_rfl) (by kernel_rfl) (by kernel_rfl) (by kernel_rfl) (fun _ _ _ h => h) (Or.inl ⟨by kernel_rfl, fun w _ => exec_slice 22 (.tmp 39) _ rfl (.slice (some ⟨g3, o3, none⟩) n3 c3) (.int .i64 1) _ rfl rfl (tl w)⟩) (by assumption) ?_
          try simp only [Act.put, List.setIfInBounds_toArray, List.set_cons_zero, List.set_cons_succ]
          refine skip_t 5 (Vy.setRow gx Cy.toArray) rfl (by kernel_rfl) (by kernel_rfl) (exec_store_row 31 (.tmp 6) (.tmp 38) rfl gx Cy.toArray rfl rfl 31 _ MVy.out.2.1 (by simpa using iy) (by simp [HXy.out.1, HLx]) (all_oneCell_toArray HXy.out.2.1)) ⟨(cell_setRow_other _ _ _ ⟨pb, 0, none⟩ (by have := HG.out; have := HR.out.lt pb (.inr (by unfold mineP; simp)); show pb ≠ gx; omega)).trans hHeld.1, rangeAt_setRow hHeld.2 (by have := HG.out; have := HR.out.lt g3 (.inl HXy.out.2.2.2); omega)⟩ (fun hHeld2 => ?_)
          try simp only [Act.put]
          clear hHeld
          obtain ⟨Uy, hU⟩ : ∃ U, U = Vy.setRow gx Cy.toArray := ⟨_, rfl⟩
          have MUy : Seal (MZ pa pb pc tc rd Wk l2 (y :: r2) Uy ∧ Uy.heap[gx]? = some (.cells Cy.toArray 31 (0, 0)) ∧ Uy.heap[pb]? = some (.cells #[.slice (some ⟨g3, o3, none⟩) n3 c3] 22 (0, 0))) := ⟨by
            rw [hU]
            refine ⟨MVy.out.1.same HR.out (fun k hk => heap_setRow_ne (by have := HG.out; omega)) (by simp) ⟨rfl, rfl, rfl⟩, setRow_heap _ _ _ _ _ _ MVy.out.2.1, (heap_setRow_ne (by have := HG.out; have := HR.out.lt pb (.inr (by unfold mineP; simp)); omega)).trans MVy.out.2.2⟩⟩
          rw [← hU] at hHeld2 ⊢
          clear hU
          have cbu : Uy.cell? ⟨pb, 0, none⟩ = some (.slice (some ⟨g3, o3, none⟩) n3 c3) := hHeld2.1
          have fbu : Uy.frozen? ⟨pb, 0, none⟩ = false := frozen_of_row _ _ _ _ _ MUy.out.2.2
          refine last_t (Uy.setCell ⟨pb, 0, none⟩ (.slice (tailA g3 o3 33 c3) (n3 - 1) (c3 - 1))) rfl (by kernel_rfl) (by kernel_rfl) (by kernel_rfl) (by go_simp) ?_
          try simp only [Act.put]
          obtain ⟨Yy, hYY⟩ : ∃ U, U = Uy.setCell ⟨pb, 0, none⟩ (.slice (tailA g3 o3 33 c3) (n3 - 1) (c3 - 1)) := ⟨_, rfl⟩
          have MYy : Seal (MZ pa pb pc tc rd Wk l2 r2 Yy ∧ Yy.heap[gx]? = some (.cells Cy.toArray 31 (0, 0))) := ⟨by
            rw [hYY]
            exact ⟨MUy.out.1.popB HR.out MUy.out.2.2, ((grownBy_setCell' Uy pb _).block gx (Array.getElem?_eq_some_iff.1 MUy.out.2.1).1 (fun e => by have := Option.some.inj e; have := HG.out; have := HR.out.lt pb (.inr (by unfold mineP; simp)); omega)).trans MUy.out.2.1⟩⟩
          rw [← hYY]
          clear hYY hHeld2 cbu fbu tl MVy MUy q5
          clear hnz MZ2
          have rY := rangeAt_row MYy.out.2
          have hlt6 : gx < Yy.heap.size := (Array.getElem?_eq_some_iff.1 MYy.out.2).1
          obtain ⟨xs, W0, j1, j2, j3, j4, j5⟩ := HJ.out
          obtain ⟨fn, tmps, asg, body, hy, hRR⟩ := HY.out xs y W0 Yy j3 (j4.trans MYy.out.1.kept) j5 HXy.out.2.2.1 (by simp only [List.length_cons] at j2; omega)
          have hRR := Seal.mk hRR
          have HJ2 : Seal (mrgK Po.o l r = (xs ++ [y]) ++ mrgK Po.o l2 r2 ∧ xs.length + 1 + (l2).length + (r2).length ≤ l.length + r.length) := ⟨by rw [j1, HM.out]; simp, by simp only [List.length_cons] at j2 ⊢; omega⟩
          have HSZ : Seal (W.heap.size ≤ Yy.heap.size) := ⟨by have := j4.size; have := MYy.out.1.kept.size; omega⟩
          unfold encP at hy
          rw [← HCy.out] at hy
          clear j1 j2 j3 j4 j5 HJ
          gi_wp2_with (refine wpListIn_load_mid_w rfl 31 (.tmp 6) rfl gx 0 rfl Cy _ rY ut rfl iy ?_; (try simp only [Act.put, List.setIfInBounds_toArray, List.set_cons_zero, List.set_cons_succ]))
          refine ⟨fun h => (by cases h), ?_⟩
          refine hRR.out.mono ?_
          rintro e W' ⟨rfl, hJ', hz', hk'⟩
          have HN : Seal (MZ pa pb pc tc rd W' l2 r2 W' ∧ MR pa pb pc rd W' ∧ W.heap.size ≤ W'.heap.size ∧ ∃ xs W0, mrgK Po.o l r = xs ++ mrgK Po.o l2 r2 ∧ xs.length + (l2).length + (r2).length ≤ l.length + r.length ∧ J xs W0 ∧ KeptBut (mineP pa pb) W0 W' ∧ W.heap.size ≤ W0.heap.size) := ⟨by
            have hm := MYy.out.1
            have hRk := HR.out
            have hsz := HSZ.out
            refine ⟨⟨hm.ba.same (hk' _ (.inl (.inl rfl))) (fun k hr _ => hk' k (.inr hr)) hz', hm.bb.same (hk' _ (.inl (.inr rfl))) (fun k hr _ => hk' k (.inr hr)) hz', (hk' _ (.inr hRk.rc)).trans hm.bc, KeptBut.refl _ _⟩, ⟨hRk.ab, hRk.ra, hRk.rb, hRk.rc, fun k hk => by have := hRk.lt k hk; have := hm.kept.size; omega⟩, by omega, xs ++ [y], W', HJ2.out.1, by rw [List.length_append, List.length_singleton]; exact HJ2.out.2, hJ', KeptBut.refl _ _, by omega⟩⟩
          clear hJ' hz' hk' hy hRR HSZ HJ2 rY hlt6 MYy
          gi_wp2
          go_roundw
          case rel => exact ⟨l2, r2, HN⟩
          case measure =>
            rw [HN.out.1.ba.len, HN.out.1.bb.len, HLEN.out.1, HLEN.out.2]
            (try simp only [List.length_cons]); omega
        · have HM : Seal (mrgK Po.o (x :: l2) (y :: r2) = [y] ++ mrgK Po.o (x :: l2) r2) := ⟨by rw [mrgK, if_neg (by omega), if_pos hgt]; rfl⟩
          rw [show cmpZ x.o y.o = 1 from by unfold cmpZ; rw [if_neg (by omega), if_pos hgt]]
          clear hgt hbx rx ix HXx HCx
          gi_wp2_with fail
          have hnn := heap_alloc_new V1 (.cells #[.int .i64 0, .int .u8 0, .int .u8 0, .int .u8 0, .int .u8 0, .int .u8 0, .int .u8 0, .int .u8 0, .int .u8 0, .int .u8 0, .int .u8 0, .int .u8 0, .int .u8 0, .int .u8 0, .int .u8 0, .int .u8 0, .int .u8 0, .int .u8 0, .int .u8 0, .int .u8 0, .int .u8 0, .int .u8 0, .int .u8 0, .int .u8 0, .int .u8 0, .int .u8 0, .int .u8 0, .int .u8 0, .int .u8 0, .int .u8 0, .int .u8 0, .int .u8 0, .int .u8 0] 31)
          have hbl := below_alloc V1 (.cells #[.int .i64 0, .int .u8 0, .int .u8 0, .int .u8 0, .int .u8 0, .int .u8 0, .int .u8 0, .int .u8 0, .int .u8 0, .int .u8 0, .int .u8 0, .int .u8 0, .int .u8 0, .int .u8 0, .int .u8 0, .int .u8 0, .int .u8 0, .int .u8 0, .int .u8 0, .int .u8 0, .int .u8 0, .int .u8 0, .int .u8 0, .int .u8 0, .int .u8 0, .int .u8 0, .int .u8 0, .int .u8 0, .int .u8 0, .int .u8 0, .int .u8 0, .int .u8 0, .int .u8 0] 31)
          obtain ⟨Z, hZ⟩ : ∃ Z, Z = V1.alloc (.cells #[.int .i64 0, .int .u8 0, .int .u8 0, .int .u8 0, .int .u8 0, .int .u8 0, .int .u8 0, .int .u8 0, .int .u8 0, .int .u8 0, .int .u8 0, .int .u8 0, .int .u8 0, .int .u8 0, .int .u8 0, .int .u8 0, .int .u8 0, .int .u8 0, .int .u8 0, .int .u8 0, .int .u8 0, .int .u8 0, .int .u8 0, .int .u8 0, .int .u8 0, .int .u8 0, .int .u8 0, .int .u8 0, .int .u8 0, .int .u8 0, .int .u8 0, .int .u8 0, .int .u8 0] 31) := ⟨_, rfl⟩
          rw [← hZ] at hnn hbl ⊢
          rw [← hgx] at hnn ⊢
          have MZ1 := Seal.mk (MB.out.same HR.out (fun k hk => hbl.block k (Nat.lt_of_lt_of_le hk MB.out.kept.size)) hbl.size ⟨hbl.os, hbl.tape, hbl.output⟩)
          have hby := (hbl.block _ (Nat.lt_of_lt_of_le (HR.out.lt pb (.inr (by unfold mineP; simp))) MB.out.kept.size)).trans hby
          have ry := rangeAt_below' ry hbl
          clear hZ hbl hgx
          have cbx : Z.cell? ⟨pb, 0, none⟩ = some (.slice (some ⟨g2, o2, none⟩) n2 c2) := by rw [cell_of_row _ _ _ _ _ _ hby]; rfl
          have tl := run_tailP g2 o2 n2 c2 (by omega)
          refine wpIn_wide.2 ?_
          refine wp_region_heldT 6 (S := fun w' => w'.cell? ⟨pb, 0, none⟩ = some (.slice (some ⟨g2, o2, none⟩) n2 c2) ∧ w'.rangeAt g2 o2 Cy) (by kernel_rfl) ⟨cbx, ry⟩ (fun hHeld => ?_)
          obtain ⟨Vy, hV⟩ : ∃ V, V = Z.drew := ⟨_, rfl⟩
          have MVy : Seal (MZ pa pb pc tc rd Wk (x :: l2) (y :: r2) Vy ∧ Vy.heap[gx]? = some (.cells #[.int .i64 0, .int .u8 0, .int .u8 0, .int .u8 0, .int .u8 0, .int .u8 0, .int .u8 0, .int .u8 0, .int .u8 0, .int .u8 0, .int .u8 0, .int .u8 0, .int .u8 0, .int .u8 0, .int .u8 0, .int .u8 0, .int .u8 0, .int .u8 0, .int .u8 0, .int .u8 0, .int .u8 0, .int .u8 0, .int .u8 0, .int .u8 0, .int .u8 0, .int .u8 0, .int .u8 0, .int .u8 0, .int .u8 0, .int .u8 0, .int .u8 0, .int .u8 0, .int .u8 0] 31 (0, 0)) ∧ Vy.heap[pb]? = some (.cells #[.slice (some ⟨g2, o2, none⟩) n2 c2] 22 (0, 0))) := ⟨by rw [hV]; exact ⟨MZ1.out.same HR.out (fun _ _ => rfl) (Nat.le_refl _) ⟨rfl, rfl, rfl⟩, hnn, hby⟩⟩
          rw [← hV] at hHeld ⊢
          clear hV cbx hby ry
          have q5 : (1 : Int) ≤ (n2 : Int) := by omega
          refine take_t 0 ?_ rfl (by kernel_rfl) (by kernel_rfl) (by kernel_rfl) (by kernel_rfl) (fun _ _ _ h => h) (Or.inl ⟨by kernel_rfl, ?_⟩) (by assumption) ?_
          rotate_left
          · (intro w hSw; (try dsimp only at hSw); go_simp; try (with_reducible rfl))
          try simp only [Act.put, List.setIfInBounds_toArray, List.set_cons_zero, List.set_cons_succ]
          refine take_t 1 ?_ rfl (by kernel_rfl) (by kernel_rfl) (by kernel_rfl) (by kernel_rfl) (fun _ _ _ h => h) (Or.inl ⟨by kernel_rfl, ?_⟩) (by assumption) ?_
          rotate_left
          · (intro w hSw; (try dsimp only at hSw); go_simp; try (with_reducible rfl))
          try simp only [Act.put, List.setIfInBounds_toArray, List.set_cons_zero, List.set_cons_succ]
          refine take_t 2 _ rfl (by kernel_rfl) (by kernel_rfl) (by kernel_rfl) (by kernel_rfl) (fun _ _ _ h => h) (yieldsIf_load_mid (by kernel_rfl) 31 (.tmp 37) rfl g2 o2 rfl Cy _ (fun w hSw => hSw.2) ut rfl iy) (by assumption) ?_
          try simp only [Act.put, List.setIfInBounds_toArray, List.set_cons_zero, List.set_cons_succ]
          refine take_t 3 ?_ rfl (by kernel_rfl) (by kernel_rfl) (by kernel_rfl) (by kernel_rfl) (fun _ _ _ h => h) (Or.inl ⟨by kernel_rfl, ?_⟩) (by assumption) ?_
          rotate_left
          · (intro w hSw; (try dsimp only at hSw); go_simp; try (with_reducible rfl))
          try simp only [Act.put, List.setIfInBounds_toArray, List.set_cons_zero, List.set_cons_succ]
          refine take_t 4 (.slice (tailA g2 o2 33 c2) (n2 - 1) (c2 - 1)) rfl (by kernel_rfl) (by kernel_rfl) (by kernel_rfl) (by kernel_rfl) (fun _ _ _ h => h) (Or.inl ⟨by kernel_rfl, fun w _ => exec_slice 22 (.tmp 39) _ rfl (.slice (some ⟨g2, o2, none⟩) n2 c2) (.int .i64 1) _ rfl rfl (tl w)⟩) (by assumption) ?_
          try simp only [Act.put, List.setIfInBounds_toArray, List.set_cons_zero, List.set_cons_succ]
          refine skip_t 5 (Vy.setRow gx Cy.toArray) rfl (by kernel_rfl) (by kernel_rfl) (exec_store_row 31 (.tmp 6) (.tmp 38) rfl gx Cy.toArray rfl rfl 31 _ MVy.out.2.1 (by simpa using iy) (by simp [HXy.out.1]) (all_oneCell_toArray HXy.out.2.1)) ⟨(cell_setRow_other _ _ _ ⟨pb, 0, none⟩ (by have := HG.out; have := HR.out.lt pb (.inr (by unfold mineP; simp)); show pb ≠ gx; omega)).trans hHeld.1, rangeAt_setRow hHeld.2 (by have := HG.out; have := HR.out.lt g2 (.inl HXy.out.2.2.2); omega)⟩ (fun hHeld2 => ?_)
          try simp only [Act.put]
          clear hHeld
          obtain ⟨Uy, hU⟩ : ∃ U, U = Vy.setRow gx Cy.toArray := ⟨_, rfl⟩
          have MUy : Seal (MZ pa pb pc tc rd Wk (x :: l2) (y :: r2) Uy ∧ Uy.heap[gx]? = some (.cells Cy.toArray 31 (0, 0)) ∧ Uy.heap[pb]? = some (.cells #[.slice (some ⟨g2, o2, none⟩) n2 c2] 22 (0, 0))) := ⟨by
            rw [hU]
            refine ⟨MVy.out.1.same HR.out (fun k hk => heap_setRow_ne (by have := HG.out; omega)) (by simp) ⟨rfl, rfl, rfl⟩, setRow_heap _ _ _ _ _ _ MVy.out.2.1, (heap_setRow_ne (by have := HG.out; have := HR.out.lt pb (.inr (by unfold mineP; simp)); omega)).trans MVy.out.2.2⟩⟩
          rw [← hU] at hHeld2 ⊢
          clear hU
          have cbu : Uy.cell? ⟨pb, 0, none⟩ = some (.slice (some ⟨g2, o2, none⟩) n2 c2) := hHeld2.1
          have fbu : Uy.frozen? ⟨pb, 0, none⟩ = false := frozen_of_row _ _ _ _ _ MUy.out.2.2
          refine last_t (Uy.setCell ⟨pb, 0, none⟩ (.slice (tailA g2 o2 33 c2) (n2 - 1) (c2 - 1))) rfl (by kernel_rfl) (by kernel_rfl) (by kernel_rfl) (by go_simp) ?_
          try simp only [Act.put]
          obtain ⟨Yy, hYY⟩ : ∃ U, U = Uy.setCell ⟨pb, 0, none⟩ (.slice (tailA g2 o2 33 c2) (n2 - 1) (c2 - 1)) := ⟨_, rfl⟩
          have MYy : Seal (MZ pa pb pc tc rd Wk (x :: l2) r2 Yy ∧ Yy.heap[gx]? = some (.cells Cy.toArray 31 (0, 0))) := ⟨by
            rw [hYY]
            exact ⟨MUy.out.1.popB HR.out MUy.out.2.2, ((grownBy_setCell' Uy pb _).block gx (Array.getElem?_eq_some_iff.1 MUy.out.2.1).1 (fun e => by have := Option.some.inj e; have := HG.out; have := HR.out.lt pb (.inr (by unfold mineP; simp)); omega)).trans MUy.out.2.1⟩⟩
          rw [← hYY]
          clear hYY hHeld2 cbu fbu tl MVy MUy q5
          clear hnn MZ1 MB
          have rY := rangeAt_row MYy.out.2
          have hlt6 : gx < Yy.heap.size := (Array.getElem?_eq_some_iff.1 MYy.out.2).1
          obtain ⟨xs, W0, j1, j2, j3, j4, j5⟩ := HJ.out
          obtain ⟨fn, tmps, asg, body, hy, hRR⟩ := HY.out xs y W0 Yy j3 (j4.trans MYy.out.1.kept) j5 HXy.out.2.2.1 (by simp only [List.length_cons] at j2; omega)
          have hRR := Seal.mk hRR
          have HJ2 : Seal (mrgK Po.o l r = (xs ++ [y]) ++ mrgK Po.o (x :: l2) r2 ∧ xs.length + 1 + ((x :: l2)).length + (r2).length ≤ l.length + r.length) := ⟨by rw [j1, HM.out]; simp, by simp only [List.length_cons] at j2 ⊢; omega⟩
          have HSZ : Seal (W.heap.size ≤ Yy.heap.size) := ⟨by have := j4.size; have := MYy.out.1.kept.size; omega⟩
          unfold encP at hy
          rw [← HCy.out] at hy
          clear j1 j2 j3 j4 j5 HJ
          gi_wp2_with (refine wpListIn_load_mid_w rfl 31 (.tmp 6) rfl gx 0 rfl Cy _ rY ut rfl iy ?_; (try simp only [Act.put, List.setIfInBounds_toArray, List.set_cons_zero, List.set_cons_succ]))
          refine ⟨fun h => (by cases h), ?_⟩
          refine hRR.out.mono ?_
          rintro e W' ⟨rfl, hJ', hz', hk'⟩
          have HN : Seal (MZ pa pb pc tc rd W' (x :: l2) r2 W' ∧ MR pa pb pc rd W' ∧ W.heap.size ≤ W'.heap.size ∧ ∃ xs W0, mrgK Po.o l r = xs ++ mrgK Po.o (x :: l2) r2 ∧ xs.length + ((x :: l2)).length + (r2).length ≤ l.length + r.length ∧ J xs W0 ∧ KeptBut (mineP pa pb) W0 W' ∧ W.heap.size ≤ W0.heap.size) := ⟨by
            have hm := MYy.out.1
            have hRk := HR.out
            have hsz := HSZ.out
            refine ⟨⟨hm.ba.same (hk' _ (.inl (.inl rfl))) (fun k hr _ => hk' k (.inr hr)) hz', hm.bb.same (hk' _ (.inl (.inr rfl))) (fun k hr _ => hk' k (.inr hr)) hz', (hk' _ (.inr hRk.rc)).trans hm.bc, KeptBut.refl _ _⟩, ⟨hRk.ab, hRk.ra, hRk.rb, hRk.rc, fun k hk => by have := hRk.lt k hk; have := hm.kept.size; omega⟩, by omega, xs ++ [y], W', HJ2.out.1, by rw [List.length_append, List.length_singleton]; exact HJ2.out.2, hJ', KeptBut.refl _ _, by omega⟩⟩
          clear hJ' hz' hk' hy hRR HSZ HJ2 rY hlt6 MYy
          gi_wp2
          go_roundw
          case rel => exact ⟨x :: l2, r2, HN⟩
          case measure =>
            rw [HN.out.1.ba.len, HN.out.1.bb.len, HLEN.out.1, HLEN.out.2]
            (try simp only [List.length_cons]); omega
end Frk
