/- Law 44: what merged yields, at numbers. -/
import Derived.Test.YtnpnboldjbljaaaDoorVfMgw
namespace Frk
open Go Go.RowKit Go.Proofs
set_option maxRecDepth 100000

/-- between two yields -/
structure MZI (pa pb pc : Nat) (tc : TypeId) (rd : Nat → Prop) (Wk : World) (l r : List Int) (Z : World) : Prop where
  ba : BoxC intC 1 23 rd Z pa l
  bb : BoxC intC 1 23 rd Z pb r
  bc : Z.heap[pc]? = some (.cells #[.func (.func 42) #[] #[]] tc (0, 0))
  kept : KeptBut (mineP pa pb) Wk Z
section
variable {pa pb pc : Nat} {tc : TypeId} {rd : Nat → Prop} {Wk Z Z' : World} {l r : List Int}
theorem MZI.same (h : MZI pa pb pc tc rd Wk l r Z) (hR : MR pa pb pc rd Wk) (hk : ∀ k, k < Wk.heap.size → Z'.heap[k]? = Z.heap[k]?) (hz : Z.heap.size ≤ Z'.heap.size) (ho : Z'.os = Z.os ∧ Z'.tape = Z.tape ∧ Z'.output = Z.output) : MZI pa pb pc tc rd Wk l r Z' :=
  ⟨h.ba.same (hk _ (hR.lt _ (.inr (.inl rfl)))) (fun k hr _ => hk k (hR.lt k (.inl hr))) hz, h.bb.same (hk _ (hR.lt _ (.inr (.inr rfl)))) (fun k hr _ => hk k (hR.lt k (.inl hr))) hz, (hk _ (hR.lt _ (.inl hR.rc))).trans h.bc,
    ⟨ho.1.trans h.kept.os, ho.2.1.trans h.kept.tape, ho.2.2.trans h.kept.output, Nat.le_trans h.kept.size hz, fun k h1 h2 => (hk k h1).trans (h.kept.block k h1 h2)⟩⟩
theorem MZI.popA {g o n c : Nat} {x : Int} (h : MZI pa pb pc tc rd Wk (x :: l) r Z) (hR : MR pa pb pc rd Wk) (hb : Z.heap[pa]? = some (.cells #[.slice (some ⟨g, o, none⟩) n c] 23 (0, 0))) :
    MZI pa pb pc tc rd Wk l r (Z.setCell ⟨pa, 0, none⟩ (.slice (tailA g o 1 c) (n - 1) (c - 1))) := by
  obtain ⟨a', n', c', hb', hi, hd⟩ := h.ba
  rw [hb] at hb'
  cases hb'
  have hlen := hi.llen
  simp only [List.length_cons] at hlen
  have hset := grownBy_setCell' Z pa (.slice (tailA g o 1 c) (n - 1) (c - 1))
  refine ⟨BoxC.pop hb hi (hd g o (by omega) rfl) hR.ra, h.bb.same (hset.block _ (Nat.lt_of_lt_of_le (hR.lt _ (.inr (.inr rfl))) h.kept.size) (fun e => hR.ab (Option.some.inj e).symm)) (fun k hr hl => hset.block k hl (fun e => hR.ra (by rw [← Option.some.inj e]; exact hr))) hset.size, (hset.block _ (Nat.lt_of_lt_of_le (hR.lt _ (.inl hR.rc)) h.kept.size) (fun e => hR.ra (by rw [← Option.some.inj e]; exact hR.rc))).trans h.bc, h.kept.cellSet (.inl rfl) _⟩
theorem MZI.popB {g o n c : Nat} {x : Int} (h : MZI pa pb pc tc rd Wk l (x :: r) Z) (hR : MR pa pb pc rd Wk) (hb : Z.heap[pb]? = some (.cells #[.slice (some ⟨g, o, none⟩) n c] 23 (0, 0))) :
    MZI pa pb pc tc rd Wk l r (Z.setCell ⟨pb, 0, none⟩ (.slice (tailA g o 1 c) (n - 1) (c - 1))) := by
  obtain ⟨a', n', c', hb', hi, hd⟩ := h.bb
  rw [hb] at hb'
  cases hb'
  have hlen := hi.llen
  simp only [List.length_cons] at hlen
  have hset := grownBy_setCell' Z pb (.slice (tailA g o 1 c) (n - 1) (c - 1))
  refine ⟨h.ba.same (hset.block _ (Nat.lt_of_lt_of_le (hR.lt _ (.inr (.inl rfl))) h.kept.size) (fun e => hR.ab (Option.some.inj e))) (fun k hr hl => hset.block k hl (fun e => hR.rb (by rw [← Option.some.inj e]; exact hr))) hset.size, BoxC.pop hb hi (hd g o (by omega) rfl) hR.rb, (hset.block _ (Nat.lt_of_lt_of_le (hR.lt _ (.inl hR.rc)) h.kept.size) (fun e => hR.rb (by rw [← Option.some.inj e]; exact hR.rc))).trans h.bc, h.kept.cellSet (.inr rfl) _⟩
/-- the head of a box that is not empty -/
theorem BoxC.headI {ts : TypeId} {p : Nat} {x : Int} (h : BoxC intC 1 ts rd Z p (x :: l)) : ∃ g o n c, Z.heap[p]? = some (.cells #[.slice (some ⟨g, o, .none⟩) n c] ts (0, 0)) ∧ Z.cell? ⟨g, o, .none⟩ = some (.int .i64 x) ∧ n = l.length + 1 ∧ n ≤ 5000 ∧ n ≤ c ∧ rd g ∧ c ≤ 9223372036854775807 := by
  obtain ⟨a, n, c, hb, hi, hd⟩ := h
  have hlen := hi.llen
  simp only [List.length_cons] at hlen
  rcases hi.at_ with h0 | ⟨g, o, rfl, hr, hg⟩
  · omega
  · exact ⟨g, o, n, c, hb, by have := rangeC_row hr hi.each (i := 0) (x := x) rfl 0 (.int .i64 x) rfl; simpa using this, hlen.symm, hi.lmax, hi.lcap, hd g o (by omega) rfl, hi.cmax⟩
theorem BoxC.noneI {ts : TypeId} {p : Nat} (h : BoxC intC 1 ts rd Z p []) : ∃ a c, Z.heap[p]? = some (.cells #[.slice a 0 c] ts (0, 0)) := by
  obtain ⟨a, n, c, hb, hi, _⟩ := h
  have hlen := hi.llen
  simp only [List.length_nil] at hlen
  subst hlen
  exact ⟨a, c, hb⟩
end

attribute [local go_sem] Oper.semAt_some
set_option maxHeartbeats 8000000 in
theorem imerged_own (m pa pb pc : Nat) (tc : TypeId) (rd : Nat → Prop) (l r : List Int) (w : World) (hR : MR pa pb pc rd w) (hA : BoxC intC 1 23 rd w pa l) (hB : BoxC intC 1 23 rd w pb r) (hC : w.heap[pc]? = some (.cells #[.func (.func 42) #[] #[]] tc (0, 0))) :
    SeqOwn Fence.wide m Tryd.prog 80 #[.pointer (some ⟨pa, 0, none⟩), .pointer (some ⟨pb, 0, none⟩), .pointer (some ⟨pc, 0, none⟩)] encI (fun _ => True) (mineP pa pb) rd (fun xs => xs = mrgK idI l r) (l.length + r.length) w := by
  intro t J W hW hY hJ0
  refine callsIn_of_wp Tryd.func80 rfl trivial ?_ rfl
  simp only [Tryd.ntmps80, List.size_toArray, List.length_cons, List.length_nil, Nat.reduceAdd, Nat.reduceSub, Array.replicate_succ, Array.replicate_zero, List.push_toArray, List.append_toArray, List.nil_append, List.cons_append]
  have hz0 := hW.size
  have H0 : Seal (MZI pa pb pc tc rd W l r W ∧ MR pa pb pc rd W ∧ W.heap.size ≤ W.heap.size ∧ ∃ xs W0, mrgK idI l r = xs ++ mrgK idI l r ∧ xs.length + l.length + r.length ≤ l.length + r.length ∧ J xs W0 ∧ KeptBut (mineP pa pb) W0 W ∧ W.heap.size ≤ W0.heap.size) := ⟨⟨⟨hA.same (hW.block _ (hR.lt _ (.inr (.inl rfl)))) (fun k _ hl => hW.block k hl) hz0, hB.same (hW.block _ (hR.lt _ (.inr (.inr rfl)))) (fun k _ hl => hW.block k hl) hz0, (hW.block _ (hR.lt _ (.inl hR.rc))).trans hC, KeptBut.refl _ _⟩, ⟨hR.ab, hR.ra, hR.rb, hR.rc, fun k hk => by have := hR.lt k hk; omega⟩, Nat.le_refl _, [], W, rfl, by simp, hJ0, KeptBut.refl _ _, Nat.le_refl _⟩⟩
  have HY := Seal.mk hY
  have ut := Tryd.underlying3
  clear hW hY hJ0 hR hA hB hC hz0
  gi_wp2
  gi_loopw [] (fun Wk => ∃ (l' r' : List Int), Seal (MZI pa pb pc tc rd Wk l' r' Wk ∧ MR pa pb pc rd Wk ∧ W.heap.size ≤ Wk.heap.size ∧ ∃ xs W0, mrgK idI l r = xs ++ mrgK idI l' r' ∧ xs.length + l'.length + r'.length ≤ l.length + r.length ∧ J xs W0 ∧ KeptBut (mineP pa pb) W0 Wk ∧ W.heap.size ≤ W0.heap.size)) (fun Wk => bxl Wk pa + bxl Wk pb)
  case atStart => exact ⟨l, r, H0⟩
  case round =>
    obtain ⟨Wk, rfl⟩ : ∃ z, z = wr := ⟨_, rfl⟩
    obtain ⟨l', r', hH⟩ := hrel
    clear H0
    have HR := Seal.mk hH.out.2.1
    have HM0 := Seal.mk hH.out.1
    have HJ := Seal.mk hH.out.2.2.2
    have HLEN : Seal (bxl Wk pa = l'.length ∧ bxl Wk pb = r'.length) := ⟨HM0.out.ba.len, HM0.out.bb.len⟩
    have cc : Wk.cell? ⟨pc, 0, none⟩ = some (.func (.func 42) #[] #[]) := by rw [cell_of_row _ _ _ _ _ _ HM0.out.bc]; rfl
    clear hH
    obtain ⟨gx, hgx⟩ : ∃ g, g = Wk.heap.size := ⟨_, rfl⟩
    have HG : Seal (Wk.heap.size ≤ gx) := ⟨by omega⟩
    cases l' with
    | nil =>
      obtain ⟨a1, c1, h1⟩ := HM0.out.ba.noneI
      have ca : Wk.cell? ⟨pa, 0, none⟩ = some (.slice a1 0 c1) := by rw [cell_of_row _ _ _ _ _ _ h1]; rfl
      cases r' with
      | nil =>
        obtain ⟨a2, c2, h2⟩ := HM0.out.bb.noneI
        have cb : Wk.cell? ⟨pb, 0, none⟩ = some (.slice a2 0 c2) := by rw [cell_of_row _ _ _ _ _ _ h2]; rfl
        clear h1 h2 hgx
        gi_wp2
        go_end0
        obtain ⟨xs, W0, j1, j2, j3, j4, j5⟩ := HJ.out
        exact ⟨⟨_, rfl⟩, xs, W0, by rw [j1]; simp [mrgK], j3, j4, j5⟩
      | cons y r2 =>
        obtain ⟨g2, o2, n2, c2, hby, ry, hn2, hm2, hc2, hd2, hcm2⟩ := HM0.out.bb.headI
        have cb : Wk.cell? ⟨pb, 0, none⟩ = some (.slice (some ⟨g2, o2, none⟩) n2 c2) := by rw [cell_of_row _ _ _ _ _ _ hby]; rfl
        have HM : Seal (mrgK idI [] (y :: r2) = [y] ++ mrgK idI [] r2) := ⟨by simp [mrgK]⟩
        have q1 : 0 < n2 := by omega
        have q2 : (0 : Int) < (n2 : Int) := by omega
        clear h1 hd2 hn2 hgx HG
        gi_wp2_with fail
        clear ca cb cc
        have cbx : Wk.cell? ⟨pb, 0, none⟩ = some (.slice (some ⟨g2, o2, none⟩) n2 c2) := by rw [cell_of_row _ _ _ _ _ _ hby]; rfl
        have tl := run_tailI g2 o2 n2 c2 (by omega)
        refine wpIn_wide.2 ?_
        refine wp_region_heldT 6 (S := fun w' => w'.cell? ⟨pb, 0, none⟩ = some (.slice (some ⟨g2, o2, none⟩) n2 c2) ∧ w'.cell? ⟨g2, o2, none⟩ = some (.int .i64 y)) (by kernel_rfl) ⟨cbx, ry⟩ (fun hHeld => ?_)
        obtain ⟨Vy, hV⟩ : ∃ V, V = Wk.drew := ⟨_, rfl⟩
        have MVy : Seal (MZI pa pb pc tc rd Wk [] (y :: r2) Vy ∧ Vy.heap[pb]? = some (.cells #[.slice (some ⟨g2, o2, none⟩) n2 c2] 23 (0, 0))) := ⟨by rw [hV]; exact ⟨HM0.out.same HR.out (fun _ _ => rfl) (Nat.le_refl _) ⟨rfl, rfl, rfl⟩, hby⟩⟩
        rw [← hV] at hHeld ⊢
        clear hV cbx hby ry
        refine take_t 0 ?_ rfl (by kernel_rfl) (by kernel_rfl) (by kernel_rfl) (by kernel_rfl) (fun _ _ _ h => h) (Or.inl ⟨by kernel_rfl, ?_⟩) (by assumption) ?_
        rotate_left
        · (intro w hSw; (try dsimp only at hSw); go_simp; try (with_reducible rfl))
        try simp only [Act.put, List.setIfInBounds_toArray, List.set_cons_zero, List.set_cons_succ]
        refine take_t 1 ?_ rfl (by kernel_rfl) (by kernel_rfl) (by kernel_rfl) (by kernel_rfl) (fun _ _ _ h => h) (Or.inl ⟨by kernel_rfl, ?_⟩) (by assumption) ?_
        rotate_left
        · (intro w hSw; (try dsimp only at hSw); go_simp; try (with_reducible rfl))
        try simp only [Act.put, List.setIfInBounds_toArray, List.set_cons_zero, List.set_cons_succ]
        refine take_t 2 ?_ rfl (by kernel_rfl) (by kernel_rfl) (by kernel_rfl) (by kernel_rfl) (fun _ _ _ h => h) (Or.inl ⟨by kernel_rfl, ?_⟩) (by assumption) ?_
        rotate_left
        · (intro w hSw; (try dsimp only at hSw); go_simp; try (with_reducible rfl))
        try simp only [Act.put, List.setIfInBounds_toArray, List.set_cons_zero, List.set_cons_succ]
        refine take_t 3 ?_ rfl (by kernel_rfl) (by kernel_rfl) (by kernel_rfl) (by kernel_rfl) (fun _ _ _ h => h) (Or.inl ⟨by kernel_rfl, ?_⟩) (by assumption) ?_
        rotate_left
        · (intro w hSw; (try dsimp only at hSw); go_simp; try (with_reducible rfl))
        try simp only [Act.put, List.setIfInBounds_toArray, List.set_cons_zero, List.set_cons_succ]
        refine take_t 4 (.slice (tailA g2 o2 1 c2) (n2 - 1) (c2 - 1)) rfl (by kernel_rfl) (by kernel_rfl) (by kernel_rfl) (by kernel_rfl) (fun _ _ _ h => h) (Or.inl ⟨by kernel_rfl, fun w _ => exec_slice 23 (.tmp 39) _ rfl (.slice (some ⟨g2, o2, none⟩) n2 c2) (.int .i64 1) _ rfl rfl (tl w)⟩) (by assumption) ?_
        try simp only [Act.put, List.setIfInBounds_toArray, List.set_cons_zero, List.set_cons_succ]
        refine take_t 5 ?_ rfl (by kernel_rfl) (by kernel_rfl) (by kernel_rfl) (by kernel_rfl) (fun _ _ _ h => h) (Or.inl ⟨by kernel_rfl, ?_⟩) (by assumption) ?_
        rotate_left
        · (intro w hSw; (try dsimp only at hSw); go_simp; try (with_reducible rfl))
        try simp only [Act.put, List.setIfInBounds_toArray, List.set_cons_zero, List.set_cons_succ]
        have cbu : Vy.cell? ⟨pb, 0, none⟩ = some (.slice (some ⟨g2, o2, none⟩) n2 c2) := hHeld.1
        have fbu : Vy.frozen? ⟨pb, 0, none⟩ = false := frozen_of_row _ _ _ _ _ MVy.out.2
        clear hHeld
        refine last_t (Vy.setCell ⟨pb, 0, none⟩ (.slice (tailA g2 o2 1 c2) (n2 - 1) (c2 - 1))) rfl (by kernel_rfl) (by kernel_rfl) (by kernel_rfl) (by go_simp) ?_
        try simp only [Act.put]
        obtain ⟨Yy, hYY⟩ : ∃ U, U = Vy.setCell ⟨pb, 0, none⟩ (.slice (tailA g2 o2 1 c2) (n2 - 1) (c2 - 1)) := ⟨_, rfl⟩
        have MYy : Seal (MZI pa pb pc tc rd Wk [] r2 Yy) := ⟨by
          rw [hYY]
          exact MVy.out.1.popB HR.out MVy.out.2⟩
        rw [← hYY]
        clear hYY cbu fbu tl MVy
        clear HM0
        obtain ⟨xs, W0, j1, j2, j3, j4, j5⟩ := HJ.out
        obtain ⟨fn, tmps, asg, body, hy, hRR⟩ := HY.out xs y W0 Yy j3 (j4.trans MYy.out.kept) j5 trivial (by simp only [List.length_cons, List.length_nil] at j2; omega)
        have hRR := Seal.mk hRR
        have HJ2 : Seal (mrgK idI l r = (xs ++ [y]) ++ mrgK idI ([] : List Int) r2 ∧ xs.length + 1 + (([] : List Int)).length + (r2).length ≤ l.length + r.length) := ⟨by rw [j1, HM.out]; simp, by simp only [List.length_cons, List.length_nil] at j2 ⊢; omega⟩
        have HSZ : Seal (W.heap.size ≤ Yy.heap.size) := ⟨by have := j4.size; have := MYy.out.kept.size; omega⟩
        unfold encI at hy
        clear j1 j2 j3 j4 j5 HJ
        gi_wp2
        refine ⟨fun h => (by cases h), ?_⟩
        refine hRR.out.mono ?_
        rintro e W' ⟨rfl, hJ', hz', hk'⟩
        have HN : Seal (MZI pa pb pc tc rd W' ([] : List Int) r2 W' ∧ MR pa pb pc rd W' ∧ W.heap.size ≤ W'.heap.size ∧ ∃ xs W0, mrgK idI l r = xs ++ mrgK idI ([] : List Int) r2 ∧ xs.length + (([] : List Int)).length + (r2).length ≤ l.length + r.length ∧ J xs W0 ∧ KeptBut (mineP pa pb) W0 W' ∧ W.heap.size ≤ W0.heap.size) := ⟨by
          have hm := MYy.out
          have hRk := HR.out
          have hsz := HSZ.out
          refine ⟨⟨hm.ba.same (hk' _ (.inl (.inl rfl))) (fun k hr _ => hk' k (.inr hr)) hz', hm.bb.same (hk' _ (.inl (.inr rfl))) (fun k hr _ => hk' k (.inr hr)) hz', (hk' _ (.inr hRk.rc)).trans hm.bc, KeptBut.refl _ _⟩, ⟨hRk.ab, hRk.ra, hRk.rb, hRk.rc, fun k hk => by have := hRk.lt k hk; have := hm.kept.size; omega⟩, by omega, xs ++ [y], W', HJ2.out.1, by rw [List.length_append, List.length_singleton]; exact HJ2.out.2, hJ', KeptBut.refl _ _, by omega⟩⟩
        clear hJ' hz' hk' hy hRR HSZ HJ2 MYy
        gi_wp2
        go_roundw
        case rel => exact ⟨([] : List Int), r2, HN⟩
        case measure =>
          rw [HN.out.1.ba.len, HN.out.1.bb.len, HLEN.out.1, HLEN.out.2]
          (try simp only [List.length_cons, List.length_nil]); omega
    | cons x l2 =>
      obtain ⟨g1, o1, n1, c1, hbx, rx, hn1, hm1, hc1, hd1, hcm1⟩ := HM0.out.ba.headI
      have ca : Wk.cell? ⟨pa, 0, none⟩ = some (.slice (some ⟨g1, o1, none⟩) n1 c1) := by rw [cell_of_row _ _ _ _ _ _ hbx]; rfl
      clear hd1
      have q1 : 0 < n1 := by omega
      have q2 : (0 : Int) < (n1 : Int) := by omega
      cases r' with
      | nil =>
        obtain ⟨a2, c2, h2⟩ := HM0.out.bb.noneI
        have cb : Wk.cell? ⟨pb, 0, none⟩ = some (.slice a2 0 c2) := by rw [cell_of_row _ _ _ _ _ _ h2]; rfl
        have HM : Seal (mrgK idI (x :: l2) [] = [x] ++ mrgK idI l2 []) := ⟨by rw [mrgK_none, mrgK_none]; rfl⟩
        have MB := HM0
        clear hgx HG
        have q3 : ¬ (n1 : Int) = 0 := by omega
        have q4 : ¬ n1 = 0 := by omega
        clear h2 hn1 HM0
        gi_wp2_with fail
        clear ca cb cc
        have cbx : Wk.cell? ⟨pa, 0, none⟩ = some (.slice (some ⟨g1, o1, none⟩) n1 c1) := by rw [cell_of_row _ _ _ _ _ _ hbx]; rfl
        have tl := run_tailI g1 o1 n1 c1 (by omega)
        refine wpIn_wide.2 ?_
        refine wp_region_heldT 6 (S := fun w' => w'.cell? ⟨pa, 0, none⟩ = some (.slice (some ⟨g1, o1, none⟩) n1 c1) ∧ w'.cell? ⟨g1, o1, none⟩ = some (.int .i64 x)) (by kernel_rfl) ⟨cbx, rx⟩ (fun hHeld => ?_)
        obtain ⟨Vx, hV⟩ : ∃ V, V = Wk.drew := ⟨_, rfl⟩
        have MVx : Seal (MZI pa pb pc tc rd Wk (x :: l2) [] Vx ∧ Vx.heap[pa]? = some (.cells #[.slice (some ⟨g1, o1, none⟩) n1 c1] 23 (0, 0))) := ⟨by rw [hV]; exact ⟨MB.out.same HR.out (fun _ _ => rfl) (Nat.le_refl _) ⟨rfl, rfl, rfl⟩, hbx⟩⟩
        rw [← hV] at hHeld ⊢
        clear hV cbx hbx rx
        refine take_t 0 ?_ rfl (by kernel_rfl) (by kernel_rfl) (by kernel_rfl) (by kernel_rfl) (fun _ _ _ h => h) (Or.inl ⟨by kernel_rfl, ?_⟩) (by assumption) ?_
        rotate_left
        · (intro w hSw; (try dsimp only at hSw); go_simp; try (with_reducible rfl))
        try simp only [Act.put, List.setIfInBounds_toArray, List.set_cons_zero, List.set_cons_succ]
        refine take_t 1 ?_ rfl (by kernel_rfl) (by kernel_rfl) (by kernel_rfl) (by kernel_rfl) (fun _ _ _ h => h) (Or.inl ⟨by kernel_rfl, ?_⟩) (by assumption) ?_
        rotate_left
        · (intro w hSw; (try dsimp only at hSw); go_simp; try (with_reducible rfl))
        try simp only [Act.put, List.setIfInBounds_toArray, List.set_cons_zero, List.set_cons_succ]
        refine take_t 2 ?_ rfl (by kernel_rfl) (by kernel_rfl) (by kernel_rfl) (by kernel_rfl) (fun _ _ _ h => h) (Or.inl ⟨by kernel_rfl, ?_⟩) (by assumption) ?_
        rotate_left
        · (intro w hSw; (try dsimp only at hSw); go_simp; try (with_reducible rfl))
        try simp only [Act.put, List.setIfInBounds_toArray, List.set_cons_zero, List.set_cons_succ]
        refine take_t 3 ?_ rfl (by kernel_rfl) (by kernel_rfl) (by kernel_rfl) (by kernel_rfl) (fun _ _ _ h => h) (Or.inl ⟨by kernel_rfl, ?_⟩) (by assumption) ?_
        rotate_left
        · (intro w hSw; (try dsimp only at hSw); go_simp; try (with_reducible rfl))
        try simp only [Act.put, List.setIfInBounds_toArray, List.set_cons_zero, List.set_cons_succ]
        refine take_t 4 (.slice (tailA g1 o1 1 c1) (n1 - 1) (c1 - 1)) rfl (by kernel_rfl) (by kernel_rfl) (by kernel_rfl) (by kernel_rfl) (fun _ _ _ h => h) (Or.inl ⟨by kernel_rfl, fun w _ => exec_slice 23 (.tmp 32) _ rfl (.slice (some ⟨g1, o1, none⟩) n1 c1) (.int .i64 1) _ rfl rfl (tl w)⟩) (by assumption) ?_
        try simp only [Act.put, List.setIfInBounds_toArray, List.set_cons_zero, List.set_cons_succ]
        refine take_t 5 ?_ rfl (by kernel_rfl) (by kernel_rfl) (by kernel_rfl) (by kernel_rfl) (fun _ _ _ h => h) (Or.inl ⟨by kernel_rfl, ?_⟩) (by assumption) ?_
        rotate_left
        · (intro w hSw; (try dsimp only at hSw); go_simp; try (with_reducible rfl))
        try simp only [Act.put, List.setIfInBounds_toArray, List.set_cons_zero, List.set_cons_succ]
        have cbu : Vx.cell? ⟨pa, 0, none⟩ = some (.slice (some ⟨g1, o1, none⟩) n1 c1) := hHeld.1
        have fbu : Vx.frozen? ⟨pa, 0, none⟩ = false := frozen_of_row _ _ _ _ _ MVx.out.2
        clear hHeld
        refine last_t (Vx.setCell ⟨pa, 0, none⟩ (.slice (tailA g1 o1 1 c1) (n1 - 1) (c1 - 1))) rfl (by kernel_rfl) (by kernel_rfl) (by kernel_rfl) (by go_simp) ?_
        try simp only [Act.put]
        obtain ⟨Yx, hYY⟩ : ∃ U, U = Vx.setCell ⟨pa, 0, none⟩ (.slice (tailA g1 o1 1 c1) (n1 - 1) (c1 - 1)) := ⟨_, rfl⟩
        have MYx : Seal (MZI pa pb pc tc rd Wk l2 [] Yx) := ⟨by
          rw [hYY]
          exact MVx.out.1.popA HR.out MVx.out.2⟩
        rw [← hYY]
        clear hYY cbu fbu tl MVx
        clear MB
        obtain ⟨xs, W0, j1, j2, j3, j4, j5⟩ := HJ.out
        obtain ⟨fn, tmps, asg, body, hy, hRR⟩ := HY.out xs x W0 Yx j3 (j4.trans MYx.out.kept) j5 trivial (by simp only [List.length_cons, List.length_nil] at j2; omega)
        have hRR := Seal.mk hRR
        have HJ2 : Seal (mrgK idI l r = (xs ++ [x]) ++ mrgK idI l2 ([] : List Int) ∧ xs.length + 1 + (l2).length + (([] : List Int)).length ≤ l.length + r.length) := ⟨by rw [j1, HM.out]; simp, by simp only [List.length_cons, List.length_nil] at j2 ⊢; omega⟩
        have HSZ : Seal (W.heap.size ≤ Yx.heap.size) := ⟨by have := j4.size; have := MYx.out.kept.size; omega⟩
        unfold encI at hy
        clear j1 j2 j3 j4 j5 HJ
        gi_wp2
        refine ⟨fun h => (by cases h), ?_⟩
        refine hRR.out.mono ?_
        rintro e W' ⟨rfl, hJ', hz', hk'⟩
        have HN : Seal (MZI pa pb pc tc rd W' l2 ([] : List Int) W' ∧ MR pa pb pc rd W' ∧ W.heap.size ≤ W'.heap.size ∧ ∃ xs W0, mrgK idI l r = xs ++ mrgK idI l2 ([] : List Int) ∧ xs.length + (l2).length + (([] : List Int)).length ≤ l.length + r.length ∧ J xs W0 ∧ KeptBut (mineP pa pb) W0 W' ∧ W.heap.size ≤ W0.heap.size) := ⟨by
          have hm := MYx.out
          have hRk := HR.out
          have hsz := HSZ.out
          refine ⟨⟨hm.ba.same (hk' _ (.inl (.inl rfl))) (fun k hr _ => hk' k (.inr hr)) hz', hm.bb.same (hk' _ (.inl (.inr rfl))) (fun k hr _ => hk' k (.inr hr)) hz', (hk' _ (.inr hRk.rc)).trans hm.bc, KeptBut.refl _ _⟩, ⟨hRk.ab, hRk.ra, hRk.rb, hRk.rc, fun k hk => by have := hRk.lt k hk; have := hm.kept.size; omega⟩, by omega, xs ++ [x], W', HJ2.out.1, by rw [List.length_append, List.length_singleton]; exact HJ2.out.2, hJ', KeptBut.refl _ _, by omega⟩⟩
        clear hJ' hz' hk' hy hRR HSZ HJ2 MYx
        gi_wp2
        go_roundw
        case rel => exact ⟨l2, ([] : List Int), HN⟩
        case measure =>
          rw [HN.out.1.ba.len, HN.out.1.bb.len, HLEN.out.1, HLEN.out.2]
          (try simp only [List.length_cons, List.length_nil]); omega
      | cons y r2 =>
        obtain ⟨g2, o2, n2, c2, hby, ry, hn2, hm2, hc2, hd2, hcm2⟩ := HM0.out.bb.headI
        have cb : Wk.cell? ⟨pb, 0, none⟩ = some (.slice (some ⟨g2, o2, none⟩) n2 c2) := by rw [cell_of_row _ _ _ _ _ _ hby]; rfl
        clear hd2
        have q3 : 0 < n2 := by omega
        have q4 : (0 : Int) < (n2 : Int) := by omega
        have q6 : ¬ n1 = 0 := by omega
        have q7 : ¬ (n1 : Int) = 0 := by omega
        clear hn1 hn2 hgx HG
        gi_wp2_with fail
        refine wpIn_wide.2 ?_
        refine wp_region_held_drew (S := fun w' => w'.cell? ⟨pa, 0, none⟩ = some (.slice (some ⟨g1, o1, none⟩) n1 c1) ∧ w'.cell? ⟨pb, 0, none⟩ = some (.slice (some ⟨g2, o2, none⟩) n2 c2) ∧ w'.cell? ⟨pc, 0, none⟩ = some (.func (.func 42) #[] #[]) ∧ w'.cell? ⟨g1, o1, none⟩ = some (.int .i64 x) ∧ w'.cell? ⟨g2, o2, none⟩ = some (.int .i64 y)) (by kernel_rfl) ⟨ca, cb, cc, rx, ry⟩ (fun hHeld => ?_)
        obtain ⟨V, hV⟩ : ∃ V, V = Wk.drew := ⟨_, rfl⟩
        have MV : Seal (MZI pa pb pc tc rd Wk (x :: l2) (y :: r2) V ∧ V.heap[pa]? = some (.cells #[.slice (some ⟨g1, o1, none⟩) n1 c1] 23 (0, 0)) ∧ V.heap[pb]? = some (.cells #[.slice (some ⟨g2, o2, none⟩) n2 c2] 23 (0, 0))) := ⟨by rw [hV]; exact ⟨HM0.out.same HR.out (fun _ _ => rfl) (Nat.le_refl _) ⟨rfl, rfl, rfl⟩, hbx, hby⟩⟩
        rw [← hV] at hHeld ⊢
        clear hV ca cb cc rx ry hbx hby HM0
        refine take_h 0 ?_ rfl (by kernel_rfl) (by kernel_rfl) (by kernel_rfl) (fun _ _ _ h => h) (Or.inl ⟨by kernel_rfl, ?_⟩) (by assumption) ?_
        rotate_left
        · (intro w hSw; (try dsimp only at hSw); go_simp; try (with_reducible rfl))
        try simp only [Act.put, List.setIfInBounds_toArray, List.set_cons_zero, List.set_cons_succ]
        refine take_h 1 ?_ rfl (by kernel_rfl) (by kernel_rfl) (by kernel_rfl) (fun _ _ _ h => h) (Or.inl ⟨by kernel_rfl, ?_⟩) (by assumption) ?_
        rotate_left
        · (intro w hSw; (try dsimp only at hSw); go_simp; try (with_reducible rfl))
        try simp only [Act.put, List.setIfInBounds_toArray, List.set_cons_zero, List.set_cons_succ]
        refine take_h 2 ?_ rfl (by kernel_rfl) (by kernel_rfl) (by kernel_rfl) (fun _ _ _ h => h) (Or.inl ⟨by kernel_rfl, ?_⟩) (by assumption) ?_
        rotate_left
        · (intro w hSw; (try dsimp only at hSw); go_simp; try (with_reducible rfl))
        try simp only [Act.put, List.setIfInBounds_toArray, List.set_cons_zero, List.set_cons_succ]
        refine take_h 3 ?_ rfl (by kernel_rfl) (by kernel_rfl) (by kernel_rfl) (fun _ _ _ h => h) (Or.inl ⟨by kernel_rfl, ?_⟩) (by assumption) ?_
        rotate_left
        · (intro w hSw; (try dsimp only at hSw); go_simp; try (with_reducible rfl))
        try simp only [Act.put, List.setIfInBounds_toArray, List.set_cons_zero, List.set_cons_succ]
        refine take_h 4 ?_ rfl (by kernel_rfl) (by kernel_rfl) (by kernel_rfl) (fun _ _ _ h => h) (Or.inl ⟨by kernel_rfl, ?_⟩) (by assumption) ?_
        rotate_left
        · (intro w hSw; (try dsimp only at hSw); go_simp; try (with_reducible rfl))
        try simp only [Act.put, List.setIfInBounds_toArray, List.set_cons_zero, List.set_cons_succ]
        refine take_h 5 ?_ rfl (by kernel_rfl) (by kernel_rfl) (by kernel_rfl) (fun _ _ _ h => h) (Or.inl ⟨by kernel_rfl, ?_⟩) (by assumption) ?_
        rotate_left
        · (intro w hSw; (try dsimp only at hSw); go_simp; try (with_reducible rfl))
        try simp only [Act.put, List.setIfInBounds_toArray, List.set_cons_zero, List.set_cons_succ]
        refine take_h 6 ?_ rfl (by kernel_rfl) (by kernel_rfl) (by kernel_rfl) (fun _ _ _ h => h) (Or.inl ⟨by kernel_rfl, ?_⟩) (by assumption) ?_
        rotate_left
        · (intro w hSw; (try dsimp only at hSw); go_simp; try (with_reducible rfl))
        try simp only [Act.put, List.setIfInBounds_toArray, List.set_cons_zero, List.set_cons_succ]
        refine call_h 7 rfl (by kernel_rfl) 42 #[.int .i64 x, .int .i64 y] (by kernel_rfl) (by go_simp) ?_
        refine (dcmp_any x y V).mono ?_
        rintro e V1 ⟨rfl, hb0⟩
        have hb1 : Below V.heap.size V V1 := by rw [← hb0]; exact Below.refl _ _
        clear hb0
        refine ⟨_, rfl, ⟨cell_below' hb1 hHeld.1, cell_below' hb1 hHeld.2.1, cell_below' hb1 hHeld.2.2.1, cell_below' hb1 hHeld.2.2.2.1, cell_below' hb1 hHeld.2.2.2.2⟩, fun hHeld2 => ?_⟩
        try simp only [Act.put, List.setIfInBounds_toArray, List.set_cons_zero, List.set_cons_succ]
        have MB := Seal.mk (MV.out.1.same HR.out (fun k hk => hb1.block k (Nat.lt_of_lt_of_le hk MV.out.1.kept.size)) hb1.size ⟨hb1.os, hb1.tape, hb1.output⟩)
        have hbx := (hb1.block _ (Nat.lt_of_lt_of_le (HR.out.lt pa (.inr (by unfold mineP; simp))) MV.out.1.kept.size)).trans MV.out.2.1
        have hby := (hb1.block _ (Nat.lt_of_lt_of_le (HR.out.lt pb (.inr (by unfold mineP; simp))) MV.out.1.kept.size)).trans MV.out.2.2
        clear hb1 hHeld MV
        refine take_h 8 ?_ rfl (by kernel_rfl) (by kernel_rfl) (by kernel_rfl) (fun _ _ _ h => h) (Or.inl ⟨by kernel_rfl, ?_⟩) (by assumption) ?_
        rotate_left
        · (intro w hSw; (try dsimp only at hSw); go_simp; try (with_reducible rfl))
        try simp only [Act.put, List.setIfInBounds_toArray, List.set_cons_zero, List.set_cons_succ]
        refine wpAnyH_done (by kernel_rfl) ?_ _
        have rx := hHeld2.2.2.2.1
        have ry := hHeld2.2.2.2.2
        clear hHeld2
        rcases Int.lt_trichotomy x y with hlt | heq | hgt
        · have HM : Seal (mrgK idI (x :: l2) (y :: r2) = [x] ++ mrgK idI l2 (y :: r2)) := ⟨by rw [mrgK, if_pos (show idI x < idI y from hlt)]; rfl⟩
          rw [show cmpZ x y = -1 from by unfold cmpZ; rw [if_pos hlt]]
          clear hlt hby ry
          gi_wp2_with fail
          have cbx : V1.cell? ⟨pa, 0, none⟩ = some (.slice (some ⟨g1, o1, none⟩) n1 c1) := by rw [cell_of_row _ _ _ _ _ _ hbx]; rfl
          have tl := run_tailI g1 o1 n1 c1 (by omega)
          refine wpIn_wide.2 ?_
          refine wp_region_heldT 6 (S := fun w' => w'.cell? ⟨pa, 0, none⟩ = some (.slice (some ⟨g1, o1, none⟩) n1 c1) ∧ w'.cell? ⟨g1, o1, none⟩ = some (.int .i64 x)) (by kernel_rfl) ⟨cbx, rx⟩ (fun hHeld => ?_)
          obtain ⟨Vx, hV⟩ : ∃ V, V = V1.drew := ⟨_, rfl⟩
          have MVx : Seal (MZI pa pb pc tc rd Wk (x :: l2) (y :: r2) Vx ∧ Vx.heap[pa]? = some (.cells #[.slice (some ⟨g1, o1, none⟩) n1 c1] 23 (0, 0))) := ⟨by rw [hV]; exact ⟨MB.out.same HR.out (fun _ _ => rfl) (Nat.le_refl _) ⟨rfl, rfl, rfl⟩, hbx⟩⟩
          rw [← hV] at hHeld ⊢
          clear hV cbx hbx rx
          refine take_t 0 ?_ rfl (by kernel_rfl) (by kernel_rfl) (by kernel_rfl) (by kernel_rfl) (fun _ _ _ h => h) (Or.inl ⟨by kernel_rfl, ?_⟩) (by assumption) ?_
          rotate_left
          · (intro w hSw; (try dsimp only at hSw); go_simp; try (with_reducible rfl))
          try simp only [Act.put, List.setIfInBounds_toArray, List.set_cons_zero, List.set_cons_succ]
          refine take_t 1 ?_ rfl (by kernel_rfl) (by kernel_rfl) (by kernel_rfl) (by kernel_rfl) (fun _ _ _ h => h) (Or.inl ⟨by kernel_rfl, ?_⟩) (by assumption) ?_
          rotate_left
          · (intro w hSw; (try dsimp only at hSw); go_simp; try (with_reducible rfl))
          try simp only [Act.put, List.setIfInBounds_toArray, List.set_cons_zero, List.set_cons_succ]
          refine take_t 2 ?_ rfl (by kernel_rfl) (by kernel_rfl) (by kernel_rfl) (by kernel_rfl) (fun _ _ _ h => h) (Or.inl ⟨by kernel_rfl, ?_⟩) (by assumption) ?_
          rotate_left
          · (intro w hSw; (try dsimp only at hSw); go_simp; try (with_reducible rfl))
          try simp only [Act.put, List.setIfInBounds_toArray, List.set_cons_zero, List.set_cons_succ]
          refine take_t 3 ?_ rfl (by kernel_rfl) (by kernel_rfl) (by kernel_rfl) (by kernel_rfl) (fun _ _ _ h => h) (Or.inl ⟨by kernel_rfl, ?_⟩) (by assumption) ?_
          rotate_left
          · (intro w hSw; (try dsimp only at hSw); go_simp; try (with_reducible rfl))
          try simp only [Act.put, List.setIfInBounds_toArray, List.set_cons_zero, List.set_cons_succ]
          refine take_t 4 (.slice (tailA g1 o1 1 c1) (n1 - 1) (c1 - 1)) rfl (by kernel_rfl) (by kernel_rfl) (by kernel_rfl) (by kernel_rfl) (fun _ _ _ h => h) (Or.inl ⟨by kernel_rfl, fun w _ => exec_slice 23 (.tmp 32) _ rfl (.slice (some ⟨g1, o1, none⟩) n1 c1) (.int .i64 1) _ rfl rfl (tl w)⟩) (by assumption) ?_
          try simp only [Act.put, List.setIfInBounds_toArray, List.set_cons_zero, List.set_cons_succ]
          refine take_t 5 ?_ rfl (by kernel_rfl) (by kernel_rfl) (by kernel_rfl) (by kernel_rfl) (fun _ _ _ h => h) (Or.inl ⟨by kernel_rfl, ?_⟩) (by assumption) ?_
          rotate_left
          · (intro w hSw; (try dsimp only at hSw); go_simp; try (with_reducible rfl))
          try simp only [Act.put, List.setIfInBounds_toArray, List.set_cons_zero, List.set_cons_succ]
          have cbu : Vx.cell? ⟨pa, 0, none⟩ = some (.slice (some ⟨g1, o1, none⟩) n1 c1) := hHeld.1
          have fbu : Vx.frozen? ⟨pa, 0, none⟩ = false := frozen_of_row _ _ _ _ _ MVx.out.2
          clear hHeld
          refine last_t (Vx.setCell ⟨pa, 0, none⟩ (.slice (tailA g1 o1 1 c1) (n1 - 1) (c1 - 1))) rfl (by kernel_rfl) (by kernel_rfl) (by kernel_rfl) (by go_simp) ?_
          try simp only [Act.put]
          obtain ⟨Yx, hYY⟩ : ∃ U, U = Vx.setCell ⟨pa, 0, none⟩ (.slice (tailA g1 o1 1 c1) (n1 - 1) (c1 - 1)) := ⟨_, rfl⟩
          have MYx : Seal (MZI pa pb pc tc rd Wk l2 (y :: r2) Yx) := ⟨by
            rw [hYY]
            exact MVx.out.1.popA HR.out MVx.out.2⟩
          rw [← hYY]
          clear hYY cbu fbu tl MVx
          clear MB
          obtain ⟨xs, W0, j1, j2, j3, j4, j5⟩ := HJ.out
          obtain ⟨fn, tmps, asg, body, hy, hRR⟩ := HY.out xs x W0 Yx j3 (j4.trans MYx.out.kept) j5 trivial (by simp only [List.length_cons] at j2; omega)
          have hRR := Seal.mk hRR
          have HJ2 : Seal (mrgK idI l r = (xs ++ [x]) ++ mrgK idI l2 (y :: r2) ∧ xs.length + 1 + (l2).length + ((y :: r2)).length ≤ l.length + r.length) := ⟨by rw [j1, HM.out]; simp, by simp only [List.length_cons] at j2 ⊢; omega⟩
          have HSZ : Seal (W.heap.size ≤ Yx.heap.size) := ⟨by have := j4.size; have := MYx.out.kept.size; omega⟩
          unfold encI at hy
          clear j1 j2 j3 j4 j5 HJ
          gi_wp2
          refine ⟨fun h => (by cases h), ?_⟩
          refine hRR.out.mono ?_
          rintro e W' ⟨rfl, hJ', hz', hk'⟩
          have HN : Seal (MZI pa pb pc tc rd W' l2 (y :: r2) W' ∧ MR pa pb pc rd W' ∧ W.heap.size ≤ W'.heap.size ∧ ∃ xs W0, mrgK idI l r = xs ++ mrgK idI l2 (y :: r2) ∧ xs.length + (l2).length + ((y :: r2)).length ≤ l.length + r.length ∧ J xs W0 ∧ KeptBut (mineP pa pb) W0 W' ∧ W.heap.size ≤ W0.heap.size) := ⟨by
            have hm := MYx.out
            have hRk := HR.out
            have hsz := HSZ.out
            refine ⟨⟨hm.ba.same (hk' _ (.inl (.inl rfl))) (fun k hr _ => hk' k (.inr hr)) hz', hm.bb.same (hk' _ (.inl (.inr rfl))) (fun k hr _ => hk' k (.inr hr)) hz', (hk' _ (.inr hRk.rc)).trans hm.bc, KeptBut.refl _ _⟩, ⟨hRk.ab, hRk.ra, hRk.rb, hRk.rc, fun k hk => by have := hRk.lt k hk; have := hm.kept.size; omega⟩, by omega, xs ++ [x], W', HJ2.out.1, by rw [List.length_append, List.length_singleton]; exact HJ2.out.2, hJ', KeptBut.refl _ _, by omega⟩⟩
          clear hJ' hz' hk' hy hRR HSZ HJ2 MYx
          gi_wp2
          go_roundw
          case rel => exact ⟨l2, y :: r2, HN⟩
          case measure =>
            rw [HN.out.1.ba.len, HN.out.1.bb.len, HLEN.out.1, HLEN.out.2]
            (try simp only [List.length_cons]); omega
        · have HM : Seal (mrgK idI (x :: l2) (y :: r2) = [y] ++ mrgK idI l2 r2) := ⟨by rw [mrgK, if_neg (show ¬ idI x < idI y from by unfold idI; omega), if_neg (show ¬ idI y < idI x from by unfold idI; omega)]; rfl⟩
          rw [show cmpZ x y = 0 from by unfold cmpZ; rw [if_neg (by omega), if_neg (by omega)]]
          clear heq hby ry
          gi_wp2_with fail
          have cbx : V1.cell? ⟨pa, 0, none⟩ = some (.slice (some ⟨g1, o1, none⟩) n1 c1) := by rw [cell_of_row _ _ _ _ _ _ hbx]; rfl
          have tl := run_tailI g1 o1 n1 c1 (by omega)
          refine wpIn_wide.2 ?_
          refine wp_region_heldT 6 (S := fun w' => w'.cell? ⟨pa, 0, none⟩ = some (.slice (some ⟨g1, o1, none⟩) n1 c1) ∧ w'.cell? ⟨g1, o1, none⟩ = some (.int .i64 x)) (by kernel_rfl) ⟨cbx, rx⟩ (fun hHeld => ?_)
          obtain ⟨Vx, hV⟩ : ∃ V, V = V1.drew := ⟨_, rfl⟩
          have MVx : Seal (MZI pa pb pc tc rd Wk (x :: l2) (y :: r2) Vx ∧ Vx.heap[pa]? = some (.cells #[.slice (some ⟨g1, o1, none⟩) n1 c1] 23 (0, 0))) := ⟨by rw [hV]; exact ⟨MB.out.same HR.out (fun _ _ => rfl) (Nat.le_refl _) ⟨rfl, rfl, rfl⟩, hbx⟩⟩
          rw [← hV] at hHeld ⊢
          clear hV cbx hbx rx
          refine take_t 0 ?_ rfl (by kernel_rfl) (by kernel_rfl) (by kernel_rfl) (by kernel_rfl) (fun _ _ _ h => h) (Or.inl ⟨by kernel_rfl, ?_⟩) (by assumption) ?_
          rotate_left
          · (intro w hSw; (try dsimp only at hSw); go_simp; try (with_reducible rfl))
          try simp only [Act.put, List.setIfInBounds_toArray, List.set_cons_zero, List.set_cons_succ]
          refine take_t 1 ?_ rfl (by kernel_rfl) (by kernel_rfl) (by kernel_rfl) (by kernel_rfl) (fun _ _ _ h => h) (Or.inl ⟨by kernel_rfl, ?_⟩) (by assumption) ?_
          rotate_left
          · (intro w hSw; (try dsimp only at hSw); go_simp; try (with_reducible rfl))
          try simp only [Act.put, List.setIfInBounds_toArray, List.set_cons_zero, List.set_cons_succ]
          refine take_t 2 ?_ rfl (by kernel_rfl) (by kernel_rfl) (by kernel_rfl) (by kernel_rfl) (fun _ _ _ h => h) (Or.inl ⟨by kernel_rfl, ?_⟩) (by assumption) ?_
          rotate_left
          · (intro w hSw; (try dsimp only at hSw); go_simp; try (with_reducible rfl))
          try simp only [Act.put, List.setIfInBounds_toArray, List.set_cons_zero, List.set_cons_succ]
          refine take_t 3 ?_ rfl (by kernel_rfl) (by kernel_rfl) (by kernel_rfl) (by kernel_rfl) (fun _ _ _ h => h) (Or.inl ⟨by kernel_rfl, ?_⟩) (by assumption) ?_
          rotate_left
          · (intro w hSw; (try dsimp only at hSw); go_simp; try (with_reducible rfl))
          try simp only [Act.put, List.setIfInBounds_toArray, List.set_cons_zero, List.set_cons_succ]
          refine take_t 4 (.slice (tailA g1 o1 1 c1) (n1 - 1) (c1 - 1)) rfl (by kernel_rfl) (by kernel_rfl) (by kernel_rfl) (by kernel_rfl) (fun _ _ _ h => h) (Or.inl ⟨by kernel_rfl, fun w _ => exec_slice 23 (.tmp 32) _ rfl (.slice (some ⟨g1, o1, none⟩) n1 c1) (.int .i64 1) _ rfl rfl (tl w)⟩) (by assumption) ?_
          try simp only [Act.put, List.setIfInBounds_toArray, List.set_cons_zero, List.set_cons_succ]
          refine take_t 5 ?_ rfl (by kernel_rfl) (by kernel_rfl) (by kernel_rfl) (by kernel_rfl) (fun _ _ _ h => h) (Or.inl ⟨by kernel_rfl, ?_⟩) (by assumption) ?_
          rotate_left
          · (intro w hSw; (try dsimp only at hSw); go_simp; try (with_reducible rfl))
          try simp only [Act.put, List.setIfInBounds_toArray, List.set_cons_zero, List.set_cons_succ]
          have cbu : Vx.cell? ⟨pa, 0, none⟩ = some (.slice (some ⟨g1, o1, none⟩) n1 c1) := hHeld.1
          have fbu : Vx.frozen? ⟨pa, 0, none⟩ = false := frozen_of_row _ _ _ _ _ MVx.out.2
          clear hHeld
          refine last_t (Vx.setCell ⟨pa, 0, none⟩ (.slice (tailA g1 o1 1 c1) (n1 - 1) (c1 - 1))) rfl (by kernel_rfl) (by kernel_rfl) (by kernel_rfl) (by go_simp) ?_
          try simp only [Act.put]
          obtain ⟨Yx, hYY⟩ : ∃ U, U = Vx.setCell ⟨pa, 0, none⟩ (.slice (tailA g1 o1 1 c1) (n1 - 1) (c1 - 1)) := ⟨_, rfl⟩
          have MYx : Seal (MZI pa pb pc tc rd Wk l2 (y :: r2) Yx) := ⟨by
            rw [hYY]
            exact MVx.out.1.popA HR.out MVx.out.2⟩
          rw [← hYY]
          clear hYY cbu fbu tl MVx
          clear MB
          obtain ⟨g3, o3, n3, c3, hby, ry, hn3, hm3, hc3, hd3, hcm3⟩ := MYx.out.bb.headI
          have MZ2 := Seal.mk MYx.out
          have hn4 : 1 ≤ n3 := by omega
          have q8 : 0 < n3 := by omega
          have q9 : (0 : Int) < (n3 : Int) := by omega
          clear hd3 MYx hn3
          gi_wp2_with fail
          have cbx : Yx.cell? ⟨pb, 0, none⟩ = some (.slice (some ⟨g3, o3, none⟩) n3 c3) := by rw [cell_of_row _ _ _ _ _ _ hby]; rfl
          have tl := run_tailI g3 o3 n3 c3 (by omega)
          refine wpIn_wide.2 ?_
          refine wp_region_heldT 6 (S := fun w' => w'.cell? ⟨pb, 0, none⟩ = some (.slice (some ⟨g3, o3, none⟩) n3 c3) ∧ w'.cell? ⟨g3, o3, none⟩ = some (.int .i64 y)) (by kernel_rfl) ⟨cbx, ry⟩ (fun hHeld => ?_)
          obtain ⟨Vy, hV⟩ : ∃ V, V = Yx.drew := ⟨_, rfl⟩
          have MVy : Seal (MZI pa pb pc tc rd Wk l2 (y :: r2) Vy ∧ Vy.heap[pb]? = some (.cells #[.slice (some ⟨g3, o3, none⟩) n3 c3] 23 (0, 0))) := ⟨by rw [hV]; exact ⟨MZ2.out.same HR.out (fun _ _ => rfl) (Nat.le_refl _) ⟨rfl, rfl, rfl⟩, hby⟩⟩
          rw [← hV] at hHeld ⊢
          clear hV cbx hby ry
          refine take_t 0 ?_ rfl (by kernel_rfl) (by kernel_rfl) (by kernel_rfl) (by kernel_rfl) (fun _ _ _ h => h) (Or.inl ⟨by kernel_rfl, ?_⟩) (by assumption) ?_
          rotate_left
          · (intro w hSw; (try dsimp only at hSw); go_simp; try (with_reducible rfl))
          try simp only [Act.put, List.setIfInBounds_toArray, List.set_cons_zero, List.set_cons_succ]
          refine take_t 1 ?_ rfl (by kernel_rfl) (by kernel_rfl) (by kernel_rfl) (by kernel_rfl) (fun _ _ _ h => h) (Or.inl ⟨by kernel_rfl, ?_⟩) (by assumption) ?_
          rotate_left
          · (intro w hSw; (try dsimp only at hSw); go_simp; try (with_reducible rfl))
          try simp only [Act.put, List.setIfInBounds_toArray, List.set_cons_zero, List.set_cons_succ]
          refine take_t 2 ?_ rfl (by kernel_rfl) (by kernel_rfl) (by kernel_rfl) (by kernel_rfl) (fun _ _ _ h => h) (Or.inl ⟨by kernel_rfl, ?_⟩) (by assumption) ?_
          rotate_left
          · (intro w hSw; (try dsimp only at hSw); go_simp; try (with_reducible rfl))
          try simp only [Act.put, List.setIfInBounds_toArray, List.set_cons_zero, List.set_cons_succ]
          refine take_t 3 ?_ rfl (by kernel_rfl) (by kernel_rfl) (by kernel_rfl) (by kernel_rfl) (fun _ _ _ h => h) (Or.inl ⟨by kernel_rfl, ?_⟩) (by assumption) ?_
          rotate_left
          · (intro w hSw; (try dsimp only at hSw); go_simp; try (with_reducible rfl))
          try simp only [Act.put, List.setIfInBounds_toArray, List.set_cons_zero, List.set_cons_succ]
          refine take_t 4 (.slice (tailA g3 o3 1 c3) (n3 - 1) (c3 - 1)) rfl (by kernel_rfl) (by kernel_rfl) (by kernel_rfl) (by kernel_rfl) (fun _ _ _ h => h) (Or.inl ⟨by kernel_rfl, fun w _ => exec_slice 23 (.tmp 39) _ rfl (.slice (some ⟨g3, o3, none⟩) n3 c3) (.int .i64 1) _ rfl rfl (tl w)⟩) (by assumption) ?_
          try simp only [Act.put, List.setIfInBounds_toArray, List.set_cons_zero, List.set_cons_succ]
          refine take_t 5 ?_ rfl (by kernel_rfl) (by kernel_rfl) (by kernel_rfl) (by kernel_rfl) (fun _ _ _ h => h) (Or.inl ⟨by kernel_rfl, ?_⟩) (by assumption) ?_
          rotate_left
          · (intro w hSw; (try dsimp only at hSw); go_simp; try (with_reducible rfl))
          try simp only [Act.put, List.setIfInBounds_toArray, List.set_cons_zero, List.set_cons_succ]
          have cbu : Vy.cell? ⟨pb, 0, none⟩ = some (.slice (some ⟨g3, o3, none⟩) n3 c3) := hHeld.1
          have fbu : Vy.frozen? ⟨pb, 0, none⟩ = false := frozen_of_row _ _ _ _ _ MVy.out.2
          clear hHeld
          refine last_t (Vy.setCell ⟨pb, 0, none⟩ (.slice (tailA g3 o3 1 c3) (n3 - 1) (c3 - 1))) rfl (by kernel_rfl) (by kernel_rfl) (by kernel_rfl) (by go_simp) ?_
          try simp only [Act.put]
          obtain ⟨Yy, hYY⟩ : ∃ U, U = Vy.setCell ⟨pb, 0, none⟩ (.slice (tailA g3 o3 1 c3) (n3 - 1) (c3 - 1)) := ⟨_, rfl⟩
          have MYy : Seal (MZI pa pb pc tc rd Wk l2 r2 Yy) := ⟨by
            rw [hYY]
            exact MVy.out.1.popB HR.out MVy.out.2⟩
          rw [← hYY]
          clear hYY cbu fbu tl MVy
          clear MZ2
          obtain ⟨xs, W0, j1, j2, j3, j4, j5⟩ := HJ.out
          obtain ⟨fn, tmps, asg, body, hy, hRR⟩ := HY.out xs y W0 Yy j3 (j4.trans MYy.out.kept) j5 trivial (by simp only [List.length_cons] at j2; omega)
          have hRR := Seal.mk hRR
          have HJ2 : Seal (mrgK idI l r = (xs ++ [y]) ++ mrgK idI l2 r2 ∧ xs.length + 1 + (l2).length + (r2).length ≤ l.length + r.length) := ⟨by rw [j1, HM.out]; simp, by simp only [List.length_cons] at j2 ⊢; omega⟩
          have HSZ : Seal (W.heap.size ≤ Yy.heap.size) := ⟨by have := j4.size; have := MYy.out.kept.size; omega⟩
          unfold encI at hy
          clear j1 j2 j3 j4 j5 HJ
          gi_wp2
          refine ⟨fun h => (by cases h), ?_⟩
          refine hRR.out.mono ?_
          rintro e W' ⟨rfl, hJ', hz', hk'⟩
          have HN : Seal (MZI pa pb pc tc rd W' l2 r2 W' ∧ MR pa pb pc rd W' ∧ W.heap.size ≤ W'.heap.size ∧ ∃ xs W0, mrgK idI l r = xs ++ mrgK idI l2 r2 ∧ xs.length + (l2).length + (r2).length ≤ l.length + r.length ∧ J xs W0 ∧ KeptBut (mineP pa pb) W0 W' ∧ W.heap.size ≤ W0.heap.size) := ⟨by
            have hm := MYy.out
            have hRk := HR.out
            have hsz := HSZ.out
            refine ⟨⟨hm.ba.same (hk' _ (.inl (.inl rfl))) (fun k hr _ => hk' k (.inr hr)) hz', hm.bb.same (hk' _ (.inl (.inr rfl))) (fun k hr _ => hk' k (.inr hr)) hz', (hk' _ (.inr hRk.rc)).trans hm.bc, KeptBut.refl _ _⟩, ⟨hRk.ab, hRk.ra, hRk.rb, hRk.rc, fun k hk => by have := hRk.lt k hk; have := hm.kept.size; omega⟩, by omega, xs ++ [y], W', HJ2.out.1, by rw [List.length_append, List.length_singleton]; exact HJ2.out.2, hJ', KeptBut.refl _ _, by omega⟩⟩
          clear hJ' hz' hk' hy hRR HSZ HJ2 MYy
          gi_wp2
          go_roundw
          case rel => exact ⟨l2, r2, HN⟩
          case measure =>
            rw [HN.out.1.ba.len, HN.out.1.bb.len, HLEN.out.1, HLEN.out.2]
            (try simp only [List.length_cons]); omega
        · have HM : Seal (mrgK idI (x :: l2) (y :: r2) = [y] ++ mrgK idI (x :: l2) r2) := ⟨by rw [mrgK, if_neg (show ¬ idI x < idI y from by unfold idI; omega), if_pos (show idI y < idI x from hgt)]; rfl⟩
          rw [show cmpZ x y = 1 from by unfold cmpZ; rw [if_neg (by omega), if_pos hgt]]
          clear hgt hbx rx
          gi_wp2_with fail
          have cbx : V1.cell? ⟨pb, 0, none⟩ = some (.slice (some ⟨g2, o2, none⟩) n2 c2) := by rw [cell_of_row _ _ _ _ _ _ hby]; rfl
          have tl := run_tailI g2 o2 n2 c2 (by omega)
          refine wpIn_wide.2 ?_
          refine wp_region_heldT 6 (S := fun w' => w'.cell? ⟨pb, 0, none⟩ = some (.slice (some ⟨g2, o2, none⟩) n2 c2) ∧ w'.cell? ⟨g2, o2, none⟩ = some (.int .i64 y)) (by kernel_rfl) ⟨cbx, ry⟩ (fun hHeld => ?_)
          obtain ⟨Vy, hV⟩ : ∃ V, V = V1.drew := ⟨_, rfl⟩
          have MVy : Seal (MZI pa pb pc tc rd Wk (x :: l2) (y :: r2) Vy ∧ Vy.heap[pb]? = some (.cells #[.slice (some ⟨g2, o2, none⟩) n2 c2] 23 (0, 0))) := ⟨by rw [hV]; exact ⟨MB.out.same HR.out (fun _ _ => rfl) (Nat.le_refl _) ⟨rfl, rfl, rfl⟩, hby⟩⟩
          rw [← hV] at hHeld ⊢
          clear hV cbx hby ry
          refine take_t 0 ?_ rfl (by kernel_rfl) (by kernel_rfl) (by kernel_rfl) (by kernel_rfl) (fun _ _ _ h => h) (Or.inl ⟨by kernel_rfl, ?_⟩) (by assumption) ?_
          rotate_left
          · (intro w hSw; (try dsimp only at hSw); go_simp; try (with_reducible rfl))
          try simp only [Act.put, List.setIfInBounds_toArray, List.set_cons_zero, List.set_cons_succ]
          refine take_t 1 ?_ rfl (by kernel_rfl) (by kernel_rfl) (by kernel_rfl) (by kernel_rfl) (fun _ _ _ h => h) (Or.inl ⟨by kernel_rfl, ?_⟩) (by assumption) ?_
          rotate_left
          · (intro w hSw; (try dsimp only at hSw); go_simp; try (with_reducible rfl))
          try simp only [Act.put, List.setIfInBounds_toArray, List.set_cons_zero, List.set_cons_succ]
          refine take_t 2 ?_ rfl (by kernel_rfl) (by kernel_rfl) (by kernel_rfl) (by kernel_rfl) (fun _ _ _ h => h) (Or.inl ⟨by kernel_rfl, ?_⟩) (by assumption) ?_
          rotate_left
          · (intro w hSw; (try dsimp only at hSw); go_simp; try (with_reducible rfl))
          try simp only [Act.put, List.setIfInBounds_toArray, List.set_cons_zero, List.set_cons_succ]
          refine take_t 3 ?_ rfl (by kernel_rfl) (by kernel_rfl) (by kernel_rfl) (by kernel_rfl) (fun _ _ _ h => h) (Or.inl ⟨by kernel_rfl, ?_⟩) (by assumption) ?_
          rotate_left
          · (intro w hSw; (try dsimp only at hSw); go_simp; try (with_reducible rfl))
          try simp only [Act.put, List.setIfInBounds_toArray, List.set_cons_zero, List.set_cons_succ]
          refine take_t 4 (.slice (tailA g2 o2 1 c2) (n2 - 1) (c2 - 1)) rfl (by kernel_rfl) (by kernel_rfl) (by kernel_rfl) (by kernel_rfl) (fun _ _ _ h => h) (Or.inl ⟨by kernel_rfl, fun w _ => exec_slice 23 (.tmp 39) _ rfl (.slice (some ⟨g2, o2, none⟩) n2 c2) (.int .i64 1) _ rfl rfl (tl w)⟩) (by assumption) ?_
          try simp only [Act.put, List.setIfInBounds_toArray, List.set_cons_zero, List.set_cons_succ]
          refine take_t 5 ?_ rfl (by kernel_rfl) (by kernel_rfl) (by kernel_rfl) (by kernel_rfl) (fun _ _ _ h => h) (Or.inl ⟨by kernel_rfl, ?_⟩) (by assumption) ?_
          rotate_left
          · (intro w hSw; (try dsimp only at hSw); go_simp; try (with_reducible rfl))
          try simp only [Act.put, List.setIfInBounds_toArray, List.set_cons_zero, List.set_cons_succ]
          have cbu : Vy.cell? ⟨pb, 0, none⟩ = some (.slice (some ⟨g2, o2, none⟩) n2 c2) := hHeld.1
          have fbu : Vy.frozen? ⟨pb, 0, none⟩ = false := frozen_of_row _ _ _ _ _ MVy.out.2
          clear hHeld
          refine last_t (Vy.setCell ⟨pb, 0, none⟩ (.slice (tailA g2 o2 1 c2) (n2 - 1) (c2 - 1))) rfl (by kernel_rfl) (by kernel_rfl) (by kernel_rfl) (by go_simp) ?_
          try simp only [Act.put]
          obtain ⟨Yy, hYY⟩ : ∃ U, U = Vy.setCell ⟨pb, 0, none⟩ (.slice (tailA g2 o2 1 c2) (n2 - 1) (c2 - 1)) := ⟨_, rfl⟩
          have MYy : Seal (MZI pa pb pc tc rd Wk (x :: l2) r2 Yy) := ⟨by
            rw [hYY]
            exact MVy.out.1.popB HR.out MVy.out.2⟩
          rw [← hYY]
          clear hYY cbu fbu tl MVy
          clear MB
          obtain ⟨xs, W0, j1, j2, j3, j4, j5⟩ := HJ.out
          obtain ⟨fn, tmps, asg, body, hy, hRR⟩ := HY.out xs y W0 Yy j3 (j4.trans MYy.out.kept) j5 trivial (by simp only [List.length_cons] at j2; omega)
          have hRR := Seal.mk hRR
          have HJ2 : Seal (mrgK idI l r = (xs ++ [y]) ++ mrgK idI (x :: l2) r2 ∧ xs.length + 1 + ((x :: l2)).length + (r2).length ≤ l.length + r.length) := ⟨by rw [j1, HM.out]; simp, by simp only [List.length_cons] at j2 ⊢; omega⟩
          have HSZ : Seal (W.heap.size ≤ Yy.heap.size) := ⟨by have := j4.size; have := MYy.out.kept.size; omega⟩
          unfold encI at hy
          clear j1 j2 j3 j4 j5 HJ
          gi_wp2
          refine ⟨fun h => (by cases h), ?_⟩
          refine hRR.out.mono ?_
          rintro e W' ⟨rfl, hJ', hz', hk'⟩
          have HN : Seal (MZI pa pb pc tc rd W' (x :: l2) r2 W' ∧ MR pa pb pc rd W' ∧ W.heap.size ≤ W'.heap.size ∧ ∃ xs W0, mrgK idI l r = xs ++ mrgK idI (x :: l2) r2 ∧ xs.length + ((x :: l2)).length + (r2).length ≤ l.length + r.length ∧ J xs W0 ∧ KeptBut (mineP pa pb) W0 W' ∧ W.heap.size ≤ W0.heap.size) := ⟨by
            have hm := MYy.out
            have hRk := HR.out
            have hsz := HSZ.out
            refine ⟨⟨hm.ba.same (hk' _ (.inl (.inl rfl))) (fun k hr _ => hk' k (.inr hr)) hz', hm.bb.same (hk' _ (.inl (.inr rfl))) (fun k hr _ => hk' k (.inr hr)) hz', (hk' _ (.inr hRk.rc)).trans hm.bc, KeptBut.refl _ _⟩, ⟨hRk.ab, hRk.ra, hRk.rb, hRk.rc, fun k hk => by have := hRk.lt k hk; have := hm.kept.size; omega⟩, by omega, xs ++ [y], W', HJ2.out.1, by rw [List.length_append, List.length_singleton]; exact HJ2.out.2, hJ', KeptBut.refl _ _, by omega⟩⟩
          clear hJ' hz' hk' hy hRR HSZ HJ2 MYy
          gi_wp2
          go_roundw
          case rel => exact ⟨x :: l2, r2, HN⟩
          case measure =>
            rw [HN.out.1.ba.len, HN.out.1.bb.len, HLEN.out.1, HLEN.out.2]
            (try simp only [List.length_cons]); omega
end Frk
