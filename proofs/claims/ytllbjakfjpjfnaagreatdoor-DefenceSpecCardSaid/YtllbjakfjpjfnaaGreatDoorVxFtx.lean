/- Law 57: defence.text (printed by genftx.py out of Haa's walk of handover.text). -/
import Derived.Test.YtllbjakfjpjfnaaGreatDoorVxHaa
namespace Frk
open Go Go.RowKit Go.Proofs
set_option maxRecDepth 100000

theorem slice_words (g : Nat) (w : World) : (Instr.sliceAt 30 (.pointer (some ⟨g, 0, none⟩)) none none none).run Tryz.prog w = .ok (.slice (some ⟨g, 0, none⟩) 3 3) w := by kernel_rfl
/-- the integers behind which the loop stands -/
def FtxRel (B g off k : Nat) (ns : List Int) (ls : List Lf) (w0 : World) (i : Value) (w : World) : Prop :=
  ∃ (j : Nat) (v : Value), j ≤ k ∧ i = .int .i64 j ∧ Seal (VL B w0 (ls ++ lfs (ns.take j)) v w ∧ B < w.heap.size) ∧ Seal (v.ownBlock ≠ some g ∧ g < w.heap.size ∧ ∀ j n, ns[j]? = some n → w.cell? ⟨g, off + j, none⟩ = some (.int .i64 n))


set_option maxHeartbeats 2000000 in
theorem ftext1_any (g off k cap B : Nat) (ns : List Int) (ls : List Lf) (w0 w : World) (v0 : Value) (hk : ns.length = k) (hk9 : ls.length + k ≤ 1000) (hV : VL B w0 ls v0 w) (hB : B < w.heap.size)
    (hg : v0.ownBlock ≠ some g ∧ g < w.heap.size ∧ ∀ j n, ns[j]? = some n → w.cell? ⟨g, off + j, none⟩ = some (.int .i64 n)) (hgB : g ≠ B) :
    Calls Tryz.prog 57 #[.slice (some ⟨g, off, none⟩) k cap, .pointer (some ⟨B, 0, none⟩)] w fun e w' => e = .returned (.tuple #[]) ∧ ∃ v, Seal (VL B w0 (ls ++ lfs ns) v w' ∧ B < w'.heap.size) := by
  have HK := Seal.mk hk
  obtain ⟨i0, hi, hz0, hz1, hz2⟩ := info_parts info_val
  have HI := Seal.mk (And.intro hi (And.intro hz0 (And.intro hz1 hz2)))
  have H0 : Seal (VL B w0 (ls ++ lfs (ns.take 0)) v0 w ∧ B < w.heap.size) := ⟨by simpa [lfs] using hV, hB⟩
  have HG0 := Seal.mk hg
  have HGB := Seal.mk hgB
  clear hk hi hz0 hz1 hz2 hV hB hg hgB
  go_enter Tryz.func57, Tryz.ntmps57
  go_wp2
  go_loopw [7] (fun i wr => FtxRel B g off k ns ls w0 i wr) (fun i _ => k - (intOf i).toNat)
  case atStart => exact ⟨0, v0, Nat.zero_le _, rfl, H0, HG0⟩
  case round =>
    obtain ⟨j, v, hj, rfl, HV, HG⟩ := hrel
    by_cases hlt : j < k
    · obtain ⟨n, hn⟩ : ∃ n, ns[j]? = some n := ⟨_, List.getElem?_eq_getElem (by rw [HK.out]; exact hlt)⟩
      have hcx := HG.out.2.2 j n hn
      have q1 : (j : Int) < (k : Int) := by omega
      have q2 : (0 : Int) ≤ (j : Int) := by omega
      obtain ⟨m, hm⟩ : ∃ m, m = ls ++ lfs (ns.take j) := ⟨_, rfl⟩
      have HT : Seal (ls ++ lfs (ns.take (j + 1)) = m ++ [.i n]) := ⟨by
        rw [hm, List.take_add_one, hn]
        simp [lfs]⟩
      have HM : Seal (m.length = ls.length + j) := ⟨by rw [hm]; simp [lfs, HK.out]; omega⟩
      rw [← hm] at HV
      clear hm hn
      obtain ⟨a0, c0, rfl⟩ := HV.out.1.form
      have cV : wr.cell? ⟨B, 3, none⟩ = some (.slice a0 (m).length c0) := by rw [cell_of_row _ _ _ _ _ _ HV.out.1.row]; rfl
      go_upto_region 3 with (fail)
      have HVd : Seal (VL B w0 m (.slice a0 m.length c0) wr.drew ∧ B < wr.drew.heap.size) := ⟨HV.out.1.drew, HV.out.2⟩
      have HBd : Seal (g < wr.drew.heap.size ∧ ∀ j n, ns[j]? = some n → wr.drew.cell? ⟨g, off + j, none⟩ = some (.int .i64 n)) := ⟨HG.out.2⟩
      refine wp_region_heldU 6 (S := fun w' => w'.cell? ⟨B, 3, none⟩ = some (.slice a0 m.length c0)) (by kernel_rfl) cV (fun hHeld => ?_)
      clear hcx cV HV
      refine take_u 0 ?_ rfl (by kernel_rfl) (by kernel_rfl) (by kernel_rfl) (by kernel_rfl) (by kernel_rfl) (fun _ _ _ h => h) (Or.inl ⟨by kernel_rfl, ?_⟩) (by assumption) ?_
      rotate_left
      · (intro w hSw; (try dsimp only at hSw); go_simp; try (with_reducible rfl))
      try simp only [Act.put, List.setIfInBounds_toArray, List.set_cons_zero, List.set_cons_succ]
      refine take_u 1 ?_ rfl (by kernel_rfl) (by kernel_rfl) (by kernel_rfl) (by kernel_rfl) (by kernel_rfl) (fun _ _ _ h => h) (Or.inl ⟨by kernel_rfl, ?_⟩) (by assumption) ?_
      rotate_left
      · (intro w hSw; (try dsimp only at hSw); go_simp; try (with_reducible rfl))
      try simp only [Act.put, List.setIfInBounds_toArray, List.set_cons_zero, List.set_cons_succ]
      refine take_u 2 ?_ rfl (by kernel_rfl) (by kernel_rfl) (by kernel_rfl) (by kernel_rfl) (by kernel_rfl) (fun _ _ _ h => h) (Or.inl ⟨by kernel_rfl, ?_⟩) (by assumption) ?_
      rotate_left
      · (intro w hSw; (try dsimp only at hSw); go_simp; try (with_reducible rfl))
      try simp only [Act.put, List.setIfInBounds_toArray, List.set_cons_zero, List.set_cons_succ]
      refine take_u 3 ?_ rfl (by kernel_rfl) (by kernel_rfl) (by kernel_rfl) (by kernel_rfl) (by kernel_rfl) (fun _ _ _ h => h) (Or.inl ⟨by kernel_rfl, ?_⟩) (by assumption) ?_
      rotate_left
      · (intro w hSw; (try dsimp only at hSw); go_simp; try (with_reducible rfl))
      try simp only [Act.put, List.setIfInBounds_toArray, List.set_cons_zero, List.set_cons_succ]
      refine take_u 4 ?_ rfl (by kernel_rfl) (by kernel_rfl) (by kernel_rfl) (by kernel_rfl) (by kernel_rfl) (fun _ _ _ h => h) (Or.inl ⟨by kernel_rfl, ?_⟩) (by assumption) ?_
      rotate_left
      · (intro w hSw; (try dsimp only at hSw); go_simp; try (with_reducible rfl))
      try simp only [Act.put, List.setIfInBounds_toArray, List.set_cons_zero, List.set_cons_succ]
      obtain ⟨V, hV⟩ : ∃ V, V = wr.drew := ⟨_, rfl⟩
      rw [← hV] at hHeld HVd HBd ⊢
      clear hV
      refine oper_u 5 (.slice (some ⟨V.heap.size, 0, none⟩) 1 1) (V.alloc (.cells #[.int .i64 0, .int .i64 0, .string ByteArray.empty, .slice none 0 0] 51)) rfl (by kernel_rfl) (by kernel_rfl) (by go_simp; rfl) (fun _ => cell_allocd hHeld _) ?_
      try simp only [Act.put, List.setIfInBounds_toArray, List.set_cons_zero, List.set_cons_succ]
      obtain ⟨g1, cap1, w1, hrun, hown1, hgrow1, hat, hlt1⟩ := run_append_lies (P := Tryz.prog) (w := V.alloc (.cells #[.int .i64 0, .int .i64 0, .string ByteArray.empty, .slice none 0 0] 51)) 49 49 (B + 1) 51 i0 _ 4 56 Tryz.underlying49 HI.out.1 HI.out.2.1 HI.out.2.2.1 HI.out.2.2.2 rfl (by decide) (.slice a0 m.length c0) m.length (lcs m) (HVd.out.1.own.alloc _) ⟨V.heap.size, 0, none⟩ 1 1 [.int .i64 0, .int .i64 0, .string ByteArray.empty, .slice none 0 0] rfl (World.news_of_block (heap_alloc_new V _)) (by simp [Value.oneCell']) (by decide) (by unfold maxLen; have := HM.out; omega) (by have := HM.out; omega) (by have := HVd.out.2; simp; omega) _ rfl
      refine oper_u 6 (.slice (some ⟨g1, 0, none⟩) (m.length + 1) cap1) w1 rfl (by kernel_rfl) (by kernel_rfl) (exec_append (.tmp 12) (.tmp 16) 49 49 rfl _ _ _ rfl rfl (fun ty => hrun)) (fun h => absurd (h.symm.trans (by kernel_rfl : _ = true)) (by decide)) ?_
      try simp only [Act.put, List.setIfInBounds_toArray, List.set_cons_zero, List.set_cons_succ]
      obtain ⟨⟨z0, z1, z2, z3⟩, fz⟩ := own_cells hown1 (lcs_len m)
      have HN := VL.next (x := .i n) HVd.out.1 HVd.out.2 hgrow1 hown1 rfl
      have q5 : ((m.length : Int) < (m.length : Int) + 1) := by omega
      have q6 : 0 ≤ (m.length : Int) := by omega
      have hgB1 : B + 1 ≤ g1 := (hown1.lt g1 rfl).1
      have hr1 : w1.heap[B]? = some (.cells #[.int .i64 3, .int .i64 0, .string ByteArray.empty, .slice a0 m.length c0] 51 (0, 0)) := (hgrow1.block _ (by have := HVd.out.2; rw [size_alloc]; omega) HVd.out.1.ne).trans ((Below.heap_alloc V _ _ HVd.out.2).trans HVd.out.1.row)
      have x1 : w1.cell? ⟨B, 3, none⟩ = some (.slice a0 m.length c0) := by rw [cell_of_row _ _ _ _ _ _ hr1]; rfl
      have f1 : w1.frozen? ⟨B, 3, none⟩ = false := frozen_of_row _ _ _ _ _ hr1
      have hgn : g1 ≠ g := fun e => by
        rcases hat with h | h
        · exact HG.out.1 (by rw [h, e])
        · have := HBd.out.1; rw [size_alloc] at h; omega
      have HX : Seal (∀ W : World, (∀ j, j ≠ g1 → j ≠ B → W.heap[j]? = w1.heap[j]?) → (Value.slice (some ⟨g1, 0, none⟩) (m.length + 1) cap1).ownBlock ≠ some g ∧ g < W.heap.size ∧ ∀ j n, ns[j]? = some n → W.cell? ⟨g, off + j, none⟩ = some (.int .i64 n)) := ⟨fun W hW => by
        have h1 : W.heap[g]? = V.heap[g]? := (hW g (Ne.symm hgn) HGB.out).trans ((hgrow1.block g (by rw [size_alloc]; have := HBd.out.1; omega) (fun e => HG.out.1 e.symm)).trans (Below.heap_alloc V _ _ HBd.out.1))
        refine ⟨fun e => hgn (by simpa [Value.ownBlock] using e), ?_, fun j n hn => (World.cell?_of_block (w := V) h1).trans (HBd.out.2 j n hn)⟩
        rw [Array.getElem?_eq_getElem HBd.out.1] at h1
        exact (Array.getElem?_eq_some_iff.1 h1).1⟩
      have hTr : True := trivial
      refine anyU_of_H (S' := fun _ => True) _ _ _ _ (by kernel_rfl) ?_
      refine take_h 7 ?_ rfl (by kernel_rfl) (by kernel_rfl) (by kernel_rfl) (fun _ _ _ h => h) (Or.inl ⟨by kernel_rfl, ?_⟩) (by assumption) ?_
      rotate_left
      · (intro w hSw; (try dsimp only at hSw); go_simp; try (with_reducible rfl))
      try simp only [Act.put, List.setIfInBounds_toArray, List.set_cons_zero, List.set_cons_succ]
      refine take_h 9 ?_ rfl (by kernel_rfl) (by kernel_rfl) (by kernel_rfl) (fun _ _ _ h => h) (Or.inl ⟨by kernel_rfl, ?_⟩) (by assumption) ?_
      rotate_left
      · (intro w hSw; (try dsimp only at hSw); go_simp; try (with_reducible rfl))
      try simp only [Act.put, List.setIfInBounds_toArray, List.set_cons_zero, List.set_cons_succ]
      refine wpAnyH_ready (rs := [8, 10]) (by kernel_rfl) (by simp) ?_
      refine skip_b 8 (set4 w1 g1 (m.length * 4) (.int .i64 1) (.int .i64 n) (.string ByteArray.empty) (.slice none 0 0)) rfl (by kernel_rfl) (by unfold set4; go_simp; rfl) trivial (fun _ => ?_) (skip_b 10 (w1.setCell ⟨B, 3, none⟩ (.slice (some ⟨g1, 0, none⟩) (m.length + 1) cap1)) rfl (by kernel_rfl) (by go_simp) trivial (fun _ => ?_) AllReadyH.nil)
      · obtain ⟨W, hW⟩ : ∃ W, W = set4 w1 g1 (m.length * 4) (.int .i64 1) (.int .i64 n) (.string ByteArray.empty) (.slice none 0 0) := ⟨_, rfl⟩
        have hr2 : W.heap[B]? = some (.cells #[.int .i64 3, .int .i64 0, .string ByteArray.empty, .slice a0 m.length c0] 51 (0, 0)) := by rw [hW]; exact (set4_block w1 g1 _ B _ _ _ _ (by omega)).trans hr1
        have x2 : W.cell? ⟨B, 3, none⟩ = some (.slice a0 m.length c0) := by rw [cell_of_row _ _ _ _ _ _ hr2]; rfl
        have f2 : W.frozen? ⟨B, 3, none⟩ = false := frozen_of_row _ _ _ _ _ hr2
        have HN1 : Seal (VL B w0 (ls ++ lfs (ns.take (j + 1))) (.slice (some ⟨g1, 0, none⟩) (m.length + 1) cap1) (W.setCell ⟨B, 3, none⟩ (.slice (some ⟨g1, 0, none⟩) (m.length + 1) cap1))) := ⟨by rw [HT.out, hW]; exact HN.1⟩
        have HX1 := Seal.mk (HX.out (W.setCell ⟨B, 3, none⟩ (.slice (some ⟨g1, 0, none⟩) (m.length + 1) cap1)) (fun j h1 h2 => by rw [hW]; exact (Below.heap_setCell _ _ _ j h2).trans (set4_block w1 g1 _ j _ _ _ _ h1)))
        rw [← hW]
        clear hW x1 f1 z0 z1 z2 z3 fz HN hr1 hr2 HX hHeld HVd HBd hown1 hgrow1 hrun hat
        refine skip_h 10 (W.setCell ⟨B, 3, none⟩ (.slice (some ⟨g1, 0, none⟩) (m.length + 1) cap1)) rfl (by kernel_rfl) (by kernel_rfl) (by go_simp) trivial (fun _ => ?_)
        try simp only [Act.put]
        try simp only [List.setIfInBounds_toArray, List.set_cons_zero, List.set_cons_succ]
        refine wpAnyH_done (by kernel_rfl) ?_ _
        clear x2 f2
        go_wp2
        refine ⟨⟨j + 1, _, by omega, rfl, ⟨HN1.out, (Array.getElem?_eq_some_iff.1 HN1.out.row).1⟩, HX1⟩, ?_⟩
        simp only [intOf]; omega
      · obtain ⟨W, hW⟩ : ∃ W, W = w1.setCell ⟨B, 3, none⟩ (.slice (some ⟨g1, 0, none⟩) (m.length + 1) cap1) := ⟨_, rfl⟩
        have hot : ∀ j, j ≠ B → W.heap[j]? = w1.heap[j]? := fun j h => by rw [hW]; exact Below.heap_setCell _ _ _ j h
        have hcl : ∀ i, W.cell? ⟨g1, i, none⟩ = w1.cell? ⟨g1, i, none⟩ := fun i => World.cell?_of_block (w := w1) (hot g1 (by omega))
        have y0 := (hcl _).trans z0
        have y1 := (hcl _).trans z1
        have y2 := (hcl _).trans z2
        have y3 := (hcl _).trans z3
        have fy : ∀ i, W.frozen? ⟨g1, i, none⟩ = false := fun i => by
          have h1 := fz i
          unfold World.frozen? at h1 ⊢
          simp only [hot g1 (by omega)] at h1 ⊢
          exact h1
        have HN2 : Seal (VL B w0 (ls ++ lfs (ns.take (j + 1))) (.slice (some ⟨g1, 0, none⟩) (m.length + 1) cap1) (set4 W g1 (m.length * 4) (.int .i64 1) (.int .i64 n) (.string ByteArray.empty) (.slice none 0 0))) := ⟨by rw [HT.out, hW]; exact HN.2⟩
        have HX2 := Seal.mk (HX.out (set4 W g1 (m.length * 4) (.int .i64 1) (.int .i64 n) (.string ByteArray.empty) (.slice none 0 0)) (fun j h1 h2 => (set4_block W g1 _ j _ _ _ _ h1).trans (hot j h2)))
        rw [← hW]
        clear hW x1 f1 z0 z1 z2 z3 fz HN hr1 HX hHeld HVd HBd hown1 hgrow1 hrun hat hot hcl
        refine skip_h 8 (set4 W g1 (m.length * 4) (.int .i64 1) (.int .i64 n) (.string ByteArray.empty) (.slice none 0 0)) rfl (by kernel_rfl) (by kernel_rfl) (by unfold set4; go_simp; rfl) trivial (fun _ => ?_)
        try simp only [Act.put]
        try simp only [List.setIfInBounds_toArray, List.set_cons_zero, List.set_cons_succ]
        refine wpAnyH_done (by kernel_rfl) ?_ _
        clear y0 y1 y2 y3 fy
        go_wp2
        refine ⟨⟨j + 1, _, by omega, rfl, ⟨HN2.out, (Array.getElem?_eq_some_iff.1 HN2.out.row).1⟩, HX2⟩, ?_⟩
        simp only [intOf]; omega
    · obtain rfl : j = k := by omega
      have q1 : ¬ ((j : Int) < (j : Int)) := by omega
      have HR : Seal (VL B w0 (ls ++ lfs ns) v wr ∧ B < wr.heap.size) := ⟨by rw [List.take_of_length_le (by rw [HK.out]; exact Nat.le_refl _)] at HV; exact HV.out⟩
      clear HV HG
      go_wp2
      exact ⟨rfl, .tuple #[], by simp [results, Tryz.results57, go_sem], rfl, v, HR⟩

/-- what text is called with -/
inductive FA where
  | i (n : Int)
  | r (a b c : Int)
  | w (a b c : Int)
  | t (T : Bytes)
def FA.val : FA → Value
  | .i n => .iface 3 (.int .i64 n)
  | .r a b c => .iface 26 (.agg #[.int .i64 a, .int .i64 b, .int .i64 c])
  | .w a b c => .iface 30 (.agg #[.int .i64 a, .int .i64 b, .int .i64 c])
  | .t T => .iface 42 (.agg (T.map B).toArray)
def FA.lfs : FA → List Lf
  | .i n => [.i n]
  | .r a b c => [.i a, .i b, .i c]
  | .w a b c => [.i a, .i b, .i c]
  | .t T => [.t T]
def FA.ok : FA → Prop
  | .t T => T.length = 32
  | _ => True

theorem fa_ii (v : Value) (W : World) : (Instr.typeAssert (.iface 3 v) 20 3 true).run Tryz.prog W = .ok (.tuple #[v, .bool true]) W := by kernel_rfl
theorem fa_ri (v : Value) (W : World) : (Instr.typeAssert (.iface 26 v) 20 3 true).run Tryz.prog W = .ok (.tuple #[.int .i64 0, .bool false]) W := by kernel_rfl
theorem fa_rr (v : Value) (W : World) : (Instr.typeAssert (.iface 26 v) 20 26 true).run Tryz.prog W = .ok (.tuple #[v, .bool true]) W := by kernel_rfl
theorem fa_ci (v : Value) (W : World) : (Instr.typeAssert (.iface 30 v) 20 3 true).run Tryz.prog W = .ok (.tuple #[.int .i64 0, .bool false]) W := by kernel_rfl
theorem fa_cr (v : Value) (W : World) : (Instr.typeAssert (.iface 30 v) 20 26 true).run Tryz.prog W = .ok (.tuple #[.agg #[.int .i64 0, .int .i64 0, .int .i64 0], .bool false]) W := by kernel_rfl
theorem fa_cc (v : Value) (W : World) : (Instr.typeAssert (.iface 30 v) 20 30 true).run Tryz.prog W = .ok (.tuple #[v, .bool true]) W := by kernel_rfl
theorem fa_ti (v : Value) (W : World) : (Instr.typeAssert (.iface 42 v) 20 3 true).run Tryz.prog W = .ok (.tuple #[.int .i64 0, .bool false]) W := by kernel_rfl
theorem fa_tr (v : Value) (W : World) : (Instr.typeAssert (.iface 42 v) 20 26 true).run Tryz.prog W = .ok (.tuple #[.agg #[.int .i64 0, .int .i64 0, .int .i64 0], .bool false]) W := by kernel_rfl
theorem fa_tc (v : Value) (W : World) : (Instr.typeAssert (.iface 42 v) 20 30 true).run Tryz.prog W = .ok (.tuple #[.agg #[.int .i64 0, .int .i64 0, .int .i64 0], .bool false]) W := by kernel_rfl
theorem fa_tt (v : Value) (W : World) : (Instr.typeAssert (.iface 42 v) 20 42 true).run Tryz.prog W = .ok (.tuple #[v, .bool true]) W := by kernel_rfl

/-- the numbers, laid out just now -/
theorem ftext1_new (k B H : Nat) (ns : List Int) (ls : List Lf) (w0 w : World) (v0 : Value) (hk : ns.length = k) (hk9 : ls.length + k ≤ 1000) (hV : VL B w0 ls v0 w) (hB : B < w.heap.size) (hH : w.heap.size = H) (cs : Array Value) (hcs : cs.toList = ns.map (Value.int .i64)) :
    Calls Tryz.prog 57 #[.slice (some ⟨H, 0, none⟩) k k, .pointer (some ⟨B, 0, none⟩)] (w.alloc (.cells cs 3)) fun e w' => e = .returned (.tuple #[]) ∧ ∃ v, Seal (VL B w0 (ls ++ lfs ns) v w' ∧ B < w'.heap.size) := by
  subst hH
  refine ftext1_any w.heap.size 0 k k B ns ls w0 _ v0 hk hk9 (hV.alloc hB _) (by rw [size_alloc]; omega) ⟨fun e => ?_, by rw [size_alloc]; omega, fun j n hn => ?_⟩ (by omega)
  · have := (hV.own.lt _ e).2; omega
  · rw [cell_of_row _ _ _ _ _ _ (heap_alloc_new w _), Nat.zero_add]
    rw [← Array.getElem?_toList, hcs, List.getElem?_map, hn]; rfl

def FtyRel (xs : List FA) (w0 : World) (i : Value) (w : World) : Prop :=
  ∃ (j : Nat) (v : Value), j ≤ xs.length ∧ i = .int .i64 j ∧ Seal (VL w0.heap.size w0 ((xs.take j).flatMap FA.lfs) v w ∧ w0.heap.size < w.heap.size)

set_option maxHeartbeats 4000000 in
theorem ftext_any (g off k cap : Nat) (xs : List FA) (w : World) (hk : xs.length = k) (hkm : k ≤ 1000) (hk0 : 0 < (xs.flatMap FA.lfs).length) (hk9 : (xs.flatMap FA.lfs).length ≤ 900) (hw : wgts (xs.flatMap FA.lfs) + 22 ≤ 140737488355328) (hc : ∀ j x, xs[j]? = some x → w.cell? ⟨g, off + j, none⟩ = some x.val) (hok : ∀ x ∈ xs, x.ok) (hfit : ∀ y ∈ xs.flatMap FA.lfs, y.fits) :
    Calls Tryz.prog 36 #[.slice (some ⟨g, off, none⟩) k cap] w (ListPost (encL (xs.flatMap FA.lfs)) w) := by
  have HK := Seal.mk hk
  have HC := Seal.mk hc
  have HO := Seal.mk hok
  have HL := Seal.mk (And.intro hk0 (And.intro hk9 (And.intro hw hfit)))
  obtain ⟨i0, hi, hz0, hz1, hz2⟩ := info_parts info_val
  have HI := Seal.mk (And.intro hi (And.intro hz0 (And.intro hz1 hz2)))
  have hS0 : Seal (VL w.heap.size w [] (.slice none 0 0) (w.alloc (.cells #[.int .i64 3, .int .i64 0, .string ByteArray.empty, .slice none 0 0] 51)) ∧ w.heap.size < (w.alloc (.cells #[.int .i64 3, .int .i64 0, .string ByteArray.empty, .slice none 0 0] 51)).heap.size) := ⟨⟨heap_alloc_new w _, World.ownsRow_nil _ _ _ _, below_alloc w _⟩, by rw [size_alloc]; omega⟩
  clear hk hc hok hi hz0 hz1 hz2 hk0 hk9 hw hfit
  go_enter Tryz.func36, Tryz.ntmps36
  go_wp2
  go_loopw [17] (fun i wr => FtyRel xs w i wr) (fun i _ => k - (intOf i).toNat)
  case atStart => exact ⟨0, .slice none 0 0, Nat.zero_le _, rfl, hS0⟩
  case round =>
    obtain ⟨j, v, hj, rfl, HV⟩ := hrel
    rw [HK.out] at hj
    by_cases hlt : j < k
    · obtain ⟨x, hx⟩ : ∃ x, xs[j]? = some x := ⟨_, List.getElem?_eq_getElem (by rw [HK.out]; exact hlt)⟩
      have hcx : wr.cell? ⟨g, off + j, none⟩ = some x.val := (HV.out.1.bel.cell (p := ⟨g, off + j, none⟩) (block_lt_of_cell (HC.out j x hx))).trans (HC.out j x hx)
      have hox := HO.out x (List.mem_of_getElem? hx)
      obtain ⟨m, hm⟩ : ∃ m, m = (xs.take j).flatMap FA.lfs := ⟨_, rfl⟩
      have HT : Seal ((xs.take (j + 1)).flatMap FA.lfs = m ++ x.lfs) := ⟨by rw [hm, List.take_add_one, hx]; simp⟩
      have HM : Seal (m.length + x.lfs.length ≤ 900) := ⟨by
        have h1 := congrArg List.length HT.out
        rw [List.length_append] at h1
        rw [← h1]
        have h2 : (xs.flatMap FA.lfs).length = ((xs.take (j + 1)).flatMap FA.lfs).length + ((xs.drop (j + 1)).flatMap FA.lfs).length := by
          rw [← List.length_append, ← List.flatMap_append, List.take_append_drop]
        have := HL.out.2.1
        omega⟩
      rw [← hm] at HV
      have q1 : (j : Int) < (k : Int) := by omega
      have q2 : (0 : Int) ≤ (j : Int) := by omega
      clear hm hx
      cases x with
      | i n =>
        unfold FA.val at hcx
        have ta0 := fun W => fa_ii (.int .i64 n) W
        have HCall := Seal.mk (ftext1_new 1 w.heap.size wr.heap.size [n] m w wr v rfl (by have := HM.out; simp [FA.lfs] at this; omega) HV.out.1 HV.out.2 rfl #[.int .i64 n] rfl)
        clear hox
        go_wp2_with fail
        refine HCall.out.mono ?_
        rintro e w1 ⟨rfl, v1, HV1⟩
        go_wp2
        refine ⟨⟨j + 1, v1, by rw [HK.out]; omega, by go_num, ⟨by rw [HT.out]; exact HV1.out⟩⟩, ?_⟩
        simp only [intOf]; omega
      | r a b c =>
        unfold FA.val at hcx
        have ta0 := fun W => fa_ri (.agg #[.int .i64 a, .int .i64 b, .int .i64 c]) W
        have ta1 := fun W => fa_rr (.agg #[.int .i64 a, .int .i64 b, .int .i64 c]) W
        have HCall := Seal.mk (ftext1_new 3 w.heap.size (wr.heap.size + 1) [a, b, c] m w (wr.alloc (.cells #[.int .i64 a, .int .i64 b, .int .i64 c] 26)) v rfl (by have := HM.out; simp [FA.lfs] at this; omega) (HV.out.1.alloc HV.out.2 _) (by rw [size_alloc]; have := HV.out.2; omega) (size_alloc _ _) #[.int .i64 a, .int .i64 b, .int .i64 c] rfl)
        clear hox
        go_wp2_with fail
        refine HCall.out.mono ?_
        rintro e w1 ⟨rfl, v1, HV1⟩
        go_wp2
        refine ⟨⟨j + 1, v1, by rw [HK.out]; omega, by go_num, ⟨by rw [HT.out]; exact HV1.out⟩⟩, ?_⟩
        simp only [intOf]; omega
      | w a b c =>
        unfold FA.val at hcx
        have ta0 := fun W => fa_ci (.agg #[.int .i64 a, .int .i64 b, .int .i64 c]) W
        have ta1 := fun W => fa_cr (.agg #[.int .i64 a, .int .i64 b, .int .i64 c]) W
        have ta2 := fun W => fa_cc (.agg #[.int .i64 a, .int .i64 b, .int .i64 c]) W
        have hsl := fun W => slice_words wr.heap.size W
        have HCall := Seal.mk (ftext1_any wr.heap.size 0 3 3 w.heap.size [a, b, c] m w (wr.alloc (.cells #[.int .i64 a, .int .i64 b, .int .i64 c] 30)) v rfl (by have := HM.out; simp [FA.lfs] at this; omega) (HV.out.1.alloc HV.out.2 _) (by rw [size_alloc]; have := HV.out.2; omega) ⟨fun e => by have := (HV.out.1.own.lt _ e).2; omega, by rw [size_alloc]; omega, fun j n hn => by
          rw [cell_of_row _ _ _ _ _ _ (heap_alloc_new wr _), Nat.zero_add]
          match j, hn with
          | 0, hn => cases hn; rfl
          | 1, hn => cases hn; rfl
          | 2, hn => cases hn; rfl⟩ (by have := HV.out.2; omega))
        clear hox
        go_wp2_with fail
        refine HCall.out.mono ?_
        rintro e w1 ⟨rfl, v1, HV1⟩
        go_wp2
        refine ⟨⟨j + 1, v1, by rw [HK.out]; omega, by go_num, ⟨by rw [HT.out]; exact HV1.out⟩⟩, ?_⟩
        simp only [intOf]; omega
      | t T =>
        have h32 : T.length = 32 := hox
        obtain ⟨TC, hTC⟩ : ∃ TC, TC = T.map B := ⟨_, rfl⟩
        have cT : TC.length = 32 := by rw [hTC, List.length_map, h32]
        have hcy : wr.cell? ⟨g, off + j, none⟩ = some (.iface 42 (.agg (T.map B).toArray)) := hcx
        clear hcx
        rw [← hTC] at hcy
        have ta0 := fun W => fa_ti (.agg TC.toArray) W
        have ta1 := fun W => fa_tr (.agg TC.toArray) W
        have ta2 := fun W => fa_tc (.agg TC.toArray) W
        have ta3 := fun W => fa_tt (.agg TC.toArray) W
        have IT : Seal ((Tryz.prog.info? 42).map (·.size) = some TC.length) := ⟨by rw [cT]; kernel_rfl⟩
        have LT : Seal ((([.int .u8 0, .int .u8 0, .int .u8 0, .int .u8 0, .int .u8 0, .int .u8 0, .int .u8 0, .int .u8 0, .int .u8 0, .int .u8 0, .int .u8 0, .int .u8 0, .int .u8 0, .int .u8 0, .int .u8 0, .int .u8 0, .int .u8 0, .int .u8 0, .int .u8 0, .int .u8 0, .int .u8 0, .int .u8 0, .int .u8 0, .int .u8 0, .int .u8 0, .int .u8 0, .int .u8 0, .int .u8 0, .int .u8 0, .int .u8 0, .int .u8 0, .int .u8 0] : List Value)).length = TC.length) := ⟨by rw [cT]; rfl⟩
        have OT : Seal (∀ u ∈ TC, u.oneCell' = true) := ⟨by rw [hTC]; intro u hu; obtain ⟨b, _, rfl⟩ := List.mem_map.1 hu; rfl⟩
        obtain ⟨V0, hV0⟩ : ∃ V0, V0 = wr.alloc (.cells TC.toArray 42) := ⟨_, rfl⟩
        have HV2 : Seal (VL w.heap.size w m v V0 ∧ w.heap.size < V0.heap.size) := ⟨by rw [hV0]; exact ⟨HV.out.1.alloc HV.out.2 _, by rw [size_alloc]; have := HV.out.2; omega⟩⟩
        have rT : V0.rangeAt wr.heap.size 0 TC := by rw [hV0]; exact rangeAt_row (heap_alloc_new wr _)
        have HTC := Seal.mk hTC
        clear hox hTC
        go_upto_region 18 with (refine wpList_store_new rfl 42 (.tmp 10) (.tmp 49) rfl ([.int .u8 0, .int .u8 0, .int .u8 0, .int .u8 0, .int .u8 0, .int .u8 0, .int .u8 0, .int .u8 0, .int .u8 0, .int .u8 0, .int .u8 0, .int .u8 0, .int .u8 0, .int .u8 0, .int .u8 0, .int .u8 0, .int .u8 0, .int .u8 0, .int .u8 0, .int .u8 0, .int .u8 0, .int .u8 0, .int .u8 0, .int .u8 0, .int .u8 0, .int .u8 0, .int .u8 0, .int .u8 0, .int .u8 0, .int .u8 0, .int .u8 0, .int .u8 0] : List Value) TC 42 rfl rfl IT.out LT.out OT.out ?_)
        rw [← hV0]
        clear hV0 ta0 ta1 ta2 ta3 hcy
        obtain ⟨a0, c0, rfl⟩ := HV2.out.1.form
        have hrB : wr.heap.size ≠ w.heap.size := by have := HV.out.2; omega
        have cV : V0.cell? ⟨w.heap.size, 3, none⟩ = some (.slice a0 m.length c0) := by rw [cell_of_row _ _ _ _ _ _ HV2.out.1.row]; rfl
        have HVd : Seal (VL w.heap.size w m (.slice a0 m.length c0) V0.drew ∧ w.heap.size < V0.drew.heap.size) := ⟨HV2.out.1.drew, HV2.out.2⟩
        refine wp_region_heldU 7 (S := fun w' => w'.cell? ⟨w.heap.size, 3, none⟩ = some (.slice a0 m.length c0) ∧ w'.rangeAt wr.heap.size 0 TC) (by kernel_rfl) ⟨cV, rT⟩ (fun hHeld => ?_)
        clear cV rT HV HV2
        refine take_u 0 ?_ rfl (by kernel_rfl) (by kernel_rfl) (by kernel_rfl) (by kernel_rfl) (by kernel_rfl) (fun _ _ _ h => h) (Or.inl ⟨by kernel_rfl, ?_⟩) (by assumption) ?_
        rotate_left
        · (intro w hSw; (try dsimp only at hSw); go_simp; try (with_reducible rfl))
        try simp only [Act.put, List.setIfInBounds_toArray, List.set_cons_zero, List.set_cons_succ]
        refine take_u 1 ?_ rfl (by kernel_rfl) (by kernel_rfl) (by kernel_rfl) (by kernel_rfl) (by kernel_rfl) (fun _ _ _ h => h) (Or.inl ⟨by kernel_rfl, ?_⟩) (by assumption) ?_
        rotate_left
        · (intro w hSw; (try dsimp only at hSw); go_simp; try (with_reducible rfl))
        try simp only [Act.put, List.setIfInBounds_toArray, List.set_cons_zero, List.set_cons_succ]
        refine take_u 2 ?_ rfl (by kernel_rfl) (by kernel_rfl) (by kernel_rfl) (by kernel_rfl) (by kernel_rfl) (fun _ _ _ h => h) (Or.inl ⟨by kernel_rfl, ?_⟩) (by assumption) ?_
        rotate_left
        · (intro w hSw; (try dsimp only at hSw); go_simp; try (with_reducible rfl))
        try simp only [Act.put, List.setIfInBounds_toArray, List.set_cons_zero, List.set_cons_succ]
        refine take_u 3 (.string ⟨T.toArray⟩) rfl (by kernel_rfl) (by kernel_rfl) (by kernel_rfl) (by kernel_rfl) (by kernel_rfl) (fun _ _ _ h => h) (Or.inl ⟨by kernel_rfl, ?_⟩) (by assumption) ?_
        · intro w hSw
          have hcv := IsB.conv (w := w) (a := some ⟨wr.heap.size, 0, none⟩) (len := 32) (cap := 32) (l := T) ⟨h32, Nat.le_refl _, by decide, by decide, .inr ⟨_, 0, rfl, by rw [← HTC.out]; exact hSw.2, by
            have := hSw.2 0 _ (List.getElem?_eq_getElem (show 0 < TC.length by rw [cT]; decide))
            exact block_lt_of_cell this⟩⟩
          go_simp
        try simp only [Act.put, List.setIfInBounds_toArray, List.set_cons_zero, List.set_cons_succ]
        refine take_u 4 ?_ rfl (by kernel_rfl) (by kernel_rfl) (by kernel_rfl) (by kernel_rfl) (by kernel_rfl) (fun _ _ _ h => h) (Or.inl ⟨by kernel_rfl, ?_⟩) (by assumption) ?_
        rotate_left
        · (intro w hSw; (try dsimp only at hSw); go_simp; try (with_reducible rfl))
        try simp only [Act.put, List.setIfInBounds_toArray, List.set_cons_zero, List.set_cons_succ]
        refine take_u 5 ?_ rfl (by kernel_rfl) (by kernel_rfl) (by kernel_rfl) (by kernel_rfl) (by kernel_rfl) (fun _ _ _ h => h) (Or.inl ⟨by kernel_rfl, ?_⟩) (by assumption) ?_
        rotate_left
        · (intro w hSw; (try dsimp only at hSw); go_simp; try (with_reducible rfl))
        try simp only [Act.put, List.setIfInBounds_toArray, List.set_cons_zero, List.set_cons_succ]
        obtain ⟨V, hV⟩ : ∃ V, V = V0.drew := ⟨_, rfl⟩
        rw [← hV] at hHeld HVd ⊢
        clear hV
        refine oper_u 6 (.slice (some ⟨V.heap.size, 0, none⟩) 1 1) (V.alloc (.cells #[.int .i64 0, .int .i64 0, .string ByteArray.empty, .slice none 0 0] 51)) rfl (by kernel_rfl) (by kernel_rfl) (by go_simp; rfl) (fun _ => ⟨cell_allocd hHeld.1 _, World.rangeAt_alloc hHeld.2 _⟩) ?_
        try simp only [Act.put, List.setIfInBounds_toArray, List.set_cons_zero, List.set_cons_succ]
        obtain ⟨g1, cap1, w1, hrun, hown1, hgrow1, hat, hlt1⟩ := run_append_lies (P := Tryz.prog) (w := V.alloc (.cells #[.int .i64 0, .int .i64 0, .string ByteArray.empty, .slice none 0 0] 51)) 49 49 (w.heap.size + 1) 51 i0 _ 4 56 Tryz.underlying49 HI.out.1 HI.out.2.1 HI.out.2.2.1 HI.out.2.2.2 rfl (by decide) (.slice a0 m.length c0) m.length (lcs m) (HVd.out.1.own.alloc _) ⟨V.heap.size, 0, none⟩ 1 1 [.int .i64 0, .int .i64 0, .string ByteArray.empty, .slice none 0 0] rfl (World.news_of_block (heap_alloc_new V _)) (by simp [Value.oneCell']) (by decide) (by unfold maxLen; have := HM.out; simp [FA.lfs] at this; omega) (by have := HM.out; simp [FA.lfs] at this; omega) (by have := HVd.out.2; simp; omega) _ rfl
        refine oper_u 7 (.slice (some ⟨g1, 0, none⟩) (m.length + 1) cap1) w1 rfl (by kernel_rfl) (by kernel_rfl) (exec_append (.tmp 51) (.tmp 56) 49 49 rfl _ _ _ rfl rfl (fun ty => hrun)) (fun h => absurd (h.symm.trans (by kernel_rfl : _ = true)) (by decide)) ?_
        try simp only [Act.put, List.setIfInBounds_toArray, List.set_cons_zero, List.set_cons_succ]
        obtain ⟨⟨z0, z1, z2, z3⟩, fz⟩ := own_cells hown1 (lcs_len m)
        have HN := VL.next (x := .t T) HVd.out.1 HVd.out.2 hgrow1 hown1 rfl
        have q5 : ((m.length : Int) < (m.length : Int) + 1) := by omega
        have q6 : 0 ≤ (m.length : Int) := by omega
        have hgB1 : w.heap.size + 1 ≤ g1 := (hown1.lt g1 rfl).1
        have hr1 : w1.heap[w.heap.size]? = some (.cells #[.int .i64 3, .int .i64 0, .string ByteArray.empty, .slice a0 m.length c0] 51 (0, 0)) := (hgrow1.block _ (by have := HVd.out.2; rw [size_alloc]; omega) HVd.out.1.ne).trans ((Below.heap_alloc V _ _ HVd.out.2).trans HVd.out.1.row)
        have x1 : w1.cell? ⟨w.heap.size, 3, none⟩ = some (.slice a0 m.length c0) := by rw [cell_of_row _ _ _ _ _ _ hr1]; rfl
        have f1 : w1.frozen? ⟨w.heap.size, 3, none⟩ = false := frozen_of_row _ _ _ _ _ hr1
        have hTr : True := trivial
        refine anyU_of_H (S' := fun _ => True) _ _ _ _ (by kernel_rfl) ?_
        refine take_h 8 ?_ rfl (by kernel_rfl) (by kernel_rfl) (by kernel_rfl) (fun _ _ _ h => h) (Or.inl ⟨by kernel_rfl, ?_⟩) (by assumption) ?_
        rotate_left
        · (intro w hSw; (try dsimp only at hSw); go_simp; try (with_reducible rfl))
        try simp only [Act.put, List.setIfInBounds_toArray, List.set_cons_zero, List.set_cons_succ]
        refine take_h 10 ?_ rfl (by kernel_rfl) (by kernel_rfl) (by kernel_rfl) (fun _ _ _ h => h) (Or.inl ⟨by kernel_rfl, ?_⟩) (by assumption) ?_
        rotate_left
        · (intro w hSw; (try dsimp only at hSw); go_simp; try (with_reducible rfl))
        try simp only [Act.put, List.setIfInBounds_toArray, List.set_cons_zero, List.set_cons_succ]
        refine wpAnyH_ready (rs := [9, 11]) (by kernel_rfl) (by simp) ?_
        refine skip_b 9 (set4 w1 g1 (m.length * 4) (.int .i64 2) (.int .i64 0) (.string ⟨T.toArray⟩) (.slice none 0 0)) rfl (by kernel_rfl) (by unfold set4; go_simp; try rfl) trivial (fun _ => ?_) (skip_b 11 (w1.setCell ⟨w.heap.size, 3, none⟩ (.slice (some ⟨g1, 0, none⟩) (m.length + 1) cap1)) rfl (by kernel_rfl) (by go_simp) trivial (fun _ => ?_) AllReadyH.nil)
        · obtain ⟨W, hW⟩ : ∃ W, W = set4 w1 g1 (m.length * 4) (.int .i64 2) (.int .i64 0) (.string ⟨T.toArray⟩) (.slice none 0 0) := ⟨_, rfl⟩
          have hr2 : W.heap[w.heap.size]? = some (.cells #[.int .i64 3, .int .i64 0, .string ByteArray.empty, .slice a0 m.length c0] 51 (0, 0)) := by rw [hW]; exact (set4_block w1 g1 _ w.heap.size _ _ _ _ (by omega)).trans hr1
          have x2 : W.cell? ⟨w.heap.size, 3, none⟩ = some (.slice a0 m.length c0) := by rw [cell_of_row _ _ _ _ _ _ hr2]; rfl
          have f2 : W.frozen? ⟨w.heap.size, 3, none⟩ = false := frozen_of_row _ _ _ _ _ hr2
          have HN1 : Seal (VL w.heap.size w ((xs.take (j + 1)).flatMap FA.lfs) (.slice (some ⟨g1, 0, none⟩) (m.length + 1) cap1) (W.setCell ⟨w.heap.size, 3, none⟩ (.slice (some ⟨g1, 0, none⟩) (m.length + 1) cap1))) := ⟨by rw [HT.out, hW]; exact HN.1⟩
          rw [← hW]
          clear hW x1 f1 z0 z1 z2 z3 fz HN hr1 hr2 hHeld HVd hown1 hgrow1 hrun hat
          refine skip_h 11 (W.setCell ⟨w.heap.size, 3, none⟩ (.slice (some ⟨g1, 0, none⟩) (m.length + 1) cap1)) rfl (by kernel_rfl) (by kernel_rfl) (by go_simp) trivial (fun _ => ?_)
          try simp only [Act.put]
          try simp only [List.setIfInBounds_toArray, List.set_cons_zero, List.set_cons_succ]
          refine wpAnyH_done (by kernel_rfl) ?_ _
          clear x2 f2
          go_wp2
          refine ⟨⟨j + 1, _, by rw [HK.out]; omega, by go_num, ⟨⟨HN1.out, (Array.getElem?_eq_some_iff.1 HN1.out.row).1⟩⟩⟩, ?_⟩
          simp only [intOf]; omega
        · obtain ⟨W, hW⟩ : ∃ W, W = w1.setCell ⟨w.heap.size, 3, none⟩ (.slice (some ⟨g1, 0, none⟩) (m.length + 1) cap1) := ⟨_, rfl⟩
          have hot : ∀ j, j ≠ w.heap.size → W.heap[j]? = w1.heap[j]? := fun j h => by rw [hW]; exact Below.heap_setCell _ _ _ j h
          have hcl : ∀ i, W.cell? ⟨g1, i, none⟩ = w1.cell? ⟨g1, i, none⟩ := fun i => World.cell?_of_block (w := w1) (hot g1 (by omega))
          have y0 := (hcl _).trans z0
          have y1 := (hcl _).trans z1
          have y2 := (hcl _).trans z2
          have y3 := (hcl _).trans z3
          have fy : ∀ i, W.frozen? ⟨g1, i, none⟩ = false := fun i => by
            have h1 := fz i
            unfold World.frozen? at h1 ⊢
            simp only [hot g1 (by omega)] at h1 ⊢
            exact h1
          have HN2 : Seal (VL w.heap.size w ((xs.take (j + 1)).flatMap FA.lfs) (.slice (some ⟨g1, 0, none⟩) (m.length + 1) cap1) (set4 W g1 (m.length * 4) (.int .i64 2) (.int .i64 0) (.string ⟨T.toArray⟩) (.slice none 0 0))) := ⟨by rw [HT.out, hW]; exact HN.2⟩
          rw [← hW]
          clear hW x1 f1 z0 z1 z2 z3 fz HN hr1 hHeld HVd hown1 hgrow1 hrun hat hot hcl
          refine skip_h 9 (set4 W g1 (m.length * 4) (.int .i64 2) (.int .i64 0) (.string ⟨T.toArray⟩) (.slice none 0 0)) rfl (by kernel_rfl) (by kernel_rfl) (by unfold set4; go_simp; try rfl) trivial (fun _ => ?_)
          try simp only [Act.put]
          try simp only [List.setIfInBounds_toArray, List.set_cons_zero, List.set_cons_succ]
          refine wpAnyH_done (by kernel_rfl) ?_ _
          clear y0 y1 y2 y3 fy
          go_wp2
          refine ⟨⟨j + 1, _, by rw [HK.out]; omega, by go_num, ⟨⟨HN2.out, (Array.getElem?_eq_some_iff.1 HN2.out.row).1⟩⟩⟩, ?_⟩
          simp only [intOf]; omega
    · obtain rfl : j = k := by omega
      have q1 : ¬ ((j : Int) < (j : Int)) := by omega
      have e1 : xs.take j = xs := List.take_of_length_le (by rw [HK.out]; exact Nat.le_refl _)
      rw [e1] at HV
      obtain ⟨ls, hls⟩ : ∃ ls, ls = xs.flatMap FA.lfs := ⟨_, rfl⟩
      rw [← hls] at HV HL
      have HLs := Seal.mk hls
      clear hls e1
      obtain ⟨g2, cap2, rfl, _, hg2⟩ := HV.out.1.own.form HL.out.1
      have HA1 : Seal (LeavesAt wr g2 0 ls) := ⟨fun q y hy r c hrc => by
        have h2 := HV.out.1.own.cells (g := g2) rfl (q * 4 + r) c (lcs_at ls q y hy r c hrc)
        rw [Addr.add_mid] at h2
        rw [Nat.add_assoc]; exact h2⟩
      have HQ : Seal (ls.length ≤ cap2) := ⟨by
        rcases HV.out.1.own.2 with ⟨e, _⟩ | ⟨_, _, _, hv, _, _, hle, _⟩
        · cases e
        · cases hv; exact hle⟩
      have HE : Seal _ := ⟨encode_any g2 0 ls.length cap2 ls wr rfl HQ.out HL.out.2.2.1 HL.out.1 HA1.out hg2 HL.out.2.2.2⟩
      have c0 : wr.cell? ⟨w.heap.size, 0, none⟩ = some (.int .i64 3) := by rw [cell_of_row _ _ _ _ _ _ HV.out.1.row]; rfl
      have c1 : wr.cell? ⟨w.heap.size, 1, none⟩ = some (.int .i64 0) := by rw [cell_of_row _ _ _ _ _ _ HV.out.1.row]; rfl
      have c2 : wr.cell? ⟨w.heap.size, 2, none⟩ = some (.string ByteArray.empty) := by rw [cell_of_row _ _ _ _ _ _ HV.out.1.row]; rfl
      have c3 : wr.cell? ⟨w.heap.size, 3, none⟩ = some (.slice (some ⟨g2, 0, none⟩) ls.length cap2) := by rw [cell_of_row _ _ _ _ _ _ HV.out.1.row]; rfl
      have HB := Seal.mk (And.intro HV.out.1.bel HV.out.2)
      clear HV HA1 HQ HC HO HL
      go_wp2_with (go_at_call 13; refine HE.out.mono ?_; rintro e w2 ⟨g', n', cap', hn', rfl, hf⟩)
      go_ret
      rw [← HLs.out]
      exact ⟨g', n', cap', hn', rfl, ⟨hf.out.1, hf.out.2.1, hf.out.2.2.1, hf.out.2.2.2.1, HB.out.1.trans (hf.out.2.2.2.2.mono (Nat.le_of_lt HB.out.2))⟩⟩
end Frk
