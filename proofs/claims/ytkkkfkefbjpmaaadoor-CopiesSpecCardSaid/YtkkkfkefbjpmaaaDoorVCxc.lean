/- Law 51: the reference's Find and Trust, equal lists, the examples: joined. -/
import Derived.Test.YtkkkfkefbjpmaaaDoorVCxb
import Derived.Test.YtkkkfkefbjpmaaaDoorExs
namespace Frk
open Go Go.RowKit Go.Proofs
set_option maxRecDepth 100000

/-- the cells of a lie, or of none -/
def lieO (zl : List Value) : Option (Hd × Hd) → List Value
  | none => zl
  | some x => lieC x.1 x.2
/-- where the two loops are -/
structure LieR (s : List Hd) (o : Int) (zl : List Value) (g6 : Nat) (a : Option Addr) (n c : Nat) (w0 : World) (best : Option (Hd × Hd)) (W : World) : Prop where
  hs : IsHs W a n c s
  row : W.heap[g6]? = some (.cells (lieO zl best).toArray 74 (0, 0))
  z4 : ∃ z, W.heap[w0.heap.size]? = some (.cells z 74 (0, 0)) ∧ z.size = 84
  bel : Below w0.heap.size w0 W
  okb : ∀ x, best = some x → x.1.ok ∧ x.2.ok

theorem LieR.below {s : List Hd} {o : Int} {zl : List Value} {g6 n c : Nat} {a : Option Addr} {w0 W W' : World} {best : Option (Hd × Hd)} (h : LieR s o zl g6 a n c w0 best W) (hb : Below W.heap.size W W') : LieR s o zl g6 a n c w0 best W' :=
  ⟨h.hs.below hb, (hb.block _ (Array.getElem?_eq_some_iff.1 h.row).1).trans h.row, by obtain ⟨z, hz, hs⟩ := h.z4; exact ⟨z, (hb.block _ (Array.getElem?_eq_some_iff.1 hz).1).trans hz, hs⟩, h.bel.trans (hb.mono h.bel.size), h.okb⟩
theorem LieR.store {s : List Hd} {o : Int} {zl : List Value} {g6 n c : Nat} {a : Option Addr} {w0 W : World} {best : Option (Hd × Hd)} (h : LieR s o zl g6 a n c w0 best W) (hg : w0.heap.size < g6) (ha : ∀ g off, a = some ⟨g, off, none⟩ → 0 < n → g < w0.heap.size) (x y : Hd) (hx : x.ok) (hy : y.ok) :
    LieR s o zl g6 a n c w0 (some (x, y)) (W.setRow g6 (lieC x y).toArray) := by
  have k : ∀ j, j ≠ g6 → (W.setRow g6 (lieC x y).toArray).heap[j]? = W.heap[j]? := fun j hj => setRow_other W g6 j _ hj
  refine ⟨h.hs.same (fun g off h0 e _ => k g (by have := ha g off e h0; omega)) (by simp [World.setRow]), setRow_heap _ _ _ _ _ _ h.row, ?_, below_row h.bel (by omega) _, fun z hz => by cases hz; exact ⟨hx, hy⟩⟩
  obtain ⟨z, hz, hs⟩ := h.z4
  exact ⟨z, (k _ (by omega)).trans hz, hs⟩

theorem lieO_len {zl : List Value} (hz : zl.length = 84) {best : Option (Hd × Hd)} (ok : ∀ x, best = some x → x.1.ok ∧ x.2.ok) : (lieO zl best).length = 84 := by
  cases best with
  | none => exact hz
  | some x => exact lieC_len (ok x rfl).1.t32 (ok x rfl).2.t32
theorem lieO_one {zl : List Value} (hz : ∀ v ∈ zl, v.oneCell' = true) (best : Option (Hd × Hd)) : ∀ v ∈ lieO zl best, v.oneCell' = true := by
  cases best with
  | none => exact hz
  | some x => exact lieC_one _ _

theorem lieS_eq (o : Int) (x y : Hd) (best : Option (Hd × Hd)) : lieS o x best y = if x.fr = o ∧ clB x y = true ∧ lbB x best = true then some (x, y) else best := rfl

set_option maxHeartbeats 8000000 in
theorem rlie_any (n c : Nat) (a : Option Addr) (s : List Hd) (o : Int) (zl : List Value) (w : World) (hz : Tryd.zeroCells74 = zl.toArray) (hz84 : zl.length = 84) (hl : IsHs w a n c s) (hn : n ≤ 100) :
    Calls Tryd.prog 74 #[.slice a n c, .int .i64 o] w fun e w' => e = .returned (.tuple #[.agg (lieO zl (lieR s o)).toArray, .bool (lieR s o).isSome]) ∧ Below w.heap.size w w' := by
  have hll := hl.llen
  have hone : ∀ v ∈ zl, v.oneCell' = true := fun v hv => by
    have h : ∀ v ∈ Tryd.zeroCells74.toList, v.oneCell' = true := by decide +kernel
    rw [hz] at h
    exact h v hv
  have HZL := Seal.mk (And.intro hz84 hone)
  have iZ : (Tryd.prog.info? 74).map (·.size) = some zl.length := by rw [hz84]; kernel_rfl
  have ZA : Seal (∀ (ρ : Operand → Value) (o : Oper) (w : World), o.op = .alloc 74 → (execOp ρ o).run Tryd.prog w = .ok (.value (.pointer (some ⟨w.heap.size, 0, none⟩))) (w.alloc (.cells zl.toArray 74))) := ⟨fun ρ o w ho => by rw [← hz]; exact exec_alloc_lie ho w⟩
  have ZB : Seal (∀ (ρ : Operand → Value) (o : Oper) (w : World), o.op = .build 74 #[] → (execOp ρ o).run Tryd.prog w = .ok (.value (.agg zl.toArray)) w) := ⟨fun ρ o w ho => by
    have h : (Instr.build 74 #[]).run Tryd.prog w = .ok (.agg Tryd.zeroCells74) w := by kernel_rfl
    rw [hz] at h
    unfold execOp
    rw [ho]
    simp [h, Result.andThen]⟩
  have HL := Seal.mk hl
  have uH := Tryd.underlying29
  have uL := Tryd.underlying74
  clear hz hl hone hz84
  go_enter Tryd.func74, Tryd.ntmps74
  go_wp2_with (first
    | (refine wpList_newvar rfl rfl 74 6 (.tmp 10) rfl rfl rfl zl zl (ZA.out _ _ _ rfl) rfl rfl iZ rfl HZL.out.2 ?_; intro X hX; have HX0 : Seal (LieR s o zl W0.heap.size a n c w none X ∧ lieR s o = lieGo o (s.drop 0) none ∧ w.heap.size < W0.heap.size) := ⟨(by rw [hX]; exact ⟨⟨(HL.out.below HW0.out.1).below (below_alloc _ _), heap_alloc_new _ _, ⟨zl.toArray, (Below.heap_alloc _ _ _ (by have := HW0.out.2.2; omega)).trans HW0.out.2.1, (by rw [List.size_toArray]; exact HZL.out.1)⟩, HW0.out.1.alloc HW0.out.1.size _, fun x h => (by cases h)⟩, rfl, HW0.out.2.2⟩)⟩; clear hX HW0; obtain ⟨g6, hg6⟩ : ∃ g, g = W0.heap.size := ⟨_, rfl⟩; rw [← hg6] at HX0 ⊢; clear hg6; (try simp only [Act.put, List.setIfInBounds_toArray, List.set_cons_zero, List.set_cons_succ]))
    | (refine wpList_alloc rfl 74 rfl _ _ (ZA.out _ _ _ rfl) ?_; obtain ⟨W0, hW0⟩ : ∃ W0, W0 = w.alloc (.cells zl.toArray 74) := ⟨_, rfl⟩; have HW0 : Seal (Below w.heap.size w W0 ∧ W0.heap[w.heap.size]? = some (.cells zl.toArray 74 (0, 0)) ∧ w.heap.size < W0.heap.size) := ⟨(by rw [hW0]; exact ⟨below_alloc _ _, heap_alloc_new _ _, (by rw [size_alloc]; omega)⟩)⟩; rw [← hW0]; clear hW0; (try simp only [Act.put, List.setIfInBounds_toArray, List.set_cons_zero, List.set_cons_succ]))
    | (refine wpList_val rfl 74 #[] rfl (.agg zl.toArray) (ZB.out _ _ _ rfl) ?_; (try simp only [Act.put, List.setIfInBounds_toArray, List.set_cons_zero, List.set_cons_succ])))
  go_loopw [7, 8] (fun u i wr => ∃ (k : Nat) (best : Option (Hd × Hd)), k ≤ n ∧ u = .bool best.isSome ∧ i = .int .i64 k ∧ Seal (LieR s o zl g6 a n c w best wr ∧ lieR s o = lieGo o (s.drop k) best)) (fun _ i _ => n - (intOf i).toNat)
  case atStart => exact ⟨0, none, by omega, rfl, rfl, ⟨HX0.out.1, HX0.out.2.1⟩⟩
  case round =>
    obtain ⟨W1, rfl⟩ : ∃ z, z = wr := ⟨_, rfl⟩
    obtain ⟨k, best0, hk, rfl, rfl, hH0⟩ := hrel
    by_cases hlt : k < n
    · obtain ⟨x, hx⟩ : ∃ x, s[k]? = some x := ⟨_, List.getElem?_eq_getElem (by omega)⟩
      have hdx : s.drop k = x :: s.drop (k + 1) := by
        obtain ⟨h1, h2⟩ := List.getElem?_eq_some_iff.1 hx
        rw [List.drop_eq_getElem_cons h1, h2]
      have H1 : Seal (LieR s o zl g6 a n c w best0 W1 ∧ lieR s o = lieGo o (s.drop (k + 1)) ((s.drop (k + 1)).foldl (lieS o x) best0)) := ⟨hH0.out.1, by rw [hH0.out.2, hdx]; rfl⟩
      have HXk := Seal.mk hx
      have q5 : (k : Int) < (n : Int) := by omega
      have q6 : (0 : Int) ≤ (k : Int) := by omega
      clear hH0 hdx hx
      go_wp2
      go_loopw [7, 9] (fun u j wr => ∃ (q : Nat) (best : Option (Hd × Hd)), k + 1 ≤ q ∧ q ≤ n ∧ u = .bool best.isSome ∧ j = .int .i64 q ∧ Seal (LieR s o zl g6 a n c w best wr ∧ lieR s o = lieGo o (s.drop (k + 1)) ((s.drop q).foldl (lieS o x) best))) (fun _ j _ => n - (intOf j).toNat)
      case atStart => exact ⟨k + 1, best0, by omega, by omega, rfl, by go_num, H1⟩
      case round =>
        obtain ⟨Wo, rfl⟩ : ∃ z, z = wr := ⟨_, rfl⟩
        obtain ⟨q, best, hq1, hq, rfl, rfl, hH⟩ := hrel
        clear H1
        by_cases hlt2 : q < n
        · rcases hH.out.1.hs.at_ with hz | ⟨g, off, rfl, hr, hg⟩
          · omega
          · obtain ⟨y, hy⟩ : ∃ y, s[q]? = some y := ⟨_, List.getElem?_eq_getElem (by omega)⟩
            have hdy : s.drop q = y :: s.drop (q + 1) := by
              obtain ⟨h1, h2⟩ := List.getElem?_eq_some_iff.1 hy
              rw [List.drop_eq_getElem_cons h1, h2]
            have okx := hH.out.1.hs.each x (List.mem_of_getElem? HXk.out)
            have oky := hH.out.1.hs.each y (List.mem_of_getElem? hy)
            have rX := rangeC_at hr (fun x hx => Hd.C_len (hH.out.1.hs.each x hx).t32) HXk.out
            have rY := rangeC_at hr (fun x hx => Hd.C_len (hH.out.1.hs.each x hx).t32) hy
            have hgw : g < w.heap.size := by
              rcases HL.out.at_ with hz | ⟨g', off', e, _, hg'⟩
              · omega
              · cases e; exact hg'
            obtain ⟨fr, hfr⟩ : ∃ fr, fr = x.fr := ⟨_, rfl⟩
            have c4 : Wo.cell? ⟨g, off + k * 42 + 4, none⟩ = some (.int .i64 fr) := by rw [hfr]; exact rX 4 _ rfl
            obtain ⟨CX, hCX⟩ : ∃ C, C = x.C := ⟨_, rfl⟩
            obtain ⟨CY, hCY⟩ : ∃ C, C = y.C := ⟨_, rfl⟩
            obtain ⟨cl, hcl⟩ : ∃ cl, cl = clB x y := ⟨_, rfl⟩
            have HCl : Seal (∀ W', Calls Tryd.prog 21 #[.agg CX.toArray, .agg CY.toArray] W' fun e w' => e = .returned (.bool cl) ∧ Below W'.heap.size W' w') := ⟨fun W' => by rw [hCX, hCY, hcl]; exact rclash48_any x y W' okx.t32 oky.t32⟩
            have lX : CX.length = 42 := by rw [hCX]; exact Hd.C_len okx.t32
            have lY : CY.length = 42 := by rw [hCY]; exact Hd.C_len oky.t32
            have iX : (Tryd.prog.info? 29).map (·.size) = some CX.length := by rw [hCX]; exact Hd.C_info okx.t32
            have iY : (Tryd.prog.info? 29).map (·.size) = some CY.length := by rw [hCY]; exact Hd.C_info oky.t32
            have HLX : Seal ((Tryd.prog.info? 74).map (·.size) = some (CX ++ CY).length ∧ (CX ++ CY).length = 84 ∧ (∀ v ∈ CX ++ CY, v.oneCell' = true)) := ⟨by rw [hCX, hCY]; exact ⟨lieC_info okx.t32 oky.t32, lieC_len okx.t32 oky.t32, lieC_one x y⟩⟩
            rw [← hCX] at rX
            rw [← hCY] at rY
            have HQ : Seal (lieR s o = lieGo o (s.drop (k + 1)) ((s.drop (q + 1)).foldl (lieS o x) (lieS o x best y)) ∧ True) := ⟨by rw [hH.out.2, hdy]; exact ⟨rfl, trivial⟩⟩
            have HC := Seal.mk (And.intro hCX hCY)
            have HOK := Seal.mk (And.intro okx oky)
            have HG6 : Seal (w.heap.size < g6 ∧ g < w.heap.size ∧ g ≠ g6) := ⟨by have := HX0.out.2.2; omega⟩
            have HF := Seal.mk (And.intro hfr hcl)
            have q7 : (q : Int) < (n : Int) := by omega
            have q8 : (0 : Int) ≤ (q : Int) := by omega
            clear hr hg hy hdy okx oky hCX hCY hfr hcl hgw
            go_wp2_with fail
            by_cases hfo : fr = o
            · have qf : (fr == o) = true := by simp [hfo]
              cases cl with
              | false =>
                have HNo : Seal (lieS o x best y = best) := ⟨by rw [lieS_eq, if_neg (by rw [← HF.out.2]; simp)]⟩
                refine wp_region_held_drew (S := fun w' => w'.cell? ⟨g, off + k * 42 + 4, none⟩ = some (.int .i64 fr) ∧ w'.rangeAt g (off + k * 42) CX ∧ w'.rangeAt g (off + q * 42) CY) (by kernel_rfl) ⟨c4, rX, rY⟩ (fun hHeld => ?_)
                have HV : Seal (LieR s o zl g6 (some ⟨g, off, none⟩) n c w best Wo.drew) := ⟨hH.out.1.below (below_drewn _)⟩
                obtain ⟨V, hV⟩ : ∃ V, V = Wo.drew := ⟨_, rfl⟩
                rw [← hV] at hHeld HV ⊢
                clear hV rX rY c4
                clear hfo
                refine take_h 0 ?_ rfl (by kernel_rfl) (by kernel_rfl) (by kernel_rfl) (fun _ _ _ h => h) (Or.inl ⟨by kernel_rfl, ?_⟩) (by assumption) ?_
                rotate_left
                · (intro w hSw; (try dsimp only at hSw); go_simp; try (with_reducible rfl))
                try simp only [Act.put, List.setIfInBounds_toArray, List.set_cons_zero, List.set_cons_succ]
                refine take_h 1 ?_ rfl (by kernel_rfl) (by kernel_rfl) (by kernel_rfl) (fun _ _ _ h => h) (Or.inl ⟨by kernel_rfl, ?_⟩) (by assumption) ?_
                rotate_left
                · (intro w hSw; (try dsimp only at hSw); go_simp; try (with_reducible rfl))
                try simp only [Act.put, List.setIfInBounds_toArray, List.set_cons_zero, List.set_cons_succ]
                refine take_h 2 ?_ rfl (by kernel_rfl) (by kernel_rfl) (by kernel_rfl) (fun _ _ _ h => h) (Or.inl ⟨by kernel_rfl, ?_⟩) (by assumption) ?_
                rotate_left
                · (intro w hSw; (try dsimp only at hSw); go_simp; try (with_reducible rfl))
                try simp only [Act.put, List.setIfInBounds_toArray, List.set_cons_zero, List.set_cons_succ]
                refine take_h 3 ?_ rfl (by kernel_rfl) (by kernel_rfl) (by kernel_rfl) (fun _ _ _ h => h) (Or.inl ⟨by kernel_rfl, ?_⟩) (by assumption) ?_
                rotate_left
                · (intro w hSw; (try dsimp only at hSw); go_simp; try (with_reducible rfl))
                try simp only [Act.put, List.setIfInBounds_toArray, List.set_cons_zero, List.set_cons_succ]
                refine take_h 4 ?_ rfl (by kernel_rfl) (by kernel_rfl) (by kernel_rfl) (fun _ _ _ h => h) (Or.inl ⟨by kernel_rfl, ?_⟩) (by assumption) ?_
                rotate_left
                · (intro w hSw; (try dsimp only at hSw); go_simp; try (with_reducible rfl))
                try simp only [Act.put, List.setIfInBounds_toArray, List.set_cons_zero, List.set_cons_succ]
                refine take_h 5 ?_ rfl (by kernel_rfl) (by kernel_rfl) (by kernel_rfl) (fun _ _ _ h => h) (Or.inl ⟨by kernel_rfl, ?_⟩) (by assumption) ?_
                rotate_left
                · (intro w hSw; (try dsimp only at hSw); go_simp; try (with_reducible rfl))
                try simp only [Act.put, List.setIfInBounds_toArray, List.set_cons_zero, List.set_cons_succ]
                refine take_h 6 ?_ rfl (by kernel_rfl) (by kernel_rfl) (by kernel_rfl) (fun _ _ _ h => h) (Or.inl ⟨by kernel_rfl, ?_⟩) (by assumption) ?_
                rotate_left
                · (intro w hSw; (try dsimp only at hSw); go_simp; try (with_reducible rfl))
                try simp only [Act.put, List.setIfInBounds_toArray, List.set_cons_zero, List.set_cons_succ]
                refine take_h 7 ?_ rfl (by kernel_rfl) (by kernel_rfl) (by kernel_rfl) (fun _ _ _ h => h) (Or.inl ⟨by kernel_rfl, ?_⟩) (by assumption) ?_
                rotate_left
                · (intro w hSw; (try dsimp only at hSw); go_simp; try (with_reducible rfl))
                try simp only [Act.put, List.setIfInBounds_toArray, List.set_cons_zero, List.set_cons_succ]
                refine take_h 8 ?_ rfl (by kernel_rfl) (by kernel_rfl) (by kernel_rfl) (fun _ _ _ h => h) (Or.inl ⟨by kernel_rfl, ?_⟩) (by assumption) ?_
                rotate_left
                · (intro w hSw; (try dsimp only at hSw); go_simp; try (with_reducible rfl))
                try simp only [Act.put, List.setIfInBounds_toArray, List.set_cons_zero, List.set_cons_succ]
                refine take_h 9 ?_ rfl (by kernel_rfl) (by kernel_rfl) (by kernel_rfl) (fun _ _ _ h => h) (Or.inl ⟨by kernel_rfl, ?_⟩) (by assumption) ?_
                rotate_left
                · (intro w hSw; (try dsimp only at hSw); go_simp; try (with_reducible rfl))
                try simp only [Act.put, List.setIfInBounds_toArray, List.set_cons_zero, List.set_cons_succ]
                refine take_h 10 ?_ rfl (by kernel_rfl) (by kernel_rfl) (by kernel_rfl) (fun _ _ _ h => h) (Or.inl ⟨by kernel_rfl, ?_⟩) (by assumption) ?_
                rotate_left
                · (intro w hSw; (try dsimp only at hSw); go_simp; try (with_reducible rfl))
                try simp only [Act.put, List.setIfInBounds_toArray, List.set_cons_zero, List.set_cons_succ]
                refine take_h 11 _ rfl (by kernel_rfl) (by kernel_rfl) (by kernel_rfl) (fun _ _ _ h => h) (yieldsIf_load_mid (by kernel_rfl) 29 (.tmp 35) rfl g (off + k * 42) rfl CX _ (fun w hSw => hSw.2.1) uH rfl iX) (by assumption) ?_
                try simp only [Act.put, List.setIfInBounds_toArray, List.set_cons_zero, List.set_cons_succ]
                refine take_h 12 ?_ rfl (by kernel_rfl) (by kernel_rfl) (by kernel_rfl) (fun _ _ _ h => h) (Or.inl ⟨by kernel_rfl, ?_⟩) (by assumption) ?_
                rotate_left
                · (intro w hSw; (try dsimp only at hSw); go_simp; try (with_reducible rfl))
                try simp only [Act.put, List.setIfInBounds_toArray, List.set_cons_zero, List.set_cons_succ]
                refine take_h 13 ?_ rfl (by kernel_rfl) (by kernel_rfl) (by kernel_rfl) (fun _ _ _ h => h) (Or.inl ⟨by kernel_rfl, ?_⟩) (by assumption) ?_
                rotate_left
                · (intro w hSw; (try dsimp only at hSw); go_simp; try (with_reducible rfl))
                try simp only [Act.put, List.setIfInBounds_toArray, List.set_cons_zero, List.set_cons_succ]
                refine take_h 14 ?_ rfl (by kernel_rfl) (by kernel_rfl) (by kernel_rfl) (fun _ _ _ h => h) (Or.inl ⟨by kernel_rfl, ?_⟩) (by assumption) ?_
                rotate_left
                · (intro w hSw; (try dsimp only at hSw); go_simp; try (with_reducible rfl))
                try simp only [Act.put, List.setIfInBounds_toArray, List.set_cons_zero, List.set_cons_succ]
                refine take_h 15 _ rfl (by kernel_rfl) (by kernel_rfl) (by kernel_rfl) (fun _ _ _ h => h) (yieldsIf_load_mid (by kernel_rfl) 29 (.tmp 39) rfl g (off + q * 42) rfl CY _ (fun w hSw => hSw.2.2) uH rfl iY) (by assumption) ?_
                try simp only [Act.put, List.setIfInBounds_toArray, List.set_cons_zero, List.set_cons_succ]
                refine call_h 16 rfl (by kernel_rfl) 21 #[.agg CX.toArray, .agg CY.toArray] (by kernel_rfl) (by go_simp) ?_
                refine (HCl.out V).mono ?_
                rintro e V1 ⟨rfl, hb1⟩
                refine ⟨_, rfl, ⟨cell_below' hb1 hHeld.1, rangeAt_below' hHeld.2.1 hb1, rangeAt_below' hHeld.2.2 hb1⟩, fun _ => ?_⟩
                try simp only [Act.put, List.setIfInBounds_toArray, List.set_cons_zero, List.set_cons_succ]
                have HV1 := Seal.mk (HV.out.below hb1)
                clear hb1 hHeld
                refine take_h 17 ?_ rfl (by kernel_rfl) (by kernel_rfl) (by kernel_rfl) (fun _ _ _ h => h) (Or.inl ⟨by kernel_rfl, ?_⟩) (by assumption) ?_
                rotate_left
                · (intro w hSw; (try dsimp only at hSw); go_simp; try (with_reducible rfl))
                try simp only [Act.put, List.setIfInBounds_toArray, List.set_cons_zero, List.set_cons_succ]
                refine take_h 18 ?_ rfl (by kernel_rfl) (by kernel_rfl) (by kernel_rfl) (fun _ _ _ h => h) (Or.inl ⟨by kernel_rfl, ?_⟩) (by assumption) ?_
                rotate_left
                · (intro w hSw; (try dsimp only at hSw); go_simp; try (with_reducible rfl))
                try simp only [Act.put, List.setIfInBounds_toArray, List.set_cons_zero, List.set_cons_succ]
                refine take_h 19 undef rfl (by kernel_rfl) (by kernel_rfl) (by kernel_rfl) (fun _ _ _ h => h) (Or.inr ⟨by kernel_rfl, rfl⟩) (by assumption) ?_
                try simp only [Act.put, List.setIfInBounds_toArray, List.set_cons_zero, List.set_cons_succ]
                refine take_h 20 undef rfl (by kernel_rfl) (by kernel_rfl) (by kernel_rfl) (fun _ _ _ h => h) (Or.inr ⟨by kernel_rfl, rfl⟩) (by assumption) ?_
                try simp only [Act.put, List.setIfInBounds_toArray, List.set_cons_zero, List.set_cons_succ]
                refine take_h 21 undef rfl (by kernel_rfl) (by kernel_rfl) (by kernel_rfl) (fun _ _ _ h => h) (Or.inr ⟨by kernel_rfl, rfl⟩) (by assumption) ?_
                try simp only [Act.put, List.setIfInBounds_toArray, List.set_cons_zero, List.set_cons_succ]
                refine take_h 22 undef rfl (by kernel_rfl) (by kernel_rfl) (by kernel_rfl) (fun _ _ _ h => h) (Or.inr ⟨by kernel_rfl, rfl⟩) (by assumption) ?_
                try simp only [Act.put, List.setIfInBounds_toArray, List.set_cons_zero, List.set_cons_succ]
                refine take_h 23 undef rfl (by kernel_rfl) (by kernel_rfl) (by kernel_rfl) (fun _ _ _ h => h) (Or.inr ⟨by kernel_rfl, rfl⟩) (by assumption) ?_
                try simp only [Act.put, List.setIfInBounds_toArray, List.set_cons_zero, List.set_cons_succ]
                refine take_h 24 undef rfl (by kernel_rfl) (by kernel_rfl) (by kernel_rfl) (fun _ _ _ h => h) (Or.inr ⟨by kernel_rfl, rfl⟩) (by assumption) ?_
                try simp only [Act.put, List.setIfInBounds_toArray, List.set_cons_zero, List.set_cons_succ]
                refine take_h 25 undef rfl (by kernel_rfl) (by kernel_rfl) (by kernel_rfl) (fun _ _ _ h => h) (Or.inr ⟨by kernel_rfl, rfl⟩) (by assumption) ?_
                try simp only [Act.put, List.setIfInBounds_toArray, List.set_cons_zero, List.set_cons_succ]
                refine take_h 26 undef rfl (by kernel_rfl) (by kernel_rfl) (by kernel_rfl) (fun _ _ _ h => h) (Or.inr ⟨by kernel_rfl, rfl⟩) (by assumption) ?_
                try simp only [Act.put, List.setIfInBounds_toArray, List.set_cons_zero, List.set_cons_succ]
                refine take_h 27 undef rfl (by kernel_rfl) (by kernel_rfl) (by kernel_rfl) (fun _ _ _ h => h) (Or.inr ⟨by kernel_rfl, rfl⟩) (by assumption) ?_
                try simp only [Act.put, List.setIfInBounds_toArray, List.set_cons_zero, List.set_cons_succ]
                refine take_h 28 undef rfl (by kernel_rfl) (by kernel_rfl) (by kernel_rfl) (fun _ _ _ h => h) (Or.inr ⟨by kernel_rfl, rfl⟩) (by assumption) ?_
                try simp only [Act.put, List.setIfInBounds_toArray, List.set_cons_zero, List.set_cons_succ]
                refine take_h 29 undef rfl (by kernel_rfl) (by kernel_rfl) (by kernel_rfl) (fun _ _ _ h => h) (Or.inr ⟨by kernel_rfl, rfl⟩) (by assumption) ?_
                try simp only [Act.put, List.setIfInBounds_toArray, List.set_cons_zero, List.set_cons_succ]
                refine take_h 30 ?_ rfl (by kernel_rfl) (by kernel_rfl) (by kernel_rfl) (fun _ _ _ h => h) (Or.inl ⟨by kernel_rfl, ?_⟩) (by assumption) ?_
                rotate_left
                · (intro w hSw; (try dsimp only at hSw); go_simp; try (with_reducible rfl))
                try simp only [Act.put, List.setIfInBounds_toArray, List.set_cons_zero, List.set_cons_succ]
                refine wpAnyH_done (by kernel_rfl) ?_ _
                go_wp2
                go_roundw
                case rel => exact ⟨q + 1, best, by omega, by omega, rfl, by go_num, ⟨HV1.out, by rw [HQ.out.1, HNo.out]⟩⟩
                case measure => simp [intOf]; omega
              | true =>
                cases best with
                | none =>
                  have HYes : Seal (lieS o x none y = some (x, y)) := ⟨by rw [lieS_eq, if_pos ⟨by rw [← HF.out.1]; exact hfo, HF.out.2.symm, rfl⟩]⟩
                  obtain ⟨best, hbest⟩ : ∃ b : Option (Hd × Hd), b = none := ⟨_, rfl⟩
                  rw [← hbest] at hH HQ HYes
                  refine wp_region_held_drew (S := fun w' => w'.cell? ⟨g, off + k * 42 + 4, none⟩ = some (.int .i64 fr) ∧ w'.rangeAt g (off + k * 42) CX ∧ w'.rangeAt g (off + q * 42) CY) (by kernel_rfl) ⟨c4, rX, rY⟩ (fun hHeld => ?_)
                  have HV : Seal (LieR s o zl g6 (some ⟨g, off, none⟩) n c w best Wo.drew) := ⟨hH.out.1.below (below_drewn _)⟩
                  obtain ⟨V, hV⟩ : ∃ V, V = Wo.drew := ⟨_, rfl⟩
                  rw [← hV] at hHeld HV ⊢
                  clear hV rX rY c4
                  clear hfo hbest
                  refine take_h 0 ?_ rfl (by kernel_rfl) (by kernel_rfl) (by kernel_rfl) (fun _ _ _ h => h) (Or.inl ⟨by kernel_rfl, ?_⟩) (by assumption) ?_
                  rotate_left
                  · (intro w hSw; (try dsimp only at hSw); go_simp; try (with_reducible rfl))
                  try simp only [Act.put, List.setIfInBounds_toArray, List.set_cons_zero, List.set_cons_succ]
                  refine take_h 1 ?_ rfl (by kernel_rfl) (by kernel_rfl) (by kernel_rfl) (fun _ _ _ h => h) (Or.inl ⟨by kernel_rfl, ?_⟩) (by assumption) ?_
                  rotate_left
                  · (intro w hSw; (try dsimp only at hSw); go_simp; try (with_reducible rfl))
                  try simp only [Act.put, List.setIfInBounds_toArray, List.set_cons_zero, List.set_cons_succ]
                  refine take_h 2 ?_ rfl (by kernel_rfl) (by kernel_rfl) (by kernel_rfl) (fun _ _ _ h => h) (Or.inl ⟨by kernel_rfl, ?_⟩) (by assumption) ?_
                  rotate_left
                  · (intro w hSw; (try dsimp only at hSw); go_simp; try (with_reducible rfl))
                  try simp only [Act.put, List.setIfInBounds_toArray, List.set_cons_zero, List.set_cons_succ]
                  refine take_h 3 ?_ rfl (by kernel_rfl) (by kernel_rfl) (by kernel_rfl) (fun _ _ _ h => h) (Or.inl ⟨by kernel_rfl, ?_⟩) (by assumption) ?_
                  rotate_left
                  · (intro w hSw; (try dsimp only at hSw); go_simp; try (with_reducible rfl))
                  try simp only [Act.put, List.setIfInBounds_toArray, List.set_cons_zero, List.set_cons_succ]
                  refine take_h 4 ?_ rfl (by kernel_rfl) (by kernel_rfl) (by kernel_rfl) (fun _ _ _ h => h) (Or.inl ⟨by kernel_rfl, ?_⟩) (by assumption) ?_
                  rotate_left
                  · (intro w hSw; (try dsimp only at hSw); go_simp; try (with_reducible rfl))
                  try simp only [Act.put, List.setIfInBounds_toArray, List.set_cons_zero, List.set_cons_succ]
                  refine take_h 5 ?_ rfl (by kernel_rfl) (by kernel_rfl) (by kernel_rfl) (fun _ _ _ h => h) (Or.inl ⟨by kernel_rfl, ?_⟩) (by assumption) ?_
                  rotate_left
                  · (intro w hSw; (try dsimp only at hSw); go_simp; try (with_reducible rfl))
                  try simp only [Act.put, List.setIfInBounds_toArray, List.set_cons_zero, List.set_cons_succ]
                  refine take_h 6 ?_ rfl (by kernel_rfl) (by kernel_rfl) (by kernel_rfl) (fun _ _ _ h => h) (Or.inl ⟨by kernel_rfl, ?_⟩) (by assumption) ?_
                  rotate_left
                  · (intro w hSw; (try dsimp only at hSw); go_simp; try (with_reducible rfl))
                  try simp only [Act.put, List.setIfInBounds_toArray, List.set_cons_zero, List.set_cons_succ]
                  refine take_h 7 ?_ rfl (by kernel_rfl) (by kernel_rfl) (by kernel_rfl) (fun _ _ _ h => h) (Or.inl ⟨by kernel_rfl, ?_⟩) (by assumption) ?_
                  rotate_left
                  · (intro w hSw; (try dsimp only at hSw); go_simp; try (with_reducible rfl))
                  try simp only [Act.put, List.setIfInBounds_toArray, List.set_cons_zero, List.set_cons_succ]
                  refine take_h 8 ?_ rfl (by kernel_rfl) (by kernel_rfl) (by kernel_rfl) (fun _ _ _ h => h) (Or.inl ⟨by kernel_rfl, ?_⟩) (by assumption) ?_
                  rotate_left
                  · (intro w hSw; (try dsimp only at hSw); go_simp; try (with_reducible rfl))
                  try simp only [Act.put, List.setIfInBounds_toArray, List.set_cons_zero, List.set_cons_succ]
                  refine take_h 9 ?_ rfl (by kernel_rfl) (by kernel_rfl) (by kernel_rfl) (fun _ _ _ h => h) (Or.inl ⟨by kernel_rfl, ?_⟩) (by assumption) ?_
                  rotate_left
                  · (intro w hSw; (try dsimp only at hSw); go_simp; try (with_reducible rfl))
                  try simp only [Act.put, List.setIfInBounds_toArray, List.set_cons_zero, List.set_cons_succ]
                  refine take_h 10 ?_ rfl (by kernel_rfl) (by kernel_rfl) (by kernel_rfl) (fun _ _ _ h => h) (Or.inl ⟨by kernel_rfl, ?_⟩) (by assumption) ?_
                  rotate_left
                  · (intro w hSw; (try dsimp only at hSw); go_simp; try (with_reducible rfl))
                  try simp only [Act.put, List.setIfInBounds_toArray, List.set_cons_zero, List.set_cons_succ]
                  refine take_h 11 _ rfl (by kernel_rfl) (by kernel_rfl) (by kernel_rfl) (fun _ _ _ h => h) (yieldsIf_load_mid (by kernel_rfl) 29 (.tmp 35) rfl g (off + k * 42) rfl CX _ (fun w hSw => hSw.2.1) uH rfl iX) (by assumption) ?_
                  try simp only [Act.put, List.setIfInBounds_toArray, List.set_cons_zero, List.set_cons_succ]
                  refine take_h 12 ?_ rfl (by kernel_rfl) (by kernel_rfl) (by kernel_rfl) (fun _ _ _ h => h) (Or.inl ⟨by kernel_rfl, ?_⟩) (by assumption) ?_
                  rotate_left
                  · (intro w hSw; (try dsimp only at hSw); go_simp; try (with_reducible rfl))
                  try simp only [Act.put, List.setIfInBounds_toArray, List.set_cons_zero, List.set_cons_succ]
                  refine take_h 13 ?_ rfl (by kernel_rfl) (by kernel_rfl) (by kernel_rfl) (fun _ _ _ h => h) (Or.inl ⟨by kernel_rfl, ?_⟩) (by assumption) ?_
                  rotate_left
                  · (intro w hSw; (try dsimp only at hSw); go_simp; try (with_reducible rfl))
                  try simp only [Act.put, List.setIfInBounds_toArray, List.set_cons_zero, List.set_cons_succ]
                  refine take_h 14 ?_ rfl (by kernel_rfl) (by kernel_rfl) (by kernel_rfl) (fun _ _ _ h => h) (Or.inl ⟨by kernel_rfl, ?_⟩) (by assumption) ?_
                  rotate_left
                  · (intro w hSw; (try dsimp only at hSw); go_simp; try (with_reducible rfl))
                  try simp only [Act.put, List.setIfInBounds_toArray, List.set_cons_zero, List.set_cons_succ]
                  refine take_h 15 _ rfl (by kernel_rfl) (by kernel_rfl) (by kernel_rfl) (fun _ _ _ h => h) (yieldsIf_load_mid (by kernel_rfl) 29 (.tmp 39) rfl g (off + q * 42) rfl CY _ (fun w hSw => hSw.2.2) uH rfl iY) (by assumption) ?_
                  try simp only [Act.put, List.setIfInBounds_toArray, List.set_cons_zero, List.set_cons_succ]
                  refine call_h 16 rfl (by kernel_rfl) 21 #[.agg CX.toArray, .agg CY.toArray] (by kernel_rfl) (by go_simp) ?_
                  refine (HCl.out V).mono ?_
                  rintro e V1 ⟨rfl, hb1⟩
                  refine ⟨_, rfl, ⟨cell_below' hb1 hHeld.1, rangeAt_below' hHeld.2.1 hb1, rangeAt_below' hHeld.2.2 hb1⟩, fun hHeld2 => ?_⟩
                  try simp only [Act.put, List.setIfInBounds_toArray, List.set_cons_zero, List.set_cons_succ]
                  have HV1 := Seal.mk (HV.out.below hb1)
                  clear hb1 hHeld
                  refine take_h 17 ?_ rfl (by kernel_rfl) (by kernel_rfl) (by kernel_rfl) (fun _ _ _ h => h) (Or.inl ⟨by kernel_rfl, ?_⟩) (by assumption) ?_
                  rotate_left
                  · (intro w hSw; (try dsimp only at hSw); go_simp; try (with_reducible rfl))
                  try simp only [Act.put, List.setIfInBounds_toArray, List.set_cons_zero, List.set_cons_succ]
                  refine take_h 18 ?_ rfl (by kernel_rfl) (by kernel_rfl) (by kernel_rfl) (fun _ _ _ h => h) (Or.inl ⟨by kernel_rfl, ?_⟩) (by assumption) ?_
                  rotate_left
                  · (intro w hSw; (try dsimp only at hSw); go_simp; try (with_reducible rfl))
                  try simp only [Act.put, List.setIfInBounds_toArray, List.set_cons_zero, List.set_cons_succ]
                  refine take_h 19 ?_ rfl (by kernel_rfl) (by kernel_rfl) (by kernel_rfl) (fun _ _ _ h => h) (Or.inl ⟨by kernel_rfl, ?_⟩) (by assumption) ?_
                  rotate_left
                  · (intro w hSw; (try dsimp only at hSw); go_simp; try (with_reducible rfl))
                  try simp only [Act.put, List.setIfInBounds_toArray, List.set_cons_zero, List.set_cons_succ]
                  refine take_h 20 ?_ rfl (by kernel_rfl) (by kernel_rfl) (by kernel_rfl) (fun _ _ _ h => h) (Or.inl ⟨by kernel_rfl, ?_⟩) (by assumption) ?_
                  rotate_left
                  · (intro w hSw; (try dsimp only at hSw); go_simp; try (with_reducible rfl))
                  try simp only [Act.put, List.setIfInBounds_toArray, List.set_cons_zero, List.set_cons_succ]
                  refine take_h 21 ?_ rfl (by kernel_rfl) (by kernel_rfl) (by kernel_rfl) (fun _ _ _ h => h) (Or.inl ⟨by kernel_rfl, ?_⟩) (by assumption) ?_
                  rotate_left
                  · (intro w hSw; (try dsimp only at hSw); go_simp; try (with_reducible rfl))
                  try simp only [Act.put, List.setIfInBounds_toArray, List.set_cons_zero, List.set_cons_succ]
                  refine take_h 22 undef rfl (by kernel_rfl) (by kernel_rfl) (by kernel_rfl) (fun _ _ _ h => h) (Or.inr ⟨by kernel_rfl, rfl⟩) (by assumption) ?_
                  try simp only [Act.put, List.setIfInBounds_toArray, List.set_cons_zero, List.set_cons_succ]
                  refine take_h 23 undef rfl (by kernel_rfl) (by kernel_rfl) (by kernel_rfl) (fun _ _ _ h => h) (Or.inr ⟨by kernel_rfl, rfl⟩) (by assumption) ?_
                  try simp only [Act.put, List.setIfInBounds_toArray, List.set_cons_zero, List.set_cons_succ]
                  refine take_h 24 undef rfl (by kernel_rfl) (by kernel_rfl) (by kernel_rfl) (fun _ _ _ h => h) (Or.inr ⟨by kernel_rfl, rfl⟩) (by assumption) ?_
                  try simp only [Act.put, List.setIfInBounds_toArray, List.set_cons_zero, List.set_cons_succ]
                  refine take_h 25 undef rfl (by kernel_rfl) (by kernel_rfl) (by kernel_rfl) (fun _ _ _ h => h) (Or.inr ⟨by kernel_rfl, rfl⟩) (by assumption) ?_
                  try simp only [Act.put, List.setIfInBounds_toArray, List.set_cons_zero, List.set_cons_succ]
                  refine take_h 26 undef rfl (by kernel_rfl) (by kernel_rfl) (by kernel_rfl) (fun _ _ _ h => h) (Or.inr ⟨by kernel_rfl, rfl⟩) (by assumption) ?_
                  try simp only [Act.put, List.setIfInBounds_toArray, List.set_cons_zero, List.set_cons_succ]
                  refine take_h 27 undef rfl (by kernel_rfl) (by kernel_rfl) (by kernel_rfl) (fun _ _ _ h => h) (Or.inr ⟨by kernel_rfl, rfl⟩) (by assumption) ?_
                  try simp only [Act.put, List.setIfInBounds_toArray, List.set_cons_zero, List.set_cons_succ]
                  refine take_h 28 undef rfl (by kernel_rfl) (by kernel_rfl) (by kernel_rfl) (fun _ _ _ h => h) (Or.inr ⟨by kernel_rfl, rfl⟩) (by assumption) ?_
                  try simp only [Act.put, List.setIfInBounds_toArray, List.set_cons_zero, List.set_cons_succ]
                  refine take_h 29 ?_ rfl (by kernel_rfl) (by kernel_rfl) (by kernel_rfl) (fun _ _ _ h => h) (Or.inl ⟨by kernel_rfl, ?_⟩) (by assumption) ?_
                  rotate_left
                  · (intro w hSw; (try dsimp only at hSw); go_simp; try (with_reducible rfl))
                  try simp only [Act.put, List.setIfInBounds_toArray, List.set_cons_zero, List.set_cons_succ]
                  refine take_h 30 ?_ rfl (by kernel_rfl) (by kernel_rfl) (by kernel_rfl) (fun _ _ _ h => h) (Or.inl ⟨by kernel_rfl, ?_⟩) (by assumption) ?_
                  rotate_left
                  · (intro w hSw; (try dsimp only at hSw); go_simp; try (with_reducible rfl))
                  try simp only [Act.put, List.setIfInBounds_toArray, List.set_cons_zero, List.set_cons_succ]
                  refine wpAnyH_done (by kernel_rfl) ?_ _
                  go_wp2_with fail
                  have rX1 := hHeld2.2.1
                  have rY1 := hHeld2.2.2
                  refine wp_region_held_drew (S := fun w' => w'.rangeAt g (off + k * 42) CX ∧ w'.rangeAt g (off + q * 42) CY) (by kernel_rfl) ⟨rX1, rY1⟩ (fun hHeld3 => ?_)
                  have HU : Seal (LieR s o zl g6 (some ⟨g, off, none⟩) n c w best V1.drew) := ⟨HV1.out.below (below_drewn _)⟩
                  obtain ⟨U, hU⟩ : ∃ U, U = V1.drew := ⟨_, rfl⟩
                  rw [← hU] at hHeld3 HU ⊢
                  clear hU rX1 rY1
                  refine take_h 0 ?_ rfl (by kernel_rfl) (by kernel_rfl) (by kernel_rfl) (fun _ _ _ h => h) (Or.inl ⟨by kernel_rfl, ?_⟩) (by assumption) ?_
                  rotate_left
                  · (intro w hSw; (try dsimp only at hSw); go_simp; try (with_reducible rfl))
                  try simp only [Act.put, List.setIfInBounds_toArray, List.set_cons_zero, List.set_cons_succ]
                  refine take_h 1 ?_ rfl (by kernel_rfl) (by kernel_rfl) (by kernel_rfl) (fun _ _ _ h => h) (Or.inl ⟨by kernel_rfl, ?_⟩) (by assumption) ?_
                  rotate_left
                  · (intro w hSw; (try dsimp only at hSw); go_simp; try (with_reducible rfl))
                  try simp only [Act.put, List.setIfInBounds_toArray, List.set_cons_zero, List.set_cons_succ]
                  refine take_h 2 ?_ rfl (by kernel_rfl) (by kernel_rfl) (by kernel_rfl) (fun _ _ _ h => h) (Or.inl ⟨by kernel_rfl, ?_⟩) (by assumption) ?_
                  rotate_left
                  · (intro w hSw; (try dsimp only at hSw); go_simp; try (with_reducible rfl))
                  try simp only [Act.put, List.setIfInBounds_toArray, List.set_cons_zero, List.set_cons_succ]
                  refine take_h 3 _ rfl (by kernel_rfl) (by kernel_rfl) (by kernel_rfl) (fun _ _ _ h => h) (yieldsIf_load_mid (by kernel_rfl) 29 (.tmp 58) rfl g (off + k * 42) rfl CX _ (fun w hSw => hSw.1) uH rfl iX) (by assumption) ?_
                  try simp only [Act.put, List.setIfInBounds_toArray, List.set_cons_zero, List.set_cons_succ]
                  refine take_h 4 ?_ rfl (by kernel_rfl) (by kernel_rfl) (by kernel_rfl) (fun _ _ _ h => h) (Or.inl ⟨by kernel_rfl, ?_⟩) (by assumption) ?_
                  rotate_left
                  · (intro w hSw; (try dsimp only at hSw); go_simp; try (with_reducible rfl))
                  try simp only [Act.put, List.setIfInBounds_toArray, List.set_cons_zero, List.set_cons_succ]
                  refine take_h 5 ?_ rfl (by kernel_rfl) (by kernel_rfl) (by kernel_rfl) (fun _ _ _ h => h) (Or.inl ⟨by kernel_rfl, ?_⟩) (by assumption) ?_
                  rotate_left
                  · (intro w hSw; (try dsimp only at hSw); go_simp; try (with_reducible rfl))
                  try simp only [Act.put, List.setIfInBounds_toArray, List.set_cons_zero, List.set_cons_succ]
                  refine take_h 6 ?_ rfl (by kernel_rfl) (by kernel_rfl) (by kernel_rfl) (fun _ _ _ h => h) (Or.inl ⟨by kernel_rfl, ?_⟩) (by assumption) ?_
                  rotate_left
                  · (intro w hSw; (try dsimp only at hSw); go_simp; try (with_reducible rfl))
                  try simp only [Act.put, List.setIfInBounds_toArray, List.set_cons_zero, List.set_cons_succ]
                  refine take_h 7 _ rfl (by kernel_rfl) (by kernel_rfl) (by kernel_rfl) (fun _ _ _ h => h) (yieldsIf_load_mid (by kernel_rfl) 29 (.tmp 62) rfl g (off + q * 42) rfl CY _ (fun w hSw => hSw.2) uH rfl iY) (by assumption) ?_
                  try simp only [Act.put, List.setIfInBounds_toArray, List.set_cons_zero, List.set_cons_succ]
                  refine oper_h 8 (.agg (CX ++ CY).toArray) U rfl (by kernel_rfl) (by kernel_rfl) (exec_build_lie rfl CX CY lX lY rfl rfl U) hHeld3 (fun _ => ?_)
                  try simp only [Act.put, List.setIfInBounds_toArray, List.set_cons_zero, List.set_cons_succ]
                  have hrow := HU.out.row
                  have HU2 : Seal (LieR s o zl g6 (some ⟨g, off, none⟩) n c w (some (x, y)) (U.setRow g6 (CX ++ CY).toArray)) := ⟨by rw [HC.out.1, HC.out.2]; exact HU.out.store HG6.out.1 (fun g' off' e h0 => by cases e; exact HG6.out.2.1) x y HOK.out.1 HOK.out.2⟩
                  refine skip_h 9 (U.setRow g6 (CX ++ CY).toArray) rfl (by kernel_rfl) (by kernel_rfl) (exec_store_row 74 (.tmp 6) (.tmp 64) rfl g6 (CX ++ CY).toArray rfl rfl 74 _ hrow (by rw [List.size_toArray]; exact HLX.out.1) (by rw [List.size_toArray, List.size_toArray, HLX.out.2.1]; exact lieO_len HZL.out.1 HU.out.okb) (all_oneCell_toArray HLX.out.2.2)) ⟨rangeAt_setRow hHeld3.1 HG6.out.2.2, rangeAt_setRow hHeld3.2 HG6.out.2.2⟩ (fun _ => ?_)
                  try simp only [Act.put, List.setIfInBounds_toArray, List.set_cons_zero, List.set_cons_succ]
                  clear hHeld3 hrow
                  refine wpAnyH_done (by kernel_rfl) ?_ _
                  go_wp2
                  go_roundw
                  case rel => exact ⟨q + 1, some (x, y), by omega, by omega, rfl, by go_num, ⟨HU2.out, by rw [HQ.out.1, HYes.out]⟩⟩
                  case measure => simp [intOf]; omega
                | some bb =>
                  obtain ⟨b1, b2⟩ := bb
                  obtain ⟨best, hbest⟩ : ∃ b : Option (Hd × Hd), b = some (b1, b2) := ⟨_, rfl⟩
                  obtain ⟨bf, hbf⟩ : ∃ bf, bf = befB x b1 := ⟨_, rfl⟩
                  have okb := hH.out.1.okb _ rfl
                  obtain ⟨CB, hCB⟩ : ∃ C, C = b1.C := ⟨_, rfl⟩
                  have rB : Wo.rangeAt g6 0 CB := by
                    have h0 := rangeAt_row hH.out.1.row
                    have h1 := rangeAt_take h0 42
                    have e : (lieO zl (some (b1, b2))).take 42 = b1.C := by unfold lieO lieC; exact List.take_left' (Hd.C_len okb.1.t32)
                    rw [e] at h1
                    rw [hCB]; exact h1
                  have HBf : Seal (∀ W', Calls Tryd.prog 42 #[.agg CX.toArray, .agg CB.toArray] W' fun e w' => e = .returned (.bool bf) ∧ Below W'.heap.size W' w') := ⟨fun W' => by rw [HC.out.1, hCB, hbf]; exact rbefore_any x b1 W' HOK.out.1.t32 okb.1.t32⟩
                  have iB : (Tryd.prog.info? 29).map (·.size) = some CB.length := by rw [hCB]; exact Hd.C_info okb.1.t32
                  have HLb : Seal (lieS o x best y = if bf = true then some (x, y) else best) := ⟨by
                    rw [lieS_eq, hbest, hbf]
                    have e1 : x.fr = o := by rw [← HF.out.1]; exact hfo
                    by_cases e : befB x b1 = true
                    · rw [if_pos ⟨e1, HF.out.2.symm, e⟩, if_pos e]
                    · rw [if_neg (fun h => e h.2.2), if_neg e]⟩
                  have HBest := Seal.mk hbest
                  rw [← hbest] at hH HQ
                  refine wp_region_held_drew (S := fun w' => (w'.cell? ⟨g, off + k * 42 + 4, none⟩ = some (.int .i64 fr) ∧ w'.rangeAt g6 0 CB) ∧ w'.rangeAt g (off + k * 42) CX ∧ w'.rangeAt g (off + q * 42) CY) (by kernel_rfl) ⟨⟨c4, rB⟩, rX, rY⟩ (fun hHeld => ?_)
                  have HV : Seal (LieR s o zl g6 (some ⟨g, off, none⟩) n c w best Wo.drew) := ⟨hH.out.1.below (below_drewn _)⟩
                  obtain ⟨V, hV⟩ : ∃ V, V = Wo.drew := ⟨_, rfl⟩
                  rw [← hV] at hHeld HV ⊢
                  clear hV rX rY c4
                  clear hfo hbest hCB hbf rB okb
                  refine take_h 0 ?_ rfl (by kernel_rfl) (by kernel_rfl) (by kernel_rfl) (fun _ _ _ h => h) (Or.inl ⟨by kernel_rfl, ?_⟩) (by assumption) ?_
                  rotate_left
                  · (intro w hSw; (try dsimp only at hSw); go_simp; try (with_reducible rfl))
                  try simp only [Act.put, List.setIfInBounds_toArray, List.set_cons_zero, List.set_cons_succ]
                  refine take_h 1 ?_ rfl (by kernel_rfl) (by kernel_rfl) (by kernel_rfl) (fun _ _ _ h => h) (Or.inl ⟨by kernel_rfl, ?_⟩) (by assumption) ?_
                  rotate_left
                  · (intro w hSw; (try dsimp only at hSw); go_simp; try (with_reducible rfl))
                  try simp only [Act.put, List.setIfInBounds_toArray, List.set_cons_zero, List.set_cons_succ]
                  refine take_h 2 ?_ rfl (by kernel_rfl) (by kernel_rfl) (by kernel_rfl) (fun _ _ _ h => h) (Or.inl ⟨by kernel_rfl, ?_⟩) (by assumption) ?_
                  rotate_left
                  · (intro w hSw; (try dsimp only at hSw); go_simp; try (with_reducible rfl))
                  try simp only [Act.put, List.setIfInBounds_toArray, List.set_cons_zero, List.set_cons_succ]
                  refine take_h 3 ?_ rfl (by kernel_rfl) (by kernel_rfl) (by kernel_rfl) (fun _ _ _ h => h) (Or.inl ⟨by kernel_rfl, ?_⟩) (by assumption) ?_
                  rotate_left
                  · (intro w hSw; (try dsimp only at hSw); go_simp; try (with_reducible rfl))
                  try simp only [Act.put, List.setIfInBounds_toArray, List.set_cons_zero, List.set_cons_succ]
                  refine take_h 4 ?_ rfl (by kernel_rfl) (by kernel_rfl) (by kernel_rfl) (fun _ _ _ h => h) (Or.inl ⟨by kernel_rfl, ?_⟩) (by assumption) ?_
                  rotate_left
                  · (intro w hSw; (try dsimp only at hSw); go_simp; try (with_reducible rfl))
                  try simp only [Act.put, List.setIfInBounds_toArray, List.set_cons_zero, List.set_cons_succ]
                  refine take_h 5 ?_ rfl (by kernel_rfl) (by kernel_rfl) (by kernel_rfl) (fun _ _ _ h => h) (Or.inl ⟨by kernel_rfl, ?_⟩) (by assumption) ?_
                  rotate_left
                  · (intro w hSw; (try dsimp only at hSw); go_simp; try (with_reducible rfl))
                  try simp only [Act.put, List.setIfInBounds_toArray, List.set_cons_zero, List.set_cons_succ]
                  refine take_h 6 ?_ rfl (by kernel_rfl) (by kernel_rfl) (by kernel_rfl) (fun _ _ _ h => h) (Or.inl ⟨by kernel_rfl, ?_⟩) (by assumption) ?_
                  rotate_left
                  · (intro w hSw; (try dsimp only at hSw); go_simp; try (with_reducible rfl))
                  try simp only [Act.put, List.setIfInBounds_toArray, List.set_cons_zero, List.set_cons_succ]
                  refine take_h 7 ?_ rfl (by kernel_rfl) (by kernel_rfl) (by kernel_rfl) (fun _ _ _ h => h) (Or.inl ⟨by kernel_rfl, ?_⟩) (by assumption) ?_
                  rotate_left
                  · (intro w hSw; (try dsimp only at hSw); go_simp; try (with_reducible rfl))
                  try simp only [Act.put, List.setIfInBounds_toArray, List.set_cons_zero, List.set_cons_succ]
                  refine take_h 8 ?_ rfl (by kernel_rfl) (by kernel_rfl) (by kernel_rfl) (fun _ _ _ h => h) (Or.inl ⟨by kernel_rfl, ?_⟩) (by assumption) ?_
                  rotate_left
                  · (intro w hSw; (try dsimp only at hSw); go_simp; try (with_reducible rfl))
                  try simp only [Act.put, List.setIfInBounds_toArray, List.set_cons_zero, List.set_cons_succ]
                  refine take_h 9 ?_ rfl (by kernel_rfl) (by kernel_rfl) (by kernel_rfl) (fun _ _ _ h => h) (Or.inl ⟨by kernel_rfl, ?_⟩) (by assumption) ?_
                  rotate_left
                  · (intro w hSw; (try dsimp only at hSw); go_simp; try (with_reducible rfl))
                  try simp only [Act.put, List.setIfInBounds_toArray, List.set_cons_zero, List.set_cons_succ]
                  refine take_h 10 ?_ rfl (by kernel_rfl) (by kernel_rfl) (by kernel_rfl) (fun _ _ _ h => h) (Or.inl ⟨by kernel_rfl, ?_⟩) (by assumption) ?_
                  rotate_left
                  · (intro w hSw; (try dsimp only at hSw); go_simp; try (with_reducible rfl))
                  try simp only [Act.put, List.setIfInBounds_toArray, List.set_cons_zero, List.set_cons_succ]
                  refine take_h 11 _ rfl (by kernel_rfl) (by kernel_rfl) (by kernel_rfl) (fun _ _ _ h => h) (yieldsIf_load_mid (by kernel_rfl) 29 (.tmp 35) rfl g (off + k * 42) rfl CX _ (fun w hSw => hSw.2.1) uH rfl iX) (by assumption) ?_
                  try simp only [Act.put, List.setIfInBounds_toArray, List.set_cons_zero, List.set_cons_succ]
                  refine take_h 12 ?_ rfl (by kernel_rfl) (by kernel_rfl) (by kernel_rfl) (fun _ _ _ h => h) (Or.inl ⟨by kernel_rfl, ?_⟩) (by assumption) ?_
                  rotate_left
                  · (intro w hSw; (try dsimp only at hSw); go_simp; try (with_reducible rfl))
                  try simp only [Act.put, List.setIfInBounds_toArray, List.set_cons_zero, List.set_cons_succ]
                  refine take_h 13 ?_ rfl (by kernel_rfl) (by kernel_rfl) (by kernel_rfl) (fun _ _ _ h => h) (Or.inl ⟨by kernel_rfl, ?_⟩) (by assumption) ?_
                  rotate_left
                  · (intro w hSw; (try dsimp only at hSw); go_simp; try (with_reducible rfl))
                  try simp only [Act.put, List.setIfInBounds_toArray, List.set_cons_zero, List.set_cons_succ]
                  refine take_h 14 ?_ rfl (by kernel_rfl) (by kernel_rfl) (by kernel_rfl) (fun _ _ _ h => h) (Or.inl ⟨by kernel_rfl, ?_⟩) (by assumption) ?_
                  rotate_left
                  · (intro w hSw; (try dsimp only at hSw); go_simp; try (with_reducible rfl))
                  try simp only [Act.put, List.setIfInBounds_toArray, List.set_cons_zero, List.set_cons_succ]
                  refine take_h 15 _ rfl (by kernel_rfl) (by kernel_rfl) (by kernel_rfl) (fun _ _ _ h => h) (yieldsIf_load_mid (by kernel_rfl) 29 (.tmp 39) rfl g (off + q * 42) rfl CY _ (fun w hSw => hSw.2.2) uH rfl iY) (by assumption) ?_
                  try simp only [Act.put, List.setIfInBounds_toArray, List.set_cons_zero, List.set_cons_succ]
                  refine call_h 16 rfl (by kernel_rfl) 21 #[.agg CX.toArray, .agg CY.toArray] (by kernel_rfl) (by go_simp) ?_
                  refine (HCl.out V).mono ?_
                  rintro e V1 ⟨rfl, hb1⟩
                  refine ⟨_, rfl, ⟨⟨cell_below' hb1 hHeld.1.1, rangeAt_below' hHeld.1.2 hb1⟩, rangeAt_below' hHeld.2.1 hb1, rangeAt_below' hHeld.2.2 hb1⟩, fun hHeld2 => ?_⟩
                  try simp only [Act.put, List.setIfInBounds_toArray, List.set_cons_zero, List.set_cons_succ]
                  have HV1 := Seal.mk (HV.out.below hb1)
                  clear hb1 hHeld
                  refine take_h 17 ?_ rfl (by kernel_rfl) (by kernel_rfl) (by kernel_rfl) (fun _ _ _ h => h) (Or.inl ⟨by kernel_rfl, ?_⟩) (by assumption) ?_
                  rotate_left
                  · (intro w hSw; (try dsimp only at hSw); go_simp; try (with_reducible rfl))
                  try simp only [Act.put, List.setIfInBounds_toArray, List.set_cons_zero, List.set_cons_succ]
                  refine take_h 18 ?_ rfl (by kernel_rfl) (by kernel_rfl) (by kernel_rfl) (fun _ _ _ h => h) (Or.inl ⟨by kernel_rfl, ?_⟩) (by assumption) ?_
                  rotate_left
                  · (intro w hSw; (try dsimp only at hSw); go_simp; try (with_reducible rfl))
                  try simp only [Act.put, List.setIfInBounds_toArray, List.set_cons_zero, List.set_cons_succ]
                  refine take_h 19 ?_ rfl (by kernel_rfl) (by kernel_rfl) (by kernel_rfl) (fun _ _ _ h => h) (Or.inl ⟨by kernel_rfl, ?_⟩) (by assumption) ?_
                  rotate_left
                  · (intro w hSw; (try dsimp only at hSw); go_simp; try (with_reducible rfl))
                  try simp only [Act.put, List.setIfInBounds_toArray, List.set_cons_zero, List.set_cons_succ]
                  refine take_h 20 ?_ rfl (by kernel_rfl) (by kernel_rfl) (by kernel_rfl) (fun _ _ _ h => h) (Or.inl ⟨by kernel_rfl, ?_⟩) (by assumption) ?_
                  rotate_left
                  · (intro w hSw; (try dsimp only at hSw); go_simp; try (with_reducible rfl))
                  try simp only [Act.put, List.setIfInBounds_toArray, List.set_cons_zero, List.set_cons_succ]
                  refine take_h 21 ?_ rfl (by kernel_rfl) (by kernel_rfl) (by kernel_rfl) (fun _ _ _ h => h) (Or.inl ⟨by kernel_rfl, ?_⟩) (by assumption) ?_
                  rotate_left
                  · (intro w hSw; (try dsimp only at hSw); go_simp; try (with_reducible rfl))
                  try simp only [Act.put, List.setIfInBounds_toArray, List.set_cons_zero, List.set_cons_succ]
                  refine take_h 22 ?_ rfl (by kernel_rfl) (by kernel_rfl) (by kernel_rfl) (fun _ _ _ h => h) (Or.inl ⟨by kernel_rfl, ?_⟩) (by assumption) ?_
                  rotate_left
                  · (intro w hSw; (try dsimp only at hSw); go_simp; try (with_reducible rfl))
                  try simp only [Act.put, List.setIfInBounds_toArray, List.set_cons_zero, List.set_cons_succ]
                  refine take_h 23 ?_ rfl (by kernel_rfl) (by kernel_rfl) (by kernel_rfl) (fun _ _ _ h => h) (Or.inl ⟨by kernel_rfl, ?_⟩) (by assumption) ?_
                  rotate_left
                  · (intro w hSw; (try dsimp only at hSw); go_simp; try (with_reducible rfl))
                  try simp only [Act.put, List.setIfInBounds_toArray, List.set_cons_zero, List.set_cons_succ]
                  refine take_h 24 ?_ rfl (by kernel_rfl) (by kernel_rfl) (by kernel_rfl) (fun _ _ _ h => h) (Or.inl ⟨by kernel_rfl, ?_⟩) (by assumption) ?_
                  rotate_left
                  · (intro w hSw; (try dsimp only at hSw); go_simp; try (with_reducible rfl))
                  try simp only [Act.put, List.setIfInBounds_toArray, List.set_cons_zero, List.set_cons_succ]
                  refine take_h 25 _ rfl (by kernel_rfl) (by kernel_rfl) (by kernel_rfl) (fun _ _ _ h => h) (yieldsIf_load_mid (by kernel_rfl) 29 (.tmp 49) rfl g (off + k * 42) rfl CX _ (fun w hSw => hSw.2.1) uH rfl iX) (by assumption) ?_
                  try simp only [Act.put, List.setIfInBounds_toArray, List.set_cons_zero, List.set_cons_succ]
                  refine take_h 26 ?_ rfl (by kernel_rfl) (by kernel_rfl) (by kernel_rfl) (fun _ _ _ h => h) (Or.inl ⟨by kernel_rfl, ?_⟩) (by assumption) ?_
                  rotate_left
                  · (intro w hSw; (try dsimp only at hSw); go_simp; try (with_reducible rfl))
                  try simp only [Act.put, List.setIfInBounds_toArray, List.set_cons_zero, List.set_cons_succ]
                  refine take_h 27 _ rfl (by kernel_rfl) (by kernel_rfl) (by kernel_rfl) (fun _ _ _ h => h) (yieldsIf_load_mid (by kernel_rfl) 29 (.tmp 51) rfl g6 0 rfl CB _ (fun w hSw => hSw.1.2) uH rfl iB) (by assumption) ?_
                  try simp only [Act.put, List.setIfInBounds_toArray, List.set_cons_zero, List.set_cons_succ]
                  refine call_h 28 rfl (by kernel_rfl) 42 #[.agg CX.toArray, .agg CB.toArray] (by kernel_rfl) (by go_simp) ?_
                  refine (HBf.out V1).mono ?_
                  rintro e V2 ⟨rfl, hb2⟩
                  refine ⟨_, rfl, ⟨⟨cell_below' hb2 hHeld2.1.1, rangeAt_below' hHeld2.1.2 hb2⟩, rangeAt_below' hHeld2.2.1 hb2, rangeAt_below' hHeld2.2.2 hb2⟩, fun hHeld4 => ?_⟩
                  try simp only [Act.put, List.setIfInBounds_toArray, List.set_cons_zero, List.set_cons_succ]
                  have HV2 := Seal.mk (HV1.out.below hb2)
                  clear hb2 hHeld2
                  cases bf with
                  | false =>
                    have HNo : Seal (lieS o x best y = best) := ⟨by rw [HLb.out]; simp⟩
                    refine take_h 29 ?_ rfl (by kernel_rfl) (by kernel_rfl) (by kernel_rfl) (fun _ _ _ h => h) (Or.inl ⟨by kernel_rfl, ?_⟩) (by assumption) ?_
                    rotate_left
                    · (intro w hSw; (try dsimp only at hSw); go_simp; try (with_reducible rfl))
                    try simp only [Act.put, List.setIfInBounds_toArray, List.set_cons_zero, List.set_cons_succ]
                    refine take_h 30 ?_ rfl (by kernel_rfl) (by kernel_rfl) (by kernel_rfl) (fun _ _ _ h => h) (Or.inl ⟨by kernel_rfl, ?_⟩) (by assumption) ?_
                    rotate_left
                    · (intro w hSw; (try dsimp only at hSw); go_simp; try (with_reducible rfl))
                    try simp only [Act.put, List.setIfInBounds_toArray, List.set_cons_zero, List.set_cons_succ]
                    refine wpAnyH_done (by kernel_rfl) ?_ _
                    go_wp2
                    go_roundw
                    case rel => exact ⟨q + 1, best, by omega, by omega, (by rw [HBest.out]), by go_num, ⟨HV2.out, by rw [HQ.out.1, HNo.out]⟩⟩
                    case measure => simp [intOf]; omega
                  | true =>
                    have HYes : Seal (lieS o x best y = some (x, y)) := ⟨by rw [HLb.out]; simp⟩
                    refine take_h 29 ?_ rfl (by kernel_rfl) (by kernel_rfl) (by kernel_rfl) (fun _ _ _ h => h) (Or.inl ⟨by kernel_rfl, ?_⟩) (by assumption) ?_
                    rotate_left
                    · (intro w hSw; (try dsimp only at hSw); go_simp; try (with_reducible rfl))
                    try simp only [Act.put, List.setIfInBounds_toArray, List.set_cons_zero, List.set_cons_succ]
                    refine take_h 30 ?_ rfl (by kernel_rfl) (by kernel_rfl) (by kernel_rfl) (fun _ _ _ h => h) (Or.inl ⟨by kernel_rfl, ?_⟩) (by assumption) ?_
                    rotate_left
                    · (intro w hSw; (try dsimp only at hSw); go_simp; try (with_reducible rfl))
                    try simp only [Act.put, List.setIfInBounds_toArray, List.set_cons_zero, List.set_cons_succ]
                    refine wpAnyH_done (by kernel_rfl) ?_ _
                    go_wp2_with fail
                    have rX1 := hHeld4.2.1
                    have rY1 := hHeld4.2.2
                    refine wp_region_held_drew (S := fun w' => w'.rangeAt g (off + k * 42) CX ∧ w'.rangeAt g (off + q * 42) CY) (by kernel_rfl) ⟨rX1, rY1⟩ (fun hHeld3 => ?_)
                    have HU : Seal (LieR s o zl g6 (some ⟨g, off, none⟩) n c w best V2.drew) := ⟨HV2.out.below (below_drewn _)⟩
                    obtain ⟨U, hU⟩ : ∃ U, U = V2.drew := ⟨_, rfl⟩
                    rw [← hU] at hHeld3 HU ⊢
                    clear hU rX1 rY1
                    refine take_h 0 ?_ rfl (by kernel_rfl) (by kernel_rfl) (by kernel_rfl) (fun _ _ _ h => h) (Or.inl ⟨by kernel_rfl, ?_⟩) (by assumption) ?_
                    rotate_left
                    · (intro w hSw; (try dsimp only at hSw); go_simp; try (with_reducible rfl))
                    try simp only [Act.put, List.setIfInBounds_toArray, List.set_cons_zero, List.set_cons_succ]
                    refine take_h 1 ?_ rfl (by kernel_rfl) (by kernel_rfl) (by kernel_rfl) (fun _ _ _ h => h) (Or.inl ⟨by kernel_rfl, ?_⟩) (by assumption) ?_
                    rotate_left
                    · (intro w hSw; (try dsimp only at hSw); go_simp; try (with_reducible rfl))
                    try simp only [Act.put, List.setIfInBounds_toArray, List.set_cons_zero, List.set_cons_succ]
                    refine take_h 2 ?_ rfl (by kernel_rfl) (by kernel_rfl) (by kernel_rfl) (fun _ _ _ h => h) (Or.inl ⟨by kernel_rfl, ?_⟩) (by assumption) ?_
                    rotate_left
                    · (intro w hSw; (try dsimp only at hSw); go_simp; try (with_reducible rfl))
                    try simp only [Act.put, List.setIfInBounds_toArray, List.set_cons_zero, List.set_cons_succ]
                    refine take_h 3 _ rfl (by kernel_rfl) (by kernel_rfl) (by kernel_rfl) (fun _ _ _ h => h) (yieldsIf_load_mid (by kernel_rfl) 29 (.tmp 58) rfl g (off + k * 42) rfl CX _ (fun w hSw => hSw.1) uH rfl iX) (by assumption) ?_
                    try simp only [Act.put, List.setIfInBounds_toArray, List.set_cons_zero, List.set_cons_succ]
                    refine take_h 4 ?_ rfl (by kernel_rfl) (by kernel_rfl) (by kernel_rfl) (fun _ _ _ h => h) (Or.inl ⟨by kernel_rfl, ?_⟩) (by assumption) ?_
                    rotate_left
                    · (intro w hSw; (try dsimp only at hSw); go_simp; try (with_reducible rfl))
                    try simp only [Act.put, List.setIfInBounds_toArray, List.set_cons_zero, List.set_cons_succ]
                    refine take_h 5 ?_ rfl (by kernel_rfl) (by kernel_rfl) (by kernel_rfl) (fun _ _ _ h => h) (Or.inl ⟨by kernel_rfl, ?_⟩) (by assumption) ?_
                    rotate_left
                    · (intro w hSw; (try dsimp only at hSw); go_simp; try (with_reducible rfl))
                    try simp only [Act.put, List.setIfInBounds_toArray, List.set_cons_zero, List.set_cons_succ]
                    refine take_h 6 ?_ rfl (by kernel_rfl) (by kernel_rfl) (by kernel_rfl) (fun _ _ _ h => h) (Or.inl ⟨by kernel_rfl, ?_⟩) (by assumption) ?_
                    rotate_left
                    · (intro w hSw; (try dsimp only at hSw); go_simp; try (with_reducible rfl))
                    try simp only [Act.put, List.setIfInBounds_toArray, List.set_cons_zero, List.set_cons_succ]
                    refine take_h 7 _ rfl (by kernel_rfl) (by kernel_rfl) (by kernel_rfl) (fun _ _ _ h => h) (yieldsIf_load_mid (by kernel_rfl) 29 (.tmp 62) rfl g (off + q * 42) rfl CY _ (fun w hSw => hSw.2) uH rfl iY) (by assumption) ?_
                    try simp only [Act.put, List.setIfInBounds_toArray, List.set_cons_zero, List.set_cons_succ]
                    refine oper_h 8 (.agg (CX ++ CY).toArray) U rfl (by kernel_rfl) (by kernel_rfl) (exec_build_lie rfl CX CY lX lY rfl rfl U) hHeld3 (fun _ => ?_)
                    try simp only [Act.put, List.setIfInBounds_toArray, List.set_cons_zero, List.set_cons_succ]
                    have hrow := HU.out.row
                    have HU2 : Seal (LieR s o zl g6 (some ⟨g, off, none⟩) n c w (some (x, y)) (U.setRow g6 (CX ++ CY).toArray)) := ⟨by rw [HC.out.1, HC.out.2]; exact HU.out.store HG6.out.1 (fun g' off' e h0 => by cases e; exact HG6.out.2.1) x y HOK.out.1 HOK.out.2⟩
                    refine skip_h 9 (U.setRow g6 (CX ++ CY).toArray) rfl (by kernel_rfl) (by kernel_rfl) (exec_store_row 74 (.tmp 6) (.tmp 64) rfl g6 (CX ++ CY).toArray rfl rfl 74 _ hrow (by rw [List.size_toArray]; exact HLX.out.1) (by rw [List.size_toArray, List.size_toArray, HLX.out.2.1]; exact lieO_len HZL.out.1 HU.out.okb) (all_oneCell_toArray HLX.out.2.2)) ⟨rangeAt_setRow hHeld3.1 HG6.out.2.2, rangeAt_setRow hHeld3.2 HG6.out.2.2⟩ (fun _ => ?_)
                    try simp only [Act.put, List.setIfInBounds_toArray, List.set_cons_zero, List.set_cons_succ]
                    clear hHeld3 hrow
                    refine wpAnyH_done (by kernel_rfl) ?_ _
                    go_wp2
                    go_roundw
                    case rel => exact ⟨q + 1, some (x, y), by omega, by omega, rfl, by go_num, ⟨HU2.out, by rw [HQ.out.1, HYes.out]⟩⟩
                    case measure => simp [intOf]; omega
            · have qf : (fr == o) = false := by simp [hfo]
              have HNo : Seal (lieS o x best y = best) := ⟨by rw [lieS_eq, if_neg (by rw [← HF.out.1]; exact fun h => hfo h.1)]⟩
              refine wp_region_held_drew (S := fun w' => w'.cell? ⟨g, off + k * 42 + 4, none⟩ = some (.int .i64 fr)) (by kernel_rfl) c4 (fun hHeld => ?_)
              have HV : Seal (LieR s o zl g6 (some ⟨g, off, none⟩) n c w best Wo.drew) := ⟨hH.out.1.below (below_drewn _)⟩
              obtain ⟨V, hV⟩ : ∃ V, V = Wo.drew := ⟨_, rfl⟩
              rw [← hV] at hHeld HV ⊢
              clear hV rX rY c4
              clear hfo
              refine take_h 0 ?_ rfl (by kernel_rfl) (by kernel_rfl) (by kernel_rfl) (fun _ _ _ h => h) (Or.inl ⟨by kernel_rfl, ?_⟩) (by assumption) ?_
              rotate_left
              · (intro w hSw; (try dsimp only at hSw); go_simp; try (with_reducible rfl))
              try simp only [Act.put, List.setIfInBounds_toArray, List.set_cons_zero, List.set_cons_succ]
              refine take_h 1 ?_ rfl (by kernel_rfl) (by kernel_rfl) (by kernel_rfl) (fun _ _ _ h => h) (Or.inl ⟨by kernel_rfl, ?_⟩) (by assumption) ?_
              rotate_left
              · (intro w hSw; (try dsimp only at hSw); go_simp; try (with_reducible rfl))
              try simp only [Act.put, List.setIfInBounds_toArray, List.set_cons_zero, List.set_cons_succ]
              refine take_h 2 ?_ rfl (by kernel_rfl) (by kernel_rfl) (by kernel_rfl) (fun _ _ _ h => h) (Or.inl ⟨by kernel_rfl, ?_⟩) (by assumption) ?_
              rotate_left
              · (intro w hSw; (try dsimp only at hSw); go_simp; try (with_reducible rfl))
              try simp only [Act.put, List.setIfInBounds_toArray, List.set_cons_zero, List.set_cons_succ]
              refine take_h 3 ?_ rfl (by kernel_rfl) (by kernel_rfl) (by kernel_rfl) (fun _ _ _ h => h) (Or.inl ⟨by kernel_rfl, ?_⟩) (by assumption) ?_
              rotate_left
              · (intro w hSw; (try dsimp only at hSw); go_simp; try (with_reducible rfl))
              try simp only [Act.put, List.setIfInBounds_toArray, List.set_cons_zero, List.set_cons_succ]
              refine take_h 4 ?_ rfl (by kernel_rfl) (by kernel_rfl) (by kernel_rfl) (fun _ _ _ h => h) (Or.inl ⟨by kernel_rfl, ?_⟩) (by assumption) ?_
              rotate_left
              · (intro w hSw; (try dsimp only at hSw); go_simp; try (with_reducible rfl))
              try simp only [Act.put, List.setIfInBounds_toArray, List.set_cons_zero, List.set_cons_succ]
              refine take_h 5 ?_ rfl (by kernel_rfl) (by kernel_rfl) (by kernel_rfl) (fun _ _ _ h => h) (Or.inl ⟨by kernel_rfl, ?_⟩) (by assumption) ?_
              rotate_left
              · (intro w hSw; (try dsimp only at hSw); go_simp; try (with_reducible rfl))
              try simp only [Act.put, List.setIfInBounds_toArray, List.set_cons_zero, List.set_cons_succ]
              refine take_h 6 ?_ rfl (by kernel_rfl) (by kernel_rfl) (by kernel_rfl) (fun _ _ _ h => h) (Or.inl ⟨by kernel_rfl, ?_⟩) (by assumption) ?_
              rotate_left
              · (intro w hSw; (try dsimp only at hSw); go_simp; try (with_reducible rfl))
              try simp only [Act.put, List.setIfInBounds_toArray, List.set_cons_zero, List.set_cons_succ]
              refine take_h 7 ?_ rfl (by kernel_rfl) (by kernel_rfl) (by kernel_rfl) (fun _ _ _ h => h) (Or.inl ⟨by kernel_rfl, ?_⟩) (by assumption) ?_
              rotate_left
              · (intro w hSw; (try dsimp only at hSw); go_simp; try (with_reducible rfl))
              try simp only [Act.put, List.setIfInBounds_toArray, List.set_cons_zero, List.set_cons_succ]
              refine take_h 8 undef rfl (by kernel_rfl) (by kernel_rfl) (by kernel_rfl) (fun _ _ _ h => h) (Or.inr ⟨by kernel_rfl, rfl⟩) (by assumption) ?_
              try simp only [Act.put, List.setIfInBounds_toArray, List.set_cons_zero, List.set_cons_succ]
              refine take_h 9 undef rfl (by kernel_rfl) (by kernel_rfl) (by kernel_rfl) (fun _ _ _ h => h) (Or.inr ⟨by kernel_rfl, rfl⟩) (by assumption) ?_
              try simp only [Act.put, List.setIfInBounds_toArray, List.set_cons_zero, List.set_cons_succ]
              refine take_h 10 undef rfl (by kernel_rfl) (by kernel_rfl) (by kernel_rfl) (fun _ _ _ h => h) (Or.inr ⟨by kernel_rfl, rfl⟩) (by assumption) ?_
              try simp only [Act.put, List.setIfInBounds_toArray, List.set_cons_zero, List.set_cons_succ]
              refine take_h 11 undef rfl (by kernel_rfl) (by kernel_rfl) (by kernel_rfl) (fun _ _ _ h => h) (Or.inr ⟨by kernel_rfl, rfl⟩) (by assumption) ?_
              try simp only [Act.put, List.setIfInBounds_toArray, List.set_cons_zero, List.set_cons_succ]
              refine take_h 12 undef rfl (by kernel_rfl) (by kernel_rfl) (by kernel_rfl) (fun _ _ _ h => h) (Or.inr ⟨by kernel_rfl, rfl⟩) (by assumption) ?_
              try simp only [Act.put, List.setIfInBounds_toArray, List.set_cons_zero, List.set_cons_succ]
              refine take_h 13 undef rfl (by kernel_rfl) (by kernel_rfl) (by kernel_rfl) (fun _ _ _ h => h) (Or.inr ⟨by kernel_rfl, rfl⟩) (by assumption) ?_
              try simp only [Act.put, List.setIfInBounds_toArray, List.set_cons_zero, List.set_cons_succ]
              refine take_h 14 undef rfl (by kernel_rfl) (by kernel_rfl) (by kernel_rfl) (fun _ _ _ h => h) (Or.inr ⟨by kernel_rfl, rfl⟩) (by assumption) ?_
              try simp only [Act.put, List.setIfInBounds_toArray, List.set_cons_zero, List.set_cons_succ]
              refine take_h 15 undef rfl (by kernel_rfl) (by kernel_rfl) (by kernel_rfl) (fun _ _ _ h => h) (Or.inr ⟨by kernel_rfl, rfl⟩) (by assumption) ?_
              try simp only [Act.put, List.setIfInBounds_toArray, List.set_cons_zero, List.set_cons_succ]
              refine take_h 16 undef rfl (by kernel_rfl) (by kernel_rfl) (by kernel_rfl) (fun _ _ _ h => h) (Or.inr ⟨by kernel_rfl, rfl⟩) (by assumption) ?_
              try simp only [Act.put, List.setIfInBounds_toArray, List.set_cons_zero, List.set_cons_succ]
              refine take_h 17 ?_ rfl (by kernel_rfl) (by kernel_rfl) (by kernel_rfl) (fun _ _ _ h => h) (Or.inl ⟨by kernel_rfl, ?_⟩) (by assumption) ?_
              rotate_left
              · (intro w hSw; (try dsimp only at hSw); go_simp; try (with_reducible rfl))
              try simp only [Act.put, List.setIfInBounds_toArray, List.set_cons_zero, List.set_cons_succ]
              refine take_h 18 ?_ rfl (by kernel_rfl) (by kernel_rfl) (by kernel_rfl) (fun _ _ _ h => h) (Or.inl ⟨by kernel_rfl, ?_⟩) (by assumption) ?_
              rotate_left
              · (intro w hSw; (try dsimp only at hSw); go_simp; try (with_reducible rfl))
              try simp only [Act.put, List.setIfInBounds_toArray, List.set_cons_zero, List.set_cons_succ]
              refine take_h 19 undef rfl (by kernel_rfl) (by kernel_rfl) (by kernel_rfl) (fun _ _ _ h => h) (Or.inr ⟨by kernel_rfl, rfl⟩) (by assumption) ?_
              try simp only [Act.put, List.setIfInBounds_toArray, List.set_cons_zero, List.set_cons_succ]
              refine take_h 20 undef rfl (by kernel_rfl) (by kernel_rfl) (by kernel_rfl) (fun _ _ _ h => h) (Or.inr ⟨by kernel_rfl, rfl⟩) (by assumption) ?_
              try simp only [Act.put, List.setIfInBounds_toArray, List.set_cons_zero, List.set_cons_succ]
              refine take_h 21 undef rfl (by kernel_rfl) (by kernel_rfl) (by kernel_rfl) (fun _ _ _ h => h) (Or.inr ⟨by kernel_rfl, rfl⟩) (by assumption) ?_
              try simp only [Act.put, List.setIfInBounds_toArray, List.set_cons_zero, List.set_cons_succ]
              refine take_h 22 undef rfl (by kernel_rfl) (by kernel_rfl) (by kernel_rfl) (fun _ _ _ h => h) (Or.inr ⟨by kernel_rfl, rfl⟩) (by assumption) ?_
              try simp only [Act.put, List.setIfInBounds_toArray, List.set_cons_zero, List.set_cons_succ]
              refine take_h 23 undef rfl (by kernel_rfl) (by kernel_rfl) (by kernel_rfl) (fun _ _ _ h => h) (Or.inr ⟨by kernel_rfl, rfl⟩) (by assumption) ?_
              try simp only [Act.put, List.setIfInBounds_toArray, List.set_cons_zero, List.set_cons_succ]
              refine take_h 24 undef rfl (by kernel_rfl) (by kernel_rfl) (by kernel_rfl) (fun _ _ _ h => h) (Or.inr ⟨by kernel_rfl, rfl⟩) (by assumption) ?_
              try simp only [Act.put, List.setIfInBounds_toArray, List.set_cons_zero, List.set_cons_succ]
              refine take_h 25 undef rfl (by kernel_rfl) (by kernel_rfl) (by kernel_rfl) (fun _ _ _ h => h) (Or.inr ⟨by kernel_rfl, rfl⟩) (by assumption) ?_
              try simp only [Act.put, List.setIfInBounds_toArray, List.set_cons_zero, List.set_cons_succ]
              refine take_h 26 undef rfl (by kernel_rfl) (by kernel_rfl) (by kernel_rfl) (fun _ _ _ h => h) (Or.inr ⟨by kernel_rfl, rfl⟩) (by assumption) ?_
              try simp only [Act.put, List.setIfInBounds_toArray, List.set_cons_zero, List.set_cons_succ]
              refine take_h 27 undef rfl (by kernel_rfl) (by kernel_rfl) (by kernel_rfl) (fun _ _ _ h => h) (Or.inr ⟨by kernel_rfl, rfl⟩) (by assumption) ?_
              try simp only [Act.put, List.setIfInBounds_toArray, List.set_cons_zero, List.set_cons_succ]
              refine take_h 28 undef rfl (by kernel_rfl) (by kernel_rfl) (by kernel_rfl) (fun _ _ _ h => h) (Or.inr ⟨by kernel_rfl, rfl⟩) (by assumption) ?_
              try simp only [Act.put, List.setIfInBounds_toArray, List.set_cons_zero, List.set_cons_succ]
              refine take_h 29 undef rfl (by kernel_rfl) (by kernel_rfl) (by kernel_rfl) (fun _ _ _ h => h) (Or.inr ⟨by kernel_rfl, rfl⟩) (by assumption) ?_
              try simp only [Act.put, List.setIfInBounds_toArray, List.set_cons_zero, List.set_cons_succ]
              refine take_h 30 ?_ rfl (by kernel_rfl) (by kernel_rfl) (by kernel_rfl) (fun _ _ _ h => h) (Or.inl ⟨by kernel_rfl, ?_⟩) (by assumption) ?_
              rotate_left
              · (intro w hSw; (try dsimp only at hSw); go_simp; try (with_reducible rfl))
              try simp only [Act.put, List.setIfInBounds_toArray, List.set_cons_zero, List.set_cons_succ]
              refine wpAnyH_done (by kernel_rfl) ?_ _
              go_wp2
              go_roundw
              case rel => exact ⟨q + 1, best, by omega, by omega, rfl, by go_num, ⟨HV.out, by rw [HQ.out.1, HNo.out]⟩⟩
              case measure => simp [intOf]; omega
        · obtain rfl : q = n := by omega
          have q7 : ¬ (q : Int) < (q : Int) := by omega
          have HE : Seal (LieR s o zl g6 a q c w best Wo ∧ lieR s o = lieGo o (s.drop (k + 1)) best) := ⟨hH.out.1, by have h := hH.out.2; rw [List.drop_of_length_le (i := q) (by omega)] at h; exact h⟩
          clear hH
          go_wp2
          go_roundw
          case rel => exact ⟨k + 1, best, by omega, rfl, by go_num, HE⟩
          case measure => simp [intOf]; omega
    · obtain rfl : k = n := by omega
      have q5 : ¬ (k : Int) < (k : Int) := by omega
      have hE : lieR s o = best0 := by have h := hH0.out.2; rw [List.drop_of_length_le (by omega)] at h; exact h
      have hrow := hH0.out.1.row
      obtain ⟨z, hz4, hzs⟩ := hH0.out.1.z4
      have iO : (Tryd.prog.info? 74).map (·.size) = some (lieO zl best0).toArray.size := by rw [List.size_toArray, lieO_len HZL.out.1 hH0.out.1.okb]; kernel_rfl
      have sO : z.size = (lieO zl best0).toArray.size := by rw [hzs, List.size_toArray, lieO_len HZL.out.1 hH0.out.1.okb]
      have oO : (lieO zl best0).toArray.all (·.oneCell') = true := all_oneCell_toArray (lieO_one HZL.out.2 _)
      obtain ⟨LC, hLC⟩ : ∃ C, C = (lieO zl best0).toArray := ⟨_, rfl⟩
      rw [← hLC] at hrow iO sO oO
      have HE := Seal.mk (And.intro hE hLC)
      have HB := Seal.mk hH0.out.1.bel
      clear hH0 hE hLC
      go_wp2_with (first
        | (refine wpList_load_row rfl 74 (.tmp 6) rfl g6 rfl 74 LC (0, 0) _ hrow uL rfl iO ?_; (try simp only [Act.put, List.setIfInBounds_toArray, List.set_cons_zero, List.set_cons_succ]))
        | (refine wpList_store_row rfl 74 (.tmp 4) (.tmp 65) rfl w.heap.size LC rfl rfl 74 z hz4 iO sO oO ?_; (try simp only [Act.put, List.setIfInBounds_toArray, List.set_cons_zero, List.set_cons_succ])))
      exact bodyPost_ret (results_row_tmp (fn := Tryd.f74) rfl _ _ w.heap.size 74 LC (0, 0) _ _ rfl rfl (setRow_heap _ _ _ _ _ _ hz4) uL rfl iO) rfl ⟨by rw [HE.out.1, HE.out.2]; rfl, below_row HB.out (Nat.le_refl _) _⟩
end Frk

namespace Frk
open Go Go.RowKit Go.Proofs
set_option maxRecDepth 100000

theorem own_weaken {w : World} {b b' : Nat} {e : TypeId} {z n : Nat} {v : Value} {xs : List Value} (h : w.ownsRow b e z v n xs) (hb : b' ≤ b) : w.ownsRow b' e z v n xs := by
  refine ⟨h.1, ?_⟩
  rcases h.2 with h | ⟨g, cap, cur, e, hge, h⟩
  · exact .inl h
  · exact .inr ⟨g, cap, cur, e, by omega, h⟩


set_option maxHeartbeats 4000000 in
theorem rfind_any (n c kn kc : Nat) (a ka : Option Addr) (l : List Hd) (ks : List Int) (w : World) (hG : Glob w) (hl : IsHs w a n c l) (hk : IsKs w ka kn kc ks) (hn : n ≤ 100) :
    Calls Tryd.prog 35 #[.slice ka kn kc, .slice a n c] w (FindPost (fnd ks l) (ler ks) w) := by
  have hkl := hk.llen
  have hll := hl.llen
  unfold fnd ler
  rw [hkl]
  have hc := rlimit_any a ka n c kn kc w (by omega)
  by_cases h24 : 24 < kn
  · rw [if_pos h24, if_pos h24]
    rw [decide_eq_true h24] at hc
    have HC := Seal.mk hc
    clear hc hG hl hk hkl h24 hll
    go_enter Tryd.func35, Tryd.ntmps35
    go_wp2_with fail
    refine HC.out.mono ?_
    rintro e w1 ⟨rfl, rfl⟩
    go_wp2
    go_ret2
    exact ⟨_, rfl, ⟨World.ownsRow_nil _ _ _ _, Below.refl _ _⟩⟩
  · rw [if_neg h24, if_neg h24]
    rw [decide_eq_false h24] at hc
    have HC := Seal.mk hc
    have HS := Seal.mk (rsgn_any n c kn kc a ka l ks w hG hl hk)
    have HP : Seal (fndP ks l = fndK (fdF (sgd ks l)) kn) := ⟨by unfold fndP fndK; rw [hkl]⟩
    have HFok : Seal (∀ o x, fdF (sgd ks l) o = some x → x.1.ok ∧ x.2.ok) := ⟨fun o x h => lies_ok (ks := ks) (l := l) hl.each h⟩
    have HE : Seal (∀ o, lieR (sgd ks l) o = fdF (sgd ks l) o) := ⟨fun o => (fdF_eq _ sgd_fm o).symm⟩
    have HL : Seal ((sgd ks l).length ≤ 100 ∧ ∀ h ∈ sgd ks l, h.ok) := ⟨Nat.le_trans (List.length_filter_le _ _) (by omega), fun h hh => hl.each h (List.mem_filter.1 hh).1⟩
    obtain ⟨s, hs⟩ : ∃ s, s = sgd ks l := ⟨_, rfl⟩
    rw [← hs] at HS HP HFok HE HL
    obtain ⟨F, hF⟩ : ∃ F, F = fdF s := ⟨_, rfl⟩
    rw [← hF] at HP HFok HE
    have hkn : kn ≤ 24 := by omega
    clear hc hG hl hk hkl h24 hF hs hll
    obtain ⟨zl, hzl⟩ : ∃ zl : List Value, zl = Tryd.zeroCells74.toList := ⟨_, rfl⟩
    have ZL : Seal (Tryd.zeroCells74 = zl.toArray ∧ zl.length = 84) := ⟨by
      rw [hzl, Array.length_toList]
      exact ⟨by rw [Array.toArray_toList], by kernel_rfl⟩⟩
    have ZA : Seal (∀ (ρ : Operand → Value) (o : Oper) (w : World), o.op = .alloc 74 → (execOp ρ o).run Tryd.prog w = .ok (.value (.pointer (some ⟨w.heap.size, 0, none⟩))) (w.alloc (.cells zl.toArray 74))) := ⟨fun ρ o w ho => by rw [← ZL.out.1]; exact exec_alloc_lie ho w⟩
    have oZ : Seal (∀ v ∈ zl, v.oneCell' = true) := ⟨fun v hv => by
      have h : ∀ v ∈ Tryd.zeroCells74.toList, v.oneCell' = true := by decide +kernel
      rw [ZL.out.1] at h
      exact h v hv⟩
    clear hzl
    obtain ⟨i0, hi, hz0, hz1, hz2⟩ := info_parts info_lie
    have HI := Seal.mk (And.intro hi (And.intro hz0 (And.intro hz1 hz2)))
    have uL := Tryd.underlying74
    clear hi hz0 hz1 hz2
    go_enter Tryd.func35, Tryd.ntmps35
    go_wp2_with fail
    refine HC.out.mono ?_
    rintro e w1 ⟨rfl, rfl⟩
    clear HC
    go_wp2_with fail
    refine HS.out.mono ?_
    rintro e w2 ⟨v2, rfl, hP⟩
    obtain ⟨a2, c2, rfl, hIs⟩ := hs_of_own hP.out.1 HL.out.2 (by have := HL.out.1; omega)
    have HW2 : Seal (IsHs w2 a2 s.length c2 s ∧ Below w.heap.size w w2) := ⟨hIs, hP.out.2⟩
    have H0 : Seal (w2.ownsRow w2.heap.size 74 84 (.slice none 0 0) (fndK F 0).length (lcells (fndK F 0)) ∧ Below w2.heap.size w2 w2) := ⟨World.ownsRow_nil _ _ _ _, Below.refl _ _⟩
    obtain ⟨N, hN⟩ : ∃ N, N = s.length := ⟨_, rfl⟩
    rw [← hN] at HW2 ⊢
    clear hP hIs HS hN
    go_wp2
    go_loopw [7, 8] (fun u i wr => ∃ (k : Nat) (v : Value), k ≤ kn ∧ v = u ∧ i = .int .i64 k ∧ Seal (wr.ownsRow w2.heap.size 74 84 v (fndK F k).length (lcells (fndK F k)) ∧ Below w2.heap.size w2 wr)) (fun _ i _ => kn - (intOf i).toNat)
    case atStart => exact ⟨0, _, by omega, rfl, rfl, H0⟩
    case round =>
      obtain ⟨wo, rfl⟩ : ∃ z, z = wr := ⟨_, rfl⟩
      obtain ⟨k, v, hk, rfl, rfl, hH⟩ := hrel
      clear H0
      by_cases hlt : k < kn
      · have q5 : (k : Int) < (kn : Int) := by omega
        have hcall := rlie_any N c2 a2 s (k : Int) zl wo ZL.out.1 ZL.out.2 (HW2.out.1.below hH.out.2) (by have := HL.out.1; have := HW2.out.1.llen; omega)
        rw [HE.out] at hcall
        have hS := fndK_succ F k
        have hfl := fndK_len F k
        have HO : Seal ((lieO zl (F (k : Int))).length = 84 ∧ (∀ v ∈ lieO zl (F (k : Int)), v.oneCell' = true)) := ⟨lieO_len ZL.out.2 (fun x h => HFok.out _ x h), lieO_one oZ.out _⟩
        obtain ⟨LO, hLO⟩ : ∃ LO, LO = lieO zl (F (k : Int)) := ⟨_, rfl⟩
        rw [← hLO] at hcall HO
        have iO : (Tryd.prog.info? 74).map (·.size) = some LO.length := by rw [HO.out.1]; kernel_rfl
        have zO : zl.length = LO.length := by rw [HO.out.1, ZL.out.2]
        cases hfk : F (k : Int) with
        | none =>
          rw [hfk] at hcall hS
          have HS : Seal (fndK F (k + 1) = fndK F k) := ⟨by rw [hS]; simp⟩
          have HC := Seal.mk hcall
          clear hcall hS hfk hfl hLO
          go_wp2_with fail
          refine HC.out.mono ?_
          rintro e w3 ⟨rfl, hb⟩
          have HN : Seal (w3.ownsRow w2.heap.size 74 84 v (fndK F (k + 1)).length (lcells (fndK F (k + 1))) ∧ Below w2.heap.size w2 w3) := ⟨by rw [HS.out]; exact ⟨ownsRow_below hH.out.1 hb, hH.out.2.trans (hb.mono hH.out.2.size)⟩⟩
          clear hb hH HC
          go_wp2_with (refine wpList_newvar rfl rfl 74 9 (.tmp 27) rfl rfl rfl zl LO (ZA.out _ _ _ rfl) rfl rfl iO zO HO.out.2 ?_; intro V1 hV1; have HN1 : Seal (V1.ownsRow w2.heap.size 74 84 v (fndK F (k + 1)).length (lcells (fndK F (k + 1))) ∧ Below w2.heap.size w2 V1) := ⟨(by rw [hV1]; exact ⟨HN.out.1.alloc _, HN.out.2.alloc HN.out.2.size _⟩)⟩; clear hV1 HN; (try simp only [Act.put, List.setIfInBounds_toArray, List.set_cons_zero, List.set_cons_succ]))
          go_roundw
          case rel => exact ⟨k + 1, v, by omega, rfl, by go_num, HN1⟩
          case measure => simp [intOf]; omega
        | some x =>
          rw [hfk] at hcall hS hLO
          have HS : Seal (lcells (fndK F (k + 1)) = lcells (fndK F k) ++ LO ∧ (fndK F (k + 1)).length = (fndK F k).length + 1) := ⟨by rw [hS, lcells_app, List.length_append, hLO]; exact ⟨by simp [lcells, lieO], rfl⟩⟩
          have HC := Seal.mk hcall
          clear hcall hS hfk hLO
          go_wp2_with fail
          refine HC.out.mono ?_
          rintro e w3 ⟨rfl, hb⟩
          have HN : Seal (w3.ownsRow w2.heap.size 74 84 v (fndK F k).length (lcells (fndK F k)) ∧ Below w2.heap.size w2 w3) := ⟨ownsRow_below hH.out.1 hb, hH.out.2.trans (hb.mono hH.out.2.size)⟩
          clear hb hH HC
          go_wp2_with (first
            | (refine wpList_newvar rfl rfl 74 9 (.tmp 27) rfl rfl rfl zl LO (ZA.out _ _ _ rfl) rfl rfl iO zO HO.out.2 ?_; intro V1 hV1; have HN1 : Seal (V1.ownsRow w2.heap.size 74 84 v (fndK F k).length (lcells (fndK F k)) ∧ Below w2.heap.size w2 V1) := ⟨(by rw [hV1]; exact ⟨HN.out.1.alloc _, HN.out.2.alloc HN.out.2.size _⟩)⟩; have r8 : V1.rangeAt w3.heap.size 0 LO := (by rw [hV1]; exact rangeAt_row (heap_alloc_new w3 _)); clear hV1 HN; obtain ⟨g8, hg8⟩ : ∃ g, g = w3.heap.size := ⟨_, rfl⟩; rw [← hg8] at r8 ⊢; clear hg8; (try simp only [Act.put, List.setIfInBounds_toArray, List.set_cons_zero, List.set_cons_succ]))
            | (refine wpList_load_mid rfl 74 (.tmp 9) rfl g8 0 rfl LO _ r8 uL rfl iO ?_; (try simp only [Act.put, List.setIfInBounds_toArray, List.set_cons_zero, List.set_cons_succ]))
            | (refine wpList_bslice (by kernel_rfl) 68 74 1 84 #[(0, .tmp 31)] rfl [LO] Tryd.underlying68 size_lie _ zeroLi lie_zs rfl (by intro C hC; obtain rfl : C = LO := (by simpa using hC); exact HO.out.1) (by decide) (by decide) rfl ?_; obtain ⟨V2, hV2⟩ : ∃ V, V = V1.alloc (.cells [LO].flatten.toArray 74) := ⟨_, rfl⟩; have HN2 : Seal (V2.ownsRow w2.heap.size 74 84 v (fndK F k).length (lcells (fndK F k)) ∧ Below w2.heap.size w2 V2 ∧ ∀ j u, LO[j]? = some u → V2.cell? ((⟨V1.heap.size, 0, none⟩ : Addr).add j) = some u) := ⟨(by rw [hV2]; exact ⟨HN1.out.1.alloc _, HN1.out.2.alloc HN1.out.2.size _, fun j u hu => (by rw [Addr.add_mid]; exact rangeAt_row (heap_alloc_new V1 _) j u (by simpa using hu))⟩)⟩; rw [← hV2]; clear hV2 HN1 r8; (try simp only [Act.put, List.setIfInBounds_toArray, List.set_cons_zero, List.set_cons_succ]))
            | (at_builtin; go_loud (refine wpList_append_own _ rfl (.tmp 30) (.tmp 32) 68 rfl w2.heap.size 74 i0 _ 84 224 Tryd.underlying68 HI.out.1 HI.out.2.1 HI.out.2.2.1 HI.out.2.2.2 lie_zs (by decide) v (fndK F k).length (lcells (fndK F k)) rfl HN2.out.1 ⟨V1.heap.size, 0, none⟩ 1 1 LO rfl HO.out.1 HN2.out.2.2 HO.out.2 (by unfold maxLen; omega) (by omega) HN2.out.2.1.size ?_; intro v5 w5 hown5 hgrow5 _; have vlt := HN2.out.1.lt; have HB5 : Seal (Below w2.heap.size w2 w5) := ⟨HN2.out.2.1.grown hgrow5 HN2.out.2.1.size (fun k e => (vlt k e).1)⟩; have HO5 : Seal (w5.ownsRow w2.heap.size 74 84 v5 (fndK F (k + 1)).length (lcells (fndK F (k + 1)))) := ⟨(by rw [HS.out.1, HS.out.2]; exact hown5)⟩; clear hown5 hgrow5 vlt HN2; (try simp only [Act.put, List.setIfInBounds_toArray, List.set_cons_zero, List.set_cons_succ]))))
          go_roundw
          case rel => exact ⟨k + 1, v5, by omega, rfl, by go_num, ⟨HO5.out, HB5.out⟩⟩
          case measure => simp [intOf]; omega
      · obtain rfl : k = kn := by omega
        have q5 : ¬ (k : Int) < (k : Int) := by omega
        go_wp2_with fail
        go_ret2
        exact ⟨v, rfl, ⟨by rw [HP.out]; exact own_weaken hH.out.1 HW2.out.2.size, HW2.out.2.trans (hH.out.2.mono HW2.out.2.size)⟩⟩

set_option maxHeartbeats 4000000 in
theorem rtrust_any (n c kn kc : Nat) (a ka : Option Addr) (l : List Hd) (ks : List Int) (w : World) (hG : Glob w) (hl : IsHs w a n c l) (hk : IsKs w ka kn kc ks) (hn : n ≤ 100) :
    Calls Tryd.prog 37 #[.slice ka kn kc, .slice a n c] w (TrustPost (trs ks l) (ler ks) w) := by
  have hkl := hk.llen
  have hll := hl.llen
  unfold trs ler
  rw [hkl]
  have hc := rlimit_any a ka n c kn kc w (by omega)
  by_cases h24 : 24 < kn
  · rw [if_pos h24, if_pos h24]
    rw [decide_eq_true h24] at hc
    have HC := Seal.mk hc
    clear hc hG hl hk hkl h24 hll
    go_enter Tryd.func37, Tryd.ntmps37
    go_wp2_with fail
    refine HC.out.mono ?_
    rintro e w1 ⟨rfl, rfl⟩
    go_wp2
    go_ret2
    exact ⟨_, rfl, ⟨World.ownsRow_nil _ _ _ _, Below.refl _ _⟩⟩
  · rw [if_neg h24, if_neg h24]
    rw [decide_eq_false h24] at hc
    have HC := Seal.mk hc
    have HS := Seal.mk (rsgn_any n c kn kc a ka l ks w hG hl hk)
    have HP : Seal (trsP ks l = trK (fdF (sgd ks l)) (sgd ks l)) := ⟨rfl⟩
    have HFok : Seal (∀ o x, fdF (sgd ks l) o = some x → x.1.ok ∧ x.2.ok) := ⟨fun o x h => lies_ok (ks := ks) (l := l) hl.each h⟩
    have HE : Seal (∀ o, lieR (sgd ks l) o = fdF (sgd ks l) o) := ⟨fun o => (fdF_eq _ sgd_fm o).symm⟩
    have HL : Seal ((sgd ks l).length ≤ 100 ∧ ∀ h ∈ sgd ks l, h.ok) := ⟨Nat.le_trans (List.length_filter_le _ _) (by omega), fun h hh => hl.each h (List.mem_filter.1 hh).1⟩
    obtain ⟨s, hs⟩ : ∃ s, s = sgd ks l := ⟨_, rfl⟩
    rw [← hs] at HS HP HFok HE HL
    obtain ⟨F, hF⟩ : ∃ F, F = fdF s := ⟨_, rfl⟩
    rw [← hF] at HP HFok HE
    clear hc hG hl hk hkl h24 hF hs hll
    obtain ⟨zl, hzl⟩ : ∃ zl : List Value, zl = Tryd.zeroCells74.toList := ⟨_, rfl⟩
    have ZL : Seal (Tryd.zeroCells74 = zl.toArray ∧ zl.length = 84) := ⟨by
      rw [hzl, Array.length_toList]
      exact ⟨by rw [Array.toArray_toList], by kernel_rfl⟩⟩
    have ZA : Seal (∀ (ρ : Operand → Value) (o : Oper) (w : World), o.op = .alloc 74 → (execOp ρ o).run Tryd.prog w = .ok (.value (.pointer (some ⟨w.heap.size, 0, none⟩))) (w.alloc (.cells zl.toArray 74))) := ⟨fun ρ o w ho => by rw [← ZL.out.1]; exact exec_alloc_lie ho w⟩
    have oZ : Seal (∀ v ∈ zl, v.oneCell' = true) := ⟨fun v hv => by
      have h : ∀ v ∈ Tryd.zeroCells74.toList, v.oneCell' = true := by decide +kernel
      rw [ZL.out.1] at h
      exact h v hv⟩
    clear hzl
    obtain ⟨i0, hi, hz0, hz1, hz2⟩ := info_parts info_hand
    have HI := Seal.mk (And.intro hi (And.intro hz0 (And.intro hz1 hz2)))
    have uH := Tryd.underlying29
    clear hi hz0 hz1 hz2
    go_enter Tryd.func37, Tryd.ntmps37
    go_wp2_with fail
    refine HC.out.mono ?_
    rintro e w1 ⟨rfl, rfl⟩
    clear HC
    go_wp2_with fail
    refine HS.out.mono ?_
    rintro e w2 ⟨v2, rfl, hP⟩
    obtain ⟨a2, c2, rfl, hIs⟩ := hs_of_own hP.out.1 HL.out.2 (by have := HL.out.1; omega)
    obtain ⟨N, hN⟩ : ∃ N, N = s.length := ⟨_, rfl⟩
    have hN100 : N ≤ 100 := by rw [hN]; exact HL.out.1
    have HW2 : Seal (IsHs w2 a2 s.length c2 s ∧ Below w.heap.size w w2) := ⟨hIs, hP.out.2⟩
    have H0 : Seal (w2.ownsRow w2.heap.size 29 42 (.slice none 0 0) (trK F (s.take 0)).length (hcells (trK F (s.take 0))) ∧ Below w2.heap.size w2 w2) := ⟨World.ownsRow_nil _ _ _ _, Below.refl _ _⟩
    rw [← hN] at HW2 ⊢
    clear hP hIs HS hN
    go_wp2
    go_loopw [7, 8] (fun u i wr => ∃ (k : Nat) (v : Value), k ≤ N ∧ v = u ∧ i = .int .i64 k ∧ Seal (wr.ownsRow w2.heap.size 29 42 v (trK F (s.take k)).length (hcells (trK F (s.take k))) ∧ Below w2.heap.size w2 wr)) (fun _ i _ => N - (intOf i).toNat)
    case atStart => exact ⟨0, _, by omega, rfl, rfl, H0⟩
    case round =>
      obtain ⟨wo, rfl⟩ : ∃ z, z = wr := ⟨_, rfl⟩
      obtain ⟨k, v, hk, rfl, rfl, hH⟩ := hrel
      clear H0
      by_cases hlt : k < N
      · have q5 : (k : Int) < (N : Int) := by omega
        have q6 : (0 : Int) ≤ (k : Int) := by omega
        have hIo := HW2.out.1.below hH.out.2
        rcases hIo.at_ with hz | ⟨g, off, rfl, hr, hg⟩
        · omega
        · obtain ⟨x, hx⟩ : ∃ x, s[k]? = some x := ⟨_, List.getElem?_eq_getElem (by have := hIo.llen; omega)⟩
          have okx := HL.out.2 x (List.mem_of_getElem? hx)
          have rX := rangeC_at hr (fun x hx => Hd.C_len (HL.out.2 x hx).t32) hx
          have hgw : g < w2.heap.size := by
            rcases HW2.out.1.at_ with hz | ⟨g', off', e, _, hg'⟩
            · omega
            · cases e; exact hg'
          obtain ⟨fr, hfr⟩ : ∃ fr, fr = x.fr := ⟨_, rfl⟩
          have c4 : wo.cell? ⟨g, off + k * 42 + 4, none⟩ = some (.int .i64 fr) := by rw [hfr]; exact rX 4 _ rfl
          have hcall := rlie_any N c2 (some ⟨g, off, none⟩) s fr zl wo ZL.out.1 ZL.out.2 hIo (by have := HL.out.1; have := HW2.out.1.llen; omega)
          rw [HE.out] at hcall
          have hS : trK F (s.take (k + 1)) = trK F (s.take k) ++ (if (F fr).isNone = true then [x] else []) := by
            rw [List.take_add_one, hx, hfr]; exact trK_snoc F _ x
          have HTl : Seal ((trK F (s.take k)).length ≤ 100) := ⟨Nat.le_trans (List.length_filter_le _ _) (by rw [List.length_take]; have := HL.out.1; omega)⟩
          have HO : Seal ((lieO zl (F fr)).length = 84 ∧ (∀ v ∈ lieO zl (F fr), v.oneCell' = true)) := ⟨lieO_len ZL.out.2 (fun x h => HFok.out _ x h), lieO_one oZ.out _⟩
          obtain ⟨LO, hLO⟩ : ∃ LO, LO = lieO zl (F fr) := ⟨_, rfl⟩
          rw [← hLO] at hcall HO
          have iO : (Tryd.prog.info? 74).map (·.size) = some LO.length := by rw [HO.out.1]; kernel_rfl
          have zO : zl.length = LO.length := by rw [HO.out.1, ZL.out.2]
          obtain ⟨CX, hCX⟩ : ∃ C, C = x.C := ⟨_, rfl⟩
          have iX : (Tryd.prog.info? 29).map (·.size) = some CX.length := by rw [hCX]; exact Hd.C_info okx.t32
          have oX : Seal (CX.length = 42 ∧ (∀ v ∈ CX, v.oneCell' = true)) := ⟨by rw [hCX]; exact ⟨Hd.C_len okx.t32, Hd.C_one x⟩⟩
          rw [← hCX] at rX
          have HCX := Seal.mk hCX
          cases hfk : F fr with
          | some y =>
            rw [hfk] at hcall hS
            have HS : Seal (trK F (s.take (k + 1)) = trK F (s.take k)) := ⟨by rw [hS]; simp⟩
            have HC := Seal.mk hcall
            clear hcall hS hfk hLO hIo hr hg hx okx hgw hfr hCX
            go_wp2_with fail
            refine HC.out.mono ?_
            rintro e w3 ⟨rfl, hb⟩
            have HN : Seal (w3.ownsRow w2.heap.size 29 42 v (trK F (s.take (k + 1))).length (hcells (trK F (s.take (k + 1)))) ∧ Below w2.heap.size w2 w3) := ⟨by rw [HS.out]; exact ⟨ownsRow_below hH.out.1 hb, hH.out.2.trans (hb.mono hH.out.2.size)⟩⟩
            clear hb hH HC rX c4
            go_wp2_with (refine wpList_newvar rfl rfl 74 9 (.tmp 31) rfl rfl rfl zl LO (ZA.out _ _ _ rfl) rfl rfl iO zO HO.out.2 ?_; intro V1 hV1; have HN1 : Seal (V1.ownsRow w2.heap.size 29 42 v (trK F (s.take (k + 1))).length (hcells (trK F (s.take (k + 1)))) ∧ Below w2.heap.size w2 V1) := ⟨(by rw [hV1]; exact ⟨HN.out.1.alloc _, HN.out.2.alloc HN.out.2.size _⟩)⟩; clear hV1 HN; (try simp only [Act.put, List.setIfInBounds_toArray, List.set_cons_zero, List.set_cons_succ]))
            go_roundw
            case rel => exact ⟨k + 1, v, by omega, rfl, by go_num, HN1⟩
            case measure => simp [intOf]; omega
          | none =>
            rw [hfk] at hcall hS
            have HS : Seal (hcells (trK F (s.take (k + 1))) = hcells (trK F (s.take k)) ++ CX ∧ (trK F (s.take (k + 1))).length = (trK F (s.take k)).length + 1) := ⟨by rw [hS]; simp only [Option.isNone_none, if_true, hcells_app, List.length_append, hCX]; exact ⟨by simp [hcells], rfl⟩⟩
            have HC := Seal.mk hcall
            clear hcall hS hfk hLO hIo hr hg hx okx hgw hfr hCX
            go_wp2_with fail
            refine HC.out.mono ?_
            rintro e w3 ⟨rfl, hb⟩
            have HN : Seal (w3.ownsRow w2.heap.size 29 42 v (trK F (s.take k)).length (hcells (trK F (s.take k))) ∧ Below w2.heap.size w2 w3) := ⟨ownsRow_below hH.out.1 hb, hH.out.2.trans (hb.mono hH.out.2.size)⟩
            have rX3 := rangeAt_below' rX hb
            clear hb hH HC rX c4
            go_wp2_with (first
              | (refine wpList_newvar rfl rfl 74 9 (.tmp 31) rfl rfl rfl zl LO (ZA.out _ _ _ rfl) rfl rfl iO zO HO.out.2 ?_; intro V1 hV1; have HN1 : Seal (V1.ownsRow w2.heap.size 29 42 v (trK F (s.take k)).length (hcells (trK F (s.take k))) ∧ Below w2.heap.size w2 V1) := ⟨(by rw [hV1]; exact ⟨HN.out.1.alloc _, HN.out.2.alloc HN.out.2.size _⟩)⟩; have rX1 : V1.rangeAt g (off + k * 42) CX := (by rw [hV1]; exact World.rangeAt_alloc rX3 _); clear hV1 HN rX3; (try simp only [Act.put, List.setIfInBounds_toArray, List.set_cons_zero, List.set_cons_succ]))
              | (refine wpList_load_mid rfl 29 (.tmp 38) rfl g (off + k * 42) rfl CX _ rX1 uH rfl iX ?_; (try simp only [Act.put, List.setIfInBounds_toArray, List.set_cons_zero, List.set_cons_succ]))
              | (refine wpList_bslice (by kernel_rfl) 66 29 1 42 #[(0, .tmp 39)] rfl [CX] Tryd.underlying66 size_hand _ zeroHd rfl rfl (by intro C hC; obtain rfl : C = CX := (by simpa using hC); exact oX.out.1) (by decide) (by decide) rfl ?_; obtain ⟨V2, hV2⟩ : ∃ V, V = V1.alloc (.cells [CX].flatten.toArray 29) := ⟨_, rfl⟩; have HN2 : Seal (V2.ownsRow w2.heap.size 29 42 v (trK F (s.take k)).length (hcells (trK F (s.take k))) ∧ Below w2.heap.size w2 V2 ∧ ∀ j u, CX[j]? = some u → V2.cell? ((⟨V1.heap.size, 0, none⟩ : Addr).add j) = some u) := ⟨(by rw [hV2]; exact ⟨HN1.out.1.alloc _, HN1.out.2.alloc HN1.out.2.size _, fun j u hu => (by rw [Addr.add_mid]; exact rangeAt_row (heap_alloc_new V1 _) j u (by simpa using hu))⟩)⟩; rw [← hV2]; clear hV2 HN1 rX1; (try simp only [Act.put, List.setIfInBounds_toArray, List.set_cons_zero, List.set_cons_succ]))
              | (at_builtin; go_loud (refine wpList_append_own _ rfl (.tmp 35) (.tmp 40) 66 rfl w2.heap.size 29 i0 _ 42 112 Tryd.underlying66 HI.out.1 HI.out.2.1 HI.out.2.2.1 HI.out.2.2.2 rfl (by decide) v (trK F (s.take k)).length (hcells (trK F (s.take k))) rfl HN2.out.1 ⟨V1.heap.size, 0, none⟩ 1 1 CX rfl oX.out.1 HN2.out.2.2 oX.out.2 (by unfold maxLen; have := HTl.out; omega) (by have := HTl.out; omega) HN2.out.2.1.size ?_; intro v5 w5 hown5 hgrow5 _; have vlt := HN2.out.1.lt; have HB5 : Seal (Below w2.heap.size w2 w5) := ⟨HN2.out.2.1.grown hgrow5 HN2.out.2.1.size (fun k e => (vlt k e).1)⟩; have HO5 : Seal (w5.ownsRow w2.heap.size 29 42 v5 (trK F (s.take (k + 1))).length (hcells (trK F (s.take (k + 1))))) := ⟨(by rw [HS.out.1, HS.out.2]; exact hown5)⟩; clear hown5 hgrow5 vlt HN2; (try simp only [Act.put, List.setIfInBounds_toArray, List.set_cons_zero, List.set_cons_succ]))))
            go_roundw
            case rel => exact ⟨k + 1, v5, by omega, rfl, by go_num, ⟨HO5.out, HB5.out⟩⟩
            case measure => simp [intOf]; omega
      · obtain rfl : k = N := by omega
        have q5 : ¬ (k : Int) < (k : Int) := by omega
        have e : s.take k = s := List.take_of_length_le (by have := HW2.out.1.llen; omega)
        rw [e] at hH
        clear e
        go_wp2_with fail
        go_ret2
        exact ⟨v, rfl, ⟨by rw [HP.out]; exact own_weaken hH.out.1 HW2.out.2.size, HW2.out.2.trans (hH.out.2.mono HW2.out.2.size)⟩⟩
end Frk

namespace Frk
open Go Go.RowKit Go.Proofs
set_option maxRecDepth 100000

set_option maxHeartbeats 1000000 in
theorem eqHand_at (d : Nat) (h g : Hd) (kh : h.T.length = 32) (kg : g.T.length = 32) (w : World) :
    (Op.equalIn (d + 1 + 1 + 1) 29 (.agg h.C.toArray) (.agg g.C.toArray)).run Tryd.prog w = .ok (hdB h g) w := by
  have a3 := Tryd.isAgg3
  have aR := Tryd.isAgg23
  have zR := Tryd.sizeOf23
  have aC := Tryd.isAgg27
  have zC := Tryd.sizeOf27
  have aD := Tryd.isAgg25
  have zD := Tryd.sizeOf25
  have hS : Tryd.prog.underlying 29 = some (.struct (Tryd.prog.fieldsOf 29)) := by kernel_rfl
  have hp : Tryd.prog.stoodInHeld 29 = false := by kernel_rfl
  have p0 : ∀ h : Hd, (part 23 h.C.toArray 0).run Tryd.prog w = .ok (.agg #[.int .i64 h.L, .int .i64 h.A, .int .i64 h.R]) w := fun h => by simp [part, aR, zR, Hd.C_run]
  have pi : ∀ (h : Hd) (i : Nat) (x : Int), h.C[i]? = some (.int .i64 x) → (part 3 h.C.toArray i).run Tryd.prog w = .ok (.int .i64 x) w := fun h i x e => by simp [part, a3, e]
  have p5 : ∀ h : Hd, h.T.length = 32 → (part 25 h.C.toArray 7).run Tryd.prog w = .ok (.agg (h.T.map B).toArray) w := fun h k => by
    have := Hd.C_text k
    simp [part, aD, zD, this]
  have p7 : ∀ h : Hd, h.T.length = 32 → (part 27 h.C.toArray 40).run Tryd.prog w = .ok (.agg #[.int .i64 h.E, .int .i64 h.S]) w := fun h k => by
    have := Hd.C_sig k
    simp [part, aC, zC, this]
  obtain ⟨a0, a1, a2, a3', a4, a5, a6⟩ := Hd.C_lo h
  obtain ⟨b0, b1, b2, b3, b4, b5, b6⟩ := Hd.C_lo g
  obtain ⟨a39, _, _⟩ := Hd.C_hi kh
  obtain ⟨b39, _, _⟩ := Hd.C_hi kg
  have q0 := p0 h
  have q3 := pi h 3 _ a3'
  have q4 := pi h 4 _ a4
  have q5 := pi h 5 _ a5
  have q6 := pi h 6 _ a6
  have q7 := p5 h kh
  have q39 := pi h 39 _ a39
  have q40 := p7 h kh
  have r0 := p0 g
  have r3 := pi g 3 _ b3
  have r4 := pi g 4 _ b4
  have r5 := pi g 5 _ b5
  have r6 := pi g 6 _ b6
  have r7 := p5 g kg
  have r39 := pi g 39 _ b39
  have r40 := p7 g kg
  clear p0 pi p5 p7 a0 a1 a2 a3' a4 a5 a6 b0 b1 b2 b3 b4 b5 b6 a39 b39
  generalize h.C.toArray = C at *
  generalize g.C.toArray = D at *
  rw [run_equalIn_agg w (d + 1 + 1) 29 _ _ hS hp]
  simp only [Program.fieldsOf, Tryd.underlying29]
  rw [eqFields_s _ _ _ _ _ _ _ _ _ (by decide) q0 r0 (eqRun_at d _ _ _ _ _ _ w)]
  rw [eqFields_s _ _ _ _ _ _ _ _ _ (by decide) q3 r3 (eqInt_s (d + 1) _ _ w)]
  rw [eqFields_s _ _ _ _ _ _ _ _ _ (by decide) q4 r4 (eqInt_s (d + 1) _ _ w)]
  rw [eqFields_s _ _ _ _ _ _ _ _ _ (by decide) q5 r5 (eqInt_s (d + 1) _ _ w)]
  rw [eqFields_s _ _ _ _ _ _ _ _ _ (by decide) q6 r6 (eqInt_s (d + 1) _ _ w)]
  rw [eqFields_s _ _ _ _ _ _ _ _ _ (by decide) q7 r7 (eqDig_s d _ _ kh kg w)]
  rw [eqFields_s _ _ _ _ _ _ _ _ _ (by decide) q39 r39 (eqInt_s (d + 1) _ _ w)]
  rw [eqFields_s _ _ _ _ _ _ _ _ _ (by decide) q40 r40 (eqSig_at d _ _ _ _ w)]
  rw [eqEnd_s]
  unfold hdB
  generalize (h.L == g.L && (h.A == g.A && h.R == g.R)) = x0
  generalize (h.leg == g.leg) = x1
  generalize (h.fr == g.fr) = x2
  generalize (h.to == g.to) = x3
  generalize (h.mn == g.mn) = x4
  generalize (h.T == g.T) = x5
  generalize (h.tm == g.tm) = x6
  generalize (h.E == g.E && h.S == g.S) = x7
  cases x0 <;> cases x1 <;> cases x2 <;> cases x3 <;> cases x4 <;> cases x5 <;> cases x6 <;> cases x7 <;> rfl


def liB (x y : Hd × Hd) : Bool := hdB x.1 y.1 && hdB x.2 y.2
theorem liB_iff (x y : Hd × Hd) : liB x y = true ↔ x = y := by
  unfold liB
  rw [Bool.and_eq_true, hdB_iff, hdB_iff]
  exact ⟨fun h => Prod.ext h.1 h.2, fun h => by rw [h]; exact ⟨rfl, rfl⟩⟩
set_option maxHeartbeats 1000000 in
theorem eqLie_at (d : Nat) (x y : Hd × Hd) (k1 : x.1.T.length = 32) (k2 : x.2.T.length = 32) (k3 : y.1.T.length = 32) (k4 : y.2.T.length = 32) (w : World) :
    (Op.equalIn (d + 1 + 1 + 1 + 1) 74 (.agg (lieC x.1 x.2).toArray) (.agg (lieC y.1 y.2).toArray)).run Tryd.prog w = .ok (liB x y) w := by
  have aH := Tryd.isAgg29
  have zH := Tryd.sizeOf29
  have hS : Tryd.prog.underlying 74 = some (.struct (Tryd.prog.fieldsOf 74)) := by kernel_rfl
  have hp : Tryd.prog.stoodInHeld 74 = false := by kernel_rfl
  have p0 : ∀ a b : Hd, a.T.length = 32 → (part 29 (lieC a b).toArray 0).run Tryd.prog w = .ok (.agg a.C.toArray) w := fun a b ka => by
    have e : (lieC a b).take 42 = a.C := List.take_left' (Hd.C_len ka)
    simp [part, aH, zH, e]
  have p1 : ∀ a b : Hd, a.T.length = 32 → b.T.length = 32 → (part 29 (lieC a b).toArray 42).run Tryd.prog w = .ok (.agg b.C.toArray) w := fun a b ka kb => by
    have e : ((lieC a b).drop 42).take 42 = b.C := by
      unfold lieC
      rw [List.drop_left' (Hd.C_len ka)]
      exact List.take_of_length_le (by rw [Hd.C_len kb]; omega)
    have e2 : (lieC a b).toArray.extract 42 (42 + 42) = b.C.toArray := by
      apply Array.ext'
      simpa using e
    simp [part, aH, zH, e]
  have q0 := p0 x.1 x.2 k1
  have q1 := p1 x.1 x.2 k1 k2
  have r0 := p0 y.1 y.2 k3
  have r1 := p1 y.1 y.2 k3 k4
  clear p0 p1
  generalize (lieC x.1 x.2).toArray = C at *
  generalize (lieC y.1 y.2).toArray = D at *
  rw [run_equalIn_agg w (d + 1 + 1 + 1) 74 _ _ hS hp]
  simp only [Program.fieldsOf, Tryd.underlying74]
  rw [eqFields_s (d + 1 + 1 + 1) C D { name := "A", type := 29, offset := 0, embedded := false, tag := "", pkgPath := "", byteOffset := 0 } _ w _ _ _ (by decide) q0 r0 (eqHand_at d _ _ k1 k3 w)]
  rw [eqFields_s (d + 1 + 1 + 1) C D { name := "B", type := 29, offset := 42, embedded := false, tag := "", pkgPath := "", byteOffset := 112 } _ w _ _ _ (by decide) q1 r1 (eqHand_at d _ _ k2 k4 w)]
  rw [eqEnd_s]
  unfold liB
  generalize hdB x.1 y.1 = b0
  generalize hdB x.2 y.2 = b1
  cases b0 <;> cases b1 <;> rfl
theorem eqLie (x y : Hd × Hd) (k1 : x.1.T.length = 32) (k2 : x.2.T.length = 32) (k3 : y.1.T.length = 32) (k4 : y.2.T.length = 32) (w : World) :
    (Op.equalIn 10000 74 (.agg (lieC x.1 x.2).toArray) (.agg (lieC y.1 y.2).toArray)).run Tryd.prog w = .ok (liB x y) w := eqLie_at 9996 x y k1 k2 k3 k4 w

/-! ## Check -/
def chL (key : Int) (x y : Hd) : Bool := clB x y && (chB key x && chB key y)
set_option maxHeartbeats 2000000 in
theorem ccheckl_any (key : Int) (x y : Hd) (w : World) (kx : x.ok) (ky : y.ok) (hG : Glob w) : Calls Tryd.prog 38 #[.int .i64 key, .agg (lieC x y).toArray] w fun e w' => e = .returned (.bool (chL key x y)) ∧ Below w.heap.size w w' := by
  obtain ⟨CL, hCL⟩ : ∃ C, C = lieC x y := ⟨_, rfl⟩
  obtain ⟨CX, hCX⟩ : ∃ C, C = x.C := ⟨_, rfl⟩
  obtain ⟨CY, hCY⟩ : ∃ C, C = y.C := ⟨_, rfl⟩
  obtain ⟨X, hX⟩ : ∃ X : World, X = w.alloc (.cells CL.toArray 74) := ⟨_, rfl⟩
  have r0 : X.rangeAt w.heap.size 0 CL := by rw [hX]; exact rangeAt_row (heap_alloc_new _ _)
  have rX : X.rangeAt w.heap.size 0 CX := by
    have := rangeAt_take r0 42
    rwa [hCL, show (lieC x y).take 42 = x.C from List.take_left' (Hd.C_len kx.t32), ← hCX] at this
  have rY : X.rangeAt w.heap.size 42 CY := by
    have := rangeAt_drop r0 42
    rw [hCL, show (lieC x y).drop 42 = y.C from List.drop_left' (Hd.C_len kx.t32), ← hCY] at this
    simpa using this
  have HX : Seal (Below w.heap.size w X ∧ Glob X) := ⟨by rw [hX]; exact ⟨below_alloc _ _, hG.below (below_alloc _ _)⟩⟩
  have uH := Tryd.underlying29
  have iX : (Tryd.prog.info? 29).map (·.size) = some CX.length := by rw [hCX]; exact Hd.C_info kx.t32
  have iY : (Tryd.prog.info? 29).map (·.size) = some CY.length := by rw [hCY]; exact Hd.C_info ky.t32
  obtain ⟨cl, hcl⟩ : ∃ b, b = clB x y := ⟨_, rfl⟩
  obtain ⟨ca, hca⟩ : ∃ b, b = chB key x := ⟨_, rfl⟩
  obtain ⟨cb, hcb⟩ : ∃ b, b = chB key y := ⟨_, rfl⟩
  have HC1 : Seal (∀ W', Calls Tryd.prog 20 #[.agg CX.toArray, .agg CY.toArray] W' fun e w' => e = .returned (.bool cl) ∧ Below W'.heap.size W' w') := ⟨fun W' => by rw [hCX, hCY, hcl]; exact hclash_any x y W' kx.t32 ky.t32⟩
  have HC2 : Seal (∀ W', Glob W' → Calls Tryd.prog 15 #[.int .i64 key, .agg CX.toArray] W' fun e w' => e = .returned (.bool ca) ∧ Below W'.heap.size W' w') := ⟨fun W' hG => by rw [hCX, hca]; exact hcheck_any key x W' kx hG⟩
  have HC3 : Seal (∀ W', Glob W' → Calls Tryd.prog 15 #[.int .i64 key, .agg CY.toArray] W' fun e w' => e = .returned (.bool cb) ∧ Below W'.heap.size W' w') := ⟨fun W' hG => by rw [hCY, hcb]; exact hcheck_any key y W' ky hG⟩
  unfold chL
  rw [← hcl, ← hca, ← hcb, ← hCL]
  clear hCL hCX hCY r0 hcl hca hcb kx ky hG
  go_enter Tryd.func38, Tryd.ntmps38
  go_upto_region 1 with (fail)
  rw [← hX]
  clear hX
  go_wp2_with (first
    | (refine wpList_load_mid rfl 29 (.tmp 5) rfl w.heap.size 0 rfl CX _ rX uH rfl iX ?_; (try simp only [Act.put, List.setIfInBounds_toArray, List.set_cons_zero, List.set_cons_succ]))
    | (refine wpList_load_mid rfl 29 (.tmp 7) rfl w.heap.size 42 rfl CY _ rY uH rfl iY ?_; (try simp only [Act.put, List.setIfInBounds_toArray, List.set_cons_zero, List.set_cons_succ])))
  refine (HC1.out X).mono ?_
  rintro e V1 ⟨rfl, hb1⟩
  have rX1 := rangeAt_below' rX hb1
  have rY1 := rangeAt_below' rY hb1
  have HX1 : Seal (Below w.heap.size w V1 ∧ Glob V1) := ⟨HX.out.1.trans (hb1.mono HX.out.1.size), HX.out.2.below hb1⟩
  clear hb1 rX rY HX HC1
  cases cl with
  | false =>
    go_wp2
    go_ret
    exact ⟨rfl, HX1.out.1⟩
  | true =>
    go_wp2_with (refine wpList_load_mid_g (by kernel_rfl) 29 (.tmp 12) rfl w.heap.size 0 rfl CX _ rX1 uH rfl iX ?_; (try simp only [Act.put, List.setIfInBounds_toArray, List.set_cons_zero, List.set_cons_succ]))
    refine (HC2.out V1 HX1.out.2).mono ?_
    rintro e V2 ⟨rfl, hb2⟩
    have rY2 := rangeAt_below' rY1 hb2
    have HX2 : Seal (Below w.heap.size w V2 ∧ Glob V2) := ⟨HX1.out.1.trans (hb2.mono HX1.out.1.size), HX1.out.2.below hb2⟩
    clear hb2 rX1 rY1 HX1 HC2
    cases ca with
    | false =>
      go_wp2
      go_ret
      exact ⟨rfl, HX2.out.1⟩
    | true =>
      go_wp2_with (refine wpList_load_mid_g (by kernel_rfl) 29 (.tmp 18) rfl w.heap.size 42 rfl CY _ rY2 uH rfl iY ?_; (try simp only [Act.put, List.setIfInBounds_toArray, List.set_cons_zero, List.set_cons_succ]))
      refine (HC3.out V2 HX2.out.2).mono ?_
      rintro e V3 ⟨rfl, hb3⟩
      have HX3 : Seal (Below w.heap.size w V3) := ⟨HX2.out.1.trans (hb3.mono HX2.out.1.size)⟩
      clear hb3 rY2 HX2 HC3
      go_wp2
      go_ret
      exact ⟨by simp, HX3.out⟩
set_option maxHeartbeats 2000000 in
theorem rcheckl_any (key : Int) (x y : Hd) (w : World) (kx : x.ok) (ky : y.ok) (hG : Glob w) : Calls Tryd.prog 39 #[.int .i64 key, .agg (lieC x y).toArray] w fun e w' => e = .returned (.bool (chL key x y)) ∧ Below w.heap.size w w' := by
  obtain ⟨CL, hCL⟩ : ∃ C, C = lieC x y := ⟨_, rfl⟩
  obtain ⟨CX, hCX⟩ : ∃ C, C = x.C := ⟨_, rfl⟩
  obtain ⟨CY, hCY⟩ : ∃ C, C = y.C := ⟨_, rfl⟩
  obtain ⟨X, hX⟩ : ∃ X : World, X = w.alloc (.cells CL.toArray 74) := ⟨_, rfl⟩
  have r0 : X.rangeAt w.heap.size 0 CL := by rw [hX]; exact rangeAt_row (heap_alloc_new _ _)
  have rX : X.rangeAt w.heap.size 0 CX := by
    have := rangeAt_take r0 42
    rwa [hCL, show (lieC x y).take 42 = x.C from List.take_left' (Hd.C_len kx.t32), ← hCX] at this
  have rY : X.rangeAt w.heap.size 42 CY := by
    have := rangeAt_drop r0 42
    rw [hCL, show (lieC x y).drop 42 = y.C from List.drop_left' (Hd.C_len kx.t32), ← hCY] at this
    simpa using this
  have HX : Seal (Below w.heap.size w X ∧ Glob X) := ⟨by rw [hX]; exact ⟨below_alloc _ _, hG.below (below_alloc _ _)⟩⟩
  have uH := Tryd.underlying29
  have iX : (Tryd.prog.info? 29).map (·.size) = some CX.length := by rw [hCX]; exact Hd.C_info kx.t32
  have iY : (Tryd.prog.info? 29).map (·.size) = some CY.length := by rw [hCY]; exact Hd.C_info ky.t32
  obtain ⟨cl, hcl⟩ : ∃ b, b = clB x y := ⟨_, rfl⟩
  obtain ⟨ca, hca⟩ : ∃ b, b = chB key x := ⟨_, rfl⟩
  obtain ⟨cb, hcb⟩ : ∃ b, b = chB key y := ⟨_, rfl⟩
  have HC1 : Seal (∀ W', Calls Tryd.prog 21 #[.agg CX.toArray, .agg CY.toArray] W' fun e w' => e = .returned (.bool cl) ∧ Below W'.heap.size W' w') := ⟨fun W' => by rw [hCX, hCY, hcl]; exact rclash48_any x y W' kx.t32 ky.t32⟩
  have HC2 : Seal (∀ W', Glob W' → Calls Tryd.prog 16 #[.int .i64 key, .agg CX.toArray] W' fun e w' => e = .returned (.bool ca) ∧ Below W'.heap.size W' w') := ⟨fun W' hG => by rw [hCX, hca]; exact rcheck48_any key x W' kx hG⟩
  have HC3 : Seal (∀ W', Glob W' → Calls Tryd.prog 16 #[.int .i64 key, .agg CY.toArray] W' fun e w' => e = .returned (.bool cb) ∧ Below W'.heap.size W' w') := ⟨fun W' hG => by rw [hCY, hcb]; exact rcheck48_any key y W' ky hG⟩
  unfold chL
  rw [← hcl, ← hca, ← hcb, ← hCL]
  clear hCL hCX hCY r0 hcl hca hcb kx ky hG
  go_enter Tryd.func39, Tryd.ntmps39
  go_upto_region 1 with (fail)
  rw [← hX]
  clear hX
  go_wp2_with (first
    | (refine wpList_load_mid rfl 29 (.tmp 5) rfl w.heap.size 0 rfl CX _ rX uH rfl iX ?_; (try simp only [Act.put, List.setIfInBounds_toArray, List.set_cons_zero, List.set_cons_succ]))
    | (refine wpList_load_mid rfl 29 (.tmp 7) rfl w.heap.size 42 rfl CY _ rY uH rfl iY ?_; (try simp only [Act.put, List.setIfInBounds_toArray, List.set_cons_zero, List.set_cons_succ])))
  refine (HC1.out X).mono ?_
  rintro e V1 ⟨rfl, hb1⟩
  have rX1 := rangeAt_below' rX hb1
  have rY1 := rangeAt_below' rY hb1
  have HX1 : Seal (Below w.heap.size w V1 ∧ Glob V1) := ⟨HX.out.1.trans (hb1.mono HX.out.1.size), HX.out.2.below hb1⟩
  clear hb1 rX rY HX HC1
  cases cl with
  | false =>
    go_wp2
    go_ret
    exact ⟨rfl, HX1.out.1⟩
  | true =>
    go_wp2_with (refine wpList_load_mid_g (by kernel_rfl) 29 (.tmp 12) rfl w.heap.size 0 rfl CX _ rX1 uH rfl iX ?_; (try simp only [Act.put, List.setIfInBounds_toArray, List.set_cons_zero, List.set_cons_succ]))
    refine (HC2.out V1 HX1.out.2).mono ?_
    rintro e V2 ⟨rfl, hb2⟩
    have rY2 := rangeAt_below' rY1 hb2
    have HX2 : Seal (Below w.heap.size w V2 ∧ Glob V2) := ⟨HX1.out.1.trans (hb2.mono HX1.out.1.size), HX1.out.2.below hb2⟩
    clear hb2 rX1 rY1 HX1 HC2
    cases ca with
    | false =>
      go_wp2
      go_ret
      exact ⟨rfl, HX2.out.1⟩
    | true =>
      go_wp2_with (refine wpList_load_mid_g (by kernel_rfl) 29 (.tmp 18) rfl w.heap.size 42 rfl CY _ rY2 uH rfl iY ?_; (try simp only [Act.put, List.setIfInBounds_toArray, List.set_cons_zero, List.set_cons_succ]))
      refine (HC3.out V2 HX2.out.2).mono ?_
      rintro e V3 ⟨rfl, hb3⟩
      have HX3 : Seal (Below w.heap.size w V3) := ⟨HX2.out.1.trans (hb3.mono HX2.out.1.size)⟩
      clear hb3 rY2 HX2 HC3
      go_wp2
      go_ret
      exact ⟨by simp, HX3.out⟩
end Frk

namespace Frk
open Go Go.RowKit Go.Proofs
set_option maxRecDepth 100000

/-- a slice of lies -/
structure IsLs (w : World) (a : Option Addr) (n c : Nat) (L : List (Hd × Hd)) : Prop where
  llen : L.length = n
  lmax : n ≤ 5000
  each : ∀ x ∈ L, x.1.ok ∧ x.2.ok
  at_ : n = 0 ∨ ∃ g o, a = some ⟨g, o, none⟩ ∧ w.rangeAt g o (lcells L) ∧ g < w.heap.size
theorem IsLs.below {w w' : World} {a : Option Addr} {n c : Nat} {L : List (Hd × Hd)} (h : IsLs w a n c L) (hb : Below w.heap.size w w') : IsLs w' a n c L :=
  ⟨h.llen, h.lmax, h.each, by
    rcases h.at_ with h0 | ⟨g, o, e, hr, hg⟩
    · exact .inl h0
    · exact .inr ⟨g, o, e, rangeAt_below' hr hb, Nat.lt_of_lt_of_le hg hb.size⟩⟩
theorem isLs_own {w : World} {base : Nat} {v : Value} {L : List (Hd × Hd)} (h : w.ownsRow base 74 84 v L.length (lcells L)) (hok : ∀ x ∈ L, x.1.ok ∧ x.2.ok) (hm : L.length ≤ 5000) : ∃ a c, v = .slice a L.length c ∧ IsLs w a L.length c L := by
  obtain ⟨a, c, e, _, h2⟩ := ls_of_own h
  exact ⟨a, c, e, rfl, hm, hok, by
    rcases h2 with h0 | ⟨g, e, _, hg, hr⟩
    · exact .inl h0
    · exact .inr ⟨g, 0, e, hr, hg⟩⟩
theorem fnd_ok {ks : List Int} {l : List Hd} (hl : ∀ h ∈ l, h.ok) : ∀ x ∈ fnd ks l, x.1.ok ∧ x.2.ok := by
  intro x hx
  unfold fnd at hx
  split at hx
  · cases hx
  · unfold fndP at hx
    obtain ⟨o, _, ho⟩ := List.mem_filterMap.1 hx
    exact lies_ok hl ho
theorem fnd_len (ks : List Int) (l : List Hd) : (fnd ks l).length ≤ 24 := by
  unfold fnd
  split
  · simp
  · have := List.length_filterMap_le (fun (o : Nat) => fdF (sgd ks l) (o : Int)) (List.range ks.length)
    rw [List.length_range] at this
    unfold fndP; omega
theorem trs_ok {ks : List Int} {l : List Hd} (hl : ∀ h ∈ l, h.ok) : ∀ x ∈ trs ks l, x.ok := by
  intro x hx
  unfold trs at hx
  split at hx
  · cases hx
  · exact hl x (List.mem_filter.1 (List.mem_filter.1 hx).1).1
theorem trs_len (ks : List Int) (l : List Hd) : (trs ks l).length ≤ l.length := by
  unfold trs
  split
  · simp
  · exact Nat.le_trans (List.length_filter_le _ _) (List.length_filter_le _ _)

set_option maxHeartbeats 2000000 in
theorem rsame_eq (a b : Option Addr) (n c d : Nat) (L : List (Hd × Hd)) (w : World) (ha : IsLs w a n c L) (hb : IsLs w b n d L) :
    Calls Tryd.prog 40 #[.slice a n c, .slice b n d] w fun e w' => e = .returned (.bool true) ∧ Below w.heap.size w w' := by
  have hll := ha.llen
  have hmx := ha.lmax
  have HA := Seal.mk (And.intro ha hb)
  have uL := Tryd.underlying74
  have q0 : ((n : Int) != (n : Int)) = false := by simp
  clear ha hb
  go_enter Tryd.func40, Tryd.ntmps40
  go_wp2
  go_loopw [5] (fun i wr => ∃ (k : Nat), k ≤ n ∧ i = .int .i64 k ∧ Seal (Below w.heap.size w wr)) (fun i _ => n - (intOf i).toNat)
  case atStart => exact ⟨0, by omega, rfl, ⟨Below.refl _ _⟩⟩
  case round =>
    obtain ⟨wo, rfl⟩ : ∃ z, z = wr := ⟨_, rfl⟩
    obtain ⟨k, hk, rfl, hH⟩ := hrel
    by_cases hlt : k < n
    · have hA := HA.out.1.below hH.out
      have hB := HA.out.2.below hH.out
      rcases hA.at_ with hz | ⟨g, off, rfl, hr, hg⟩
      · omega
      · rcases hB.at_ with hz | ⟨g2, off2, rfl, hr2, hg2⟩
        · omega
        · obtain ⟨x, hx⟩ : ∃ x, L[k]? = some x := ⟨_, List.getElem?_eq_getElem (by omega)⟩
          have okx := hA.each x (List.mem_of_getElem? hx)
          have rX := rangeC_at hr (fun x hx => lieC_len (HA.out.1.each x hx).1.t32 (HA.out.1.each x hx).2.t32) hx
          have rY := rangeC_at hr2 (fun x hx => lieC_len (HA.out.1.each x hx).1.t32 (HA.out.1.each x hx).2.t32) hx
          obtain ⟨C, hC⟩ : ∃ C, C = lieC x.1 x.2 := ⟨_, rfl⟩
          have qe : ∀ w, (Op.equalIn 10000 74 (.agg C.toArray) (.agg C.toArray)).run Tryd.prog w = .ok true w := fun w => by rw [hC, eqLie x x okx.1.t32 okx.2.t32 okx.1.t32 okx.2.t32 w, (liB_iff x x).2 rfl]
          have iC : (Tryd.prog.info? 74).map (·.size) = some C.length := by rw [hC]; exact lieC_info okx.1.t32 okx.2.t32
          rw [← hC] at rX rY
          have q5 : (k : Int) < (n : Int) := by omega
          have q6 : (0 : Int) ≤ (k : Int) := by omega
          clear hA hB hr hg hr2 hg2 hx okx hC
          go_wp2_with fail
          refine wp_region_held_drew (S := fun w' => w'.rangeAt g (off + k * 84) C ∧ w'.rangeAt g2 (off2 + k * 84) C) (by kernel_rfl) ⟨rX, rY⟩ (fun hHeld => ?_)
          have HV : Seal (Below w.heap.size w wo.drew) := ⟨hH.out.trans ((below_drewn wo).mono hH.out.size)⟩
          obtain ⟨V, hV⟩ : ∃ V, V = wo.drew := ⟨_, rfl⟩
          rw [← hV] at hHeld HV ⊢
          clear hV rX rY hH
          refine take_h 0 ?_ rfl (by kernel_rfl) (by kernel_rfl) (by kernel_rfl) (fun _ _ _ h => h) (Or.inl ⟨by kernel_rfl, ?_⟩) (by assumption) ?_
          rotate_left
          · (intro w hSw; (try dsimp only at hSw); go_simp; try (with_reducible rfl))
          try simp only [Act.put, List.setIfInBounds_toArray, List.set_cons_zero, List.set_cons_succ]
          refine take_h 1 ?_ rfl (by kernel_rfl) (by kernel_rfl) (by kernel_rfl) (fun _ _ _ h => h) (Or.inl ⟨by kernel_rfl, ?_⟩) (by assumption) ?_
          rotate_left
          · (intro w hSw; (try dsimp only at hSw); go_simp; try (with_reducible rfl))
          try simp only [Act.put, List.setIfInBounds_toArray, List.set_cons_zero, List.set_cons_succ]
          refine take_h 2 ?_ rfl (by kernel_rfl) (by kernel_rfl) (by kernel_rfl) (fun _ _ _ h => h) (Or.inl ⟨by kernel_rfl, ?_⟩) (by assumption) ?_
          rotate_left
          · (intro w hSw; (try dsimp only at hSw); go_simp; try (with_reducible rfl))
          try simp only [Act.put, List.setIfInBounds_toArray, List.set_cons_zero, List.set_cons_succ]
          refine take_h 3 _ rfl (by kernel_rfl) (by kernel_rfl) (by kernel_rfl) (fun _ _ _ h => h) (yieldsIf_load_mid (by kernel_rfl) 74 (.tmp 19) rfl g (off + k * 84) rfl C _ (fun w hSw => hSw.1) uL rfl iC) (by assumption) ?_
          try simp only [Act.put, List.setIfInBounds_toArray, List.set_cons_zero, List.set_cons_succ]
          refine take_h 4 ?_ rfl (by kernel_rfl) (by kernel_rfl) (by kernel_rfl) (fun _ _ _ h => h) (Or.inl ⟨by kernel_rfl, ?_⟩) (by assumption) ?_
          rotate_left
          · (intro w hSw; (try dsimp only at hSw); go_simp; try (with_reducible rfl))
          try simp only [Act.put, List.setIfInBounds_toArray, List.set_cons_zero, List.set_cons_succ]
          refine take_h 5 ?_ rfl (by kernel_rfl) (by kernel_rfl) (by kernel_rfl) (fun _ _ _ h => h) (Or.inl ⟨by kernel_rfl, ?_⟩) (by assumption) ?_
          rotate_left
          · (intro w hSw; (try dsimp only at hSw); go_simp; try (with_reducible rfl))
          try simp only [Act.put, List.setIfInBounds_toArray, List.set_cons_zero, List.set_cons_succ]
          refine take_h 6 ?_ rfl (by kernel_rfl) (by kernel_rfl) (by kernel_rfl) (fun _ _ _ h => h) (Or.inl ⟨by kernel_rfl, ?_⟩) (by assumption) ?_
          rotate_left
          · (intro w hSw; (try dsimp only at hSw); go_simp; try (with_reducible rfl))
          try simp only [Act.put, List.setIfInBounds_toArray, List.set_cons_zero, List.set_cons_succ]
          refine take_h 7 _ rfl (by kernel_rfl) (by kernel_rfl) (by kernel_rfl) (fun _ _ _ h => h) (yieldsIf_load_mid (by kernel_rfl) 74 (.tmp 23) rfl g2 (off2 + k * 84) rfl C _ (fun w hSw => hSw.2) uL rfl iC) (by assumption) ?_
          try simp only [Act.put, List.setIfInBounds_toArray, List.set_cons_zero, List.set_cons_succ]
          refine take_h 8 ?_ rfl (by kernel_rfl) (by kernel_rfl) (by kernel_rfl) (fun _ _ _ h => h) (Or.inl ⟨by kernel_rfl, ?_⟩) (by assumption) ?_
          rotate_left
          · (intro w hSw; (try dsimp only at hSw); go_simp; try (with_reducible rfl))
          try simp only [Act.put, List.setIfInBounds_toArray, List.set_cons_zero, List.set_cons_succ]
          refine wpAnyH_done (by kernel_rfl) ?_ _
          clear hHeld
          go_wp2
          go_roundw
          case rel => exact ⟨k + 1, by omega, by go_num, HV⟩
          case measure => simp [intOf]; omega
    · obtain rfl : k = n := by omega
      have q5 : ¬ (k : Int) < (k : Int) := by omega
      go_wp2
      go_ret
      exact ⟨rfl, hH.out⟩
set_option maxHeartbeats 2000000 in
theorem rsameh_eq (a b : Option Addr) (n c d : Nat) (L : List (Hd)) (w : World) (ha : IsHs w a n c L) (hb : IsHs w b n d L) :
    Calls Tryd.prog 41 #[.slice a n c, .slice b n d] w fun e w' => e = .returned (.bool true) ∧ Below w.heap.size w w' := by
  have hll := ha.llen
  have hmx := ha.lmax
  have HA := Seal.mk (And.intro ha hb)
  have uL := Tryd.underlying29
  have q0 : ((n : Int) != (n : Int)) = false := by simp
  clear ha hb
  go_enter Tryd.func41, Tryd.ntmps41
  go_wp2
  go_loopw [5] (fun i wr => ∃ (k : Nat), k ≤ n ∧ i = .int .i64 k ∧ Seal (Below w.heap.size w wr)) (fun i _ => n - (intOf i).toNat)
  case atStart => exact ⟨0, by omega, rfl, ⟨Below.refl _ _⟩⟩
  case round =>
    obtain ⟨wo, rfl⟩ : ∃ z, z = wr := ⟨_, rfl⟩
    obtain ⟨k, hk, rfl, hH⟩ := hrel
    by_cases hlt : k < n
    · have hA := HA.out.1.below hH.out
      have hB := HA.out.2.below hH.out
      rcases hA.at_ with hz | ⟨g, off, rfl, hr, hg⟩
      · omega
      · rcases hB.at_ with hz | ⟨g2, off2, rfl, hr2, hg2⟩
        · omega
        · obtain ⟨x, hx⟩ : ∃ x, L[k]? = some x := ⟨_, List.getElem?_eq_getElem (by omega)⟩
          have okx := hA.each x (List.mem_of_getElem? hx)
          have rX := rangeC_at hr (fun x hx => Hd.C_len (HA.out.1.each x hx).t32) hx
          have rY := rangeC_at hr2 (fun x hx => Hd.C_len (HA.out.1.each x hx).t32) hx
          obtain ⟨C, hC⟩ : ∃ C, C = x.C := ⟨_, rfl⟩
          have qe : ∀ w, (Op.equalIn 10000 29 (.agg C.toArray) (.agg C.toArray)).run Tryd.prog w = .ok true w := fun w => by rw [hC, eqHand x x okx.t32 okx.t32 w, (hdB_iff x x).2 rfl]
          have iC : (Tryd.prog.info? 29).map (·.size) = some C.length := by rw [hC]; exact Hd.C_info okx.t32
          rw [← hC] at rX rY
          have q5 : (k : Int) < (n : Int) := by omega
          have q6 : (0 : Int) ≤ (k : Int) := by omega
          clear hA hB hr hg hr2 hg2 hx okx hC
          go_wp2_with fail
          refine wp_region_held_drew (S := fun w' => w'.rangeAt g (off + k * 42) C ∧ w'.rangeAt g2 (off2 + k * 42) C) (by kernel_rfl) ⟨rX, rY⟩ (fun hHeld => ?_)
          have HV : Seal (Below w.heap.size w wo.drew) := ⟨hH.out.trans ((below_drewn wo).mono hH.out.size)⟩
          obtain ⟨V, hV⟩ : ∃ V, V = wo.drew := ⟨_, rfl⟩
          rw [← hV] at hHeld HV ⊢
          clear hV rX rY hH
          refine take_h 0 ?_ rfl (by kernel_rfl) (by kernel_rfl) (by kernel_rfl) (fun _ _ _ h => h) (Or.inl ⟨by kernel_rfl, ?_⟩) (by assumption) ?_
          rotate_left
          · (intro w hSw; (try dsimp only at hSw); go_simp; try (with_reducible rfl))
          try simp only [Act.put, List.setIfInBounds_toArray, List.set_cons_zero, List.set_cons_succ]
          refine take_h 1 ?_ rfl (by kernel_rfl) (by kernel_rfl) (by kernel_rfl) (fun _ _ _ h => h) (Or.inl ⟨by kernel_rfl, ?_⟩) (by assumption) ?_
          rotate_left
          · (intro w hSw; (try dsimp only at hSw); go_simp; try (with_reducible rfl))
          try simp only [Act.put, List.setIfInBounds_toArray, List.set_cons_zero, List.set_cons_succ]
          refine take_h 2 ?_ rfl (by kernel_rfl) (by kernel_rfl) (by kernel_rfl) (fun _ _ _ h => h) (Or.inl ⟨by kernel_rfl, ?_⟩) (by assumption) ?_
          rotate_left
          · (intro w hSw; (try dsimp only at hSw); go_simp; try (with_reducible rfl))
          try simp only [Act.put, List.setIfInBounds_toArray, List.set_cons_zero, List.set_cons_succ]
          refine take_h 3 _ rfl (by kernel_rfl) (by kernel_rfl) (by kernel_rfl) (fun _ _ _ h => h) (yieldsIf_load_mid (by kernel_rfl) 29 (.tmp 19) rfl g (off + k * 42) rfl C _ (fun w hSw => hSw.1) uL rfl iC) (by assumption) ?_
          try simp only [Act.put, List.setIfInBounds_toArray, List.set_cons_zero, List.set_cons_succ]
          refine take_h 4 ?_ rfl (by kernel_rfl) (by kernel_rfl) (by kernel_rfl) (fun _ _ _ h => h) (Or.inl ⟨by kernel_rfl, ?_⟩) (by assumption) ?_
          rotate_left
          · (intro w hSw; (try dsimp only at hSw); go_simp; try (with_reducible rfl))
          try simp only [Act.put, List.setIfInBounds_toArray, List.set_cons_zero, List.set_cons_succ]
          refine take_h 5 ?_ rfl (by kernel_rfl) (by kernel_rfl) (by kernel_rfl) (fun _ _ _ h => h) (Or.inl ⟨by kernel_rfl, ?_⟩) (by assumption) ?_
          rotate_left
          · (intro w hSw; (try dsimp only at hSw); go_simp; try (with_reducible rfl))
          try simp only [Act.put, List.setIfInBounds_toArray, List.set_cons_zero, List.set_cons_succ]
          refine take_h 6 ?_ rfl (by kernel_rfl) (by kernel_rfl) (by kernel_rfl) (fun _ _ _ h => h) (Or.inl ⟨by kernel_rfl, ?_⟩) (by assumption) ?_
          rotate_left
          · (intro w hSw; (try dsimp only at hSw); go_simp; try (with_reducible rfl))
          try simp only [Act.put, List.setIfInBounds_toArray, List.set_cons_zero, List.set_cons_succ]
          refine take_h 7 _ rfl (by kernel_rfl) (by kernel_rfl) (by kernel_rfl) (fun _ _ _ h => h) (yieldsIf_load_mid (by kernel_rfl) 29 (.tmp 23) rfl g2 (off2 + k * 42) rfl C _ (fun w hSw => hSw.2) uL rfl iC) (by assumption) ?_
          try simp only [Act.put, List.setIfInBounds_toArray, List.set_cons_zero, List.set_cons_succ]
          refine take_h 8 ?_ rfl (by kernel_rfl) (by kernel_rfl) (by kernel_rfl) (fun _ _ _ h => h) (Or.inl ⟨by kernel_rfl, ?_⟩) (by assumption) ?_
          rotate_left
          · (intro w hSw; (try dsimp only at hSw); go_simp; try (with_reducible rfl))
          try simp only [Act.put, List.setIfInBounds_toArray, List.set_cons_zero, List.set_cons_succ]
          refine wpAnyH_done (by kernel_rfl) ?_ _
          clear hHeld
          go_wp2
          go_roundw
          case rel => exact ⟨k + 1, by omega, by go_num, HV⟩
          case measure => simp [intOf]; omega
    · obtain rfl : k = n := by omega
      have q5 : ¬ (k : Int) < (k : Int) := by omega
      go_wp2
      go_ret
      exact ⟨rfl, hH.out⟩
end Frk

namespace Frk
open Go Go.RowKit Go.Proofs
set_option maxRecDepth 100000

def kA : Hd := ⟨2, 10, 30, 1, 1, 0, 4, zb32, 12, 0, 0⟩
def kB : Hd := ⟨2, 10, 30, 1, 1, 0, 5, zb32, 12, 0, 0⟩
def kC : Hd := ⟨2, 10, 30, 0, 1, 0, 4, zb32, 12, 0, 0⟩
def sA : Hd := kA.sg 844474424 453798050
def sB : Hd := kB.sg 863833683 506595863
def sC : Hd := kC.sg 136584336 977872519
theorem ok_kA : kA.ok := ⟨rfl, by unfold I64; decide, by unfold I64; decide, by unfold I64; decide, by unfold I64; decide, by unfold I64; decide, by unfold I64; decide, by unfold I64; decide, by unfold I64; decide⟩
theorem ok_kB : kB.ok := ⟨rfl, by unfold I64; decide, by unfold I64; decide, by unfold I64; decide, by unfold I64; decide, by unfold I64; decide, by unfold I64; decide, by unfold I64; decide, by unfold I64; decide⟩
theorem ok_kC : kC.ok := ⟨rfl, by unfold I64; decide, by unfold I64; decide, by unfold I64; decide, by unfold I64; decide, by unfold I64; decide, by unfold I64; decide, by unfold I64; decide, by unfold I64; decide⟩
theorem ok_sA : sA.ok := ⟨ok_kA.1, ok_kA.2, ok_kA.3, ok_kA.4, ok_kA.5, ok_kA.6, ok_kA.7, ok_kA.8, ok_kA.9⟩
theorem ok_sB : sB.ok := ⟨ok_kB.1, ok_kB.2, ok_kB.3, ok_kB.4, ok_kB.5, ok_kB.6, ok_kB.7, ok_kB.8, ok_kB.9⟩
theorem ok_sC : sC.ok := ⟨ok_kC.1, ok_kC.2, ok_kC.3, ok_kC.4, ok_kC.5, ok_kC.6, ok_kC.7, ok_kC.8, ok_kC.9⟩
theorem ok_hz : hz.ok := ⟨rfl, by unfold I64; decide, by unfold I64; decide, by unfold I64; decide, by unfold I64; decide, by unfold I64; decide, by unfold I64; decide, by unfold I64; decide, by unfold I64; decide⟩

theorem mk_of {h : Hd} {E : Nat} {S : Int} (hf : h.fm = true) (hE : sgE 3 h.tx = E) (hS : sgS 3 h.tx = S) : mkF 3 h = (h.sg E S, 0) := by
  unfold mkF
  rw [if_pos (by decide), if_pos hf, hE, hS]
theorem mk_A : mkF 3 kA = (sA, 0) := mk_of (by decide) (by rw [sgE_q]; decide +kernel) (by rw [sgS_q]; decide +kernel)
theorem mk_B : mkF 3 kB = (sB, 0) := mk_of (by decide) (by rw [sgE_q]; decide +kernel) (by rw [sgS_q]; decide +kernel)
theorem mk_C : mkF 3 kC = (sC, 0) := mk_of (by decide) (by rw [sgE_q]; decide +kernel) (by rw [sgS_q]; decide +kernel)
theorem ch_A : chB 64 sA = true := by unfold chB; rw [show sA.fm = true from by decide, Bool.true_and, vr_q]; decide +kernel
theorem ch_B : chB 64 sB = true := by unfold chB; rw [show sB.fm = true from by decide, Bool.true_and, vr_q]; decide +kernel
theorem ch_C : chB 64 sC = true := by unfold chB; rw [show sC.fm = true from by decide, Bool.true_and, vr_q]; decide +kernel
theorem sg_A : sgn [4, 64] sA = true := by unfold sgn; rw [show ([4, 64] : List Int).getD sA.fr.toNat 0 = 64 from rfl, ch_A]; decide
theorem sg_B : sgn [4, 64] sB = true := by unfold sgn; rw [show ([4, 64] : List Int).getD sB.fr.toNat 0 = 64 from rfl, ch_B]; decide
theorem sg_C : sgn [4, 64] sC = true := by unfold sgn; rw [show ([4, 64] : List Int).getD sC.fr.toNat 0 = 64 from rfl, ch_C]; decide
theorem sgd_all {ks : List Int} {l : List Hd} (h : ∀ x ∈ l, sgn ks x = true) : sgd ks l = l := List.filter_eq_self.2 h

theorem cl_AB : clB sA sB = true := by decide
theorem cl_AC : clB sA sC = false := by decide
theorem cl_BC : clB sB sC = false := by decide
theorem fd_none {s : List Hd} (hs : ∀ x ∈ s, x.fm = true) (h : ∀ a ∈ s, ∀ b ∈ s, clB a b = false) (o : Int) : fdF s o = none :=
  (fdF_spec _ s rfl hs o).unique (r' := none) (fun a ha b hb _ => h a ha b hb)
theorem fnd_none {ks : List Int} {l : List Hd} (h : ∀ a ∈ l, ∀ b ∈ l, clB a b = false) : fnd ks l = [] := by
  unfold fnd
  split
  · rfl
  · unfold fndP
    refine List.filterMap_eq_nil_iff.2 (fun o _ => ?_)
    exact fd_none sgd_fm (fun a ha b hb => h a (List.mem_filter.1 ha).1 b (List.mem_filter.1 hb).1) _
theorem lie_AB {s : List Hd} (hm : ∀ x ∈ s, x = sA ∨ x = sB ∨ x = sC) (h1 : s.find? (fun x => slB x sA) = some sA) (h2 : s.find? (fun x => clB sA x) = some sB) : fdF s 1 = some (sA, sB) := by
  refine (fdF_spec _ s rfl (fun x hx => ?_) 1).unique (r' := some (sA, sB)) ⟨rfl, h1, h2, fun a ha b hb _ hc => ?_⟩
  · rcases hm x hx with rfl | rfl | rfl <;> decide
  · rcases hm a ha with rfl | rfl | rfl
    · decide
    · decide
    · rcases hm b hb with rfl | rfl | rfl
      · rw [cq_comm, cl_AC] at hc; cases hc
      · rw [cq_comm, cl_BC] at hc; cases hc
      · rw [cq_self] at hc; cases hc
theorem fd_zero {s : List Hd} (hm : ∀ x ∈ s, x = sA ∨ x = sB ∨ x = sC) : fdF s 0 = none := by
  refine (fdF_spec _ s rfl (fun x hx => ?_) 0).unique (r' := none) (fun a ha b hb hf => ?_)
  · rcases hm x hx with rfl | rfl | rfl <;> decide
  · rcases hm a ha with rfl | rfl | rfl <;> exact absurd hf (by decide)
theorem abc {s : List Hd} (h : ∀ x ∈ s, x = sA ∨ x = sB ∨ x = sC) : sgd [4, 64] s = s := sgd_all (fun x hx => by
  rcases h x hx with rfl | rfl | rfl
  · exact sg_A
  · exact sg_B
  · exact sg_C)
theorem mem1 : ∀ x ∈ [sC, sA, sA, sB], x = sA ∨ x = sB ∨ x = sC := by intro x hx; simp at hx; rcases hx with h | h | h <;> simp [h]
theorem mem2 : ∀ x ∈ [sC, sA, sB], x = sA ∨ x = sB ∨ x = sC := by intro x hx; simp at hx; rcases hx with h | h | h <;> simp [h]
theorem mem3 : ∀ x ∈ [sA, sC], x = sA ∨ x = sB ∨ x = sC := by intro x hx; simp at hx; rcases hx with h | h <;> simp [h]
theorem ex_find : fnd [4, 64] [sC, sA, sA, sB] = [(sA, sB)] := by
  unfold fnd
  rw [if_neg (by decide)]
  unfold fndP
  rw [abc mem1]
  have e0 := fd_zero mem1
  have e1 := lie_AB mem1 (by kernel_rfl) (by kernel_rfl)
  simp [List.range_succ, e0, e1]
theorem ex_trust1 : trs [4, 64] [sC, sA, sB] = [] := by
  unfold trs
  rw [if_neg (by decide)]
  unfold trsP
  rw [abc mem2]
  have e1 := lie_AB mem2 (by kernel_rfl) (by kernel_rfl)
  refine List.filter_eq_nil_iff.2 (fun x hx => ?_)
  have : x.fr = 1 := by rcases mem2 x hx with rfl | rfl | rfl <;> rfl
  rw [this, e1]; simp
theorem ex_trust2 : trs [4, 64] [sA, sC] = [sA, sC] := by
  unfold trs
  rw [if_neg (by decide)]
  unfold trsP
  rw [abc mem3]
  refine List.filter_eq_self.2 (fun x hx => ?_)
  rw [fd_none (fun x hx => by rcases mem3 x hx with rfl | rfl | rfl <;> decide) (fun a ha b hb => by
    simp only [List.mem_cons, List.not_mem_nil, or_false] at ha hb
    rcases ha with rfl | rfl <;> rcases hb with rfl | rfl <;> first | exact cq_self _ | exact cl_AC | (rw [cq_comm]; exact cl_AC))]
  rfl
theorem ex_find2 : fnd [] [sA, sB] = [] := rfl
theorem ex_find3 : fnd [4, 4] [hz, sC, sC] = [] := fnd_none (fun a ha b hb => by
  simp only [List.mem_cons, List.not_mem_nil, or_false] at ha hb
  have h1 : clB hz sC = false := by decide
  rcases ha with rfl | rfl | rfl <;> rcases hb with rfl | rfl | rfl <;> first | exact cq_self _ | exact h1 | (rw [cq_comm]; exact h1))
theorem ex_trust3 (ks : List Int) (h : ks.length = 25) : trs ks [] = [] ∧ ler ks = 2 := ⟨by unfold trs; rw [h]; rfl, by unfold ler; rw [h]; rfl⟩
theorem ex_chk : chL 64 sA sB = true ∧ chL 64 sA sA = false ∧ chL 64 sA sC = false ∧ chL 64 hz hz = false := by
  unfold chL
  rw [cl_AB, ch_A, ch_B, cq_self, cl_AC, cq_self]
  exact ⟨rfl, rfl, rfl, rfl⟩
end Frk

namespace Frk
open Go Go.RowKit Go.Proofs
set_option maxRecDepth 100000

theorem isHs_new (w : World) (l : List Hd) (n : Nat) (hn : l.length = n) (ok : ∀ h ∈ l, h.ok) (hm : n ≤ 5000) (cs : List Value) (hc : cs = l.flatMap Hd.C) : IsHs (w.alloc (.cells cs.toArray 29)) (some ⟨w.heap.size, 0, none⟩) n n l :=
  ⟨hn, Nat.le_refl _, hm, by omega, ok, .inr ⟨w.heap.size, 0, rfl, by rw [hc]; exact rangeAt_row (heap_alloc_new w _), by rw [size_alloc]; omega⟩⟩
theorem isHs_nil (w : World) (a : Option Addr) (c : Nat) (hc : c ≤ 9223372036854775807) : IsHs w a 0 c [] := ⟨rfl, Nat.zero_le _, by decide, hc, by simp, .inl rfl⟩
theorem isKs_nil (w : World) (a : Option Addr) (c : Nat) (hc : c ≤ 9223372036854775807) : IsKs w a 0 c [] := ⟨rfl, Nat.zero_le _, by decide, hc, .inl rfl⟩


set_option maxHeartbeats 2000000 in
theorem signed51_A (w : World) (hG : Glob w) : Calls Tryd.prog 69 #[.int .i64 1, .int .i64 4] w fun e w' => e = .returned (.tuple #[.agg sA.C.toArray, .bool true]) ∧ Below w.heap.size w w' := by
  obtain ⟨X, hX⟩ : ∃ X : World, X = w.alloc (.cells (List.toArray (.int .i64 0 :: .int .i64 0 :: .int .i64 0 :: .int .i64 0 :: .int .i64 0 :: .int .i64 0 :: .int .i64 0 :: .int .u8 0 :: .int .u8 0 :: .int .u8 0 :: .int .u8 0 :: .int .u8 0 :: .int .u8 0 :: .int .u8 0 :: .int .u8 0 :: .int .u8 0 :: .int .u8 0 :: .int .u8 0 :: .int .u8 0 :: .int .u8 0 :: .int .u8 0 :: .int .u8 0 :: .int .u8 0 :: .int .u8 0 :: .int .u8 0 :: .int .u8 0 :: .int .u8 0 :: .int .u8 0 :: .int .u8 0 :: .int .u8 0 :: .int .u8 0 :: .int .u8 0 :: .int .u8 0 :: .int .u8 0 :: .int .u8 0 :: .int .u8 0 :: .int .u8 0 :: .int .u8 0 :: .int .u8 0 :: .int .i64 0 :: .int .i64 0 :: .int .i64 0 :: [] : List Value) : Array Value) 29) := ⟨_, rfl⟩
  have hXz : X.heap[w.heap.size]? = some (.cells (List.toArray (.int .i64 0 :: .int .i64 0 :: .int .i64 0 :: .int .i64 0 :: .int .i64 0 :: .int .i64 0 :: .int .i64 0 :: .int .u8 0 :: .int .u8 0 :: .int .u8 0 :: .int .u8 0 :: .int .u8 0 :: .int .u8 0 :: .int .u8 0 :: .int .u8 0 :: .int .u8 0 :: .int .u8 0 :: .int .u8 0 :: .int .u8 0 :: .int .u8 0 :: .int .u8 0 :: .int .u8 0 :: .int .u8 0 :: .int .u8 0 :: .int .u8 0 :: .int .u8 0 :: .int .u8 0 :: .int .u8 0 :: .int .u8 0 :: .int .u8 0 :: .int .u8 0 :: .int .u8 0 :: .int .u8 0 :: .int .u8 0 :: .int .u8 0 :: .int .u8 0 :: .int .u8 0 :: .int .u8 0 :: .int .u8 0 :: .int .i64 0 :: .int .i64 0 :: .int .i64 0 :: [] : List Value) : Array Value) 29 (0, 0)) := by rw [hX]; exact heap_alloc_new _ _
  have hXs : w.heap.size < X.heap.size := by rw [hX, size_alloc]; omega
  have hXb : Below w.heap.size w X := by rw [hX]; exact below_alloc _ _
  obtain ⟨CS, hCS⟩ : ∃ C, C = sA.C := ⟨_, rfl⟩
  have hm := hmake_any 3 kA X ok_kA (hG.below hXb)
  rw [mk_A] at hm
  rw [show kA.C.toArray = (List.toArray (.int .i64 2 :: .int .i64 10 :: .int .i64 30 :: .int .i64 1 :: .int .i64 1 :: .int .i64 0 :: .int .i64 4 :: .int .u8 0 :: .int .u8 0 :: .int .u8 0 :: .int .u8 0 :: .int .u8 0 :: .int .u8 0 :: .int .u8 0 :: .int .u8 0 :: .int .u8 0 :: .int .u8 0 :: .int .u8 0 :: .int .u8 0 :: .int .u8 0 :: .int .u8 0 :: .int .u8 0 :: .int .u8 0 :: .int .u8 0 :: .int .u8 0 :: .int .u8 0 :: .int .u8 0 :: .int .u8 0 :: .int .u8 0 :: .int .u8 0 :: .int .u8 0 :: .int .u8 0 :: .int .u8 0 :: .int .u8 0 :: .int .u8 0 :: .int .u8 0 :: .int .u8 0 :: .int .u8 0 :: .int .u8 0 :: .int .i64 12 :: .int .i64 0 :: .int .i64 0 :: [] : List Value) : Array Value) from by kernel_rfl] at hm
  rw [← hCS] at hm ⊢
  have HM := Seal.mk hm
  have iC : (Tryd.prog.info? 29).map (·.size) = some CS.length := by rw [hCS]; exact Hd.C_info ok_sA.t32
  have zC : (.int .i64 0 :: .int .i64 0 :: .int .i64 0 :: .int .i64 0 :: .int .i64 0 :: .int .i64 0 :: .int .i64 0 :: .int .u8 0 :: .int .u8 0 :: .int .u8 0 :: .int .u8 0 :: .int .u8 0 :: .int .u8 0 :: .int .u8 0 :: .int .u8 0 :: .int .u8 0 :: .int .u8 0 :: .int .u8 0 :: .int .u8 0 :: .int .u8 0 :: .int .u8 0 :: .int .u8 0 :: .int .u8 0 :: .int .u8 0 :: .int .u8 0 :: .int .u8 0 :: .int .u8 0 :: .int .u8 0 :: .int .u8 0 :: .int .u8 0 :: .int .u8 0 :: .int .u8 0 :: .int .u8 0 :: .int .u8 0 :: .int .u8 0 :: .int .u8 0 :: .int .u8 0 :: .int .u8 0 :: .int .u8 0 :: .int .i64 0 :: .int .i64 0 :: .int .i64 0 :: [] : List Value).length = CS.length := by rw [show CS.length = 42 from by rw [hCS, Hd.C_len ok_sA.t32]]; rfl
  have oC : ∀ v ∈ CS, v.oneCell' = true := by rw [hCS]; exact Hd.C_one _
  have HX := Seal.mk (And.intro hXz (And.intro hXs hXb))
  have uH := Tryd.underlying29
  have OC := Seal.mk (And.intro iC (And.intro zC oC))
  clear hm hCS hXz hXs hXb hG zC oC
  go_enter Tryd.func69, Tryd.ntmps69
  go_upto_region 1 with (fail)
  rw [← hX]
  clear hX
  go_wp2_with fail
  refine HM.out.mono ?_
  rintro e V1 ⟨rfl, hb⟩
  have r4 := blk hb HX.out.2.1 HX.out.1
  have HB1 : Seal (Below w.heap.size w V1 ∧ w.heap.size < V1.heap.size) := ⟨HX.out.2.2.trans (hb.mono HX.out.2.2.size), Nat.lt_of_lt_of_le HX.out.2.1 hb.size⟩
  clear hb HX HM
  go_wp2_with (first
    | (refine wpList_newvar rfl rfl 29 6 (.tmp 14) rfl rfl rfl (.int .i64 0 :: .int .i64 0 :: .int .i64 0 :: .int .i64 0 :: .int .i64 0 :: .int .i64 0 :: .int .i64 0 :: .int .u8 0 :: .int .u8 0 :: .int .u8 0 :: .int .u8 0 :: .int .u8 0 :: .int .u8 0 :: .int .u8 0 :: .int .u8 0 :: .int .u8 0 :: .int .u8 0 :: .int .u8 0 :: .int .u8 0 :: .int .u8 0 :: .int .u8 0 :: .int .u8 0 :: .int .u8 0 :: .int .u8 0 :: .int .u8 0 :: .int .u8 0 :: .int .u8 0 :: .int .u8 0 :: .int .u8 0 :: .int .u8 0 :: .int .u8 0 :: .int .u8 0 :: .int .u8 0 :: .int .u8 0 :: .int .u8 0 :: .int .u8 0 :: .int .u8 0 :: .int .u8 0 :: .int .u8 0 :: .int .i64 0 :: .int .i64 0 :: .int .i64 0 :: [] : List Value) CS (exec_alloc_hand rfl _) rfl rfl iC OC.out.2.1 OC.out.2.2 ?_; intro V2 hV2; have HB2 : Seal (Below w.heap.size w V2) := ⟨(by rw [hV2]; exact HB1.out.1.alloc HB1.out.1.size _)⟩; have r6 : V2.rangeAt V1.heap.size 0 CS := (by rw [hV2]; exact rangeAt_row (heap_alloc_new V1 _)); have r42 : V2.heap[w.heap.size]? = some (.cells (List.toArray (.int .i64 0 :: .int .i64 0 :: .int .i64 0 :: .int .i64 0 :: .int .i64 0 :: .int .i64 0 :: .int .i64 0 :: .int .u8 0 :: .int .u8 0 :: .int .u8 0 :: .int .u8 0 :: .int .u8 0 :: .int .u8 0 :: .int .u8 0 :: .int .u8 0 :: .int .u8 0 :: .int .u8 0 :: .int .u8 0 :: .int .u8 0 :: .int .u8 0 :: .int .u8 0 :: .int .u8 0 :: .int .u8 0 :: .int .u8 0 :: .int .u8 0 :: .int .u8 0 :: .int .u8 0 :: .int .u8 0 :: .int .u8 0 :: .int .u8 0 :: .int .u8 0 :: .int .u8 0 :: .int .u8 0 :: .int .u8 0 :: .int .u8 0 :: .int .u8 0 :: .int .u8 0 :: .int .u8 0 :: .int .u8 0 :: .int .i64 0 :: .int .i64 0 :: .int .i64 0 :: [] : List Value) : Array Value) 29 (0, 0)) := (by rw [hV2]; exact (Below.heap_alloc V1 _ _ HB1.out.2).trans r4); clear hV2 r4 HB1; obtain ⟨g6, hg6⟩ : ∃ g, g = V1.heap.size := ⟨_, rfl⟩; rw [← hg6] at r6 ⊢; clear hg6; (try simp only [Act.put, List.setIfInBounds_toArray, List.set_cons_zero, List.set_cons_succ]))
    | (refine wpList_load_mid rfl 29 (.tmp 6) rfl g6 0 rfl CS _ r6 uH rfl iC ?_; (try simp only [Act.put, List.setIfInBounds_toArray, List.set_cons_zero, List.set_cons_succ]))
    | (refine wpList_store_row rfl 29 (.tmp 4) (.tmp 16) rfl w.heap.size CS.toArray rfl rfl 29 (List.toArray (.int .i64 0 :: .int .i64 0 :: .int .i64 0 :: .int .i64 0 :: .int .i64 0 :: .int .i64 0 :: .int .i64 0 :: .int .u8 0 :: .int .u8 0 :: .int .u8 0 :: .int .u8 0 :: .int .u8 0 :: .int .u8 0 :: .int .u8 0 :: .int .u8 0 :: .int .u8 0 :: .int .u8 0 :: .int .u8 0 :: .int .u8 0 :: .int .u8 0 :: .int .u8 0 :: .int .u8 0 :: .int .u8 0 :: .int .u8 0 :: .int .u8 0 :: .int .u8 0 :: .int .u8 0 :: .int .u8 0 :: .int .u8 0 :: .int .u8 0 :: .int .u8 0 :: .int .u8 0 :: .int .u8 0 :: .int .u8 0 :: .int .u8 0 :: .int .u8 0 :: .int .u8 0 :: .int .u8 0 :: .int .u8 0 :: .int .i64 0 :: .int .i64 0 :: .int .i64 0 :: [] : List Value) : Array Value) r42 (by rw [List.size_toArray]; exact iC) (by rw [List.size_toArray]; exact OC.out.2.1) (all_oneCell_toArray OC.out.2.2) ?_; (try simp only [Act.put, List.setIfInBounds_toArray, List.set_cons_zero, List.set_cons_succ])))
  exact bodyPost_ret (results_row_tmp (fn := Tryd.f69) rfl _ _ w.heap.size 29 CS.toArray (0, 0) _ _ rfl rfl (setRow_heap _ _ _ _ _ _ r42) uH rfl (by rw [List.size_toArray]; exact iC)) rfl ⟨by simp, below_row HB2.out (Nat.le_refl _) _⟩


set_option maxHeartbeats 2000000 in
theorem signed51_B (w : World) (hG : Glob w) : Calls Tryd.prog 69 #[.int .i64 1, .int .i64 5] w fun e w' => e = .returned (.tuple #[.agg sB.C.toArray, .bool true]) ∧ Below w.heap.size w w' := by
  obtain ⟨X, hX⟩ : ∃ X : World, X = w.alloc (.cells (List.toArray (.int .i64 0 :: .int .i64 0 :: .int .i64 0 :: .int .i64 0 :: .int .i64 0 :: .int .i64 0 :: .int .i64 0 :: .int .u8 0 :: .int .u8 0 :: .int .u8 0 :: .int .u8 0 :: .int .u8 0 :: .int .u8 0 :: .int .u8 0 :: .int .u8 0 :: .int .u8 0 :: .int .u8 0 :: .int .u8 0 :: .int .u8 0 :: .int .u8 0 :: .int .u8 0 :: .int .u8 0 :: .int .u8 0 :: .int .u8 0 :: .int .u8 0 :: .int .u8 0 :: .int .u8 0 :: .int .u8 0 :: .int .u8 0 :: .int .u8 0 :: .int .u8 0 :: .int .u8 0 :: .int .u8 0 :: .int .u8 0 :: .int .u8 0 :: .int .u8 0 :: .int .u8 0 :: .int .u8 0 :: .int .u8 0 :: .int .i64 0 :: .int .i64 0 :: .int .i64 0 :: [] : List Value) : Array Value) 29) := ⟨_, rfl⟩
  have hXz : X.heap[w.heap.size]? = some (.cells (List.toArray (.int .i64 0 :: .int .i64 0 :: .int .i64 0 :: .int .i64 0 :: .int .i64 0 :: .int .i64 0 :: .int .i64 0 :: .int .u8 0 :: .int .u8 0 :: .int .u8 0 :: .int .u8 0 :: .int .u8 0 :: .int .u8 0 :: .int .u8 0 :: .int .u8 0 :: .int .u8 0 :: .int .u8 0 :: .int .u8 0 :: .int .u8 0 :: .int .u8 0 :: .int .u8 0 :: .int .u8 0 :: .int .u8 0 :: .int .u8 0 :: .int .u8 0 :: .int .u8 0 :: .int .u8 0 :: .int .u8 0 :: .int .u8 0 :: .int .u8 0 :: .int .u8 0 :: .int .u8 0 :: .int .u8 0 :: .int .u8 0 :: .int .u8 0 :: .int .u8 0 :: .int .u8 0 :: .int .u8 0 :: .int .u8 0 :: .int .i64 0 :: .int .i64 0 :: .int .i64 0 :: [] : List Value) : Array Value) 29 (0, 0)) := by rw [hX]; exact heap_alloc_new _ _
  have hXs : w.heap.size < X.heap.size := by rw [hX, size_alloc]; omega
  have hXb : Below w.heap.size w X := by rw [hX]; exact below_alloc _ _
  obtain ⟨CS, hCS⟩ : ∃ C, C = sB.C := ⟨_, rfl⟩
  have hm := hmake_any 3 kB X ok_kB (hG.below hXb)
  rw [mk_B] at hm
  rw [show kB.C.toArray = (List.toArray (.int .i64 2 :: .int .i64 10 :: .int .i64 30 :: .int .i64 1 :: .int .i64 1 :: .int .i64 0 :: .int .i64 5 :: .int .u8 0 :: .int .u8 0 :: .int .u8 0 :: .int .u8 0 :: .int .u8 0 :: .int .u8 0 :: .int .u8 0 :: .int .u8 0 :: .int .u8 0 :: .int .u8 0 :: .int .u8 0 :: .int .u8 0 :: .int .u8 0 :: .int .u8 0 :: .int .u8 0 :: .int .u8 0 :: .int .u8 0 :: .int .u8 0 :: .int .u8 0 :: .int .u8 0 :: .int .u8 0 :: .int .u8 0 :: .int .u8 0 :: .int .u8 0 :: .int .u8 0 :: .int .u8 0 :: .int .u8 0 :: .int .u8 0 :: .int .u8 0 :: .int .u8 0 :: .int .u8 0 :: .int .u8 0 :: .int .i64 12 :: .int .i64 0 :: .int .i64 0 :: [] : List Value) : Array Value) from by kernel_rfl] at hm
  rw [← hCS] at hm ⊢
  have HM := Seal.mk hm
  have iC : (Tryd.prog.info? 29).map (·.size) = some CS.length := by rw [hCS]; exact Hd.C_info ok_sB.t32
  have zC : (.int .i64 0 :: .int .i64 0 :: .int .i64 0 :: .int .i64 0 :: .int .i64 0 :: .int .i64 0 :: .int .i64 0 :: .int .u8 0 :: .int .u8 0 :: .int .u8 0 :: .int .u8 0 :: .int .u8 0 :: .int .u8 0 :: .int .u8 0 :: .int .u8 0 :: .int .u8 0 :: .int .u8 0 :: .int .u8 0 :: .int .u8 0 :: .int .u8 0 :: .int .u8 0 :: .int .u8 0 :: .int .u8 0 :: .int .u8 0 :: .int .u8 0 :: .int .u8 0 :: .int .u8 0 :: .int .u8 0 :: .int .u8 0 :: .int .u8 0 :: .int .u8 0 :: .int .u8 0 :: .int .u8 0 :: .int .u8 0 :: .int .u8 0 :: .int .u8 0 :: .int .u8 0 :: .int .u8 0 :: .int .u8 0 :: .int .i64 0 :: .int .i64 0 :: .int .i64 0 :: [] : List Value).length = CS.length := by rw [show CS.length = 42 from by rw [hCS, Hd.C_len ok_sB.t32]]; rfl
  have oC : ∀ v ∈ CS, v.oneCell' = true := by rw [hCS]; exact Hd.C_one _
  have HX := Seal.mk (And.intro hXz (And.intro hXs hXb))
  have uH := Tryd.underlying29
  have OC := Seal.mk (And.intro iC (And.intro zC oC))
  clear hm hCS hXz hXs hXb hG zC oC
  go_enter Tryd.func69, Tryd.ntmps69
  go_upto_region 1 with (fail)
  rw [← hX]
  clear hX
  go_wp2_with fail
  refine HM.out.mono ?_
  rintro e V1 ⟨rfl, hb⟩
  have r4 := blk hb HX.out.2.1 HX.out.1
  have HB1 : Seal (Below w.heap.size w V1 ∧ w.heap.size < V1.heap.size) := ⟨HX.out.2.2.trans (hb.mono HX.out.2.2.size), Nat.lt_of_lt_of_le HX.out.2.1 hb.size⟩
  clear hb HX HM
  go_wp2_with (first
    | (refine wpList_newvar rfl rfl 29 6 (.tmp 14) rfl rfl rfl (.int .i64 0 :: .int .i64 0 :: .int .i64 0 :: .int .i64 0 :: .int .i64 0 :: .int .i64 0 :: .int .i64 0 :: .int .u8 0 :: .int .u8 0 :: .int .u8 0 :: .int .u8 0 :: .int .u8 0 :: .int .u8 0 :: .int .u8 0 :: .int .u8 0 :: .int .u8 0 :: .int .u8 0 :: .int .u8 0 :: .int .u8 0 :: .int .u8 0 :: .int .u8 0 :: .int .u8 0 :: .int .u8 0 :: .int .u8 0 :: .int .u8 0 :: .int .u8 0 :: .int .u8 0 :: .int .u8 0 :: .int .u8 0 :: .int .u8 0 :: .int .u8 0 :: .int .u8 0 :: .int .u8 0 :: .int .u8 0 :: .int .u8 0 :: .int .u8 0 :: .int .u8 0 :: .int .u8 0 :: .int .u8 0 :: .int .i64 0 :: .int .i64 0 :: .int .i64 0 :: [] : List Value) CS (exec_alloc_hand rfl _) rfl rfl iC OC.out.2.1 OC.out.2.2 ?_; intro V2 hV2; have HB2 : Seal (Below w.heap.size w V2) := ⟨(by rw [hV2]; exact HB1.out.1.alloc HB1.out.1.size _)⟩; have r6 : V2.rangeAt V1.heap.size 0 CS := (by rw [hV2]; exact rangeAt_row (heap_alloc_new V1 _)); have r42 : V2.heap[w.heap.size]? = some (.cells (List.toArray (.int .i64 0 :: .int .i64 0 :: .int .i64 0 :: .int .i64 0 :: .int .i64 0 :: .int .i64 0 :: .int .i64 0 :: .int .u8 0 :: .int .u8 0 :: .int .u8 0 :: .int .u8 0 :: .int .u8 0 :: .int .u8 0 :: .int .u8 0 :: .int .u8 0 :: .int .u8 0 :: .int .u8 0 :: .int .u8 0 :: .int .u8 0 :: .int .u8 0 :: .int .u8 0 :: .int .u8 0 :: .int .u8 0 :: .int .u8 0 :: .int .u8 0 :: .int .u8 0 :: .int .u8 0 :: .int .u8 0 :: .int .u8 0 :: .int .u8 0 :: .int .u8 0 :: .int .u8 0 :: .int .u8 0 :: .int .u8 0 :: .int .u8 0 :: .int .u8 0 :: .int .u8 0 :: .int .u8 0 :: .int .u8 0 :: .int .i64 0 :: .int .i64 0 :: .int .i64 0 :: [] : List Value) : Array Value) 29 (0, 0)) := (by rw [hV2]; exact (Below.heap_alloc V1 _ _ HB1.out.2).trans r4); clear hV2 r4 HB1; obtain ⟨g6, hg6⟩ : ∃ g, g = V1.heap.size := ⟨_, rfl⟩; rw [← hg6] at r6 ⊢; clear hg6; (try simp only [Act.put, List.setIfInBounds_toArray, List.set_cons_zero, List.set_cons_succ]))
    | (refine wpList_load_mid rfl 29 (.tmp 6) rfl g6 0 rfl CS _ r6 uH rfl iC ?_; (try simp only [Act.put, List.setIfInBounds_toArray, List.set_cons_zero, List.set_cons_succ]))
    | (refine wpList_store_row rfl 29 (.tmp 4) (.tmp 16) rfl w.heap.size CS.toArray rfl rfl 29 (List.toArray (.int .i64 0 :: .int .i64 0 :: .int .i64 0 :: .int .i64 0 :: .int .i64 0 :: .int .i64 0 :: .int .i64 0 :: .int .u8 0 :: .int .u8 0 :: .int .u8 0 :: .int .u8 0 :: .int .u8 0 :: .int .u8 0 :: .int .u8 0 :: .int .u8 0 :: .int .u8 0 :: .int .u8 0 :: .int .u8 0 :: .int .u8 0 :: .int .u8 0 :: .int .u8 0 :: .int .u8 0 :: .int .u8 0 :: .int .u8 0 :: .int .u8 0 :: .int .u8 0 :: .int .u8 0 :: .int .u8 0 :: .int .u8 0 :: .int .u8 0 :: .int .u8 0 :: .int .u8 0 :: .int .u8 0 :: .int .u8 0 :: .int .u8 0 :: .int .u8 0 :: .int .u8 0 :: .int .u8 0 :: .int .u8 0 :: .int .i64 0 :: .int .i64 0 :: .int .i64 0 :: [] : List Value) : Array Value) r42 (by rw [List.size_toArray]; exact iC) (by rw [List.size_toArray]; exact OC.out.2.1) (all_oneCell_toArray OC.out.2.2) ?_; (try simp only [Act.put, List.setIfInBounds_toArray, List.set_cons_zero, List.set_cons_succ])))
  exact bodyPost_ret (results_row_tmp (fn := Tryd.f69) rfl _ _ w.heap.size 29 CS.toArray (0, 0) _ _ rfl rfl (setRow_heap _ _ _ _ _ _ r42) uH rfl (by rw [List.size_toArray]; exact iC)) rfl ⟨by simp, below_row HB2.out (Nat.le_refl _) _⟩


set_option maxHeartbeats 2000000 in
theorem signed51_C (w : World) (hG : Glob w) : Calls Tryd.prog 69 #[.int .i64 0, .int .i64 4] w fun e w' => e = .returned (.tuple #[.agg sC.C.toArray, .bool true]) ∧ Below w.heap.size w w' := by
  obtain ⟨X, hX⟩ : ∃ X : World, X = w.alloc (.cells (List.toArray (.int .i64 0 :: .int .i64 0 :: .int .i64 0 :: .int .i64 0 :: .int .i64 0 :: .int .i64 0 :: .int .i64 0 :: .int .u8 0 :: .int .u8 0 :: .int .u8 0 :: .int .u8 0 :: .int .u8 0 :: .int .u8 0 :: .int .u8 0 :: .int .u8 0 :: .int .u8 0 :: .int .u8 0 :: .int .u8 0 :: .int .u8 0 :: .int .u8 0 :: .int .u8 0 :: .int .u8 0 :: .int .u8 0 :: .int .u8 0 :: .int .u8 0 :: .int .u8 0 :: .int .u8 0 :: .int .u8 0 :: .int .u8 0 :: .int .u8 0 :: .int .u8 0 :: .int .u8 0 :: .int .u8 0 :: .int .u8 0 :: .int .u8 0 :: .int .u8 0 :: .int .u8 0 :: .int .u8 0 :: .int .u8 0 :: .int .i64 0 :: .int .i64 0 :: .int .i64 0 :: [] : List Value) : Array Value) 29) := ⟨_, rfl⟩
  have hXz : X.heap[w.heap.size]? = some (.cells (List.toArray (.int .i64 0 :: .int .i64 0 :: .int .i64 0 :: .int .i64 0 :: .int .i64 0 :: .int .i64 0 :: .int .i64 0 :: .int .u8 0 :: .int .u8 0 :: .int .u8 0 :: .int .u8 0 :: .int .u8 0 :: .int .u8 0 :: .int .u8 0 :: .int .u8 0 :: .int .u8 0 :: .int .u8 0 :: .int .u8 0 :: .int .u8 0 :: .int .u8 0 :: .int .u8 0 :: .int .u8 0 :: .int .u8 0 :: .int .u8 0 :: .int .u8 0 :: .int .u8 0 :: .int .u8 0 :: .int .u8 0 :: .int .u8 0 :: .int .u8 0 :: .int .u8 0 :: .int .u8 0 :: .int .u8 0 :: .int .u8 0 :: .int .u8 0 :: .int .u8 0 :: .int .u8 0 :: .int .u8 0 :: .int .u8 0 :: .int .i64 0 :: .int .i64 0 :: .int .i64 0 :: [] : List Value) : Array Value) 29 (0, 0)) := by rw [hX]; exact heap_alloc_new _ _
  have hXs : w.heap.size < X.heap.size := by rw [hX, size_alloc]; omega
  have hXb : Below w.heap.size w X := by rw [hX]; exact below_alloc _ _
  obtain ⟨CS, hCS⟩ : ∃ C, C = sC.C := ⟨_, rfl⟩
  have hm := hmake_any 3 kC X ok_kC (hG.below hXb)
  rw [mk_C] at hm
  rw [show kC.C.toArray = (List.toArray (.int .i64 2 :: .int .i64 10 :: .int .i64 30 :: .int .i64 0 :: .int .i64 1 :: .int .i64 0 :: .int .i64 4 :: .int .u8 0 :: .int .u8 0 :: .int .u8 0 :: .int .u8 0 :: .int .u8 0 :: .int .u8 0 :: .int .u8 0 :: .int .u8 0 :: .int .u8 0 :: .int .u8 0 :: .int .u8 0 :: .int .u8 0 :: .int .u8 0 :: .int .u8 0 :: .int .u8 0 :: .int .u8 0 :: .int .u8 0 :: .int .u8 0 :: .int .u8 0 :: .int .u8 0 :: .int .u8 0 :: .int .u8 0 :: .int .u8 0 :: .int .u8 0 :: .int .u8 0 :: .int .u8 0 :: .int .u8 0 :: .int .u8 0 :: .int .u8 0 :: .int .u8 0 :: .int .u8 0 :: .int .u8 0 :: .int .i64 12 :: .int .i64 0 :: .int .i64 0 :: [] : List Value) : Array Value) from by kernel_rfl] at hm
  rw [← hCS] at hm ⊢
  have HM := Seal.mk hm
  have iC : (Tryd.prog.info? 29).map (·.size) = some CS.length := by rw [hCS]; exact Hd.C_info ok_sC.t32
  have zC : (.int .i64 0 :: .int .i64 0 :: .int .i64 0 :: .int .i64 0 :: .int .i64 0 :: .int .i64 0 :: .int .i64 0 :: .int .u8 0 :: .int .u8 0 :: .int .u8 0 :: .int .u8 0 :: .int .u8 0 :: .int .u8 0 :: .int .u8 0 :: .int .u8 0 :: .int .u8 0 :: .int .u8 0 :: .int .u8 0 :: .int .u8 0 :: .int .u8 0 :: .int .u8 0 :: .int .u8 0 :: .int .u8 0 :: .int .u8 0 :: .int .u8 0 :: .int .u8 0 :: .int .u8 0 :: .int .u8 0 :: .int .u8 0 :: .int .u8 0 :: .int .u8 0 :: .int .u8 0 :: .int .u8 0 :: .int .u8 0 :: .int .u8 0 :: .int .u8 0 :: .int .u8 0 :: .int .u8 0 :: .int .u8 0 :: .int .i64 0 :: .int .i64 0 :: .int .i64 0 :: [] : List Value).length = CS.length := by rw [show CS.length = 42 from by rw [hCS, Hd.C_len ok_sC.t32]]; rfl
  have oC : ∀ v ∈ CS, v.oneCell' = true := by rw [hCS]; exact Hd.C_one _
  have HX := Seal.mk (And.intro hXz (And.intro hXs hXb))
  have uH := Tryd.underlying29
  have OC := Seal.mk (And.intro iC (And.intro zC oC))
  clear hm hCS hXz hXs hXb hG zC oC
  go_enter Tryd.func69, Tryd.ntmps69
  go_upto_region 1 with (fail)
  rw [← hX]
  clear hX
  go_wp2_with fail
  refine HM.out.mono ?_
  rintro e V1 ⟨rfl, hb⟩
  have r4 := blk hb HX.out.2.1 HX.out.1
  have HB1 : Seal (Below w.heap.size w V1 ∧ w.heap.size < V1.heap.size) := ⟨HX.out.2.2.trans (hb.mono HX.out.2.2.size), Nat.lt_of_lt_of_le HX.out.2.1 hb.size⟩
  clear hb HX HM
  go_wp2_with (first
    | (refine wpList_newvar rfl rfl 29 6 (.tmp 14) rfl rfl rfl (.int .i64 0 :: .int .i64 0 :: .int .i64 0 :: .int .i64 0 :: .int .i64 0 :: .int .i64 0 :: .int .i64 0 :: .int .u8 0 :: .int .u8 0 :: .int .u8 0 :: .int .u8 0 :: .int .u8 0 :: .int .u8 0 :: .int .u8 0 :: .int .u8 0 :: .int .u8 0 :: .int .u8 0 :: .int .u8 0 :: .int .u8 0 :: .int .u8 0 :: .int .u8 0 :: .int .u8 0 :: .int .u8 0 :: .int .u8 0 :: .int .u8 0 :: .int .u8 0 :: .int .u8 0 :: .int .u8 0 :: .int .u8 0 :: .int .u8 0 :: .int .u8 0 :: .int .u8 0 :: .int .u8 0 :: .int .u8 0 :: .int .u8 0 :: .int .u8 0 :: .int .u8 0 :: .int .u8 0 :: .int .u8 0 :: .int .i64 0 :: .int .i64 0 :: .int .i64 0 :: [] : List Value) CS (exec_alloc_hand rfl _) rfl rfl iC OC.out.2.1 OC.out.2.2 ?_; intro V2 hV2; have HB2 : Seal (Below w.heap.size w V2) := ⟨(by rw [hV2]; exact HB1.out.1.alloc HB1.out.1.size _)⟩; have r6 : V2.rangeAt V1.heap.size 0 CS := (by rw [hV2]; exact rangeAt_row (heap_alloc_new V1 _)); have r42 : V2.heap[w.heap.size]? = some (.cells (List.toArray (.int .i64 0 :: .int .i64 0 :: .int .i64 0 :: .int .i64 0 :: .int .i64 0 :: .int .i64 0 :: .int .i64 0 :: .int .u8 0 :: .int .u8 0 :: .int .u8 0 :: .int .u8 0 :: .int .u8 0 :: .int .u8 0 :: .int .u8 0 :: .int .u8 0 :: .int .u8 0 :: .int .u8 0 :: .int .u8 0 :: .int .u8 0 :: .int .u8 0 :: .int .u8 0 :: .int .u8 0 :: .int .u8 0 :: .int .u8 0 :: .int .u8 0 :: .int .u8 0 :: .int .u8 0 :: .int .u8 0 :: .int .u8 0 :: .int .u8 0 :: .int .u8 0 :: .int .u8 0 :: .int .u8 0 :: .int .u8 0 :: .int .u8 0 :: .int .u8 0 :: .int .u8 0 :: .int .u8 0 :: .int .u8 0 :: .int .i64 0 :: .int .i64 0 :: .int .i64 0 :: [] : List Value) : Array Value) 29 (0, 0)) := (by rw [hV2]; exact (Below.heap_alloc V1 _ _ HB1.out.2).trans r4); clear hV2 r4 HB1; obtain ⟨g6, hg6⟩ : ∃ g, g = V1.heap.size := ⟨_, rfl⟩; rw [← hg6] at r6 ⊢; clear hg6; (try simp only [Act.put, List.setIfInBounds_toArray, List.set_cons_zero, List.set_cons_succ]))
    | (refine wpList_load_mid rfl 29 (.tmp 6) rfl g6 0 rfl CS _ r6 uH rfl iC ?_; (try simp only [Act.put, List.setIfInBounds_toArray, List.set_cons_zero, List.set_cons_succ]))
    | (refine wpList_store_row rfl 29 (.tmp 4) (.tmp 16) rfl w.heap.size CS.toArray rfl rfl 29 (List.toArray (.int .i64 0 :: .int .i64 0 :: .int .i64 0 :: .int .i64 0 :: .int .i64 0 :: .int .i64 0 :: .int .i64 0 :: .int .u8 0 :: .int .u8 0 :: .int .u8 0 :: .int .u8 0 :: .int .u8 0 :: .int .u8 0 :: .int .u8 0 :: .int .u8 0 :: .int .u8 0 :: .int .u8 0 :: .int .u8 0 :: .int .u8 0 :: .int .u8 0 :: .int .u8 0 :: .int .u8 0 :: .int .u8 0 :: .int .u8 0 :: .int .u8 0 :: .int .u8 0 :: .int .u8 0 :: .int .u8 0 :: .int .u8 0 :: .int .u8 0 :: .int .u8 0 :: .int .u8 0 :: .int .u8 0 :: .int .u8 0 :: .int .u8 0 :: .int .u8 0 :: .int .u8 0 :: .int .u8 0 :: .int .u8 0 :: .int .i64 0 :: .int .i64 0 :: .int .i64 0 :: [] : List Value) : Array Value) r42 (by rw [List.size_toArray]; exact iC) (by rw [List.size_toArray]; exact OC.out.2.1) (all_oneCell_toArray OC.out.2.2) ?_; (try simp only [Act.put, List.setIfInBounds_toArray, List.set_cons_zero, List.set_cons_succ])))
  exact bodyPost_ret (results_row_tmp (fn := Tryd.f69) rfl _ _ w.heap.size 29 CS.toArray (0, 0) _ _ rfl rfl (setRow_heap _ _ _ _ _ _ r42) uH rfl (by rw [List.size_toArray]; exact iC)) rfl ⟨by simp, below_row HB2.out (Nat.le_refl _) _⟩

end Frk

namespace Frk
open Go Go.RowKit Go.Proofs
set_option maxRecDepth 100000

theorem hz_list : (.int .i64 0 :: .int .i64 0 :: .int .i64 0 :: .int .i64 0 :: .int .i64 0 :: .int .i64 0 :: .int .i64 0 :: .int .u8 0 :: .int .u8 0 :: .int .u8 0 :: .int .u8 0 :: .int .u8 0 :: .int .u8 0 :: .int .u8 0 :: .int .u8 0 :: .int .u8 0 :: .int .u8 0 :: .int .u8 0 :: .int .u8 0 :: .int .u8 0 :: .int .u8 0 :: .int .u8 0 :: .int .u8 0 :: .int .u8 0 :: .int .u8 0 :: .int .u8 0 :: .int .u8 0 :: .int .u8 0 :: .int .u8 0 :: .int .u8 0 :: .int .u8 0 :: .int .u8 0 :: .int .u8 0 :: .int .u8 0 :: .int .u8 0 :: .int .u8 0 :: .int .u8 0 :: .int .u8 0 :: .int .u8 0 :: .int .i64 0 :: .int .i64 0 :: .int .i64 0 :: [] : List Value) = hz.C := by kernel_rfl
theorem hz_lie : Tryd.zeroCells74 = (lieC hz hz).toArray := by kernel_rfl
theorem zl_size : (Value.agg Tryd.zeroCells74).cells.size = 84 := by kernel_rfl
theorem isLs_new (w : World) (L : List (Hd × Hd)) (n : Nat) (hn : L.length = n) (ok : ∀ x ∈ L, x.1.ok ∧ x.2.ok) (hm : n ≤ 5000) (cs : List Value) (hc : cs = lcells L) : IsLs (w.alloc (.cells cs.toArray 74)) (some ⟨w.heap.size, 0, none⟩) n n L :=
  ⟨hn, hm, ok, .inr ⟨w.heap.size, 0, rfl, by rw [← hc]; exact rangeAt_row (heap_alloc_new w _), by rw [size_alloc]; exact Nat.lt_succ_self _⟩⟩
theorem wpList_build_lie_g {ops : Array Oper} {rest : List Oper} {o : Oper} {a : Act} {w : World} {Q : Exit → Act → World → Prop} (hw : Region.wanted o (yielded ops a.tmps) = true) (x y : Operand) (ho : o.op = .build 74 #[(0, x), (1, y)])
    (A C : List Value) (hA : A.length = 42) (hC : C.length = 42) (hx : a.eval x = .agg A.toArray) (hy : a.eval y = .agg C.toArray) (h : wpList Tryd.prog ops Q rest (a.put o.dst (.agg (A ++ C).toArray)) w) :
    wpList Tryd.prog ops Q (o :: rest) a w :=
  wpList_wanted hw fun K hK' => by unfold Oper.wp; rw [exec_build_lie ho A C hA hC hx hy]; exact hK' _ _ h
theorem wpList_val_g {P : Program} {ops : Array Oper} {rest : List Oper} {o : Oper} {a : Act} {w : World} {Q : Exit → Act → World → Prop} (hw : Region.wanted o (yielded ops a.tmps) = true) (ty : TypeId) (ps : Array (Nat × Operand)) (_ho : o.op = .build ty ps) (v : Value) (hrun : (execOp a.eval o).run P w = .ok (.value v) w)
    (h : wpList P ops Q rest (a.put o.dst v) w) : wpList P ops Q (o :: rest) a w :=
  wpList_wanted hw fun K hK => by unfold Oper.wp; rw [hrun]; exact hK _ _ h
set_option maxHeartbeats 16000000 in
theorem sane51_any (w : World) (hG : Glob w) : Calls Tryd.prog 32 #[] w fun e w' => e = .returned (.bool true) ∧ Below w.heap.size w w' := by
  obtain ⟨CA, hCA⟩ : ∃ C, C = sA.C := ⟨_, rfl⟩
  obtain ⟨CB, hCB⟩ : ∃ C, C = sB.C := ⟨_, rfl⟩
  obtain ⟨CC, hCC⟩ : ∃ C, C = sC.C := ⟨_, rfl⟩
  have HC := Seal.mk (And.intro hCA (And.intro hCB hCC))
  have lA : CA.length = 42 := by rw [hCA, Hd.C_len ok_sA.t32]
  have FA : Seal ((Tryd.prog.info? 29).map (·.size) = some CA.length ∧ (.int .i64 0 :: .int .i64 0 :: .int .i64 0 :: .int .i64 0 :: .int .i64 0 :: .int .i64 0 :: .int .i64 0 :: .int .u8 0 :: .int .u8 0 :: .int .u8 0 :: .int .u8 0 :: .int .u8 0 :: .int .u8 0 :: .int .u8 0 :: .int .u8 0 :: .int .u8 0 :: .int .u8 0 :: .int .u8 0 :: .int .u8 0 :: .int .u8 0 :: .int .u8 0 :: .int .u8 0 :: .int .u8 0 :: .int .u8 0 :: .int .u8 0 :: .int .u8 0 :: .int .u8 0 :: .int .u8 0 :: .int .u8 0 :: .int .u8 0 :: .int .u8 0 :: .int .u8 0 :: .int .u8 0 :: .int .u8 0 :: .int .u8 0 :: .int .u8 0 :: .int .u8 0 :: .int .u8 0 :: .int .u8 0 :: .int .i64 0 :: .int .i64 0 :: .int .i64 0 :: [] : List Value).length = CA.length ∧ (∀ v ∈ CA, v.oneCell' = true)) := ⟨by rw [lA]; kernel_rfl, by rw [lA]; rfl, by rw [hCA]; exact Hd.C_one _⟩
  have lB : CB.length = 42 := by rw [hCB, Hd.C_len ok_sB.t32]
  have FB : Seal ((Tryd.prog.info? 29).map (·.size) = some CB.length ∧ (.int .i64 0 :: .int .i64 0 :: .int .i64 0 :: .int .i64 0 :: .int .i64 0 :: .int .i64 0 :: .int .i64 0 :: .int .u8 0 :: .int .u8 0 :: .int .u8 0 :: .int .u8 0 :: .int .u8 0 :: .int .u8 0 :: .int .u8 0 :: .int .u8 0 :: .int .u8 0 :: .int .u8 0 :: .int .u8 0 :: .int .u8 0 :: .int .u8 0 :: .int .u8 0 :: .int .u8 0 :: .int .u8 0 :: .int .u8 0 :: .int .u8 0 :: .int .u8 0 :: .int .u8 0 :: .int .u8 0 :: .int .u8 0 :: .int .u8 0 :: .int .u8 0 :: .int .u8 0 :: .int .u8 0 :: .int .u8 0 :: .int .u8 0 :: .int .u8 0 :: .int .u8 0 :: .int .u8 0 :: .int .u8 0 :: .int .i64 0 :: .int .i64 0 :: .int .i64 0 :: [] : List Value).length = CB.length ∧ (∀ v ∈ CB, v.oneCell' = true)) := ⟨by rw [lB]; kernel_rfl, by rw [lB]; rfl, by rw [hCB]; exact Hd.C_one _⟩
  have lC : CC.length = 42 := by rw [hCC, Hd.C_len ok_sC.t32]
  have FC : Seal ((Tryd.prog.info? 29).map (·.size) = some CC.length ∧ (.int .i64 0 :: .int .i64 0 :: .int .i64 0 :: .int .i64 0 :: .int .i64 0 :: .int .i64 0 :: .int .i64 0 :: .int .u8 0 :: .int .u8 0 :: .int .u8 0 :: .int .u8 0 :: .int .u8 0 :: .int .u8 0 :: .int .u8 0 :: .int .u8 0 :: .int .u8 0 :: .int .u8 0 :: .int .u8 0 :: .int .u8 0 :: .int .u8 0 :: .int .u8 0 :: .int .u8 0 :: .int .u8 0 :: .int .u8 0 :: .int .u8 0 :: .int .u8 0 :: .int .u8 0 :: .int .u8 0 :: .int .u8 0 :: .int .u8 0 :: .int .u8 0 :: .int .u8 0 :: .int .u8 0 :: .int .u8 0 :: .int .u8 0 :: .int .u8 0 :: .int .u8 0 :: .int .u8 0 :: .int .u8 0 :: .int .i64 0 :: .int .i64 0 :: .int .i64 0 :: [] : List Value).length = CC.length ∧ (∀ v ∈ CC, v.oneCell' = true)) := ⟨by rw [lC]; kernel_rfl, by rw [lC]; rfl, by rw [hCC]; exact Hd.C_one _⟩
  have HSA : Seal (∀ W, Glob W → Calls Tryd.prog 69 #[.int .i64 1, .int .i64 4] W fun e w' => e = .returned (.tuple #[.agg CA.toArray, .bool true]) ∧ Below W.heap.size W w') := ⟨fun W h => by rw [hCA]; exact signed51_A W h⟩
  have HSB : Seal (∀ W, Glob W → Calls Tryd.prog 69 #[.int .i64 1, .int .i64 5] W fun e w' => e = .returned (.tuple #[.agg CB.toArray, .bool true]) ∧ Below W.heap.size W w') := ⟨fun W h => by rw [hCB]; exact signed51_B W h⟩
  have HSC : Seal (∀ W, Glob W → Calls Tryd.prog 69 #[.int .i64 0, .int .i64 4] W fun e w' => e = .returned (.tuple #[.agg CC.toArray, .bool true]) ∧ Below W.heap.size W w') := ⟨fun W h => by rw [hCC]; exact signed51_C W h⟩
  have HK1 : Seal (∀ W, Glob W → Calls Tryd.prog 38 #[.int .i64 64, .agg (CA ++ CB).toArray] W fun e w' => e = .returned (.bool true) ∧ Below W.heap.size W w') := ⟨fun W h => by
    have hq := ccheckl_any 64 sA sB W ok_sA ok_sB h
    rw [ex_chk.1] at hq
    rw [hCA, hCB]
    exact hq⟩
  have HK2 : Seal (∀ W, Glob W → Calls Tryd.prog 38 #[.int .i64 64, .agg (CA ++ CA).toArray] W fun e w' => e = .returned (.bool false) ∧ Below W.heap.size W w') := ⟨fun W h => by
    have hq := ccheckl_any 64 sA sA W ok_sA ok_sA h
    rw [ex_chk.2.1] at hq
    rw [hCA]
    exact hq⟩
  have HK3 : Seal (∀ W, Glob W → Calls Tryd.prog 38 #[.int .i64 64, .agg (CA ++ CC).toArray] W fun e w' => e = .returned (.bool false) ∧ Below W.heap.size W w') := ⟨fun W h => by
    have hq := ccheckl_any 64 sA sC W ok_sA ok_sC h
    rw [ex_chk.2.2.1] at hq
    rw [hCA, hCC]
    exact hq⟩
  have HKZ : Seal (∀ W, Glob W → Calls Tryd.prog 38 #[.int .i64 64, .agg Tryd.zeroCells74] W fun e w' => e = .returned (.bool false) ∧ Below W.heap.size W w') := ⟨fun W h => by
    have hq := ccheckl_any 64 hz hz W ok_hz ok_hz h
    rw [ex_chk.2.2.2] at hq
    rw [hz_lie]
    exact hq⟩
  have l42 : Seal (CA.length = 42 ∧ CB.length = 42 ∧ CC.length = 42) := ⟨lA, lB, lC⟩
  have uH := Tryd.underlying29
  have HB : Seal (Below w.heap.size w w) := ⟨Below.refl _ _⟩
  have HE : Seal (Env w none 0 0 [] []) := ⟨⟨hG, isB_nil w, by intro p hp; cases hp⟩⟩
  clear hCA hCB hCC lA lB lC hG
  go_enter Tryd.func32, Tryd.ntmps32
  go_wp2_with fail
  refine (HSA.out w HE.out.glob).mono ?_
  rintro e w1 ⟨rfl, hb⟩
  have HB2 := Seal.mk (HB.out.trans (hb.mono HB.out.size)); have HE2 := Seal.mk (HE.out.below hb); clear hb HB HE ; have HB := HB2; have HE := HE2; clear HB2 HE2
  go_wp2_with (refine wpList_newvar rfl rfl 29 1 (.tmp 22) rfl rfl rfl (.int .i64 0 :: .int .i64 0 :: .int .i64 0 :: .int .i64 0 :: .int .i64 0 :: .int .i64 0 :: .int .i64 0 :: .int .u8 0 :: .int .u8 0 :: .int .u8 0 :: .int .u8 0 :: .int .u8 0 :: .int .u8 0 :: .int .u8 0 :: .int .u8 0 :: .int .u8 0 :: .int .u8 0 :: .int .u8 0 :: .int .u8 0 :: .int .u8 0 :: .int .u8 0 :: .int .u8 0 :: .int .u8 0 :: .int .u8 0 :: .int .u8 0 :: .int .u8 0 :: .int .u8 0 :: .int .u8 0 :: .int .u8 0 :: .int .u8 0 :: .int .u8 0 :: .int .u8 0 :: .int .u8 0 :: .int .u8 0 :: .int .u8 0 :: .int .u8 0 :: .int .u8 0 :: .int .u8 0 :: .int .u8 0 :: .int .i64 0 :: .int .i64 0 :: .int .i64 0 :: [] : List Value) CA (exec_alloc_hand rfl _) rfl rfl FA.out.1 FA.out.2.1 FA.out.2.2 ?_; intro V1 hV; have hE : Seal (Env V1 none 0 0 [] ((w1.heap.size, .cells CA.toArray 29) :: [])) := ⟨(by rw [hV]; exact HE.out.push _)⟩; have hB : Seal (Below w.heap.size w V1) := ⟨(by rw [hV]; exact HB.out.alloc HB.out.size _)⟩; clear hV HB HE; obtain ⟨g1, hg⟩ : ∃ g, g = w1.heap.size := ⟨_, rfl⟩; rw [← hg] at hE ⊢; clear hg; have HE := hE; have HB := hB; clear hE hB; (try simp only [Act.put, List.setIfInBounds_toArray, List.set_cons_zero, List.set_cons_succ]))
  refine (HSB.out V1 HE.out.glob).mono ?_
  rintro e w2 ⟨rfl, hb⟩
  have HB2 := Seal.mk (HB.out.trans (hb.mono HB.out.size)); have HE2 := Seal.mk (HE.out.below hb); clear hb HB HE ; have HB := HB2; have HE := HE2; clear HB2 HE2
  go_wp2_with (refine wpList_newvar rfl rfl 29 3 (.tmp 26) rfl rfl rfl (.int .i64 0 :: .int .i64 0 :: .int .i64 0 :: .int .i64 0 :: .int .i64 0 :: .int .i64 0 :: .int .i64 0 :: .int .u8 0 :: .int .u8 0 :: .int .u8 0 :: .int .u8 0 :: .int .u8 0 :: .int .u8 0 :: .int .u8 0 :: .int .u8 0 :: .int .u8 0 :: .int .u8 0 :: .int .u8 0 :: .int .u8 0 :: .int .u8 0 :: .int .u8 0 :: .int .u8 0 :: .int .u8 0 :: .int .u8 0 :: .int .u8 0 :: .int .u8 0 :: .int .u8 0 :: .int .u8 0 :: .int .u8 0 :: .int .u8 0 :: .int .u8 0 :: .int .u8 0 :: .int .u8 0 :: .int .u8 0 :: .int .u8 0 :: .int .u8 0 :: .int .u8 0 :: .int .u8 0 :: .int .u8 0 :: .int .i64 0 :: .int .i64 0 :: .int .i64 0 :: [] : List Value) CB (exec_alloc_hand rfl _) rfl rfl FB.out.1 FB.out.2.1 FB.out.2.2 ?_; intro V2 hV; have hE : Seal (Env V2 none 0 0 [] ((w2.heap.size, .cells CB.toArray 29) :: [(g1, .cells CA.toArray 29)])) := ⟨(by rw [hV]; exact HE.out.push _)⟩; have hB : Seal (Below w.heap.size w V2) := ⟨(by rw [hV]; exact HB.out.alloc HB.out.size _)⟩; clear hV HB HE; obtain ⟨g3, hg⟩ : ∃ g, g = w2.heap.size := ⟨_, rfl⟩; rw [← hg] at hE ⊢; clear hg; have HE := hE; have HB := hB; clear hE hB; (try simp only [Act.put, List.setIfInBounds_toArray, List.set_cons_zero, List.set_cons_succ]))
  refine (HSC.out V2 HE.out.glob).mono ?_
  rintro e w3 ⟨rfl, hb⟩
  have HB2 := Seal.mk (HB.out.trans (hb.mono HB.out.size)); have HE2 := Seal.mk (HE.out.below hb); clear hb HB HE ; have HB := HB2; have HE := HE2; clear HB2 HE2
  go_wp2_with (first
    | (refine wpList_newvar rfl rfl 29 5 (.tmp 30) rfl rfl rfl (.int .i64 0 :: .int .i64 0 :: .int .i64 0 :: .int .i64 0 :: .int .i64 0 :: .int .i64 0 :: .int .i64 0 :: .int .u8 0 :: .int .u8 0 :: .int .u8 0 :: .int .u8 0 :: .int .u8 0 :: .int .u8 0 :: .int .u8 0 :: .int .u8 0 :: .int .u8 0 :: .int .u8 0 :: .int .u8 0 :: .int .u8 0 :: .int .u8 0 :: .int .u8 0 :: .int .u8 0 :: .int .u8 0 :: .int .u8 0 :: .int .u8 0 :: .int .u8 0 :: .int .u8 0 :: .int .u8 0 :: .int .u8 0 :: .int .u8 0 :: .int .u8 0 :: .int .u8 0 :: .int .u8 0 :: .int .u8 0 :: .int .u8 0 :: .int .u8 0 :: .int .u8 0 :: .int .u8 0 :: .int .u8 0 :: .int .i64 0 :: .int .i64 0 :: .int .i64 0 :: [] : List Value) CC (exec_alloc_hand rfl _) rfl rfl FC.out.1 FC.out.2.1 FC.out.2.2 ?_; intro V3 hV; have hE : Seal (Env V3 none 0 0 [] ((w3.heap.size, .cells CC.toArray 29) :: [(g3, .cells CB.toArray 29), (g1, .cells CA.toArray 29)])) := ⟨(by rw [hV]; exact HE.out.push _)⟩; have hB : Seal (Below w.heap.size w V3) := ⟨(by rw [hV]; exact HB.out.alloc HB.out.size _)⟩; clear hV HB HE; obtain ⟨g5, hg⟩ : ∃ g, g = w3.heap.size := ⟨_, rfl⟩; rw [← hg] at hE ⊢; clear hg; have HE := hE; have HB := hB; clear hE hB; have hE := Seal.mk (HE.out.push (.cells #[.int .i64 4, .int .i64 64] 3)); have hB : Seal (Below w.heap.size w (V3.alloc (.cells #[.int .i64 4, .int .i64 64] 3))) := ⟨HB.out.alloc HB.out.size _⟩; clear HE HB; have HE := hE; have HB := hB; clear hE hB; have RA := Seal.mk (HE.out.keep (g1, .cells CA.toArray 29) (by simp)); have RB := Seal.mk (HE.out.keep (g3, .cells CB.toArray 29) (by simp)); have RC := Seal.mk (HE.out.keep (g5, .cells CC.toArray 29) (by simp)); (try simp only [Act.put, List.setIfInBounds_toArray, List.set_cons_zero, List.set_cons_succ]))
    | (refine wpList_load_row_g (by kernel_rfl) 29 (.tmp 5) rfl g5 rfl 29 CC.toArray (0, 0) _ RC.out uH rfl (by rw [List.size_toArray]; exact FC.out.1) ?_; (try simp only [Act.put, List.setIfInBounds_toArray, List.set_cons_zero, List.set_cons_succ]))
    | (refine wpList_load_row_g (by kernel_rfl) 29 (.tmp 1) rfl g1 rfl 29 CA.toArray (0, 0) _ RA.out uH rfl (by rw [List.size_toArray]; exact FA.out.1) ?_; (try simp only [Act.put, List.setIfInBounds_toArray, List.set_cons_zero, List.set_cons_succ]))
    | (refine wpList_load_row_g (by kernel_rfl) 29 (.tmp 3) rfl g3 rfl 29 CB.toArray (0, 0) _ RB.out uH rfl (by rw [List.size_toArray]; exact FB.out.1) ?_; (try simp only [Act.put, List.setIfInBounds_toArray, List.set_cons_zero, List.set_cons_succ]))
    | (refine wpList_bslice (by kernel_rfl) 66 29 4 42 #[(0, .tmp 45), (1, .tmp 46), (2, .tmp 47), (3, .tmp 48)] rfl [CC, CA, CA, CB] Tryd.underlying66 size_hand _ zeroHd rfl rfl (by intro D hD; simp only [List.mem_cons, List.not_mem_nil, or_false] at hD; rcases hD with rfl | rfl | rfl | rfl <;> first | exact l42.out.1 | exact l42.out.2.1 | exact l42.out.2.2 | rfl) (by decide) (by decide) (by first | rfl | (simp [sparts]; done)) ?_; obtain ⟨V4, hV⟩ : ∃ V, V = (V3.alloc (.cells #[.int .i64 4, .int .i64 64] 3)).alloc (.cells ([CC, CA, CA, CB].flatten).toArray 29) := ⟨_, rfl⟩; have HH : Seal (IsHs V4 (some ⟨(V3.alloc (.cells #[.int .i64 4, .int .i64 64] 3)).heap.size, 0, none⟩) 4 4 [sC, sA, sA, sB]) := ⟨(by rw [hV]; exact isHs_new _ [sC, sA, sA, sB] 4 rfl (by intro h hh; simp only [List.mem_cons, List.not_mem_nil, or_false] at hh; rcases hh with rfl | rfl | rfl | rfl <;> first | exact ok_sA | exact ok_sB | exact ok_sC | exact ok_hz) (by decide) _ (by (try rw [HC.out.1]); (try rw [HC.out.2.1]); (try rw [HC.out.2.2]); (first | rfl | (rw [← hz_list]; rfl))))⟩; have hb : Below (V3.alloc (.cells #[.int .i64 4, .int .i64 64] 3)).heap.size (V3.alloc (.cells #[.int .i64 4, .int .i64 64] 3)) V4 := (by rw [hV]; exact below_alloc _ _); rw [← hV]; clear hV RA RB RC; have HB2 := Seal.mk (HB.out.trans (hb.mono HB.out.size)); have HE2 := Seal.mk (HE.out.below hb); clear hb HB HE ; have HB := HB2; have HE := HE2; clear HB2 HE2; (try simp only [Act.put, List.setIfInBounds_toArray, List.set_cons_zero, List.set_cons_succ])))
  have hh := HH.out
  rw [size_alloc] at hh
  have hk : IsKs V4 (some ⟨V3.heap.size, 0, none⟩) 2 2 [4, 64] := ⟨rfl, by decide, by decide, by decide, .inr ⟨V3.heap.size, 0, rfl, rangeAt_row (cs := [4, 64].map (Value.int .i64)) (HE.out.keep (V3.heap.size, .cells #[.int .i64 4, .int .i64 64] 3) (by simp)), HE.out.lt (o := .cells #[.int .i64 4, .int .i64 64] 3) (by simp)⟩⟩
  have hc := cfind_any 4 4 2 2 _ _ [sC, sA, sA, sB] [4, 64] V4 HE.out.glob hh hk (by decide)
  rw [ex_find, show ler [4, 64] = 0 from rfl] at hc
  have HCc := Seal.mk hc
  clear hc hh hk HH
  refine HCc.out.mono ?_
  rintro e w5 ⟨v8, rfl, hP⟩
  have hO := hP.out.1
  have hb := hP.out.2
  obtain ⟨a8, c8, hv, hX⟩ := isLs_own hO (by intro x hx; obtain rfl : x = (sA, sB) := (by simpa using hx); exact ⟨ok_sA, ok_sB⟩) (by decide)
  obtain rfl : v8 = .slice a8 1 c8 := hv
  have HB2 := Seal.mk (HB.out.trans (hb.mono HB.out.size)); have HE2 := Seal.mk (HE.out.below hb); clear hb HB HE ; have HB := HB2; have HE := HE2; clear HB2 HE2
  have HL : Seal (IsLs w5 a8 1 c8 [(sA, sB)]) := ⟨hX⟩
  clear hP hO hX HCc
  have RA := Seal.mk (HE.out.keep (g1, .cells CA.toArray 29) (by simp)); have RB := Seal.mk (HE.out.keep (g3, .cells CB.toArray 29) (by simp)); have RC := Seal.mk (HE.out.keep (g5, .cells CC.toArray 29) (by simp))
  go_wp2_with (first
    | (refine wpList_load_row_g (by kernel_rfl) 29 (.tmp 5) rfl g5 rfl 29 CC.toArray (0, 0) _ RC.out uH rfl (by rw [List.size_toArray]; exact FC.out.1) ?_; (try simp only [Act.put, List.setIfInBounds_toArray, List.set_cons_zero, List.set_cons_succ]))
    | (refine wpList_load_row_g (by kernel_rfl) 29 (.tmp 1) rfl g1 rfl 29 CA.toArray (0, 0) _ RA.out uH rfl (by rw [List.size_toArray]; exact FA.out.1) ?_; (try simp only [Act.put, List.setIfInBounds_toArray, List.set_cons_zero, List.set_cons_succ]))
    | (refine wpList_load_row_g (by kernel_rfl) 29 (.tmp 3) rfl g3 rfl 29 CB.toArray (0, 0) _ RB.out uH rfl (by rw [List.size_toArray]; exact FB.out.1) ?_; (try simp only [Act.put, List.setIfInBounds_toArray, List.set_cons_zero, List.set_cons_succ]))
    | (refine wpList_bslice (by kernel_rfl) 66 29 3 42 #[(0, .tmp 55), (1, .tmp 56), (2, .tmp 57)] rfl [CC, CA, CB] Tryd.underlying66 size_hand _ zeroHd rfl rfl (by intro D hD; simp only [List.mem_cons, List.not_mem_nil, or_false] at hD; rcases hD with rfl | rfl | rfl <;> first | exact l42.out.1 | exact l42.out.2.1 | exact l42.out.2.2 | rfl) (by decide) (by decide) (by first | rfl | (simp [sparts]; done)) ?_; obtain ⟨V6, hV⟩ : ∃ V, V = (w5).alloc (.cells ([CC, CA, CB].flatten).toArray 29) := ⟨_, rfl⟩; have HH : Seal (IsHs V6 (some ⟨(w5).heap.size, 0, none⟩) 3 3 [sC, sA, sB]) := ⟨(by rw [hV]; exact isHs_new _ [sC, sA, sB] 3 rfl (by intro h hh; simp only [List.mem_cons, List.not_mem_nil, or_false] at hh; rcases hh with rfl | rfl | rfl <;> first | exact ok_sA | exact ok_sB | exact ok_sC | exact ok_hz) (by decide) _ (by (try rw [HC.out.1]); (try rw [HC.out.2.1]); (try rw [HC.out.2.2]); (first | rfl | (rw [← hz_list]; rfl))))⟩; have hb : Below (w5).heap.size (w5) V6 := (by rw [hV]; exact below_alloc _ _); rw [← hV]; clear hV RA RB RC; have HB2 := Seal.mk (HB.out.trans (hb.mono HB.out.size)); have HE2 := Seal.mk (HE.out.below hb); have HL2 := Seal.mk (HL.out.below hb); clear hb HB HE HL; have HB := HB2; have HE := HE2; have HL := HL2; clear HB2 HE2 HL2; (try simp only [Act.put, List.setIfInBounds_toArray, List.set_cons_zero, List.set_cons_succ])))
  have hh := HH.out
  have hk : IsKs V6 (some ⟨V3.heap.size, 0, none⟩) 2 2 [4, 64] := ⟨rfl, by decide, by decide, by decide, .inr ⟨V3.heap.size, 0, rfl, rangeAt_row (cs := [4, 64].map (Value.int .i64)) (HE.out.keep (V3.heap.size, .cells #[.int .i64 4, .int .i64 64] 3) (by simp)), HE.out.lt (o := .cells #[.int .i64 4, .int .i64 64] 3) (by simp)⟩⟩
  have hc := ctrust_any 3 3 2 2 _ _ [sC, sA, sB] [4, 64] V6 HE.out.glob hh hk (by decide)
  rw [ex_trust1, show ler [4, 64] = 0 from rfl] at hc
  have HCc := Seal.mk hc
  clear hc hh hk HH
  refine HCc.out.mono ?_
  rintro e w7 ⟨v10, rfl, hP⟩
  have hO := hP.out.1
  have hb := hP.out.2
  obtain ⟨a10, c10, hv, hX⟩ := hs_of_own hO (by intro x hx; cases hx) (by decide)
  obtain rfl : v10 = .slice a10 0 c10 := hv
  have HB2 := Seal.mk (HB.out.trans (hb.mono HB.out.size)); have HE2 := Seal.mk (HE.out.below hb); have HL2 := Seal.mk (HL.out.below hb); clear hb HB HE HL; have HB := HB2; have HE := HE2; have HL := HL2; clear HB2 HE2 HL2
  clear hP hO hX HCc
  have RA := Seal.mk (HE.out.keep (g1, .cells CA.toArray 29) (by simp)); have RB := Seal.mk (HE.out.keep (g3, .cells CB.toArray 29) (by simp)); have RC := Seal.mk (HE.out.keep (g5, .cells CC.toArray 29) (by simp))
  go_wp2_with (first
    | (refine wpList_load_row_g (by kernel_rfl) 29 (.tmp 1) rfl g1 rfl 29 CA.toArray (0, 0) _ RA.out uH rfl (by rw [List.size_toArray]; exact FA.out.1) ?_; (try simp only [Act.put, List.setIfInBounds_toArray, List.set_cons_zero, List.set_cons_succ]))
    | (refine wpList_load_row_g (by kernel_rfl) 29 (.tmp 5) rfl g5 rfl 29 CC.toArray (0, 0) _ RC.out uH rfl (by rw [List.size_toArray]; exact FC.out.1) ?_; (try simp only [Act.put, List.setIfInBounds_toArray, List.set_cons_zero, List.set_cons_succ]))
    | (refine wpList_bslice (by kernel_rfl) 66 29 2 42 #[(0, .tmp 64), (1, .tmp 65)] rfl [CA, CC] Tryd.underlying66 size_hand _ zeroHd rfl rfl (by intro D hD; simp only [List.mem_cons, List.not_mem_nil, or_false] at hD; rcases hD with rfl | rfl <;> first | exact l42.out.1 | exact l42.out.2.1 | exact l42.out.2.2 | rfl) (by decide) (by decide) (by first | rfl | (simp [sparts]; done)) ?_; obtain ⟨V8, hV⟩ : ∃ V, V = (w7).alloc (.cells ([CA, CC].flatten).toArray 29) := ⟨_, rfl⟩; have HH : Seal (IsHs V8 (some ⟨(w7).heap.size, 0, none⟩) 2 2 [sA, sC]) := ⟨(by rw [hV]; exact isHs_new _ [sA, sC] 2 rfl (by intro h hh; simp only [List.mem_cons, List.not_mem_nil, or_false] at hh; rcases hh with rfl | rfl <;> first | exact ok_sA | exact ok_sB | exact ok_sC | exact ok_hz) (by decide) _ (by (try rw [HC.out.1]); (try rw [HC.out.2.1]); (try rw [HC.out.2.2]); (first | rfl | (rw [← hz_list]; rfl))))⟩; have hb : Below (w7).heap.size (w7) V8 := (by rw [hV]; exact below_alloc _ _); rw [← hV]; clear hV RA RB RC; have HB2 := Seal.mk (HB.out.trans (hb.mono HB.out.size)); have HE2 := Seal.mk (HE.out.below hb); have HL2 := Seal.mk (HL.out.below hb); clear hb HB HE HL; have HB := HB2; have HE := HE2; have HL := HL2; clear HB2 HE2 HL2; (try simp only [Act.put, List.setIfInBounds_toArray, List.set_cons_zero, List.set_cons_succ])))
  have hh := HH.out
  have hk : IsKs V8 (some ⟨V3.heap.size, 0, none⟩) 2 2 [4, 64] := ⟨rfl, by decide, by decide, by decide, .inr ⟨V3.heap.size, 0, rfl, rangeAt_row (cs := [4, 64].map (Value.int .i64)) (HE.out.keep (V3.heap.size, .cells #[.int .i64 4, .int .i64 64] 3) (by simp)), HE.out.lt (o := .cells #[.int .i64 4, .int .i64 64] 3) (by simp)⟩⟩
  have hc := ctrust_any 2 2 2 2 _ _ [sA, sC] [4, 64] V8 HE.out.glob hh hk (by decide)
  rw [ex_trust2, show ler [4, 64] = 0 from rfl] at hc
  have HCc := Seal.mk hc
  clear hc hh hk HH
  refine HCc.out.mono ?_
  rintro e w9 ⟨v12, rfl, hP⟩
  have hO := hP.out.1
  have hb := hP.out.2
  obtain ⟨a12, c12, hv, hX⟩ := hs_of_own hO (by intro x hx; simp only [List.mem_cons, List.not_mem_nil, or_false] at hx; rcases hx with rfl | rfl; exact ok_sA; exact ok_sC) (by decide)
  obtain rfl : v12 = .slice a12 2 c12 := hv
  have HB2 := Seal.mk (HB.out.trans (hb.mono HB.out.size)); have HE2 := Seal.mk (HE.out.below hb); have HL2 := Seal.mk (HL.out.below hb); clear hb HB HE HL; have HB := HB2; have HE := HE2; have HL := HL2; clear HB2 HE2 HL2
  have HZ : Seal (IsHs w9 a12 2 c12 [sA, sC]) := ⟨hX⟩
  clear hP hO hX HCc
  have RA := Seal.mk (HE.out.keep (g1, .cells CA.toArray 29) (by simp)); have RB := Seal.mk (HE.out.keep (g3, .cells CB.toArray 29) (by simp)); have RC := Seal.mk (HE.out.keep (g5, .cells CC.toArray 29) (by simp))
  go_wp2_with (first
    | (refine wpList_load_row_g (by kernel_rfl) 29 (.tmp 1) rfl g1 rfl 29 CA.toArray (0, 0) _ RA.out uH rfl (by rw [List.size_toArray]; exact FA.out.1) ?_; (try simp only [Act.put, List.setIfInBounds_toArray, List.set_cons_zero, List.set_cons_succ]))
    | (refine wpList_load_row_g (by kernel_rfl) 29 (.tmp 3) rfl g3 rfl 29 CB.toArray (0, 0) _ RB.out uH rfl (by rw [List.size_toArray]; exact FB.out.1) ?_; (try simp only [Act.put, List.setIfInBounds_toArray, List.set_cons_zero, List.set_cons_succ]))
    | (refine wpList_bslice (by kernel_rfl) 66 29 2 42 #[(0, .tmp 71), (1, .tmp 72)] rfl [CA, CB] Tryd.underlying66 size_hand _ zeroHd rfl rfl (by intro D hD; simp only [List.mem_cons, List.not_mem_nil, or_false] at hD; rcases hD with rfl | rfl <;> first | exact l42.out.1 | exact l42.out.2.1 | exact l42.out.2.2 | rfl) (by decide) (by decide) (by first | rfl | (simp [sparts]; done)) ?_; obtain ⟨V10, hV⟩ : ∃ V, V = (w9).alloc (.cells ([CA, CB].flatten).toArray 29) := ⟨_, rfl⟩; have HH : Seal (IsHs V10 (some ⟨(w9).heap.size, 0, none⟩) 2 2 [sA, sB]) := ⟨(by rw [hV]; exact isHs_new _ [sA, sB] 2 rfl (by intro h hh; simp only [List.mem_cons, List.not_mem_nil, or_false] at hh; rcases hh with rfl | rfl <;> first | exact ok_sA | exact ok_sB | exact ok_sC | exact ok_hz) (by decide) _ (by (try rw [HC.out.1]); (try rw [HC.out.2.1]); (try rw [HC.out.2.2]); (first | rfl | (rw [← hz_list]; rfl))))⟩; have hb : Below (w9).heap.size (w9) V10 := (by rw [hV]; exact below_alloc _ _); rw [← hV]; clear hV RA RB RC; have HB2 := Seal.mk (HB.out.trans (hb.mono HB.out.size)); have HE2 := Seal.mk (HE.out.below hb); have HL2 := Seal.mk (HL.out.below hb); have HZ2 := Seal.mk (HZ.out.below hb); clear hb HB HE HL HZ; have HB := HB2; have HE := HE2; have HL := HL2; have HZ := HZ2; clear HB2 HE2 HL2 HZ2; (try simp only [Act.put, List.setIfInBounds_toArray, List.set_cons_zero, List.set_cons_succ])))
  have hh := HH.out
  have hk : IsKs V10 none 0 0 [] := isKs_nil _ _ _ (by decide)
  have hc := cfind_any 2 2 0 0 _ _ [sA, sB] [] V10 HE.out.glob hh hk (by decide)
  rw [ex_find2, show ler [] = 0 from rfl] at hc
  have HCc := Seal.mk hc
  clear hc hh hk HH
  refine HCc.out.mono ?_
  rintro e w11 ⟨v14, rfl, hP⟩
  have hO := hP.out.1
  have hb := hP.out.2
  obtain ⟨a14, c14, hv, hX⟩ := isLs_own hO (by intro x hx; cases hx) (by decide)
  obtain rfl : v14 = .slice a14 0 c14 := hv
  have HB2 := Seal.mk (HB.out.trans (hb.mono HB.out.size)); have HE2 := Seal.mk (HE.out.below hb); have HL2 := Seal.mk (HL.out.below hb); have HZ2 := Seal.mk (HZ.out.below hb); clear hb HB HE HL HZ; have HB := HB2; have HE := HE2; have HL := HL2; have HZ := HZ2; clear HB2 HE2 HL2 HZ2
  clear hP hO hX HCc
  have hE := Seal.mk (HE.out.push (.cells #[.int .i64 4, .int .i64 4] 3))
  have hB : Seal (Below w.heap.size w (w11.alloc (.cells #[.int .i64 4, .int .i64 4] 3))) := ⟨HB.out.alloc HB.out.size _⟩
  have hL := Seal.mk (HL.out.below (below_alloc w11 (.cells #[.int .i64 4, .int .i64 4] 3)))
  have hZ := Seal.mk (HZ.out.below (below_alloc w11 (.cells #[.int .i64 4, .int .i64 4] 3)))
  clear HE HB HL HZ
  have HE := hE
  have HB := hB
  have HL := hL
  have HZ := hZ
  clear hE hB hL hZ
  have ZBH : Seal (∀ (ρ : Operand → Value) (o : Oper) (w : World), o.op = .build 29 #[] → (execOp ρ o).run Tryd.prog w = .ok (.value (.agg (.int .i64 0 :: .int .i64 0 :: .int .i64 0 :: .int .i64 0 :: .int .i64 0 :: .int .i64 0 :: .int .i64 0 :: .int .u8 0 :: .int .u8 0 :: .int .u8 0 :: .int .u8 0 :: .int .u8 0 :: .int .u8 0 :: .int .u8 0 :: .int .u8 0 :: .int .u8 0 :: .int .u8 0 :: .int .u8 0 :: .int .u8 0 :: .int .u8 0 :: .int .u8 0 :: .int .u8 0 :: .int .u8 0 :: .int .u8 0 :: .int .u8 0 :: .int .u8 0 :: .int .u8 0 :: .int .u8 0 :: .int .u8 0 :: .int .u8 0 :: .int .u8 0 :: .int .u8 0 :: .int .u8 0 :: .int .u8 0 :: .int .u8 0 :: .int .u8 0 :: .int .u8 0 :: .int .u8 0 :: .int .u8 0 :: .int .i64 0 :: .int .i64 0 :: .int .i64 0 :: [] : List Value).toArray)) w) := ⟨fun ρ o w ho => by
    have h : (Instr.build 29 #[]).run Tryd.prog w = .ok (.agg (.int .i64 0 :: .int .i64 0 :: .int .i64 0 :: .int .i64 0 :: .int .i64 0 :: .int .i64 0 :: .int .i64 0 :: .int .u8 0 :: .int .u8 0 :: .int .u8 0 :: .int .u8 0 :: .int .u8 0 :: .int .u8 0 :: .int .u8 0 :: .int .u8 0 :: .int .u8 0 :: .int .u8 0 :: .int .u8 0 :: .int .u8 0 :: .int .u8 0 :: .int .u8 0 :: .int .u8 0 :: .int .u8 0 :: .int .u8 0 :: .int .u8 0 :: .int .u8 0 :: .int .u8 0 :: .int .u8 0 :: .int .u8 0 :: .int .u8 0 :: .int .u8 0 :: .int .u8 0 :: .int .u8 0 :: .int .u8 0 :: .int .u8 0 :: .int .u8 0 :: .int .u8 0 :: .int .u8 0 :: .int .u8 0 :: .int .i64 0 :: .int .i64 0 :: .int .i64 0 :: [] : List Value).toArray) w := by kernel_rfl
    unfold execOp
    rw [ho]
    simp [h, Result.andThen]⟩
  have RA := Seal.mk (HE.out.keep (g1, .cells CA.toArray 29) (by simp)); have RB := Seal.mk (HE.out.keep (g3, .cells CB.toArray 29) (by simp)); have RC := Seal.mk (HE.out.keep (g5, .cells CC.toArray 29) (by simp))
  go_wp2_with (first
    | (refine wpList_val rfl 29 #[] rfl (.agg (.int .i64 0 :: .int .i64 0 :: .int .i64 0 :: .int .i64 0 :: .int .i64 0 :: .int .i64 0 :: .int .i64 0 :: .int .u8 0 :: .int .u8 0 :: .int .u8 0 :: .int .u8 0 :: .int .u8 0 :: .int .u8 0 :: .int .u8 0 :: .int .u8 0 :: .int .u8 0 :: .int .u8 0 :: .int .u8 0 :: .int .u8 0 :: .int .u8 0 :: .int .u8 0 :: .int .u8 0 :: .int .u8 0 :: .int .u8 0 :: .int .u8 0 :: .int .u8 0 :: .int .u8 0 :: .int .u8 0 :: .int .u8 0 :: .int .u8 0 :: .int .u8 0 :: .int .u8 0 :: .int .u8 0 :: .int .u8 0 :: .int .u8 0 :: .int .u8 0 :: .int .u8 0 :: .int .u8 0 :: .int .u8 0 :: .int .i64 0 :: .int .i64 0 :: .int .i64 0 :: [] : List Value).toArray) (ZBH.out _ _ _ rfl) ?_; (try simp only [Act.put, List.setIfInBounds_toArray, List.set_cons_zero, List.set_cons_succ]))
    | (refine wpList_load_row_g (by kernel_rfl) 29 (.tmp 5) rfl g5 rfl 29 CC.toArray (0, 0) _ RC.out uH rfl (by rw [List.size_toArray]; exact FC.out.1) ?_; (try simp only [Act.put, List.setIfInBounds_toArray, List.set_cons_zero, List.set_cons_succ]))
    | (refine wpList_load_row_g (by kernel_rfl) 29 (.tmp 5) rfl g5 rfl 29 CC.toArray (0, 0) _ RC.out uH rfl (by rw [List.size_toArray]; exact FC.out.1) ?_; (try simp only [Act.put, List.setIfInBounds_toArray, List.set_cons_zero, List.set_cons_succ]))
    | (refine wpList_bslice (by kernel_rfl) 66 29 3 42 #[(0, .tmp 79), (1, .tmp 80), (2, .tmp 81)] rfl [(.int .i64 0 :: .int .i64 0 :: .int .i64 0 :: .int .i64 0 :: .int .i64 0 :: .int .i64 0 :: .int .i64 0 :: .int .u8 0 :: .int .u8 0 :: .int .u8 0 :: .int .u8 0 :: .int .u8 0 :: .int .u8 0 :: .int .u8 0 :: .int .u8 0 :: .int .u8 0 :: .int .u8 0 :: .int .u8 0 :: .int .u8 0 :: .int .u8 0 :: .int .u8 0 :: .int .u8 0 :: .int .u8 0 :: .int .u8 0 :: .int .u8 0 :: .int .u8 0 :: .int .u8 0 :: .int .u8 0 :: .int .u8 0 :: .int .u8 0 :: .int .u8 0 :: .int .u8 0 :: .int .u8 0 :: .int .u8 0 :: .int .u8 0 :: .int .u8 0 :: .int .u8 0 :: .int .u8 0 :: .int .u8 0 :: .int .i64 0 :: .int .i64 0 :: .int .i64 0 :: [] : List Value), CC, CC] Tryd.underlying66 size_hand _ zeroHd rfl rfl (by intro D hD; simp only [List.mem_cons, List.not_mem_nil, or_false] at hD; rcases hD with rfl | rfl | rfl <;> first | exact l42.out.1 | exact l42.out.2.1 | exact l42.out.2.2 | rfl) (by decide) (by decide) (by first | rfl | (simp [sparts]; done)) ?_; obtain ⟨V12, hV⟩ : ∃ V, V = (w11.alloc (.cells #[.int .i64 4, .int .i64 4] 3)).alloc (.cells ([(.int .i64 0 :: .int .i64 0 :: .int .i64 0 :: .int .i64 0 :: .int .i64 0 :: .int .i64 0 :: .int .i64 0 :: .int .u8 0 :: .int .u8 0 :: .int .u8 0 :: .int .u8 0 :: .int .u8 0 :: .int .u8 0 :: .int .u8 0 :: .int .u8 0 :: .int .u8 0 :: .int .u8 0 :: .int .u8 0 :: .int .u8 0 :: .int .u8 0 :: .int .u8 0 :: .int .u8 0 :: .int .u8 0 :: .int .u8 0 :: .int .u8 0 :: .int .u8 0 :: .int .u8 0 :: .int .u8 0 :: .int .u8 0 :: .int .u8 0 :: .int .u8 0 :: .int .u8 0 :: .int .u8 0 :: .int .u8 0 :: .int .u8 0 :: .int .u8 0 :: .int .u8 0 :: .int .u8 0 :: .int .u8 0 :: .int .i64 0 :: .int .i64 0 :: .int .i64 0 :: [] : List Value), CC, CC].flatten).toArray 29) := ⟨_, rfl⟩; have HH : Seal (IsHs V12 (some ⟨(w11.alloc (.cells #[.int .i64 4, .int .i64 4] 3)).heap.size, 0, none⟩) 3 3 [hz, sC, sC]) := ⟨(by rw [hV]; exact isHs_new _ [hz, sC, sC] 3 rfl (by intro h hh; simp only [List.mem_cons, List.not_mem_nil, or_false] at hh; rcases hh with rfl | rfl | rfl <;> first | exact ok_sA | exact ok_sB | exact ok_sC | exact ok_hz) (by decide) _ (by (try rw [HC.out.1]); (try rw [HC.out.2.1]); (try rw [HC.out.2.2]); (first | rfl | (rw [← hz_list]; rfl))))⟩; have hb : Below (w11.alloc (.cells #[.int .i64 4, .int .i64 4] 3)).heap.size (w11.alloc (.cells #[.int .i64 4, .int .i64 4] 3)) V12 := (by rw [hV]; exact below_alloc _ _); rw [← hV]; clear hV RA RB RC; have HB2 := Seal.mk (HB.out.trans (hb.mono HB.out.size)); have HE2 := Seal.mk (HE.out.below hb); have HL2 := Seal.mk (HL.out.below hb); have HZ2 := Seal.mk (HZ.out.below hb); clear hb HB HE HL HZ; have HB := HB2; have HE := HE2; have HL := HL2; have HZ := HZ2; clear HB2 HE2 HL2 HZ2; (try simp only [Act.put, List.setIfInBounds_toArray, List.set_cons_zero, List.set_cons_succ])))
  have hh := HH.out
  rw [size_alloc] at hh
  have hk : IsKs V12 (some ⟨w11.heap.size, 0, none⟩) 2 2 [4, 4] := ⟨rfl, by decide, by decide, by decide, .inr ⟨w11.heap.size, 0, rfl, rangeAt_row (cs := [4, 4].map (Value.int .i64)) (HE.out.keep (w11.heap.size, .cells #[.int .i64 4, .int .i64 4] 3) (by simp)), HE.out.lt (o := .cells #[.int .i64 4, .int .i64 4] 3) (by simp)⟩⟩
  have hc := cfind_any 3 3 2 2 _ _ [hz, sC, sC] [4, 4] V12 HE.out.glob hh hk (by decide)
  rw [ex_find3, show ler [4, 4] = 0 from rfl] at hc
  have HCc := Seal.mk hc
  clear hc hh hk HH
  refine HCc.out.mono ?_
  rintro e w13 ⟨v16, rfl, hP⟩
  have hO := hP.out.1
  have hb := hP.out.2
  obtain ⟨a16, c16, hv, hX⟩ := isLs_own hO (by intro x hx; cases hx) (by decide)
  obtain rfl : v16 = .slice a16 0 c16 := hv
  have HB2 := Seal.mk (HB.out.trans (hb.mono HB.out.size)); have HE2 := Seal.mk (HE.out.below hb); have HL2 := Seal.mk (HL.out.below hb); have HZ2 := Seal.mk (HZ.out.below hb); clear hb HB HE HL HZ; have HB := HB2; have HE := HE2; have HL := HL2; have HZ := HZ2; clear HB2 HE2 HL2 HZ2
  clear hP hO hX HCc
  go_wp2_with fail
  have mk0 : (Instr.makeSlice 65 (.int .i64 25) (.int .i64 25)).run Tryd.prog w13 = .ok (.slice (some ⟨w13.heap.size, 0, none⟩) 25 25) (w13.alloc (.cells #[.int .i64 0, .int .i64 0, .int .i64 0, .int .i64 0, .int .i64 0, .int .i64 0, .int .i64 0, .int .i64 0, .int .i64 0, .int .i64 0, .int .i64 0, .int .i64 0, .int .i64 0, .int .i64 0, .int .i64 0, .int .i64 0, .int .i64 0, .int .i64 0, .int .i64 0, .int .i64 0, .int .i64 0, .int .i64 0, .int .i64 0, .int .i64 0, .int .i64 0] 3)) := by kernel_rfl
  rw [mk0]
  simp only [Result.andThen_ok]
  obtain ⟨ks3, hks3⟩ : ∃ k : List Int, k = List.replicate 25 0 := ⟨_, rfl⟩
  obtain ⟨V14, hV⟩ : ∃ V, V = w13.alloc (.cells #[.int .i64 0, .int .i64 0, .int .i64 0, .int .i64 0, .int .i64 0, .int .i64 0, .int .i64 0, .int .i64 0, .int .i64 0, .int .i64 0, .int .i64 0, .int .i64 0, .int .i64 0, .int .i64 0, .int .i64 0, .int .i64 0, .int .i64 0, .int .i64 0, .int .i64 0, .int .i64 0, .int .i64 0, .int .i64 0, .int .i64 0, .int .i64 0, .int .i64 0] 3) := ⟨_, rfl⟩
  have hb : Below w13.heap.size w13 V14 := (by rw [hV]; exact below_alloc _ _)
  have HK3 : Seal (IsKs V14 (some ⟨w13.heap.size, 0, none⟩) 25 25 ks3 ∧ ks3.length = 25) := ⟨by
    constructor
    · rw [hks3, hV]
      exact ⟨rfl, by decide, by decide, by decide, .inr ⟨w13.heap.size, 0, rfl, rangeAt_row (cs := (List.replicate 25 (0 : Int)).map (Value.int .i64)) (heap_alloc_new w13 _), (by rw [size_alloc]; exact Nat.lt_succ_self _)⟩⟩
    · rw [hks3]; rfl⟩
  rw [← hV]
  clear hV mk0 hks3
  have HB2 := Seal.mk (HB.out.trans (hb.mono HB.out.size)); have HE2 := Seal.mk (HE.out.below hb); have HL2 := Seal.mk (HL.out.below hb); have HZ2 := Seal.mk (HZ.out.below hb); clear hb HB HE HL HZ; have HB := HB2; have HE := HE2; have HL := HL2; have HZ := HZ2; clear HB2 HE2 HL2 HZ2
  go_wp2_with fail
  have hc := ctrust_any 0 0 25 25 none _ [] ks3 V14 HE.out.glob (isHs_nil _ _ _ (by decide)) HK3.out.1 (by decide)
  rw [(ex_trust3 ks3 HK3.out.2).1, (ex_trust3 ks3 HK3.out.2).2] at hc
  have HCc := Seal.mk hc
  clear hc HK3
  refine HCc.out.mono ?_
  rintro e w15 ⟨v18, rfl, hP⟩
  have hO := hP.out.1
  have hb := hP.out.2
  obtain ⟨a18, c18, hv, hX⟩ := hs_of_own hO (by intro x hx; cases hx) (by decide)
  obtain rfl : v18 = .slice a18 0 c18 := hv
  have HB2 := Seal.mk (HB.out.trans (hb.mono HB.out.size)); have HE2 := Seal.mk (HE.out.below hb); have HL2 := Seal.mk (HL.out.below hb); have HZ2 := Seal.mk (HZ.out.below hb); clear hb HB HE HL HZ; have HB := HB2; have HE := HE2; have HL := HL2; have HZ := HZ2; clear HB2 HE2 HL2 HZ2
  clear hP hO hX HCc
  have RA := Seal.mk (HE.out.keep (g1, .cells CA.toArray 29) (by simp)); have RB := Seal.mk (HE.out.keep (g3, .cells CB.toArray 29) (by simp)); have RC := Seal.mk (HE.out.keep (g5, .cells CC.toArray 29) (by simp))
  go_wp2_with (first
    | (refine wpList_load_row_g (by kernel_rfl) 29 (.tmp 1) rfl g1 rfl 29 CA.toArray (0, 0) _ RA.out uH rfl (by rw [List.size_toArray]; exact FA.out.1) ?_; (try simp only [Act.put, List.setIfInBounds_toArray, List.set_cons_zero, List.set_cons_succ]))
    | (refine wpList_load_row_g (by kernel_rfl) 29 (.tmp 3) rfl g3 rfl 29 CB.toArray (0, 0) _ RB.out uH rfl (by rw [List.size_toArray]; exact FB.out.1) ?_; (try simp only [Act.put, List.setIfInBounds_toArray, List.set_cons_zero, List.set_cons_succ]))
    | (refine wpList_build_lie_g (by kernel_rfl) (.tmp 114) (.tmp 115) rfl CA CB l42.out.1 l42.out.2.1 rfl rfl ?_; (try simp only [Act.put, List.setIfInBounds_toArray, List.set_cons_zero, List.set_cons_succ]))
    | (refine wpList_bslice (by kernel_rfl) 68 74 1 84 #[(0, .tmp 116)] rfl [CA ++ CB] Tryd.underlying68 size_lie _ zeroLi zl_size rfl (by intro D hD; obtain rfl := List.mem_singleton.1 hD; rw [List.length_append, l42.out.1, l42.out.2.1]) (by decide) (by decide) (by first | rfl | (simp [sparts]; done)) ?_; obtain ⟨V16, hV⟩ : ∃ V, V = (w15).alloc (.cells ([CA ++ CB].flatten).toArray 74) := ⟨_, rfl⟩; have HLN : Seal (IsLs V16 (some ⟨(w15).heap.size, 0, none⟩) 1 1 [(sA, sB)]) := ⟨(by rw [hV]; exact isLs_new _ [(sA, sB)] 1 rfl (by intro x hx; obtain rfl := List.mem_singleton.1 hx; exact ⟨ok_sA, ok_sB⟩) (by decide) _ (by rw [HC.out.1, HC.out.2.1]; simp [lcells, lieC]))⟩; have hb : Below (w15).heap.size (w15) V16 := (by rw [hV]; exact below_alloc _ _); rw [← hV]; clear hV RA RB RC; have HB2 := Seal.mk (HB.out.trans (hb.mono HB.out.size)); have HE2 := Seal.mk (HE.out.below hb); have HL2 := Seal.mk (HL.out.below hb); have HZ2 := Seal.mk (HZ.out.below hb); clear hb HB HE HL HZ; have HB := HB2; have HE := HE2; have HL := HL2; have HZ := HZ2; clear HB2 HE2 HL2 HZ2; (try simp only [Act.put, List.setIfInBounds_toArray, List.set_cons_zero, List.set_cons_succ])))
  have hc := rsame_eq _ _ 1 _ _ _ V16 HL.out HLN.out
  have HCc := Seal.mk hc
  clear hc HL HLN
  refine HCc.out.mono ?_
  rintro e w17 ⟨rfl, hb⟩
  clear HCc
  have HB2 := Seal.mk (HB.out.trans (hb.mono HB.out.size)); have HE2 := Seal.mk (HE.out.below hb); have HZ2 := Seal.mk (HZ.out.below hb); clear hb HB HE HZ; have HB := HB2; have HE := HE2; have HZ := HZ2; clear HB2 HE2 HZ2
  have RA := Seal.mk (HE.out.keep (g1, .cells CA.toArray 29) (by simp)); have RB := Seal.mk (HE.out.keep (g3, .cells CB.toArray 29) (by simp)); have RC := Seal.mk (HE.out.keep (g5, .cells CC.toArray 29) (by simp))
  go_wp2_with (first
    | (refine wpList_load_row_g (by kernel_rfl) 29 (.tmp 1) rfl g1 rfl 29 CA.toArray (0, 0) _ RA.out uH rfl (by rw [List.size_toArray]; exact FA.out.1) ?_; (try simp only [Act.put, List.setIfInBounds_toArray, List.set_cons_zero, List.set_cons_succ]))
    | (refine wpList_load_row_g (by kernel_rfl) 29 (.tmp 5) rfl g5 rfl 29 CC.toArray (0, 0) _ RC.out uH rfl (by rw [List.size_toArray]; exact FC.out.1) ?_; (try simp only [Act.put, List.setIfInBounds_toArray, List.set_cons_zero, List.set_cons_succ]))
    | (refine wpList_bslice (by kernel_rfl) 66 29 2 42 #[(0, .tmp 126), (1, .tmp 127)] rfl [CA, CC] Tryd.underlying66 size_hand _ zeroHd rfl rfl (by intro D hD; simp only [List.mem_cons, List.not_mem_nil, or_false] at hD; rcases hD with rfl | rfl <;> first | exact l42.out.1 | exact l42.out.2.1 | exact l42.out.2.2 | rfl) (by decide) (by decide) (by first | rfl | (simp [sparts]; done)) ?_; obtain ⟨V18, hV⟩ : ∃ V, V = (w17).alloc (.cells ([CA, CC].flatten).toArray 29) := ⟨_, rfl⟩; have HH : Seal (IsHs V18 (some ⟨(w17).heap.size, 0, none⟩) 2 2 [sA, sC]) := ⟨(by rw [hV]; exact isHs_new _ [sA, sC] 2 rfl (by intro h hh; simp only [List.mem_cons, List.not_mem_nil, or_false] at hh; rcases hh with rfl | rfl <;> first | exact ok_sA | exact ok_sB | exact ok_sC | exact ok_hz) (by decide) _ (by (try rw [HC.out.1]); (try rw [HC.out.2.1]); (try rw [HC.out.2.2]); (first | rfl | (rw [← hz_list]; rfl))))⟩; have hb : Below (w17).heap.size (w17) V18 := (by rw [hV]; exact below_alloc _ _); rw [← hV]; clear hV RA RB RC; have HB2 := Seal.mk (HB.out.trans (hb.mono HB.out.size)); have HE2 := Seal.mk (HE.out.below hb); have HZ2 := Seal.mk (HZ.out.below hb); clear hb HB HE HZ; have HB := HB2; have HE := HE2; have HZ := HZ2; clear HB2 HE2 HZ2; (try simp only [Act.put, List.setIfInBounds_toArray, List.set_cons_zero, List.set_cons_succ])))
  have hc := rsameh_eq _ _ 2 _ _ _ V18 HZ.out HH.out
  have HCc := Seal.mk hc
  clear hc HZ HH
  refine HCc.out.mono ?_
  rintro e w19 ⟨rfl, hb⟩
  clear HCc
  have HB2 := Seal.mk (HB.out.trans (hb.mono HB.out.size)); have HE2 := Seal.mk (HE.out.below hb); clear hb HB HE ; have HB := HB2; have HE := HE2; clear HB2 HE2
  have RA := Seal.mk (HE.out.keep (g1, .cells CA.toArray 29) (by simp)); have RB := Seal.mk (HE.out.keep (g3, .cells CB.toArray 29) (by simp)); have RC := Seal.mk (HE.out.keep (g5, .cells CC.toArray 29) (by simp))
  go_wp2_with (first
    | (refine wpList_load_row_g (by kernel_rfl) 29 (.tmp 1) rfl g1 rfl 29 CA.toArray (0, 0) _ RA.out uH rfl (by rw [List.size_toArray]; exact FA.out.1) ?_; (try simp only [Act.put, List.setIfInBounds_toArray, List.set_cons_zero, List.set_cons_succ]))
    | (refine wpList_load_row_g (by kernel_rfl) 29 (.tmp 3) rfl g3 rfl 29 CB.toArray (0, 0) _ RB.out uH rfl (by rw [List.size_toArray]; exact FB.out.1) ?_; (try simp only [Act.put, List.setIfInBounds_toArray, List.set_cons_zero, List.set_cons_succ]))
    | (refine wpList_build_lie_g (by kernel_rfl) (.tmp 142) (.tmp 143) rfl CA CB l42.out.1 l42.out.2.1 rfl rfl ?_; (try simp only [Act.put, List.setIfInBounds_toArray, List.set_cons_zero, List.set_cons_succ])))
  have hc : Calls Tryd.prog 38 #[.int .i64 64, .agg (CA ++ CB).toArray] w19 fun e w' => e = .returned (.bool true) ∧ Below w19.heap.size w19 w' := HK1.out w19 HE.out.glob
  refine hc.mono ?_
  clear hc RA RB RC
  rintro e w20 ⟨rfl, hb⟩
  have HB2 := Seal.mk (HB.out.trans (hb.mono HB.out.size)); have HE2 := Seal.mk (HE.out.below hb); clear hb HB HE ; have HB := HB2; have HE := HE2; clear HB2 HE2
  have RA := Seal.mk (HE.out.keep (g1, .cells CA.toArray 29) (by simp)); have RB := Seal.mk (HE.out.keep (g3, .cells CB.toArray 29) (by simp)); have RC := Seal.mk (HE.out.keep (g5, .cells CC.toArray 29) (by simp))
  go_wp2_with (first
    | (refine wpList_load_row_g (by kernel_rfl) 29 (.tmp 1) rfl g1 rfl 29 CA.toArray (0, 0) _ RA.out uH rfl (by rw [List.size_toArray]; exact FA.out.1) ?_; (try simp only [Act.put, List.setIfInBounds_toArray, List.set_cons_zero, List.set_cons_succ]))
    | (refine wpList_load_row_g (by kernel_rfl) 29 (.tmp 1) rfl g1 rfl 29 CA.toArray (0, 0) _ RA.out uH rfl (by rw [List.size_toArray]; exact FA.out.1) ?_; (try simp only [Act.put, List.setIfInBounds_toArray, List.set_cons_zero, List.set_cons_succ]))
    | (refine wpList_build_lie_g (by kernel_rfl) (.tmp 148) (.tmp 149) rfl CA CA l42.out.1 l42.out.1 rfl rfl ?_; (try simp only [Act.put, List.setIfInBounds_toArray, List.set_cons_zero, List.set_cons_succ])))
  have hc : Calls Tryd.prog 38 #[.int .i64 64, .agg (CA ++ CA).toArray] w20 fun e w' => e = .returned (.bool false) ∧ Below w20.heap.size w20 w' := HK2.out w20 HE.out.glob
  refine hc.mono ?_
  clear hc RA RB RC
  rintro e w21 ⟨rfl, hb⟩
  have HB2 := Seal.mk (HB.out.trans (hb.mono HB.out.size)); have HE2 := Seal.mk (HE.out.below hb); clear hb HB HE ; have HB := HB2; have HE := HE2; clear HB2 HE2
  have RA := Seal.mk (HE.out.keep (g1, .cells CA.toArray 29) (by simp)); have RB := Seal.mk (HE.out.keep (g3, .cells CB.toArray 29) (by simp)); have RC := Seal.mk (HE.out.keep (g5, .cells CC.toArray 29) (by simp))
  go_wp2_with (first
    | (refine wpList_load_row_g (by kernel_rfl) 29 (.tmp 1) rfl g1 rfl 29 CA.toArray (0, 0) _ RA.out uH rfl (by rw [List.size_toArray]; exact FA.out.1) ?_; (try simp only [Act.put, List.setIfInBounds_toArray, List.set_cons_zero, List.set_cons_succ]))
    | (refine wpList_load_row_g (by kernel_rfl) 29 (.tmp 5) rfl g5 rfl 29 CC.toArray (0, 0) _ RC.out uH rfl (by rw [List.size_toArray]; exact FC.out.1) ?_; (try simp only [Act.put, List.setIfInBounds_toArray, List.set_cons_zero, List.set_cons_succ]))
    | (refine wpList_build_lie_g (by kernel_rfl) (.tmp 155) (.tmp 156) rfl CA CC l42.out.1 l42.out.2.2 rfl rfl ?_; (try simp only [Act.put, List.setIfInBounds_toArray, List.set_cons_zero, List.set_cons_succ])))
  have hc : Calls Tryd.prog 38 #[.int .i64 64, .agg (CA ++ CC).toArray] w21 fun e w' => e = .returned (.bool false) ∧ Below w21.heap.size w21 w' := HK3.out w21 HE.out.glob
  refine hc.mono ?_
  clear hc RA RB RC
  rintro e w22 ⟨rfl, hb⟩
  have HB2 := Seal.mk (HB.out.trans (hb.mono HB.out.size)); have HE2 := Seal.mk (HE.out.below hb); clear hb HB HE ; have HB := HB2; have HE := HE2; clear HB2 HE2
  have ZBL : Seal (∀ (ρ : Operand → Value) (o : Oper) (w : World), o.op = .build 74 #[] → (execOp ρ o).run Tryd.prog w = .ok (.value (.agg Tryd.zeroCells74)) w) := ⟨fun ρ o w ho => by
    have h : (Instr.build 74 #[]).run Tryd.prog w = .ok (.agg Tryd.zeroCells74) w := by kernel_rfl
    unfold execOp
    rw [ho]
    simp [h, Result.andThen]⟩
  go_wp2_with (refine wpList_val_g (by kernel_rfl) 74 #[] rfl (.agg Tryd.zeroCells74) (ZBL.out _ _ _ rfl) ?_; (try simp only [Act.put, List.setIfInBounds_toArray, List.set_cons_zero, List.set_cons_succ]))
  have hc : Calls Tryd.prog 38 #[.int .i64 64, .agg Tryd.zeroCells74] w22 fun e w' => e = .returned (.bool false) ∧ Below w22.heap.size w22 w' := HKZ.out w22 HE.out.glob
  refine hc.mono ?_
  clear hc
  rintro e w23 ⟨rfl, hb⟩
  have HB2 := Seal.mk (HB.out.trans (hb.mono HB.out.size)); have HE2 := Seal.mk (HE.out.below hb); clear hb HB HE ; have HB := HB2; have HE := HE2; clear HB2 HE2
  go_wp2
  go_ret
  exact ⟨rfl, HB.out⟩
end Frk

