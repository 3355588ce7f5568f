/- The reference's lists of digests: Before, Used, Has, Few, Same. -/
import Derived.Test.YtnpnboldjbljaaaDoorVdgRin
import Derived.Test.YtnpnboldjbljaaaDoorVdDtk
namespace Frk
open Go Go.RowKit Go.Proofs
set_option maxRecDepth 100000

theorem below_drewn (w : World) : Below w.heap.size w w.drew := ⟨rfl, rfl, rfl, Nat.le_refl _, fun _ _ => rfl⟩

theorem IsD.drew {w : World} {a : Option Addr} {len cap : Nat} {l : List Bytes} (h : IsD w a len cap l) : IsD w.drew a len cap l := h.of_heap ⟨rfl, rfl, rfl, Nat.le_refl _, fun _ _ => rfl⟩

theorem take_succ_eq {l r : List Bytes} {k : Nat} (hl : k < l.length) (hr : k < r.length) (h : l.take k = r.take k) : (l.getD k [] = r.getD k [] → l.take (k + 1) = r.take (k + 1)) ∧ (l = r → l.getD k [] = r.getD k []) := by
  refine ⟨fun e => ?_, fun e => by rw [e]⟩
  rw [List.take_succ_eq_append_getElem hl, List.take_succ_eq_append_getElem hr, h]
  rw [List.getD_eq_getElem?_getD, List.getD_eq_getElem?_getD, List.getElem?_eq_getElem hl, List.getElem?_eq_getElem hr] at e
  simp only [Option.getD_some] at e
  rw [e]

set_option maxHeartbeats 2000000 in
theorem rsame_any (a b : Option Addr) (la ca lb cb : Nat) (l r : List Bytes) (w : World) (hd : IsD w a la ca l) (hd2 : IsD w b lb cb r) :
    Calls Tryd.prog 27 #[.slice a la ca, .slice b lb cb] w fun e w' => e = .returned (.bool (l == r)) ∧ Below w.heap.size w w' := by
  have HD := Seal.mk hd
  have HD2 := Seal.mk hd2
  have hlm := hd.lmax
  have hlm2 := hd2.lmax
  have HLL : Seal (l.length = la ∧ r.length = lb) := ⟨hd.llen, hd2.llen⟩
  clear hd hd2
  go_enter Tryd.func27, Tryd.ntmps27
  by_cases hne : la = lb
  · subst hne
    go_wp2
    go_loopw [5] (fun i wr => ∃ k : Nat, k ≤ la ∧ i = .int .i64 k ∧ Seal (Below w.heap.size w wr ∧ l.take k = r.take k)) (fun i _ => la - (intOf i).toNat)
    case atStart => exact ⟨0, by omega, rfl, ⟨Below.refl _ _, by simp⟩⟩
    case round =>
      obtain ⟨k, hk, rfl, hH⟩ := hrel
      by_cases hlt : k < la
      · have HDr := HD.out.of_heap hH.out.1
        have HDr2 := HD2.out.of_heap hH.out.1
        rcases HDr.at_ with h0 | ⟨g, off, rfl, hr, hg⟩
        · omega
        rcases HDr2.at_ with h0 | ⟨g2, off2, rfl, hr2, hg2⟩
        · omega
        obtain ⟨x, hx⟩ : ∃ x, x = l.getD k [] := ⟨_, rfl⟩
        obtain ⟨y, hy⟩ : ∃ y, y = r.getD k [] := ⟨_, rfl⟩
        have r1 := range_dg hr HDr.each (i := k) (by rw [HLL.out.1]; exact hlt)
        have x32 := getD_len HDr.each (i := k) (by rw [HLL.out.1]; exact hlt)
        have r2 := range_dg hr2 HDr2.each (i := k) (by rw [HLL.out.2]; exact hlt)
        have y32 := getD_len HDr2.each (i := k) (by rw [HLL.out.2]; exact hlt)
        rw [← hx] at r1 x32
        rw [← hy] at r2 y32
        have i1 := dg_info x x32
        have i2 := dg_info y y32
        have ut := Tryd.underlying29
        obtain ⟨t, ht⟩ : ∃ t, (x == y) = t := ⟨_, rfl⟩
        have heq : ∀ W, (Op.equalIn 10000 29 (.agg (x.map B).toArray) (.agg (y.map B).toArray)).run Tryd.prog W = .ok t W := fun W => by rw [← ht]; exact eqDig _ _ x32 y32 W
        have HM : Seal ((t = true → l.take (k + 1) = r.take (k + 1)) ∧ (t = false → (l == r) = false)) := ⟨by
          have := take_succ_eq (by rw [HLL.out.1]; exact hlt) (by rw [HLL.out.2]; exact hlt) hH.out.2
          rw [← hx, ← hy] at this
          refine ⟨fun e => this.1 (by rw [e] at ht; exact eq_of_beq ht), fun e => ?_⟩
          cases hb : (l == r) with
          | false => rfl
          | true =>
            have := this.2 (eq_of_beq hb)
            rw [← ht, this] at e
            simp at e⟩
        have q5 : (k : Int) < (la : Int) := by omega
        have q6 : (0 : Int) ≤ (k : Int) := by omega
        clear hr hr2 HDr HDr2 hx hy x32 y32 ht
        go_wp2_with fail
        refine wp_region_held_drew (S := fun w' => w'.rangeAt g (off + k * 32) (x.map B) ∧ w'.rangeAt g2 (off2 + k * 32) (y.map B)) (by kernel_rfl) ⟨r1, r2⟩ (fun hHeld => ?_)
        refine take_h 0 ?_ rfl (by kernel_rfl) (by kernel_rfl) (by kernel_rfl) (fun _ _ _ h => h) (Or.inl ⟨by kernel_rfl, ?_⟩) (by assumption) ?_
        rotate_left
        · (intro w hSw; (try dsimp only at hSw); go_simp; try (with_reducible rfl))
        try simp only [Act.put, List.setIfInBounds_toArray, List.set_cons_zero, List.set_cons_succ]
        refine take_h 1 ?_ rfl (by kernel_rfl) (by kernel_rfl) (by kernel_rfl) (fun _ _ _ h => h) (Or.inl ⟨by kernel_rfl, ?_⟩) (by assumption) ?_
        rotate_left
        · (intro w hSw; (try dsimp only at hSw); go_simp; try (with_reducible rfl))
        try simp only [Act.put, List.setIfInBounds_toArray, List.set_cons_zero, List.set_cons_succ]
        refine take_h 2 ?_ rfl (by kernel_rfl) (by kernel_rfl) (by kernel_rfl) (fun _ _ _ h => h) (Or.inl ⟨by kernel_rfl, ?_⟩) (by assumption) ?_
        rotate_left
        · (intro w hSw; (try dsimp only at hSw); go_simp; try (with_reducible rfl))
        try simp only [Act.put, List.setIfInBounds_toArray, List.set_cons_zero, List.set_cons_succ]
        refine take_h 3 _ rfl (by kernel_rfl) (by kernel_rfl) (by kernel_rfl) (fun _ _ _ h => h) (yieldsIf_load_mid (by kernel_rfl) 29 (.tmp 19) rfl g (off + k * 32) rfl (x.map B) _ (fun w hSw => hSw.1) ut rfl i1) (by assumption) ?_
        try simp only [Act.put, List.setIfInBounds_toArray, List.set_cons_zero, List.set_cons_succ]
        refine take_h 4 ?_ rfl (by kernel_rfl) (by kernel_rfl) (by kernel_rfl) (fun _ _ _ h => h) (Or.inl ⟨by kernel_rfl, ?_⟩) (by assumption) ?_
        rotate_left
        · (intro w hSw; (try dsimp only at hSw); go_simp; try (with_reducible rfl))
        try simp only [Act.put, List.setIfInBounds_toArray, List.set_cons_zero, List.set_cons_succ]
        refine take_h 5 ?_ rfl (by kernel_rfl) (by kernel_rfl) (by kernel_rfl) (fun _ _ _ h => h) (Or.inl ⟨by kernel_rfl, ?_⟩) (by assumption) ?_
        rotate_left
        · (intro w hSw; (try dsimp only at hSw); go_simp; try (with_reducible rfl))
        try simp only [Act.put, List.setIfInBounds_toArray, List.set_cons_zero, List.set_cons_succ]
        refine take_h 6 ?_ rfl (by kernel_rfl) (by kernel_rfl) (by kernel_rfl) (fun _ _ _ h => h) (Or.inl ⟨by kernel_rfl, ?_⟩) (by assumption) ?_
        rotate_left
        · (intro w hSw; (try dsimp only at hSw); go_simp; try (with_reducible rfl))
        try simp only [Act.put, List.setIfInBounds_toArray, List.set_cons_zero, List.set_cons_succ]
        refine take_h 7 _ rfl (by kernel_rfl) (by kernel_rfl) (by kernel_rfl) (fun _ _ _ h => h) (yieldsIf_load_mid (by kernel_rfl) 29 (.tmp 23) rfl g2 (off2 + k * 32) rfl (y.map B) _ (fun w hSw => hSw.2) ut rfl i2) (by assumption) ?_
        try simp only [Act.put, List.setIfInBounds_toArray, List.set_cons_zero, List.set_cons_succ]
        refine take_h 8 ?_ rfl (by kernel_rfl) (by kernel_rfl) (by kernel_rfl) (fun _ _ _ h => h) (Or.inl ⟨by kernel_rfl, ?_⟩) (by assumption) ?_
        rotate_left
        · (intro w hSw; (try dsimp only at hSw); go_simp; try (with_reducible rfl))
        try simp only [Act.put, List.setIfInBounds_toArray, List.set_cons_zero, List.set_cons_succ]
        refine wpAnyH_done (by kernel_rfl) ?_ _
        have HB1 : Seal (Below w.heap.size w wr.drew) := ⟨⟨hH.out.1.os, hH.out.1.tape, hH.out.1.output, hH.out.1.size, hH.out.1.block⟩⟩
        clear hHeld r1 r2 i1 i2 ut heq
        cases t
        · have HN := Seal.mk (HM.out.2 rfl)
          clear HM
          go_wp2
          go_ret
          exact ⟨ret_bool HN.out.symm, HB1.out⟩
        · have HN := Seal.mk (HM.out.1 rfl)
          clear HM
          go_wp2
          go_roundw
          case rel => exact ⟨k + 1, by omega, by go_num, ⟨HB1.out, HN.out⟩⟩
          case measure => simp [intOf]; omega
      · obtain rfl : k = la := by omega
        have HN : Seal ((l == r) = true) := ⟨by
          have := hH.out.2
          rw [List.take_of_length_le (by rw [HLL.out.1]; omega), List.take_of_length_le (by rw [HLL.out.2]; omega)] at this
          rw [this]; simp⟩
        have HB1 : Seal (Below w.heap.size w wr) := ⟨hH.out.1⟩
        clear hH
        go_wp2
        go_ret
        exact ⟨ret_bool HN.out.symm, HB1.out⟩
  · have q : ¬ (la : Int) = (lb : Int) := by omega
    have HN : Seal ((l == r) = false) := ⟨by
      cases hb : (l == r) with
      | false => rfl
      | true => exact absurd (by rw [← HLL.out.1, ← HLL.out.2, eq_of_beq hb]) hne⟩
    go_wp2
    go_ret
    exact ⟨ret_bool HN.out.symm, Below.refl _ _⟩

/-- what Put returns -/
def PutPost (l : List Bytes) (w : World) (e : Ending) (w' : World) : Prop :=
  ∃ g n c, e = .returned (.slice (some ⟨g, 0, none⟩) n c) ∧ Seal (IsD w' (some ⟨g, 0, none⟩) n c l) ∧ Below w.heap.size w w'

end Frk
