/- Parts of the proof, joined. -/
import Derived.Test.YtllbjakfjpjfnaaGreatDoorVxRfe
import Derived.Test.YtllbjakfjpjfnaaGreatDoorVxFky
import Derived.Test.YtllbjakfjpjfnaaGreatDoorVxgFfm
/- ref47.Key. -/
namespace Frk
open Go Go.RowKit Go.Proofs
set_option maxRecDepth 100000

theorem keyV_take_succ {l : List Ep} {i : Nat} {x : Ep} (hx : l[i]? = some x) (o t : Int) : keyV (l.take (i + 1)) o t = if selE o t x = true then x.K else keyV (l.take i) o t := by
  unfold keyV
  rw [keyF_take_succ hx]
  by_cases h : selE o t x = true
  · rw [if_pos h, if_pos h]
  · rw [if_neg h, if_neg h]
set_option maxHeartbeats 4000000 in
theorem rkey47_any (a : Option Addr) (n c : Nat) (l : List Ep) (o t : Int) (w : World) (hd : IsE w a n c l) :
    Calls Tryz.prog 56 #[.slice a n c, .int .i64 o, .int .i64 t] w fun e w' => e = .returned (.tuple #[.int .i64 (keyR l o t).1, .bool (keyR l o t).2.1, .int .i64 (keyR l o t).2.2]) ∧ Below w.heap.size w w' := by
  have HD := Seal.mk hd
  have hll := hd.llen
  have hlm := hd.lmax
  have hC := rcheck47_any a n c l w hd
  obtain ⟨ec, hec⟩ : ∃ e, e = epChk l := ⟨_, rfl⟩
  rw [← hec] at hC
  obtain ⟨r1, r2, r3, hR⟩ : ∃ r1 r2 r3, keyR l o t = (r1, r2, r3) := ⟨_, _, _, rfl⟩
  have HR := Seal.mk hR
  have HEc := Seal.mk hec
  rw [hR]
  have HLl := Seal.mk hll
  clear hd hec hR hll
  go_enter Tryz.func56, Tryz.ntmps56
  go_wp2_with fail
  refine hC.mono ?_
  rintro e w1 ⟨rfl, hb⟩
  have HB := Seal.mk hb
  clear hC hb
  by_cases h0 : ec = 0
  rotate_left
  · have hr : (r1, r2, r3) = (0, false, ec) := by
      have e : keyE l o t = ec := by unfold keyE; rw [← HEc.out, if_pos h0]
      rw [← HR.out]; unfold keyR; rw [e, if_pos h0]
    cases hr
    go_wp2
    refine bodyPost_ret (v := .tuple #[.int .i64 _, .bool _, .int .i64 _]) (by simp [results, Tryz.results56, go_sem]; try exact ⟨rfl, rfl, rfl⟩) rfl ?_
    exact ⟨rfl, HB.out⟩
  subst h0
  by_cases a1 : o < 0
  · skip
    have hr : (r1, r2, r3) = (0, false, 1) := by
      have e : keyE l o t = 1 := by unfold keyE; rw [← HEc.out, if_neg (by decide), if_pos (by omega)]
      rw [← HR.out]; unfold keyR; rw [e, if_pos (by decide)]
    cases hr
    go_wp2
    refine bodyPost_ret (v := .tuple #[.int .i64 _, .bool _, .int .i64 _]) (by simp [results, Tryz.results56, go_sem]; try exact ⟨rfl, rfl, rfl⟩) rfl ?_
    exact ⟨rfl, HB.out⟩
  by_cases a2 : 24 ≤ o
  · skip
    have hr : (r1, r2, r3) = (0, false, 1) := by
      have e : keyE l o t = 1 := by unfold keyE; rw [← HEc.out, if_neg (by decide), if_pos (by omega)]
      rw [← HR.out]; unfold keyR; rw [e, if_pos (by decide)]
    cases hr
    go_wp2
    refine bodyPost_ret (v := .tuple #[.int .i64 _, .bool _, .int .i64 _]) (by simp [results, Tryz.results56, go_sem]; try exact ⟨rfl, rfl, rfl⟩) rfl ?_
    exact ⟨rfl, HB.out⟩
  by_cases a3 : t < 0
  · skip
    have hr : (r1, r2, r3) = (0, false, 1) := by
      have e : keyE l o t = 1 := by unfold keyE; rw [← HEc.out, if_neg (by decide), if_pos (by omega)]
      rw [← HR.out]; unfold keyR; rw [e, if_pos (by decide)]
    cases hr
    go_wp2
    refine bodyPost_ret (v := .tuple #[.int .i64 _, .bool _, .int .i64 _]) (by simp [results, Tryz.results56, go_sem]; try exact ⟨rfl, rfl, rfl⟩) rfl ?_
    exact ⟨rfl, HB.out⟩
  by_cases a4 : 2097152 ≤ t
  · skip
    have hr : (r1, r2, r3) = (0, false, 1) := by
      have e : keyE l o t = 1 := by unfold keyE; rw [← HEc.out, if_neg (by decide), if_pos (by omega)]
      rw [← HR.out]; unfold keyR; rw [e, if_pos (by decide)]
    cases hr
    go_wp2
    refine bodyPost_ret (v := .tuple #[.int .i64 _, .bool _, .int .i64 _]) (by simp [results, Tryz.results56, go_sem]; try exact ⟨rfl, rfl, rfl⟩) rfl ?_
    exact ⟨rfl, HB.out⟩
  have hr : Seal ((r1, r2, r3) = (keyV l o t, decide (keyV l o t ≠ 0), 0)) := ⟨by
    have e : keyE l o t = 0 := by unfold keyE; rw [← HEc.out, if_neg (by decide), if_neg (by omega)]
    rw [← HR.out]
    unfold keyR
    rw [e, if_neg (by decide), keyB_iff HEc.out.symm]⟩
  go_wp2
  clear a1 a2 a3 a4
  go_loopw [10, 11] (fun s i wr => ∃ (k : Nat) (v : Int), k ≤ n ∧ s = .int .i64 v ∧ i = .int .i64 k ∧ Seal (v = keyV (l.take k) o t) ∧ Seal (Below w.heap.size w wr)) (fun _ i _ => n - (intOf i).toNat)
  case atStart => exact ⟨0, 0, Nat.zero_le _, rfl, rfl, ⟨rfl⟩, HB⟩
  case round =>
    obtain ⟨k, v, hk, rfl, rfl, HK, HB⟩ := hrel
    by_cases hlt : k < n
    · have q1 : (k : Int) < (n : Int) := by omega
      have q2 : (0 : Int) ≤ (k : Int) := by omega
      have q3 : IntKind.i64.wrap ((k : Int) + 1) = ((k + 1 : Nat) : Int) := by rw [IntWalk.i64_in _ (by omega)]; omega
      have hDw := HD.out.below HB.out
      obtain ⟨g, off, rfl, hr0, _⟩ : ∃ g off, a = some ⟨g, off, none⟩ ∧ wr.rangeAt g off (l.flatMap Ep.C) ∧ g < wr.heap.size := by
        rcases hDw.at_ with h0 | h
        · omega
        · exact h
      obtain ⟨x, hx⟩ : ∃ x, l[k]? = some x := ⟨_, List.getElem?_eq_getElem (by rw [HLl.out]; exact hlt)⟩
      have rX := rangeC_row hr0 hDw.each hx
      obtain ⟨O, hO⟩ : ∃ N, N = x.O := ⟨_, rfl⟩
      obtain ⟨F, hF⟩ : ∃ N, N = x.F := ⟨_, rfl⟩
      obtain ⟨K, hK⟩ : ∃ N, N = x.K := ⟨_, rfl⟩
      have cO : wr.cell? ⟨g, off + k * 3, none⟩ = some (.int .i64 O) := by have h := rX 0 (.int .i64 O) (by rw [hO]; rfl); simpa using h
      have cF : wr.cell? ⟨g, off + k * 3 + 1, none⟩ = some (.int .i64 F) := by have h := rX 1 (.int .i64 F) (by rw [hF]; rfl); simpa using h
      have cK : wr.cell? ⟨g, off + k * 3 + 2, none⟩ = some (.int .i64 K) := by have h := rX 2 (.int .i64 K) (by rw [hK]; rfl); simpa using h
      have HN : Seal (keyV (l.take (k + 1)) o t = if O = o ∧ F ≤ t then K else v) := ⟨by
        rw [keyV_take_succ hx, HK.out, hO, hF, hK]
        unfold selE
        simp only [Bool.and_eq_true, decide_eq_true_eq]⟩
      clear hr0 hx rX hO hF hK hDw
      by_cases b1 : O = o
      · subst b1
        by_cases b2 : F ≤ t
        · go_wp2
          exact ⟨⟨k + 1, K, by omega, rfl, rfl, ⟨by rw [HN.out, if_pos ⟨rfl, b2⟩]⟩, HB⟩, by simp only [intOf]; omega⟩
        · go_wp2
          exact ⟨⟨k + 1, v, by omega, rfl, rfl, ⟨by rw [HN.out, if_neg (fun h => b2 h.2)]⟩, HB⟩, by simp only [intOf]; omega⟩
      · have qo : (O == o) = false := by rw [beq_eq_false_iff_ne]; exact b1
        go_wp2
        exact ⟨⟨k + 1, v, by omega, rfl, rfl, ⟨by rw [HN.out, if_neg (fun h => b1 h.1)]⟩, HB⟩, by simp only [intOf]; omega⟩
    · obtain rfl : k = n := by omega
      have q1 : ¬ (k : Int) < (k : Int) := by omega
      have hv : v = keyV l o t := by rw [HK.out, List.take_of_length_le (by rw [HLl.out]; exact Nat.le_refl _)]
      have hrr := hr.out
      rw [← hv] at hrr
      cases hrr
      clear hr HR hv HK
      go_wp2
      refine bodyPost_ret (v := .tuple #[.int .i64 _, .bool _, .int .i64 _]) (by simp [results, Tryz.results56, go_sem]; try exact ⟨rfl, rfl, rfl⟩) rfl ?_
      exact ⟨by first | rfl | simp, HB.out⟩
end Frk

/- The reference's questions about lists of numbers; ref57.Formed. -/
namespace Frk
open Go Go.RowKit Go.Proofs
set_option maxRecDepth 100000

theorem isIs_cellR {w : World} {g o n c : Nat} {l : List Int} (h : IsIs w (some ⟨g, o, none⟩) n c l) {j : Nat} (hj : j < n) : w.cell? ⟨g, o + j, none⟩ = some (.int .i64 (l.getD j 0)) := by
  rcases h.at_ with h0 | ⟨g', o', e, hr, _⟩
  · omega
  · cases e
    have hl : j < l.length := by rw [h.llen]; exact hj
    refine hr j _ ?_
    rw [show l.flatMap intC = l.map (Value.int .i64) from intC_flat l, List.getElem?_map, List.getElem?_eq_getElem hl, List.getD_eq_getElem?_getD, List.getElem?_eq_getElem hl]
    rfl
theorem take_mem_succ {l : List Int} {j : Nat} {n : Int} (hj : j < l.length) : n ∈ l.take (j + 1) ↔ n ∈ l.take j ∨ l.getD j 0 = n := by
  rw [List.take_succ_eq_append_getElem hj, List.mem_append, List.mem_singleton, List.getD_eq_getElem?_getD, List.getElem?_eq_getElem hj]
  exact ⟨fun h => h.imp id Eq.symm, fun h => h.imp id Eq.symm⟩
set_option maxHeartbeats 2000000 in
theorem rhas25_any (a : Option Addr) (n c : Nat) (l : List Int) (v : Int) (w : World) (hd : IsIs w a n c l) :
    Calls Tryz.prog 82 #[.slice a n c, .int .i64 v] w fun e w' => e = .returned (.bool (decide (v ∈ l))) ∧ Below w.heap.size w w' := by
  have HD := Seal.mk hd
  have hn := hd.llen
  have h5 := hd.lmax
  have HN := Seal.mk hn
  clear hd hn
  go_enter Tryz.func82, Tryz.ntmps82
  go_wp2
  go_loopw [5] (fun i wr => ∃ k : Nat, k ≤ n ∧ i = .int .i64 k ∧ Seal (v ∉ l.take k) ∧ Seal (Below w.heap.size w wr)) (fun i _ => n - (intOf i).toNat)
  case atStart => exact ⟨0, Nat.zero_le _, rfl, ⟨by simp⟩, ⟨Below.refl _ _⟩⟩
  case round =>
    obtain ⟨k, hk, rfl, HK, HB⟩ := hrel
    by_cases hlt : k < n
    · have q1 : (k : Int) < (n : Int) := by omega
      have q2 : (0 : Int) ≤ (k : Int) := by omega
      have q3 : IntKind.i64.wrap ((k : Int) + 1) = ((k + 1 : Nat) : Int) := by rw [IntWalk.i64_in _ (by omega)]; omega
      obtain ⟨g, o, rfl⟩ : ∃ g o, a = some ⟨g, o, none⟩ := by
        rcases HD.out.at_ with h0 | ⟨g, o, e, _, _⟩
        · omega
        · exact ⟨g, o, e⟩
      have cc := isIs_cellR (HD.out.below HB.out) hlt
      obtain ⟨x, hx⟩ : ∃ x, x = l.getD k 0 := ⟨_, rfl⟩
      rw [← hx] at cc
      have HX : Seal (v ∈ l.take (k + 1) ↔ v ∈ l.take k ∨ x = v) := ⟨by rw [hx]; exact take_mem_succ (by rw [HN.out]; exact hlt)⟩
      clear hx
      by_cases hv : x = v
      · have HM : Seal (v ∈ l) := ⟨List.mem_of_mem_take (HX.out.2 (.inr hv))⟩
        subst hv
        clear HX
        go_wp2
        go_ret
        refine ⟨?_, HB.out⟩
        rw [decide_eq_true HM.out]
        rfl
      · go_wp2
        exact ⟨⟨k + 1, by omega, rfl, ⟨fun h => by
          rcases HX.out.1 h with h | h
          · exact HK.out h
          · exact hv h⟩, HB⟩, by simp only [intOf]; omega⟩
    · obtain rfl : k = n := by omega
      have q1 : ¬ (k : Int) < (k : Int) := by omega
      go_wp2
      go_ret
      refine ⟨?_, HB.out⟩
      have := HK.out
      rw [List.take_of_length_le (by rw [HN.out]; exact Nat.le_refl _)] at this
      rw [decide_eq_false this]
      rfl

theorem nodup_take_succ {l : List Int} {j : Nat} (hj : j < l.length) : (l.take (j + 1)).Nodup ↔ (l.take j).Nodup ∧ l.getD j 0 ∉ l.take j := by
  rw [List.take_succ_eq_append_getElem hj, List.nodup_append, List.getD_eq_getElem?_getD, List.getElem?_eq_getElem hj]
  simp only [Option.getD_some]
  constructor
  · rintro ⟨h1, _, h2⟩
    exact ⟨h1, fun h => h2 _ h _ (List.mem_singleton.2 rfl) rfl⟩
  · rintro ⟨h1, h2⟩
    exact ⟨h1, by simp, fun x hx y hy e => by rw [List.mem_singleton.1 hy] at e; rw [e] at hx; exact h2 hx⟩
set_option maxHeartbeats 2000000 in
theorem rdiff25_any (a : Option Addr) (n c : Nat) (l : List Int) (w : World) (hd : IsIs w a n c l) :
    Calls Tryz.prog 55 #[.slice a n c] w fun e w' => e = .returned (.bool (decide l.Nodup)) ∧ Below w.heap.size w w' := by
  have HD := Seal.mk hd
  have h5 := hd.lmax
  have h6 := hd.lcap
  have HN := Seal.mk hd.llen
  clear hd
  go_enter Tryz.func55, Tryz.ntmps55
  go_wp2
  go_loopw [3] (fun i wr => ∃ k : Nat, k ≤ n ∧ i = .int .i64 k ∧ Seal ((l.take k).Nodup) ∧ Seal (Below w.heap.size w wr)) (fun i _ => n - (intOf i).toNat)
  case atStart => exact ⟨0, Nat.zero_le _, rfl, ⟨by simp⟩, ⟨Below.refl _ _⟩⟩
  case round =>
    obtain ⟨k, hk, rfl, HK, HB⟩ := hrel
    by_cases hlt : k < n
    · have q1 : (k : Int) < (n : Int) := by omega
      have q2 : (0 : Int) ≤ (k : Int) := by omega
      have q4 : (k : Int) ≤ (c : Int) := by omega
      have q3 : IntKind.i64.wrap ((k : Int) + 1) = ((k + 1 : Nat) : Int) := by rw [IntWalk.i64_in _ (by omega)]; omega
      obtain ⟨g, o, rfl⟩ : ∃ g o, a = some ⟨g, o, none⟩ := by
        rcases HD.out.at_ with h0 | ⟨g, o, e, _, _⟩
        · omega
        · exact ⟨g, o, e⟩
      have cc := isIs_cellR (HD.out.below HB.out) hlt
      obtain ⟨x, hx⟩ : ∃ x, x = l.getD k 0 := ⟨_, rfl⟩
      rw [← hx] at cc
      have HX : Seal ((l.take (k + 1)).Nodup ↔ (l.take k).Nodup ∧ x ∉ l.take k) := ⟨by rw [hx]; exact nodup_take_succ (by rw [HN.out]; exact hlt)⟩
      clear hx
      go_wp2_with fail
      refine wp_region_held_drew (S := fun W => W.cell? ⟨g, o + k, none⟩ = some (.int .i64 x)) (by kernel_rfl) cc (fun hHeld => ?_)
      obtain ⟨V, hV⟩ : ∃ V, V = wr.drew := ⟨_, rfl⟩
      have HV : Seal (Below w.heap.size w V) := ⟨by rw [hV]; exact HB.out.trans ((below_drewn_f _).mono HB.out.size)⟩
      rw [← hV] at hHeld ⊢
      clear hV cc
      have hT : IsIs V (some ⟨g, o, none⟩) k c (l.take k) := isIs_take (HD.out.below HV.out) hk
      have hH := rhas25_any (some ⟨g, o, none⟩) k c (l.take k) x V hT
      obtain ⟨b, hb⟩ : ∃ b, b = decide (x ∈ l.take k) := ⟨_, rfl⟩
      rw [← hb] at hH
      have HBb := Seal.mk hb
      clear hb hT
      refine take_h 0 ?_ rfl (by kernel_rfl) (by kernel_rfl) (by kernel_rfl) (fun _ _ _ h => h) (Or.inl ⟨by kernel_rfl, ?_⟩) (by assumption) ?_
      rotate_left
      · (intro w hSw; (try dsimp only at hSw); go_simp; try (with_reducible rfl))
      try simp only [Act.put, List.setIfInBounds_toArray, List.set_cons_zero, List.set_cons_succ]
      refine take_h 1 ?_ rfl (by kernel_rfl) (by kernel_rfl) (by kernel_rfl) (fun _ _ _ h => h) (Or.inl ⟨by kernel_rfl, ?_⟩) (by assumption) ?_
      rotate_left
      · (intro w hSw; (try dsimp only at hSw); go_simp; try (with_reducible rfl))
      try simp only [Act.put, List.setIfInBounds_toArray, List.set_cons_zero, List.set_cons_succ]
      refine take_h 2 ?_ rfl (by kernel_rfl) (by kernel_rfl) (by kernel_rfl) (fun _ _ _ h => h) (Or.inl ⟨by kernel_rfl, ?_⟩) (by assumption) ?_
      rotate_left
      · (intro w hSw; (try dsimp only at hSw); go_simp; try (with_reducible rfl))
      try simp only [Act.put, List.setIfInBounds_toArray, List.set_cons_zero, List.set_cons_succ]
      refine take_h 3 ?_ rfl (by kernel_rfl) (by kernel_rfl) (by kernel_rfl) (fun _ _ _ h => h) (Or.inl ⟨by kernel_rfl, ?_⟩) (by assumption) ?_
      rotate_left
      · (intro w hSw; (try dsimp only at hSw); go_simp; try (with_reducible rfl))
      try simp only [Act.put, List.setIfInBounds_toArray, List.set_cons_zero, List.set_cons_succ]
      refine take_h 4 ?_ rfl (by kernel_rfl) (by kernel_rfl) (by kernel_rfl) (fun _ _ _ h => h) (Or.inl ⟨by kernel_rfl, ?_⟩) (by assumption) ?_
      rotate_left
      · (intro w hSw; (try dsimp only at hSw); go_simp; try (with_reducible rfl))
      try simp only [Act.put, List.setIfInBounds_toArray, List.set_cons_zero, List.set_cons_succ]
      refine take_h 5 ?_ rfl (by kernel_rfl) (by kernel_rfl) (by kernel_rfl) (fun _ _ _ h => h) (Or.inl ⟨by kernel_rfl, ?_⟩) (by assumption) ?_
      rotate_left
      · (intro w hSw; (try dsimp only at hSw); go_simp; try (with_reducible rfl))
      try simp only [Act.put, List.setIfInBounds_toArray, List.set_cons_zero, List.set_cons_succ]
      refine take_h 6 ?_ rfl (by kernel_rfl) (by kernel_rfl) (by kernel_rfl) (fun _ _ _ h => h) (Or.inl ⟨by kernel_rfl, ?_⟩) (by assumption) ?_
      rotate_left
      · (intro w hSw; (try dsimp only at hSw); go_simp; try (with_reducible rfl))
      try simp only [Act.put, List.setIfInBounds_toArray, List.set_cons_zero, List.set_cons_succ]
      refine call_h 7 rfl (by kernel_rfl) 82 #[.slice (some ⟨g, o, none⟩) k c, .int .i64 x] (by kernel_rfl) (by go_simp) ?_
      refine hH.mono ?_
      rintro e V1 ⟨rfl, hb1⟩
      refine ⟨_, rfl, cell_below' hb1 hHeld, fun hHeld2 => ?_⟩
      have HB2 : Seal (Below w.heap.size w V1) := ⟨HV.out.trans (hb1.mono HV.out.size)⟩
      clear hH hb1 hHeld hHeld2 HB
      try simp only [Act.put, List.setIfInBounds_toArray, List.set_cons_zero, List.set_cons_succ]
      refine wpAnyH_done (by kernel_rfl) ?_ _
      cases b with
      | true =>
        go_wp2
        go_ret
        refine ⟨?_, HB2.out⟩
        have h1 : x ∈ l.take k := of_decide_eq_true HBb.out.symm
        rw [decide_eq_false (fun h : l.Nodup => (HX.out.1 (List.Nodup.sublist (List.take_sublist _ _) h)).2 h1)]
        rfl
      | false =>
        go_wp2
        exact ⟨⟨k + 1, by omega, rfl, ⟨HX.out.2 ⟨HK.out, of_decide_eq_false HBb.out.symm⟩⟩, HB2⟩, by simp only [intOf]; omega⟩
    · obtain rfl : k = n := by omega
      have q1 : ¬ (k : Int) < (k : Int) := by omega
      go_wp2
      go_ret
      refine ⟨?_, HB.out⟩
      have := HK.out
      rw [List.take_of_length_le (by rw [HN.out]; exact Nat.le_refl _)] at this
      rw [decide_eq_true this]
      rfl
end Frk

