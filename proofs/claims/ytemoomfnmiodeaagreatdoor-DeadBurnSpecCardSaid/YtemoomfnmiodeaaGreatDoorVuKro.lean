/- Law 45: dead.root, dead.Root. -/
import Derived.Test.YtemoomfnmiodeaaGreatDoorVuKle
namespace Frk
open Go Go.RowKit Go.Proofs
set_option maxRecDepth 100000

section
attribute [local go_sem] Oper.semAt_some
set_option maxHeartbeats 4000000 in
theorem droot_any (a : Option Addr) (n c : Nat) (l : List Ltr) (w : World) (hG : Glob w) (hl : IsC Ltr.C 38 w a n c l) (hok : ∀ x ∈ l, x.ok) (hm : n ≤ 100) :
    Calls Tryz.prog 26 #[.slice a n c] w fun e w' => e = .returned (.agg ((rootB (l.map txK)).map B).toArray) ∧ Below w.heap.size w w' := by
  obtain ⟨X, hX⟩ : ∃ X : World, X = w.alloc (.cells #[.int .u8 0, .int .u8 0, .int .u8 0, .int .u8 0, .int .u8 0, .int .u8 0, .int .u8 0, .int .u8 0, .int .u8 0, .int .u8 0, .int .u8 0, .int .u8 0, .int .u8 0, .int .u8 0, .int .u8 0, .int .u8 0, .int .u8 0, .int .u8 0, .int .u8 0, .int .u8 0, .int .u8 0, .int .u8 0, .int .u8 0, .int .u8 0, .int .u8 0, .int .u8 0, .int .u8 0, .int .u8 0, .int .u8 0, .int .u8 0, .int .u8 0, .int .u8 0] 26) := ⟨_, rfl⟩
  obtain ⟨Y, hY⟩ : ∃ Y : World, Y = X.alloc (.cells #[.slice none 0 0] 61) := ⟨_, rfl⟩
  obtain ⟨Z, hZ⟩ : ∃ Z : World, Z = Y.alloc (.cells #[.slice a n c] 22) := ⟨_, rfl⟩
  have hXb : Below w.heap.size w X := by rw [hX]; exact below_alloc _ _
  have hXs : X.heap.size = w.heap.size + 1 := by rw [hX, size_alloc]
  have hXz : X.heap[w.heap.size]? = some (.cells #[.int .u8 0, .int .u8 0, .int .u8 0, .int .u8 0, .int .u8 0, .int .u8 0, .int .u8 0, .int .u8 0, .int .u8 0, .int .u8 0, .int .u8 0, .int .u8 0, .int .u8 0, .int .u8 0, .int .u8 0, .int .u8 0, .int .u8 0, .int .u8 0, .int .u8 0, .int .u8 0, .int .u8 0, .int .u8 0, .int .u8 0, .int .u8 0, .int .u8 0, .int .u8 0, .int .u8 0, .int .u8 0, .int .u8 0, .int .u8 0, .int .u8 0, .int .u8 0] 26 (0, 0)) := by rw [hX]; exact heap_alloc_new w _
  have hYb : Below X.heap.size X Y := by rw [hY]; exact below_alloc _ _
  have hYs : Y.heap.size = w.heap.size + 2 := by rw [hY, size_alloc, hXs]
  have hYn : Y.heap[X.heap.size]? = some (.cells #[.slice none 0 0] 61 (0, 0)) := by rw [hY]; exact heap_alloc_new X _
  have hZb : Below Y.heap.size Y Z := by rw [hZ]; exact below_alloc _ _
  have hZs : Z.heap.size = w.heap.size + 3 := by rw [hZ, size_alloc, hYs]
  have hZc : Z.cell? ⟨Y.heap.size, 0, none⟩ = some (.slice a n c) := by rw [hZ, cell_of_row _ _ _ _ _ _ (heap_alloc_new Y _)]; rfl
  have hXZ : Below X.heap.size X Z := hYb.trans (hZb.mono hYb.size)
  have hwZ : Below w.heap.size w Z := hXb.trans (hXZ.mono hXb.size)
  have HX : Seal (X.heap.size = w.heap.size + 1 ∧ Y.heap.size = w.heap.size + 2 ∧ Z.heap.size = w.heap.size + 3 ∧ Z.heap[w.heap.size]? = some (.cells #[.int .u8 0, .int .u8 0, .int .u8 0, .int .u8 0, .int .u8 0, .int .u8 0, .int .u8 0, .int .u8 0, .int .u8 0, .int .u8 0, .int .u8 0, .int .u8 0, .int .u8 0, .int .u8 0, .int .u8 0, .int .u8 0, .int .u8 0, .int .u8 0, .int .u8 0, .int .u8 0, .int .u8 0, .int .u8 0, .int .u8 0, .int .u8 0, .int .u8 0, .int .u8 0, .int .u8 0, .int .u8 0, .int .u8 0, .int .u8 0, .int .u8 0, .int .u8 0] 26 (0, 0)) ∧ Below w.heap.size w Z ∧ Below w.heap.size w X) :=
    ⟨hXs, hYs, hZs, (hXZ.block _ (by omega)).trans hXz, hwZ, hXb⟩
  have HL : Seal (IsC Ltr.C 38 Z a n c l) := ⟨hl.below hwZ⟩
  have HLw := Seal.mk hl
  have hll := hl.llen
  have hmx : n ≤ 1000 := by omega
  have hts : Seal (∀ t ∈ l.map txK, 0 < t.length) := ⟨by
    intro t ht
    obtain ⟨s, hs, rfl⟩ := List.mem_map.1 ht
    exact (txK_len (hok s hs).t32).1⟩
  have HT : Seal (∀ t ∈ l.map txK, 0 < t.length ∧ t.length ≤ 1000) := ⟨by
    intro t ht
    obtain ⟨s, hs, rfl⟩ := List.mem_map.1 ht
    have := txK_len (hok s hs).t32
    omega⟩
  have hA0 : AS (l.map txK) X [] (.slice none 0 0) Z := ⟨(hZb.block _ (by omega)).trans hYn, World.ownsRow_nil _ _ _ _, hXZ, fun j x h => by simp at h, by omega, fun _ => rfl⟩
  obtain ⟨i0, hi, hz0, hz1, hz2⟩ := info_parts (show (Tryz.prog.info? 90).map (fun i => (i.zero, i.size, i.bytes)) = some (some (.slice none 0 0), 1, 24) by kernel_rfl)
  have HI := Seal.mk (And.intro hi (And.intro hz0 (And.intro hz1 hz2)))
  have HSeq := Seal.mk (leavesK_mem 2 Y.heap.size a n c l Z hZc HL.out hok)
  have HLv : Seal (Calls Tryz.prog 50 #[.slice a n c] Y fun e w' => e = .returned (.func (.func 72) #[] #[.pointer (some ⟨Y.heap.size, 0, none⟩)]) ∧ Z = w') := ⟨by rw [hZ]; exact dleaves_any a n c Y⟩
  have HG : Seal (∀ W, Below w.heap.size w W → Glob W) := ⟨fun W h => hG.below h⟩
  have HM : Seal (∀ W a' c', Glob W → IsBs W a' n c' (l.map txK) → Calls Tryz.prog 24 #[.slice a' n c'] W fun e w' => e = .returned (.agg ((rootB (l.map txK)).map B).toArray) ∧ Below W.heap.size W w') := ⟨fun W a' c' h hb => mroot_any a' n c' (l.map txK) W h hb hm HT.out⟩
  have r32 := rootB_len (l.map txK)
  obtain ⟨D, hD⟩ : ∃ D, D = ((rootB (l.map txK)).map B).toArray := ⟨_, rfl⟩
  have ID : Seal ((Tryz.prog.info? 26).map (·.size) = some D.size ∧ (#[.int .u8 0, .int .u8 0, .int .u8 0, .int .u8 0, .int .u8 0, .int .u8 0, .int .u8 0, .int .u8 0, .int .u8 0, .int .u8 0, .int .u8 0, .int .u8 0, .int .u8 0, .int .u8 0, .int .u8 0, .int .u8 0, .int .u8 0, .int .u8 0, .int .u8 0, .int .u8 0, .int .u8 0, .int .u8 0, .int .u8 0, .int .u8 0, .int .u8 0, .int .u8 0, .int .u8 0, .int .u8 0, .int .u8 0, .int .u8 0, .int .u8 0, .int .u8 0] : Array Value).size = D.size ∧ D.all (·.oneCell') = true) := ⟨by rw [hD, List.size_toArray]; exact dg_info _ r32, by show 32 = D.size; rw [hD, List.size_toArray, List.length_map, r32], by rw [hD]; simp [Value.oneCell']⟩
  rw [← hD] at HM ⊢
  have hXg : w.heap.size + 1 = X.heap.size := hXs.symm
  clear hXb hXz hYb hYn hZb hZc hXZ hwZ hl hG hm hok hi hz0 hz1 hz2 hZ hD r32 hXs hYs hZs
  refine (callsIn_wide (n := 3)).1 ?_
  refine callsIn_of_wp_marks Tryz.func26 rfl trivial ?_ rfl
  simp only [Tryz.ntmps26, List.size_toArray, List.length_cons, List.length_nil, Nat.reduceAdd, Nat.reduceSub, Array.replicate_succ, Array.replicate_zero, List.push_toArray, List.append_toArray, List.nil_append, List.cons_append]
  refine wpIn_wide.2 ?_
  go_upto_region 2 with (fail)
  rw [← hX]
  clear hX hXg
  go_wp2_with fail
  rw [← hY]
  clear hY
  refine HLv.out.mono ?_
  rintro e w1 ⟨rfl, rfl⟩
  clear HLv
  obtain ⟨gy, hgy⟩ : ∃ g, g = Y.heap.size := ⟨_, rfl⟩
  rw [← hgy] at HSeq ⊢
  have HGY := Seal.mk hgy
  clear hgy
  go_wp2_with fail
  refine (wpIn_wide (n := 3)).1 ?_
  refine wpIn_rangeFunc_mem rfl (by decide) (gf := 72) (lb := #[.pointer (some ⟨gy, 0, none⟩)]) rfl trivial (enters_of Tryz.func72 (by kernel_rfl) rfl)
    HSeq.out
    ?mine (fun x => rfl) ?gee
    (fun pre W => (∃ v, AS (l.map txK) X pre v W) ∧ W.heap[w.heap.size]? = some (.cells #[.int .u8 0, .int .u8 0, .int .u8 0, .int .u8 0, .int .u8 0, .int .u8 0, .int .u8 0, .int .u8 0, .int .u8 0, .int .u8 0, .int .u8 0, .int .u8 0, .int .u8 0, .int .u8 0, .int .u8 0, .int .u8 0, .int .u8 0, .int .u8 0, .int .u8 0, .int .u8 0, .int .u8 0, .int .u8 0, .int .u8 0, .int .u8 0, .int .u8 0, .int .u8 0, .int .u8 0, .int .u8 0, .int .u8 0, .int .u8 0, .int .u8 0, .int .u8 0] 26 (0, 0)))
    ?own ?none ⟨⟨_, hA0⟩, HX.out.2.2.2.1⟩
    (fun x => { tmps := #[.slice a n c, undef, .pointer (some ⟨w.heap.size, 0, none⟩), .pointer (some ⟨X.heap.size, 0, none⟩), hdrV x, .slice a n c, .func (.func 72) #[] #[.pointer (some ⟨gy, 0, none⟩)], hdrV x, undef, undef, undef, undef, undef, undef], defers := [] }) ?assign ?body ?done
  case mine =>
    rintro r ⟨hn, off, rfl⟩
    rcases HL.out.at_ with h | ⟨g, o, e, _, hg⟩
    · omega
    · cases e; exact hg
  case gee =>
    rintro sz pre x A B' _ ⟨s, hs, hi⟩ hg ho
    refine ⟨s, hs, hi.grown' hg (fun e => ?_)⟩
    obtain ⟨c, hc⟩ := isB_cell hi (hts.out _ (List.mem_map.2 ⟨s, List.mem_of_getElem? hs, rfl⟩))
    obtain ⟨o, h1, h2⟩ := block_of_cell hc
    obtain ⟨o', h3, h4⟩ := ho
    rw [Option.some.inj e] at h3
    rw [h1] at h3; cases h3; rw [h2] at h4; cases h4
  case own =>
    rintro pre A B' ⟨⟨v, hA⟩, h0⟩ hg ho
    exact ⟨⟨v, hA.grown hts.out hg (fun b' e => by cases e; exact ⟨by have := HX.out; omega, ho⟩)⟩, (hg.block _ (Array.getElem?_eq_some_iff.1 h0).1 (fun e => by have := Option.some.inj e; have := HX.out; omega)).trans h0⟩
  case none =>
    rintro pre A B' ⟨⟨v, hA⟩, h0⟩ hg
    exact ⟨⟨v, hA.grown hts.out hg (fun b' e => by cases e)⟩, (hg.block _ (Array.getElem?_eq_some_iff.1 h0).1 (fun e => by cases e)).trans h0⟩
  case assign =>
    intro t x W K hK
    obtain ⟨xg, xn, xc⟩ := x
    unfold encV
    unfold hdrV at hK
    gi_wp2
    exact hK
  case body =>
    rintro t pre x W0 W _ ⟨⟨v, hA⟩, h0⟩ _ _ ⟨s, hs, hi⟩ hlen
    obtain ⟨xg, xn, xc⟩ := x
    have HT : Seal ((l.map txK)[pre.length]? = some (txK s)) := ⟨by rw [List.getElem?_map, hs]; rfl⟩
    have c0 : W.cell? ⟨X.heap.size, 0, none⟩ = some v := by rw [cell_of_row _ _ _ _ _ _ hA.cell]; rfl
    have HA := Seal.mk hA
    have HS := Seal.mk hs
    have HI2 := Seal.mk hi
    have H0 := Seal.mk h0
    have HO : Seal ((W.alloc (.cells #[.slice (some ⟨xg, 0, none⟩) xn xc] 90)).ownsRow (X.heap.size + 1) 90 1 v pre.length (pre.map hdrV)) := ⟨hA.own.alloc _⟩
    have HN : Seal (∀ j u, [Value.slice (some ⟨xg, 0, none⟩) xn xc][j]? = some u → (W.alloc (.cells #[.slice (some ⟨xg, 0, none⟩) xn xc] 90)).cell? ((⟨W.heap.size, 0, none⟩ : Addr).add j) = some u) := ⟨fun j u hu => by
      rw [Addr.add_lit, cell_of_row _ _ _ _ _ _ (heap_alloc_new W _)]
      simpa using hu⟩
    have hbig := hA.big
    have hpl : pre.length ≤ 1000 := by omega
    clear hA hs hi h0
    unfold hdrV
    gi_wp2_with (refine wpListIn_append_own _ rfl (.tmp 8) (.tmp 10) 61 rfl (X.heap.size + 1) 90 i0 (.slice none 0 0) 1 24 Tryz.underlying61 HI.out.1 HI.out.2.1 HI.out.2.2.1 HI.out.2.2.2 rfl (by decide) v pre.length (pre.map hdrV) rfl HO.out ⟨W.heap.size, 0, none⟩ 1 1 [.slice (some ⟨xg, 0, none⟩) xn xc] rfl rfl HN.out (by simp [Value.oneCell']) (by unfold maxLen; omega) (by omega) (by rw [size_alloc]; omega) ?_; intro v5 w5 hown5 hgrow5 _; have HR := Seal.mk (HA.out.step hts.out (x := (xg, xn, xc)) HT.out HI2.out hown5 hgrow5); obtain ⟨a5, n5, q5, rfl⟩ := slice_form hown5; have c5 := HA.out.cell5 hgrow5; have f5 := HA.out.froz5 hgrow5; clear hown5 hgrow5 c0)
    obtain ⟨r1, r2, r3, r4⟩ := HR.out
    refine ⟨r2, ?_, ⟨s, HS.out, r4⟩, ⟨⟨_, r1⟩, (r3 _ (by have := HX.out; omega)).trans H0.out⟩⟩
    rintro r ⟨hn, off, rfl⟩
    rcases HLw.out.at_ with h | ⟨g, o, e, _, hg⟩
    · omega
    · cases e; exact r3 r (by have := HX.out; omega)
  case done =>
    rintro xs W hS ⟨⟨v, hA⟩, h0⟩ hz hD
    have hn0 : xs.length = (l.map txK).length := by rw [List.length_map, hS, hll]
    have hA' := hA.grown hts.out (grownBy_putObj' W Z.heap.size (.deferred none)) (fun b' e => by cases e; exact ⟨by have := HX.out; omega, _, hD, rfl⟩)
    obtain ⟨a', c', hv, hB⟩ := hA.isBs hn0 (by rw [List.length_map]; omega)
    have hbw : Below w.heap.size w W := HX.out.2.2.2.2.2.trans (hA.bel.mono (by have := HX.out; omega))
    have c0 : W.cell? ⟨X.heap.size, 0, none⟩ = some v := by rw [cell_of_row _ _ _ _ _ _ hA.cell]; rfl
    rw [List.length_map, hll] at hv hB
    subst hv
    have HW : Seal (Below w.heap.size w W ∧ W.heap[w.heap.size]? = some (.cells #[.int .u8 0, .int .u8 0, .int .u8 0, .int .u8 0, .int .u8 0, .int .u8 0, .int .u8 0, .int .u8 0, .int .u8 0, .int .u8 0, .int .u8 0, .int .u8 0, .int .u8 0, .int .u8 0, .int .u8 0, .int .u8 0, .int .u8 0, .int .u8 0, .int .u8 0, .int .u8 0, .int .u8 0, .int .u8 0, .int .u8 0, .int .u8 0, .int .u8 0, .int .u8 0, .int .u8 0, .int .u8 0, .int .u8 0, .int .u8 0, .int .u8 0, .int .u8 0] 26 (0, 0)) ∧ W.heap[Z.heap.size]? = some (.deferred (some []))) := ⟨hbw, h0, hD⟩
    have HC := Seal.mk (HM.out W a' c' (HG.out W hbw) hB)
    clear hA hA' hB hbw h0 hD
    go_wp2_with (first
      | (refine HC.out.mono ?_; rintro e w2 ⟨rfl, hb⟩; have HW2 : Seal (Below w.heap.size w w2 ∧ w2.heap[w.heap.size]? = some (.cells #[.int .u8 0, .int .u8 0, .int .u8 0, .int .u8 0, .int .u8 0, .int .u8 0, .int .u8 0, .int .u8 0, .int .u8 0, .int .u8 0, .int .u8 0, .int .u8 0, .int .u8 0, .int .u8 0, .int .u8 0, .int .u8 0, .int .u8 0, .int .u8 0, .int .u8 0, .int .u8 0, .int .u8 0, .int .u8 0, .int .u8 0, .int .u8 0, .int .u8 0, .int .u8 0, .int .u8 0, .int .u8 0, .int .u8 0, .int .u8 0, .int .u8 0, .int .u8 0] 26 (0, 0)) ∧ w2.heap[Z.heap.size]? = some (.deferred (some []))) := ⟨HW.out.1.trans (hb.mono HW.out.1.size), (hb.block _ (Array.getElem?_eq_some_iff.1 HW.out.2.1).1).trans HW.out.2.1, (hb.block _ (Array.getElem?_eq_some_iff.1 HW.out.2.2).1).trans HW.out.2.2⟩; clear hb c0)
      | (refine wpList_store_row rfl 26 (.tmp 2) (.tmp 13) rfl w.heap.size D rfl rfl 26 #[.int .u8 0, .int .u8 0, .int .u8 0, .int .u8 0, .int .u8 0, .int .u8 0, .int .u8 0, .int .u8 0, .int .u8 0, .int .u8 0, .int .u8 0, .int .u8 0, .int .u8 0, .int .u8 0, .int .u8 0, .int .u8 0, .int .u8 0, .int .u8 0, .int .u8 0, .int .u8 0, .int .u8 0, .int .u8 0, .int .u8 0, .int .u8 0, .int .u8 0, .int .u8 0, .int .u8 0, .int .u8 0, .int .u8 0, .int .u8 0, .int .u8 0, .int .u8 0] HW2.out.2.1 ID.out.1 ID.out.2.1 ID.out.2.2 ?_))
    have hK' : (w2.setRow w.heap.size D).heap[Z.heap.size]? = some (.deferred (some [])) := (setRow_other w2 w.heap.size _ _ (by have := HX.out; omega)).trans HW2.out.2.2
    refine ⟨by simp, .inl ⟨_, _, rfl, run_takeDeferred hK', ?_⟩⟩
    refine ⟨_, results_cell_row (fn := Tryz.f26) rfl _ _ w.heap.size 26 D (0, 0) _ rfl ((World.putObj_heap_other (by have := HX.out; omega)).trans (setRow_heap _ _ _ _ _ _ HW2.out.2.1)) Tryz.underlying26 rfl ID.out.1, rfl, ?_⟩
    exact (below_row HW2.out.1 (Nat.le_refl _) _).trans (belowK_b (w := w) (Nat.le_refl _) _ Z.heap.size _ _ (by have := HX.out; omega) hK' rfl rfl)
end
end Frk
