/- frankingref48: the texts of letters. -/
import Derived.Test.YtllbjakfjpjfnaaGreatDoorVxMka
import Derived.Test.YtllbjakfjpjfnaaGreatDoorVxRel
import Derived.Test.YtllbjakfjpjfnaaGreatDoorVxRap
import Derived.Test.YtllbjakfjpjfnaaGreatDoorVxRsm
import Derived.Test.YtllbjakfjpjfnaaGreatDoorVxgRsg
import Derived.Test.YtllbjakfjpjfnaaGreatDoorVxgHop
namespace Frk
open Go Go.RowKit Go.Proofs
set_option maxRecDepth 100000

set_option maxHeartbeats 2000000 in
theorem rletter_six (x0 x1 x2 x3 x4 x5 : Int) (w : World) (ok : okS [x0, x1, x2, x3, x4, x5]) :
    Calls Tryz.prog 105 #[.agg #[.int .i64 x0, .int .i64 x1, .int .i64 x2, .int .i64 x3, .int .i64 x4, .int .i64 x5]] w fun e w' => ∃ g n c, e = .returned (.slice (some ⟨g, 0, none⟩) n c) ∧ Seal (IsB w' (some ⟨g, 0, none⟩) n c (txL [x0, x1, x2, x3, x4, x5]) ∧ Below w.heap.size w w') := by
  obtain ⟨X, hX⟩ : ∃ X : World, X = w.alloc (.cells #[.int .i64 x0, .int .i64 x1, .int .i64 x2, .int .i64 x3, .int .i64 x4, .int .i64 x5] 118) := ⟨_, rfl⟩
  have hXb : Seal (Below w.heap.size w X) := ⟨by rw [hX]; exact below_alloc _ _⟩
  have OK := Seal.mk ok
  have HN : Seal (Calls Tryz.prog 113 #[.slice (some ⟨X.heap.size, 0, none⟩) 6 6] (X.alloc (.cells #[.int .i64 x0, .int .i64 x1, .int .i64 x2, .int .i64 x3, .int .i64 x4, .int .i64 x5] 3)) (IntsPost (lfs [x0, x1, x2, x3, x4, x5]) 6 (X.alloc (.cells #[.int .i64 x0, .int .i64 x1, .int .i64 x2, .int .i64 x3, .int .i64 x4, .int .i64 x5] 3)))) :=
    ⟨rints_new [x0, x1, x2, x3, x4, x5] 6 X.heap.size X rfl rfl (by decide) (by decide) _ rfl⟩
  have hc : X.heap[w.heap.size]? = some (.cells #[.int .i64 x0, .int .i64 x1, .int .i64 x2, .int .i64 x3, .int .i64 x4, .int .i64 x5] 118 (0, 0)) := by rw [hX]; exact heap_alloc_new w _
  have c0 := (cell_of_row _ _ 0 _ _ _ hc).trans (show _ = some (Value.int .i64 x0) from rfl)
  have c1 := (cell_of_row _ _ 1 _ _ _ hc).trans (show _ = some (Value.int .i64 x1) from rfl)
  have c2 := (cell_of_row _ _ 2 _ _ _ hc).trans (show _ = some (Value.int .i64 x2) from rfl)
  have c3 := (cell_of_row _ _ 3 _ _ _ hc).trans (show _ = some (Value.int .i64 x3) from rfl)
  have c4 := (cell_of_row _ _ 4 _ _ _ hc).trans (show _ = some (Value.int .i64 x4) from rfl)
  have c5 := (cell_of_row _ _ 5 _ _ _ hc).trans (show _ = some (Value.int .i64 x5) from rfl)
  clear ok hc
  go_enter Tryz.func105, Tryz.ntmps105
  go_upto_region 1 with (fail)
  rw [← hX]
  clear hX
  go_wp2_with fail
  refine HN.out.mono ?_
  rintro e w2 ⟨g2, cp, rfl, hO, hb2⟩
  have hbX : Below X.heap.size X w2 := (below_alloc X _).trans (hb2.mono (by rw [size_alloc]; omega))
  have HB2 : Seal (Below w.heap.size w w2) := ⟨hXb.out.trans (hbX.mono hXb.out.size)⟩
  have HE := Seal.mk (rencode_any g2 0 6 cp (lfs [x0, x1, x2, x3, x4, x5]) w2 rfl hO.out.1 (by rw [wgts_lfs]; simp) hO.out.2.2.1 hO.out.2.1 (by
    intro y hy
    obtain ⟨z, hz, rfl⟩ := List.mem_map.1 hy
    exact OK.out.2 z hz))
  have HO := hO
  clear c0 c1 c2 c3 c4 c5 hbX hb2 hO HN
  go_wp2_with fail
  refine HE.out.mono ?_
  rintro e w3 ⟨g3, n3, c3, rfl, hS⟩
  have hl := txL_len OK.out
  have e0 : encL (lfs [x0, x1, x2, x3, x4, x5]) = txL [x0, x1, x2, x3, x4, x5] := rfl
  rw [e0] at hS
  have hn := hS.out.len
  have HF : Seal (IsB w3 (some ⟨g3, 0, none⟩) n3 c3 (txL [x0, x1, x2, x3, x4, x5]) ∧ Below w.heap.size w w3) := ⟨hS.out.isB (by omega), HB2.out.trans (hS.out.bel.mono HB2.out.size)⟩
  clear hl hn e0 hS HE
  go_wp2
  go_ret
  exact ⟨g3, n3, c3, rfl, HF⟩

/-- the texts so far -/
structure LS (ts : List Bytes) (w0 : World) (hs : List (Nat × Nat × Nat)) (v : Value) (W : World) : Prop where
  own : W.ownsRow w0.heap.size 52 1 v hs.length (hs.map hdrV)
  small : hs = [] → ∃ g, v = .slice (some ⟨g, 0, none⟩) 0 0
  bel : Below w0.heap.size w0 W
  txt : ∀ (j : Nat) (x : Nat × Nat × Nat), hs[j]? = some x → ∃ t, ts[j]? = some t ∧ IsB W (some ⟨x.1, 0, none⟩) x.2.1 x.2.2 t

theorem LS.apart {ts : List Bytes} {w0 : World} {hs : List (Nat × Nat × Nat)} {v : Value} {W : World} (h : LS ts w0 hs v W) {g m c : Nat} {t : Bytes} (hi : IsB W (some ⟨g, 0, none⟩) m c t) (h0 : 0 < t.length) : v.ownBlock ≠ some g := by
  obtain ⟨x, hx⟩ := isB_cell hi h0
  intro e
  match hp : hs with
  | [] =>
    obtain ⟨g0, rfl⟩ := h.small rfl
    rcases h.own.2 with ⟨e1, _⟩ | ⟨g', cap, cur, e1, _, hgc, _, _, hcs, _⟩
    · cases e1
    · cases e1
      have : g0 = g := by simpa [Value.ownBlock] using e
      subst this
      rw [cell_of_row _ _ _ _ _ _ hgc] at hx
      have := (Array.getElem?_eq_some_iff.1 hx).1
      omega
  | y :: hs' =>
    have hc := h.own.cells (g := g) e
    have := hc 0 (hdrV y) (by simp)
    rw [Addr.add_lit, Nat.add_zero, hx] at this
    cases this

theorem LS.later {ts : List Bytes} {w0 : World} {hs : List (Nat × Nat × Nat)} {v : Value} {W W' : World} (h : LS ts w0 hs v W) (hb : Below W.heap.size W W') : LS ts w0 hs v W' :=
  ⟨ownsRow_below h.own hb, h.small, h.bel.trans (hb.mono h.bel.size), fun j x hx => by
    obtain ⟨t, ht, hi⟩ := h.txt j x hx
    exact ⟨t, ht, hi.later hb⟩⟩

theorem LS.step {ts : List Bytes} (hts : ∀ t ∈ ts, 0 < t.length) {w0 W w5 : World} {hs : List (Nat × Nat × Nat)} {v v5 : Value} {x : Nat × Nat × Nat} {t : Bytes} (h : LS ts w0 hs v W) (ht : ts[hs.length]? = some t) (hi : IsB W (some ⟨x.1, 0, none⟩) x.2.1 x.2.2 t)
    (hown : w5.ownsRow w0.heap.size 52 1 v5 (hs.length + 1) (hs.map hdrV ++ [hdrV x])) (hg : (W.alloc (.cells #[hdrV x] 52)).grownBy w5 v.ownBlock) :
    LS ts w0 (hs ++ [x]) v5 w5 := by
  have hbz := h.bel.size
  have vlt := h.own.lt
  have hga : W.grownBy (W.alloc (.cells #[hdrV x] 52)) none := World.grownBy_alloc W _ none
  have mv : ∀ {g m c : Nat} {t : Bytes}, 0 < t.length → IsB W (some ⟨g, 0, none⟩) m c t → IsB w5 (some ⟨g, 0, none⟩) m c t := by
    intro g m c t h0 hi
    exact (hi.grown' hga (by simp)).grown' hg (h.apart hi h0)
  refine ⟨by rw [List.length_append, List.map_append]; exact hown, by simp, (h.bel.alloc (by omega) _).grown hg (by rw [size_alloc]; omega) (fun k e => (vlt k e).1), ?_⟩
  intro j y hy
  by_cases hj : j < hs.length
  · rw [List.getElem?_append_left hj] at hy
    obtain ⟨t', ht', hi'⟩ := h.txt j y hy
    exact ⟨t', ht', mv (hts t' (List.mem_of_getElem? ht')) hi'⟩
  · have hj2 := (List.getElem?_eq_some_iff.1 hy).1
    rw [List.length_append] at hj2
    simp at hj2
    obtain rfl : j = hs.length := by omega
    rw [List.getElem?_append_right (Nat.le_refl _), Nat.sub_self] at hy
    simp at hy
    subst hy
    exact ⟨t, ht, mv (hts t (List.mem_of_getElem? ht)) hi⟩

theorem LS.isBs {ts : List Bytes} {w0 W : World} {hs : List (Nat × Nat × Nat)} {v : Value} (h : LS ts w0 hs v W) (hn : hs.length = ts.length) (hm : ts.length ≤ 1000) : ∃ a' c', v = .slice a' ts.length c' ∧ IsBs W a' ts.length c' ts := by
  rcases h.own.2 with ⟨rfl, hz⟩ | ⟨g, cap, cur, rfl, _, hgc, hnc, hcm, _, _⟩
  · exact ⟨none, 0, by rw [← hn, hz], rfl, by omega, hm, by decide, .inl (by omega)⟩
  · refine ⟨some ⟨g, 0, none⟩, cap, by rw [hn], rfl, by omega, hm, by unfold maxLen at hcm; omega, .inr ⟨g, 0, rfl, (Array.getElem?_eq_some_iff.1 hgc).1, fun j t ht => ?_⟩⟩
    have hj := (List.getElem?_eq_some_iff.1 ht).1
    obtain ⟨x, hx⟩ : ∃ x, hs[j]? = some x := ⟨_, List.getElem?_eq_getElem (by omega)⟩
    obtain ⟨t', ht', hi⟩ := h.txt j x hx
    rw [ht] at ht'
    cases ht'
    refine ⟨x.1, x.2.1, x.2.2, ?_, hi⟩
    have := h.own.cells (g := g) rfl j (hdrV x) (by rw [List.getElem?_map, hx]; rfl)
    rw [Addr.add_lit] at this
    exact this

theorem ownsRow_empty (w : World) (base : Nat) (t : TypeId) (size : Nat) (hb : base ≤ w.heap.size) : (w.alloc (.cells #[] t)).ownsRow base t size (.slice (some ⟨w.heap.size, 0, none⟩) 0 0) 0 [] :=
  ⟨by simp, .inr ⟨w.heap.size, 0, #[], rfl, hb, heap_alloc_new w _, Nat.le_refl _, by decide, by simp, by simp⟩⟩

set_option maxHeartbeats 4000000 in
theorem rletters_any (a : Option Addr) (n cap : Nat) (l : List (List Int)) (w : World) (hl : IsL w a n cap l) :
    Calls Tryz.prog 87 #[.slice a n cap] w fun e w' => ∃ a' c', e = .returned (.slice a' n c') ∧ Seal (IsBs w' a' n c' (l.map txL) ∧ Below w.heap.size w w') := by
  have HL := Seal.mk hl
  have hll := hl.llen
  have hmx := hl.lmax
  have hts : Seal (∀ t ∈ l.map txL, 0 < t.length) := ⟨by
    intro t ht
    obtain ⟨s, hs, rfl⟩ := List.mem_map.1 ht
    exact (txL_len (hl.each s hs)).1⟩
  obtain ⟨i0, hi, hz0, hz1, hz2⟩ := info_parts (show (Tryz.prog.info? 52).map (fun i => (i.zero, i.size, i.bytes)) = some (some (.slice none 0 0), 1, 24) by kernel_rfl)
  have HI := Seal.mk (And.intro hi (And.intro hz0 (And.intro hz1 hz2)))
  have H0 : Seal (LS (l.map txL) w [] (.slice (some ⟨w.heap.size, 0, none⟩) 0 0) (w.alloc (.cells #[] 52))) := ⟨⟨ownsRow_empty w _ _ _ (Nat.le_refl _), fun _ => ⟨_, rfl⟩, below_alloc _ _, fun j x h => by simp at h⟩⟩
  clear hl hi hz0 hz1 hz2
  go_enter Tryz.func87, Tryz.ntmps87
  go_wp2
  go_loopw [3, 4] (fun u i wr => ∃ (k : Nat) (hs : List (Nat × Nat × Nat)) (v : Value), k ≤ n ∧ v = u ∧ i = .int .i64 k ∧ hs.length = k ∧ Seal (LS (l.map txL) w hs v wr)) (fun _ i _ => n - (intOf i).toNat)
  case atStart => exact ⟨0, [], _, by omega, rfl, rfl, rfl, H0⟩
  case round =>
    obtain ⟨wo, rfl⟩ : ∃ z, z = wr := ⟨_, rfl⟩
    obtain ⟨k, hs, v, hk, rfl, rfl, hhs, hH⟩ := hrel
    by_cases hlt : k < n
    · rcases (HL.out.of_heap hH.out.bel).at_ with hz | ⟨g, off, rfl, hr, hg⟩
      · omega
      · obtain ⟨s, hs'⟩ : ∃ s, l[k]? = some s := ⟨_, List.getElem?_eq_getElem (by omega)⟩
        have ok := HL.out.each s (List.mem_of_getElem? hs')
        obtain ⟨x0, x1, x2, x3, x4, x5, rfl⟩ := six_of ok.1
        have q5 : (k : Int) < (n : Int) := by omega
        have q6 : (0 : Int) ≤ (k : Int) := by omega
        have c0 := cell_letter hr HL.out.each hs' (j := 0) rfl
        have c1 := cell_letter hr HL.out.each hs' (j := 1) rfl
        have c2 := cell_letter hr HL.out.each hs' (j := 2) rfl
        have c3 := cell_letter hr HL.out.each hs' (j := 3) rfl
        have c4 := cell_letter hr HL.out.each hs' (j := 4) rfl
        have c5 := cell_letter hr HL.out.each hs' (j := 5) rfl
        have OK := Seal.mk ok
        have HT : Seal ((l.map txL)[hs.length]? = some (txL [x0, x1, x2, x3, x4, x5])) := ⟨by rw [hhs, List.getElem?_map, hs']; rfl⟩
        have HLt := Seal.mk (rletter_six x0 x1 x2 x3 x4 x5 wo ok)
        have HK : Seal (hs.length = k ∧ hs.length ≤ 1000) := ⟨hhs, by omega⟩
        clear hr hg ok hs' hhs
        rw [Nat.add_zero] at c0
        go_wp2_with fail
        refine HLt.out.mono ?_
        rintro e w3 ⟨g3, n3, c3', rfl, hP⟩
        have HA := Seal.mk (hH.out.later hP.out.2)
        have HI3 := Seal.mk hP.out.1
        have HO : Seal ((w3.alloc (.cells #[.slice (some ⟨g3, 0, none⟩) n3 c3'] 52)).ownsRow w.heap.size 52 1 v hs.length (hs.map hdrV)) := ⟨HA.out.own.alloc _⟩
        have HN : Seal (∀ j u, [Value.slice (some ⟨g3, 0, none⟩) n3 c3'][j]? = some u → (w3.alloc (.cells #[.slice (some ⟨g3, 0, none⟩) n3 c3'] 52)).cell? ((⟨w3.heap.size, 0, none⟩ : Addr).add j) = some u) := ⟨fun j u hu => by
          rw [Addr.add_lit, cell_of_row _ _ _ _ _ _ (heap_alloc_new w3 _)]
          simpa using hu⟩
        have HZ : Seal (w.heap.size ≤ w3.heap.size) := ⟨HA.out.bel.size⟩
        clear hP c0 c1 c2 c3 c4 c5 hH HLt
        go_wp2_with (at_builtin; refine wpList_append_own _ rfl (.tmp 12) (.tmp 18) 82 rfl w.heap.size 52 i0 (.slice none 0 0) 1 24 Tryz.underlying82 HI.out.1 HI.out.2.1 HI.out.2.2.1 HI.out.2.2.2 rfl (by decide) v hs.length (hs.map hdrV) rfl HO.out ⟨w3.heap.size, 0, none⟩ 1 1 [.slice (some ⟨g3, 0, none⟩) n3 c3'] rfl rfl HN.out (by simp [Value.oneCell']) (by have := HK.out; unfold maxLen; omega) (by have := HK.out; omega) (by rw [size_alloc]; have := HZ.out; omega) ?_; intro v5 w5 hown5 hgrow5 _; have HR := Seal.mk (HA.out.step hts.out (x := (g3, n3, c3')) HT.out HI3.out hown5 hgrow5); clear hown5 hgrow5)
        go_roundw
        case rel => exact ⟨k + 1, hs ++ [(g3, n3, c3')], v5, by omega, rfl, by go_num, by rw [List.length_append, HK.out.1]; rfl, HR⟩
        case measure => simp [intOf]; omega
    · obtain rfl : k = n := by omega
      have q5 : ¬ (k : Int) < (k : Int) := by omega
      obtain ⟨a', c', hv, hB⟩ := hH.out.isBs (by rw [List.length_map]; omega) (by rw [List.length_map]; omega)
      have HF := Seal.mk (And.intro hB hH.out.bel)
      rw [List.length_map, hll] at hv HF
      subst hv
      clear hB hH
      go_wp2_with fail
      go_ret
      exact ⟨a', c', rfl, HF⟩

def TxPost (l : Bytes) (w : World) (e : Ending) (w' : World) : Prop := ∃ g n c, e = .returned (.slice (some ⟨g, 0, none⟩) n c) ∧ Seal (IsB w' (some ⟨g, 0, none⟩) n c l ∧ Below w.heap.size w w')

theorem run_append_st (w0 w : World) (g n cap : Nat) (l : Bytes) (hS : Stg w0 w g n cap l) (a : Option Addr) (m c : Nat) (l2 : Bytes) (hb : IsB w a m c l2) (hle : n + m ≤ 140737488355328) (ty : TypeId) :
    ∃ g' cap' w', (Builtin.append_ #[52, 52] ty #[.slice (some ⟨g, 0, none⟩) n cap, .slice a m c]).run Tryz.prog w = .ok (.slice (some ⟨g', 0, none⟩) (n + m) cap') w' ∧ Stg w0 w' g' (n + m) cap' (l ++ l2) ∧ Below w0.heap.size w w' := by
  obtain ⟨g', cap', w', hr, h1, h2, _⟩ := run_append_b w w0.heap.size g n cap l hS.own hS.len a m c l2 hb hle hS.bel.size ty
  have hbw : Below w0.heap.size w w' := below_own (n := n) (hS.own.len hS.len) hS.bel.size h2
  exact ⟨g', cap', w', hr, ⟨h1, by rw [List.length_append, hS.len, hb.llen], hS.bel.trans hbw⟩, hbw⟩

set_option maxHeartbeats 2000000 in
theorem rtext07_any (tag : ByteArray) (a : Option Addr) (len cap : Nat) (l : Bytes) (w : World) (hb : IsB w a len cap l) (ht2 : tag.size ≤ 64) (hm : len + 200 ≤ 140737488355328) :
    Calls Tryz.prog 111 #[.string tag, .slice a len cap] w (TxPost (sha tag.data.toList ++ l) w) := by
  obtain ⟨ct, W1, hrun, hW1⟩ := conv_str w tag (by omega)
  have HB := Seal.mk hb
  have HL := Seal.mk hb.llen
  have hsz1 := hW1.out.2.2.2.2
  have HC1 := Seal.mk (rsum_any (some ⟨w.heap.size, 0, none⟩) tag.size ct tag.data.toList W1 ⟨by simp, hW1.out.2.2.1, by omega, hW1.out.2.2.2.1, .inr ⟨_, _, rfl, hW1.out.2.1, by omega⟩⟩ (by omega))
  have HD1 : Seal ((Tryz.prog.info? 42).map (·.size) = some ((sha tag.data.toList).map B).length) := ⟨sha_info _⟩
  have HD2 : Seal (((sha tag.data.toList).map B).length = 32) := ⟨by rw [List.length_map, sha_length]⟩
  have HD3 : Seal (∀ u ∈ (sha tag.data.toList).map B, u.oneCell' = true) := ⟨by simp [Value.oneCell']⟩
  obtain ⟨S, hS⟩ : ∃ S, S = sha tag.data.toList := ⟨_, rfl⟩
  have s32 : Seal (S.length = 32) := ⟨by rw [hS]; exact sha_length _⟩
  rw [← hS] at HD1 HD2 HD3 HC1 ⊢
  clear hb hsz1 hS
  go_enter Tryz.func111, Tryz.ntmps111
  go_wp2_with fail
  refine HC1.out.mono ?_
  rintro e w2 ⟨rfl, hb2⟩
  have HB2 : Seal (Below w.heap.size w w2) := ⟨hW1.out.1.trans (hb2.mono hW1.out.1.size)⟩
  obtain ⟨Y, hY⟩ : ∃ Y : World, Seal (Y = w2.alloc (.cells (S.map B).toArray 42)) := ⟨_, ⟨rfl⟩⟩
  have hYb : Seal (Below w.heap.size w Y) := ⟨by rw [hY.out]; exact HB2.out.alloc HB2.out.size _⟩
  have hYd : Seal (IsB Y (some ⟨w2.heap.size, 0, none⟩) 32 32 S) := ⟨by rw [hY.out]; exact isB_new w2 _ 32 _ (0, 0) s32.out (by decide)⟩
  have hS0 : Seal (Stg Y (Y.alloc (.cells #[] 5)) Y.heap.size 0 0 []) := ⟨stg_new Y [] 0 rfl (by decide)⟩
  have hI0 : Seal (IsB (Y.alloc (.cells #[] 5)) (some ⟨w2.heap.size, 0, none⟩) 32 32 S) := ⟨hYd.out.below (below_alloc _ _)⟩
  clear hb2 hrun hW1 HC1
  go_wp2_with (first
    | (refine wpList_store_new rfl 42 (.tmp 5) (.tmp 8) rfl ([.int .u8 0, .int .u8 0, .int .u8 0, .int .u8 0, .int .u8 0, .int .u8 0, .int .u8 0, .int .u8 0, .int .u8 0, .int .u8 0, .int .u8 0, .int .u8 0, .int .u8 0, .int .u8 0, .int .u8 0, .int .u8 0, .int .u8 0, .int .u8 0, .int .u8 0, .int .u8 0, .int .u8 0, .int .u8 0, .int .u8 0, .int .u8 0, .int .u8 0, .int .u8 0, .int .u8 0, .int .u8 0, .int .u8 0, .int .u8 0, .int .u8 0, .int .u8 0] : List Value) (S.map B) 42 rfl rfl HD1.out HD2.out.symm HD3.out ?_; rw [← hY.out])
    | (at_builtin; refine wpList_append_st rfl (.tmp 9) (.tmp 10) rfl Y Y.heap.size 0 0 [] (some ⟨w2.heap.size, 0, none⟩) 32 32 S rfl rfl hS0 hI0 (by omega) ?_
       intro g1 cap1 w3 hS3 _ _
       rw [Nat.zero_add] at hS3 ⊢
       rw [List.nil_append] at hS3
       have hI3 : Seal (IsB w3 a len cap l) := ⟨(HB.out.below hYb.out).below hS3.out.bel⟩
       clear hS0 hI0)
    | (at_builtin; refine wpList_append_st rfl (.tmp 11) (.tmp 12) rfl Y g1 32 cap1 S a len cap l rfl rfl hS3 hI3 (by omega) ?_
       intro g4 cap4 w4 hS4 _ _
       clear hS3 hI3))
  go_ret
  exact ⟨g4, 32 + len, cap4, rfl, ⟨hS4.out.isB (by omega), hYb.out.trans (hS4.out.bel.mono hYb.out.size)⟩⟩

set_option maxHeartbeats 2000000 in
theorem rtwo_any (x y : Bytes) (w : World) (hx : x.length = 32) (hy : y.length = 32) :
    Calls Tryz.prog 112 #[.agg (x.map B).toArray, .agg (y.map B).toArray] w (TxPost (sha tgNode ++ (x ++ y)) w) := by
  obtain ⟨CX, hCX⟩ : ∃ C, C = x.map B := ⟨_, rfl⟩
  obtain ⟨CY, hCY⟩ : ∃ C, C = y.map B := ⟨_, rfl⟩
  obtain ⟨X, hX⟩ : ∃ X : World, X = (w.alloc (.cells CX.toArray 42)).alloc (.cells CY.toArray 42) := ⟨_, rfl⟩
  have hXb : Seal (Below w.heap.size w X) := ⟨by rw [hX]; exact ((Below.refl _ w).alloc (Nat.le_refl _) _).alloc (by simp) _⟩
  have rx : X.rangeAt w.heap.size 0 (x.map B) := by rw [hX, hCX]; exact World.rangeAt_alloc (rangeAt_row (heap_alloc_new w _)) _
  have ry : X.rangeAt (w.heap.size + 1) 0 (y.map B) := by
    rw [hX, hCY]
    have := heap_alloc_new (w.alloc (.cells CX.toArray 42)) (.cells (y.map B).toArray 42)
    rw [size_alloc] at this
    exact rangeAt_row this
  have hz : X.heap.size = w.heap.size + 2 := by rw [hX]; simp
  have HIx : Seal (IsB X (some ⟨w.heap.size, 0, none⟩) 32 32 x) := ⟨⟨hx, Nat.le_refl _, by decide, by decide, .inr ⟨_, 0, rfl, rx, by omega⟩⟩⟩
  have HIy : Seal (IsB X (some ⟨w.heap.size + 1, 0, none⟩) 32 32 y) := ⟨⟨hy, Nat.le_refl _, by decide, by decide, .inr ⟨_, 0, rfl, ry, by omega⟩⟩⟩
  obtain ⟨S, hS⟩ : ∃ S, S = sha tgNode ++ (x ++ y) := ⟨_, rfl⟩
  have HC : Seal (∀ W g c, IsB W (some ⟨g, 0, none⟩) 64 c (x ++ y) → Calls Tryz.prog 111 #[.string ⟨#[110, 111, 100, 101]⟩, .slice (some ⟨g, 0, none⟩) 64 c] W (TxPost S W)) := ⟨by
    intro W g c hI
    have h := rtext07_any ⟨#[110, 111, 100, 101]⟩ (some ⟨g, 0, none⟩) 64 c (x ++ y) W hI (by decide) (by decide)
    have eT : (⟨#[110, 111, 100, 101]⟩ : ByteArray).data.toList = tgNode := rfl
    rw [eT, ← hS] at h
    exact h⟩
  rw [← hS, ← hCX, ← hCY]
  clear hx hy hCX hCY rx ry hz hS
  go_enter Tryz.func112, Tryz.ntmps112
  go_upto_region 1 with (fail)
  rw [← hX]
  clear hX
  have ul := Tryz.underlying42
  refine wp_region_held_drew (S := fun _ => True) (by kernel_rfl) trivial (fun hHeld => ?_)
  obtain ⟨V, hV⟩ : ∃ V, V = X.drew := ⟨_, rfl⟩
  have HV : Seal (Below X.heap.size X V) := ⟨by rw [hV]; exact below_drewn X⟩
  rw [← hV]
  clear hV
  refine take_h 1 ?_ rfl (by kernel_rfl) (by kernel_rfl) (by kernel_rfl) (fun _ _ _ h => h) (Or.inl ⟨by kernel_rfl, ?_⟩) (by assumption) ?_
  rotate_left
  · (intro w hSw; (try dsimp only at hSw); go_simp; try (with_reducible rfl))
  try simp only [Act.put, List.setIfInBounds_toArray, List.set_cons_zero, List.set_cons_succ]
  refine take_h 3 ?_ rfl (by kernel_rfl) (by kernel_rfl) (by kernel_rfl) (fun _ _ _ h => h) (Or.inl ⟨by kernel_rfl, ?_⟩) (by assumption) ?_
  rotate_left
  · (intro w hSw; (try dsimp only at hSw); go_simp; try (with_reducible rfl))
  try simp only [Act.put, List.setIfInBounds_toArray, List.set_cons_zero, List.set_cons_succ]
  refine oper_h 0 (.slice (some ⟨V.heap.size, 0, none⟩) 0 0) (V.alloc (.cells #[] 5)) rfl (by kernel_rfl) (by kernel_rfl) (by go_simp) trivial (fun _ => ?_)
  try simp only [Act.put, List.setIfInBounds_toArray, List.set_cons_zero, List.set_cons_succ]
  have hS0 : Stg V (V.alloc (.cells #[] 5)) V.heap.size 0 0 [] := stg_new V [] 0 rfl (by decide)
  have hV1 : Below X.heap.size X (V.alloc (.cells #[] 5)) := HV.out.alloc HV.out.size _
  obtain ⟨g1, c1, w1, hr1, hS1, _⟩ := run_append_st V _ V.heap.size 0 0 [] hS0 (some ⟨w.heap.size, 0, none⟩) 32 32 x (HIx.out.later hV1) (by decide) 52
  rw [Nat.zero_add] at hr1 hS1
  rw [List.nil_append] at hS1
  refine oper_h 2 (.slice (some ⟨g1, 0, none⟩) 32 c1) w1 rfl (by kernel_rfl) (by kernel_rfl) (exec_append1 (.tmp 5) (.tmp 6) 52 52 52 rfl rfl _ _ _ rfl rfl hr1) trivial (fun _ => ?_)
  try simp only [Act.put, List.setIfInBounds_toArray, List.set_cons_zero, List.set_cons_succ]
  have hV2 : Below X.heap.size X w1 := HV.out.trans (hS1.bel.mono HV.out.size)
  obtain ⟨g2, c2, w2, hr2, hS2, _⟩ := run_append_st V _ g1 32 c1 x hS1 (some ⟨w.heap.size + 1, 0, none⟩) 32 32 y (HIy.out.later hV2) (by decide) 52
  have hV3 : Below X.heap.size X w2 := HV.out.trans (hS2.bel.mono HV.out.size)
  refine oper_h 4 (.slice (some ⟨g2, 0, none⟩) 64 c2) w2 rfl (by kernel_rfl) (by kernel_rfl) (exec_append1 (.tmp 7) (.tmp 8) 52 52 52 rfl rfl _ _ _ rfl rfl hr2) trivial (fun _ => ?_)
  try simp only [Act.put, List.setIfInBounds_toArray, List.set_cons_zero, List.set_cons_succ]
  refine call_h 5 rfl (by kernel_rfl) 111 #[.string ⟨#[110, 111, 100, 101]⟩, .slice (some ⟨g2, 0, none⟩) 64 c2] (by kernel_rfl) (by go_simp) ?_
  refine (HC.out w2 g2 c2 (hS2.isB (by decide))).mono ?_
  rintro e w3 ⟨g3, n3, c3, rfl, hf⟩
  have HF : Seal (IsB w3 (some ⟨g3, 0, none⟩) n3 c3 S ∧ Below w.heap.size w w3) := ⟨hf.out.1, (hXb.out.trans (hV3.mono hXb.out.size)).trans (hf.out.2.mono (by have := hXb.out.size; have := hV3.size; omega))⟩
  refine ⟨_, rfl, trivial, fun _ => ?_⟩
  clear hS0 hS1 hS2 hr1 hr2 hV1 hV2 hV3 hf
  try simp only [Act.put, List.setIfInBounds_toArray, List.set_cons_zero, List.set_cons_succ]
  refine take_h 6 ?_ rfl (by kernel_rfl) (by kernel_rfl) (by kernel_rfl) (fun _ _ _ h => h) (Or.inl ⟨by kernel_rfl, ?_⟩) (by assumption) ?_
  rotate_left
  · (intro w hSw; (try dsimp only at hSw); go_simp; try (with_reducible rfl))
  try simp only [Act.put, List.setIfInBounds_toArray, List.set_cons_zero, List.set_cons_succ]
  refine wpAnyH_done (by kernel_rfl) ?_ _
  go_wp2
  go_ret
  exact ⟨g3, n3, c3, rfl, HF⟩

def RowPost (l : List Bytes) (w : World) (e : Ending) (w' : World) : Prop := ∃ v, e = .returned v ∧ Seal (w'.ownsRow w.heap.size 42 32 v l.length (dcells l) ∧ Below w.heap.size w w')

set_option maxHeartbeats 4000000 in
theorem rfirst_any (a : Option Addr) (n cap : Nat) (ts : List Bytes) (w : World) (hl : IsBs w a n cap ts) (hm : n ≤ 100) (ht : ∀ t ∈ ts, 0 < t.length ∧ t.length ≤ 1000) :
    Calls Tryz.prog 103 #[.slice a n cap] w (RowPost (ts.map leafD) w) := by
  have HL := Seal.mk hl
  have hll := hl.llen
  have HT := Seal.mk ht
  obtain ⟨R, hR⟩ : ∃ R, R = ts.map leafD := ⟨_, rfl⟩
  have HR := Seal.mk hR
  have HRl : Seal (R.length = n) := ⟨by rw [hR, List.length_map, hll]⟩
  obtain ⟨i0, hi, hz0, hz1, hz2⟩ := info_parts info_dgm
  have HI := Seal.mk (And.intro hi (And.intro hz0 (And.intro hz1 hz2)))
  have H0 : Seal ((w.alloc (.cells #[] 42)).ownsRow w.heap.size 42 32 (.slice (some ⟨w.heap.size, 0, none⟩) 0 0) 0 (dcells (R.take 0)) ∧ Below w.heap.size w (w.alloc (.cells #[] 42))) := ⟨by rw [List.take_zero]; exact ownsRow_empty w _ _ _ (Nat.le_refl _), below_alloc _ _⟩
  rw [← hR]
  clear hl hi hz0 hz1 hz2 ht hR
  go_enter Tryz.func103, Tryz.ntmps103
  go_wp2
  go_loopw [3, 4] (fun u i wr => ∃ (k : Nat) (v : Value), k ≤ n ∧ v = u ∧ i = .int .i64 k ∧ Seal (wr.ownsRow w.heap.size 42 32 v k (dcells (R.take k)) ∧ Below w.heap.size w wr)) (fun _ i _ => n - (intOf i).toNat)
  case atStart => exact ⟨0, _, by omega, rfl, rfl, H0⟩
  case round =>
    obtain ⟨wo, rfl⟩ : ∃ z, z = wr := ⟨_, rfl⟩
    obtain ⟨k, v, hk, rfl, rfl, hH⟩ := hrel
    by_cases hlt : k < n
    · rcases (HL.out.of_heap hH.out.2).at_ with hz | ⟨g, off, rfl, hg, hr⟩
      · omega
      · obtain ⟨t, htk⟩ : ∃ t, ts[k]? = some t := ⟨_, List.getElem?_eq_getElem (by omega)⟩
        obtain ⟨tb, tm, tc, hc, hI⟩ := hr k t htk
        have htl := HT.out t (List.mem_of_getElem? htk)
        have q5 : (k : Int) < (n : Int) := by omega
        have q6 : (0 : Int) ≤ (k : Int) := by omega
        have hIl := hI.llen
        have HX0 := rtext07_any ⟨#[108, 101, 97, 102]⟩ (some ⟨tb, 0, none⟩) tm tc t wo hI (by decide) (by omega)
        have eT : (⟨#[108, 101, 97, 102]⟩ : ByteArray).data.toList = tgLeaf := rfl
        rw [eT] at HX0
        have HTk : Seal (R.take (k + 1) = R.take k ++ [leafD t]) := ⟨by rw [HR.out, List.take_add_one, List.getElem?_map, htk]; rfl⟩
        obtain ⟨S, hS⟩ : ∃ S, S = sha tgLeaf ++ t := ⟨_, rfl⟩
        have eS : leafD t = sha S := by rw [hS, leafD]
        have lS : S.length ≤ 2000 := by rw [hS, List.length_append, sha_length]; omega
        rw [← hS] at HX0
        rw [eS] at HTk
        obtain ⟨D, hD⟩ : ∃ D, D = sha S := ⟨_, rfl⟩
        have d32 : D.length = 32 := by rw [hD]; exact sha_length _
        have HSum : Seal (∀ W g m c, IsB W (some ⟨g, 0, none⟩) m c S → Calls Tryz.prog 85 #[.slice (some ⟨g, 0, none⟩) m c] W fun e w' => e = .returned (.agg (D.map B).toArray) ∧ Below W.heap.size W w') := ⟨fun W g m c hb => by
          rw [hD]
          exact rsum_any (some ⟨g, 0, none⟩) m c S W hb (by have := hb.llen; omega)⟩
        rw [← hD] at HTk
        have HX := Seal.mk HX0
        have hk100 : k ≤ 100 := by omega
        clear hr hg htk hI htl hIl HX0 eT hS eS lS hD
        go_wp2_with fail
        refine HX.out.mono ?_
        rintro e w3 ⟨g3, n3, c3, rfl, hP⟩
        have hB3 := hH.out.2.trans (hP.out.2.mono hH.out.2.size)
        have HO3 : Seal (w3.ownsRow w.heap.size 42 32 v k (dcells (R.take k))) := ⟨ownsRow_below hH.out.1 hP.out.2⟩
        have HS3 := Seal.mk (HSum.out w3 g3 n3 c3 hP.out.1)
        have HB3 := Seal.mk hB3
        clear hP hB3 HX HSum hH
        go_wp2_with fail
        refine HS3.out.mono ?_
        rintro e w4 ⟨rfl, hb4⟩
        have hF := fold_all (L := D.map B) (Z := ([.int .u8 0, .int .u8 0, .int .u8 0, .int .u8 0, .int .u8 0, .int .u8 0, .int .u8 0, .int .u8 0, .int .u8 0, .int .u8 0, .int .u8 0, .int .u8 0, .int .u8 0, .int .u8 0, .int .u8 0, .int .u8 0, .int .u8 0, .int .u8 0, .int .u8 0, .int .u8 0, .int .u8 0, .int .u8 0, .int .u8 0, .int .u8 0, .int .u8 0, .int .u8 0, .int .u8 0, .int .u8 0, .int .u8 0, .int .u8 0, .int .u8 0, .int .u8 0] : List Value)) (by simp [d32])
        have HO : Seal ((w4.alloc (.cells (D.map B).toArray 42)).ownsRow w.heap.size 42 32 v k (dcells (R.take k))) := ⟨(ownsRow_below HO3.out hb4).alloc _⟩
        have HNw : Seal (∀ j u, (D.map B)[j]? = some u → (w4.alloc (.cells (D.map B).toArray 42)).cell? ((⟨w4.heap.size, 0, none⟩ : Addr).add j) = some u) := ⟨fun j u hu => by
          rw [Addr.add_mid]; exact rangeAt_row (heap_alloc_new w4 _) j u hu⟩
        have HB4 : Seal (Below w.heap.size w (w4.alloc (.cells (D.map B).toArray 42))) := ⟨(HB3.out.trans (hb4.mono HB3.out.size)).alloc (Nat.le_trans HB3.out.size hb4.size) _⟩
        have LD : Seal ((D.map B).length = 1 * 32) := ⟨by rw [List.length_map, d32]⟩
        clear hb4 HS3 HO3 HB3
        go_wp2_with (at_builtin; refine wpList_append_own _ rfl (.tmp 12) (.tmp 19) 24 rfl w.heap.size 42 i0 _ 32 32 Tryz.underlying24 HI.out.1 HI.out.2.1 HI.out.2.2.1 HI.out.2.2.2 (by kernel_rfl) (by decide) v k (dcells (R.take k)) rfl HO.out ⟨w4.heap.size, 0, none⟩ 1 1 (D.map B) rfl LD.out HNw.out (by simp [Value.oneCell']) (by unfold maxLen; omega) (by omega) HB4.out.size ?_; intro v5 w5 hown5 hgrow5 _; have vlt := HO.out.lt; have HB5 : Seal (Below w.heap.size w w5) := ⟨HB4.out.trans ⟨hgrow5.os, hgrow5.tape, hgrow5.output, hgrow5.size, fun j hj => hgrow5.block j (by have := HB4.out.size; omega) (fun e => by have := (vlt j e.symm).1; omega)⟩⟩; have HO5 : Seal (w5.ownsRow w.heap.size 42 32 v5 (k + 1) (dcells (R.take (k + 1)))) := ⟨by rw [HTk.out, dcells_snoc]; exact hown5⟩; clear hown5 hgrow5 vlt)
        go_roundw
        case rel => exact ⟨k + 1, v5, by omega, rfl, by go_num, ⟨HO5.out, HB5.out⟩⟩
        case measure => simp [intOf]; omega
    · obtain rfl : k = n := by omega
      have q5 : ¬ (k : Int) < (k : Int) := by omega
      have eR : R.take k = R := List.take_of_length_le (by rw [HRl.out]; omega)
      rw [eR] at hH
      clear eR
      go_wp2_with fail
      go_ret
      exact ⟨v, rfl, ⟨by rw [HRl.out]; exact hH.out.1, hH.out.2⟩⟩

structure NxRel (l : List Bytes) (w : World) (i : Nat) (out : List Bytes) (v : Value) (W : World) : Prop where
  eq : upB l = out ++ upB (l.drop i)
  cnt : out.length ≤ i
  own : W.ownsRow w.heap.size 42 32 v out.length (dcells out)
  bel : Below w.heap.size w W

theorem NxRel.later {l : List Bytes} {w : World} {i : Nat} {out : List Bytes} {v : Value} {W W' : World} (h : NxRel l w i out v W) (hb : Below W.heap.size W W') : NxRel l w i out v W' :=
  ⟨h.eq, h.cnt, ownsRow_below h.own hb, h.bel.trans (hb.mono h.bel.size)⟩

theorem NxRel.step {l : List Bytes} {w : World} {i : Nat} {out : List Bytes} {v v5 : Value} {D : Bytes} {W w5 : World} (h : NxRel l w i out v W) (he : upB (l.drop i) = D :: upB (l.drop (i + 2))) (hown : w5.ownsRow w.heap.size 42 32 v5 (out.length + 1) (dcells (out ++ [D]))) (hg : (W.alloc (.cells (D.map B).toArray 42)).grownBy w5 v.ownBlock) :
    NxRel l w (i + 2) (out ++ [D]) v5 w5 := by
  have hz := h.bel.size
  have vlt := (h.own.alloc (.cells (D.map B).toArray 42)).lt
  refine ⟨by rw [h.eq, he, List.append_assoc]; rfl, by rw [List.length_append]; have := h.cnt; simp only [List.length_cons, List.length_nil]; omega, by rw [List.length_append]; exact hown, ?_⟩
  exact (h.bel.alloc hz _).trans ⟨hg.os, hg.tape, hg.output, hg.size, fun k hk => hg.block k (by rw [size_alloc]; omega) (fun e => by have := (vlt k e.symm).1; omega)⟩

theorem drop_two {l : List Bytes} {i : Nat} (h : i + 1 < l.length) : l.drop i = l.getD i [] :: l.getD (i + 1) [] :: l.drop (i + 2) := by
  rw [List.drop_eq_getElem_cons (by omega), List.drop_eq_getElem_cons h]
  simp [List.getD_eq_getElem?_getD, List.getElem?_eq_getElem h, List.getElem?_eq_getElem (show i < l.length by omega)]
theorem drop_one {l : List Bytes} {i : Nat} (h : i + 1 = l.length) : l.drop i = [l.getD i []] ∧ l.drop (i + 2) = [] := by
  refine ⟨?_, List.drop_of_length_le (by omega)⟩
  rw [List.drop_eq_getElem_cons (by omega), List.drop_of_length_le (by omega)]
  simp [List.getD_eq_getElem?_getD, List.getElem?_eq_getElem (show i < l.length by omega)]

set_option maxHeartbeats 8000000 in
theorem rnext_any (g off n cap : Nat) (l : List Bytes) (w : World) (hl : l.length = n) (h32 : ∀ d ∈ l, d.length = 32) (hm : n ≤ 100) (_hc : n ≤ cap) (hr : w.rangeAt g off (dcells l)) (hg : g < w.heap.size) :
    Calls Tryz.prog 104 #[.slice (some ⟨g, off, none⟩) n cap] w (RowPost (upB l) w) := by
  have HN := Seal.mk (And.intro hl (And.intro h32 hr))
  have HG2 := Seal.mk hg
  obtain ⟨i0, hi, hz0, hz1, hz2⟩ := info_parts info_dgm
  have HI := Seal.mk (And.intro hi (And.intro hz0 (And.intro hz1 hz2)))
  have H0 : Seal (NxRel l w 0 [] (.slice (some ⟨w.heap.size, 0, none⟩) 0 0) (w.alloc (.cells #[] 42))) := ⟨⟨rfl, by simp, ownsRow_empty w _ _ _ (Nat.le_refl _), below_alloc _ _⟩⟩
  clear hl h32 hr hg hi hz0 hz1 hz2
  go_enter Tryz.func104, Tryz.ntmps104
  go_wp2
  go_loopw [3, 4] (fun u j wr => ∃ (i : Nat) (out : List Bytes) (v : Value), i ≤ n + 1 ∧ v = u ∧ j = .int .i64 i ∧ Seal (NxRel l w i out v wr)) (fun _ j _ => n + 2 - (intOf j).toNat)
  case atStart => exact ⟨0, [], _, by omega, rfl, rfl, H0⟩
  case round =>
    obtain ⟨wo, rfl⟩ : ∃ z, z = wr := ⟨_, rfl⟩
    obtain ⟨i, out, v, hi, rfl, rfl, hH⟩ := hrel
    clear H0
    by_cases hlt : i < n
    · have q1 : (i : Int) < (n : Int) := by omega
      have q2 : (0 : Int) ≤ (i : Int) := by omega
      have hcnt := hH.out.cnt
      have row := rangeAt_below' HN.out.2.2 hH.out.bel
      have x32 := getD_len HN.out.2.1 (i := i) (by have := HN.out.1; omega)
      have r1 := range_dg row HN.out.2.1 (i := i) (by have := HN.out.1; omega)
      by_cases h2 : i + 1 < n
      · have q3 : (i : Int) + 1 < (n : Int) := by omega
        have y32 := getD_len HN.out.2.1 (i := i + 1) (by have := HN.out.1; omega)
        have r2 := range_dg row HN.out.2.1 (i := i + 1) (by have := HN.out.1; omega)
        have hd := drop_two (l := l) (i := i) (by have := HN.out.1; omega)
        obtain ⟨i1, hi1⟩ : ∃ i1, i1 = i + 1 := ⟨_, rfl⟩
        have eW : IntKind.i64.wrap ((i : Int) + 1) = (i1 : Int) := by rw [IntWalk.i64_in _ (by omega)]; omega
        have q4 : (i1 : Int) < (n : Int) := by omega
        have q5 : (0 : Int) ≤ (i1 : Int) := by omega
        have q6 : i1 < n := by omega
        rw [← hi1] at y32 r2 hd
        obtain ⟨x, hx⟩ : ∃ x, x = l.getD i [] := ⟨_, rfl⟩
        obtain ⟨y, hy⟩ : ∃ y, y = l.getD i1 [] := ⟨_, rfl⟩
        rw [← hx] at x32 r1 hd
        rw [← hy] at y32 r2 hd
        have iX := dg_info x x32
        have iY := dg_info y y32
        have uD := Tryz.underlying42
        have HTwo : Seal (∀ W, Calls Tryz.prog 112 #[.agg (x.map B).toArray, .agg (y.map B).toArray] W (TxPost (sha tgNode ++ (x ++ y)) W)) := ⟨fun W => rtwo_any x y W x32 y32⟩
        obtain ⟨S, hS⟩ : ∃ S, S = sha tgNode ++ (x ++ y) := ⟨_, rfl⟩
        have eS : nodeD x y = sha S := by rw [hS, nodeD]
        have lS : S.length = 96 := by rw [hS, List.length_append, sha_length, List.length_append, x32, y32]
        rw [← hS] at HTwo
        obtain ⟨D, hD⟩ : ∃ D, D = sha S := ⟨_, rfl⟩
        have d32 : D.length = 32 := by rw [hD]; exact sha_length _
        have HE : Seal (upB (l.drop i) = D :: upB (l.drop (i + 2))) := ⟨by rw [hd]; show nodeD x y :: _ = _; rw [eS, hD]⟩
        have HSum : Seal (∀ W g m c, IsB W (some ⟨g, 0, none⟩) m c S → Calls Tryz.prog 85 #[.slice (some ⟨g, 0, none⟩) m c] W fun e w' => e = .returned (.agg (D.map B).toArray) ∧ Below W.heap.size W w') := ⟨fun W g m c hb => by
          rw [hD]
          exact rsum_any (some ⟨g, 0, none⟩) m c S W hb (by have := hb.llen; omega)⟩
        have HW := Seal.mk eW
        clear hx hy hd hS eS lS hD x32 y32 row hi1 eW
        go_wp2_with fail
        refine wp_region_held_drew (S := fun w' => w'.rangeAt g (off + i * 32) (x.map B) ∧ w'.rangeAt g (off + i1 * 32) (y.map B)) (by kernel_rfl) ⟨r1, r2⟩ (fun hHeld => ?_)
        obtain ⟨V, hV⟩ : ∃ V, V = wo.drew := ⟨_, rfl⟩
        have s1 : V.rangeAt g (off + i * 32) (x.map B) := by rw [hV]; exact r1
        have s2 : V.rangeAt g (off + i1 * 32) (y.map B) := by rw [hV]; exact r2
        have HV : Seal (Below wo.heap.size wo V) := ⟨by rw [hV]; exact below_drewn wo⟩
        rw [← hV] at hHeld ⊢
        clear hV r1 r2
        refine take_h 0 ?_ rfl (by kernel_rfl) (by kernel_rfl) (by kernel_rfl) (fun _ _ _ h => h) (Or.inl ⟨by kernel_rfl, ?_⟩) (by assumption) ?_
        rotate_left
        · (intro w hSw; (try dsimp only at hSw); go_simp; try (with_reducible rfl))
        try simp only [Act.put, List.setIfInBounds_toArray, List.set_cons_zero, List.set_cons_succ]
        refine take_h 1 ?_ rfl (by kernel_rfl) (by kernel_rfl) (by kernel_rfl) (fun _ _ _ h => h) (Or.inl ⟨by kernel_rfl, ?_⟩) (by assumption) ?_
        rotate_left
        · (intro w hSw; (try dsimp only at hSw); go_simp; try (with_reducible rfl))
        try simp only [Act.put, List.setIfInBounds_toArray, List.set_cons_zero, List.set_cons_succ]
        refine take_h 2 ?_ rfl (by kernel_rfl) (by kernel_rfl) (by kernel_rfl) (fun _ _ _ h => h) (Or.inl ⟨by kernel_rfl, ?_⟩) (by assumption) ?_
        rotate_left
        · (intro w hSw; (try dsimp only at hSw); go_simp; try (with_reducible rfl))
        try simp only [Act.put, List.setIfInBounds_toArray, List.set_cons_zero, List.set_cons_succ]
        refine take_h 3 ?_ rfl (by kernel_rfl) (by kernel_rfl) (by kernel_rfl) (fun _ _ _ h => h) (Or.inl ⟨by kernel_rfl, ?_⟩) (by assumption) ?_
        rotate_left
        · (intro w hSw; (try dsimp only at hSw); go_simp; try (with_reducible rfl))
        try simp only [Act.put, List.setIfInBounds_toArray, List.set_cons_zero, List.set_cons_succ]
        refine take_h 4 _ rfl (by kernel_rfl) (by kernel_rfl) (by kernel_rfl) (fun _ _ _ h => h) (yieldsIf_load_mid (by kernel_rfl) 42 (.tmp 20) rfl g (off + i * 32) rfl (x.map B) _ (fun w hSw => hSw.1) uD rfl iX) (by assumption) ?_
        try simp only [Act.put, List.setIfInBounds_toArray, List.set_cons_zero, List.set_cons_succ]
        refine take_h 5 ?_ rfl (by kernel_rfl) (by kernel_rfl) (by kernel_rfl) (fun _ _ _ h => h) (Or.inl ⟨by kernel_rfl, ?_⟩) (by assumption) ?_
        rotate_left
        · (intro w hSw; (try dsimp only at hSw); go_simp; try (with_reducible rfl))
        try simp only [Act.put, List.setIfInBounds_toArray, List.set_cons_zero, List.set_cons_succ]
        refine take_h 6 ?_ rfl (by kernel_rfl) (by kernel_rfl) (by kernel_rfl) (fun _ _ _ h => h) (Or.inl ⟨by kernel_rfl, ?_⟩) (by assumption) ?_
        rotate_left
        · (intro w hSw; (try dsimp only at hSw); go_simp; try (with_reducible rfl))
        try simp only [Act.put, List.setIfInBounds_toArray, List.set_cons_zero, List.set_cons_succ]
        refine take_h 7 ?_ rfl (by kernel_rfl) (by kernel_rfl) (by kernel_rfl) (fun _ _ _ h => h) (Or.inl ⟨by kernel_rfl, ?_⟩) (by assumption) ?_
        rotate_left
        · (intro w hSw; (try dsimp only at hSw); go_simp; try (with_reducible rfl))
        try simp only [Act.put, List.setIfInBounds_toArray, List.set_cons_zero, List.set_cons_succ]
        rw [HW.out]
        refine take_h 8 ?_ rfl (by kernel_rfl) (by kernel_rfl) (by kernel_rfl) (fun _ _ _ h => h) (Or.inl ⟨by kernel_rfl, ?_⟩) (by assumption) ?_
        rotate_left
        · (intro w hSw; (try dsimp only at hSw); go_simp; try (with_reducible rfl))
        try simp only [Act.put, List.setIfInBounds_toArray, List.set_cons_zero, List.set_cons_succ]
        refine take_h 9 _ rfl (by kernel_rfl) (by kernel_rfl) (by kernel_rfl) (fun _ _ _ h => h) (yieldsIf_load_mid (by kernel_rfl) 42 (.tmp 25) rfl g (off + i1 * 32) rfl (y.map B) _ (fun w hSw => hSw.2) uD rfl iY) (by assumption) ?_
        try simp only [Act.put, List.setIfInBounds_toArray, List.set_cons_zero, List.set_cons_succ]
        refine call_h 10 rfl (by kernel_rfl) 112 #[.agg (x.map B).toArray, .agg (y.map B).toArray] (by kernel_rfl) (by go_simp) ?_
        refine (HTwo.out V).mono ?_
        rintro e w3 ⟨g3, n3, c3, rfl, hP⟩
        have HB3 : Seal (Below wo.heap.size wo w3) := ⟨HV.out.trans (hP.out.2.mono HV.out.size)⟩
        refine ⟨_, rfl, ⟨rangeAt_below' s1 hP.out.2, rangeAt_below' s2 hP.out.2⟩, fun hHeld2 => ?_⟩
        have HS3 := Seal.mk (HSum.out w3 g3 n3 c3 hP.out.1)
        clear hHeld hP s1 s2 HTwo HSum
        try simp only [Act.put, List.setIfInBounds_toArray, List.set_cons_zero, List.set_cons_succ]
        refine call_h 11 rfl (by kernel_rfl) 85 #[.slice (some ⟨g3, 0, none⟩) n3 c3] (by kernel_rfl) (by go_simp) ?_
        refine HS3.out.mono ?_
        rintro e w4 ⟨rfl, hb4⟩
        refine ⟨_, rfl, ⟨rangeAt_below' hHeld2.1 hb4, rangeAt_below' hHeld2.2 hb4⟩, fun hHeld3 => ?_⟩
        have HR4 : Seal (NxRel l w i out v w4) := ⟨hH.out.later (HB3.out.trans (hb4.mono HB3.out.size))⟩
        clear hHeld2 hb4 HS3 hH HB3
        try simp only [Act.put, List.setIfInBounds_toArray, List.set_cons_zero, List.set_cons_succ]
        refine oper_h 12 (.slice (some ⟨w4.heap.size, 0, none⟩) 1 1) (w4.alloc (.cells (D.map B).toArray 42)) rfl (by kernel_rfl) (by kernel_rfl) (by go_simp; rw [fold_all (by simp [d32])]) ⟨World.rangeAt_alloc hHeld3.1 _, World.rangeAt_alloc hHeld3.2 _⟩ (fun hHeld4 => ?_)
        clear hHeld3
        try simp only [Act.put, List.setIfInBounds_toArray, List.set_cons_zero, List.set_cons_succ]
        have hz5 := HR4.out.bel.size
        obtain ⟨v5, w5, hr5, hown5, hg5⟩ := run_app_dg (w4.alloc (.cells (D.map B).toArray 42)) 24 w.heap.size v out.length out D w4.heap.size (HR4.out.own.alloc _) (rangeAt_row (heap_alloc_new w4 _)) d32 (by omega) (by rw [size_alloc]; omega)
        have HN5 : Seal (NxRel l w (i + 2) (out ++ [D]) v5 w5) := ⟨HR4.out.step HE.out hown5 hg5⟩
        have vlt := (HR4.out.own.alloc (.cells (D.map B).toArray 42)).lt
        have hgo : ∀ o' cs, (w4.alloc (.cells (D.map B).toArray 42)).rangeAt g o' cs → w5.rangeAt g o' cs := fun o' cs h j u hu => (World.cell?_of_block (w := w4.alloc (.cells (D.map B).toArray 42)) (hg5.block g (by rw [size_alloc]; have := HG2.out; omega) (fun e => by have := (vlt g e.symm).1; have := HG2.out; omega))).trans (h j u hu)
        refine oper_h 13 v5 w5 rfl (by kernel_rfl) (by kernel_rfl) (exec_append1 (.tmp 17) (.tmp 29) 24 24 24 rfl rfl _ _ _ rfl rfl hr5) ⟨hgo _ _ hHeld4.1, hgo _ _ hHeld4.2⟩ (fun hHeld5 => ?_)
        clear hHeld4 hr5 hown5 hg5 hgo vlt hz5 HR4
        try simp only [Act.put, List.setIfInBounds_toArray, List.set_cons_zero, List.set_cons_succ]
        refine take_h 14 ?_ rfl (by kernel_rfl) (by kernel_rfl) (by kernel_rfl) (fun _ _ _ h => h) (Or.inl ⟨by kernel_rfl, ?_⟩) (by assumption) ?_
        rotate_left
        · (intro w hSw; (try dsimp only at hSw); go_simp; try (with_reducible rfl))
        try simp only [Act.put, List.setIfInBounds_toArray, List.set_cons_zero, List.set_cons_succ]
        refine wpAnyH_done (by kernel_rfl) ?_ _
        clear hHeld5
        go_wp2
        go_roundw
        case rel => exact ⟨i + 2, out ++ [D], v5, by omega, rfl, by go_num, HN5⟩
        case measure => simp [intOf]; omega
      · have q3 : ¬ (i : Int) + 1 < (n : Int) := by omega
        obtain ⟨hd1, hd2⟩ := drop_one (l := l) (i := i) (by have := HN.out.1; omega)
        obtain ⟨x, hx⟩ : ∃ x, x = l.getD i [] := ⟨_, rfl⟩
        rw [← hx] at x32 r1 hd1
        have HE : Seal (upB (l.drop i) = x :: upB (l.drop (i + 2))) := ⟨by rw [hd1, hd2]; simp [upB]⟩
        have iX := dg_info x x32
        have uD := Tryz.underlying42
        have hF := fold_all (L := x.map B) (Z := ([.int .u8 0, .int .u8 0, .int .u8 0, .int .u8 0, .int .u8 0, .int .u8 0, .int .u8 0, .int .u8 0, .int .u8 0, .int .u8 0, .int .u8 0, .int .u8 0, .int .u8 0, .int .u8 0, .int .u8 0, .int .u8 0, .int .u8 0, .int .u8 0, .int .u8 0, .int .u8 0, .int .u8 0, .int .u8 0, .int .u8 0, .int .u8 0, .int .u8 0, .int .u8 0, .int .u8 0, .int .u8 0, .int .u8 0, .int .u8 0, .int .u8 0, .int .u8 0] : List Value)) (by simp [x32])
        have HO : Seal ((wo.alloc (.cells (x.map B).toArray 42)).ownsRow w.heap.size 42 32 v out.length (dcells out)) := ⟨hH.out.own.alloc _⟩
        have HNw : Seal (∀ j u, (x.map B)[j]? = some u → (wo.alloc (.cells (x.map B).toArray 42)).cell? ((⟨wo.heap.size, 0, none⟩ : Addr).add j) = some u) := ⟨fun j u hu => by
          rw [Addr.add_mid]; exact rangeAt_row (heap_alloc_new wo _) j u hu⟩
        have HZ : Seal (w.heap.size ≤ wo.heap.size) := ⟨hH.out.bel.size⟩
        have LD : Seal ((x.map B).length = 1 * 32) := ⟨by rw [List.length_map, x32]⟩
        clear hx hd1 hd2 row
        go_wp2_with (first | (refine wpList_load_mid rfl 42 (.tmp 34) rfl g (off + i * 32) rfl (x.map B) _ r1 uD rfl iX ?_) | (at_builtin; refine wpList_append_own _ rfl (.tmp 31) (.tmp 36) 24 rfl w.heap.size 42 i0 _ 32 32 Tryz.underlying24 HI.out.1 HI.out.2.1 HI.out.2.2.1 HI.out.2.2.2 (by kernel_rfl) (by decide) v out.length (dcells out) rfl HO.out ⟨wo.heap.size, 0, none⟩ 1 1 (x.map B) rfl LD.out HNw.out (by simp [Value.oneCell']) (by unfold maxLen; omega) (by omega) (by rw [size_alloc]; have := HZ.out; omega) ?_; intro v5 w5 hown5 hgrow5 _; have HN5 : Seal (NxRel l w (i + 2) (out ++ [x]) v5 w5) := ⟨hH.out.step HE.out (by rw [dcells_snoc]; exact hown5) hgrow5⟩; clear hown5 hgrow5))
        go_roundw
        case rel => exact ⟨i + 2, out ++ [x], v5, by omega, rfl, by go_num, HN5⟩
        case measure => simp [intOf]; omega
    · have q1 : ¬ (i : Int) < (n : Int) := by omega
      have eU : upB l = out := by
        rw [hH.out.eq, List.drop_of_length_le (by have := HN.out.1; omega)]
        simp [upB]
      have HF : Seal (wo.ownsRow w.heap.size 42 32 v (upB l).length (dcells (upB l)) ∧ Below w.heap.size w wo) := ⟨by rw [eU]; exact hH.out.own, hH.out.bel⟩
      clear eU hH
      go_wp2_with fail
      go_ret
      exact ⟨v, rfl, HF⟩

structure RtRel (r : List Bytes) (w : World) (K g off m c : Nat) (W : World) : Prop where
  big : ∀ k, k < K → 1 < (rowN r k).length
  len : (rowN r K).length = m
  mc : m ≤ c
  cm : c ≤ 9223372036854775807
  fresh : w.heap.size < g
  lt : g < W.heap.size
  row : W.rangeAt g off (dcells (rowN r K))
  cell : W.heap[w.heap.size]? = some (.cells #[.int .u8 0, .int .u8 0, .int .u8 0, .int .u8 0, .int .u8 0, .int .u8 0, .int .u8 0, .int .u8 0, .int .u8 0, .int .u8 0, .int .u8 0, .int .u8 0, .int .u8 0, .int .u8 0, .int .u8 0, .int .u8 0, .int .u8 0, .int .u8 0, .int .u8 0, .int .u8 0, .int .u8 0, .int .u8 0, .int .u8 0, .int .u8 0, .int .u8 0, .int .u8 0, .int .u8 0, .int .u8 0, .int .u8 0, .int .u8 0, .int .u8 0, .int .u8 0] 42 (0, 0))
  bel : Below w.heap.size w W


set_option maxHeartbeats 2000000 in
theorem rroot_none (a : Option Addr) (c : Nat) (w : World) : Calls Tryz.prog 86 #[.slice a 0 c] w fun e w' => e = .returned (.agg (noneD.map B).toArray) ∧ Below w.heap.size w w' := by
  obtain ⟨X, hX⟩ : ∃ X : World, X = w.alloc (.cells #[.int .u8 0, .int .u8 0, .int .u8 0, .int .u8 0, .int .u8 0, .int .u8 0, .int .u8 0, .int .u8 0, .int .u8 0, .int .u8 0, .int .u8 0, .int .u8 0, .int .u8 0, .int .u8 0, .int .u8 0, .int .u8 0, .int .u8 0, .int .u8 0, .int .u8 0, .int .u8 0, .int .u8 0, .int .u8 0, .int .u8 0, .int .u8 0, .int .u8 0, .int .u8 0, .int .u8 0, .int .u8 0, .int .u8 0, .int .u8 0, .int .u8 0, .int .u8 0] 42) := ⟨_, rfl⟩
  have hXb : Seal (Below w.heap.size w X) := ⟨by rw [hX]; exact below_alloc _ _⟩
  have hXz : Seal (X.heap[w.heap.size]? = some (.cells #[.int .u8 0, .int .u8 0, .int .u8 0, .int .u8 0, .int .u8 0, .int .u8 0, .int .u8 0, .int .u8 0, .int .u8 0, .int .u8 0, .int .u8 0, .int .u8 0, .int .u8 0, .int .u8 0, .int .u8 0, .int .u8 0, .int .u8 0, .int .u8 0, .int .u8 0, .int .u8 0, .int .u8 0, .int .u8 0, .int .u8 0, .int .u8 0, .int .u8 0, .int .u8 0, .int .u8 0, .int .u8 0, .int .u8 0, .int .u8 0, .int .u8 0, .int .u8 0] 42 (0, 0))) := ⟨by rw [hX]; exact heap_alloc_new w _⟩
  have hXs : Seal (X.heap.size = w.heap.size + 1) := ⟨by rw [hX, size_alloc]⟩
  have HT0 := rtagged_any ⟨#[110, 111, 110, 101]⟩ none 0 0 [] X ⟨rfl, Nat.le_refl _, by decide, by decide, .inl rfl⟩ (by decide) (by decide)
  have eT : (⟨#[110, 111, 110, 101]⟩ : ByteArray).data.toList = [110, 111, 110, 101] := rfl
  have eN : tagged [110, 111, 110, 101] [] = noneD := by rw [noneD]
  rw [eT, eN] at HT0
  have HT := Seal.mk HT0
  obtain ⟨D, hD⟩ : ∃ D, D = (noneD.map B).toArray := ⟨_, rfl⟩
  have ID : Seal ((Tryz.prog.info? 42).map (·.size) = some D.size) := ⟨by rw [hD, List.size_toArray]; exact dg_info noneD noneD_len⟩
  have SD : Seal ((#[.int .u8 0, .int .u8 0, .int .u8 0, .int .u8 0, .int .u8 0, .int .u8 0, .int .u8 0, .int .u8 0, .int .u8 0, .int .u8 0, .int .u8 0, .int .u8 0, .int .u8 0, .int .u8 0, .int .u8 0, .int .u8 0, .int .u8 0, .int .u8 0, .int .u8 0, .int .u8 0, .int .u8 0, .int .u8 0, .int .u8 0, .int .u8 0, .int .u8 0, .int .u8 0, .int .u8 0, .int .u8 0, .int .u8 0, .int .u8 0, .int .u8 0, .int .u8 0] : Array Value).size = D.size) := ⟨by show 32 = D.size; rw [hD, List.size_toArray, List.length_map, noneD_len]⟩
  have AD : Seal (D.all (·.oneCell') = true) := ⟨by rw [hD]; simp [Value.oneCell']⟩
  rw [← hD] at HT ⊢
  clear hD HT0 eT eN
  go_enter Tryz.func86, Tryz.ntmps86
  go_upto_region 1 with (fail)
  rw [← hX]
  clear hX
  go_wp2_with fail
  refine HT.out.mono ?_
  rintro e w1 ⟨rfl, hb1⟩
  have HZ1 : Seal (w1.heap[w.heap.size]? = some (.cells #[.int .u8 0, .int .u8 0, .int .u8 0, .int .u8 0, .int .u8 0, .int .u8 0, .int .u8 0, .int .u8 0, .int .u8 0, .int .u8 0, .int .u8 0, .int .u8 0, .int .u8 0, .int .u8 0, .int .u8 0, .int .u8 0, .int .u8 0, .int .u8 0, .int .u8 0, .int .u8 0, .int .u8 0, .int .u8 0, .int .u8 0, .int .u8 0, .int .u8 0, .int .u8 0, .int .u8 0, .int .u8 0, .int .u8 0, .int .u8 0, .int .u8 0, .int .u8 0] 42 (0, 0))) := ⟨blk hb1 (Array.getElem?_eq_some_iff.1 hXz.out).1 hXz.out⟩
  have HB1 : Seal (Below w.heap.size w w1) := ⟨hXb.out.trans (hb1.mono hXb.out.size)⟩
  clear hb1
  go_wp2_with (refine wpList_store_row rfl 42 (.tmp 2) (.tmp 7) rfl w.heap.size D rfl rfl 42 #[.int .u8 0, .int .u8 0, .int .u8 0, .int .u8 0, .int .u8 0, .int .u8 0, .int .u8 0, .int .u8 0, .int .u8 0, .int .u8 0, .int .u8 0, .int .u8 0, .int .u8 0, .int .u8 0, .int .u8 0, .int .u8 0, .int .u8 0, .int .u8 0, .int .u8 0, .int .u8 0, .int .u8 0, .int .u8 0, .int .u8 0, .int .u8 0, .int .u8 0, .int .u8 0, .int .u8 0, .int .u8 0, .int .u8 0, .int .u8 0, .int .u8 0, .int .u8 0] HZ1.out ID.out SD.out AD.out ?_)
  exact bodyPost_ret (results_cell_row (fn := Tryz.f86) rfl _ _ w.heap.size 42 D (0, 0) _ rfl (setRow_heap _ _ _ _ _ _ HZ1.out) Tryz.underlying42 rfl ID.out) rfl ⟨rfl, below_row HB1.out (Nat.le_refl _) _⟩

theorem row_of_own {W : World} {base n : Nat} {v : Value} {l : List Bytes} (h : W.ownsRow base 42 32 v l.length (dcells l)) (hn : l.length = n) (h0 : 0 < n) : ∃ g off c, v = .slice (some ⟨g, off, none⟩) n c ∧ n ≤ c ∧ c ≤ 9223372036854775807 ∧ base ≤ g ∧ g < W.heap.size ∧ W.rangeAt g off (dcells l) := by
  obtain ⟨g, o, c, hv, h1, h2, h3, h4, h5⟩ := rowAt_own h (by omega)
  rw [hn] at hv h1
  exact ⟨g, o, c, hv, h1, h2, h3, h4, h5⟩

set_option maxHeartbeats 4000000 in
theorem rroot_some (a : Option Addr) (n cap : Nat) (ts : List Bytes) (w : World) (hl : IsBs w a n cap ts) (hn : 0 < n) (hm : n ≤ 100) (ht : ∀ t ∈ ts, 0 < t.length ∧ t.length ≤ 1000) :
    Calls Tryz.prog 86 #[.slice a n cap] w fun e w' => e = .returned (.agg ((rootB ts).map B).toArray) ∧ Below w.heap.size w w' := by
  obtain ⟨X, hX⟩ : ∃ X : World, X = w.alloc (.cells #[.int .u8 0, .int .u8 0, .int .u8 0, .int .u8 0, .int .u8 0, .int .u8 0, .int .u8 0, .int .u8 0, .int .u8 0, .int .u8 0, .int .u8 0, .int .u8 0, .int .u8 0, .int .u8 0, .int .u8 0, .int .u8 0, .int .u8 0, .int .u8 0, .int .u8 0, .int .u8 0, .int .u8 0, .int .u8 0, .int .u8 0, .int .u8 0, .int .u8 0, .int .u8 0, .int .u8 0, .int .u8 0, .int .u8 0, .int .u8 0, .int .u8 0, .int .u8 0] 42) := ⟨_, rfl⟩
  have hXb : Seal (Below w.heap.size w X) := ⟨by rw [hX]; exact below_alloc _ _⟩
  have hXz : Seal (X.heap[w.heap.size]? = some (.cells #[.int .u8 0, .int .u8 0, .int .u8 0, .int .u8 0, .int .u8 0, .int .u8 0, .int .u8 0, .int .u8 0, .int .u8 0, .int .u8 0, .int .u8 0, .int .u8 0, .int .u8 0, .int .u8 0, .int .u8 0, .int .u8 0, .int .u8 0, .int .u8 0, .int .u8 0, .int .u8 0, .int .u8 0, .int .u8 0, .int .u8 0, .int .u8 0, .int .u8 0, .int .u8 0, .int .u8 0, .int .u8 0, .int .u8 0, .int .u8 0, .int .u8 0, .int .u8 0] 42 (0, 0))) := ⟨by rw [hX]; exact heap_alloc_new w _⟩
  have hXs : Seal (X.heap.size = w.heap.size + 1) := ⟨by rw [hX, size_alloc]⟩
  have HFst := Seal.mk (rfirst_any a n cap ts X (hl.of_heap hXb.out) hm ht)
  have R32 : ∀ d ∈ ts.map leafD, d.length = 32 := by intro d hd; obtain ⟨t, _, rfl⟩ := List.mem_map.1 hd; exact leafD_len t
  have R0 : (ts.map leafD).length = n := by rw [List.length_map, hl.llen]
  have hroot : ∀ K, (rowN (ts.map leafD) K).length ≤ 1 → (∀ k, k < K → 1 < (rowN (ts.map leafD) k).length) → rootB ts = hdD (rowN (ts.map leafD) K) := fun K h1 h2 => rootB_of (by have := hl.llen; omega) h1 h2
  have HRt := Seal.mk hroot
  have HN := Seal.mk (And.intro hn hm)
  have r32 := rootB_len ts
  obtain ⟨D, hD⟩ : ∃ D, D = ((rootB ts).map B).toArray := ⟨_, rfl⟩
  have ID : Seal ((Tryz.prog.info? 42).map (·.size) = some D.size) := ⟨by rw [hD, List.size_toArray]; exact dg_info _ r32⟩
  have SD : Seal ((#[.int .u8 0, .int .u8 0, .int .u8 0, .int .u8 0, .int .u8 0, .int .u8 0, .int .u8 0, .int .u8 0, .int .u8 0, .int .u8 0, .int .u8 0, .int .u8 0, .int .u8 0, .int .u8 0, .int .u8 0, .int .u8 0, .int .u8 0, .int .u8 0, .int .u8 0, .int .u8 0, .int .u8 0, .int .u8 0, .int .u8 0, .int .u8 0, .int .u8 0, .int .u8 0, .int .u8 0, .int .u8 0, .int .u8 0, .int .u8 0, .int .u8 0, .int .u8 0] : Array Value).size = D.size) := ⟨by show 32 = D.size; rw [hD, List.size_toArray, List.length_map, r32]⟩
  have AD : Seal (D.all (·.oneCell') = true) := ⟨by rw [hD]; simp [Value.oneCell']⟩
  have HD := Seal.mk hD
  obtain ⟨R, hR⟩ : ∃ R, R = ts.map leafD := ⟨_, rfl⟩
  rw [← hR] at HFst HRt R32 R0
  have HR := Seal.mk (And.intro R32 R0)
  have q1 : ¬ n = 0 := by omega
  have q2 : ¬ (n : Int) = 0 := by omega
  rw [← hD]
  clear hl ht R32 R0 hroot hD r32 hR hn hm
  go_enter Tryz.func86, Tryz.ntmps86
  go_upto_region 1 with (fail)
  rw [← hX]
  clear hX
  go_wp2_with fail
  refine HFst.out.mono ?_
  rintro e w1 ⟨v1, rfl, hP⟩
  obtain ⟨g1, o1, c1, rfl, p1, p2, p3, p4, p5⟩ := row_of_own hP.out.1 HR.out.2 HN.out.1
  have H1 : Seal (RtRel R w 0 g1 o1 n c1 w1) := ⟨⟨fun k hk => by omega, HR.out.2, p1, p2, by have := hXs.out; omega, p4, p5, blk hP.out.2 (Array.getElem?_eq_some_iff.1 hXz.out).1 hXz.out, hXb.out.trans (hP.out.2.mono hXb.out.size)⟩⟩
  clear hP p1 p2 p3 p4 p5 HFst
  go_wp2_with fail
  go_loopw [3] (fun u wr => ∃ K g off m c, u = .slice (some ⟨g, off, none⟩) m c ∧ Seal (RtRel R w K g off m c wr)) (fun u _ => (match u with | .slice _ m _ => m | _ => 0))
  case atStart => exact ⟨0, g1, o1, n, c1, rfl, H1⟩
  case round =>
    obtain ⟨wo, rfl⟩ : ∃ z, z = wr := ⟨_, rfl⟩
    obtain ⟨K, g, off, m, c, rfl, hH⟩ := hrel
    by_cases hm1 : 1 < m
    · have q3 : (1 : Int) < (m : Int) := by omega
      have hdec := rowN_dec K hH.out.big
      have HNx := Seal.mk (rnext_any g off m c (rowN R K) wo hH.out.len (rowN_32 HR.out.1 K) (by have := HR.out.2; have := HN.out.2; have := hH.out.len; omega) hH.out.mc hH.out.row hH.out.lt)
      clear hdec
      go_wp2_with fail
      refine HNx.out.mono ?_
      rintro e w2 ⟨v2, rfl, hP⟩
      have hlen : (upB (rowN R K)).length < m := by rw [upB_len, hH.out.len]; omega
      have hpos : 0 < (upB (rowN R K)).length := by rw [upB_len, hH.out.len]; omega
      obtain ⟨m2, hm2⟩ : ∃ m2, m2 = (upB (rowN R K)).length := ⟨_, rfl⟩
      obtain ⟨g2, o2, c2, rfl, p1, p2, p3, p4, p5⟩ := row_of_own hP.out.1 hm2.symm (by omega)
      have H2 : Seal (RtRel R w (K + 1) g2 o2 m2 c2 w2) := ⟨⟨fun k hk => by
        by_cases he : k = K
        · rw [he, hH.out.len]; exact hm1
        · exact hH.out.big k (by omega), hm2.symm, p1, p2, by have := hH.out.fresh; have := hH.out.lt; omega, p4, p5, blk hP.out.2 (Array.getElem?_eq_some_iff.1 hH.out.cell).1 hH.out.cell, hH.out.bel.trans (hP.out.2.mono hH.out.bel.size)⟩⟩
      have HL : Seal (m2 < m) := ⟨by omega⟩
      clear hP p1 p2 p3 p4 p5 HNx hH hlen hpos hm2
      go_wp2
      exact ⟨⟨K + 1, g2, o2, m2, c2, rfl, H2⟩, HL.out⟩
    · have q3 : ¬ (1 : Int) < (m : Int) := by omega
      have hp := rowN_pos (r := R) (by have := HR.out.2; have := HN.out.1; omega) K
      have h32 := rowN_32 HR.out.1 K
      have rD := hdD_range hH.out.row h32 hp
      rw [← HRt.out K (by rw [hH.out.len]; omega) hH.out.big] at rD
      have m0 : 0 < m := by have := hH.out.len; omega
      have q4 : (0 : Int) < (m : Int) := by omega
      have iD := dg_info (rootB ts) (rootB_len ts)
      have uD := Tryz.underlying42
      have HC := Seal.mk hH.out.cell
      have HB := Seal.mk hH.out.bel
      have HD' : Seal (((rootB ts).map B).toArray = D) := ⟨HD.out.symm⟩
      obtain ⟨DL, hDL⟩ : ∃ DL, DL = (rootB ts).map B := ⟨_, rfl⟩
      rw [← hDL] at rD iD HD'
      have eDL := HD'.out
      subst eDL
      clear hp h32 hH hDL
      go_wp2_with (first | (refine wpList_load_mid rfl 42 (.tmp 16) rfl g off rfl DL _ rD uD rfl iD ?_) | (refine wpList_store_row rfl 42 (.tmp 2) (.tmp 17) rfl w.heap.size DL.toArray rfl rfl 42 #[.int .u8 0, .int .u8 0, .int .u8 0, .int .u8 0, .int .u8 0, .int .u8 0, .int .u8 0, .int .u8 0, .int .u8 0, .int .u8 0, .int .u8 0, .int .u8 0, .int .u8 0, .int .u8 0, .int .u8 0, .int .u8 0, .int .u8 0, .int .u8 0, .int .u8 0, .int .u8 0, .int .u8 0, .int .u8 0, .int .u8 0, .int .u8 0, .int .u8 0, .int .u8 0, .int .u8 0, .int .u8 0, .int .u8 0, .int .u8 0, .int .u8 0, .int .u8 0] HC.out ID.out SD.out AD.out ?_))
      exact bodyPost_ret (results_cell_row (fn := Tryz.f86) rfl _ _ w.heap.size 42 DL.toArray (0, 0) _ rfl (setRow_heap _ _ _ _ _ _ HC.out) Tryz.underlying42 rfl ID.out) rfl ⟨rfl, below_row HB.out (Nat.le_refl _) _⟩

theorem rroot07_any (a : Option Addr) (n cap : Nat) (ts : List Bytes) (w : World) (hl : IsBs w a n cap ts) (hm : n ≤ 100) (ht : ∀ t ∈ ts, 0 < t.length ∧ t.length ≤ 1000) :
    Calls Tryz.prog 86 #[.slice a n cap] w fun e w' => e = .returned (.agg ((rootB ts).map B).toArray) ∧ Below w.heap.size w w' := by
  by_cases hn : 0 < n
  · exact rroot_some a n cap ts w hl hn hm ht
  · obtain rfl : n = 0 := by omega
    have e : ts = [] := List.eq_nil_of_length_eq_zero hl.llen
    subst e
    have h := rroot_none a cap w
    have e2 : rootB [] = noneD := by unfold rootB; rw [if_pos rfl]
    rw [e2]
    exact h

open Go Go.RowKit Go.Proofs Go.ChangeShapes Go.WideShapes Go.ChangeAt
set_option maxRecDepth 100000
section
variable {H : Type} {enc : TypeId × Value → H} {W : World} {base : Nat} {sp : Nat → Bool} {hd : Bool} {fuel : Nat} {cs : List Value} {x : DataW H × List MemPlace}

end

set_option maxHeartbeats 2000000 in
theorem rroot48_any (a : Option Addr) (n cap : Nat) (l : List (List Int)) (w : World) (hl : IsL w a n cap l) (hm : n ≤ 100) : Calls Tryz.prog 63 #[.slice a n cap] w fun e w' => e = .returned (.agg ((rootB (l.map txL)).map B).toArray) ∧ Below w.heap.size w w' := by
  obtain ⟨X, hX⟩ : ∃ X : World, X = w.alloc (.cells #[.int .u8 0, .int .u8 0, .int .u8 0, .int .u8 0, .int .u8 0, .int .u8 0, .int .u8 0, .int .u8 0, .int .u8 0, .int .u8 0, .int .u8 0, .int .u8 0, .int .u8 0, .int .u8 0, .int .u8 0, .int .u8 0, .int .u8 0, .int .u8 0, .int .u8 0, .int .u8 0, .int .u8 0, .int .u8 0, .int .u8 0, .int .u8 0, .int .u8 0, .int .u8 0, .int .u8 0, .int .u8 0, .int .u8 0, .int .u8 0, .int .u8 0, .int .u8 0] 42) := ⟨_, rfl⟩
  have hXb : Seal (Below w.heap.size w X) := ⟨by rw [hX]; exact below_alloc _ _⟩
  have hXz : Seal (X.heap[w.heap.size]? = some (.cells #[.int .u8 0, .int .u8 0, .int .u8 0, .int .u8 0, .int .u8 0, .int .u8 0, .int .u8 0, .int .u8 0, .int .u8 0, .int .u8 0, .int .u8 0, .int .u8 0, .int .u8 0, .int .u8 0, .int .u8 0, .int .u8 0, .int .u8 0, .int .u8 0, .int .u8 0, .int .u8 0, .int .u8 0, .int .u8 0, .int .u8 0, .int .u8 0, .int .u8 0, .int .u8 0, .int .u8 0, .int .u8 0, .int .u8 0, .int .u8 0, .int .u8 0, .int .u8 0] 42 (0, 0))) := ⟨by rw [hX]; exact heap_alloc_new w _⟩
  have HT : Seal (∀ t ∈ l.map txL, 0 < t.length ∧ t.length ≤ 1000) := ⟨by
    intro t ht
    obtain ⟨s, hs, rfl⟩ := List.mem_map.1 ht
    have := txL_len (hl.each s hs)
    omega⟩
  have HM : Seal (∀ W a' c', IsBs W a' n c' (l.map txL) → Calls Tryz.prog 86 #[.slice a' n c'] W fun e w' => e = .returned (.agg ((rootB (l.map txL)).map B).toArray) ∧ Below W.heap.size W w') := ⟨fun W a' c' hb => rroot07_any a' n c' (l.map txL) W hb hm HT.out⟩
  have HL := Seal.mk (rletters_any a n cap l X (hl.of_heap hXb.out))
  have r32 := rootB_len (l.map txL)
  obtain ⟨D, hD⟩ : ∃ D, D = ((rootB (l.map txL)).map B).toArray := ⟨_, rfl⟩
  have ID : Seal ((Tryz.prog.info? 42).map (·.size) = some D.size) := ⟨by rw [hD, List.size_toArray]; exact dg_info _ r32⟩
  have SD : Seal ((#[.int .u8 0, .int .u8 0, .int .u8 0, .int .u8 0, .int .u8 0, .int .u8 0, .int .u8 0, .int .u8 0, .int .u8 0, .int .u8 0, .int .u8 0, .int .u8 0, .int .u8 0, .int .u8 0, .int .u8 0, .int .u8 0, .int .u8 0, .int .u8 0, .int .u8 0, .int .u8 0, .int .u8 0, .int .u8 0, .int .u8 0, .int .u8 0, .int .u8 0, .int .u8 0, .int .u8 0, .int .u8 0, .int .u8 0, .int .u8 0, .int .u8 0, .int .u8 0] : Array Value).size = D.size) := ⟨by show 32 = D.size; rw [hD, List.size_toArray, List.length_map, r32]⟩
  have AD : Seal (D.all (·.oneCell') = true) := ⟨by rw [hD]; simp [Value.oneCell']⟩
  rw [← hD] at HM ⊢
  clear hD hl r32
  go_enter Tryz.func63, Tryz.ntmps63
  go_upto_region 1 with (fail)
  rw [← hX]
  clear hX
  go_wp2_with fail
  refine HL.out.mono ?_
  rintro e w2 ⟨a2, c2, rfl, HF⟩
  have HB2 : Seal (Below w.heap.size w w2) := ⟨hXb.out.trans (HF.out.2.mono hXb.out.size)⟩
  have HZ2 : Seal (w2.heap[w.heap.size]? = some (.cells #[.int .u8 0, .int .u8 0, .int .u8 0, .int .u8 0, .int .u8 0, .int .u8 0, .int .u8 0, .int .u8 0, .int .u8 0, .int .u8 0, .int .u8 0, .int .u8 0, .int .u8 0, .int .u8 0, .int .u8 0, .int .u8 0, .int .u8 0, .int .u8 0, .int .u8 0, .int .u8 0, .int .u8 0, .int .u8 0, .int .u8 0, .int .u8 0, .int .u8 0, .int .u8 0, .int .u8 0, .int .u8 0, .int .u8 0, .int .u8 0, .int .u8 0, .int .u8 0] 42 (0, 0))) := ⟨blk HF.out.2 (Array.getElem?_eq_some_iff.1 hXz.out).1 hXz.out⟩
  go_wp2_with fail
  refine (HM.out w2 a2 c2 HF.out.1).mono ?_
  rintro e w3 ⟨rfl, hb3⟩
  have HB3 : Seal (Below w.heap.size w w3) := ⟨HB2.out.trans (hb3.mono HB2.out.size)⟩
  have HZ3 : Seal (w3.heap[w.heap.size]? = some (.cells #[.int .u8 0, .int .u8 0, .int .u8 0, .int .u8 0, .int .u8 0, .int .u8 0, .int .u8 0, .int .u8 0, .int .u8 0, .int .u8 0, .int .u8 0, .int .u8 0, .int .u8 0, .int .u8 0, .int .u8 0, .int .u8 0, .int .u8 0, .int .u8 0, .int .u8 0, .int .u8 0, .int .u8 0, .int .u8 0, .int .u8 0, .int .u8 0, .int .u8 0, .int .u8 0, .int .u8 0, .int .u8 0, .int .u8 0, .int .u8 0, .int .u8 0, .int .u8 0] 42 (0, 0))) := ⟨blk hb3 (Array.getElem?_eq_some_iff.1 HZ2.out).1 HZ2.out⟩
  clear hb3
  go_wp2_with (refine wpList_store_row rfl 42 (.tmp 2) (.tmp 5) rfl w.heap.size D rfl rfl 42 #[.int .u8 0, .int .u8 0, .int .u8 0, .int .u8 0, .int .u8 0, .int .u8 0, .int .u8 0, .int .u8 0, .int .u8 0, .int .u8 0, .int .u8 0, .int .u8 0, .int .u8 0, .int .u8 0, .int .u8 0, .int .u8 0, .int .u8 0, .int .u8 0, .int .u8 0, .int .u8 0, .int .u8 0, .int .u8 0, .int .u8 0, .int .u8 0, .int .u8 0, .int .u8 0, .int .u8 0, .int .u8 0, .int .u8 0, .int .u8 0, .int .u8 0, .int .u8 0] HZ3.out ID.out SD.out AD.out ?_)
  exact bodyPost_ret (results_cell_row (fn := Tryz.f63) rfl _ _ w.heap.size 42 D (0, 0) _ rfl (setRow_heap _ _ _ _ _ _ HZ3.out) Tryz.underlying42 rfl ID.out) rfl ⟨rfl, below_row HB3.out (Nat.le_refl _) _⟩
end Frk
