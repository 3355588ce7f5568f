/- Letters: their texts, as handover.leaves yields them. -/
import Derived.Test.YtllbjakfjpjfnaaGreatDoorVxHab
import Derived.Test.YtllbjakfjpjfnaaGreatDoorVxgHac
import Derived.LoopIn
import Derived.RangeFuncCalls
import Derived.RangeFuncBound
import Derived.RangeFuncNested
import Derived.RangeFuncLeaves
import Derived.OwnWalkIn
import Derived.Test.YtllbjakfjpjfnaaGreatDoorVxgCod
import Derived.Shelf.Bytes.SlJoin
import Derived.Test.YtllbjakfjpjfnaaGreatDoorVxgGen
import Derived.Test.YtllbjakfjpjfnaaGreatDoorVxgEqd
namespace Frk
open Go Go.RowKit Go.Proofs
set_option maxRecDepth 100000

def okS (s : List Int) : Prop := s.length = 6 ∧ ∀ x ∈ s, I64 x
/-- the text of a letter -/
def txL (s : List Int) : Bytes := encL (lfs s)
theorem txL_len {s : List Int} (h : okS s) : 0 < (txL s).length ∧ (txL s).length ≤ 200 := by
  have h1 := encL_length (lfs s)
  rw [wgts_lfs, h.1] at h1
  refine ⟨?_, by unfold txL; omega⟩
  unfold txL encL
  simp

/-- a slice of letters -/
structure IsL (w : World) (a : Option Addr) (n cap : Nat) (l : List (List Int)) : Prop where
  llen : l.length = n
  lcap : n ≤ cap
  lmax : n ≤ 1000
  cmax : cap ≤ 9223372036854775807
  each : ∀ s ∈ l, okS s
  at_ : n = 0 ∨ ∃ g off, a = some ⟨g, off, none⟩ ∧ w.rangeAt g off (l.flatten.map (Value.int .i64)) ∧ g < w.heap.size

theorem IsL.of_heap {w w' : World} {a : Option Addr} {n cap : Nat} {l : List (List Int)} (h : IsL w a n cap l) (hb : Below w.heap.size w w') : IsL w' a n cap l :=
  ⟨h.llen, h.lcap, h.lmax, h.cmax, h.each, by
    rcases h.at_ with h0 | ⟨g, off, e, hr, hg⟩
    · exact .inl h0
    · exact .inr ⟨g, off, e, rangeAt_below' hr hb, Nat.lt_of_lt_of_le hg hb.size⟩⟩

theorem flat6 : ∀ (l : List (List Int)), (∀ s ∈ l, s.length = 6) → ∀ (k : Nat) (s : List Int), l[k]? = some s → ∀ (j : Nat) (x : Int), s[j]? = some x → l.flatten[k * 6 + j]? = some x
  | [], _, k, s, h, _, _, _ => by simp at h
  | t :: l, hl, 0, s, h, j, x, hx => by
    simp at h
    subst h
    have hj := (List.getElem?_eq_some_iff.1 hx).1
    rw [List.flatten_cons, Nat.zero_mul, Nat.zero_add, List.getElem?_append_left hj, hx]
  | t :: l, hl, k + 1, s, h, j, x, hx => by
    have ht := hl t (by simp)
    rw [List.flatten_cons, List.getElem?_append_right (by omega), show (k + 1) * 6 + j - t.length = k * 6 + j from by omega]
    exact flat6 l (fun s hs => hl s (by simp [hs])) k s (by simpa using h) j x hx

theorem cell_letter {w : World} {g off : Nat} {l : List (List Int)} (hr : w.rangeAt g off (l.flatten.map (Value.int .i64))) (hl : ∀ s ∈ l, okS s) {k : Nat} {s : List Int} (hk : l[k]? = some s) {j : Nat} {x : Int} (hx : s[j]? = some x) :
    w.cell? ⟨g, off + k * 6 + j, none⟩ = some (.int .i64 x) := by
  have h := flat6 l (fun s hs => (hl s hs).1) k s hk j x hx
  rw [Nat.add_assoc]
  exact hr (k * 6 + j) _ (by rw [List.getElem?_map, h]; rfl)

theorem six_of {s : List Int} (h : s.length = 6) : ∃ x0 x1 x2 x3 x4 x5, s = [x0, x1, x2, x3, x4, x5] := by
  match s, h with
  | [x0, x1, x2, x3, x4, x5], _ => exact ⟨x0, x1, x2, x3, x4, x5, rfl⟩

/-- what leaves yields -/
def encV (x : Nat × Nat × Nat) : Array Value := #[.slice (some ⟨x.1, 0, none⟩) x.2.1 x.2.2]
def GL (l : List (List Int)) (_ : Nat) (pre : List (Nat × Nat × Nat)) (x : Nat × Nat × Nat) (W : World) : Prop :=
  ∃ s, l[pre.length]? = some s ∧ IsB W (some ⟨x.1, 0, none⟩) x.2.1 x.2.2 (txL s)

set_option maxHeartbeats 4000000 in
theorem leaves_mem (m b : Nat) (a : Option Addr) (n cap : Nat) (l : List (List Int)) (w : World) (h0 : w.cell? ⟨b, 0, none⟩ = some (.slice a n cap)) (hl : IsL w a n cap l) :
    SeqMem Fence.wide m Tryz.prog 66 #[.pointer (some ⟨b, 0, none⟩)] encV (GL l) (fun r => 0 < n ∧ ∃ off, a = some ⟨r, off, none⟩) (fun xs => xs.length = n) n w := by
  intro t J W hW hY hJ0
  refine callsIn_of_wp Tryz.func66 rfl trivial ?_ rfl
  simp only [Tryz.ntmps66, List.size_toArray, List.length_cons, List.length_nil, Nat.reduceAdd, Nat.reduceSub, Array.replicate_succ, Array.replicate_zero, List.push_toArray, List.append_toArray, List.nil_append, List.cons_append]
  have c0 : W.cell? ⟨b, 0, none⟩ = some (.slice a n cap) := (hW.cell (p := ⟨b, 0, none⟩) (block_lt_of_cell h0)).trans h0
  have HL := Seal.mk (hl.of_heap hW)
  have HY := Seal.mk hY
  have HJ0 := Seal.mk hJ0
  have hll := hl.llen
  have hmx := hl.lmax
  clear hY hJ0 hl hW h0
  gi_wp2
  gi_loopw [7] (fun i Wk => ∃ k : Nat, k ≤ n ∧ i = .int .i64 k ∧ Seal (IsL Wk a n cap l ∧ ∃ xs W0, xs.length = k ∧ J xs W0 ∧ Below W0.heap.size W0 Wk ∧ W.heap.size ≤ W0.heap.size)) (fun i _ => n - (intOf i).toNat)
  case atStart => exact ⟨0, by omega, rfl, ⟨HL.out, [], W, rfl, HJ0.out, Below.refl _ _, Nat.le_refl _⟩⟩
  case round =>
    obtain ⟨Wk, rfl⟩ : ∃ z, z = wr := ⟨_, rfl⟩
    obtain ⟨k, hk, rfl, hH⟩ := hrel
    clear c0 HL HJ0
    by_cases hlt : k < n
    · rcases hH.out.1.at_ with hz | ⟨g, off, rfl, hr, hg⟩
      · omega
      · obtain ⟨s, hs⟩ : ∃ s, l[k]? = some s := ⟨_, List.getElem?_eq_getElem (by omega)⟩
        have ok := hH.out.1.each s (List.mem_of_getElem? hs)
        obtain ⟨x0, x1, x2, x3, x4, x5, rfl⟩ := six_of ok.1
        have q5 : (k : Int) < (n : Int) := by omega
        have q6 : (0 : Int) ≤ (k : Int) := by omega
        have c0 := cell_letter hr hH.out.1.each hs (j := 0) rfl
        have c1 := cell_letter hr hH.out.1.each hs (j := 1) rfl
        have c2 := cell_letter hr hH.out.1.each hs (j := 2) rfl
        have c3 := cell_letter hr hH.out.1.each hs (j := 3) rfl
        have c4 := cell_letter hr hH.out.1.each hs (j := 4) rfl
        have c5 := cell_letter hr hH.out.1.each hs (j := 5) rfl
        have OK := Seal.mk ok
        have HS := Seal.mk hs
        clear hr hg ok hs
        rw [Nat.add_zero] at c0
        gi_wp2_with fail
        refine ⟨trivial, fun h => (by cases h), ?_⟩
        refine (callsIn_wide.2 (htext_new [.ci x0 x1, .ci x2 x3, .ci x4 x5] 3 _ (Wk.alloc (.cells #[.int .i64 x0, .int .i64 x1, .int .i64 x2, .int .i64 x3, .int .i64 x4, .int .i64 x5] 118)) (size_alloc _ _) rfl (by decide) (by simp [HA.lfs]) (by simp [HA.lfs]) (by simp [HA.lfs, wgts, Lf.wgt]) (by intro x hx; simp only [List.mem_cons, List.not_mem_nil, or_false] at hx; rcases hx with rfl | rfl | rfl <;> trivial) (by
          intro y hy
          simp only [HA.lfs, List.flatMap_cons, List.flatMap_nil, List.append_nil, List.cons_append, List.nil_append, List.mem_cons, List.not_mem_nil, or_false] at hy
          have h2 := OK.out.2
          rcases hy with rfl | rfl | rfl | rfl | rfl | rfl <;> exact h2 _ (by simp)) _ rfl)).mono ?_
        rintro e w1 ⟨g', n', cap', hn', rfl, hf⟩
        have e0 : encL ([HA.ci x0 x1, .ci x2 x3, .ci x4 x5].flatMap HA.lfs) = txL [x0, x1, x2, x3, x4, x5] := rfl
        rw [e0] at hn' hf
        have hlen := txL_len OK.out
        have hb1 : Below Wk.heap.size Wk w1 := (below_alloc Wk _).trans (hf.out.2.2.2.2.mono (by rw [size_alloc]; omega))
        have hI : IsB w1 (some ⟨g', 0, none⟩) n' cap' (txL [x0, x1, x2, x3, x4, x5]) := ⟨hn'.out, hf.out.1, by have := hn'.out; omega, hf.out.2.1, .inr ⟨g', 0, rfl, hf.out.2.2.2.1, hf.out.2.2.1⟩⟩
        obtain ⟨hL, xs, W0, hxs, hJ, hb0, hsz⟩ := hH.out
        have hL1 := hL.of_heap hb1
        obtain ⟨fn, tmps, asg, body, hy, hR⟩ := HY.out xs (g', n', cap') W0 w1 hJ (hb0.trans (hb1.mono hb0.size)) hsz ⟨_, by rw [hxs]; exact HS.out, hI⟩ (by omega)
        have hR := Seal.mk hR
        have HL1 := Seal.mk hL1
        have HX := Seal.mk (And.intro hxs hsz)
        have HB1 := Seal.mk (hb0.trans (hb1.mono hb0.size))
        dsimp only [encV] at hy
        clear hf hb1 hI hL hL1 hxs hJ hb0 hsz hH c0 c1 c2 c3 c4 c5 e0 hlen
        gi_wp2
        refine ⟨fun h => (by cases h), ?_⟩
        refine hR.out.mono ?_
        rintro e W' ⟨rfl, hJ', hG', hz', hk'⟩
        have hL2 : IsL W' (some ⟨g, off, none⟩) n cap l := ⟨HL1.out.llen, HL1.out.lcap, HL1.out.lmax, HL1.out.cmax, HL1.out.each, by
          rcases HL1.out.at_ with h0 | ⟨g2, o2, e2, hr2, hg2⟩
          · exact .inl h0
          · cases e2
            exact .inr ⟨g, off, rfl, fun j u hu => (World.cell?_of_block (w := w1) (hk' g ⟨by omega, off, rfl⟩)).trans (hr2 j u hu), by omega⟩⟩
        have HN : Seal (IsL W' (some ⟨g, off, none⟩) n cap l ∧ ∃ xs W0, xs.length = k + 1 ∧ J xs W0 ∧ Below W0.heap.size W0 W' ∧ W.heap.size ≤ W0.heap.size) :=
          ⟨hL2, xs ++ [(g', n', cap')], W', by rw [List.length_append, HX.out.1]; rfl, hJ', Below.refl _ _, by have := HB1.out.size; have := HX.out.2; omega⟩
        clear hJ' hG' hz' hk' hL2 hR hy
        gi_wp2
        go_roundw
        case rel => exact ⟨k + 1, by omega, by go_num, HN⟩
        case measure => simp [intOf]; omega
    · obtain rfl : k = n := by omega
      have q5 : ¬ (k : Int) < (k : Int) := by omega
      obtain ⟨hL, xs, W0, hxs, hJ, hb0, hsz⟩ := hH.out
      have HX := Seal.mk (And.intro hxs (And.intro hJ (And.intro hb0 hsz)))
      clear hL hxs hJ hb0 hsz hH
      gi_wp2
      go_end0
      exact ⟨⟨_, rfl⟩, xs, HX.out.1, W0, HX.out.2.1, HX.out.2.2.1, HX.out.2.2.2⟩

/-- a slice of slices of bytes -/
structure IsBs (w : World) (a : Option Addr) (n cap : Nat) (ts : List Bytes) : Prop where
  llen : ts.length = n
  lcap : n ≤ cap
  lmax : n ≤ 1000
  cmax : cap ≤ 9223372036854775807
  at_ : n = 0 ∨ ∃ g off, a = some ⟨g, off, none⟩ ∧ g < w.heap.size ∧ ∀ j t, ts[j]? = some t → ∃ b m c, w.cell? ⟨g, off + j, none⟩ = some (.slice (some ⟨b, 0, none⟩) m c) ∧ IsB w (some ⟨b, 0, none⟩) m c t

theorem IsB.later {w w' : World} {a : Option Addr} {n cap : Nat} {l : Bytes} (h : IsB w a n cap l) (hb : Below w.heap.size w w') : IsB w' a n cap l :=
  ⟨h.llen, h.lcap, h.lmax, h.cmax, by
    rcases h.at_ with h0 | ⟨g, off, e, hr, hg⟩
    · exact .inl h0
    · exact .inr ⟨g, off, e, rangeAt_below' hr hb, Nat.lt_of_lt_of_le hg hb.size⟩⟩

theorem IsBs.of_heap {w w' : World} {a : Option Addr} {n cap : Nat} {ts : List Bytes} (h : IsBs w a n cap ts) (hb : Below w.heap.size w w') : IsBs w' a n cap ts :=
  ⟨h.llen, h.lcap, h.lmax, h.cmax, by
    rcases h.at_ with h0 | ⟨g, off, e, hg, hr⟩
    · exact .inl h0
    · refine .inr ⟨g, off, e, Nat.lt_of_lt_of_le hg hb.size, fun j t ht => ?_⟩
      obtain ⟨b, m, c, hc, hi⟩ := hr j t ht
      exact ⟨b, m, c, (hb.cell (p := ⟨g, off + j, none⟩) (block_lt_of_cell hc)).trans hc, hi.later hb⟩⟩

/-- bytes stay where a block of cells that holds something else, or no cells, is turned -/
theorem IsB.grown' {w w' : World} {g m c : Nat} {l : Bytes} {r : Option Nat} (h : IsB w (some ⟨g, 0, none⟩) m c l) (hg : w.grownBy w' r) (hne : r ≠ some g) : IsB w' (some ⟨g, 0, none⟩) m c l :=
  ⟨h.llen, h.lcap, h.lmax, h.cmax, by
    rcases h.at_ with h0 | ⟨g1, off, e, hr, hlt⟩
    · exact .inl h0
    · cases e
      exact .inr ⟨g, 0, rfl, rangeAt_grown hr hg (fun e' => hne e'.symm), Nat.lt_of_lt_of_le hlt hg.size⟩⟩

theorem isB_cell {w : World} {g m c : Nat} {l : Bytes} (h : IsB w (some ⟨g, 0, none⟩) m c l) (h0 : 0 < l.length) : ∃ x : UInt8, w.cell? ⟨g, 0, none⟩ = some (B x) := by
  rcases h.at_ with hz | ⟨g1, off, e, hr, hlt⟩
  · have := h.llen; omega
  · cases e
    exact ⟨l[0], by have := hr 0 (B l[0]) (by rw [List.getElem?_map, List.getElem?_eq_getElem h0]; rfl); simpa using this⟩

def hdrV (x : Nat × Nat × Nat) : Value := .slice (some ⟨x.1, 0, none⟩) x.2.1 x.2.2

/-- what Collect has gathered -/
structure AS (ts : List Bytes) (w0 : World) (pre : List (Nat × Nat × Nat)) (v : Value) (W : World) : Prop where
  cell : W.heap[w0.heap.size]? = some (.cells #[v] 82 (0, 0))
  own : W.ownsRow (w0.heap.size + 1) 52 1 v pre.length (pre.map hdrV)
  bel : Below w0.heap.size w0 W
  txt : ∀ (j : Nat) (x : Nat × Nat × Nat), pre[j]? = some x → ∃ t, ts[j]? = some t ∧ IsB W (some ⟨x.1, 0, none⟩) x.2.1 x.2.2 t
  big : w0.heap.size + 1 ≤ W.heap.size
  nil : pre = [] → v = .slice none 0 0

theorem cells_ne {A : World} {k b : Nat} {cs : Array Value} {t : TypeId} {fr : Nat × Nat} (h : A.heap[k]? = some (.cells cs t fr)) (ho : ∃ o : Obj, A.heap[b]? = some o ∧ o.isCells = false) : k ≠ b := by
  rintro rfl
  obtain ⟨o, h1, h2⟩ := ho
  rw [h1] at h
  cases h
  cases h2

theorem block_of_cell {A : World} {g i : Nat} {v : Value} (h : A.cell? ⟨g, i, none⟩ = some v) : ∃ o : Obj, A.heap[g]? = some o ∧ o.isCells = true := cells_of_cell h

theorem AS.grown {ts : List Bytes} (hts : ∀ t ∈ ts, 0 < t.length) {w0 : World} {pre : List (Nat × Nat × Nat)} {v : Value} {A B' : World} {r : Option Nat} (h : AS ts w0 pre v A) (hg : A.grownBy B' r)
    (hr : ∀ b, r = some b → w0.heap.size ≤ b ∧ ∃ o : Obj, A.heap[b]? = some o ∧ o.isCells = false) : AS ts w0 pre v B' := by
  refine ⟨(hg.block _ (Array.getElem?_eq_some_iff.1 h.cell).1 (fun e => ?_)).trans h.cell, h.own.kept hg ?_, h.bel.grown hg h.bel.size (fun b e => (hr b e).1), fun j x hx => ?_, Nat.le_trans h.big hg.size, h.nil⟩
  · exact cells_ne h.cell (hr _ e.symm).2 rfl
  · rcases h.own.2 with ⟨rfl, _⟩ | ⟨g, cap, cur, rfl, _, hgc, _⟩
    · exact .inl rfl
    · refine .inr (fun e => cells_ne hgc (hr g (by simpa [Value.ownBlock] using e.symm)).2 rfl)
  · obtain ⟨t, ht, hi⟩ := h.txt j x hx
    refine ⟨t, ht, hi.grown' hg (fun e => ?_)⟩
    obtain ⟨c, hc⟩ := isB_cell hi (hts t (List.mem_of_getElem? ht))
    obtain ⟨o, h1, h2⟩ := block_of_cell hc
    obtain ⟨o', h3, h4⟩ := (hr _ e).2
    rw [h1] at h3; cases h3; rw [h2] at h4; cases h4

theorem AS.apart {ts : List Bytes} {w0 : World} {pre : List (Nat × Nat × Nat)} {v : Value} {W : World} (h : AS ts w0 pre v W) {g m c : Nat} {t : Bytes} (hi : IsB W (some ⟨g, 0, none⟩) m c t) (h0 : 0 < t.length) :
    v.ownBlock ≠ some g ∧ w0.heap.size ≠ g := by
  obtain ⟨x, hx⟩ := isB_cell hi h0
  constructor
  · intro e
    match hp : pre with
    | [] =>
      rw [h.nil rfl] at e; cases e
    | y :: pre' =>
      have hc := h.own.cells (g := g) e
      have := hc 0 (hdrV y) (by simp)
      rw [Addr.add_lit] at this
      rw [Nat.add_zero] at this
      rw [hx] at this
      cases this
  · rintro rfl
    rw [cell_of_row _ _ _ _ _ _ h.cell] at hx
    have hx' : v = B x := by simpa using hx
    rcases h.own.2 with ⟨rfl, _⟩ | ⟨g, cap, cur, rfl, _⟩
    · cases hx'
    · cases hx'

theorem AS.step {ts : List Bytes} (hts : ∀ t ∈ ts, 0 < t.length) {w0 W w5 : World} {pre : List (Nat × Nat × Nat)} {v v5 : Value} {x : Nat × Nat × Nat} {t : Bytes} (h : AS ts w0 pre v W) (ht : ts[pre.length]? = some t) (hi : IsB W (some ⟨x.1, 0, none⟩) x.2.1 x.2.2 t)
    (hown : w5.ownsRow (w0.heap.size + 1) 52 1 v5 (pre.length + 1) (pre.map hdrV ++ [hdrV x])) (hg : (W.alloc (.cells #[hdrV x] 52)).grownBy w5 v.ownBlock) :
    AS ts w0 (pre ++ [x]) v5 (w5.setCell ⟨w0.heap.size, 0, none⟩ v5) ∧ KeepsOthers W (w5.setCell ⟨w0.heap.size, 0, none⟩ v5) ∧ (∀ r, r < w0.heap.size → (w5.setCell ⟨w0.heap.size, 0, none⟩ v5).heap[r]? = W.heap[r]?) ∧
      IsB (w5.setCell ⟨w0.heap.size, 0, none⟩ v5) (some ⟨x.1, 0, none⟩) x.2.1 x.2.2 t := by
  have hbig := h.big
  have hz5 := hg.size
  rw [size_alloc] at hz5
  have vlt := h.own.lt
  have hga : W.grownBy (W.alloc (.cells #[hdrV x] 52)) none := World.grownBy_alloc W _ none
  have hset := grownBy_setCell' w5 w0.heap.size v5
  have mv : ∀ {g m c : Nat} {t : Bytes}, 0 < t.length → IsB W (some ⟨g, 0, none⟩) m c t → IsB (w5.setCell ⟨w0.heap.size, 0, none⟩ v5) (some ⟨g, 0, none⟩) m c t := by
    intro g m c t h0 hi
    obtain ⟨n1, n2⟩ := h.apart hi h0
    exact ((hi.grown' hga (by simp)).grown' hg n1).grown' hset (by intro e; exact n2 (Option.some.inj e))
  have c5 : w5.heap[w0.heap.size]? = some (.cells #[v] 82 (0, 0)) := (hg.block _ (by rw [size_alloc]; omega) (fun e => by have := (vlt _ e.symm).1; omega)).trans ((Below.heap_alloc W _ _ (by omega)).trans h.cell)
  have cell' : (w5.setCell ⟨w0.heap.size, 0, none⟩ v5).heap[w0.heap.size]? = some (.cells #[v5] 82 (0, 0)) := by
    have := heap_setCell_row (cs := [v]) (i := 0) v5 c5
    simpa using this
  have bel5 : Below w0.heap.size w0 w5 := (h.bel.alloc (by omega) _).grown hg (by rw [size_alloc]; omega) (fun k e => by have := (vlt k e).1; omega)
  refine ⟨⟨cell', ?_, bel5.setCell (p := ⟨w0.heap.size, 0, none⟩) (by simp) _, ?_, ?_, by simp⟩, ?_, ?_, mv (hts t (List.mem_of_getElem? ht)) hi⟩
  · have := hown.kept hset (by
      cases hv : v5.ownBlock with
      | none => exact .inl rfl
      | some b => exact .inr (fun e => by have := (hown.lt b hv).1; have := Option.some.inj e; omega))
    rw [List.length_append, List.map_append]
    exact this
  · intro j y hy
    by_cases hj : j < pre.length
    · rw [List.getElem?_append_left hj] at hy
      obtain ⟨t', ht', hi'⟩ := h.txt j y hy
      exact ⟨t', ht', mv (hts t' (List.mem_of_getElem? ht')) hi'⟩
    · have hj2 := (List.getElem?_eq_some_iff.1 hy).1
      rw [List.length_append] at hj2
      simp at hj2
      obtain rfl : j = pre.length := by omega
      rw [List.getElem?_append_right (Nat.le_refl _), Nat.sub_self] at hy
      simp at hy
      subst hy
      exact ⟨t, ht, mv (hts t (List.mem_of_getElem? ht)) hi⟩
  · have := hset.size; omega
  · refine ((KeepsOthers.alloc W _).trans (KeepsOthers.of_grownBy hg (fun j o e ho => ?_))).trans (KeepsOthers.setCell _ _ _)
    rcases h.own.2 with ⟨rfl, _⟩ | ⟨g, cap, cur, rfl, _, hgc, _⟩
    · cases e
    · have hgj : g = j := by simpa [Value.ownBlock] using e
      subst hgj
      rw [Below.heap_alloc W _ _ (Array.getElem?_eq_some_iff.1 hgc).1, hgc] at ho
      cases ho; rfl
  · intro r hr
    refine (hset.block r (by omega) (fun e => by have := Option.some.inj e; omega)).trans ((hg.block r (by rw [size_alloc]; omega) (fun e => by have := (vlt r e.symm).1; omega)).trans (Below.heap_alloc W _ _ (by omega)))

theorem AS.isBs {ts : List Bytes} {w0 W : World} {pre : List (Nat × Nat × Nat)} {v : Value} (h : AS ts w0 pre v W) (hn : pre.length = ts.length) (hm : ts.length ≤ 1000) : ∃ a' c', v = .slice a' ts.length c' ∧ IsBs W a' ts.length c' ts := by
  rcases h.own.2 with ⟨rfl, hz⟩ | ⟨g, cap, cur, rfl, _, hgc, hnc, hcm, _, _⟩
  · exact ⟨none, 0, by rw [← hn, hz], rfl, by omega, hm, by decide, .inl (by omega)⟩
  · refine ⟨some ⟨g, 0, none⟩, cap, by rw [hn], rfl, by omega, hm, by unfold maxLen at hcm; omega, .inr ⟨g, 0, rfl, (Array.getElem?_eq_some_iff.1 hgc).1, fun j t ht => ?_⟩⟩
    have hj := (List.getElem?_eq_some_iff.1 ht).1
    obtain ⟨x, hx⟩ : ∃ x, pre[j]? = some x := ⟨_, List.getElem?_eq_getElem (by omega)⟩
    obtain ⟨t', ht', hi⟩ := h.txt j x hx
    rw [ht] at ht'
    cases ht'
    refine ⟨x.1, x.2.1, x.2.2, ?_, hi⟩
    have := h.own.cells (g := g) rfl j (hdrV x) (by rw [List.getElem?_map, hx]; rfl)
    rw [Addr.add_lit] at this
    exact this

theorem slice_form {w : World} {base : Nat} {e : TypeId} {size n : Nat} {v : Value} {xs : List Value} (h : w.ownsRow base e size v n xs) : ∃ a m c, v = .slice a m c := by
  rcases h.2 with ⟨rfl, _⟩ | ⟨g, cap, cur, rfl, _⟩
  · exact ⟨_, _, _, rfl⟩
  · exact ⟨_, _, _, rfl⟩

theorem AS.heap5 {ts : List Bytes} {w0 : World} {pre : List (Nat × Nat × Nat)} {v : Value} {W w5 : World} {o : Obj} (h : AS ts w0 pre v W) (hg : (W.alloc o).grownBy w5 v.ownBlock) : w5.heap[w0.heap.size]? = some (.cells #[v] 82 (0, 0)) :=
  (hg.block _ (by rw [size_alloc]; have := h.big; omega) (fun e => by have := (h.own.lt _ e.symm).1; omega)).trans ((Below.heap_alloc W _ _ (by have := h.big; omega)).trans h.cell)
theorem AS.cell5 {ts : List Bytes} {w0 : World} {pre : List (Nat × Nat × Nat)} {v : Value} {W w5 : World} {o : Obj} (h : AS ts w0 pre v W) (hg : (W.alloc o).grownBy w5 v.ownBlock) : w5.cell? ⟨w0.heap.size, 0, none⟩ = some v := by
  rw [cell_of_row _ _ _ _ _ _ (h.heap5 hg)]; rfl
theorem AS.froz5 {ts : List Bytes} {w0 : World} {pre : List (Nat × Nat × Nat)} {v : Value} {W w5 : World} {o : Obj} (h : AS ts w0 pre v W) (hg : (W.alloc o).grownBy w5 v.ownBlock) : w5.frozen? ⟨w0.heap.size, 0, none⟩ = false :=
  frozen_of_row _ _ _ _ _ (h.heap5 hg)

section
attribute [local go_sem] Oper.semAt_some

set_option maxHeartbeats 4000000 in
theorem happend_letters (b : Nat) (a : Option Addr) (n cap : Nat) (l : List (List Int)) (w : World) (h0 : w.heap[b]? = some (.cells #[.slice a n cap] 27 (0, 0))) (hl : IsL w a n cap l) :
    Calls Tryz.prog 65 #[.slice none 0 0, .func (.func 66) #[] #[.pointer (some ⟨b, 0, none⟩)]] w fun e w' => ∃ a' c', e = .returned (.slice a' n c') ∧ Seal (IsBs w' a' n c' (l.map txL) ∧ Below w.heap.size w w') := by
  have hbl := (Array.getElem?_eq_some_iff.1 h0).1
  obtain ⟨X, hX⟩ : ∃ X : World, X = w.alloc (.cells #[.slice none 0 0] 82) := ⟨_, rfl⟩
  have hXb : Below w.heap.size w X := by rw [hX]; exact below_alloc _ _
  have hXs : X.heap.size = w.heap.size + 1 := by rw [hX, size_alloc]
  have hXn : X.heap[w.heap.size]? = some (.cells #[.slice none 0 0] 82 (0, 0)) := by rw [hX]; exact heap_alloc_new w _
  have hX0 : X.heap[b]? = some (.cells #[.slice a n cap] 27 (0, 0)) := (hXb.block b hbl).trans h0
  have HX := Seal.mk (And.intro hXb (And.intro hXs (And.intro hXn (And.intro hX0 hbl))))
  have HL := Seal.mk (hl.of_heap hXb)
  have HLw := Seal.mk hl
  have hll := hl.llen
  have hmx := hl.lmax
  have hts : Seal (∀ t ∈ l.map txL, 0 < t.length) := ⟨by
    intro t ht
    obtain ⟨s, hs, rfl⟩ := List.mem_map.1 ht
    exact (txL_len (hl.each s hs)).1⟩
  have hA0 : AS (l.map txL) w [] (.slice none 0 0) X := ⟨hXn, World.ownsRow_nil _ _ _ _, hXb, fun j x h => by simp at h, by omega, fun _ => rfl⟩
  obtain ⟨i0, hi, hz0, hz1, hz2⟩ := info_parts (show (Tryz.prog.info? 52).map (fun i => (i.zero, i.size, i.bytes)) = some (some (.slice none 0 0), 1, 24) by kernel_rfl)
  have HI := Seal.mk (And.intro hi (And.intro hz0 (And.intro hz1 hz2)))
  clear h0 hXb hXs hXn hX0 hbl hl hi hz0 hz1 hz2
  refine (callsIn_wide (n := 3)).1 ?_
  refine callsIn_of_wp_marks Tryz.func65 rfl trivial ?_ rfl
  simp only [Tryz.ntmps65, List.size_toArray, List.length_cons, List.length_nil, Nat.reduceAdd, Nat.reduceSub, Array.replicate_succ, Array.replicate_zero, List.push_toArray, List.append_toArray, List.nil_append, List.cons_append]
  refine wpIn_wide.2 ?_
  go_upto_region 1 with (fail)
  rw [← hX]
  clear hX
  go_wp2_with fail
  refine (wpIn_wide (n := 3)).1 ?_
  refine wpIn_rangeFunc_mem rfl (by decide) (gf := 66) (lb := #[.pointer (some ⟨b, 0, none⟩)]) rfl trivial (enters_of Tryz.func66 (by kernel_rfl) rfl)
    (leaves_mem 2 b a n cap l X (by rw [cell_of_row _ _ _ _ _ _ HX.out.2.2.2.1]; rfl) HL.out)
    ?mine (fun x => rfl) ?gee
    (fun pre W => ∃ v, AS (l.map txL) w pre v W)
    ?own ?none ⟨_, hA0⟩
    (fun x => { tmps := #[.slice none 0 0, .func (.func 66) #[] #[.pointer (some ⟨b, 0, none⟩)], .pointer (some ⟨w.heap.size, 0, none⟩), undef, .slice none 0 0, hdrV x, .func (.func 66) #[] #[.pointer (some ⟨b, 0, none⟩)], hdrV x, undef, undef, undef, undef, undef], defers := [] }) ?assign ?body ?done
  case mine =>
    rintro r ⟨hn, off, rfl⟩
    rcases HL.out.at_ with h | ⟨g, o, e, _, hg⟩
    · omega
    · cases e; exact hg
  case gee =>
    rintro sz pre x A B' _ ⟨s, hs, hi⟩ hg ho
    refine ⟨s, hs, hi.grown' hg (fun e => ?_)⟩
    obtain ⟨c, hc⟩ := isB_cell hi (hts.out _ (List.mem_map.2 ⟨s, List.mem_of_getElem? hs, rfl⟩))
    obtain ⟨o, h1, h2⟩ := block_of_cell hc
    obtain ⟨o', h3, h4⟩ := ho
    rw [Option.some.inj e] at h3
    rw [h1] at h3; cases h3; rw [h2] at h4; cases h4
  case own =>
    rintro pre A B' ⟨v, hA⟩ hg ho
    exact ⟨v, hA.grown hts.out hg (fun b' e => by cases e; exact ⟨by have := HX.out.2.1; omega, ho⟩)⟩
  case none =>
    rintro pre A B' ⟨v, hA⟩ hg
    exact ⟨v, hA.grown hts.out hg (fun b' e => by cases e)⟩
  case assign =>
    intro t x W K hK
    obtain ⟨xg, xn, xc⟩ := x
    unfold encV
    unfold hdrV at hK
    gi_wp2
    exact hK
  case body =>
    rintro t pre x W0 W _ ⟨v, hA⟩ _ _ ⟨s, hs, hi⟩ hlen
    obtain ⟨xg, xn, xc⟩ := x
    have HT : Seal ((l.map txL)[pre.length]? = some (txL s)) := ⟨by rw [List.getElem?_map, hs]; rfl⟩
    have c0 : W.cell? ⟨w.heap.size, 0, none⟩ = some v := by rw [cell_of_row _ _ _ _ _ _ hA.cell]; rfl
    have HA := Seal.mk hA
    have HS := Seal.mk hs
    have HI2 := Seal.mk hi
    have HO : Seal ((W.alloc (.cells #[.slice (some ⟨xg, 0, none⟩) xn xc] 52)).ownsRow (w.heap.size + 1) 52 1 v pre.length (pre.map hdrV)) := ⟨hA.own.alloc _⟩
    have HN : Seal (∀ j u, [Value.slice (some ⟨xg, 0, none⟩) xn xc][j]? = some u → (W.alloc (.cells #[.slice (some ⟨xg, 0, none⟩) xn xc] 52)).cell? ((⟨W.heap.size, 0, none⟩ : Addr).add j) = some u) := ⟨fun j u hu => by
      rw [Addr.add_lit, cell_of_row _ _ _ _ _ _ (heap_alloc_new W _)]
      simpa using hu⟩
    have hbig := hA.big
    have hpl : pre.length ≤ 1000 := by omega
    clear hA hs hi
    unfold hdrV
    gi_wp2_with (refine wpListIn_append_own _ rfl (.tmp 8) (.tmp 10) 82 rfl (w.heap.size + 1) 52 i0 (.slice none 0 0) 1 24 Tryz.underlying82 HI.out.1 HI.out.2.1 HI.out.2.2.1 HI.out.2.2.2 rfl (by decide) v pre.length (pre.map hdrV) rfl HO.out ⟨W.heap.size, 0, none⟩ 1 1 [.slice (some ⟨xg, 0, none⟩) xn xc] rfl rfl HN.out (by simp [Value.oneCell']) (by unfold maxLen; omega) (by omega) (by rw [size_alloc]; omega) ?_; intro v5 w5 hown5 hgrow5 _; have HR := Seal.mk (HA.out.step hts.out (x := (xg, xn, xc)) HT.out HI2.out hown5 hgrow5); obtain ⟨a5, n5, q5, rfl⟩ := slice_form hown5; have c5 := HA.out.cell5 hgrow5; have f5 := HA.out.froz5 hgrow5; clear hown5 hgrow5 c0)
    obtain ⟨r1, r2, r3, r4⟩ := HR.out
    refine ⟨r2, ?_, ⟨s, HS.out, r4⟩, ⟨_, r1⟩⟩
    rintro r ⟨hn, off, rfl⟩
    rcases HLw.out.at_ with h | ⟨g, o, e, _, hg⟩
    · omega
    · cases e; exact r3 r hg
  case done =>
    rintro xs W hS ⟨v, hA⟩ hz hD
    have hn0 : xs.length = (l.map txL).length := by rw [List.length_map, hS, hll]
    have hA' := hA.grown hts.out (grownBy_putObj' W X.heap.size (.deferred none)) (fun b' e => by cases e; exact ⟨by have := HX.out.2.1; omega, _, hD, rfl⟩)
    obtain ⟨a', c', hv, hB⟩ := hA'.isBs hn0 (by rw [List.length_map]; omega)
    have HF := Seal.mk (And.intro hB hA'.bel)
    have c0 : W.cell? ⟨w.heap.size, 0, none⟩ = some v := by rw [cell_of_row _ _ _ _ _ _ hA.cell]; rfl
    rw [List.length_map, hll] at hv
    subst hv
    clear hA hA' hB
    go_wp2
    refine ⟨by simp, .inl ⟨_, _, rfl, run_takeDeferred hD, ?_⟩⟩
    refine ⟨_, by simp [results, Tryz.results65, go_sem], a', c', rfl, ?_⟩
    have hF := HF.out
    rw [List.length_map, hll] at hF
    exact ⟨hF⟩
end

open Go Go.RowKit Go.Proofs Go.Shelf
set_option maxRecDepth 100000

def rJ : Ren := ⟨fun x => if x = 14 then 114 else 116,
  fun x => if x = 0 then 0 else if x = 3 then 3 else if x = 4 then 4 else if x = 5 then 5 else if x = 9 then 9 else if x = 20 then 20 else if x = 22 then 52 else 82, fun x => x⟩

theorem lJ : SlLaysJ.n14 Tryz.prog rJ where
  mixed := by kernel_rfl
  f14 := by kernel_rfl
  f15 := by kernel_rfl
  t0 := by kernel_rfl
  a0 := fun w => by kernel_rfl
  z0 := fun w => by kernel_rfl
  v0 := fun w => by kernel_rfl
  t3 := by kernel_rfl
  a3 := fun w => by kernel_rfl
  z3 := fun w => by kernel_rfl
  v3 := fun w => by kernel_rfl
  t4 := by kernel_rfl
  a4 := fun w => by kernel_rfl
  z4 := fun w => by kernel_rfl
  v4 := fun w => by kernel_rfl
  t9 := by kernel_rfl
  a9 := fun w => by kernel_rfl
  z9 := fun w => by kernel_rfl
  v9 := fun w => by kernel_rfl
  t20 := by kernel_rfl
  a20 := fun w => by kernel_rfl
  z20 := fun w => by kernel_rfl
  v20 := fun w => by kernel_rfl
  t22 := by kernel_rfl
  a22 := fun w => by kernel_rfl
  z22 := fun w => by kernel_rfl
  v22 := fun w => by kernel_rfl
  t26 := by kernel_rfl
  a26 := fun w => by kernel_rfl
  z26 := fun w => by kernel_rfl
  v26 := fun w => by kernel_rfl
  t5 := by kernel_rfl
  z5 := fun w => by kernel_rfl
  i5 := by kernel_rfl

/-- what Join leaves: a new slice of bytes -/
def JoinPost (l : Bytes) (w : World) (e : Ending) (w' : World) : Prop :=
  ∃ g n cap, e = .returned (.slice (some ⟨g, 0, none⟩) n cap) ∧ Seal (IsB w' (some ⟨g, 0, none⟩) n cap l ∧ w.heap.size ≤ g ∧ Below w.heap.size w w')

theorem joinPost_of {l : Bytes} {w w' : World} {e : Ending} (hl : l.length ≤ 140737488355328) (h0 : 0 < l.length) (h : ∃ v', e = .returned v' ∧ Lib.FreshBytes w.heap.size w' v' l ∧ Below w.heap.size w w') : JoinPost l w e w' := by
  obtain ⟨v, rfl, ⟨g, cap, zs, rfl, hg, hlc, hcm, hz, hb, hbs, hc, _⟩, hB⟩ := h
  have hcell : ∀ j u, (l.map B)[j]? = some u → w'.cell? ⟨g, j, none⟩ = some u := by
    intro j u hu
    have hj : j < l.length := by have := (List.getElem?_eq_some_iff.1 hu).1; simpa using this
    rw [hc j (by omega), ← hu, List.getElem?_map]
    have e : l[j]? = some (UInt8.ofNat (zs.getD j 0).toNat) := by
      rw [← hbs]
      unfold Lib.bytesOf
      rw [List.getElem?_map, List.getElem?_take, if_pos hj, List.getElem?_eq_getElem (show j < zs.length by omega)]
      simp [List.getD_eq_getElem?_getD, List.getElem?_eq_getElem (show j < zs.length by omega)]
    rw [e]
    have h2 := hb (zs.getD j 0) (by simp [List.getD_eq_getElem?_getD, List.getElem?_eq_getElem (show j < zs.length by omega)])
    show some (Value.int .u8 _) = some (Value.int .u8 ((UInt8.ofNat (zs.getD j 0).toNat).toNat : Int))
    rw [UInt8.toNat_ofNat_of_lt' (by show _ < 256; omega)]
    congr 2; omega
  refine ⟨g, l.length, cap, rfl, ⟨⟨rfl, hlc, hl, by unfold maxLen at hcm; omega, .inr ⟨g, 0, rfl, fun j u hu => by rw [Nat.zero_add]; exact hcell j u hu, ?_⟩⟩, hg, hB⟩⟩
  have := hcell 0 _ (List.getElem?_eq_getElem (by simpa using h0))
  exact block_lt_of_cell this

theorem join_one (p q : Nat) (a1 : Option Addr) (n1 c1 cp : Nat) (l1 : Bytes) (w : World) (hp : w.cell? ⟨p, q, none⟩ = some (.slice a1 n1 c1)) (h1 : IsB w a1 n1 c1 l1) (h0 : 0 < n1) :
    Calls Tryz.prog 114 #[.slice (some ⟨p, q, none⟩) 1 cp, .slice none 0 0] w (JoinPost l1 w) := by
  obtain ⟨e, _⟩ := h1.llen
  rcases h1.at_ with hz | ⟨g, off, rfl, hr, hg⟩
  · omega
  · exact (Any.bytes_Join_one lJ p q cp ⟨g, off, none⟩ c1 l1 (.slice none 0 0) w hp (fun i x hx => by rw [Addr.add_lit]; exact hr i _ (by rw [List.getElem?_map, hx]; rfl)) h0 h1.lmax).mono fun e w' h => joinPost_of h1.lmax h0 h

theorem join_two (p q : Nat) (a1 a2 : Option Addr) (n1 c1 n2 c2 cp : Nat) (l1 l2 : Bytes) (w : World) (hp : w.cell? ⟨p, q, none⟩ = some (.slice a1 n1 c1)) (hq : w.cell? ⟨p, q + 1, none⟩ = some (.slice a2 n2 c2)) (h1 : IsB w a1 n1 c1 l1) (h2 : IsB w a2 n2 c2 l2) (h0 : 0 < n1) (h3 : 0 < n2) (hc : 2 ≤ cp) (hm : n1 + n2 ≤ 140737488355328) :
    Calls Tryz.prog 114 #[.slice (some ⟨p, q, none⟩) 2 cp, .slice none 0 0] w (JoinPost (l1 ++ l2) w) := by
  have e1 := h1.llen
  have e2 := h2.llen
  rcases h1.at_ with hz | ⟨g1, o1, rfl, r1, _⟩
  · omega
  rcases h2.at_ with hz | ⟨g2, o2, rfl, r2, _⟩
  · omega
  have hj : Lib.join [l1, l2] [] = l1 ++ l2 := by simp [Lib.join]
  have hP : Lib.PartsAt w ⟨p, q, none⟩ [.slice (some ⟨g1, o1, none⟩) n1 c1, .slice (some ⟨g2, o2, none⟩) n2 c2] [l1, l2] := by
    refine ⟨rfl, fun i v hv => ?_, fun i v l hv hl => ?_⟩
    · rw [Addr.add_lit]
      match i, hv with
      | 0, hv => simp at hv; subst hv; exact hp
      | 1, hv => simp at hv; subst hv; exact hq
    · match i, hv, hl with
      | 0, hv, hl =>
        simp at hv hl; subst hv; subst hl
        exact ⟨_, _, by rw [e1], (fun e => by cases e), fun a ha j x hx => by cases ha; rw [Addr.add_lit]; exact r1 j _ (by rw [List.getElem?_map, hx]; rfl)⟩
      | 1, hv, hl =>
        simp at hv hl; subst hv; subst hl
        exact ⟨_, _, by rw [e2], (fun e => by cases e), fun a ha j x hx => by cases ha; rw [Addr.add_lit]; exact r2 j _ (by rw [List.getElem?_map, hx]; rfl)⟩
  have h := Any.bytes_Join_many lJ p q 2 cp _ [l1, l2] (.slice none 0 0) [] w rfl (by decide) hP hc ⟨none, 0, rfl, fun _ => rfl, fun a ha => by cases ha⟩ (by decide) (by simp [Lib.lens]; omega)
  rw [hj] at h
  exact h.mono fun e w' h => joinPost_of (by simp; omega) (by simp; omega) h

theorem below_drewn (w : World) : Below w.heap.size w w.drew := ⟨rfl, rfl, rfl, Nat.le_refl _, fun _ _ => rfl⟩

theorem run_append_full (w : World) (ty : TypeId) (g n : Nat) (l1 : Bytes) (h1 : w.rangeAt g 0 (l1.map B)) (e1 : l1.length = n) (hn : n ≤ 100000) (a2 : Option Addr) (m c : Nat) (l2 : Bytes) (hb : IsB w a2 m c l2) (h0 : 0 < m) (hm : m ≤ 100000) :
    ∃ g' cap' w', (Builtin.append_ #[52, 52] ty #[.slice (some ⟨g, 0, none⟩) n n, .slice a2 m c]).run Tryz.prog w = .ok (.slice (some ⟨g', 0, none⟩) (n + m) cap') w' ∧
      IsB w' (some ⟨g', 0, none⟩) (n + m) cap' (l1 ++ l2) ∧ Below w.heap.size w w' := by
  obtain ⟨i0, hi, hz0, hz1, hz2⟩ := info_parts info_u8
  rcases hb.at_ with hz | ⟨g2, o2, rfl, hr, hg2⟩
  · omega
  · have e2 := hb.llen
    have hrun := run_append_grow (P := Tryz.prog) w 52 ty 5 i0 (.int .u8 0) Tryz.underlying52 hi hz0 ⟨g, 0, none⟩ n n (l1.map B) (by rw [hz1, List.length_map, e1, Nat.mul_one]) (fun j u hu => by rw [Addr.add_mid]; exact h1 j u hu)
      ⟨g2, o2, none⟩ m c (l2.map B) (by rw [hz1, List.length_map, e2, Nat.mul_one]) (fun j u hu => by rw [Addr.add_mid]; exact hr j u hu) (by omega) (by omega) (growslice_fits (by omega) (by rw [hz2]; omega))
    refine ⟨_, _, _, hrun, ⟨by rw [List.length_append, e1, e2], grownCap_ge _ _ _ _, by omega, ?_, .inr ⟨w.heap.size, 0, rfl, ?_, ?_⟩⟩, ?_⟩
    · have := grownCap_le_maxLen w (n + m) n 5 (by unfold maxLen; omega)
      unfold maxLen at this; omega
    · obtain ⟨C, hC⟩ : ∃ C : Array Value, C = (l1.map B).toArray ++ (l2.map B).toArray ++ Builtin.zeroCells (Value.cells (.int .u8 0)) (grownCap w (n + m) n 5 - (n + m)) := ⟨_, rfl⟩
      rw [← hC]
      have ht := rangeAt_take (rangeAt_row (w := w.drew.alloc (.cells C 5)) (g := w.heap.size) (cs := C.toList) (t := 5) (by rw [Array.toArray_toList]; exact heap_alloc_new w.drew _)) (n + m)
      have e : C.toList.take (n + m) = (l1 ++ l2).map B := by
        rw [hC]
        simp only [Array.toList_append, List.map_append]
        rw [List.take_append_of_le_length (by simp; omega), List.take_of_length_le (by simp; omega)]
      rw [e] at ht
      exact ht
    · simp
    · exact ⟨rfl, rfl, rfl, by simp, fun k hk => heap_alloc_old w.drew _ hk⟩

set_option maxHeartbeats 4000000 in
theorem mtext_core (tag : ByteArray) (pa : Option Addr) (pn pc : Nat) (b : Bytes) (w : World) (hG : Glob w) (ht : 0 < tag.size) (ht2 : tag.size ≤ 64) (hb0 : 0 < b.length) (hb1 : b.length ≤ 100000)
    (HJ : ∀ W, Below w.heap.size w W → Calls Tryz.prog 114 #[.slice pa pn pc, .slice none 0 0] W (JoinPost b W)) :
    Calls Tryz.prog 106 #[.string tag, .slice pa pn pc] w (ListPost (sha tag.data.toList ++ b) w) := by
  obtain ⟨ct, W1, hrun, hW1⟩ := conv_str w tag (by omega)
  have hsz1 := hW1.out.2.2.2.2
  have HC1 := Seal.mk (sum_some w.heap.size 0 tag.size ct tag.data.toList W1 (hG.below hW1.out.1) (by simp) hW1.out.2.2.1 (by omega) hW1.out.2.2.2.1 hW1.out.2.1 (by omega))
  have HJ := Seal.mk HJ
  have HD1 : Seal ((Tryz.prog.info? 42).map (·.size) = some ((sha tag.data.toList).map B).length) := ⟨sha_info _⟩
  have HD2 : Seal (((sha tag.data.toList).map B).length = 32) := ⟨by rw [List.length_map, sha_length]⟩
  have HD3 : Seal (∀ u ∈ (sha tag.data.toList).map B, u.oneCell' = true) := ⟨by simp [Value.oneCell']⟩
  obtain ⟨D, hD⟩ : ∃ D, Seal (D = (sha tag.data.toList).map B) := ⟨_, ⟨rfl⟩⟩
  have HSZ := Seal.mk hsz1
  rw [← hD.out] at HD1 HD2 HD3 HC1
  clear hG hsz1
  go_enter Tryz.func106, Tryz.ntmps106
  go_wp2_with (first | (go_at_call 44; refine HC1.out.mono ?_; rintro e w2 ⟨rfl, hb2⟩) | (refine wpList_store_new rfl 42 (.tmp 5) (.tmp 8) rfl [.int .u8 0, .int .u8 0, .int .u8 0, .int .u8 0, .int .u8 0, .int .u8 0, .int .u8 0, .int .u8 0, .int .u8 0, .int .u8 0, .int .u8 0, .int .u8 0, .int .u8 0, .int .u8 0, .int .u8 0, .int .u8 0, .int .u8 0, .int .u8 0, .int .u8 0, .int .u8 0, .int .u8 0, .int .u8 0, .int .u8 0, .int .u8 0, .int .u8 0, .int .u8 0, .int .u8 0, .int .u8 0, .int .u8 0, .int .u8 0, .int .u8 0, .int .u8 0] D 42 rfl rfl HD1.out HD2.out.symm HD3.out ?_))
  have HB2 : Seal (Below w.heap.size w w2) := ⟨hW1.out.1.trans (hb2.mono hW1.out.1.size)⟩
  obtain ⟨X, hX⟩ : ∃ X, X = w2.alloc (.cells D.toArray 42) := ⟨_, rfl⟩
  have rD : X.rangeAt w2.heap.size 0 D := by rw [hX]; exact rangeAt_row (heap_alloc_new w2 _)
  have HBX : Seal (Below w.heap.size w X) := ⟨by rw [hX]; exact HB2.out.alloc HB2.out.size _⟩
  obtain ⟨g5, hg5⟩ : ∃ g, g = w2.heap.size := ⟨_, rfl⟩
  rw [← hX, ← hg5]
  rw [← hg5] at rD
  clear hX hg5 hb2 hrun HC1
  refine wp_region_held_drew (S := fun w' => w'.rangeAt g5 0 D) (by kernel_rfl) rD (fun hHeld => ?_)
  obtain ⟨V, hV⟩ : ∃ V, V = X.drew := ⟨_, rfl⟩
  have rV : V.rangeAt g5 0 D := by rw [hV]; exact rD
  have HV : Seal (Below w.heap.size w V) := ⟨by rw [hV]; exact HBX.out.trans ((below_drewn X).mono HBX.out.size)⟩
  rw [← hV] at hHeld ⊢
  clear hV rD
  have ul := Tryz.underlying42
  refine take_h 0 ?_ rfl (by kernel_rfl) (by kernel_rfl) (by kernel_rfl) (fun _ _ _ h => h) (Or.inl ⟨by kernel_rfl, ?_⟩) (by assumption) ?_
  rotate_left
  · (intro w hSw; (try dsimp only at hSw); go_simp; try (with_reducible rfl))
  try simp only [Act.put, List.setIfInBounds_toArray, List.set_cons_zero, List.set_cons_succ]
  refine take_h 1 ?_ rfl (by kernel_rfl) (by kernel_rfl) (by kernel_rfl) (fun _ _ _ h => h) (Or.inl ⟨by kernel_rfl, ?_⟩) (by assumption) ?_
  rotate_left
  · (intro w hSw; (try dsimp only at hSw); go_simp; try (with_reducible rfl))
  try simp only [Act.put, List.setIfInBounds_toArray, List.set_cons_zero, List.set_cons_succ]
  refine call_h 2 rfl (by kernel_rfl) 114 #[.slice pa pn pc, .slice none 0 0] (by kernel_rfl) (by go_simp) ?_
  refine (HJ.out V HV.out).mono ?_
  rintro e w3 ⟨g3, n3, c3, rfl, hP⟩
  refine ⟨_, rfl, rangeAt_below' rV hP.out.2.2, fun hHeld2 => ?_⟩
  clear hHeld
  try simp only [Act.put, List.setIfInBounds_toArray, List.set_cons_zero, List.set_cons_succ]
  have e3 := hP.out.1.llen
  obtain ⟨g4, c4, w4, hr4, hI4, hb4⟩ := run_append_full w3 52 g5 32 (sha tag.data.toList) (by rw [hD.out] at hHeld2; exact hHeld2) (sha_length _) (by decide) (some ⟨g3, 0, none⟩) n3 c3 b hP.out.1 (by omega) (by omega)
  have hB4 : Below w.heap.size w w4 := (HV.out.trans (hP.out.2.2.mono HV.out.size)).trans (hb4.mono (by have := HV.out.size; have := hP.out.2.2.size; omega))
  refine oper_h 3 (.slice (some ⟨g4, 0, none⟩) (32 + n3) c4) w4 rfl (by kernel_rfl) (by kernel_rfl) (exec_append1 (.tmp 9) (.tmp 11) 52 52 52 rfl rfl _ _ _ rfl rfl hr4) (rangeAt_below' hHeld2 hb4) (fun hHeld3 => ?_)
  have HF := Seal.mk (And.intro hI4 hB4)
  clear hHeld2 hr4 hI4 hb4 hB4 hP
  try simp only [Act.put, List.setIfInBounds_toArray, List.set_cons_zero, List.set_cons_succ]
  refine take_h 4 ?_ rfl (by kernel_rfl) (by kernel_rfl) (by kernel_rfl) (fun _ _ _ h => h) (Or.inl ⟨by kernel_rfl, ?_⟩) (by assumption) ?_
  rotate_left
  · (intro w hSw; (try dsimp only at hSw); go_simp; try (with_reducible rfl))
  try simp only [Act.put, List.setIfInBounds_toArray, List.set_cons_zero, List.set_cons_succ]
  refine wpAnyH_done (by kernel_rfl) ?_ _
  clear hHeld3
  go_wp2
  go_ret
  have hI := HF.out.1
  rcases hI.at_ with h0 | ⟨g', o', e', hr', hg'⟩
  · omega
  · cases e'
    exact ⟨g4, 32 + n3, c4, ⟨hI.llen⟩, rfl, ⟨hI.lcap, hI.cmax, hg', hr', HF.out.2⟩⟩

/-- the digest of a leaf, of two digests -/
def tgLeaf : Bytes := [108, 101, 97, 102]
def tgNode : Bytes := [110, 111, 100, 101]
def leafD (t : Bytes) : Bytes := sha (sha tgLeaf ++ t)
def nodeD (a b : Bytes) : Bytes := sha (sha tgNode ++ (a ++ b))
theorem leafD_len (t : Bytes) : (leafD t).length = 32 := sha_length _
theorem nodeD_len (a b : Bytes) : (nodeD a b).length = 32 := sha_length _

theorem listPost_isB {l : Bytes} {w : World} {e : Ending} {w' : World} (h : ListPost l w e w') (h0 : l.length ≤ 200000) : ∃ g n c, e = .returned (.slice (some ⟨g, 0, none⟩) n c) ∧ IsB w' (some ⟨g, 0, none⟩) n c l ∧ Below w.heap.size w w' := by
  obtain ⟨g, n, c, hn, rfl, hf⟩ := h
  have := hn.out
  exact ⟨g, n, c, rfl, ⟨hn.out, hf.out.1, by omega, hf.out.2.1, .inr ⟨g, 0, rfl, hf.out.2.2.2.1, hf.out.2.2.1⟩⟩, hf.out.2.2.2.2⟩

theorem sum_isB {g n c : Nat} {l : Bytes} {w : World} (hG : Glob w) (h : IsB w (some ⟨g, 0, none⟩) n c l) (h0 : 0 < l.length) :
    Calls Tryz.prog 44 #[.slice (some ⟨g, 0, none⟩) n c] w fun e w' => e = .returned (.agg ((sha l).map B).toArray) ∧ Below w.heap.size w w' := by
  rcases h.at_ with hz | ⟨g', o', e', hr, hg⟩
  · have := h.llen; omega
  · cases e'
    exact sum_some g 0 n c l w hG h.llen h.lcap h.lmax h.cmax hr hg

set_option maxHeartbeats 2000000 in
theorem mleaf_any (a : Option Addr) (n c : Nat) (t : Bytes) (w : World) (hG : Glob w) (h : IsB w a n c t) (h0 : 0 < n) (h1 : n ≤ 1000) :
    Calls Tryz.prog 89 #[.slice a n c] w fun e w' => e = .returned (.agg ((leafD t).map B).toArray) ∧ Below w.heap.size w w' := by
  obtain ⟨X, hX⟩ : ∃ X : World, X = w.alloc (.cells #[.int .u8 0, .int .u8 0, .int .u8 0, .int .u8 0, .int .u8 0, .int .u8 0, .int .u8 0, .int .u8 0, .int .u8 0, .int .u8 0, .int .u8 0, .int .u8 0, .int .u8 0, .int .u8 0, .int .u8 0, .int .u8 0, .int .u8 0, .int .u8 0, .int .u8 0, .int .u8 0, .int .u8 0, .int .u8 0, .int .u8 0, .int .u8 0, .int .u8 0, .int .u8 0, .int .u8 0, .int .u8 0, .int .u8 0, .int .u8 0, .int .u8 0, .int .u8 0] 42) := ⟨_, rfl⟩
  have hXb : Seal (Below w.heap.size w X) := ⟨by rw [hX]; exact below_alloc _ _⟩
  have hXz : Seal (X.heap[w.heap.size]? = some (.cells #[.int .u8 0, .int .u8 0, .int .u8 0, .int .u8 0, .int .u8 0, .int .u8 0, .int .u8 0, .int .u8 0, .int .u8 0, .int .u8 0, .int .u8 0, .int .u8 0, .int .u8 0, .int .u8 0, .int .u8 0, .int .u8 0, .int .u8 0, .int .u8 0, .int .u8 0, .int .u8 0, .int .u8 0, .int .u8 0, .int .u8 0, .int .u8 0, .int .u8 0, .int .u8 0, .int .u8 0, .int .u8 0, .int .u8 0, .int .u8 0, .int .u8 0, .int .u8 0] 42 (0, 0))) := ⟨by rw [hX]; exact heap_alloc_new w _⟩
  have hX1 : X.heap.size = w.heap.size + 1 := by rw [hX, size_alloc]
  have hl := h.llen
  have hb1 : Below w.heap.size w (X.alloc (.cells #[.slice a n c] 52)) := hXb.out.alloc hXb.out.size _
  have HT0 := mtext_core ⟨#[108, 101, 97, 102]⟩ (some ⟨X.heap.size, 0, none⟩) 1 1 t (X.alloc (.cells #[.slice a n c] 52)) (hG.below hb1) (by decide) (by decide) (by omega) (by omega) (fun W hW => join_one X.heap.size 0 a n c 1 t W
      ((hW.cell (p := ⟨X.heap.size, 0, none⟩) (by simp)).trans (by rw [cell_of_row _ _ _ _ _ _ (heap_alloc_new X _)]; rfl)) ((h.later hb1).later hW) h0)
  obtain ⟨S, hS⟩ : ∃ S, S = sha tgLeaf ++ t := ⟨_, rfl⟩
  have eS : leafD t = sha S := by rw [hS, leafD]
  have lS : S.length = 32 + t.length := by rw [hS, List.length_append, sha_length]
  have eT : (⟨#[108, 101, 97, 102]⟩ : ByteArray).data.toList = tgLeaf := rfl
  rw [eT, ← hS] at HT0
  have HT := Seal.mk HT0
  rw [eS]
  clear HT0 hS eS eT
  obtain ⟨D, hD⟩ : ∃ D, D = ((sha S).map B).toArray := ⟨_, rfl⟩
  have ID : Seal ((Tryz.prog.info? 42).map (·.size) = some D.size) := ⟨by rw [hD, List.size_toArray]; exact sha_info _⟩
  have SD : Seal ((#[.int .u8 0, .int .u8 0, .int .u8 0, .int .u8 0, .int .u8 0, .int .u8 0, .int .u8 0, .int .u8 0, .int .u8 0, .int .u8 0, .int .u8 0, .int .u8 0, .int .u8 0, .int .u8 0, .int .u8 0, .int .u8 0, .int .u8 0, .int .u8 0, .int .u8 0, .int .u8 0, .int .u8 0, .int .u8 0, .int .u8 0, .int .u8 0, .int .u8 0, .int .u8 0, .int .u8 0, .int .u8 0, .int .u8 0, .int .u8 0, .int .u8 0, .int .u8 0] : Array Value).size = D.size) := ⟨by show 32 = D.size; rw [hD, List.size_toArray, List.length_map, sha_length]⟩
  have AD : Seal (D.all (·.oneCell') = true) := ⟨by rw [hD]; simp [Value.oneCell']⟩
  have HD := Seal.mk hD
  have HB1 := Seal.mk hb1
  have HG := Seal.mk hG
  rw [← hD]
  have HN := Seal.mk (And.intro hX1 (And.intro hl lS))
  clear hG h hD hb1 hX1 hl lS
  go_enter Tryz.func89, Tryz.ntmps89
  go_upto_region 1 with (fail)
  rw [← hX]
  clear hX
  go_wp2_with fail
  refine HT.out.mono ?_
  intro e w1 hp
  have ⟨hX1, hl, lS⟩ := HN.out
  obtain ⟨g1, n1, c1, rfl, hI, hb2⟩ := listPost_isB hp (by omega)
  have HB2 : Seal (Below w.heap.size w w1) := ⟨HB1.out.trans (hb2.mono HB1.out.size)⟩
  have HZ1 : Seal (w1.heap[w.heap.size]? = some (.cells #[.int .u8 0, .int .u8 0, .int .u8 0, .int .u8 0, .int .u8 0, .int .u8 0, .int .u8 0, .int .u8 0, .int .u8 0, .int .u8 0, .int .u8 0, .int .u8 0, .int .u8 0, .int .u8 0, .int .u8 0, .int .u8 0, .int .u8 0, .int .u8 0, .int .u8 0, .int .u8 0, .int .u8 0, .int .u8 0, .int .u8 0, .int .u8 0, .int .u8 0, .int .u8 0, .int .u8 0, .int .u8 0, .int .u8 0, .int .u8 0, .int .u8 0, .int .u8 0] 42 (0, 0))) := ⟨(hb2.block _ (by rw [size_alloc]; omega)).trans ((Below.heap_alloc X _ _ (by omega)).trans hXz.out)⟩
  have HS : Seal _ := ⟨sum_isB (HG.out.below HB2.out) hI (by omega)⟩
  clear hp hI hb2 HT hX1 hl lS
  go_wp2_with fail
  refine HS.out.mono ?_
  rintro e w2 ⟨rfl, hb3⟩
  have HZ2 : Seal (w2.heap[w.heap.size]? = some (.cells #[.int .u8 0, .int .u8 0, .int .u8 0, .int .u8 0, .int .u8 0, .int .u8 0, .int .u8 0, .int .u8 0, .int .u8 0, .int .u8 0, .int .u8 0, .int .u8 0, .int .u8 0, .int .u8 0, .int .u8 0, .int .u8 0, .int .u8 0, .int .u8 0, .int .u8 0, .int .u8 0, .int .u8 0, .int .u8 0, .int .u8 0, .int .u8 0, .int .u8 0, .int .u8 0, .int .u8 0, .int .u8 0, .int .u8 0, .int .u8 0, .int .u8 0, .int .u8 0] 42 (0, 0))) := ⟨blk hb3 (Array.getElem?_eq_some_iff.1 HZ1.out).1 HZ1.out⟩
  have HB3 : Seal (Below w.heap.size w w2) := ⟨HB2.out.trans (hb3.mono HB2.out.size)⟩
  rw [← HD.out]
  clear hb3 HS HZ1
  go_wp2_with (refine wpList_store_row rfl 42 (.tmp 2) (.tmp 6) rfl w.heap.size D rfl rfl 42 #[.int .u8 0, .int .u8 0, .int .u8 0, .int .u8 0, .int .u8 0, .int .u8 0, .int .u8 0, .int .u8 0, .int .u8 0, .int .u8 0, .int .u8 0, .int .u8 0, .int .u8 0, .int .u8 0, .int .u8 0, .int .u8 0, .int .u8 0, .int .u8 0, .int .u8 0, .int .u8 0, .int .u8 0, .int .u8 0, .int .u8 0, .int .u8 0, .int .u8 0, .int .u8 0, .int .u8 0, .int .u8 0, .int .u8 0, .int .u8 0, .int .u8 0, .int .u8 0] HZ2.out ID.out SD.out AD.out ?_)
  exact bodyPost_ret (results_cell_row (fn := Tryz.f89) rfl _ _ w.heap.size 42 D (0, 0) _ rfl (setRow_heap _ _ _ _ _ _ HZ2.out) Tryz.underlying42 rfl ID.out) rfl ⟨rfl, below_row HB3.out (Nat.le_refl _) _⟩

set_option maxHeartbeats 2000000 in
theorem mnode_any (x y : Bytes) (w : World) (hG : Glob w) (hx : x.length = 32) (hy : y.length = 32) :
    Calls Tryz.prog 107 #[.agg (x.map B).toArray, .agg (y.map B).toArray] w (ListPost (sha tgNode ++ (x ++ y)) w) := by
  obtain ⟨CX, hCX⟩ : ∃ C, C = x.map B := ⟨_, rfl⟩
  obtain ⟨CY, hCY⟩ : ∃ C, C = y.map B := ⟨_, rfl⟩
  obtain ⟨X, hX⟩ : ∃ X : World, X = (w.alloc (.cells CX.toArray 42)).alloc (.cells CY.toArray 42) := ⟨_, rfl⟩
  have hXb : Seal (Below w.heap.size w X) := ⟨by rw [hX]; exact ((Below.refl _ w).alloc (Nat.le_refl _) _).alloc (by simp) _⟩
  have rx : X.rangeAt w.heap.size 0 (x.map B) := by rw [hX, hCX]; exact World.rangeAt_alloc (rangeAt_row (heap_alloc_new w _)) _
  have ry : X.rangeAt (w.heap.size + 1) 0 (y.map B) := by
    rw [hX, hCY]
    have := heap_alloc_new (w.alloc (.cells CX.toArray 42)) (.cells (y.map B).toArray 42)
    rw [size_alloc] at this
    exact rangeAt_row this
  have hz : X.heap.size = w.heap.size + 2 := by rw [hX]; simp
  have HIx : Seal (IsB X (some ⟨w.heap.size, 0, none⟩) 32 32 x) := ⟨⟨hx, Nat.le_refl _, by decide, by decide, .inr ⟨_, 0, rfl, rx, by omega⟩⟩⟩
  have HIy : Seal (IsB X (some ⟨w.heap.size + 1, 0, none⟩) 32 32 y) := ⟨⟨hy, Nat.le_refl _, by decide, by decide, .inr ⟨_, 0, rfl, ry, by omega⟩⟩⟩
  have HG := Seal.mk (hG.below hXb.out)
  obtain ⟨S, hS⟩ : ∃ S, S = sha tgNode ++ (x ++ y) := ⟨_, rfl⟩
  have HC : Seal (∀ V, Below X.heap.size X V → Calls Tryz.prog 106 #[.string ⟨#[110, 111, 100, 101]⟩, .slice (some ⟨V.heap.size, 0, none⟩) 2 2] (V.alloc (.cells #[.slice (some ⟨w.heap.size, 0, none⟩) 32 32, .slice (some ⟨w.heap.size + 1, 0, none⟩) 32 32] 52)) (ListPost S (V.alloc (.cells #[.slice (some ⟨w.heap.size, 0, none⟩) 32 32, .slice (some ⟨w.heap.size + 1, 0, none⟩) 32 32] 52)))) := ⟨by
    intro V hV
    have hb1 := hV.alloc hV.size (.cells #[.slice (some ⟨w.heap.size, 0, none⟩) 32 32, .slice (some ⟨w.heap.size + 1, 0, none⟩) 32 32] 52)
    have h := mtext_core ⟨#[110, 111, 100, 101]⟩ (some ⟨V.heap.size, 0, none⟩) 2 2 (x ++ y) (V.alloc (.cells #[.slice (some ⟨w.heap.size, 0, none⟩) 32 32, .slice (some ⟨w.heap.size + 1, 0, none⟩) 32 32] 52)) (HG.out.below hb1) (by decide) (by decide) (by rw [List.length_append]; omega) (by rw [List.length_append]; omega)
      (fun W hW => join_two V.heap.size 0 _ _ 32 32 32 32 2 x y W ((hW.cell (p := ⟨V.heap.size, 0, none⟩) (by simp)).trans (by rw [cell_of_row _ _ _ _ _ _ (heap_alloc_new V _)]; rfl)) ((hW.cell (p := ⟨V.heap.size, 1, none⟩) (by simp)).trans (by rw [cell_of_row _ _ _ _ _ _ (heap_alloc_new V _)]; rfl))
        ((HIx.out.later hb1).later (hW.mono (by rw [size_alloc]; omega))) ((HIy.out.later hb1).later (hW.mono (by rw [size_alloc]; omega))) (by decide) (by decide) (by decide) (by decide))
    have eT : (⟨#[110, 111, 100, 101]⟩ : ByteArray).data.toList = tgNode := rfl
    rw [eT, ← hS] at h
    exact h⟩
  rw [← hS, ← hCX, ← hCY]
  clear hG hx hy hCX hCY rx ry hz hS HIx HIy
  go_enter Tryz.func107, Tryz.ntmps107
  go_upto_region 1 with (fail)
  rw [← hX]
  clear hX
  have ul := Tryz.underlying42
  refine wp_region_held_drew (S := fun _ => True) (by kernel_rfl) trivial (fun hHeld => ?_)
  obtain ⟨V, hV⟩ : ∃ V, V = X.drew := ⟨_, rfl⟩
  have HV : Seal (Below X.heap.size X V) := ⟨by rw [hV]; exact below_drewn X⟩
  rw [← hV]
  clear hV
  refine take_h 0 ?_ rfl (by kernel_rfl) (by kernel_rfl) (by kernel_rfl) (fun _ _ _ h => h) (Or.inl ⟨by kernel_rfl, ?_⟩) (by assumption) ?_
  rotate_left
  · (intro w hSw; (try dsimp only at hSw); go_simp; try (with_reducible rfl))
  try simp only [Act.put, List.setIfInBounds_toArray, List.set_cons_zero, List.set_cons_succ]
  refine take_h 1 ?_ rfl (by kernel_rfl) (by kernel_rfl) (by kernel_rfl) (fun _ _ _ h => h) (Or.inl ⟨by kernel_rfl, ?_⟩) (by assumption) ?_
  rotate_left
  · (intro w hSw; (try dsimp only at hSw); go_simp; try (with_reducible rfl))
  try simp only [Act.put, List.setIfInBounds_toArray, List.set_cons_zero, List.set_cons_succ]
  refine oper_h 2 (.slice (some ⟨V.heap.size, 0, none⟩) 2 2) (V.alloc (.cells #[.slice (some ⟨w.heap.size, 0, none⟩) 32 32, .slice (some ⟨w.heap.size + 1, 0, none⟩) 32 32] 52)) rfl (by kernel_rfl) (by kernel_rfl) (by go_simp) trivial (fun _ => ?_)
  try simp only [Act.put, List.setIfInBounds_toArray, List.set_cons_zero, List.set_cons_succ]
  refine call_h 3 rfl (by kernel_rfl) 106 #[.string ⟨#[110, 111, 100, 101]⟩, .slice (some ⟨V.heap.size, 0, none⟩) 2 2] (by kernel_rfl) (by go_simp) ?_
  refine (HC.out V HV.out).mono ?_
  rintro e w3 ⟨g3, n3, c3, hn3, rfl, hf⟩
  have HB : Seal (Below w.heap.size w w3) := ⟨((hXb.out.trans (HV.out.mono hXb.out.size)).alloc (by have := hXb.out.size; have := HV.out.size; omega) _).trans (hf.out.2.2.2.2.mono (by rw [size_alloc]; have := hXb.out.size; have := HV.out.size; omega))⟩
  refine ⟨_, rfl, trivial, fun _ => ?_⟩
  try simp only [Act.put, List.setIfInBounds_toArray, List.set_cons_zero, List.set_cons_succ]
  refine take_h 4 ?_ rfl (by kernel_rfl) (by kernel_rfl) (by kernel_rfl) (fun _ _ _ h => h) (Or.inl ⟨by kernel_rfl, ?_⟩) (by assumption) ?_
  rotate_left
  · (intro w hSw; (try dsimp only at hSw); go_simp; try (with_reducible rfl))
  try simp only [Act.put, List.setIfInBounds_toArray, List.set_cons_zero, List.set_cons_succ]
  refine wpAnyH_done (by kernel_rfl) ?_ _
  go_wp2
  go_ret
  exact ⟨g3, n3, c3, hn3, rfl, ⟨hf.out.1, hf.out.2.1, hf.out.2.2.1, hf.out.2.2.2.1, HB.out⟩⟩

def upB : List Bytes → List Bytes
  | a :: b :: r => nodeD a b :: upB r
  | r => r

theorem upB_len : ∀ l : List Bytes, (upB l).length = (l.length + 1) / 2
  | [] => rfl
  | [_] => by simp [upB]
  | a :: b :: r => by
    show (upB r).length + 1 = _
    rw [upB_len r]; simp only [List.length_cons]; omega
theorem upB_32 : ∀ l : List Bytes, (∀ d ∈ l, d.length = 32) → ∀ d ∈ upB l, d.length = 32
  | [], _ => by simp [upB]
  | [x], h => by simpa [upB] using h
  | a :: b :: r, h => by
    intro d hd
    have hd' : d = nodeD a b ∨ d ∈ upB r := by simpa [upB] using hd
    rcases hd' with rfl | hd'
    · exact nodeD_len a b
    · exact upB_32 r (fun d hd => h d (by simp [hd])) d hd'

theorem info_dgm : (Tryz.prog.info? 42).map (fun i => (i.zero, i.size, i.bytes)) = some (some (.agg (List.replicate 32 (Value.int .u8 0)).toArray), 32, 32) := by kernel_rfl

theorem dcells_snoc (l : List Bytes) (d : Bytes) : dcells (l ++ [d]) = dcells l ++ d.map B := by unfold dcells; simp
theorem dcells_app (l r : List Bytes) : dcells (l ++ r) = dcells l ++ dcells r := by unfold dcells; simp
theorem dcells_len {l : List Bytes} (h : ∀ d ∈ l, d.length = 32) : (dcells l).length = l.length * 32 := by
  induction l with
  | nil => rfl
  | cons a l ih =>
    have h1 := h a (by simp)
    have h2 := ih (fun d hd => h d (by simp [hd]))
    unfold dcells at h2 ⊢
    simp only [List.flatten_cons, List.map_append, List.length_append, List.length_map, List.length_cons] at h2 ⊢
    rw [h2, h1]; omega
theorem dcells_oneC (l : List Bytes) : ∀ u ∈ dcells l, u.oneCell' = true := by
  intro u hu
  unfold dcells at hu
  obtain ⟨b, _, rfl⟩ := List.mem_map.1 hu
  rfl

/-- a digest appended to a slice that the call owns -/
theorem run_app_dg (w : World) (ty : TypeId) (base : Nat) (v : Value) (n : Nat) (l : List Bytes) (d : Bytes) (gd : Nat) (hown : w.ownsRow base 42 32 v n (dcells l)) (hd : w.rangeAt gd 0 (d.map B)) (h32 : d.length = 32) (hn : n ≤ 1000) (hb : base ≤ w.heap.size) :
    ∃ v' w', (Builtin.append_ #[24, 24] ty #[v, .slice (some ⟨gd, 0, none⟩) 1 1]).run Tryz.prog w = .ok v' w' ∧ w'.ownsRow base 42 32 v' (n + 1) (dcells (l ++ [d])) ∧ w.grownBy w' v.ownBlock := by
  obtain ⟨i0, hi, hz0, hz1, hz2⟩ := info_parts info_dgm
  obtain ⟨v', w', hr, h2, h3, _⟩ := run_append_own (P := Tryz.prog) w base 24 ty 42 i0 _ 32 32 Tryz.underlying24 hi hz0 hz1 hz2 (by kernel_rfl) (by decide) v n (dcells l) hown ⟨gd, 0, none⟩ 1 1 (d.map B) (by rw [List.length_map, h32]) (fun j u hu => by rw [Addr.add_mid]; exact hd j u hu) (by simp [Value.oneCell']) (by unfold maxLen; omega) (by omega) hb
  rw [dcells_snoc]
  exact ⟨v', w', hr, h2, h3⟩

/-- what is left of a row, appended -/
theorem run_app_row (w : World) (ty : TypeId) (base : Nat) (v : Value) (n : Nat) (l r : List Bytes) (g off m c : Nat) (hown : w.ownsRow base 42 32 v n (dcells l)) (hm : r.length = m) (hr : w.rangeAt g off (dcells r)) (h32 : ∀ d ∈ r, d.length = 32) (hn : n ≤ 1000) (hm1 : m ≤ 1000) (hb : base ≤ w.heap.size) :
    ∃ v' w', (Builtin.append_ #[24, 24] ty #[v, .slice (some ⟨g, off, none⟩) m c]).run Tryz.prog w = .ok v' w' ∧ w'.ownsRow base 42 32 v' (n + m) (dcells (l ++ r)) ∧ w.grownBy w' v.ownBlock := by
  obtain ⟨i0, hi, hz0, hz1, hz2⟩ := info_parts info_dgm
  obtain ⟨v', w', hr', h2, h3, _⟩ := run_append_own (P := Tryz.prog) w base 24 ty 42 i0 _ 32 32 Tryz.underlying24 hi hz0 hz1 hz2 (by kernel_rfl) (by decide) v n (dcells l) hown ⟨g, off, none⟩ m c (dcells r) (by rw [dcells_len h32, hm]) (fun j u hu => by rw [Addr.add_mid]; exact hr j u hu) (dcells_oneC r) (by unfold maxLen; omega) (by omega) hb
  rw [dcells_app]
  exact ⟨v', w', hr', h2, h3⟩

/-- a row of digests that lies from base on -/
def RowAt (w : World) (base : Nat) (v : Value) (l : List Bytes) : Prop := ∃ g off cap, v = .slice (some ⟨g, off, none⟩) l.length cap ∧ l.length ≤ cap ∧ cap ≤ 9223372036854775807 ∧ base ≤ g ∧ g < w.heap.size ∧ w.rangeAt g off (dcells l)

theorem rowAt_own {w : World} {base : Nat} {v : Value} {l : List Bytes} (h : w.ownsRow base 42 32 v l.length (dcells l)) (h0 : 0 < l.length) : RowAt w base v l := by
  rcases h.2 with ⟨rfl, hz⟩ | ⟨g, cap, cur, rfl, hb, hg, hnc, hcm, hcs, htk⟩
  · omega
  · refine ⟨g, 0, cap, rfl, hnc, by unfold maxLen at hcm; omega, hb, (Array.getElem?_eq_some_iff.1 hg).1, ?_⟩
    have hr := rangeAt_take (rangeAt_row (cs := cur.toList) (by simpa using hg)) (l.length * 32)
    rw [htk] at hr
    exact hr

theorem rangeAt_skip {w : World} {g off : Nat} {x y : Bytes} {r : List Bytes} (h : w.rangeAt g off (dcells (x :: y :: r))) (hx : x.length = 32) (hy : y.length = 32) :
    w.rangeAt g off (x.map B) ∧ w.rangeAt g (off + 32) (y.map B) ∧ w.rangeAt g (off + 64) (dcells r) := by
  have e : dcells (x :: y :: r) = x.map B ++ (y.map B ++ dcells r) := by unfold dcells; simp
  rw [e] at h
  have lx : (x.map B).length = 32 := by rw [List.length_map, hx]
  have ly : (y.map B).length = 32 := by rw [List.length_map, hy]
  refine ⟨?_, ?_, ?_⟩
  · have := rangeAt_take h 32
    rwa [List.take_left' lx] at this
  · have := rangeAt_take (rangeAt_drop h 32) 32
    rwa [List.drop_left' lx, List.take_left' ly] at this
  · have := rangeAt_drop h 64
    rw [show (64 : Nat) = 32 + 32 from rfl, ← List.drop_drop, List.drop_left' lx, List.drop_left' ly] at this
    exact this

theorem wl_append1 {P : Program} {ops : Array Oper} {rest : List Oper} {o : Oper} {a : Act} {w w' : World} {Q : Exit → Act → World → Prop} (hgd : o.guard = none) (s x : Operand) (t tn ty : TypeId) (hty : o.type = ty)
    (ho : o.op = .call { callee := .builtin .append, args := #[s, x], argTypes := #[t, tn] }) (sv xv v : Value) (hs : a.eval s = sv) (hx : a.eval x = xv)
    (hrun : (Builtin.append_ #[t, tn] ty #[sv, xv]).run P w = .ok v w') (h : wpList P ops Q rest (a.put o.dst v) w') : wpList P ops Q (o :: rest) a w :=
  wpList_plain hgd fun K hK => by
    subst hty
    unfold Oper.wp
    simp [execOp, ho, resolve, invoke, builtin, hs, hx, hrun, Result.andThen]
    exact hK _ _ h

/-- how far up has come -/
structure UpRel (l : List Bytes) (w : World) (g o m c : Nat) (out rest : List Bytes) (v : Value) (W : World) : Prop where
  eq : upB l = out ++ upB rest
  cnt : out.length + rest.length ≤ l.length
  len : rest.length = m
  mc : m ≤ c
  cm : c ≤ 9223372036854775807
  row : W.rangeAt g o (dcells rest)
  d32 : ∀ d ∈ rest, d.length = 32
  own : W.ownsRow w.heap.size 42 32 v out.length (dcells out)
  bel : Below w.heap.size w W

theorem UpRel.later {l : List Bytes} {w : World} {g o m c : Nat} {out rest : List Bytes} {v : Value} {W W' : World} (h : UpRel l w g o m c out rest v W) (hb : Below W.heap.size W W') (_ : g < w.heap.size) : UpRel l w g o m c out rest v W' :=
  ⟨h.eq, h.cnt, h.len, h.mc, h.cm, rangeAt_below' h.row hb, h.d32, ownsRow_below h.own hb, h.bel.trans (hb.mono h.bel.size)⟩

set_option maxHeartbeats 8000000 in
theorem mup_any (g off n cap : Nat) (l : List Bytes) (w : World) (hG : Glob w) (hl : l.length = n) (h32 : ∀ d ∈ l, d.length = 32) (h1 : 0 < n) (hm : n ≤ 100) (hc : n ≤ cap) (hc2 : cap ≤ 9223372036854775807) (hr : w.rangeAt g off (dcells l)) (hg : g < w.heap.size) :
    Calls Tryz.prog 90 #[.slice (some ⟨g, off, none⟩) n cap] w fun e w' => ∃ v, e = .returned v ∧ Seal (RowAt w' w.heap.size v (upB l) ∧ Below w.heap.size w w') := by
  have HG := Seal.mk hG
  have HN := Seal.mk (And.intro hl (And.intro h1 hm))
  have HG2 := Seal.mk hg
  have H0 : Seal (UpRel l w g off n cap [] l (.slice none 0 0) w) := ⟨⟨rfl, by simp, hl, hc, hc2, hr, h32, World.ownsRow_nil _ _ _ _, Below.refl _ _⟩⟩
  clear hG hl h32 h1 hm hc hc2 hr hg
  go_enter Tryz.func90, Tryz.ntmps90
  go_wp2
  go_loopw [0, 2] (fun row nx wr => ∃ (o m c : Nat) (out rest : List Bytes) (v : Value), row = .slice (some ⟨g, o, none⟩) m c ∧ v = nx ∧ Seal (UpRel l w g o m c out rest v wr)) (fun row _ _ => (match row with | .slice _ m _ => m | _ => 0))
  case atStart => exact ⟨off, n, cap, [], l, _, rfl, rfl, H0⟩
  case round =>
    obtain ⟨wo, rfl⟩ : ∃ z, z = wr := ⟨_, rfl⟩
    obtain ⟨o, m, c, out, rest, v, rfl, rfl, hH⟩ := hrel
    clear H0
    by_cases hm : 1 < m
    · have q1 : (1 : Int) < (m : Int) := by omega
      obtain ⟨x, y, r, rfl⟩ : ∃ x y r, rest = x :: y :: r := by
        have := hH.out.len
        match rest, this with
        | [], h => simp at h; omega
        | [_], h => simp at h; omega
        | x :: y :: r, _ => exact ⟨x, y, r, rfl⟩
      have x32 := hH.out.d32 x (by simp)
      have y32 := hH.out.d32 y (by simp)
      obtain ⟨r1, r2, r3⟩ := rangeAt_skip hH.out.row x32 y32
      have iX := dg_info x x32
      have iY := dg_info y y32
      have uD := Tryz.underlying42
      have q2 : (0 : Int) < (m : Int) := by omega
      have q6 : 0 < m := by omega
      have mc := hH.out.mc
      have q3 : (2 : Int) ≤ (m : Int) := by omega
      have q4 : (m : Int) ≤ (c : Int) := by omega
      have q5 : (2 : Int) ≤ (c : Int) := by omega
      have HNode : Seal (∀ W, Glob W → Calls Tryz.prog 107 #[.agg (x.map B).toArray, .agg (y.map B).toArray] W (ListPost (sha tgNode ++ (x ++ y)) W)) := ⟨fun W h => mnode_any x y W h x32 y32⟩
      obtain ⟨S, hS⟩ : ∃ S, S = sha tgNode ++ (x ++ y) := ⟨_, rfl⟩
      have HS : Seal (nodeD x y = sha S ∧ S.length = 96) := ⟨by rw [hS, nodeD], by rw [hS, List.length_append, sha_length, List.length_append, x32, y32]⟩
      rw [← hS] at HNode
      have R3 := Seal.mk r3
      clear hS r3 x32 y32
      go_wp2_with fail
      refine wp_region_held_drew (S := fun w' => w'.rangeAt g o (x.map B) ∧ w'.rangeAt g (o + 32) (y.map B)) (by kernel_rfl) ⟨r1, r2⟩ (fun hHeld => ?_)
      obtain ⟨V, hV⟩ : ∃ V, V = wo.drew := ⟨_, rfl⟩
      have s1 : V.rangeAt g o (x.map B) := by rw [hV]; exact r1
      have s2 : V.rangeAt g (o + 32) (y.map B) := by rw [hV]; exact r2
      have HV : Seal (Below wo.heap.size wo V) := ⟨by rw [hV]; exact below_drewn wo⟩
      rw [← hV] at hHeld ⊢
      clear hV r1 r2
      refine take_h 0 ?_ rfl (by kernel_rfl) (by kernel_rfl) (by kernel_rfl) (fun _ _ _ h => h) (Or.inl ⟨by kernel_rfl, ?_⟩) (by assumption) ?_
      rotate_left
      · (intro w hSw; (try dsimp only at hSw); go_simp; try (with_reducible rfl))
      try simp only [Act.put, List.setIfInBounds_toArray, List.set_cons_zero, List.set_cons_succ]
      refine take_h 1 ?_ rfl (by kernel_rfl) (by kernel_rfl) (by kernel_rfl) (fun _ _ _ h => h) (Or.inl ⟨by kernel_rfl, ?_⟩) (by assumption) ?_
      rotate_left
      · (intro w hSw; (try dsimp only at hSw); go_simp; try (with_reducible rfl))
      try simp only [Act.put, List.setIfInBounds_toArray, List.set_cons_zero, List.set_cons_succ]
      refine take_h 2 ?_ rfl (by kernel_rfl) (by kernel_rfl) (by kernel_rfl) (fun _ _ _ h => h) (Or.inl ⟨by kernel_rfl, ?_⟩) (by assumption) ?_
      rotate_left
      · (intro w hSw; (try dsimp only at hSw); go_simp; try (with_reducible rfl))
      try simp only [Act.put, List.setIfInBounds_toArray, List.set_cons_zero, List.set_cons_succ]
      refine take_h 3 _ rfl (by kernel_rfl) (by kernel_rfl) (by kernel_rfl) (fun _ _ _ h => h) (yieldsIf_load_mid (by kernel_rfl) 42 (.tmp 8) rfl g o rfl (x.map B) _ (fun w hSw => hSw.1) uD rfl iX) (by assumption) ?_
      try simp only [Act.put, List.setIfInBounds_toArray, List.set_cons_zero, List.set_cons_succ]
      refine take_h 4 ?_ rfl (by kernel_rfl) (by kernel_rfl) (by kernel_rfl) (fun _ _ _ h => h) (Or.inl ⟨by kernel_rfl, ?_⟩) (by assumption) ?_
      rotate_left
      · (intro w hSw; (try dsimp only at hSw); go_simp; try (with_reducible rfl))
      try simp only [Act.put, List.setIfInBounds_toArray, List.set_cons_zero, List.set_cons_succ]
      refine take_h 5 ?_ rfl (by kernel_rfl) (by kernel_rfl) (by kernel_rfl) (fun _ _ _ h => h) (Or.inl ⟨by kernel_rfl, ?_⟩) (by assumption) ?_
      rotate_left
      · (intro w hSw; (try dsimp only at hSw); go_simp; try (with_reducible rfl))
      try simp only [Act.put, List.setIfInBounds_toArray, List.set_cons_zero, List.set_cons_succ]
      refine take_h 6 _ rfl (by kernel_rfl) (by kernel_rfl) (by kernel_rfl) (fun _ _ _ h => h) (yieldsIf_load_mid (by kernel_rfl) 42 (.tmp 11) rfl g (o + 32) rfl (y.map B) _ (fun w hSw => hSw.2) uD rfl iY) (by assumption) ?_
      try simp only [Act.put, List.setIfInBounds_toArray, List.set_cons_zero, List.set_cons_succ]
      have HGV : Seal (Glob V) := ⟨(HG.out.below hH.out.bel).below HV.out⟩
      refine call_h 7 rfl (by kernel_rfl) 107 #[.agg (x.map B).toArray, .agg (y.map B).toArray] (by kernel_rfl) (by go_simp) ?_
      refine (HNode.out V HGV.out).mono ?_
      intro e w3 hp
      obtain ⟨g3, n3, c3, rfl, hI, hb3⟩ := listPost_isB hp (by have := HS.out.2; omega)
      refine ⟨_, rfl, ⟨rangeAt_below' s1 hb3, rangeAt_below' s2 hb3⟩, fun hHeld2 => ?_⟩
      have t1 := hHeld2.1
      have t2 := hHeld2.2
      have HSum : Seal _ := ⟨sum_isB (HGV.out.below hb3) hI (by have := HS.out.2; omega)⟩
      have HB3 : Seal (Below wo.heap.size wo w3) := ⟨HV.out.trans (hb3.mono HV.out.size)⟩
      clear hHeld hp hI hb3 s1 s2 HNode
      try simp only [Act.put, List.setIfInBounds_toArray, List.set_cons_zero, List.set_cons_succ]
      obtain ⟨D, hD⟩ : ∃ D, D = sha S := ⟨_, rfl⟩
      rw [← hD] at HSum
      have d32 : D.length = 32 := by rw [hD, sha_length]
      have HDn : Seal (nodeD x y = D) := ⟨by rw [hD, HS.out.1]⟩
      clear hD
      refine call_h 8 rfl (by kernel_rfl) 44 #[.slice (some ⟨g3, 0, none⟩) n3 c3] (by kernel_rfl) (by go_simp) ?_
      refine HSum.out.mono ?_
      rintro e w4 ⟨rfl, hb4⟩
      refine ⟨_, rfl, ⟨rangeAt_below' t1 hb4, rangeAt_below' t2 hb4⟩, fun hHeld3 => ?_⟩
      have HB4 : Seal (Below wo.heap.size wo w4) := ⟨HB3.out.trans (hb4.mono HB3.out.size)⟩
      clear hHeld2 hb4 t1 t2 HSum
      try simp only [Act.put, List.setIfInBounds_toArray, List.set_cons_zero, List.set_cons_succ]
      have HR4 : Seal (UpRel l w g o m c out (x :: y :: r) v w4) := ⟨hH.out.later HB4.out HG2.out⟩
      refine oper_h 9 (.slice (some ⟨w4.heap.size, 0, none⟩) 1 1) (w4.alloc (.cells (D.map B).toArray 42)) rfl (by kernel_rfl) (by kernel_rfl) (by go_simp; rw [fold_all (by simp [d32])]) ⟨World.rangeAt_alloc hHeld3.1 _, World.rangeAt_alloc hHeld3.2 _⟩ (fun hHeld4 => ?_)
      clear hHeld3
      try simp only [Act.put, List.setIfInBounds_toArray, List.set_cons_zero, List.set_cons_succ]
      have hz5 := HR4.out.bel.size
      obtain ⟨v5, w5, hr5, hown5, hg5⟩ := run_app_dg (w4.alloc (.cells (D.map B).toArray 42)) 24 w.heap.size v out.length out D w4.heap.size (HR4.out.own.alloc _) (rangeAt_row (heap_alloc_new w4 _)) d32 (by have := HR4.out.cnt; have := HN.out; omega) (by rw [size_alloc]; omega)
      have vlt := (HR4.out.own.alloc (.cells (D.map B).toArray 42)).lt
      have hb5 : Below w.heap.size (w4.alloc (.cells (D.map B).toArray 42)) w5 := ⟨hg5.os, hg5.tape, hg5.output, hg5.size, fun k hk => hg5.block k (by rw [size_alloc]; omega) (fun e => by have := (vlt k e.symm).1; omega)⟩
      have hgo : ∀ k o' cs, k < w.heap.size → (w4.alloc (.cells (D.map B).toArray 42)).rangeAt k o' cs → w5.rangeAt k o' cs := fun k o' cs hk h j u hu => (World.cell?_of_block (w := w4.alloc (.cells (D.map B).toArray 42)) (hb5.block k hk)).trans (h j u hu)
      have HN5 : Seal (UpRel l w g (o + 64) (m - 2) (c - 2) (out ++ [D]) r v5 w5) := ⟨by
        have h := HR4.out
        have hl := h.len
        simp only [List.length_cons] at hl
        have hc := h.cnt
        simp only [List.length_cons] at hc
        refine ⟨?_, ?_, by omega, by have := h.mc; omega, by have := h.cm; omega, ?_, fun d hd => h.d32 d (by simp [hd]), ?_, ?_⟩
        · rw [h.eq]
          show out ++ (nodeD x y :: upB r) = _
          rw [HDn.out, List.append_assoc]; rfl
        · rw [List.length_append]; simp only [List.length_cons, List.length_nil]; omega
        · refine hgo g _ _ HG2.out (World.rangeAt_alloc ?_ _)
          exact (rangeAt_skip h.row (h.d32 x (by simp)) (h.d32 y (by simp))).2.2
        · rw [List.length_append]; exact hown5
        · exact (h.bel.alloc (by omega) _).trans hb5⟩
      have e5 : (m : Int) - 2 = ((m - 2 : Nat) : Int) := by omega
      refine oper_h 10 v5 w5 rfl (by kernel_rfl) (by kernel_rfl) (exec_append1 (.tmp 6) (.tmp 15) 24 24 24 rfl rfl _ _ _ rfl rfl hr5) ⟨hgo g _ _ HG2.out hHeld4.1, hgo g _ _ HG2.out hHeld4.2⟩ (fun hHeld5 => ?_)
      clear hHeld4 hr5 hown5 hg5 hb5 hgo vlt hz5 HR4 hH HB4 HB3
      try simp only [Act.put, List.setIfInBounds_toArray, List.set_cons_zero, List.set_cons_succ]
      refine take_h 11 ?_ rfl (by kernel_rfl) (by kernel_rfl) (by kernel_rfl) (fun _ _ _ h => h) (Or.inl ⟨by kernel_rfl, ?_⟩) (by assumption) ?_
      rotate_left
      · (intro w hSw; (try dsimp only at hSw); go_simp; try (with_reducible rfl))
      try simp only [Act.put, List.setIfInBounds_toArray, List.set_cons_zero, List.set_cons_succ]
      refine wpAnyH_done (by kernel_rfl) ?_ _
      clear hHeld5
      go_wp2
      refine ⟨?_, by show m - 2 < m; omega⟩
      by_cases hc : c = 2
      · rw [if_pos hc]
        have hm2 : m - 2 = 0 := by omega
        have hr0 : r = [] := by have := HN5.out.len; rw [hm2] at this; exact List.eq_nil_of_length_eq_zero this
        have h := HN5.out
        exact ⟨o, m - 2, c - 2, out ++ [D], r, v5, rfl, rfl, ⟨⟨h.eq, h.cnt, h.len, h.mc, h.cm, (by rw [hr0]; intro j u hu; simp [dcells] at hu), h.d32, h.own, h.bel⟩⟩⟩
      · rw [if_neg hc]
        exact ⟨o + 64, m - 2, c - 2, out ++ [D], r, v5, rfl, rfl, HN5⟩
    · have q1 : ¬ (1 : Int) < (m : Int) := by omega
      have h := hH.out
      have hup : upB rest = rest := by
        have := h.len
        match rest, this with
        | [], _ => rfl
        | [x], _ => simp [upB]
        | x :: y :: r, hh => simp at hh; omega
      have hcnt := h.cnt
      have hzb := h.bel.size
      have hn3 := HN.out
      obtain ⟨v5, w5, hr5, hown5, hg5⟩ := run_app_row wo 24 w.heap.size v out.length out rest g o m c h.own h.len h.row h.d32 (by omega) (by have := h.len; omega) hzb
      have vlt := h.own.lt
      have hb5 : Below w.heap.size w w5 := h.bel.trans ⟨hg5.os, hg5.tape, hg5.output, hg5.size, fun k hk => hg5.block k (by omega) (fun e => by have := (vlt k e.symm).1; omega)⟩
      have eU : upB l = out ++ rest := by rw [h.eq, hup]
      have HF : Seal (RowAt w5 w.heap.size v5 (upB l) ∧ Below w.heap.size w w5) := ⟨by
        rw [eU]
        refine rowAt_own (by rw [List.length_append, h.len]; exact hown5) ?_
        rw [← eU, upB_len]; omega, hb5⟩
      have HR5 := Seal.mk hr5
      clear hr5 hown5 hg5 hb5 vlt h hcnt hzb hn3 eU hup
      go_wp2_with (at_builtin; refine wl_append1 rfl (.tmp 19) (.tmp 20) 24 24 24 rfl rfl v (.slice (some ⟨g, o, none⟩) m c) v5 rfl rfl HR5.out ?_)
      go_ret
      exact ⟨_, rfl, HF⟩

/-- the rows of a first row -/
def rowN (r : List Bytes) : Nat → List Bytes
  | 0 => r
  | k + 1 => upB (rowN r k)
theorem rowN_32 {r : List Bytes} (h : ∀ d ∈ r, d.length = 32) : ∀ k, ∀ d ∈ rowN r k, d.length = 32
  | 0 => h
  | k + 1 => upB_32 _ (rowN_32 h k)
theorem rowN_pos {r : List Bytes} (h : 0 < r.length) : ∀ k, 0 < (rowN r k).length
  | 0 => h
  | k + 1 => by show 0 < (upB (rowN r k)).length; rw [upB_len]; have := rowN_pos h k; omega
theorem rowN_dec {r : List Bytes} : ∀ K, (∀ k, k < K → 1 < (rowN r k).length) → (rowN r K).length + K ≤ r.length
  | 0, _ => by show r.length + 0 ≤ r.length; omega
  | K + 1, h => by
    have h1 := rowN_dec K (fun k hk => h k (by omega))
    have h2 := h K (by omega)
    show (upB (rowN r K)).length + (K + 1) ≤ r.length
    rw [upB_len]; omega

def encR (x : Nat × Nat × Nat × Nat) : Array Value := #[.slice (some ⟨x.1, x.2.1, none⟩) x.2.2.1 x.2.2.2]
def GR (r : List Bytes) (sz : Nat) (pre : List (Nat × Nat × Nat × Nat)) (x : Nat × Nat × Nat × Nat) (W : World) : Prop :=
  (rowN r pre.length).length = x.2.2.1 ∧ x.2.2.1 ≤ x.2.2.2 ∧ x.2.2.2 ≤ 9223372036854775807 ∧ sz ≤ x.1 ∧ x.1 < W.heap.size ∧ W.rangeAt x.1 x.2.1 (dcells (rowN r pre.length))
def SR (r : List Bytes) (xs : List (Nat × Nat × Nat × Nat)) : Prop := ∃ K, xs.length = K + 1 ∧ (rowN r K).length ≤ 1 ∧ ∀ k, k < K → 1 < (rowN r k).length
def globB (r : Nat) : Prop := r = 0 ∨ r = 1

theorem Glob.of_mine {W W' : World} (h : Glob W) (hk : ∀ r, globB r → W'.heap[r]? = W.heap[r]?) : Glob W' :=
  ⟨fun j u hu => (World.cell?_of_block (w := W) (hk _ (.inl rfl))).trans (h.start j u hu), fun j u hu => (World.cell?_of_block (w := W) (hk _ (.inr rfl))).trans (h.nums j u hu)⟩

/-- what the rows' walk knows -/
structure RwRel (J : List (Nat × Nat × Nat × Nat) → World → Prop) (W : World) (r : List Bytes) (K g off n cap : Nat) (Wk : World) : Prop where
  glob : Glob Wk
  acc : ∃ xs W0, xs.length = K ∧ J xs W0 ∧ Below W0.heap.size W0 Wk ∧ W.heap.size ≤ W0.heap.size ∧ W0.heap.size ≤ g
  big : ∀ k, k < K → 1 < (rowN r k).length
  len : (rowN r K).length = n
  lcap : n ≤ cap
  cm : cap ≤ 9223372036854775807
  lt : g < Wk.heap.size
  row : Wk.rangeAt g off (dcells (rowN r K))

set_option maxHeartbeats 8000000 in
theorem rows_mem (m b : Nat) (a : Option Addr) (n cap : Nat) (ts : List Bytes) (w : World) (hG : Glob w) (h0 : w.cell? ⟨b, 0, none⟩ = some (.slice a n cap)) (hl : IsBs w a n cap ts) (hn : 0 < n) (hm : n ≤ 100) (ht : ∀ t ∈ ts, 0 < t.length ∧ t.length ≤ 1000) :
    SeqMem Fence.wide m Tryz.prog 88 #[.pointer (some ⟨b, 0, none⟩)] encR (GR (ts.map leafD)) globB (SR (ts.map leafD)) (n + 1) w := by
  intro q J W hW hY hJ0
  refine callsIn_of_wp Tryz.func88 rfl trivial ?_ rfl
  simp only [Tryz.ntmps88, List.size_toArray, List.length_cons, List.length_nil, Nat.reduceAdd, Nat.reduceSub, Array.replicate_succ, Array.replicate_zero, List.push_toArray, List.append_toArray, List.nil_append, List.cons_append]
  have c0 : W.cell? ⟨b, 0, none⟩ = some (.slice a n cap) := (hW.cell (p := ⟨b, 0, none⟩) (block_lt_of_cell h0)).trans h0
  have HL := Seal.mk (hl.of_heap hW)
  have HY := Seal.mk hY
  have HJ0 := Seal.mk hJ0
  have HG := Seal.mk (hG.below hW)
  have HT := Seal.mk ht
  have HN := Seal.mk (And.intro hl.llen (And.intro hn hm))
  obtain ⟨R, hR⟩ : ∃ R, R = ts.map leafD := ⟨_, rfl⟩
  have HR := Seal.mk hR
  have HRl : Seal (R.length = n ∧ ∀ d ∈ R, d.length = 32) := ⟨by rw [hR, List.length_map, hl.llen], by rw [hR]; intro d hd; obtain ⟨t, _, rfl⟩ := List.mem_map.1 hd; exact leafD_len t⟩
  obtain ⟨i0, hi, hz0, hz1, hz2⟩ := info_parts info_dgm
  have HI := Seal.mk (And.intro hi (And.intro hz0 (And.intro hz1 hz2)))
  rw [← hR] at HY ⊢
  clear hY hJ0 hl hW h0 hG ht hn hm hR hi hz0 hz1 hz2
  gi_wp2
  gi_loopw [3, 8] (fun u i Wk => ∃ (k : Nat) (v : Value), k ≤ n ∧ v = u ∧ i = .int .i64 k ∧ Seal (Wk.ownsRow W.heap.size 42 32 v k (dcells (R.take k)) ∧ Below W.heap.size W Wk)) (fun _ i _ => n - (intOf i).toNat)
  case atStart => exact ⟨0, _, by omega, rfl, rfl, ⟨World.ownsRow_nil _ _ _ _, Below.refl _ _⟩⟩
  case round =>
    obtain ⟨Wk, rfl⟩ : ∃ z, z = wr := ⟨_, rfl⟩
    obtain ⟨k, v, hk, rfl, rfl, hH⟩ := hrel
    clear c0
    by_cases hlt : k < n
    · rcases (HL.out.of_heap hH.out.2).at_ with hz | ⟨g, off, rfl, hg, hr⟩
      · omega
      · obtain ⟨t, htk⟩ : ∃ t, ts[k]? = some t := ⟨_, List.getElem?_eq_getElem (by have := HN.out.1; omega)⟩
        obtain ⟨tb, tm, tc, hc, hI⟩ := hr k t htk
        have htl := HT.out t (List.mem_of_getElem? htk)
        have q5 : (k : Int) < (n : Int) := by omega
        have q6 : (0 : Int) ≤ (k : Int) := by omega
        have hIl := hI.llen
        have HLf : Seal _ := ⟨mleaf_any (some ⟨tb, 0, none⟩) tm tc t Wk (HG.out.below hH.out.2) hI (by omega) (by omega)⟩
        have HTk : Seal (R.take (k + 1) = R.take k ++ [leafD t]) := ⟨by rw [HR.out, List.take_add_one, List.getElem?_map, htk]; rfl⟩
        obtain ⟨D, hD⟩ : ∃ D, D = leafD t := ⟨_, rfl⟩
        have d32 : D.length = 32 := by rw [hD]; exact leafD_len t
        rw [← hD] at HLf HTk
        clear hr hg htk hI htl hIl hD
        gi_wp2_with fail
        refine ⟨trivial, fun h => (by cases h), ?_⟩
        refine (callsIn_wide.2 HLf.out).mono ?_
        rintro e w3 ⟨rfl, hb3⟩
        have hF := fold_all (L := D.map B) (Z := ([.int .u8 0, .int .u8 0, .int .u8 0, .int .u8 0, .int .u8 0, .int .u8 0, .int .u8 0, .int .u8 0, .int .u8 0, .int .u8 0, .int .u8 0, .int .u8 0, .int .u8 0, .int .u8 0, .int .u8 0, .int .u8 0, .int .u8 0, .int .u8 0, .int .u8 0, .int .u8 0, .int .u8 0, .int .u8 0, .int .u8 0, .int .u8 0, .int .u8 0, .int .u8 0, .int .u8 0, .int .u8 0, .int .u8 0, .int .u8 0, .int .u8 0, .int .u8 0] : List Value)) (by simp [d32])
        have HO : Seal ((w3.alloc (.cells (D.map B).toArray 42)).ownsRow W.heap.size 42 32 v k (dcells (R.take k))) := ⟨(ownsRow_below hH.out.1 hb3).alloc _⟩
        have HNw : Seal (∀ j u, (D.map B)[j]? = some u → (w3.alloc (.cells (D.map B).toArray 42)).cell? ((⟨w3.heap.size, 0, none⟩ : Addr).add j) = some u) := ⟨fun j u hu => by
          rw [Addr.add_mid]; exact rangeAt_row (heap_alloc_new w3 _) j u hu⟩
        have HB3 : Seal (Below W.heap.size W (w3.alloc (.cells (D.map B).toArray 42))) := ⟨(hH.out.2.trans (hb3.mono hH.out.2.size)).alloc (Nat.le_trans hH.out.2.size hb3.size) _⟩
        have LD : Seal ((D.map B).length = 1 * 32) := ⟨by rw [List.length_map, d32]⟩
        have HK : Seal (k ≤ 100) := ⟨by have := HN.out.2.2; omega⟩
        have hk100 := HK.out
        clear hb3 HLf hH
        gi_wp2_with (refine wpListIn_append_own _ rfl (.tmp 12) (.tmp 15) 24 rfl W.heap.size 42 i0 _ 32 32 Tryz.underlying24 HI.out.1 HI.out.2.1 HI.out.2.2.1 HI.out.2.2.2 (by kernel_rfl) (by decide) v k (dcells (R.take k)) rfl HO.out ⟨w3.heap.size, 0, none⟩ 1 1 (D.map B) rfl LD.out HNw.out (by simp [Value.oneCell']) (by have := HK.out; unfold maxLen; omega) (by have := HK.out; omega) HB3.out.size ?_; intro v5 w5 hown5 hgrow5 _; have vlt := HO.out.lt; have HB5 : Seal (Below W.heap.size W w5) := ⟨HB3.out.trans ⟨hgrow5.os, hgrow5.tape, hgrow5.output, hgrow5.size, fun j hj => hgrow5.block j (by have := HB3.out.size; omega) (fun e => by have := (vlt j e.symm).1; omega)⟩⟩; have HO5 : Seal (w5.ownsRow W.heap.size 42 32 v5 (k + 1) (dcells (R.take (k + 1)))) := ⟨by rw [HTk.out, dcells_snoc]; exact hown5⟩; clear hown5 hgrow5 vlt)
        go_roundw
        case rel => exact ⟨k + 1, v5, by omega, rfl, by go_num, ⟨HO5.out, HB5.out⟩⟩
        case measure => simp [intOf]; omega
    · obtain rfl : k = n := by omega
      have q5 : ¬ (k : Int) < (k : Int) := by omega
      have eR : R.take k = R := List.take_of_length_le (by rw [HRl.out.1]; omega)
      rw [eR] at hH
      have hk0 := HN.out.2.1
      obtain ⟨g1, o1, c1, hv, h1, h2, h3, h4, h5⟩ := rowAt_own (l := R) (by rw [HRl.out.1]; exact hH.out.1) (by rw [HRl.out.1]; exact hk0)
      rw [HRl.out.1] at hv h1
      subst hv
      have HRw : Seal (RwRel J W R 0 g1 o1 k c1 Wk) := ⟨⟨HG.out.below hH.out.2, ⟨[], W, rfl, HJ0.out, hH.out.2, Nat.le_refl _, h3⟩, fun k hk => by omega, HRl.out.1, h1, h2, h4, h5⟩⟩
      clear hH h1 h2 h3 h4 h5 eR hk0
      gi_wp2_with fail
      gi_loopw [3] (fun u Wj => ∃ K g off m' cap', u = .slice (some ⟨g, off, none⟩) m' cap' ∧ Seal (RwRel J W R K g off m' cap' Wj)) (fun u _ => (match u with | .slice _ m _ => m | _ => 0))
      case atStart => exact ⟨0, g1, o1, k, c1, rfl, HRw⟩
      case round =>
        obtain ⟨Wj, rfl⟩ : ∃ z, z = wr := ⟨_, rfl⟩
        obtain ⟨K, g, off, mm, cc, rfl, hH⟩ := hrel
        have h := hH.out
        obtain ⟨xs, W0, hxs, hJ, hb0, hsz, hgW⟩ := h.acc
        have hdec := rowN_dec K h.big
        obtain ⟨fn, tmps, asg, body, hy, hRR⟩ := HY.out xs (g, off, mm, cc) W0 Wj hJ hb0 hsz ⟨by rw [hxs]; exact h.len, h.lcap, h.cm, hgW, h.lt, by rw [hxs]; exact h.row⟩ (by have := HRl.out.1; have := h.len; omega)
        have hRR := Seal.mk hRR
        have HX := Seal.mk (And.intro hxs (And.intro hsz hb0.size))
        dsimp only [encR] at hy
        clear h hJ hb0 hgW hdec hxs hsz
        by_cases hm1 : 1 < mm
        · have q1 : (1 : Int) < (mm : Int) := by omega
          gi_wp2_with fail
          refine ⟨fun h => (by cases h), ?_⟩
          refine hRR.out.mono ?_
          rintro e W' ⟨rfl, hJ', hG', hz', hk'⟩
          have hGl := hH.out.glob.of_mine hk'
          obtain ⟨g1', g2', g3', g4', g5', g6'⟩ := hG'
          dsimp only at g1' g2' g3' g4' g5' g6'
          rw [HX.out.1] at g1' g6'
          have hdec := rowN_dec K hH.out.big
          have HU := Seal.mk (mup_any g off mm cc (rowN R K) W' hGl g1' (rowN_32 HRl.out.2 K) (by omega) (by have := HRl.out.1; have := HN.out.2.2; omega) g2' g3' g6' g5')
          have HJ' := Seal.mk hJ'
          have HLn := Seal.mk hH.out.len
          have HGl := Seal.mk hGl
          have HBig : Seal (∀ k', k' < K + 1 → 1 < (rowN R k').length) := ⟨fun k' hk'' => by
            by_cases he : k' = K
            · rw [he, hH.out.len]; exact hm1
            · exact hH.out.big k' (by omega)⟩
          have HS : Seal (W.heap.size ≤ W'.heap.size) := ⟨by have := HX.out.2.1; have := HX.out.2.2; omega⟩
          clear hJ' hz' hk' hGl g1' g2' g3' g4' g5' g6' hdec hy hRR hH
          gi_wp2_with fail
          refine ⟨trivial, fun h => (by cases h), ?_⟩
          refine (callsIn_wide.2 HU.out).mono ?_
          rintro e w5 ⟨v5, rfl, hU⟩
          obtain ⟨g5, o5, c5, rfl, u1, u2, u3, u4, u5'⟩ := hU.out.1
          have HF : Seal (RwRel J W R (K + 1) g5 o5 (upB (rowN R K)).length c5 w5) := ⟨⟨HGl.out.below hU.out.2, ⟨xs ++ [(g, off, mm, cc)], W', by rw [List.length_append, HX.out.1]; rfl, HJ'.out, hU.out.2, HS.out, u3⟩, HBig.out, rfl, u1, u2, u4, u5'⟩⟩
          have HL5 : Seal ((upB (rowN R K)).length < mm) := ⟨by rw [upB_len, HLn.out]; omega⟩
          clear hU u1 u2 u3 u4 u5'
          gi_wp2
          exact ⟨⟨K + 1, g5, o5, _, c5, rfl, HF⟩, HL5.out⟩
        · have q1 : ¬ (1 : Int) < (mm : Int) := by omega
          gi_wp2_with fail
          refine ⟨fun h => (by cases h), ?_⟩
          refine hRR.out.mono ?_
          rintro e W' ⟨rfl, hJ', hG', hz', hk'⟩
          have HF : Seal (SR R (xs ++ [(g, off, mm, cc)]) ∧ J (xs ++ [(g, off, mm, cc)]) W' ∧ W.heap.size ≤ W'.heap.size) := ⟨⟨K, by rw [List.length_append, HX.out.1]; rfl, by rw [hH.out.len]; omega, hH.out.big⟩, hJ', by have := HX.out.2.1; have := HX.out.2.2; omega⟩
          clear hJ' hG' hz' hk' hy hRR hH
          gi_wp2
          go_end0
          exact ⟨⟨_, rfl⟩, _, W', HF.out.1, HF.out.2.1, Below.refl _ _, HF.out.2.2⟩

theorem wpListIn_load_mid {l n : Nat} {P : Program} {ops : Array Oper} {rest : List Oper} {o : Oper} {a : Act} {w : World} {Q : Exit → Act → World → Prop} (hg : o.guard = none) (ty : TypeId) (x : Operand) (ho : o.op = .load ty x)
    (b off : Nat) (hx : a.eval x = .pointer (some ⟨b, off, none⟩)) (cs : List Value) (d : TypeDesc) (hc : w.rangeAt b off cs)
    (hu : P.underlying ty = some d) (hd : d.isRow = true) (hi : (P.info? ty).map (·.size) = some cs.length)
    (h : wpListIn (Fence.wide.inRound l) n P ops Q rest (a.put o.dst (.agg cs.toArray)) w) : wpListIn (Fence.wide.inRound l) n P ops Q (o :: rest) a w :=
  wpListIn_plain hg fun K hK' => opIn_of_op (by rw [ho]; intro c hc'; cases hc') (wp_load_mid ty x ho b off hx cs d hc hu hd hi (hK' _ _ h))

theorem wpListIn_store_row {l n : Nat} {P : Program} {ops : Array Oper} {rest : List Oper} {o : Oper} {a : Act} {w : World} {Q : Exit → Act → World → Prop} (hgd : o.guard = none) (ty : TypeId) (x y : Operand) (ho : o.op = .store ty x y)
    (g : Nat) (cells : Array Value) (hx : a.eval x = .pointer (some ⟨g, 0, none⟩)) (hy : a.eval y = .agg cells)
    (t : TypeId) (old : Array Value) (hg : w.heap[g]? = some (.cells old t (0, 0))) (hi : (P.info? ty).map (·.size) = some cells.size)
    (hold : old.size = cells.size) (h1 : cells.all (·.oneCell') = true)
    (h : wpListIn (Fence.wide.inRound l) n P ops Q rest (a.put o.dst undef) (w.setRow g cells)) : wpListIn (Fence.wide.inRound l) n P ops Q (o :: rest) a w :=
  wpListIn_plain hgd fun K hK' => opIn_of_op (by rw [ho]; intro c hc'; cases hc') (by
    unfold Oper.wp
    rw [exec_store_row ty x y ho g cells hx hy t old hg hi hold h1]
    exact hK' _ _ h)

theorem mrows_any (a : Option Addr) (n c : Nat) (w : World) : Calls Tryz.prog 64 #[.slice a n c] w fun e w' => e = .returned (.func (.func 88) #[] #[.pointer (some ⟨w.heap.size, 0, none⟩)]) ∧ w.alloc (.cells #[.slice a n c] 82) = w' := by
  go_enter Tryz.func64, Tryz.ntmps64
  go_wp2
  go_ret
  exact ⟨rfl, rfl⟩

def hdD (r : List Bytes) : Bytes := r.headD []
/-- the digest of a list of texts -/
def rootF : Nat → List Bytes → Bytes
  | 0, r => hdD r
  | f + 1, r => if r.length ≤ 1 then hdD r else rootF f (upB r)
def rootB (ts : List Bytes) : Bytes := if ts = [] then noneD else rootF ts.length (ts.map leafD)

theorem rowN_up (r : List Bytes) : ∀ k, rowN (upB r) k = rowN r (k + 1)
  | 0 => rfl
  | k + 1 => by show upB (rowN (upB r) k) = upB (rowN r (k + 1)); rw [rowN_up r k]

theorem rootF_eq : ∀ (f K : Nat) (r : List Bytes), (rowN r K).length ≤ 1 → (∀ k, k < K → 1 < (rowN r k).length) → K ≤ f → rootF f r = hdD (rowN r K)
  | 0, K, r, _, _, hf => by
    obtain rfl : K = 0 := by omega
    rfl
  | f + 1, 0, r, h, _, _ => by
    have h' : r.length ≤ 1 := h
    show (if r.length ≤ 1 then hdD r else rootF f (upB r)) = hdD r
    rw [if_pos h']
  | f + 1, K + 1, r, h, hb, hf => by
    have h1 := hb 0 (by omega)
    show (if r.length ≤ 1 then hdD r else rootF f (upB r)) = _
    rw [if_neg (by have h2 : 1 < r.length := h1; omega), ← rowN_up]
    exact rootF_eq f K (upB r) (by rw [rowN_up]; exact h) (fun k hk => by rw [rowN_up]; exact hb (k + 1) (by omega)) (by omega)

theorem rootB_of {ts : List Bytes} {K : Nat} (h0 : 0 < ts.length) (h : (rowN (ts.map leafD) K).length ≤ 1) (hb : ∀ k, k < K → 1 < (rowN (ts.map leafD) k).length) : rootB ts = hdD (rowN (ts.map leafD) K) := by
  unfold rootB
  rw [if_neg (by intro e; rw [e] at h0; simp at h0)]
  have hd := rowN_dec K hb
  have hp := rowN_pos (r := ts.map leafD) (by simpa using h0) K
  rw [List.length_map] at hd
  exact rootF_eq _ K _ h hb (by omega)

theorem hdD_32 {r : List Bytes} (h : ∀ d ∈ r, d.length = 32) (h0 : 0 < r.length) : (hdD r).length = 32 := by
  match r, h0 with
  | d :: r, _ => exact h d (by simp)

theorem hdD_range {w : World} {g off : Nat} {r : List Bytes} (h : w.rangeAt g off (dcells r)) (h32 : ∀ d ∈ r, d.length = 32) (h0 : 0 < r.length) : w.rangeAt g off ((hdD r).map B) := by
  have := range_dg h h32 (i := 0) h0
  rw [Nat.zero_mul, Nat.add_zero] at this
  have e : r.getD 0 [] = hdD r := by
    match r, h0 with
    | d :: r, _ => rfl
  rwa [e] at this

/-- the variable d so far -/
def dNow (r : List Bytes) (k : Nat) : Array Value := match k with
  | 0 => #[.int .u8 0, .int .u8 0, .int .u8 0, .int .u8 0, .int .u8 0, .int .u8 0, .int .u8 0, .int .u8 0, .int .u8 0, .int .u8 0, .int .u8 0, .int .u8 0, .int .u8 0, .int .u8 0, .int .u8 0, .int .u8 0, .int .u8 0, .int .u8 0, .int .u8 0, .int .u8 0, .int .u8 0, .int .u8 0, .int .u8 0, .int .u8 0, .int .u8 0, .int .u8 0, .int .u8 0, .int .u8 0, .int .u8 0, .int .u8 0, .int .u8 0, .int .u8 0]
  | k + 1 => ((hdD (rowN r k)).map B).toArray

theorem dNow_size {r : List Bytes} (h : ∀ d ∈ r, d.length = 32) (h0 : 0 < r.length) : ∀ k, (dNow r k).size = 32
  | 0 => rfl
  | k + 1 => by
    show ((hdD (rowN r k)).map B).toArray.size = 32
    rw [List.size_toArray, List.length_map, hdD_32 (rowN_32 h k) (rowN_pos h0 k)]

section
attribute [local go_sem] Oper.semAt_some

set_option maxHeartbeats 4000000 in
theorem mroot_some (a : Option Addr) (n cap : Nat) (ts : List Bytes) (w : World) (hG : Glob w) (hl : IsBs w a n cap ts) (hn : 0 < n) (hm : n ≤ 100) (ht : ∀ t ∈ ts, 0 < t.length ∧ t.length ≤ 1000) :
    Calls Tryz.prog 39 #[.slice a n cap] w fun e w' => e = .returned (.agg ((rootB ts).map B).toArray) ∧ Below w.heap.size w w' := by
  obtain ⟨X, hX⟩ : ∃ X : World, X = w.alloc (.cells #[.int .u8 0, .int .u8 0, .int .u8 0, .int .u8 0, .int .u8 0, .int .u8 0, .int .u8 0, .int .u8 0, .int .u8 0, .int .u8 0, .int .u8 0, .int .u8 0, .int .u8 0, .int .u8 0, .int .u8 0, .int .u8 0, .int .u8 0, .int .u8 0, .int .u8 0, .int .u8 0, .int .u8 0, .int .u8 0, .int .u8 0, .int .u8 0, .int .u8 0, .int .u8 0, .int .u8 0, .int .u8 0, .int .u8 0, .int .u8 0, .int .u8 0, .int .u8 0] 42) := ⟨_, rfl⟩
  have hXb : Below w.heap.size w X := by rw [hX]; exact below_alloc _ _
  have hXz : X.heap[w.heap.size]? = some (.cells #[.int .u8 0, .int .u8 0, .int .u8 0, .int .u8 0, .int .u8 0, .int .u8 0, .int .u8 0, .int .u8 0, .int .u8 0, .int .u8 0, .int .u8 0, .int .u8 0, .int .u8 0, .int .u8 0, .int .u8 0, .int .u8 0, .int .u8 0, .int .u8 0, .int .u8 0, .int .u8 0, .int .u8 0, .int .u8 0, .int .u8 0, .int .u8 0, .int .u8 0, .int .u8 0, .int .u8 0, .int .u8 0, .int .u8 0, .int .u8 0, .int .u8 0, .int .u8 0] 42 (0, 0)) := by rw [hX]; exact heap_alloc_new w _
  have hXs : X.heap.size = w.heap.size + 1 := by rw [hX, size_alloc]
  obtain ⟨Y, hY⟩ : ∃ Y : World, Y = X.alloc (.cells #[.slice a n cap] 82) := ⟨_, rfl⟩
  have hYb : Below w.heap.size w Y := by rw [hY]; exact hXb.alloc hXb.size _
  have hYs : Y.heap.size = w.heap.size + 2 := by rw [hY, size_alloc, hXs]
  have hYz : Y.heap[w.heap.size]? = some (.cells #[.int .u8 0, .int .u8 0, .int .u8 0, .int .u8 0, .int .u8 0, .int .u8 0, .int .u8 0, .int .u8 0, .int .u8 0, .int .u8 0, .int .u8 0, .int .u8 0, .int .u8 0, .int .u8 0, .int .u8 0, .int .u8 0, .int .u8 0, .int .u8 0, .int .u8 0, .int .u8 0, .int .u8 0, .int .u8 0, .int .u8 0, .int .u8 0, .int .u8 0, .int .u8 0, .int .u8 0, .int .u8 0, .int .u8 0, .int .u8 0, .int .u8 0, .int .u8 0] 42 (0, 0)) := by rw [hY]; exact (Below.heap_alloc X _ _ (by omega)).trans hXz
  have hYc : Y.cell? ⟨X.heap.size, 0, none⟩ = some (.slice a n cap) := by rw [hY, cell_of_row _ _ _ _ _ _ (heap_alloc_new X _)]; rfl
  have HSeq := Seal.mk (rows_mem 2 X.heap.size a n cap ts Y (hG.below hYb) hYc (hl.of_heap hYb) hn hm ht)
  have hr : Calls Tryz.prog 64 #[.slice a n cap] X fun e w' => e = .returned (.func (.func 88) #[] #[.pointer (some ⟨X.heap.size, 0, none⟩)]) ∧ Y = w' := by rw [hY]; exact mrows_any a n cap X
  have HRows := Seal.mk hr
  have HY := Seal.mk (And.intro hYb (And.intro hYs hYz))
  have R32 : ∀ d ∈ ts.map leafD, d.length = 32 := by intro d hd; obtain ⟨t, _, rfl⟩ := List.mem_map.1 hd; exact leafD_len t
  have R0 : 0 < (ts.map leafD).length := by rw [List.length_map, hl.llen]; exact hn
  have HR := Seal.mk (And.intro R32 (And.intro R0 hl.llen))
  have HGl : Seal (∀ r, globB r → r < w.heap.size) := ⟨fun r hr => by
    rcases hr with rfl | rfl
    · exact block_lt_of_cell (hG.start 0 _ (List.getElem?_eq_getElem (by decide)))
    · exact block_lt_of_cell (hG.nums 0 _ (List.getElem?_eq_getElem (by decide)))⟩
  have q1 : ¬ n = 0 := by omega
  have q2 : ¬ (n : Int) = 0 := by omega
  clear hXb hXz hYb hYs hYz hYc hr R32 R0 hl hG hXs ht hm
  refine (callsIn_wide (n := 3)).1 ?_
  refine callsIn_of_wp_marks Tryz.func39 rfl trivial ?_ rfl
  simp only [Tryz.ntmps39, List.size_toArray, List.length_cons, List.length_nil, Nat.reduceAdd, Nat.reduceSub, Array.replicate_succ, Array.replicate_zero, List.push_toArray, List.append_toArray, List.nil_append, List.cons_append]
  refine wpIn_wide.2 ?_
  go_upto_region 1 with (fail)
  rw [← hX]
  clear hX
  go_wp2_with fail
  refine HRows.out.mono ?_
  rintro e w1 ⟨rfl, rfl⟩
  clear HRows hY
  obtain ⟨gx, hgx⟩ : ∃ gx, gx = X.heap.size := ⟨_, rfl⟩
  rw [← hgx] at HSeq ⊢
  clear hgx
  go_wp2_with fail
  refine (wpIn_wide (n := 3)).1 ?_
  refine wpIn_rangeFunc_mem rfl (by decide) (gf := 88) (lb := #[.pointer (some ⟨gx, 0, none⟩)]) rfl trivial (enters_of Tryz.func88 (by kernel_rfl) rfl)
    HSeq.out ?mine (fun x => rfl) ?gee
    (fun pre W => W.heap[w.heap.size]? = some (.cells (dNow (ts.map leafD) pre.length) 42 (0, 0)) ∧ Below w.heap.size w W ∧ Y.heap.size ≤ W.heap.size)
    ?own ?none ⟨HY.out.2.2, HY.out.1, Nat.le_refl _⟩
    (fun x => { tmps := #[.slice a n cap, undef, .pointer (some ⟨w.heap.size, 0, none⟩), (.slice (some ⟨x.1, x.2.1, none⟩) x.2.2.1 x.2.2.2), .slice a n cap, .int .i64 n, .bool false, undef, .slice a n cap, (.func (.func 88) #[] #[.pointer (some ⟨gx, 0, none⟩)]), (.slice (some ⟨x.1, x.2.1, none⟩) x.2.2.1 x.2.2.2), undef, undef, undef, undef], defers := [] }) ?assign ?body ?done
  case mine =>
    intro r hr
    have h1 := HGl.out r hr
    have h2 := HY.out.2.1
    omega
  case gee =>
    rintro sz pre ⟨xg, xo, xn, xc⟩ A B' hsz ⟨e1, e2, e3, e4, e5, e6⟩ hg ho
    dsimp only at e1 e2 e3 e4 e5 e6
    refine ⟨e1, e2, e3, e4, Nat.lt_of_lt_of_le e5 hg.size, ?_⟩
    exact rangeAt_grown e6 hg (by intro e; have := Option.some.inj e; omega)
  case own =>
    rintro pre A B' ⟨h0, hb, hz⟩ hg ho
    have h2 := HY.out.2.1
    exact ⟨(hg.block _ (Array.getElem?_eq_some_iff.1 h0).1 (fun e => by have := Option.some.inj e; omega)).trans h0, hb.grown hg hb.size (fun k e => by have := Option.some.inj e; omega), Nat.le_trans hz hg.size⟩
  case none =>
    rintro pre A B' ⟨h0, hb, hz⟩ hg
    exact ⟨(hg.block _ (Array.getElem?_eq_some_iff.1 h0).1 (fun e => by cases e)).trans h0, hb.grown hg hb.size (fun k e => by cases e), Nat.le_trans hz hg.size⟩
  case assign =>
    intro t x W K hK
    obtain ⟨xg, xo, xn, xc⟩ := x
    dsimp only at hK
    unfold encR
    gi_wp2
    exact hK
  case body =>
    rintro t pre x W0 W _ ⟨h0, hb, hz⟩ hw1 hw2 hGR hlen
    obtain ⟨xg, xo, xn, xc⟩ := x
    have hGR' := hGR
    obtain ⟨e1, e2, e3, e4, e5, e6⟩ := hGR
    dsimp only at e1 e2 e3 e4 e5 e6
    have hp := rowN_pos HR.out.2.1 pre.length
    have h32 := rowN_32 HR.out.1 pre.length
    have rD := hdD_range e6 h32 hp
    have d32 := hdD_32 h32 hp
    have hnow : Seal (dNow (ts.map leafD) (pre.length + 1) = ((hdD (rowN (ts.map leafD) pre.length)).map B).toArray) := ⟨rfl⟩
    have hsz := dNow_size HR.out.1 HR.out.2.1 pre.length
    obtain ⟨D, hD⟩ : ∃ D, D = hdD (rowN (ts.map leafD) pre.length) := ⟨_, rfl⟩
    rw [← hD] at rD d32 hnow
    have iD := dg_info D d32
    have ID : Seal ((Tryz.prog.info? 42).map (·.size) = some (D.map B).toArray.size) := ⟨by rw [List.size_toArray]; exact iD⟩
    have SD : Seal ((dNow (ts.map leafD) pre.length).size = (D.map B).toArray.size) := ⟨by rw [hsz, List.size_toArray, List.length_map, d32]⟩
    have AD : Seal ((D.map B).toArray.all (·.oneCell') = true) := ⟨by simp [Value.oneCell']⟩
    have q3 : 0 < xn := by omega
    have q4 : (0 : Int) < (xn : Int) := by omega
    have H0 := Seal.mk h0
    have HB := Seal.mk hb
    have HZ := Seal.mk (And.intro hz (And.intro hw1 (And.intro hw2 (And.intro e4 e5))))
    have HGR := Seal.mk hGR'
    have uD := Tryz.underlying42
    clear h0 hb hz hGR' e1 e2 e3 e4 e5 e6 hp h32 hD hsz hw1 hw2 d32
    gi_wp2_with (first | (refine wpListIn_load_mid rfl 42 (.tmp 12) rfl xg xo rfl (D.map B) _ rD uD rfl iD ?_) | (refine wpListIn_store_row rfl 42 (.tmp 2) (.tmp 13) rfl w.heap.size (D.map B).toArray rfl rfl 42 (dNow (ts.map leafD) pre.length) H0.out ID.out SD.out AD.out ?_))
    have hz := HZ.out
    have h2 := HY.out.2.1
    refine ⟨⟨by simp [World.setRow], fun k o hk ho => (setRow_other W w.heap.size k _ ?_).trans hk⟩, fun r hr => setRow_other W w.heap.size r _ (by have := HGl.out r hr; omega), ?_, ?_, below_row HB.out (Nat.le_refl _) _, by simpa [World.setRow] using hz.1⟩
    · rintro rfl
      rw [H0.out] at hk
      cases hk; cases ho
    · obtain ⟨e1, e2, e3, e4, e5, e6⟩ := HGR.out
      refine ⟨e1, e2, e3, e4, by simpa [World.setRow] using e5, fun j u hu => (World.cell?_of_block (w := W) (setRow_other W w.heap.size _ _ ?_)).trans (e6 j u hu)⟩
      dsimp only at e4 ⊢
      omega
    · rw [List.length_append]
      show _ = some (Obj.cells (dNow (ts.map leafD) (pre.length + 1)) _ _)
      rw [hnow.out]
      exact setRow_heap _ _ _ _ _ _ H0.out
  case done =>
    rintro xs W ⟨K, hK1, hK2, hK3⟩ ⟨h0, hb, hz⟩ hw1 hD
    have eR : rootB ts = hdD (rowN (ts.map leafD) K) := rootB_of (by have := HR.out.2.2; omega) hK2 hK3
    rw [hK1] at h0
    have h0' : W.heap[w.heap.size]? = some (.cells ((hdD (rowN (ts.map leafD) K)).map B).toArray 42 (0, 0)) := h0
    rw [← eR] at h0'
    have d32 : (rootB ts).length = 32 := by rw [eR]; exact hdD_32 (rowN_32 HR.out.1 K) (rowN_pos HR.out.2.1 K)
    obtain ⟨D, hDe⟩ : ∃ D, D = ((rootB ts).map B).toArray := ⟨_, rfl⟩
    have ID : Seal ((Tryz.prog.info? 42).map (·.size) = some D.size) := ⟨by rw [hDe, List.size_toArray]; exact dg_info _ d32⟩
    have AD : Seal (D.all (·.oneCell') = true) := ⟨by rw [hDe]; simp [Value.oneCell']⟩
    rw [← hDe] at h0'
    have HDe := Seal.mk hDe
    have H0 := Seal.mk h0'
    have HB := Seal.mk hb
    have h2 := HY.out.2.1
    clear h0 h0' hb eR d32 hDe hK1 hK2 hK3
    go_wp2_with (first | (refine wpList_load_row rfl 42 (.tmp 2) rfl w.heap.size rfl 42 D (0, 0) _ H0.out Tryz.underlying42 rfl ID.out ?_) | (refine wpList_store_row rfl 42 (.tmp 2) (.tmp 14) rfl w.heap.size D rfl rfl 42 D H0.out ID.out rfl AD.out ?_))
    have hK' : (W.setRow w.heap.size D).heap[Y.heap.size]? = some (.deferred (some [])) := (setRow_other W w.heap.size _ _ (by omega)).trans hD
    refine ⟨by simp, .inl ⟨_, _, rfl, run_takeDeferred hK', ?_⟩⟩
    refine ⟨_, results_cell_row (fn := Tryz.f39) rfl _ _ w.heap.size 42 D (0, 0) _ rfl ((World.putObj_heap_other (by omega)).trans (setRow_heap _ _ _ _ _ _ H0.out)) Tryz.underlying42 rfl ID.out, by rw [HDe.out], ?_⟩
    exact (below_row HB.out (Nat.le_refl _) _).trans (belowK_b (w := w) (Nat.le_refl _) _ Y.heap.size _ _ (by omega) hK' rfl rfl)
end

set_option maxHeartbeats 1000000 in
theorem mroot_none (a : Option Addr) (c : Nat) (w : World) (hG : Glob w) : Calls Tryz.prog 39 #[.slice a 0 c] w fun e w' => e = .returned (.agg (noneD.map B).toArray) ∧ Below w.heap.size w w' := by
  obtain ⟨X, hX⟩ : ∃ X : World, X = w.alloc (.cells #[.int .u8 0, .int .u8 0, .int .u8 0, .int .u8 0, .int .u8 0, .int .u8 0, .int .u8 0, .int .u8 0, .int .u8 0, .int .u8 0, .int .u8 0, .int .u8 0, .int .u8 0, .int .u8 0, .int .u8 0, .int .u8 0, .int .u8 0, .int .u8 0, .int .u8 0, .int .u8 0, .int .u8 0, .int .u8 0, .int .u8 0, .int .u8 0, .int .u8 0, .int .u8 0, .int .u8 0, .int .u8 0, .int .u8 0, .int .u8 0, .int .u8 0, .int .u8 0] 42) := ⟨_, rfl⟩
  have hXb : Seal (Below w.heap.size w X) := ⟨by rw [hX]; exact below_alloc _ _⟩
  have hXz : Seal (X.heap[w.heap.size]? = some (.cells #[.int .u8 0, .int .u8 0, .int .u8 0, .int .u8 0, .int .u8 0, .int .u8 0, .int .u8 0, .int .u8 0, .int .u8 0, .int .u8 0, .int .u8 0, .int .u8 0, .int .u8 0, .int .u8 0, .int .u8 0, .int .u8 0, .int .u8 0, .int .u8 0, .int .u8 0, .int .u8 0, .int .u8 0, .int .u8 0, .int .u8 0, .int .u8 0, .int .u8 0, .int .u8 0, .int .u8 0, .int .u8 0, .int .u8 0, .int .u8 0, .int .u8 0, .int .u8 0] 42 (0, 0))) := ⟨by rw [hX]; exact heap_alloc_new w _⟩
  have HT : Seal (Calls Tryz.prog 14 #[.string ⟨#[110, 111, 110, 101]⟩, .slice none 0 0] X fun e w' => e = .returned (.agg (noneD.map B).toArray) ∧ Below X.heap.size X w') := ⟨tagged_nil ⟨#[110, 111, 110, 101]⟩ X (hG.below hXb.out) (by decide) (by decide)⟩
  obtain ⟨D, hD⟩ : ∃ D, D = (noneD.map B).toArray := ⟨_, rfl⟩
  have ID : Seal ((Tryz.prog.info? 42).map (·.size) = some D.size) := ⟨by rw [hD, List.size_toArray]; exact dg_info noneD noneD_len⟩
  have SD : Seal ((#[.int .u8 0, .int .u8 0, .int .u8 0, .int .u8 0, .int .u8 0, .int .u8 0, .int .u8 0, .int .u8 0, .int .u8 0, .int .u8 0, .int .u8 0, .int .u8 0, .int .u8 0, .int .u8 0, .int .u8 0, .int .u8 0, .int .u8 0, .int .u8 0, .int .u8 0, .int .u8 0, .int .u8 0, .int .u8 0, .int .u8 0, .int .u8 0, .int .u8 0, .int .u8 0, .int .u8 0, .int .u8 0, .int .u8 0, .int .u8 0, .int .u8 0, .int .u8 0] : Array Value).size = D.size) := ⟨by show 32 = D.size; rw [hD, List.size_toArray, List.length_map, noneD_len]⟩
  have AD : Seal (D.all (·.oneCell') = true) := ⟨by rw [hD]; simp [Value.oneCell']⟩
  rw [← hD] at HT ⊢
  clear hG hD
  go_enter Tryz.func39, Tryz.ntmps39
  go_upto_region 1 with (fail)
  rw [← hX]
  clear hX
  go_wp2_with fail
  refine HT.out.mono ?_
  rintro e w1 ⟨rfl, hb1⟩
  have HZ1 : Seal (w1.heap[w.heap.size]? = some (.cells #[.int .u8 0, .int .u8 0, .int .u8 0, .int .u8 0, .int .u8 0, .int .u8 0, .int .u8 0, .int .u8 0, .int .u8 0, .int .u8 0, .int .u8 0, .int .u8 0, .int .u8 0, .int .u8 0, .int .u8 0, .int .u8 0, .int .u8 0, .int .u8 0, .int .u8 0, .int .u8 0, .int .u8 0, .int .u8 0, .int .u8 0, .int .u8 0, .int .u8 0, .int .u8 0, .int .u8 0, .int .u8 0, .int .u8 0, .int .u8 0, .int .u8 0, .int .u8 0] 42 (0, 0))) := ⟨blk hb1 (Array.getElem?_eq_some_iff.1 hXz.out).1 hXz.out⟩
  have HB1 : Seal (Below w.heap.size w w1) := ⟨hXb.out.trans (hb1.mono hXb.out.size)⟩
  clear hb1
  go_wp2_with (refine wpList_store_row rfl 42 (.tmp 2) (.tmp 7) rfl w.heap.size D rfl rfl 42 #[.int .u8 0, .int .u8 0, .int .u8 0, .int .u8 0, .int .u8 0, .int .u8 0, .int .u8 0, .int .u8 0, .int .u8 0, .int .u8 0, .int .u8 0, .int .u8 0, .int .u8 0, .int .u8 0, .int .u8 0, .int .u8 0, .int .u8 0, .int .u8 0, .int .u8 0, .int .u8 0, .int .u8 0, .int .u8 0, .int .u8 0, .int .u8 0, .int .u8 0, .int .u8 0, .int .u8 0, .int .u8 0, .int .u8 0, .int .u8 0, .int .u8 0, .int .u8 0] HZ1.out ID.out SD.out AD.out ?_)
  refine bodyPost_ret (results_cell_row (fn := Tryz.f39) rfl _ _ w.heap.size 42 D (0, 0) _ rfl (setRow_heap _ _ _ _ _ _ HZ1.out) Tryz.underlying42 rfl ID.out) rfl ⟨rfl, below_row HB1.out (Nat.le_refl _) _⟩


theorem mroot_any (a : Option Addr) (n cap : Nat) (ts : List Bytes) (w : World) (hG : Glob w) (hl : IsBs w a n cap ts) (hm : n ≤ 100) (ht : ∀ t ∈ ts, 0 < t.length ∧ t.length ≤ 1000) :
    Calls Tryz.prog 39 #[.slice a n cap] w fun e w' => e = .returned (.agg ((rootB ts).map B).toArray) ∧ Below w.heap.size w w' := by
  by_cases hn : 0 < n
  · exact mroot_some a n cap ts w hG hl hn hm ht
  · obtain rfl : n = 0 := by omega
    have e : ts = [] := List.eq_nil_of_length_eq_zero hl.llen
    subst e
    have h := mroot_none a cap w hG
    have e2 : rootB [] = noneD := by unfold rootB; rw [if_pos rfl]
    rw [e2]
    exact h

theorem hcollect_any (b : Nat) (a : Option Addr) (n cap : Nat) (l : List (List Int)) (w : World) (h0 : w.heap[b]? = some (.cells #[.slice a n cap] 27 (0, 0))) (hl : IsL w a n cap l) :
    Calls Tryz.prog 40 #[.func (.func 66) #[] #[.pointer (some ⟨b, 0, none⟩)]] w fun e w' => ∃ a' c', e = .returned (.slice a' n c') ∧ Seal (IsBs w' a' n c' (l.map txL) ∧ Below w.heap.size w w') := by
  have HA := Seal.mk (happend_letters b a n cap l w h0 hl)
  clear h0 hl
  go_enter Tryz.func40, Tryz.ntmps40
  go_wp2_with fail
  refine HA.out.mono ?_
  rintro e w1 ⟨a', c', rfl, HF⟩
  go_wp2
  go_ret
  exact ⟨a', c', rfl, HF⟩

theorem rootB_len (ts : List Bytes) : (rootB ts).length = 32 := by
  by_cases h : ts = []
  · unfold rootB; rw [if_pos h]; exact noneD_len
  · unfold rootB
    rw [if_neg h]
    have h0 : 0 < (ts.map leafD).length := by rw [List.length_map]; exact List.length_pos_iff.2 h
    have h32 : ∀ d ∈ ts.map leafD, d.length = 32 := by intro d hd; obtain ⟨t, _, rfl⟩ := List.mem_map.1 hd; exact leafD_len t
    have key : ∀ (f : Nat) (r : List Bytes), (∀ d ∈ r, d.length = 32) → 0 < r.length → (rootF f r).length = 32 := by
      intro f
      induction f with
      | zero => intro r h1 h2; exact hdD_32 h1 h2
      | succ f ih =>
        intro r h1 h2
        show (if r.length ≤ 1 then hdD r else rootF f (upB r)).length = 32
        split
        · exact hdD_32 h1 h2
        · exact ih _ (upB_32 r h1) (by rw [upB_len]; omega)
    exact key _ _ h32 h0

set_option maxHeartbeats 1000000 in
theorem hroot_any (a : Option Addr) (n cap : Nat) (l : List (List Int)) (w : World) (hG : Glob w) (hl : IsL w a n cap l) (hm : n ≤ 100) : Calls Tryz.prog 12 #[.slice a n cap] w fun e w' => e = .returned (.agg ((rootB (l.map txL)).map B).toArray) ∧ Below w.heap.size w w' := by
  obtain ⟨X, hX⟩ : ∃ X : World, X = w.alloc (.cells #[.int .u8 0, .int .u8 0, .int .u8 0, .int .u8 0, .int .u8 0, .int .u8 0, .int .u8 0, .int .u8 0, .int .u8 0, .int .u8 0, .int .u8 0, .int .u8 0, .int .u8 0, .int .u8 0, .int .u8 0, .int .u8 0, .int .u8 0, .int .u8 0, .int .u8 0, .int .u8 0, .int .u8 0, .int .u8 0, .int .u8 0, .int .u8 0, .int .u8 0, .int .u8 0, .int .u8 0, .int .u8 0, .int .u8 0, .int .u8 0, .int .u8 0, .int .u8 0] 42) := ⟨_, rfl⟩
  have hXb : Seal (Below w.heap.size w X) := ⟨by rw [hX]; exact below_alloc _ _⟩
  have hXz : Seal (X.heap[w.heap.size]? = some (.cells #[.int .u8 0, .int .u8 0, .int .u8 0, .int .u8 0, .int .u8 0, .int .u8 0, .int .u8 0, .int .u8 0, .int .u8 0, .int .u8 0, .int .u8 0, .int .u8 0, .int .u8 0, .int .u8 0, .int .u8 0, .int .u8 0, .int .u8 0, .int .u8 0, .int .u8 0, .int .u8 0, .int .u8 0, .int .u8 0, .int .u8 0, .int .u8 0, .int .u8 0, .int .u8 0, .int .u8 0, .int .u8 0, .int .u8 0, .int .u8 0, .int .u8 0, .int .u8 0] 42 (0, 0))) := ⟨by rw [hX]; exact heap_alloc_new w _⟩
  have HT : Seal (∀ t ∈ l.map txL, 0 < t.length ∧ t.length ≤ 1000) := ⟨by
    intro t ht
    obtain ⟨s, hs, rfl⟩ := List.mem_map.1 ht
    have := txL_len (hl.each s hs)
    omega⟩
  have HM : Seal (∀ W a' c', Glob W → IsBs W a' n c' (l.map txL) → Calls Tryz.prog 39 #[.slice a' n c'] W fun e w' => e = .returned (.agg ((rootB (l.map txL)).map B).toArray) ∧ Below W.heap.size W w') := ⟨fun W a' c' h hb => mroot_any a' n c' (l.map txL) W h hb hm HT.out⟩
  have HL := Seal.mk (hl.of_heap hXb.out)
  have r32 := rootB_len (l.map txL)
  obtain ⟨D, hD⟩ : ∃ D, D = ((rootB (l.map txL)).map B).toArray := ⟨_, rfl⟩
  have ID : Seal ((Tryz.prog.info? 42).map (·.size) = some D.size) := ⟨by rw [hD, List.size_toArray]; exact dg_info _ r32⟩
  have SD : Seal ((#[.int .u8 0, .int .u8 0, .int .u8 0, .int .u8 0, .int .u8 0, .int .u8 0, .int .u8 0, .int .u8 0, .int .u8 0, .int .u8 0, .int .u8 0, .int .u8 0, .int .u8 0, .int .u8 0, .int .u8 0, .int .u8 0, .int .u8 0, .int .u8 0, .int .u8 0, .int .u8 0, .int .u8 0, .int .u8 0, .int .u8 0, .int .u8 0, .int .u8 0, .int .u8 0, .int .u8 0, .int .u8 0, .int .u8 0, .int .u8 0, .int .u8 0, .int .u8 0] : Array Value).size = D.size) := ⟨by show 32 = D.size; rw [hD, List.size_toArray, List.length_map, r32]⟩
  have AD : Seal (D.all (·.oneCell') = true) := ⟨by rw [hD]; simp [Value.oneCell']⟩
  have HG : Seal (Glob w) := ⟨hG⟩
  rw [← hD] at HM ⊢
  clear hG hD hl r32
  go_enter Tryz.func12, Tryz.ntmps12
  go_upto_region 1 with (fail)
  rw [← hX]
  clear hX
  go_wp2_with fail
  refine (hleaves_any a n cap X).mono ?_
  rintro e w1 ⟨rfl, hw1⟩
  have h1 : w1.heap[X.heap.size]? = some (.cells #[.slice a n cap] 27 (0, 0)) := by rw [← hw1]; exact heap_alloc_new X _
  have hb1 : Below X.heap.size X w1 := by rw [← hw1]; exact below_alloc _ _
  have HC := Seal.mk (hcollect_any X.heap.size a n cap l w1 h1 (HL.out.of_heap hb1))
  have HB1 : Seal (Below w.heap.size w w1) := ⟨hXb.out.trans (hb1.mono hXb.out.size)⟩
  have HZ1 : Seal (w1.heap[w.heap.size]? = some (.cells #[.int .u8 0, .int .u8 0, .int .u8 0, .int .u8 0, .int .u8 0, .int .u8 0, .int .u8 0, .int .u8 0, .int .u8 0, .int .u8 0, .int .u8 0, .int .u8 0, .int .u8 0, .int .u8 0, .int .u8 0, .int .u8 0, .int .u8 0, .int .u8 0, .int .u8 0, .int .u8 0, .int .u8 0, .int .u8 0, .int .u8 0, .int .u8 0, .int .u8 0, .int .u8 0, .int .u8 0, .int .u8 0, .int .u8 0, .int .u8 0, .int .u8 0, .int .u8 0] 42 (0, 0))) := ⟨blk hb1 (Array.getElem?_eq_some_iff.1 hXz.out).1 hXz.out⟩
  clear hw1 h1 hb1
  go_wp2_with fail
  refine HC.out.mono ?_
  rintro e w2 ⟨a2, c2, rfl, HF⟩
  have hb2 := HF.out.2
  have HB2 : Seal (Below w.heap.size w w2) := ⟨HB1.out.trans (hb2.mono HB1.out.size)⟩
  have HZ2 : Seal (w2.heap[w.heap.size]? = some (.cells #[.int .u8 0, .int .u8 0, .int .u8 0, .int .u8 0, .int .u8 0, .int .u8 0, .int .u8 0, .int .u8 0, .int .u8 0, .int .u8 0, .int .u8 0, .int .u8 0, .int .u8 0, .int .u8 0, .int .u8 0, .int .u8 0, .int .u8 0, .int .u8 0, .int .u8 0, .int .u8 0, .int .u8 0, .int .u8 0, .int .u8 0, .int .u8 0, .int .u8 0, .int .u8 0, .int .u8 0, .int .u8 0, .int .u8 0, .int .u8 0, .int .u8 0, .int .u8 0] 42 (0, 0))) := ⟨blk hb2 (Array.getElem?_eq_some_iff.1 HZ1.out).1 HZ1.out⟩
  clear hb2
  go_wp2_with fail
  refine (HM.out w2 a2 c2 (HG.out.below HB2.out) HF.out.1).mono ?_
  rintro e w3 ⟨rfl, hb3⟩
  have HB3 : Seal (Below w.heap.size w w3) := ⟨HB2.out.trans (hb3.mono HB2.out.size)⟩
  have HZ3 : Seal (w3.heap[w.heap.size]? = some (.cells #[.int .u8 0, .int .u8 0, .int .u8 0, .int .u8 0, .int .u8 0, .int .u8 0, .int .u8 0, .int .u8 0, .int .u8 0, .int .u8 0, .int .u8 0, .int .u8 0, .int .u8 0, .int .u8 0, .int .u8 0, .int .u8 0, .int .u8 0, .int .u8 0, .int .u8 0, .int .u8 0, .int .u8 0, .int .u8 0, .int .u8 0, .int .u8 0, .int .u8 0, .int .u8 0, .int .u8 0, .int .u8 0, .int .u8 0, .int .u8 0, .int .u8 0, .int .u8 0] 42 (0, 0))) := ⟨blk hb3 (Array.getElem?_eq_some_iff.1 HZ2.out).1 HZ2.out⟩
  clear hb3
  go_wp2_with (refine wpList_store_row rfl 42 (.tmp 2) (.tmp 6) rfl w.heap.size D rfl rfl 42 #[.int .u8 0, .int .u8 0, .int .u8 0, .int .u8 0, .int .u8 0, .int .u8 0, .int .u8 0, .int .u8 0, .int .u8 0, .int .u8 0, .int .u8 0, .int .u8 0, .int .u8 0, .int .u8 0, .int .u8 0, .int .u8 0, .int .u8 0, .int .u8 0, .int .u8 0, .int .u8 0, .int .u8 0, .int .u8 0, .int .u8 0, .int .u8 0, .int .u8 0, .int .u8 0, .int .u8 0, .int .u8 0, .int .u8 0, .int .u8 0, .int .u8 0, .int .u8 0] HZ3.out ID.out SD.out AD.out ?_)
  refine bodyPost_ret (results_cell_row (fn := Tryz.f12) rfl _ _ w.heap.size 42 D (0, 0) _ rfl (setRow_heap _ _ _ _ _ _ HZ3.out) Tryz.underlying42 rfl ID.out) rfl ⟨rfl, below_row HB3.out (Nat.le_refl _) _⟩
end Frk
