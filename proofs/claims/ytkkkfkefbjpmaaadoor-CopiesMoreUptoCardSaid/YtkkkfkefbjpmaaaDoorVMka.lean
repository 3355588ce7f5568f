/- Letters: their texts, as handover.leaves yields them. -/
import Derived.Test.YtkkkfkefbjpmaaaDoorVHab
import Derived.Test.YtkkkfkefbjpmaaaDoorVMem
import Derived.LoopIn
import Derived.RangeFuncCalls
import Derived.RangeFuncBound
import Derived.RangeFuncNested
import Derived.RangeFuncLeaves
import Derived.OwnWalkIn
import Derived.Test.YtkkkfkefbjpmaaaDoorVTag
import Derived.Shelf.Bytes.SlJoin
import Derived.Test.YtkkkfkefbjpmaaaDoorVGen
import Derived.Test.YtkkkfkefbjpmaaaDoorVEnv
import Derived.Test.YtkkkfkefbjpmaaaDoorVHac
namespace Frk
open Go Go.RowKit Go.Proofs
set_option maxRecDepth 100000

def okS (s : List Int) : Prop := s.length = 6 ∧ ∀ x ∈ s, I64 x
/-- the text of a letter -/
def txL (s : List Int) : Bytes := encL (lfs s)
/-- a slice of letters -/
structure IsL (w : World) (a : Option Addr) (n cap : Nat) (l : List (List Int)) : Prop where
  llen : l.length = n
  lcap : n ≤ cap
  lmax : n ≤ 1000
  cmax : cap ≤ 9223372036854775807
  each : ∀ s ∈ l, okS s
  at_ : n = 0 ∨ ∃ g off, a = some ⟨g, off, none⟩ ∧ w.rangeAt g off (l.flatten.map (Value.int .i64)) ∧ g < w.heap.size

theorem IsL.of_heap {w w' : World} {a : Option Addr} {n cap : Nat} {l : List (List Int)} (h : IsL w a n cap l) (hb : Below w.heap.size w w') : IsL w' a n cap l :=
  ⟨h.llen, h.lcap, h.lmax, h.cmax, h.each, by
    rcases h.at_ with h0 | ⟨g, off, e, hr, hg⟩
    · exact .inl h0
    · exact .inr ⟨g, off, e, rangeAt_below' hr hb, Nat.lt_of_lt_of_le hg hb.size⟩⟩

/-- what leaves yields -/
def encV (x : Nat × Nat × Nat) : Array Value := #[.slice (some ⟨x.1, 0, none⟩) x.2.1 x.2.2]
def GL (l : List (List Int)) (_ : Nat) (pre : List (Nat × Nat × Nat)) (x : Nat × Nat × Nat) (W : World) : Prop :=
  ∃ s, l[pre.length]? = some s ∧ IsB W (some ⟨x.1, 0, none⟩) x.2.1 x.2.2 (txL s)

/-- a slice of slices of bytes -/
structure IsBs (w : World) (a : Option Addr) (n cap : Nat) (ts : List Bytes) : Prop where
  llen : ts.length = n
  lcap : n ≤ cap
  lmax : n ≤ 1000
  cmax : cap ≤ 9223372036854775807
  at_ : n = 0 ∨ ∃ g off, a = some ⟨g, off, none⟩ ∧ g < w.heap.size ∧ ∀ j t, ts[j]? = some t → ∃ b m c, w.cell? ⟨g, off + j, none⟩ = some (.slice (some ⟨b, 0, none⟩) m c) ∧ IsB w (some ⟨b, 0, none⟩) m c t

theorem IsB.later {w w' : World} {a : Option Addr} {n cap : Nat} {l : Bytes} (h : IsB w a n cap l) (hb : Below w.heap.size w w') : IsB w' a n cap l :=
  ⟨h.llen, h.lcap, h.lmax, h.cmax, by
    rcases h.at_ with h0 | ⟨g, off, e, hr, hg⟩
    · exact .inl h0
    · exact .inr ⟨g, off, e, rangeAt_below' hr hb, Nat.lt_of_lt_of_le hg hb.size⟩⟩

theorem IsBs.of_heap {w w' : World} {a : Option Addr} {n cap : Nat} {ts : List Bytes} (h : IsBs w a n cap ts) (hb : Below w.heap.size w w') : IsBs w' a n cap ts :=
  ⟨h.llen, h.lcap, h.lmax, h.cmax, by
    rcases h.at_ with h0 | ⟨g, off, e, hg, hr⟩
    · exact .inl h0
    · refine .inr ⟨g, off, e, Nat.lt_of_lt_of_le hg hb.size, fun j t ht => ?_⟩
      obtain ⟨b, m, c, hc, hi⟩ := hr j t ht
      exact ⟨b, m, c, (hb.cell (p := ⟨g, off + j, none⟩) (block_lt_of_cell hc)).trans hc, hi.later hb⟩⟩

/-- bytes stay where a block of cells that holds something else, or no cells, is turned -/
theorem IsB.grown' {w w' : World} {g m c : Nat} {l : Bytes} {r : Option Nat} (h : IsB w (some ⟨g, 0, none⟩) m c l) (hg : w.grownBy w' r) (hne : r ≠ some g) : IsB w' (some ⟨g, 0, none⟩) m c l :=
  ⟨h.llen, h.lcap, h.lmax, h.cmax, by
    rcases h.at_ with h0 | ⟨g1, off, e, hr, hlt⟩
    · exact .inl h0
    · cases e
      exact .inr ⟨g, 0, rfl, rangeAt_grown hr hg (fun e' => hne e'.symm), Nat.lt_of_lt_of_le hlt hg.size⟩⟩

theorem isB_cell {w : World} {g m c : Nat} {l : Bytes} (h : IsB w (some ⟨g, 0, none⟩) m c l) (h0 : 0 < l.length) : ∃ x : UInt8, w.cell? ⟨g, 0, none⟩ = some (B x) := by
  rcases h.at_ with hz | ⟨g1, off, e, hr, hlt⟩
  · have := h.llen; omega
  · cases e
    exact ⟨l[0], by have := hr 0 (B l[0]) (by rw [List.getElem?_map, List.getElem?_eq_getElem h0]; rfl); simpa using this⟩

def hdrV (x : Nat × Nat × Nat) : Value := .slice (some ⟨x.1, 0, none⟩) x.2.1 x.2.2

/-- what Collect has gathered -/
structure AS (ts : List Bytes) (w0 : World) (pre : List (Nat × Nat × Nat)) (v : Value) (W : World) : Prop where
  cell : W.heap[w0.heap.size]? = some (.cells #[v] 54 (0, 0))
  own : W.ownsRow (w0.heap.size + 1) 47 1 v pre.length (pre.map hdrV)
  bel : Below w0.heap.size w0 W
  txt : ∀ (j : Nat) (x : Nat × Nat × Nat), pre[j]? = some x → ∃ t, ts[j]? = some t ∧ IsB W (some ⟨x.1, 0, none⟩) x.2.1 x.2.2 t
  big : w0.heap.size + 1 ≤ W.heap.size
  nil : pre = [] → v = .slice none 0 0

theorem cells_ne {A : World} {k b : Nat} {cs : Array Value} {t : TypeId} {fr : Nat × Nat} (h : A.heap[k]? = some (.cells cs t fr)) (ho : ∃ o : Obj, A.heap[b]? = some o ∧ o.isCells = false) : k ≠ b := by
  rintro rfl
  obtain ⟨o, h1, h2⟩ := ho
  rw [h1] at h
  cases h
  cases h2

theorem block_of_cell {A : World} {g i : Nat} {v : Value} (h : A.cell? ⟨g, i, none⟩ = some v) : ∃ o : Obj, A.heap[g]? = some o ∧ o.isCells = true := cells_of_cell h

theorem AS.grown {ts : List Bytes} (hts : ∀ t ∈ ts, 0 < t.length) {w0 : World} {pre : List (Nat × Nat × Nat)} {v : Value} {A B' : World} {r : Option Nat} (h : AS ts w0 pre v A) (hg : A.grownBy B' r)
    (hr : ∀ b, r = some b → w0.heap.size ≤ b ∧ ∃ o : Obj, A.heap[b]? = some o ∧ o.isCells = false) : AS ts w0 pre v B' := by
  refine ⟨(hg.block _ (Array.getElem?_eq_some_iff.1 h.cell).1 (fun e => ?_)).trans h.cell, h.own.kept hg ?_, h.bel.grown hg h.bel.size (fun b e => (hr b e).1), fun j x hx => ?_, Nat.le_trans h.big hg.size, h.nil⟩
  · exact cells_ne h.cell (hr _ e.symm).2 rfl
  · rcases h.own.2 with ⟨rfl, _⟩ | ⟨g, cap, cur, rfl, _, hgc, _⟩
    · exact .inl rfl
    · refine .inr (fun e => cells_ne hgc (hr g (by simpa [Value.ownBlock] using e.symm)).2 rfl)
  · obtain ⟨t, ht, hi⟩ := h.txt j x hx
    refine ⟨t, ht, hi.grown' hg (fun e => ?_)⟩
    obtain ⟨c, hc⟩ := isB_cell hi (hts t (List.mem_of_getElem? ht))
    obtain ⟨o, h1, h2⟩ := block_of_cell hc
    obtain ⟨o', h3, h4⟩ := (hr _ e).2
    rw [h1] at h3; cases h3; rw [h2] at h4; cases h4

theorem AS.apart {ts : List Bytes} {w0 : World} {pre : List (Nat × Nat × Nat)} {v : Value} {W : World} (h : AS ts w0 pre v W) {g m c : Nat} {t : Bytes} (hi : IsB W (some ⟨g, 0, none⟩) m c t) (h0 : 0 < t.length) :
    v.ownBlock ≠ some g ∧ w0.heap.size ≠ g := by
  obtain ⟨x, hx⟩ := isB_cell hi h0
  constructor
  · intro e
    match hp : pre with
    | [] =>
      rw [h.nil rfl] at e; cases e
    | y :: pre' =>
      have hc := h.own.cells (g := g) e
      have := hc 0 (hdrV y) (by simp)
      rw [Addr.add_lit] at this
      rw [Nat.add_zero] at this
      rw [hx] at this
      cases this
  · rintro rfl
    rw [cell_of_row _ _ _ _ _ _ h.cell] at hx
    have hx' : v = B x := by simpa using hx
    rcases h.own.2 with ⟨rfl, _⟩ | ⟨g, cap, cur, rfl, _⟩
    · cases hx'
    · cases hx'

theorem AS.step {ts : List Bytes} (hts : ∀ t ∈ ts, 0 < t.length) {w0 W w5 : World} {pre : List (Nat × Nat × Nat)} {v v5 : Value} {x : Nat × Nat × Nat} {t : Bytes} (h : AS ts w0 pre v W) (ht : ts[pre.length]? = some t) (hi : IsB W (some ⟨x.1, 0, none⟩) x.2.1 x.2.2 t)
    (hown : w5.ownsRow (w0.heap.size + 1) 47 1 v5 (pre.length + 1) (pre.map hdrV ++ [hdrV x])) (hg : (W.alloc (.cells #[hdrV x] 47)).grownBy w5 v.ownBlock) :
    AS ts w0 (pre ++ [x]) v5 (w5.setCell ⟨w0.heap.size, 0, none⟩ v5) ∧ KeepsOthers W (w5.setCell ⟨w0.heap.size, 0, none⟩ v5) ∧ (∀ r, r < w0.heap.size → (w5.setCell ⟨w0.heap.size, 0, none⟩ v5).heap[r]? = W.heap[r]?) ∧
      IsB (w5.setCell ⟨w0.heap.size, 0, none⟩ v5) (some ⟨x.1, 0, none⟩) x.2.1 x.2.2 t := by
  have hbig := h.big
  have hz5 := hg.size
  rw [size_alloc] at hz5
  have vlt := h.own.lt
  have hga : W.grownBy (W.alloc (.cells #[hdrV x] 47)) none := World.grownBy_alloc W _ none
  have hset := grownBy_setCell' w5 w0.heap.size v5
  have mv : ∀ {g m c : Nat} {t : Bytes}, 0 < t.length → IsB W (some ⟨g, 0, none⟩) m c t → IsB (w5.setCell ⟨w0.heap.size, 0, none⟩ v5) (some ⟨g, 0, none⟩) m c t := by
    intro g m c t h0 hi
    obtain ⟨n1, n2⟩ := h.apart hi h0
    exact ((hi.grown' hga (by simp)).grown' hg n1).grown' hset (by intro e; exact n2 (Option.some.inj e))
  have c5 : w5.heap[w0.heap.size]? = some (.cells #[v] 54 (0, 0)) := (hg.block _ (by rw [size_alloc]; omega) (fun e => by have := (vlt _ e.symm).1; omega)).trans ((Below.heap_alloc W _ _ (by omega)).trans h.cell)
  have cell' : (w5.setCell ⟨w0.heap.size, 0, none⟩ v5).heap[w0.heap.size]? = some (.cells #[v5] 54 (0, 0)) := by
    have := heap_setCell_row (cs := [v]) (i := 0) v5 c5
    simpa using this
  have bel5 : Below w0.heap.size w0 w5 := (h.bel.alloc (by omega) _).grown hg (by rw [size_alloc]; omega) (fun k e => by have := (vlt k e).1; omega)
  refine ⟨⟨cell', ?_, bel5.setCell (p := ⟨w0.heap.size, 0, none⟩) (by simp) _, ?_, ?_, by simp⟩, ?_, ?_, mv (hts t (List.mem_of_getElem? ht)) hi⟩
  · have := hown.kept hset (by
      cases hv : v5.ownBlock with
      | none => exact .inl rfl
      | some b => exact .inr (fun e => by have := (hown.lt b hv).1; have := Option.some.inj e; omega))
    rw [List.length_append, List.map_append]
    exact this
  · intro j y hy
    by_cases hj : j < pre.length
    · rw [List.getElem?_append_left hj] at hy
      obtain ⟨t', ht', hi'⟩ := h.txt j y hy
      exact ⟨t', ht', mv (hts t' (List.mem_of_getElem? ht')) hi'⟩
    · have hj2 := (List.getElem?_eq_some_iff.1 hy).1
      rw [List.length_append] at hj2
      simp at hj2
      obtain rfl : j = pre.length := by omega
      rw [List.getElem?_append_right (Nat.le_refl _), Nat.sub_self] at hy
      simp at hy
      subst hy
      exact ⟨t, ht, mv (hts t (List.mem_of_getElem? ht)) hi⟩
  · have := hset.size; omega
  · refine ((KeepsOthers.alloc W _).trans (KeepsOthers.of_grownBy hg (fun j o e ho => ?_))).trans (KeepsOthers.setCell _ _ _)
    rcases h.own.2 with ⟨rfl, _⟩ | ⟨g, cap, cur, rfl, _, hgc, _⟩
    · cases e
    · have hgj : g = j := by simpa [Value.ownBlock] using e
      subst hgj
      rw [Below.heap_alloc W _ _ (Array.getElem?_eq_some_iff.1 hgc).1, hgc] at ho
      cases ho; rfl
  · intro r hr
    refine (hset.block r (by omega) (fun e => by have := Option.some.inj e; omega)).trans ((hg.block r (by rw [size_alloc]; omega) (fun e => by have := (vlt r e.symm).1; omega)).trans (Below.heap_alloc W _ _ (by omega)))

theorem slice_form {w : World} {base : Nat} {e : TypeId} {size n : Nat} {v : Value} {xs : List Value} (h : w.ownsRow base e size v n xs) : ∃ a m c, v = .slice a m c := by
  rcases h.2 with ⟨rfl, _⟩ | ⟨g, cap, cur, rfl, _⟩
  · exact ⟨_, _, _, rfl⟩
  · exact ⟨_, _, _, rfl⟩

section
attribute [local go_sem] Oper.semAt_some

end

open Go Go.RowKit Go.Proofs Go.Shelf
set_option maxRecDepth 100000

def rJ : Ren := ⟨fun x => if x = 14 then 125 else 137,
  fun x => if x = 0 then 0 else if x = 3 then 3 else if x = 4 then 4 else if x = 5 then 5 else if x = 9 then 9 else if x = 20 then 20 else if x = 22 then 47 else 54, fun x => x⟩

/-- what Join leaves: a new slice of bytes -/
def JoinPost (l : Bytes) (w : World) (e : Ending) (w' : World) : Prop :=
  ∃ g n cap, e = .returned (.slice (some ⟨g, 0, none⟩) n cap) ∧ Seal (IsB w' (some ⟨g, 0, none⟩) n cap l ∧ w.heap.size ≤ g ∧ Below w.heap.size w w')

theorem below_drewn (w : World) : Below w.heap.size w w.drew := ⟨rfl, rfl, rfl, Nat.le_refl _, fun _ _ => rfl⟩

/-- the digest of a leaf, of two digests -/
def tgLeaf : Bytes := [108, 101, 97, 102]
def tgNode : Bytes := [110, 111, 100, 101]
def leafD (t : Bytes) : Bytes := sha (sha tgLeaf ++ t)
def nodeD (a b : Bytes) : Bytes := sha (sha tgNode ++ (a ++ b))
def upB : List Bytes → List Bytes
  | a :: b :: r => nodeD a b :: upB r
  | r => r

/-- a row of digests that lies from base on -/
def RowAt (w : World) (base : Nat) (v : Value) (l : List Bytes) : Prop := ∃ g off cap, v = .slice (some ⟨g, off, none⟩) l.length cap ∧ l.length ≤ cap ∧ cap ≤ 9223372036854775807 ∧ base ≤ g ∧ g < w.heap.size ∧ w.rangeAt g off (dcells l)

/-- how far up has come -/
structure UpRel (l : List Bytes) (w : World) (g o m c : Nat) (out rest : List Bytes) (v : Value) (W : World) : Prop where
  eq : upB l = out ++ upB rest
  cnt : out.length + rest.length ≤ l.length
  len : rest.length = m
  mc : m ≤ c
  cm : c ≤ 9223372036854775807
  row : W.rangeAt g o (dcells rest)
  d32 : ∀ d ∈ rest, d.length = 32
  own : W.ownsRow w.heap.size 25 32 v out.length (dcells out)
  bel : Below w.heap.size w W

theorem UpRel.later {l : List Bytes} {w : World} {g o m c : Nat} {out rest : List Bytes} {v : Value} {W W' : World} (h : UpRel l w g o m c out rest v W) (hb : Below W.heap.size W W') (_ : g < w.heap.size) : UpRel l w g o m c out rest v W' :=
  ⟨h.eq, h.cnt, h.len, h.mc, h.cm, rangeAt_below' h.row hb, h.d32, ownsRow_below h.own hb, h.bel.trans (hb.mono h.bel.size)⟩

/-- the rows of a first row -/
def rowN (r : List Bytes) : Nat → List Bytes
  | 0 => r
  | k + 1 => upB (rowN r k)
def encR (x : Nat × Nat × Nat × Nat) : Array Value := #[.slice (some ⟨x.1, x.2.1, none⟩) x.2.2.1 x.2.2.2]
def GR (r : List Bytes) (sz : Nat) (pre : List (Nat × Nat × Nat × Nat)) (x : Nat × Nat × Nat × Nat) (W : World) : Prop :=
  (rowN r pre.length).length = x.2.2.1 ∧ x.2.2.1 ≤ x.2.2.2 ∧ x.2.2.2 ≤ 9223372036854775807 ∧ sz ≤ x.1 ∧ x.1 < W.heap.size ∧ W.rangeAt x.1 x.2.1 (dcells (rowN r pre.length))
def SR (r : List Bytes) (xs : List (Nat × Nat × Nat × Nat)) : Prop := ∃ K, xs.length = K + 1 ∧ (rowN r K).length ≤ 1 ∧ ∀ k, k < K → 1 < (rowN r k).length
def globB (r : Nat) : Prop := r = 0 ∨ r = 1

theorem Glob.of_mine {W W' : World} (h : Glob W) (hk : ∀ r, globB r → W'.heap[r]? = W.heap[r]?) : Glob W' :=
  ⟨fun j u hu => (World.cell?_of_block (w := W) (hk _ (.inl rfl))).trans (h.start j u hu), fun j u hu => (World.cell?_of_block (w := W) (hk _ (.inr rfl))).trans (h.nums j u hu)⟩

/-- what the rows' walk knows -/
structure RwRel (J : List (Nat × Nat × Nat × Nat) → World → Prop) (W : World) (r : List Bytes) (K g off n cap : Nat) (Wk : World) : Prop where
  glob : Glob Wk
  acc : ∃ xs W0, xs.length = K ∧ J xs W0 ∧ Below W0.heap.size W0 Wk ∧ W.heap.size ≤ W0.heap.size ∧ W0.heap.size ≤ g
  big : ∀ k, k < K → 1 < (rowN r k).length
  len : (rowN r K).length = n
  lcap : n ≤ cap
  cm : cap ≤ 9223372036854775807
  lt : g < Wk.heap.size
  row : Wk.rangeAt g off (dcells (rowN r K))

theorem wpListIn_load_mid {l n : Nat} {P : Program} {ops : Array Oper} {rest : List Oper} {o : Oper} {a : Act} {w : World} {Q : Exit → Act → World → Prop} (hg : o.guard = none) (ty : TypeId) (x : Operand) (ho : o.op = .load ty x)
    (b off : Nat) (hx : a.eval x = .pointer (some ⟨b, off, none⟩)) (cs : List Value) (d : TypeDesc) (hc : w.rangeAt b off cs)
    (hu : P.underlying ty = some d) (hd : d.isRow = true) (hi : (P.info? ty).map (·.size) = some cs.length)
    (h : wpListIn (Fence.wide.inRound l) n P ops Q rest (a.put o.dst (.agg cs.toArray)) w) : wpListIn (Fence.wide.inRound l) n P ops Q (o :: rest) a w :=
  wpListIn_plain hg fun K hK' => opIn_of_op (by rw [ho]; intro c hc'; cases hc') (wp_load_mid ty x ho b off hx cs d hc hu hd hi (hK' _ _ h))

theorem wpListIn_store_row {l n : Nat} {P : Program} {ops : Array Oper} {rest : List Oper} {o : Oper} {a : Act} {w : World} {Q : Exit → Act → World → Prop} (hgd : o.guard = none) (ty : TypeId) (x y : Operand) (ho : o.op = .store ty x y)
    (g : Nat) (cells : Array Value) (hx : a.eval x = .pointer (some ⟨g, 0, none⟩)) (hy : a.eval y = .agg cells)
    (t : TypeId) (old : Array Value) (hg : w.heap[g]? = some (.cells old t (0, 0))) (hi : (P.info? ty).map (·.size) = some cells.size)
    (hold : old.size = cells.size) (h1 : cells.all (·.oneCell') = true)
    (h : wpListIn (Fence.wide.inRound l) n P ops Q rest (a.put o.dst undef) (w.setRow g cells)) : wpListIn (Fence.wide.inRound l) n P ops Q (o :: rest) a w :=
  wpListIn_plain hgd fun K hK' => opIn_of_op (by rw [ho]; intro c hc'; cases hc') (by
    unfold Oper.wp
    rw [exec_store_row ty x y ho g cells hx hy t old hg hi hold h1]
    exact hK' _ _ h)

def hdD (r : List Bytes) : Bytes := r.headD []
/-- the digest of a list of texts -/
def rootF : Nat → List Bytes → Bytes
  | 0, r => hdD r
  | f + 1, r => if r.length ≤ 1 then hdD r else rootF f (upB r)
def rootB (ts : List Bytes) : Bytes := if ts = [] then noneD else rootF ts.length (ts.map leafD)

/-- the variable d so far -/
def dNow (r : List Bytes) (k : Nat) : Array Value := match k with
  | 0 => #[.int .u8 0, .int .u8 0, .int .u8 0, .int .u8 0, .int .u8 0, .int .u8 0, .int .u8 0, .int .u8 0, .int .u8 0, .int .u8 0, .int .u8 0, .int .u8 0, .int .u8 0, .int .u8 0, .int .u8 0, .int .u8 0, .int .u8 0, .int .u8 0, .int .u8 0, .int .u8 0, .int .u8 0, .int .u8 0, .int .u8 0, .int .u8 0, .int .u8 0, .int .u8 0, .int .u8 0, .int .u8 0, .int .u8 0, .int .u8 0, .int .u8 0, .int .u8 0]
  | k + 1 => ((hdD (rowN r k)).map B).toArray

section
attribute [local go_sem] Oper.semAt_some

end

end Frk
