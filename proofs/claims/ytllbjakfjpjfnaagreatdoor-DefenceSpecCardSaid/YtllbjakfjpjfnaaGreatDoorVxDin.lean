/- slices.Clone at digests. -/
import Derived.Test.YtllbjakfjpjfnaaGreatDoorVxgGen
import Derived.Deep.AppendLies
import Derived.Lib.LazyBuf
import Derived.Test.YtllbjakfjpjfnaaGreatDoorVxRow
import Derived.Deep.RegionHeldLaw
namespace Frk
open Go Go.RowKit Go.Proofs
set_option maxRecDepth 100000

theorem info_dg : (Tryz.prog.info? 42).map (fun i => (i.zero, i.size, i.bytes)) = some (some (.agg (zs 32).toArray), 32, 32) := by kernel_rfl

/-- a slice of digests of the call's own -/
def OwnD (w : World) (base : Nat) (v : Value) (n : Nat) (l : List Bytes) : Prop := w.ownsRow base 42 32 v n (dcells l)

theorem dcells_length : ∀ (l : List Bytes), (∀ d ∈ l, d.length = 32) → (dcells l).length = l.length * 32
  | [], _ => rfl
  | d :: l, h => by
    have h1 := dcells_length l (fun x hx => h x (by simp [hx]))
    have h2 := h d (by simp)
    unfold dcells at *
    simp only [List.flatten_cons, List.map_append, List.length_append, List.length_map, List.length_cons] at *
    omega

theorem dcells_one (l : List Bytes) : ∀ u ∈ dcells l, u.oneCell' = true := by
  intro u hu
  obtain ⟨b, _, rfl⟩ := List.mem_map.1 hu
  rfl

set_option maxHeartbeats 1000000 in
theorem clone_any (a : Option Addr) (len cap : Nat) (l : List Bytes) (w : World) (hd : IsD w a len cap l) :
    Calls Tryz.prog 29 #[.slice a len cap] w fun e w' => ∃ v, e = .returned v ∧ Seal (OwnD w' w.heap.size v len l) ∧ Seal (v = .slice none 0 0 ∧ len = 0 ∨ ∃ g c, v = .slice (some ⟨g, 0, none⟩) len c) ∧ Below w.heap.size w w' := by
  have he := fun w : World => Lib.run_eql_slice_nil (P := Tryz.prog) w 24 42 a len cap 0 0 Tryz.underlying24
  cases a with
  | none =>
    have h0 : len = 0 := by
      rcases hd.at_ with h | ⟨_, _, e, _⟩
      · exact h
      · cases e
    subst h0
    obtain rfl := List.eq_nil_of_length_eq_zero hd.llen
    clear hd
    go_enter Tryz.func29, Tryz.ntmps29
    go_wp2
    go_ret
    exact ⟨_, rfl, ⟨World.ownsRow_nil _ _ _ _⟩, ⟨by simp⟩, Below.refl _ _⟩
  | some ad =>
    obtain ⟨i0, hi, hz0, hz1, hz2⟩ := info_parts info_dg
    have HI := Seal.mk (And.intro hi (And.intro hz0 (And.intro hz1 hz2)))
    have hn : ∀ j u, (dcells l)[j]? = some u → (w.alloc (.cells #[] 42)).cell? (ad.add j) = some u := by
      intro j u hu
      rcases hd.at_ with h0 | ⟨g, off, e, hr, hg⟩
      · obtain rfl := List.eq_nil_of_length_eq_zero (hd.llen.trans h0)
        simp [dcells] at hu
      · cases e
        rw [Addr.add_mid]
        exact cell_allocd (hr j u hu) _
    have HN := Seal.mk hn
    have HL : Seal ((dcells l).length = len * 32) := ⟨by rw [dcells_length l hd.each, hd.llen]⟩
    have hO : Seal ((w.alloc (.cells #[] 42)).ownsRow w.heap.size 42 32 (.slice (some ⟨w.heap.size, 0, none⟩) 0 0) 0 []) := ⟨by simp, .inr ⟨w.heap.size, 0, #[], rfl, Nat.le_refl _, heap_alloc_new w _, Nat.le_refl _, by unfold maxLen; omega, by simp, by simp⟩⟩
    have hlm := hd.lmax
    clear hd hn hi hz0 hz1 hz2
    go_enter Tryz.func29, Tryz.ntmps29
    go_wp2_with (at_builtin; refine wpList_append_own _ rfl (.tmp 5) (.tmp 6) 24 rfl w.heap.size 42 i0 _ 32 32 Tryz.underlying24 HI.out.1 HI.out.2.1 HI.out.2.2.1 HI.out.2.2.2 (by rfl) (by decide) _ 0 [] rfl hO.out ad len cap (dcells l) rfl HL.out HN.out (dcells_one l) (by unfold maxLen; omega) (by omega) (by simp) ?_; intro v' w' h2 h3 h4)
    go_ret
    rw [Nat.zero_add, List.nil_append] at h2
    refine ⟨v', rfl, ⟨h2⟩, ⟨?_⟩, ?_⟩
    · rcases h2.2 with ⟨e, h0⟩ | ⟨g, c, cur, e, _⟩
      · exact .inl ⟨e, h0⟩
      · exact .inr ⟨g, c, e⟩
    · exact below_own hO.out (by rw [size_alloc]; omega) h3 |> fun h => ((below_alloc w _).trans h)

theorem flat_take : ∀ (l : List Bytes) (i : Nat), (∀ d ∈ l, d.length = 32) → (l.take i).flatten = l.flatten.take (i * 32)
  | [], i, _ => by simp
  | d :: l, 0, _ => by simp
  | d :: l, i + 1, he => by
    have hd := he d (by simp)
    rw [List.take_succ_cons, List.flatten_cons, List.flatten_cons, flat_take l i (fun x hx => he x (by simp [hx])), List.take_append, List.take_of_length_le (l := d) (by omega), hd, show (i + 1) * 32 - 32 = i * 32 from by omega]
theorem flat_drop : ∀ (l : List Bytes) (i : Nat), (∀ d ∈ l, d.length = 32) → (l.drop i).flatten = l.flatten.drop (i * 32)
  | [], i, _ => by simp
  | d :: l, 0, _ => by simp
  | d :: l, i + 1, he => by
    have hd := he d (by simp)
    rw [List.drop_succ_cons, List.flatten_cons, flat_drop l i (fun x hx => he x (by simp [hx])), List.drop_append, List.drop_of_length_le (l := d) (by omega), List.nil_append, hd, show (i + 1) * 32 - 32 = i * 32 from by omega]
theorem dcells_ins (l : List Bytes) (i : Nat) (d : Bytes) (he : ∀ d ∈ l, d.length = 32) : dcells (l.take i ++ d :: l.drop i) = (dcells l).take (i * 32) ++ d.map B ++ (dcells l).drop (i * 32) := by
  unfold dcells
  rw [List.flatten_append, List.flatten_cons, flat_take l i he, flat_drop l i he, List.map_append, List.map_append, List.map_take, List.map_drop, List.append_assoc]

/-- what Insert leaves -/
def InsPost (base n : Nat) (l : List Bytes) (w : World) (e : Ending) (w' : World) : Prop :=
  ∃ g c, e = .returned (.slice (some ⟨g, 0, none⟩) (n + 1) c) ∧ Seal (OwnD w' base (.slice (some ⟨g, 0, none⟩) (n + 1) c) (n + 1) l) ∧ Below base w w'

theorem digest_one (d : Bytes) : ∀ u ∈ d.map B, u.oneCell' = true := by
  intro u hu
  obtain ⟨b, _, rfl⟩ := List.mem_map.1 hu
  rfl

theorem insPost_of {base n : Nat} {l : List Bytes} {w w' : World} {v' : Value} (h : OwnD w' base v' (n + 1) l) (hb : Below base w w') : InsPost base n l w (.returned v') w' := by
  have h' := h
  obtain ⟨g, c, rfl, _⟩ := World.ownsRow.form h (Nat.succ_pos n)
  exact ⟨g, c, rfl, ⟨h'⟩, hb⟩


set_option maxHeartbeats 1000000 in
/-- at the end -/
theorem dinsert_end (base n vb : Nat) (v : Value) (l : List Bytes) (d : Bytes) (w : World) (hown : Seal (OwnD w base v n l)) (hv : Seal (w.heap[vb]? = some (.cells (d.map B).toArray 42 (0, 0)))) (h32 : d.length = 32) (hn : n ≤ 1099511627776) (hbase : base ≤ w.heap.size) :
    Calls Tryz.prog 28 #[v, .int .i64 (n : Nat), .slice (some ⟨vb, 0, none⟩) 1 1] w (InsPost base n (l ++ [d]) w) := by
  obtain ⟨i0, hi, hz0, hz1, hz2⟩ := info_parts info_dg
  have HI := Seal.mk (And.intro hi (And.intro hz0 (And.intro hz1 hz2)))
  have HN : Seal ((d.map B).length = 1 * 32) := ⟨by rw [List.length_map, h32]⟩
  clear hi hz0 hz1 hz2
  have HX : Seal (dcells l ++ d.map B = dcells (l ++ [d])) := ⟨by unfold dcells; simp⟩
  have hcase := hown.out.2
  rcases hcase with ⟨rfl, rfl⟩ | ⟨g, cap, cur, rfl, hg0, hg, hnc, hcm, hcs, htk⟩
  · clear h32
    go_enter Tryz.func28, Tryz.ntmps28
    go_wp2_with (at_builtin; refine wpList_append_own _ rfl (.tmp 23) (.tmp 24) 24 rfl base 42 i0 _ 32 32 Tryz.underlying24 HI.out.1 HI.out.2.1 HI.out.2.2.1 HI.out.2.2.2 (by rfl) (by decide) _ 0 (dcells l) rfl hown.out ⟨vb, 0, none⟩ 1 1 (d.map B) rfl HN.out (World.news_of_block hv.out) (digest_one d) (by unfold maxLen; omega) (by omega) hbase ?_; intro v' w' h2 h3 h4)
    go_ret
    rw [HX.out] at h2
    exact insPost_of h2 (below_own hown.out hbase h3)
  · unfold maxLen at hcm
    clear hg hcs htk h32
    go_enter Tryz.func28, Tryz.ntmps28
    go_wp2_with (at_builtin; refine wpList_append_own _ rfl (.tmp 23) (.tmp 24) 24 rfl base 42 i0 _ 32 32 Tryz.underlying24 HI.out.1 HI.out.2.1 HI.out.2.2.1 HI.out.2.2.2 (by rfl) (by decide) _ n (dcells l) rfl hown.out ⟨vb, 0, none⟩ 1 1 (d.map B) rfl HN.out (World.news_of_block hv.out) (digest_one d) (by unfold maxLen; omega) (by omega) hbase ?_; intro v' w' h2 h3 h4)
    all_goals
      go_ret
      rw [HX.out] at h2
      exact insPost_of h2 (below_own hown.out hbase h3)

/-- in the midst, there is room -/
theorem dins_fit {cap n i : Nat} {cur : List Value} {l : List Bytes} (hn : n + 1 ≤ cap) (hi : i < n) (hcs : cur.length = cap * 32) (hl : (dcells l).length = n * 32) :
    (i + 1) * 32 + ((dcells l).drop (i * 32)).length ≤ cur.length := by
  rw [List.length_drop, hl, hcs]; omega

set_option maxHeartbeats 4000000 in
theorem dinsert_room (n i vb g cap : Nat) (cur : List Value) (l : List Bytes) (d : Bytes) (w : World) (hi : i < n) (hroom : n + 1 ≤ cap) (hn : n ≤ 1099511627776) (_hcap : cap ≤ 9223372036854775807)
    (hg : Seal (w.heap[g]? = some (.cells cur.toArray 42 (0, 0)))) (htk : Seal (cur.take (n * 32) = dcells l)) (hcs : Seal (cur.length = cap * 32)) (hvb : vb ≠ g)
    (hv : Seal (w.heap[vb]? = some (.cells (d.map B).toArray 42 (0, 0)))) (h32 : Seal (d.length = 32)) :
    Calls Tryz.prog 28 #[.slice (some ⟨g, 0, none⟩) n cap, .int .i64 (i : Nat), .slice (some ⟨vb, 0, none⟩) 1 1] w fun e w' =>
      e = .returned (.slice (some ⟨g, 0, none⟩) (n + 1) cap) ∧ Seal (w'.heap[g]? = some (.cells (lay (lay cur ((i + 1) * 32) ((dcells l).drop (i * 32))) (i * 32) (d.map B)).toArray 42 (0, 0))) ∧ Below g w w' := by
  have hll : (dcells l).length = n * 32 := by rw [← htk.out, List.length_take, hcs.out]; omega
  have hsz : (Tryz.prog.info? 42).map (·.size) = some 32 := by kernel_rfl
  have hov : ∀ lb cb, (callFunc 51 #[.slice (some ⟨vb, 0, none⟩) 1 1, .slice (some ⟨g, (i + 1) * 32, none⟩) lb cb]).run Tryz.prog w = .ok (.value (.bool false)) w := fun lb cb => by
    rw [run_callFunc_extern Tryz.func51 (by kernel_rfl) (by kernel_rfl) (by kernel_rfl) (e := Extern.SlicesOverlaps.overlaps #[24, 24] #[4]) (by kernel_rfl),
      Lib.run_overlaps_apart w 24 4 42 Tryz.underlying24 32 (fun w => by kernel_rfl) ⟨vb, 0, none⟩ ⟨g, (i + 1) * 32, none⟩ 1 1 lb cb hvb 42 42 32 (cap * 32) (by simp [World.shape?, hv.out, h32.out]) (by simp [World.shape?, hg.out, hcs.out]) (by omega) (frozen_of_row _ _ _ _ _ hv.out) (frozen_of_row _ _ _ _ _ hv.out)]
    rfl
  have hcp1 : ∀ ty dc sc, (Builtin.copy_ #[24, 24] ty #[.slice (some ⟨g, (i + 1) * 32, none⟩) (n - i) dc, .slice (some ⟨g, i * 32, none⟩) (n + 1 - i) sc]).run Tryz.prog w.drew = .ok (goInt (Nat.min (n + 1 - i) (n - i) : Nat)) (w.drew.setRow g (lay cur ((i + 1) * 32) ((dcells l).drop (i * 32))).toArray) := fun ty dc sc =>
    run_copy_z w.drew _ _ ty 42 32 g ((i + 1) * 32) _ dc ⟨g, i * 32, none⟩ _ sc cur 42 _ Tryz.underlying24 hsz hg.out
      (by rw [List.length_drop, hll]; change _ = min (n + 1 - i) (n - i) * 32; omega)
      (fun j v hj => by
        rw [Addr.add_mid]
        show w.cell? _ = _
        rw [cell_of_row _ _ _ _ _ _ hg.out, List.getElem?_toArray]
        rw [← htk.out, List.getElem?_drop, List.getElem?_take] at hj
        split at hj
        · exact hj
        · cases hj)
      (dins_fit hroom hi hcs.out hll) (fun v hv => dcells_one l v (List.mem_of_mem_drop hv))
  obtain ⟨L1, hL1⟩ : ∃ L1, L1 = lay cur ((i + 1) * 32) ((dcells l).drop (i * 32)) := ⟨_, rfl⟩
  have hL1l : L1.length = cap * 32 := by rw [hL1, length_lay (dins_fit hroom hi hcs.out hll), hcs.out]
  rw [← hL1] at hcp1 ⊢
  obtain ⟨W2, hW2⟩ : ∃ W2, W2 = w.drew.setRow g L1.toArray := ⟨_, rfl⟩
  have hb2 : Below g w W2 := by rw [hW2]; exact below_row (B := g) (w0 := w) (w := w.drew) ⟨rfl, rfl, rfl, Nat.le_refl _, fun _ _ => rfl⟩ (Nat.le_refl _) _
  have hg2 : W2.heap[g]? = some (.cells L1.toArray 42 (0, 0)) := by rw [hW2]; exact setRow_heap _ _ _ _ _ _ hg.out
  have hv2 : W2.heap[vb]? = some (.cells (d.map B).toArray 42 (0, 0)) := by rw [hW2, setRow_other _ _ _ _ hvb]; exact hv.out
  rw [← hW2] at hcp1
  have hcp2 : ∀ ty dc, (Builtin.copy_ #[24, 24] ty #[.slice (some ⟨g, i * 32, none⟩) (n + 1 - i) dc, .slice (some ⟨vb, 0, none⟩) 1 1]).run Tryz.prog W2 = .ok (goInt (Nat.min 1 (n + 1 - i) : Nat)) (W2.setRow g (lay L1 (i * 32) (d.map B)).toArray) := fun ty dc =>
    run_copy_z W2 _ _ ty 42 32 g (i * 32) _ dc ⟨vb, 0, none⟩ 1 1 L1 42 _ Tryz.underlying24 hsz hg2
      (by rw [List.length_map, h32.out]; change _ = min 1 (n + 1 - i) * 32; omega) (World.news_of_block hv2) (by rw [List.length_map, h32.out, hL1l]; omega) (digest_one d)
  have HC1 := Seal.mk hcp1
  have HC2 := Seal.mk hcp2
  have HB2 := Seal.mk hb2
  have HG2 := Seal.mk hg2
  clear hll hcp1 hcp2 hL1 hL1l hb2 hg2 hv2 hW2
  have hw1 : IntKind.i64.wrap ((i : Int) + 1) = (i : Int) + 1 := by rw [IntKind.wrap_i64]; omega
  have hb1 : (0 : Int) ≤ (i : Int) + 1 := by omega
  have hin : i ≤ n := by omega
  have htn : ((i : Int) + 1).toNat = i + 1 := by omega
  have hb2 : ¬ (cap = i + 1) := by omega
  have hb3 : (i : Int) ≤ (n : Int) + 1 := by omega
  have hb4 : ¬ (cap = i) := by omega
  have hz2 : ¬ ((i : Int) = (n : Int)) := by omega
  go_enter Tryz.func28, Tryz.ntmps28
  go_wp2_with (simp only [hov])
  go_region_law ((refine step_copy_run rfl _ _ 24 24 rfl (.slice (some ⟨g, (i + 1) * 32, none⟩) (n - i) (cap - (i + 1))) (.slice (some ⟨g, i * 32, none⟩) (n + 1 - i) (cap - i)) (by simp [Act.eval, Act.put]) (by simp [Act.eval, Act.put]) (fun ty => HC1.out ty _ _) ?_))
  go_wp2_with (refine wpList_copy_run rfl (.tmp 80) (.tmp 81) 24 24 rfl (.slice (some ⟨g, i * 32, none⟩) (n + 1 - i) (cap - i)) (.slice (some ⟨vb, 0, none⟩) 1 1) rfl rfl (fun ty => HC2.out ty _) ?_)
  go_ret
  exact ⟨rfl, ⟨setRow_heap _ _ _ _ _ _ HG2.out⟩, below_row HB2.out (Nat.le_refl _) _⟩

/-- what insertion leaves in a new row -/
theorem lay_grow (A Z D E : List Value) :
    (lay (lay (A ++ Z) A.length D) (A.length + D.length) E).take (A.length + D.length + E.length) = A ++ D ++ E := by
  have e1 : lay (A ++ Z) A.length D = (A ++ D) ++ Z.drop D.length := by
    unfold lay
    rw [List.take_left, List.drop_append, List.drop_of_length_le (by omega), List.nil_append, show A.length + D.length - A.length = D.length from by omega]
  have e2 : lay ((A ++ D) ++ Z.drop D.length) (A.length + D.length) E = (A ++ D ++ E) ++ Z.drop (D.length + E.length) := by
    have hl : A.length + D.length = (A ++ D).length := by simp
    unfold lay
    rw [hl, List.take_left, List.drop_append, List.drop_of_length_le (by omega), List.nil_append, show (A ++ D).length + E.length - (A ++ D).length = E.length from by omega, List.drop_drop]
  rw [e1, e2, List.take_left' (by simp; omega)]

theorem zero_len (k : Nat) : (Builtin.zeroCells (Value.agg (zs 32).toArray).cells k).toList.length = k * 32 := by
  rw [Array.length_toList, size_zeroCells]
  rfl

set_option maxHeartbeats 4000000 in
theorem dinsert_grow (n i vb g cap : Nat) (cur : List Value) (l : List Bytes) (d : Bytes) (w : World) (hi : i < n) (hcn : n ≤ cap) (hroom : cap < n + 1) (hn : n ≤ 1099511627776) (_hcap : cap ≤ 9223372036854775807)
    (hg : Seal (w.heap[g]? = some (.cells cur.toArray 42 (0, 0)))) (htk : Seal (cur.take (n * 32) = dcells l)) (hcs : Seal (cur.length = cap * 32))
    (hv : Seal (w.heap[vb]? = some (.cells (d.map B).toArray 42 (0, 0)))) (h32 : Seal (d.length = 32)) :
    Calls Tryz.prog 28 #[.slice (some ⟨g, 0, none⟩) n cap, .int .i64 (i : Nat), .slice (some ⟨vb, 0, none⟩) 1 1] w fun e w' =>
      ∃ H G row, e = .returned (.slice (some ⟨H, 0, none⟩) (n + 1) G) ∧ H = w.heap.size ∧ n + 1 ≤ G ∧ G ≤ 9223372036854775807 ∧ Seal (w'.heap[H]? = some (.cells (List.toArray row) 42 (0, 0)) ∧ row.length = G * 32 ∧ row.take ((n + 1) * 32) = (dcells l).take (i * 32) ++ d.map B ++ (dcells l).drop (i * 32)) ∧ Below w.heap.size w w' := by
  have hll : (dcells l).length = n * 32 := by rw [← htk.out, List.length_take, hcs.out]; omega
  have hsz : (Tryz.prog.info? 42).map (·.size) = some 32 := by kernel_rfl
  obtain ⟨i0, hi0, hz0, hz1, hz2⟩ := info_parts info_dg
  have hcell : ∀ o (cs : List Value) j v, o + cs.length ≤ n * 32 → cs = ((dcells l).drop o).take cs.length → cs[j]? = some v → w.cell? ((⟨g, o, none⟩ : Addr).add j) = some v := fun o cs j v ho e hj => by
    rw [Addr.add_mid, cell_of_row _ _ _ _ _ _ hg.out, List.getElem?_toArray]
    have hjl := (List.getElem?_eq_some_iff.1 hj).1
    rw [e, List.getElem?_take, if_pos hjl, List.getElem?_drop, ← htk.out, List.getElem?_take, if_pos (by omega)] at hj
    exact hj
  have hold : (Builtin.firstCells i0.size i (.slice (some ⟨g, 0, none⟩) i cap)).run Tryz.prog w.drew = .ok ((dcells l).take (i * 32)).toArray w.drew := by
    rw [hz1]
    exact run_firstCells_some w.drew 32 i ⟨g, 0, none⟩ i cap _ (by rw [List.length_take, hll]; omega) (fun j v hj => hcell 0 _ j v (by rw [List.length_take, hll]; omega) (by rw [List.drop_zero, List.length_take, hll, Nat.min_eq_left (by omega)]) hj)
  have hkk : (n : Int) + 1 - (i : Int) = ((n + 1 - i : Nat) : Int) := by omega
  have hik : i + (n + 1 - i) = n + 1 := by omega
  have hgc := grownCap_bd w (n + 1) cap 42 (by omega)
  obtain ⟨G, hG⟩ : ∃ G, grownCap w (n + 1) cap 42 = G := ⟨_, rfl⟩
  rw [hG] at hgc
  obtain ⟨Z, hZ⟩ : ∃ Z : List Value, Z = (Builtin.zeroCells (Value.agg (zs 32).toArray).cells (n + 1 - i)).toList ++ (Builtin.zeroCells (Value.agg (zs 32).toArray).cells (G - (n + 1))).toList := ⟨_, rfl⟩
  have hZl : Z.length = (n + 1 - i) * 32 + (G - (n + 1)) * 32 := by rw [hZ, List.length_append, zero_len, zero_len]
  have hrz : ∀ ty, (Builtin.append_ #[24, 3] ty #[.slice (some ⟨g, 0, none⟩) i cap, .int .i64 ((n : Int) + 1 - (i : Int))]).run Tryz.prog w =
      .ok (.slice (some ⟨w.heap.size, 0, none⟩) (n + 1) G) (w.drew.alloc (.cells ((dcells l).take (i * 32) ++ Z).toArray 42)) := fun ty => by
    have h := Lib.run_append_grow_zeros w 24 3 ty 42 i0 _ .i64 .i64 Tryz.underlying24 Tryz.underlying3 hi0 hz0 (some ⟨g, 0, none⟩) i cap _ hold (n + 1 - i) (by omega) (by omega) (by omega) (by omega) (by rw [hz2]; omega) (by rw [hz2, hik]; exact growslice_fits (by omega) (by omega))
    rw [hik, hG] at h
    rw [hkk, h, hZ]
    congr 3
    simp
  obtain ⟨A, hA⟩ : ∃ A, A = (dcells l).take (i * 32) := ⟨_, rfl⟩
  have hAl : A.length = i * 32 := by rw [hA, List.length_take, hll]; omega
  obtain ⟨D, hD⟩ : ∃ D, D = (dcells l).drop (i * 32) := ⟨_, rfl⟩
  have hDl : D.length = (n - i) * 32 := by rw [hD, List.length_drop, hll]; omega
  rw [← hA] at hrz ⊢
  rw [← hD]
  obtain ⟨W1, hW1⟩ : ∃ W1, W1 = w.drew.alloc (.cells (A ++ Z).toArray 42) := ⟨_, rfl⟩
  have hb1 : Below w.heap.size w W1 := by rw [hW1]; exact below_alloc w.drew _ |> fun h => ⟨h.os, h.tape, h.output, h.size, h.block⟩
  have hg1 : W1.heap[w.heap.size]? = some (.cells (A ++ Z).toArray 42 (0, 0)) := by rw [hW1]; exact heap_alloc_new w.drew _
  have hv1 : W1.heap[vb]? = some (.cells (d.map B).toArray 42 (0, 0)) := blk hb1 (Array.getElem?_eq_some_iff.1 hv.out).1 hv.out
  have hgl := (Array.getElem?_eq_some_iff.1 hg.out).1
  have hs1 : w.heap.size < W1.heap.size := (Array.getElem?_eq_some_iff.1 hg1).1
  rw [← hW1] at hrz
  have hdl : (d.map B).length = 32 := by rw [List.length_map, h32.out]
  have hcp1 : ∀ ty dc, (Builtin.copy_ #[24, 24] ty #[.slice (some ⟨w.heap.size, i * 32, none⟩) (n + 1 - i) dc, .slice (some ⟨vb, 0, none⟩) 1 1]).run Tryz.prog W1 = .ok (goInt (Nat.min 1 (n + 1 - i) : Nat)) (W1.setRow w.heap.size (lay (A ++ Z) (i * 32) (d.map B)).toArray) := fun ty dc =>
    run_copy_z W1 _ _ ty 42 32 w.heap.size (i * 32) _ dc ⟨vb, 0, none⟩ 1 1 (A ++ Z) 42 _ Tryz.underlying24 hsz hg1
      (by rw [hdl]; change _ = min 1 (n + 1 - i) * 32; omega) (World.news_of_block hv1) (by rw [List.length_append, hdl, hAl, hZl]; omega) (digest_one d)
  obtain ⟨W2, hW2⟩ : ∃ W2, W2 = W1.setRow w.heap.size (lay (A ++ Z) (i * 32) (d.map B)).toArray := ⟨_, rfl⟩
  have hb2 : Below w.heap.size w W2 := by rw [hW2]; exact below_row hb1 (Nat.le_refl _) _
  have hg2 : W2.heap[w.heap.size]? = some (.cells (lay (A ++ Z) (i * 32) (d.map B)).toArray 42 (0, 0)) := by rw [hW2]; exact setRow_heap _ _ _ _ _ _ hg1
  have hl2 : (lay (A ++ Z) (i * 32) (d.map B)).length = G * 32 := by rw [length_lay (by rw [List.length_append, hdl, hAl, hZl]; omega), List.length_append, hAl, hZl]; omega
  rw [← hW2] at hcp1
  have hcp2 : ∀ ty dc sc, (Builtin.copy_ #[24, 24] ty #[.slice (some ⟨w.heap.size, (i + 1) * 32, none⟩) (n - i) dc, .slice (some ⟨g, i * 32, none⟩) (n - i) sc]).run Tryz.prog W2.drew = .ok (goInt (Nat.min (n - i) (n - i) : Nat)) (W2.drew.setRow w.heap.size (lay (lay (A ++ Z) (i * 32) (d.map B)) ((i + 1) * 32) D).toArray) := fun ty dc sc =>
    run_copy_z W2.drew _ _ ty 42 32 w.heap.size ((i + 1) * 32) _ dc ⟨g, i * 32, none⟩ _ sc _ 42 _ Tryz.underlying24 hsz hg2
      (by rw [hDl]; change _ = min (n - i) (n - i) * 32; omega)
      (fun j v hj => by
        have := hcell (i * 32) D j v (by rw [hDl]; omega) (by rw [hD, List.take_of_length_le (by omega)]) hj
        rw [Addr.add_mid] at this ⊢
        exact (World.cell?_of_block (w := w) (hb2.block g hgl)).trans this)
      (by rw [hl2, hDl]; omega) (fun v hv => dcells_one l v (List.mem_of_mem_drop (by rw [← hD]; exact hv)))
  have HR : Seal ((lay (lay (A ++ Z) (i * 32) (d.map B)) ((i + 1) * 32) D).length = G * 32 ∧ (lay (lay (A ++ Z) (i * 32) (d.map B)) ((i + 1) * 32) D).take ((n + 1) * 32) = A ++ d.map B ++ D) := ⟨by rw [length_lay (by rw [hl2, hDl]; omega), hl2], by
    have := lay_grow A Z (d.map B) D
    rw [hAl, hdl, hDl, show i * 32 + 32 = (i + 1) * 32 from by omega, show (i + 1) * 32 + (n - i) * 32 = (n + 1) * 32 from by omega] at this
    exact this⟩
  have HZ := Seal.mk hrz
  have HC1 := Seal.mk hcp1
  have HC2 := Seal.mk hcp2
  have HB2 := Seal.mk hb2
  have HG2 := Seal.mk hg2
  have HS1 := Seal.mk hs1
  generalize lay (lay (A ++ Z) (i * 32) (d.map B)) ((i + 1) * 32) D = ROW at *
  clear hll hcp1 hcp2 hb2 hg2 hv1 hW2 hW1 hrz hl2 hdl hAl hDl hgl hs1 hb1 hg1 hold hcell hi0 hz0 hz1 hz2 hsz hkk hik hG hZ hZl hA hD
  obtain ⟨hG1, hG2⟩ := hgc
  have hw1 : IntKind.i64.wrap ((i : Int) + 1) = (i : Int) + 1 := by rw [IntKind.wrap_i64]; omega
  have hb1 : (0 : Int) ≤ (i : Int) + 1 := by omega
  have hin : i ≤ n := by omega
  have htn : ((i : Int) + 1).toNat = i + 1 := by omega
  have hb2 : ¬ (G = i + 1) := by omega
  have hb3 : (i : Int) ≤ (n : Int) := by omega
  have hb4 : ¬ (cap = i) := by omega
  have hb5 : ¬ (G = i) := by omega
  have hz2 : ¬ ((i : Int) = (n : Int)) := by omega
  go_enter Tryz.func28, Tryz.ntmps28
  go_wp2_with (first | (at_builtin; (refine wpList_append_run rfl (.tmp 34) (.tmp 39) 24 3 rfl (.slice (some ⟨g, 0, none⟩) i cap) (.int .i64 ((n : Int) + 1 - (i : Int))) _ rfl rfl HZ.out ?_)) | (refine wpList_copy_run rfl (.tmp 43) (.tmp 44) 24 24 rfl (.slice (some ⟨w.heap.size, i * 32, none⟩) (n + 1 - i) (G - i)) (.slice (some ⟨vb, 0, none⟩) 1 1) rfl rfl (fun ty => HC1.out ty _) ?_))
  go_region_law ((refine step_copy_run rfl _ _ 24 24 rfl (.slice (some ⟨w.heap.size, (i + 1) * 32, none⟩) (n - i) (G - (i + 1))) (.slice (some ⟨g, i * 32, none⟩) (n - i) (cap - i)) (by simp [Act.eval, Act.put]) (by simp [Act.eval, Act.put]) (fun ty => HC2.out ty _ _) ?_))
  go_wp2
  go_ret
  exact ⟨w.heap.size, G, ROW, rfl, rfl, hG1, hG2, ⟨setRow_heap _ _ _ _ _ _ HG2.out, HR.out⟩, below_row (B := w.heap.size) (w0 := w) (w := W2.drew) ⟨HB2.out.os, HB2.out.tape, HB2.out.output, HB2.out.size, HB2.out.block⟩ (Nat.le_refl _) _⟩

theorem ownD_of_row {w : World} {base g n cap : Nat} {row : List Value} {l : List Bytes} (hg : w.heap[g]? = some (.cells row.toArray 42 (0, 0))) (hb : base ≤ g) (hn : n ≤ cap) (hcap : cap ≤ 9223372036854775807) (hr : row.length = cap * 32) (ht : row.take (n * 32) = dcells l) :
    OwnD w base (.slice (some ⟨g, 0, none⟩) n cap) n l :=
  ⟨by rw [← ht, List.length_take, hr]; omega, .inr ⟨g, cap, row.toArray, rfl, hb, hg, hn, by unfold maxLen; omega, by simpa using hr, by simpa using ht⟩⟩

theorem dinsert_any (base n i vb : Nat) (v : Value) (l : List Bytes) (d : Bytes) (w : World) (hown : Seal (OwnD w base v n l)) (hl : l.length = n) (he : ∀ x ∈ l, x.length = 32) (hi : i ≤ n)
    (hv : Seal (w.heap[vb]? = some (.cells (d.map B).toArray 42 (0, 0)))) (h32 : d.length = 32) (hn : n ≤ 1099511627776) (hbase : base ≤ w.heap.size) (hne : v.ownBlock ≠ some vb) :
    Calls Tryz.prog 28 #[v, .int .i64 (i : Nat), .slice (some ⟨vb, 0, none⟩) 1 1] w (InsPost base n (l.take i ++ d :: l.drop i) w) := by
  by_cases hin : i = n
  · subst hin
    rw [List.take_of_length_le (by omega), List.drop_of_length_le (by omega)]
    exact dinsert_end base i vb v l d w hown hv h32 hn hbase
  · rcases hown.out.2 with ⟨rfl, h0⟩ | ⟨g, cap, cur, rfl, hg0, hg, hnc, hcm, hcs, htk⟩
    · omega
    · unfold maxLen at hcm
      have hll : (dcells l).length = n * 32 := by rw [dcells_length l he, hl]
      have hg' : w.heap[g]? = some (.cells (cur.toList).toArray 42 (0, 0)) := by simpa using hg
      have hcs' : cur.toList.length = cap * 32 := by simpa using hcs
      have hd : (d.map B).length = 32 := by rw [List.length_map, h32]
      by_cases hr : n + 1 ≤ cap
      · refine (dinsert_room n i vb g cap cur.toList l d w (by omega) hr hn (by omega) ⟨hg'⟩ ⟨htk⟩ ⟨hcs'⟩ (fun e => hne (by rw [e]; rfl)) hv ⟨h32⟩).mono ?_
        rintro e w' ⟨rfl, hG, hb⟩
        refine ⟨g, cap, rfl, ⟨ownD_of_row hG.out hg0 hr (by omega) ?_ ?_⟩, hb.mono hg0⟩
        · rw [length_lay, length_lay (dins_fit hr (by omega) hcs' hll), hcs']
          rw [length_lay (dins_fit hr (by omega) hcs' hll), hd, hcs']
          have : i * 32 + 32 ≤ cap * 32 := by omega
          exact this
        · rw [dcells_ins l i d he]
          have := lay_shift (cur := cur.toList) (i := i * 32) (m := 32) (cs := dcells l) (ds := d.map B) (by rw [hll]; exact htk) (by omega) hd (by rw [hll, hcs']; omega)
          rw [hll, show i * 32 + 32 = (i + 1) * 32 from by omega, show n * 32 + 32 = (n + 1) * 32 from by omega] at this
          exact this
      · refine (dinsert_grow n i vb g cap cur.toList l d w (by omega) hnc (by omega) hn (by omega) ⟨hg'⟩ ⟨htk⟩ ⟨hcs'⟩ hv ⟨h32⟩).mono ?_
        rintro e w' ⟨H, G, row, rfl, rfl, h1, h2, h3, hb⟩
        exact ⟨w.heap.size, G, rfl, ⟨ownD_of_row h3.out.1 hbase h1 h2 h3.out.2.1 (by rw [dcells_ins l i d he]; exact h3.out.2.2)⟩, hb.mono hbase⟩
end Frk
