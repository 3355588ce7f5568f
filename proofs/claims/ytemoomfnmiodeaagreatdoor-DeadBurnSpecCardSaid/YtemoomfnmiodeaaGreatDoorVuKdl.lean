/- Law 45: slices.Delete at kept letters: one letter taken out. -/
import Derived.Test.YtemoomfnmiodeaaGreatDoorVugKkp
namespace Frk
open Go Go.RowKit Go.Proofs
set_option maxRecDepth 100000

theorem run_clear_row {P : Program} (w : World) (t e : TypeId) (z : Value) (size : Nat) (ht : P.underlying t = some (.slice e)) (hv : ∀ w, (zeroValue e).run P w = .ok z w) (hz : z.cells.size = size) (hz0 : 0 < size) (h1 : ∀ v ∈ z.cells, v.oneCell' = true)
    (g off n c : Nat) (cur : List Value) (t' : TypeId) (hg : w.heap[g]? = some (.cells cur.toArray t' (0, 0))) (hfit : off + n * size ≤ cur.length) :
    ∃ row : List Value, row.length = cur.length ∧ row.take off = cur.take off ∧ ∀ a ty, a = ⟨g, off, none⟩ ∨ n = 0 → (Builtin.clear_ #[t] ty #[.slice (some a) n c]).run P w = .ok (.tuple #[]) (w.setRow g row.toArray) := by
  cases n with
  | zero =>
    refine ⟨cur, rfl, rfl, fun a ty _ => ?_⟩
    rw [setRow_self w g _ _ (0, 0) hg]
    simp [Builtin.clear_, run_underlying ht]
  | succ m =>
    obtain ⟨zs, hzs⟩ : ∃ zs, zs = (Builtin.zeroCells z.cells (m + 1)).toList := ⟨_, rfl⟩
    have hlen : zs.length = (m + 1) * size := by rw [hzs, Array.length_toList, size_zeroCells, hz]
    have hone : ∀ v ∈ zs, v.oneCell' = true := by
      intro v hv'
      rw [hzs] at hv'
      unfold Builtin.zeroCells at hv'
      rw [Array.mem_toList_iff, Array.mem_map] at hv'
      obtain ⟨i, _, rfl⟩ := hv'
      have hi : i % z.cells.size < z.cells.size := Nat.mod_lt _ (by omega)
      rw [getElem!_pos z.cells (i % z.cells.size) hi]
      exact h1 _ (Array.getElem_mem hi)
    have hst := run_storeCells_at P g off t' zs 0 cur.toArray w hg (by rw [hlen, List.size_toArray]; omega) hone
    refine ⟨cur.take off ++ zs ++ cur.drop (off + zs.length), ?_, ?_, fun a ty ha => ?_⟩
    · simp only [List.length_append, List.length_take, List.length_drop, hlen]
      omega
    · rw [List.append_assoc, List.take_append_of_le_length (by rw [List.length_take]; omega), List.take_take, Nat.min_self]
    · obtain rfl : a = ⟨g, off, none⟩ := by
        rcases ha with h | h
        · exact h
        · omega
      simp only [Nat.add_zero] at hst
      simp [Builtin.clear_, run_underlying ht, hv, ← hzs, hst]

theorem ktzv_one : ∀ v ∈ (Value.agg (Value.int .i64 0 :: Value.int .i64 0 :: Value.int .i64 0 :: Value.int .i64 0 :: Value.int .i64 0 :: Value.int .i64 0 :: zs 32).toArray).cells, v.oneCell' = true := by
  intro v hv
  have hv' : v ∈ (Value.int .i64 0 :: Value.int .i64 0 :: Value.int .i64 0 :: Value.int .i64 0 :: Value.int .i64 0 :: Value.int .i64 0 :: zs 32) := List.mem_toArray.1 hv
  simp only [List.mem_cons] at hv'
  rcases hv' with rfl | rfl | rfl | rfl | rfl | rfl | hv'
  all_goals first | rfl | skip
  rw [(List.mem_replicate.1 hv').2]
  rfl

theorem IsC.other {α : Type} {C : α → List Value} {z : Nat} {w : World} {a : Option Addr} {n c : Nat} {l : List α} (h : IsC C z w a n c l) {g0 : Nat} (cs : Array Value) (hne : ∀ g o, a = some ⟨g, o, none⟩ → g ≠ g0) : IsC C z (w.setRow g0 cs) a n c l :=
  ⟨h.llen, h.lcap, h.lmax, h.cmax, h.each, by
    rcases h.at_ with h0 | ⟨g, o, e, hr, hg⟩
    · exact .inl h0
    · exact .inr ⟨g, o, e, fun j u hu => (World.cell?_of_block (w := w) (setRow_other w g0 g cs (hne g o e))).trans (hr j u hu), by simpa [World.setRow] using hg⟩⟩

/-- a slice of kept letters comes back -/
def KRes (base : Nat) (l : List Ltr) (w : World) (e : Ending) (w' : World) : Prop :=
  ∃ a c, e = .returned (.slice a l.length c) ∧ Seal (IsC Ltr.C 38 w' a l.length c l ∧ ∀ g o, a = some ⟨g, o, none⟩ → base ≤ g) ∧ Below base w w'

set_option maxHeartbeats 4000000 in
theorem kdelete_any (base n i g cap : Nat) (l : List Ltr) (w : World) (hown : OwnK w base (.slice (some ⟨g, 0, none⟩) n cap) n l) (hl : l.length = n) (he : ∀ x ∈ l, x.C.length = 38) (hi : i < n) (hn : n ≤ 5000) (hbase : base ≤ w.heap.size) :
    Calls Tryz.prog 37 #[.slice (some ⟨g, 0, none⟩) n cap, .int .i64 (i : Nat), .int .i64 ((i : Int) + 1)] w (KRes base (l.take i ++ l.drop (i + 1)) w) := by
  obtain ⟨m, rfl⟩ : ∃ m, n = m + 1 := ⟨n - 1, by omega⟩
  obtain ⟨g', cap', cur, e', hbg, hg, hnc, hcm, hcs, htk⟩ : ∃ g' cap' cur, Value.slice (some ⟨g, 0, none⟩) (m + 1) cap = .slice (some ⟨g', 0, none⟩) (m + 1) cap' ∧ base ≤ g' ∧ w.heap[g']? = some (.cells cur 30 (0, 0)) ∧ m + 1 ≤ cap' ∧ cap' ≤ maxLen ∧ cur.size = cap' * 38 ∧ cur.toList.take ((m + 1) * 38) = kcells l := by
    rcases hown.2 with ⟨e, _⟩ | ⟨g', cap', cur, e, hb, hg, hc, hcm, hs, ht⟩
    · cases e
    · exact ⟨g', cap', cur, e, hb, hg, hc, hcm, hs, ht⟩
  cases e'
  obtain ⟨row, rfl⟩ : ∃ row : List Value, cur = row.toArray := ⟨cur.toList, by simp⟩
  have hrl : row.length = cap * 38 := by simpa using hcs
  have htk' : row.take ((m + 1) * 38) = kcells l := by simpa using htk
  have hkl : (kcells l).length = (m + 1) * 38 := by rw [kcells_length l he, hl]
  obtain ⟨ie, hie⟩ : ∃ i, Tryz.prog.info? 30 = some i := by
    obtain ⟨i0, hi, _⟩ := info_parts info_kt
    exact ⟨i0, hi⟩
  have hsz : ie.size = 38 := by
    obtain ⟨i0, hi, hz0, hz1, hz2⟩ := info_parts info_kt
    rw [hi] at hie
    cases hie
    exact hz1
  have hnl : (kcells (l.drop (i + 1))).length = (m - i) * 38 := by rw [kcells_length _ (fun d hd => he d (List.mem_of_mem_drop hd)), List.length_drop, hl, Nat.add_sub_add_right]
  have hnews : ∀ (W : World) (A : Addr), W.heap[g]? = some (.cells row.toArray 30 (0, 0)) → A = ⟨g, (i + 1) * 38, none⟩ ∨ m = i → ∀ j u, (kcells (l.drop (i + 1)))[j]? = some u → W.cell? (A.add j) = some u := fun W A hW hA j u hu => by
    have hj := (List.getElem?_eq_some_iff.1 hu).1
    rcases hA with rfl | h
    · rw [Addr.add_mid, cell_of_row _ _ _ _ _ _ hW]
      rw [kcells_drop l (i + 1) he, ← htk', List.getElem?_drop, List.getElem?_take] at hu
      split at hu
      · simpa using hu
      · cases hu
    · omega
  obtain ⟨r1, hr1⟩ : ∃ r, r = row.take (i * 38) ++ kcells (l.drop (i + 1)) ++ row.drop (i * 38 + (kcells (l.drop (i + 1))).length) := ⟨_, rfl⟩
  have hr1l : r1.length = cap * 38 := by
    rw [hr1]
    simp only [List.length_append, List.length_take, List.length_drop, hnl, hrl]
    omega
  have hr1t : r1.take (m * 38) = kcells (l.take i ++ l.drop (i + 1)) := by
    rw [hr1, List.take_append_of_le_length (by simp only [List.length_append, List.length_take, hnl, hrl]; omega), List.take_of_length_le (by simp only [List.length_append, List.length_take, hnl, hrl]; omega)]
    have e1 : kcells (l.take i ++ l.drop (i + 1)) = kcells (l.take i) ++ kcells (l.drop (i + 1)) := by unfold kcells; rw [List.flatMap_append]
    rw [e1, kcells_take l i he, ← htk', List.take_take, Nat.min_eq_left (by omega)]
  have hap : ∀ (W : World) (A : Addr) ty c2, W.heap[g]? = some (.cells row.toArray 30 (0, 0)) → A = ⟨g, (i + 1) * 38, none⟩ ∨ m = i → (Builtin.append_ #[22, 22] ty #[.slice (some ⟨g, 0, none⟩) i cap, .slice (some A) (m - i) c2]).run Tryz.prog W = .ok (.slice (some ⟨g, 0, none⟩) m cap) (W.setRow g r1.toArray) := fun W A ty c2 hW hA => by
    have h := run_append_room W 22 ty 30 ie Tryz.underlying22 hie g i cap row.toArray hW A (m - i) c2 (kcells (l.drop (i + 1))) (by rw [hnl, hsz]) (hnews W A hW hA) (kcells_one _) (by omega) (by rw [hsz, hnl, List.size_toArray, hrl]; omega)
    rw [h, hsz, show i + (m - i) = m from by omega, hr1]
  have HAp := Seal.mk hap
  have hclr : ∀ W : World, W.heap[g]? = some (.cells r1.toArray 30 (0, 0)) → ∃ row : List Value, row.length = r1.length ∧ row.take (m * 38) = r1.take (m * 38) ∧ ∀ ty, (Builtin.clear_ #[22] ty #[.slice (some ⟨g, m * 38, none⟩) 1 (cap - m)]).run Tryz.prog W = .ok (.tuple #[]) (W.setRow g row.toArray) := fun W hW => by
    obtain ⟨row, h1, h2, h3⟩ := run_clear_row W 22 30 _ 38 Tryz.underlying22 (zero_kt) rfl (by decide) ktzv_one g (m * 38) 1 (cap - m) r1 _ hW (by rw [hr1l]; omega)
    exact ⟨row, h1, h2, fun ty => h3 _ ty (.inl rfl)⟩
  have HCl := Seal.mk hclr
  have HG := Seal.mk hg
  have HN : Seal (base ≤ g ∧ m + 1 ≤ cap ∧ cap ≤ 9223372036854775807 ∧ r1.length = cap * 38 ∧ r1.take (m * 38) = kcells (l.take i ++ l.drop (i + 1)) ∧ (l.take i ++ l.drop (i + 1)).length = m ∧ ∀ x ∈ l.take i ++ l.drop (i + 1), x.C.length = 38) := ⟨hbg, hnc, by unfold maxLen at hcm; omega, hr1l, hr1t, by rw [List.length_append, List.length_take, List.length_drop, hl]; omega, fun x hx => by
    rcases List.mem_append.1 hx with h | h
    · exact he x (List.mem_of_mem_take h)
    · exact he x (List.mem_of_mem_drop h)⟩
  have hw1 : IntKind.i64.wrap ((i : Int) + 1) = (i : Int) + 1 := IntWalk.i64_in _ (by omega)
  have b1 : (0 : Int) ≤ (i : Int) := by omega
  have b2 : (i : Int) ≤ (i : Int) + 1 := by omega
  have b3 : (i : Int) + 1 ≤ ((m + 1 : Nat) : Int) := by omega
  have b3' : (i : Int) + 1 ≤ (m : Int) + 1 := by omega
  have b4 : ((m + 1 : Nat) : Int) ≤ (cap : Int) := by omega
  have b4' : (m : Int) + 1 ≤ (cap : Int) := by omega
  have b5 : (0 : Int) ≤ (i : Int) + 1 := by omega
  have b6 : ((i : Int) + 1).toNat = i + 1 := by omega
  have b6' : ((m : Int) + 1).toNat = m + 1 := by omega
  have b7 : ((i : Int) == (i : Int) + 1) = false := by rw [beq_eq_false_iff_ne]; omega
  have b7' : ¬ (i : Int) = (i : Int) + 1 := by omega
  have b8 : (i : Int) ≤ (cap : Int) := by omega
  have b9 : (m : Int) ≤ (m : Int) + 1 := by omega
  have b10 : ¬ cap = m := by omega
  have b11 : (0 : Int) ≤ (m : Int) := by omega
  have b12 : m + 1 - m = 1 := by omega
  have b13 : i ≤ m := by omega
  clear hown htk hcs hrl htk' hkl hie hsz hnl hnews hr1 hr1l hr1t hap hclr hg hbg hcm
  go_enter Tryz.func37, Tryz.ntmps37
  go_wp2_with fail
  have HGd : Seal (w.drew.heap[g]? = some (.cells row.toArray 30 (0, 0))) := ⟨HG.out⟩
  obtain ⟨V, hV⟩ : ∃ V, V = w.drew := ⟨_, rfl⟩
  have HBd : Seal (Below w.heap.size w V) := ⟨by rw [hV]; exact below_drewn_o _⟩
  by_cases hcap : cap = i + 1
  · subst hcap
    have hmi : m - i = 0 := by have := HN.out.2.1; omega
    have HAp : Seal (∀ (W : World) (A : Addr) ty c2, W.heap[g]? = some (.cells row.toArray 30 (0, 0)) → True → (Builtin.append_ #[22, 22] ty #[.slice (some ⟨g, 0, none⟩) i (i + 1), .slice (some A) 0 c2]).run Tryz.prog W = .ok (.slice (some ⟨g, 0, none⟩) m (i + 1)) (W.setRow g r1.toArray)) := ⟨fun W A ty c2 h _ => by have h := HAp.out W A ty c2 h (.inr (by have := HN.out.2.1; omega)); rwa [hmi] at h⟩
    clear hmi
    refine wp_region_held_drew (S := fun _ => True) (by kernel_rfl) trivial (fun hHeld => ?_)
    rw [← hV] at HGd ⊢
    clear hHeld hV
    have hHeld : True := trivial
    refine take_h 0 ?_ rfl (by kernel_rfl) (by kernel_rfl) (by kernel_rfl) (fun _ _ _ h => h) (Or.inl ⟨by kernel_rfl, ?_⟩) (by assumption) ?_
    rotate_left
    · (intro w hSw; (try dsimp only at hSw); go_simp; try (with_reducible rfl))
    try simp only [Act.put, List.setIfInBounds_toArray, List.set_cons_zero, List.set_cons_succ]
    refine take_h 1 ?_ rfl (by kernel_rfl) (by kernel_rfl) (by kernel_rfl) (fun _ _ _ h => h) (Or.inl ⟨by kernel_rfl, ?_⟩) (by assumption) ?_
    rotate_left
    · (intro w hSw; (try dsimp only at hSw); go_simp; try (with_reducible rfl))
    try simp only [Act.put, List.setIfInBounds_toArray, List.set_cons_zero, List.set_cons_succ]
    refine take_h 2 ?_ rfl (by kernel_rfl) (by kernel_rfl) (by kernel_rfl) (fun _ _ _ h => h) (Or.inl ⟨by kernel_rfl, ?_⟩) (by assumption) ?_
    rotate_left
    · (intro w hSw; (try dsimp only at hSw); go_simp; try (with_reducible rfl))
    try simp only [Act.put, List.setIfInBounds_toArray, List.set_cons_zero, List.set_cons_succ]
    refine take_h 3 ?_ rfl (by kernel_rfl) (by kernel_rfl) (by kernel_rfl) (fun _ _ _ h => h) (Or.inl ⟨by kernel_rfl, ?_⟩) (by assumption) ?_
    rotate_left
    · (intro w hSw; (try dsimp only at hSw); go_simp; try (with_reducible rfl))
    try simp only [Act.put, List.setIfInBounds_toArray, List.set_cons_zero, List.set_cons_succ]
    refine take_h 4 ?_ rfl (by kernel_rfl) (by kernel_rfl) (by kernel_rfl) (fun _ _ _ h => h) (Or.inl ⟨by kernel_rfl, ?_⟩) (by assumption) ?_
    rotate_left
    · (intro w hSw; (try dsimp only at hSw); go_simp; try (with_reducible rfl))
    try simp only [Act.put, List.setIfInBounds_toArray, List.set_cons_zero, List.set_cons_succ]
    refine take_h 5 ?_ rfl (by kernel_rfl) (by kernel_rfl) (by kernel_rfl) (fun _ _ _ h => h) (Or.inl ⟨by kernel_rfl, ?_⟩) (by assumption) ?_
    rotate_left
    · (intro w hSw; (try dsimp only at hSw); go_simp; try (with_reducible rfl))
    try simp only [Act.put, List.setIfInBounds_toArray, List.set_cons_zero, List.set_cons_succ]
    refine oper_h 6 (.slice (some ⟨g, 0, none⟩) m (i + 1)) (V.setRow g r1.toArray) rfl (by kernel_rfl) (by kernel_rfl) (exec_append (.tmp 22) (.tmp 25) 22 22 rfl (.slice (some ⟨g, 0, none⟩) i (i + 1)) (.slice (some ⟨g, 0, none⟩) (0) (0)) _ rfl rfl (fun ty => HAp.out V ⟨g, 0, none⟩ ty (0) HGd.out trivial)) trivial (fun hHeld2 => ?_)
    try simp only [Act.put, List.setIfInBounds_toArray, List.set_cons_zero, List.set_cons_succ]
    refine take_h 7 ?_ rfl (by kernel_rfl) (by kernel_rfl) (by kernel_rfl) (fun _ _ _ h => h) (Or.inl ⟨by kernel_rfl, ?_⟩) (by assumption) ?_
    rotate_left
    · (intro w hSw; (try dsimp only at hSw); go_simp; try (with_reducible rfl))
    try simp only [Act.put, List.setIfInBounds_toArray, List.set_cons_zero]
    obtain ⟨V1, hV1⟩ : ∃ Z, Z = V.setRow g r1.toArray := ⟨_, rfl⟩
    have H1 : Seal (V1.heap[g]? = some (.cells r1.toArray 30 (0, 0)) ∧ Below base w V1) := ⟨by rw [hV1]; exact ⟨setRow_heap _ _ _ _ _ _ HGd.out, below_row (HBd.out.mono hbase) HN.out.1 _⟩⟩
    rw [← hV1]
    clear hV1
    refine wpAnyH_done (by kernel_rfl) ?_ _
    clear hHeld hHeld2
    obtain ⟨r2, hr2l, hr2t, hr2⟩ := HCl.out V1 H1.out.1
    have HR2 := Seal.mk (And.intro hr2l hr2t)
    clear hr2l hr2t
    go_wp2
    go_ret
    obtain ⟨a1, c1, e1, i1⟩ := isC_own (C := Ltr.C) (ownP_of_row (l := l.take i ++ l.drop (i + 1)) (n := m) (setRow_heap _ _ _ _ _ _ H1.out.1) HN.out.1 (by have := HN.out.2.1; omega) HN.out.2.2.1 (by rw [HR2.out.1]; exact HN.out.2.2.2.1) (by rw [HR2.out.2]; exact HN.out.2.2.2.2.1)) HN.out.2.2.2.2.2.2 HN.out.2.2.2.2.2.1 (by omega)
    cases e1
    have hlen := HN.out.2.2.2.2.2.1
    exact ⟨_, _, by rw [hlen]; rfl, ⟨by rw [hlen]; exact ⟨i1, fun g o e => by cases e; exact HN.out.1⟩⟩, below_row H1.out.2 HN.out.1 _⟩
  · skip
    refine wp_region_held_drew (S := fun _ => True) (by kernel_rfl) trivial (fun hHeld => ?_)
    rw [← hV] at HGd ⊢
    clear hHeld hV
    have hHeld : True := trivial
    refine take_h 0 ?_ rfl (by kernel_rfl) (by kernel_rfl) (by kernel_rfl) (fun _ _ _ h => h) (Or.inl ⟨by kernel_rfl, ?_⟩) (by assumption) ?_
    rotate_left
    · (intro w hSw; (try dsimp only at hSw); go_simp; try (with_reducible rfl))
    try simp only [Act.put, List.setIfInBounds_toArray, List.set_cons_zero, List.set_cons_succ]
    refine take_h 1 ?_ rfl (by kernel_rfl) (by kernel_rfl) (by kernel_rfl) (fun _ _ _ h => h) (Or.inl ⟨by kernel_rfl, ?_⟩) (by assumption) ?_
    rotate_left
    · (intro w hSw; (try dsimp only at hSw); go_simp; try (with_reducible rfl))
    try simp only [Act.put, List.setIfInBounds_toArray, List.set_cons_zero, List.set_cons_succ]
    refine take_h 2 ?_ rfl (by kernel_rfl) (by kernel_rfl) (by kernel_rfl) (fun _ _ _ h => h) (Or.inl ⟨by kernel_rfl, ?_⟩) (by assumption) ?_
    rotate_left
    · (intro w hSw; (try dsimp only at hSw); go_simp; try (with_reducible rfl))
    try simp only [Act.put, List.setIfInBounds_toArray, List.set_cons_zero, List.set_cons_succ]
    refine take_h 3 ?_ rfl (by kernel_rfl) (by kernel_rfl) (by kernel_rfl) (fun _ _ _ h => h) (Or.inl ⟨by kernel_rfl, ?_⟩) (by assumption) ?_
    rotate_left
    · (intro w hSw; (try dsimp only at hSw); go_simp; try (with_reducible rfl))
    try simp only [Act.put, List.setIfInBounds_toArray, List.set_cons_zero, List.set_cons_succ]
    refine take_h 4 ?_ rfl (by kernel_rfl) (by kernel_rfl) (by kernel_rfl) (fun _ _ _ h => h) (Or.inl ⟨by kernel_rfl, ?_⟩) (by assumption) ?_
    rotate_left
    · (intro w hSw; (try dsimp only at hSw); go_simp; try (with_reducible rfl))
    try simp only [Act.put, List.setIfInBounds_toArray, List.set_cons_zero, List.set_cons_succ]
    refine take_h 5 ?_ rfl (by kernel_rfl) (by kernel_rfl) (by kernel_rfl) (fun _ _ _ h => h) (Or.inl ⟨by kernel_rfl, ?_⟩) (by assumption) ?_
    rotate_left
    · (intro w hSw; (try dsimp only at hSw); go_simp; try (with_reducible rfl))
    try simp only [Act.put, List.setIfInBounds_toArray, List.set_cons_zero, List.set_cons_succ]
    refine oper_h 6 (.slice (some ⟨g, 0, none⟩) m cap) (V.setRow g r1.toArray) rfl (by kernel_rfl) (by kernel_rfl) (exec_append (.tmp 22) (.tmp 25) 22 22 rfl (.slice (some ⟨g, 0, none⟩) i cap) (.slice (some ⟨g, (i + 1) * 38, none⟩) (m - i) (cap - (i + 1))) _ rfl rfl (fun ty => HAp.out V ⟨g, (i + 1) * 38, none⟩ ty (cap - (i + 1)) HGd.out (.inl rfl))) trivial (fun hHeld2 => ?_)
    try simp only [Act.put, List.setIfInBounds_toArray, List.set_cons_zero, List.set_cons_succ]
    refine take_h 7 ?_ rfl (by kernel_rfl) (by kernel_rfl) (by kernel_rfl) (fun _ _ _ h => h) (Or.inl ⟨by kernel_rfl, ?_⟩) (by assumption) ?_
    rotate_left
    · (intro w hSw; (try dsimp only at hSw); go_simp; try (with_reducible rfl))
    try simp only [Act.put, List.setIfInBounds_toArray, List.set_cons_zero]
    obtain ⟨V1, hV1⟩ : ∃ Z, Z = V.setRow g r1.toArray := ⟨_, rfl⟩
    have H1 : Seal (V1.heap[g]? = some (.cells r1.toArray 30 (0, 0)) ∧ Below base w V1) := ⟨by rw [hV1]; exact ⟨setRow_heap _ _ _ _ _ _ HGd.out, below_row (HBd.out.mono hbase) HN.out.1 _⟩⟩
    rw [← hV1]
    clear hV1
    refine wpAnyH_done (by kernel_rfl) ?_ _
    clear hHeld hHeld2
    obtain ⟨r2, hr2l, hr2t, hr2⟩ := HCl.out V1 H1.out.1
    have HR2 := Seal.mk (And.intro hr2l hr2t)
    clear hr2l hr2t
    go_wp2
    go_ret
    obtain ⟨a1, c1, e1, i1⟩ := isC_own (C := Ltr.C) (ownP_of_row (l := l.take i ++ l.drop (i + 1)) (n := m) (setRow_heap _ _ _ _ _ _ H1.out.1) HN.out.1 (by have := HN.out.2.1; omega) HN.out.2.2.1 (by rw [HR2.out.1]; exact HN.out.2.2.2.1) (by rw [HR2.out.2]; exact HN.out.2.2.2.2.1)) HN.out.2.2.2.2.2.2 HN.out.2.2.2.2.2.1 (by omega)
    cases e1
    have hlen := HN.out.2.2.2.2.2.1
    exact ⟨_, _, by rw [hlen]; rfl, ⟨by rw [hlen]; exact ⟨i1, fun g o e => by cases e; exact HN.out.1⟩⟩, below_row H1.out.2 HN.out.1 _⟩
end Frk
