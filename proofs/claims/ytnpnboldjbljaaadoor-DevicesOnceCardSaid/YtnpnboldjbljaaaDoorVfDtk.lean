/- Law 44: Take. -/
import Derived.Test.YtnpnboldjbljaaaDoorVfDdb
import Derived.Test.YtnpnboldjbljaaaDoorVfDin
import Derived.Test.YtnpnboldjbljaaaDoorVfDpc
import Derived.Deep.Cut
namespace Frk
open Go Go.RowKit Go.Proofs
set_option maxRecDepth 100000

/-- what Take answers -/
def takeF (l : List Bytes) (T : Bytes) : List Bytes × Bool := if usedB l = true then (if hasB l T = true then (l, false) else if 4096 ≤ l.length then (l, false) else (putB l T, true)) else ([], false)
def TakePost (l : List Bytes) (b : Bool) (w : World) (e : Ending) (w' : World) : Prop :=
  ∃ a len cap, e = .returned (.tuple #[.slice a len cap, .bool b]) ∧ Seal (IsD w' a len cap l) ∧ Below w.heap.size w w'
theorem disD_nil (w : World) : IsD w none 0 0 [] := ⟨rfl, Nat.le_refl _, by decide, by decide, by simp, .inl rfl⟩
theorem disD_own {w : World} {base n g c : Nat} {l : List Bytes} (h : OwnD w base (.slice (some ⟨g, 0, none⟩) n c) n l) (hl : l.length = n) (he : ∀ d ∈ l, d.length = 32) (hn : n ≤ 1099511627776) : IsD w (some ⟨g, 0, none⟩) n c l := by
  rcases h.2 with ⟨e, _⟩ | ⟨g', cap, cur, hv, hb, hg, hnc, hcm, hcs, htk⟩
  · cases e
  · cases hv
    unfold maxLen at hcm
    refine ⟨hl, hnc, hn, by omega, he, .inr ⟨_, 0, rfl, ?_, (Array.getElem?_eq_some_iff.1 hg).1⟩⟩
    have := rangeAt_take (rangeAt_row (cs := cur.toList) (by simpa using hg)) (n * 32)
    rw [htk] at this
    exact this
theorem ddrewn (w : World) : Below w.heap.size w w.drew := ⟨rfl, rfl, rfl, Nat.le_refl _, fun _ _ => rfl⟩
theorem take_end {base n : Nat} {l : List Bytes} {T : Bytes} {w w' : World} {g c : Nat} (h : OwnD w' base (.slice (some ⟨g, 0, none⟩) (n + 1) c) (n + 1) (l.take (atB l T) ++ T :: l.drop (atB l T))) (hl : l.length = n) (he : ∀ d ∈ l, d.length = 32) (h32 : T.length = 32) (hn : n < 4096) (hb : Below w.heap.size w w') :
    TakePost (putB l T) true w (.returned (.tuple #[.slice (some ⟨g, 0, none⟩) (n + 1) c, .bool true])) w' :=
  ⟨_, _, _, rfl, ⟨disD_own h (by rw [← hl]; exact putB_length l T) (ins_len l _ T he h32) (by omega)⟩, hb⟩

set_option maxHeartbeats 1000000 in
theorem dtake_mess (a : Option Addr) (len cap : Nat) (l : List Bytes) (p : Po) (w : World) (hd : IsD w a len cap l) (hT : p.S.length = 32) (hu : Seal (usedB l = false)) :
    Calls Tryd.prog 25 #[.slice a len cap, .agg p.C.toArray] w (TakePost [] false w) := by
  obtain ⟨C, hC⟩ : ∃ C, C = p.C := ⟨_, rfl⟩
  obtain ⟨T, hTT⟩ : ∃ T, T = p.S := ⟨_, rfl⟩
  obtain ⟨X, hX⟩ : ∃ X : World, X = w.alloc (.cells C.toArray 31) := ⟨_, rfl⟩
  have hXb : Seal (Below w.heap.size w X) := ⟨by rw [hX]; exact below_alloc _ _⟩
  have hXn : Seal (X.heap[w.heap.size]? = some (.cells C.toArray 31 (0, 0))) := ⟨by rw [hX]; exact heap_alloc_new w _⟩
  have hXd : Seal (X.rangeAt w.heap.size 1 (T.map B)) := ⟨by
    have := rangeAt_drop (rangeAt_row hXn.out) 1
    rw [hC] at this
    rw [hTT]
    simpa [Po.C] using this⟩
  rw [← hTT] at hT; try rw [← hTT] at ⊢
  have HT := Seal.mk hT
  have HD := Seal.mk hd
  rw [← hC]
  clear hT hd hC
  go_enter Tryd.func25, Tryd.ntmps25
  go_upto_region 1 with (fail)
  rw [← hX]
  clear hX
  go_wp2_with fail
  refine (drising_any a len cap l X (HD.out.of_heap hXb.out)).mono ?_
  rintro e w2 ⟨rfl, hb2⟩
  have HB2 : Seal (Below w.heap.size w w2) := ⟨hXb.out.trans (hb2.mono hXb.out.size)⟩
  have HR2 : Seal (w2.rangeAt w.heap.size 1 (T.map B)) := ⟨rangeAt_below' hXd.out hb2⟩
  have HD2 : Seal (IsD w2 a len cap l) := ⟨HD.out.of_heap HB2.out⟩
  clear hb2
  rw [hu.out]
  clear hTT
  go_wp2
  go_ret2
  exact ⟨none, 0, 0, rfl, ⟨disD_nil _⟩, HB2.out⟩
set_option maxHeartbeats 1000000 in
theorem dtake_used (a : Option Addr) (len cap : Nat) (l : List Bytes) (p : Po) (w : World) (hd : IsD w a len cap l) (hT : p.S.length = 32) (hu : Seal (usedB l = true)) (hh0 : hasB l p.S = true) :
    Calls Tryd.prog 25 #[.slice a len cap, .agg p.C.toArray] w (TakePost l false w) := by
  obtain ⟨C, hC⟩ : ∃ C, C = p.C := ⟨_, rfl⟩
  obtain ⟨T, hTT⟩ : ∃ T, T = p.S := ⟨_, rfl⟩
  obtain ⟨X, hX⟩ : ∃ X : World, X = w.alloc (.cells C.toArray 31) := ⟨_, rfl⟩
  have hXb : Seal (Below w.heap.size w X) := ⟨by rw [hX]; exact below_alloc _ _⟩
  have hXn : Seal (X.heap[w.heap.size]? = some (.cells C.toArray 31 (0, 0))) := ⟨by rw [hX]; exact heap_alloc_new w _⟩
  have hXd : Seal (X.rangeAt w.heap.size 1 (T.map B)) := ⟨by
    have := rangeAt_drop (rangeAt_row hXn.out) 1
    rw [hC] at this
    rw [hTT]
    simpa [Po.C] using this⟩
  rw [← hTT] at hT; try rw [← hTT] at hh0
  have HT := Seal.mk hT
  have HD := Seal.mk hd
  rw [← hC]
  clear hT hd hC
  go_enter Tryd.func25, Tryd.ntmps25
  go_upto_region 1 with (fail)
  rw [← hX]
  clear hX
  go_wp2_with fail
  refine (drising_any a len cap l X (HD.out.of_heap hXb.out)).mono ?_
  rintro e w2 ⟨rfl, hb2⟩
  have HB2 : Seal (Below w.heap.size w w2) := ⟨hXb.out.trans (hb2.mono hXb.out.size)⟩
  have HR2 : Seal (w2.rangeAt w.heap.size 1 (T.map B)) := ⟨rangeAt_below' hXd.out hb2⟩
  have HD2 : Seal (IsD w2 a len cap l) := ⟨HD.out.of_heap HB2.out⟩
  clear hb2
  have hh := Seal.mk hh0
  clear hh0
  rw [hu.out]
  clear hTT
  have i1 := dg_info T HT.out
  go_wp2_with (refine wpList_load_mid rfl 29 (.tmp 13) rfl w.heap.size 1 rfl (T.map B) _ HR2.out Tryd.underlying29 rfl i1 ?_)
  refine (dbsearch_any a len cap l T w2 HD2.out HT.out hu.out).mono ?_
  rintro e w3 ⟨rfl, hb3⟩
  have HB3 : Seal (Below w.heap.size w w3) := ⟨HB2.out.trans (hb3.mono HB2.out.size)⟩
  have HR3 : Seal (w3.rangeAt w.heap.size 1 (T.map B)) := ⟨rangeAt_below' HR2.out hb3⟩
  have HD3 : Seal (IsD w3 a len cap l) := ⟨HD.out.of_heap HB3.out⟩
  clear hb3
  rw [hh.out]
  go_wp2
  go_ret2
  exact ⟨a, len, cap, rfl, HD3, HB3.out⟩
set_option maxHeartbeats 1000000 in
theorem dtake_limit (a : Option Addr) (len cap : Nat) (l : List Bytes) (p : Po) (w : World) (hd : IsD w a len cap l) (hT : p.S.length = 32) (hu : Seal (usedB l = true)) (hh0 : hasB l p.S = false) (hx : 4096 ≤ len) :
    Calls Tryd.prog 25 #[.slice a len cap, .agg p.C.toArray] w (TakePost l false w) := by
  have hx' : (4096 : Int) ≤ (len : Int) := by omega
  obtain ⟨C, hC⟩ : ∃ C, C = p.C := ⟨_, rfl⟩
  obtain ⟨T, hTT⟩ : ∃ T, T = p.S := ⟨_, rfl⟩
  obtain ⟨X, hX⟩ : ∃ X : World, X = w.alloc (.cells C.toArray 31) := ⟨_, rfl⟩
  have hXb : Seal (Below w.heap.size w X) := ⟨by rw [hX]; exact below_alloc _ _⟩
  have hXn : Seal (X.heap[w.heap.size]? = some (.cells C.toArray 31 (0, 0))) := ⟨by rw [hX]; exact heap_alloc_new w _⟩
  have hXd : Seal (X.rangeAt w.heap.size 1 (T.map B)) := ⟨by
    have := rangeAt_drop (rangeAt_row hXn.out) 1
    rw [hC] at this
    rw [hTT]
    simpa [Po.C] using this⟩
  rw [← hTT] at hT; try rw [← hTT] at hh0
  have HT := Seal.mk hT
  have HD := Seal.mk hd
  rw [← hC]
  clear hT hd hC
  go_enter Tryd.func25, Tryd.ntmps25
  go_upto_region 1 with (fail)
  rw [← hX]
  clear hX
  go_wp2_with fail
  refine (drising_any a len cap l X (HD.out.of_heap hXb.out)).mono ?_
  rintro e w2 ⟨rfl, hb2⟩
  have HB2 : Seal (Below w.heap.size w w2) := ⟨hXb.out.trans (hb2.mono hXb.out.size)⟩
  have HR2 : Seal (w2.rangeAt w.heap.size 1 (T.map B)) := ⟨rangeAt_below' hXd.out hb2⟩
  have HD2 : Seal (IsD w2 a len cap l) := ⟨HD.out.of_heap HB2.out⟩
  clear hb2
  have hh := Seal.mk hh0
  clear hh0
  rw [hu.out]
  clear hTT
  have i1 := dg_info T HT.out
  go_wp2_with (refine wpList_load_mid rfl 29 (.tmp 13) rfl w.heap.size 1 rfl (T.map B) _ HR2.out Tryd.underlying29 rfl i1 ?_)
  refine (dbsearch_any a len cap l T w2 HD2.out HT.out hu.out).mono ?_
  rintro e w3 ⟨rfl, hb3⟩
  have HB3 : Seal (Below w.heap.size w w3) := ⟨HB2.out.trans (hb3.mono HB2.out.size)⟩
  have HR3 : Seal (w3.rangeAt w.heap.size 1 (T.map B)) := ⟨rangeAt_below' HR2.out hb3⟩
  have HD3 : Seal (IsD w3 a len cap l) := ⟨HD.out.of_heap HB3.out⟩
  clear hb3
  rw [hh.out]
  go_wp2
  go_ret2
  exact ⟨a, len, cap, rfl, HD3, HB3.out⟩

set_option maxHeartbeats 4000000 in
theorem dtake_ok (a : Option Addr) (len cap : Nat) (l : List Bytes) (p : Po) (w : World) (hd : IsD w a len cap l) (hT : p.S.length = 32) (hu : Seal (usedB l = true)) (hh0 : hasB l p.S = false) (hx : len < 4096) :
    Calls Tryd.prog 25 #[.slice a len cap, .agg p.C.toArray] w (TakePost (putB l p.S) true w) := by
  have hx' : ¬ (4096 : Int) ≤ (len : Int) := by omega
  have HLL : Seal (l.length = len ∧ ∀ d ∈ l, d.length = 32) := ⟨hd.llen, hd.each⟩
  obtain ⟨C, hC⟩ : ∃ C, C = p.C := ⟨_, rfl⟩
  obtain ⟨T, hTT⟩ : ∃ T, T = p.S := ⟨_, rfl⟩
  obtain ⟨X, hX⟩ : ∃ X : World, X = w.alloc (.cells C.toArray 31) := ⟨_, rfl⟩
  have hXb : Seal (Below w.heap.size w X) := ⟨by rw [hX]; exact below_alloc _ _⟩
  have hXn : Seal (X.heap[w.heap.size]? = some (.cells C.toArray 31 (0, 0))) := ⟨by rw [hX]; exact heap_alloc_new w _⟩
  have hXd : Seal (X.rangeAt w.heap.size 1 (T.map B)) := ⟨by
    have := rangeAt_drop (rangeAt_row hXn.out) 1
    rw [hC] at this
    rw [hTT]
    simpa [Po.C] using this⟩
  rw [← hTT] at hT; try rw [← hTT] at hh0 ⊢
  have HT := Seal.mk hT
  have HD := Seal.mk hd
  rw [← hC]
  clear hT hd hC
  go_enter Tryd.func25, Tryd.ntmps25
  go_upto_region 1 with (fail)
  rw [← hX]
  clear hX
  go_wp2_with fail
  refine (drising_any a len cap l X (HD.out.of_heap hXb.out)).mono ?_
  rintro e w2 ⟨rfl, hb2⟩
  have HB2 : Seal (Below w.heap.size w w2) := ⟨hXb.out.trans (hb2.mono hXb.out.size)⟩
  have HR2 : Seal (w2.rangeAt w.heap.size 1 (T.map B)) := ⟨rangeAt_below' hXd.out hb2⟩
  have HD2 : Seal (IsD w2 a len cap l) := ⟨HD.out.of_heap HB2.out⟩
  clear hb2
  have hat : atB l T ≤ len := by rw [← HLL.out.1]; exact atB_le l T
  have hh := Seal.mk hh0
  clear hh0
  rw [hu.out]
  clear hTT
  have i1 := dg_info T HT.out
  go_wp2_with (refine wpList_load_mid rfl 29 (.tmp 13) rfl w.heap.size 1 rfl (T.map B) _ HR2.out Tryd.underlying29 rfl i1 ?_)
  refine (dbsearch_any a len cap l T w2 HD2.out HT.out hu.out).mono ?_
  rintro e w3 ⟨rfl, hb3⟩
  have HB3 : Seal (Below w.heap.size w w3) := ⟨HB2.out.trans (hb3.mono HB2.out.size)⟩
  have HR3 : Seal (w3.rangeAt w.heap.size 1 (T.map B)) := ⟨rangeAt_below' HR2.out hb3⟩
  have HD3 : Seal (IsD w3 a len cap l) := ⟨HD.out.of_heap HB3.out⟩
  clear hb3
  rw [hh.out]
  go_wp2_with fail
  have HI : Seal (∀ (base vb : Nat) (v : Value) (W : World), OwnD W base v len l → W.heap[vb]? = some (.cells (T.map B).toArray 29 (0, 0)) → base ≤ W.heap.size → v.ownBlock ≠ some vb →
      Calls Tryd.prog 59 #[v, .int .i64 (atB l T : Nat), .slice (some ⟨vb, 0, none⟩) 1 1] W (InsPost base len (l.take (atB l T) ++ T :: l.drop (atB l T)) W)) :=
    ⟨fun base vb v W h1 h2 h3 h4 => dinsert_any base len (atB l T) vb v l T W ⟨h1⟩ HLL.out.1 HLL.out.2 hat ⟨h2⟩ HT.out (by omega) h3 h4⟩
  obtain ⟨at_, hat_⟩ : ∃ n : Nat, n = atB l T := ⟨_, rfl⟩
  have HAT := Seal.mk hat_
  rw [← hat_] at HI ⊢ hat
  clear hat_
  have ut := Tryd.underlying29
  have hR3 := HR3.out
  have hwX : w.heap.size < w3.heap.size := block_lt_of_cell (hR3 0 _ (List.getElem?_eq_getElem (by rw [List.length_map, HT.out]; decide)))
  refine wp_region_held_drew (S := fun w' => w'.rangeAt w.heap.size 1 (T.map B)) (by kernel_rfl) hR3 (fun hHeld => ?_)
  refine take_h 0 ?_ rfl (by kernel_rfl) (by kernel_rfl) (by kernel_rfl) (fun _ _ _ h => h) (Or.inl ⟨by kernel_rfl, ?_⟩) (by assumption) ?_
  rotate_left
  · (intro w hSw; (try dsimp only at hSw); go_simp; try (with_reducible rfl))
  try simp only [Act.put, List.setIfInBounds_toArray, List.set_cons_zero, List.set_cons_succ]
  refine take_h 2 ?_ rfl (by kernel_rfl) (by kernel_rfl) (by kernel_rfl) (fun _ _ _ h => h) (Or.inl ⟨by kernel_rfl, ?_⟩) (by assumption) ?_
  rotate_left
  · (intro w hSw; (try dsimp only at hSw); go_simp; try (with_reducible rfl))
  try simp only [Act.put, List.setIfInBounds_toArray, List.set_cons_zero, List.set_cons_succ]
  refine take_h 3 ?_ rfl (by kernel_rfl) (by kernel_rfl) (by kernel_rfl) (fun _ _ _ h => h) (Or.inl ⟨by kernel_rfl, ?_⟩) (by assumption) ?_
  rotate_left
  · (intro w hSw; (try dsimp only at hSw); go_simp; try (with_reducible rfl))
  try simp only [Act.put, List.setIfInBounds_toArray, List.set_cons_zero, List.set_cons_succ]
  refine take_h 4 _ rfl (by kernel_rfl) (by kernel_rfl) (by kernel_rfl) (fun _ _ _ h => h) (yieldsIf_load_mid (by kernel_rfl) 29 (.tmp 28) rfl w.heap.size 1 rfl (T.map B) _ (fun w hSw => hSw) ut rfl i1) (by assumption) ?_
  try simp only [Act.put, List.setIfInBounds_toArray, List.set_cons_zero, List.set_cons_succ]
  refine wpAnyH_ready (rs := [1, 5]) (by kernel_rfl) (by simp) (call_b 1 rfl 60 #[.slice a len cap] (by kernel_rfl) (by go_simp) ?_ (oper_b 5 (.slice (some ⟨w3.heap.size, 0, none⟩) 1 1) (w3.drew.alloc (.cells (T.map B).toArray 29)) rfl (by kernel_rfl) (by have h32 := HT.out; go_simp; rw [fold_all (by simp [h32])]) (World.rangeAt_alloc hHeld _) (fun hHeld2 => ?_) AllReadyH.nil))
  · refine (clone_any a len cap l w3.drew (HD3.out.of_heap (ddrewn w3))).mono ?_
    rintro e w4 ⟨v, rfl, ho, hv, hb4⟩
    have HB4 : Seal (Below w.heap.size w w4) := ⟨HB3.out.trans ((show Below w3.heap.size w3 w4 from ⟨hb4.os, hb4.tape, hb4.output, hb4.size, hb4.block⟩).mono HB3.out.size)⟩
    refine ⟨_, rfl, rangeAt_below' hR3 (show Below w3.heap.size w3 w4 from ⟨hb4.os, hb4.tape, hb4.output, hb4.size, hb4.block⟩), fun hHeld2 => ?_⟩
    have hz4 : w3.heap.size ≤ w4.heap.size := hb4.size
    clear hHeld hb4 hv
    try simp only [Act.put, List.setIfInBounds_toArray, List.set_cons_zero, List.set_cons_succ]
    refine oper_h 5 (.slice (some ⟨w4.heap.size, 0, none⟩) 1 1) (w4.alloc (.cells (T.map B).toArray 29)) rfl (by kernel_rfl) (by kernel_rfl) (by have h32 := HT.out; go_simp; rw [fold_all (by simp [h32])]) (World.rangeAt_alloc hHeld2 _) (fun hHeld3 => ?_)
    clear hHeld2
    try simp only [Act.put, List.setIfInBounds_toArray, List.set_cons_zero, List.set_cons_succ]
    refine call_h 6 rfl (by kernel_rfl) 59 #[v, .int .i64 (at_ : Nat), .slice (some ⟨w4.heap.size, 0, none⟩) 1 1] (by kernel_rfl) (by go_simp) ?_
    refine (HI.out w3.heap.size w4.heap.size v _ (ho.out.alloc _) (heap_alloc_new w4 _) (by rw [size_alloc]; omega) (fun e => by have := (ho.out.lt _ e).2; omega)).mono ?_
    rintro e w5 ⟨g, c, rfl, hG, hb5⟩
    have HB5 : Seal (Below w.heap.size w w5) := ⟨(HB4.out.alloc HB4.out.size _).trans (hb5.mono HB3.out.size)⟩
    have hR5 : w5.rangeAt w.heap.size 1 (T.map B) := rangeAt_below hHeld3 hb5 hwX
    refine ⟨_, rfl, hR5, fun hHeld4 => ?_⟩
    clear hHeld3 hb5 hR5
    try simp only [Act.put, List.setIfInBounds_toArray, List.set_cons_zero, List.set_cons_succ]
    refine take_h 7 ?_ rfl (by kernel_rfl) (by kernel_rfl) (by kernel_rfl) (fun _ _ _ h => h) (Or.inl ⟨by kernel_rfl, ?_⟩) (by assumption) ?_
    rotate_left
    · (intro w hSw; (try dsimp only at hSw); go_simp; try (with_reducible rfl))
    try simp only [Act.put, List.setIfInBounds_toArray, List.set_cons_zero, List.set_cons_succ]
    refine take_h 8 ?_ rfl (by kernel_rfl) (by kernel_rfl) (by kernel_rfl) (fun _ _ _ h => h) (Or.inl ⟨by kernel_rfl, ?_⟩) (by assumption) ?_
    rotate_left
    · (intro w hSw; (try dsimp only at hSw); go_simp; try (with_reducible rfl))
    try simp only [Act.put, List.setIfInBounds_toArray, List.set_cons_zero, List.set_cons_succ]
    refine wpAnyH_done (by kernel_rfl) ?_ _
    clear hHeld4
    go_wp2
    go_ret2
    rw [HAT.out] at hG
    exact take_end hG.out HLL.out.1 HLL.out.2 HT.out hx HB5.out
  · clear hHeld
    try simp only [Act.put, List.setIfInBounds_toArray, List.set_cons_zero, List.set_cons_succ]
    refine call_h 1 rfl (by kernel_rfl) 60 #[.slice a len cap] (by kernel_rfl) (by go_simp) ?_
    obtain ⟨W4, hW4⟩ : ∃ W4, W4 = w3.drew.alloc (.cells (T.map B).toArray 29) := ⟨_, rfl⟩
    have hn4 : W4.heap[w3.heap.size]? = some (.cells (T.map B).toArray 29 (0, 0)) := by rw [hW4]; exact heap_alloc_new w3.drew _
    have hs4 : W4.heap.size = w3.heap.size + 1 := by rw [hW4]; exact size_alloc w3.drew _
    have hb4 : Below w3.heap.size w3 W4 := by rw [hW4]; exact (ddrewn w3).alloc (Nat.le_refl _) _
    rw [← hW4] at hHeld2 ⊢
    clear hW4
    have HB4 : Seal (Below w.heap.size w W4) := ⟨HB3.out.trans (hb4.mono HB3.out.size)⟩
    refine (clone_any a len cap l W4 (HD3.out.of_heap hb4)).mono ?_
    rintro e w5 ⟨v, rfl, ho, hv, hb5⟩
    have HB5 : Seal (Below w.heap.size w w5) := ⟨HB4.out.trans (hb5.mono HB4.out.size)⟩
    have hn5 : w5.heap[w3.heap.size]? = some (.cells (T.map B).toArray 29 (0, 0)) := blk hb5 (by omega) hn4
    have hz5 := hb5.size
    refine ⟨_, rfl, rangeAt_below' hHeld2 hb5, fun hHeld3 => ?_⟩
    clear hHeld2 hb4 hb5 hv hn4
    try simp only [Act.put, List.setIfInBounds_toArray, List.set_cons_zero, List.set_cons_succ]
    refine call_h 6 rfl (by kernel_rfl) 59 #[v, .int .i64 (at_ : Nat), .slice (some ⟨w3.heap.size, 0, none⟩) 1 1] (by kernel_rfl) (by go_simp) ?_
    refine (HI.out W4.heap.size w3.heap.size v _ ho.out hn5 (by omega) (fun e => by have := (ho.out.lt _ e).1; omega)).mono ?_
    rintro e w6 ⟨g, c, rfl, hG, hb6⟩
    have HB6 : Seal (Below w.heap.size w w6) := ⟨HB5.out.trans (hb6.mono HB4.out.size)⟩
    have hR6 : w6.rangeAt w.heap.size 1 (T.map B) := rangeAt_below hHeld3 hb6 (by omega)
    refine ⟨_, rfl, hR6, fun hHeld4 => ?_⟩
    clear hHeld3 hb6 hR6
    try simp only [Act.put, List.setIfInBounds_toArray, List.set_cons_zero, List.set_cons_succ]
    refine take_h 7 ?_ rfl (by kernel_rfl) (by kernel_rfl) (by kernel_rfl) (fun _ _ _ h => h) (Or.inl ⟨by kernel_rfl, ?_⟩) (by assumption) ?_
    rotate_left
    · (intro w hSw; (try dsimp only at hSw); go_simp; try (with_reducible rfl))
    try simp only [Act.put, List.setIfInBounds_toArray, List.set_cons_zero, List.set_cons_succ]
    refine take_h 8 ?_ rfl (by kernel_rfl) (by kernel_rfl) (by kernel_rfl) (fun _ _ _ h => h) (Or.inl ⟨by kernel_rfl, ?_⟩) (by assumption) ?_
    rotate_left
    · (intro w hSw; (try dsimp only at hSw); go_simp; try (with_reducible rfl))
    try simp only [Act.put, List.setIfInBounds_toArray, List.set_cons_zero, List.set_cons_succ]
    refine wpAnyH_done (by kernel_rfl) ?_ _
    clear hHeld4
    go_wp2
    go_ret2
    rw [HAT.out] at hG
    exact take_end hG.out HLL.out.1 HLL.out.2 HT.out hx HB6.out

theorem dtake_any (a : Option Addr) (len cap : Nat) (l r : List Bytes) (b : Bool) (p : Po) (w : World) (hd : IsD w a len cap l) (hT : p.S.length = 32) (h : Seal (takeF l p.S = (r, b))) :
    Calls Tryd.prog 25 #[.slice a len cap, .agg p.C.toArray] w (TakePost r b w) := by
  have h' := h.out
  unfold takeF at h'
  cases hu : usedB l with
  | false =>
    rw [hu, if_neg (by decide)] at h'
    obtain ⟨rfl, rfl⟩ := Prod.mk.inj h'
    exact dtake_mess a len cap l p w hd hT ⟨hu⟩
  | true =>
    rw [hu, if_pos rfl] at h'
    cases hh : hasB l p.S with
    | true =>
      rw [hh, if_pos rfl] at h'
      obtain ⟨rfl, rfl⟩ := Prod.mk.inj h'
      exact dtake_used a len cap l p w hd hT ⟨hu⟩ hh
    | false =>
      rw [hh, if_neg (by decide)] at h'
      by_cases hx : 4096 ≤ l.length
      · rw [if_pos hx] at h'
        obtain ⟨rfl, rfl⟩ := Prod.mk.inj h'
        exact dtake_limit a len cap l p w hd hT ⟨hu⟩ hh (by rw [← hd.llen]; exact hx)
      · rw [if_neg hx] at h'
        obtain ⟨rfl, rfl⟩ := Prod.mk.inj h'
        exact dtake_ok a len cap l p w hd hT ⟨hu⟩ hh (by rw [← hd.llen]; omega)
end Frk
