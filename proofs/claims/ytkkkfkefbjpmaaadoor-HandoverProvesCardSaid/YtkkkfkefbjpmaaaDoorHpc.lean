/- The statement HandoverProves of frankinglaw48 holds: for every input the law returns true, and each argument reads afterwards as it read before. Conditions: those of the row (the listed variables start as the program's text lays them; the card ties them). -/
import Derived.Test.YtkkkfkefbjpmaaaDoorMkb
import Derived.Test.YtkkkfkefbjpmaaaDoorMpp
import Derived.Test.YtkkkfkefbjpmaaaDoorHol
namespace Frk
open Go Go.RowKit Go.Proofs
set_option maxRecDepth 100000


set_option maxHeartbeats 4000000 in
theorem proves_many (a : Option Addr) (n c : Nat) (at_ : Int) (w : World) (hG : Glob w) (hn : ¬ n ≤ 70) :
    Calls Tryd.prog 7 #[.slice a n c, .int .i64 at_] w fun e w' => e = .returned (.bool true) ∧ Below w.heap.size w w' := by
  have HFew : Seal (decide (n ≤ 70) = false) := ⟨decide_eq_false hn⟩
  have HGw := Seal.mk hG
  clear hG hn
  go_enter Tryd.func7, Tryd.ntmps7
  go_wp2_with fail
  refine (hsane_any w HGw.out).mono ?_
  rintro e w1 ⟨rfl, hb1⟩
  have HB1 : Seal (Below w.heap.size w w1) := ⟨hb1⟩
  clear hb1
  go_wp2_with fail
  refine (rfew48_any a n c _ w1 HFew.out).mono ?_
  rintro e w' ⟨rfl, rfl⟩
  go_wp2_with fail
  go_ret
  exact ⟨rfl, HB1.out⟩

set_option maxHeartbeats 4000000 in
theorem proves_none (a : Option Addr) (c : Nat) (at_ : Int) (w : World) (hG : Glob w) :
    Calls Tryd.prog 7 #[.slice a 0 c, .int .i64 at_] w fun e w' => e = .returned (.bool true) ∧ Below w.heap.size w w' := by
  have HFew : Seal (decide (0 ≤ 70) = true) := ⟨rfl⟩
  have HGw := Seal.mk hG
  clear hG
  go_enter Tryd.func7, Tryd.ntmps7
  go_wp2_with fail
  refine (hsane_any w HGw.out).mono ?_
  rintro e w1 ⟨rfl, hb1⟩
  have HB1 : Seal (Below w.heap.size w w1) := ⟨hb1⟩
  clear hb1
  go_wp2_with fail
  refine (rfew48_any a 0 c _ w1 HFew.out).mono ?_
  rintro e w' ⟨rfl, rfl⟩
  go_wp2_with fail
  go_ret
  exact ⟨rfl, HB1.out⟩

theorem at_small (x : Int) (n : Nat) (h0 : 0 < n) (hn : n ≤ 70) : ∃ i : Nat, i < n ∧ wrap64 ((IntKind.u64.wrap x).tmod n) = (i : Int) := by
  have h1 : 0 ≤ IntKind.u64.wrap x := by rw [IntKind.wrap_u64]; omega
  have h2 : 0 ≤ (IntKind.u64.wrap x).tmod (n : Int) := Int.tmod_nonneg _ h1
  have h3 : (IntKind.u64.wrap x).tmod (n : Int) < n := Int.tmod_lt_of_pos _ (by omega)
  refine ⟨((IntKind.u64.wrap x).tmod (n : Int)).toNat, by omega, ?_⟩
  rw [IntWalk.wrap64_in _ (by omega)]
  omega

set_option maxHeartbeats 4000000 in
theorem proves_few (a : Option Addr) (n c : Nat) (l : List (List Int)) (at_ : Int) (w : World) (hG : Glob w) (hl : IsL w a n c l) (hn : n ≤ 70) (h0 : 0 < n) (_ha : I64 at_) :
    Calls Tryd.prog 7 #[.slice a n c, .int .i64 at_] w fun e w' => e = .returned (.bool true) ∧ Below w.heap.size w w' := by
  have HFew : Seal (decide (n ≤ 70) = true) := ⟨decide_eq_true hn⟩
  have HGw := Seal.mk hG
  have q1 : ¬ (n : Int) = 0 := by omega
  have q2 : ¬ n = 0 := by omega
  obtain ⟨i, hi, hiw⟩ := at_small at_ n h0 hn
  obtain ⟨R, hR⟩ : ∃ R, R = (l.map txL).map leafD := ⟨_, rfl⟩
  have hll := hl.llen
  have hRn : R.length = n := by rw [hR, List.length_map, List.length_map, hll]
  have hR32 : ∀ d ∈ R, d.length = 32 := by rw [hR]; intro d hd; obtain ⟨t, _, rfl⟩ := List.mem_map.1 hd; exact leafD_len t
  have hts : ∀ t ∈ l.map txL, 0 < t.length ∧ t.length ≤ 1000 := by
    intro t ht
    obtain ⟨s, hs, rfl⟩ := List.mem_map.1 ht
    have := txL_len (hl.each s hs)
    omega
  obtain ⟨s, hs⟩ : ∃ s, l[i]? = some s := ⟨_, List.getElem?_eq_getElem (by omega)⟩
  have ok := hl.each s (List.mem_of_getElem? hs)
  have hD0 : digA R i 0 = leafD (txL s) := by
    show R.getD (i / 2 ^ 0) [] = _
    rw [Nat.pow_zero, Nat.div_one, hR, List.getD_eq_getElem?_getD, List.getElem?_map, List.getElem?_map, hs]; rfl
  obtain ⟨x0, x1, x2, x3, x4, x5, rfl⟩ := six_of ok.1
  have HL := Seal.mk hl
  have HTS := Seal.mk hts
  have HR := Seal.mk (And.intro hRn (And.intro hR32 (And.intro hi (And.intro hn h0))))
  have HRq := Seal.mk hR
  have HS := Seal.mk hs
  have OK := Seal.mk ok
  have HD0 := Seal.mk hD0
  have hq1 : (0 : Int) ≤ (i : Int) := by omega
  have hq2 : (i : Int) < (n : Int) := by omega
  have hn70 : n ≤ 70 := hn
  clear hG hl hts hRn hR32 hi hn hR hs ok hD0 h0 hll
  go_enter Tryd.func7, Tryd.ntmps7
  go_wp2_with fail
  refine (hsane_any w HGw.out).mono ?_
  rintro e w1 ⟨rfl, hb1⟩
  have HB1 : Seal (Below w.heap.size w w1) := ⟨hb1⟩
  clear hb1
  go_wp2_with fail
  refine (rfew48_any a n c _ w1 HFew.out).mono ?_
  rintro e w' ⟨rfl, rfl⟩
  go_wp2_with fail
  simp only [hiw]
  clear hiw
  refine (rletters_any a n c l w1 (HL.out.of_heap HB1.out)).mono ?_
  rintro e w2 ⟨a2, c2, rfl, hs2⟩
  have HI2 := Seal.mk hs2.out.1
  have HB2 : Seal (Below w.heap.size w w2) := ⟨HB1.out.trans (hs2.out.2.mono HB1.out.size)⟩
  clear hs2
  go_wp2_with fail
  refine (mprove_any a2 n c2 i (l.map txL) w2 (HGw.out.below HB2.out) HI2.out HR.out.2.2.1 (by omega) HTS.out).mono ?_
  rintro e w3 ⟨K, v, rfl, hs3⟩
  rw [← HRq.out] at hs3
  obtain ⟨hK1, hK2, ho3, hb3⟩ := hs3.out
  have HB3 : Seal (Below w.heap.size w w3) := ⟨HB2.out.trans (hb3.mono HB2.out.size)⟩
  have ePath : pathB R i (K + 1) = restB R i 0 K := by
    show pathB R i K ++ partB R i K = _
    rw [part_last (by rw [HR.out.1]; exact HR.out.2.2.1) hK1, List.append_nil]
    have := pathB_rest R i K 0
    rw [Nat.zero_add] at this
    rw [this]; rfl
  rw [ePath] at ho3
  have hP3 := PathAt.of_own ho3
  obtain ⟨pa, pn, pc, rfl⟩ := slice_form ho3
  have hpn : pn = (lenN n i K) := by
    have e1 := lenN_path (R := R) (i := i) (by rw [HR.out.1]; omega) (by rw [HR.out.1]; exact HR.out.2.2.1) K
    rw [HR.out.1] at e1
    rw [e1]
    have e2 : pathB R i K = restB R i 0 K := by have := pathB_rest R i K 0; rw [Nat.zero_add] at this; rw [this]; rfl
    rw [e2]
    obtain ⟨a', c', e3, _⟩ := hP3.at_
    cases e3; rfl
  have HP3 := Seal.mk (And.intro hP3 (And.intro hpn (And.intro hK1 hK2)))
  obtain ⟨g, off, rfl, hr, hg⟩ : ∃ g off, a = some ⟨g, off, none⟩ ∧ w3.rangeAt g off (l.flatten.map (Value.int .i64)) ∧ g < w3.heap.size := by
    rcases (HL.out.of_heap HB3.out).at_ with hz | h
    · omega
    · exact h
  have c0 := cell_letter hr HL.out.each HS.out (j := 0) rfl
  have c1 := cell_letter hr HL.out.each HS.out (j := 1) rfl
  have c2' := cell_letter hr HL.out.each HS.out (j := 2) rfl
  have c3 := cell_letter hr HL.out.each HS.out (j := 3) rfl
  have c4 := cell_letter hr HL.out.each HS.out (j := 4) rfl
  have c5 := cell_letter hr HL.out.each HS.out (j := 5) rfl
  have hiq := HR.out.2.2.1
  rw [Nat.add_zero] at c0
  clear hr hg hs3 ho3 hb3 ePath hP3 hpn hK1 hK2
  go_wp2_with fail
  refine (rletter_six x0 x1 x2 x3 x4 x5 w3 OK.out).mono ?_
  rintro e w4 ⟨g4, n4, c4', rfl, hs4⟩
  have HI4 := Seal.mk hs4.out.1
  have HB4 : Seal (Below w.heap.size w w4) := ⟨HB3.out.trans (hs4.out.2.mono HB3.out.size)⟩
  have HP4 : Seal (PathAt w4 (.slice pa pn pc) (restB R i 0 K)) := ⟨HP3.out.1.later hs4.out.2⟩
  have tx := txL_len OK.out
  clear hs4 c0 c1 c2' c3 c4 c5
  go_wp2_with fail
  refine (mClimb_any R n i K g4 n4 c4' (.slice pa pn pc) (txL [x0, x1, x2, x3, x4, x5]) w4 (HGw.out.below HB4.out) HR.out.2.1 HR.out.1 hiq (by omega) HP3.out.2.2.1 HP3.out.2.2.2 HI4.out tx.1 (by omega) HD0.out HP4.out).mono ?_
  rintro e w5 ⟨rfl, hb5⟩
  have HB5 : Seal (Below w.heap.size w w5) := ⟨HB4.out.trans (hb5.mono HB4.out.size)⟩
  clear hb5 tx
  have eRoot : rootB (l.map txL) = digA R i K := by
    rw [rootB_of (K := K) (by rw [List.length_map, HL.out.llen]; omega) (by rw [← HRq.out]; exact HP3.out.2.2.1) (by rw [← HRq.out]; exact HP3.out.2.2.2), ← HRq.out, digA_last (by rw [HR.out.1]; exact hiq) HP3.out.2.2.1]
  have d32 := digA_32 HR.out.2.1 (i := i) (by rw [HR.out.1]; exact hiq) K
  have hle := lenN_le n i K
  have hdec := rowN_dec K HP3.out.2.2.2
  have hRn := HR.out.1
  have HRt : Seal (∀ W, Glob W → IsL W (some ⟨g, off, none⟩) n c l → Calls Tryd.prog 18 #[.slice (some ⟨g, off, none⟩) n c] W fun e w' => e = .returned (.agg ((digA R i K).map B).toArray) ∧ Below W.heap.size W w') := ⟨fun W hW hI => by rw [← eRoot]; exact hroot_any _ n c l W hW hI (by omega)⟩
  have HLen : Seal (∀ W, Calls Tryd.prog 31 #[.int .i64 n, .int .i64 i] W fun e w' => e = .returned (.int .i64 pn) ∧ W = w') := ⟨fun W => by
    have e := HP3.out.2.1
    rw [e]
    exact rlen_any n i K W (by omega) hiq (by have := HP3.out.2.2.1; rw [← nAt_row, hRn] at this; exact this) (fun k hk => by have := HP3.out.2.2.2 k hk; rw [← nAt_row, hRn] at this; exact this)⟩
  obtain ⟨D, hD⟩ : ∃ D, D = digA R i K := ⟨_, rfl⟩
  rw [← hD] at d32 HRt ⊢
  have heq0 := fun W => eqDig D D d32 d32 W
  have heq : ∀ W, (Op.equalIn 10000 25 (.agg (D.map B).toArray) (.agg (D.map B).toArray)).run Tryd.prog W = .ok true W := fun W => by rw [heq0 W]; simp
  have hpnb : pn ≤ 100 := by have := HP3.out.2.1; omega
  have HD1 : Seal ((Tryd.prog.info? 25).map (·.size) = some (D.map B).length ∧ (D.map B).length = 32 ∧ ∀ u ∈ D.map B, u.oneCell' = true) := ⟨dg_info D d32, by rw [List.length_map, d32], by simp [Value.oneCell']⟩
  have iD := dg_info D d32
  have uD := Tryd.underlying25
  obtain ⟨Y, hY⟩ : ∃ Y : World, Y = w5.alloc (.cells (D.map B).toArray 25) := ⟨_, rfl⟩
  have rY : Y.rangeAt w5.heap.size 0 (D.map B) := by rw [hY]; exact rangeAt_row (heap_alloc_new w5 _)
  have HY : Seal (Below w.heap.size w Y) := ⟨by rw [hY]; exact HB5.out.alloc HB5.out.size _⟩
  have HYq := Seal.mk hY
  clear heq0 hD eRoot hle hdec hRn hY
  go_wp2_with (refine wpList_store_new rfl 25 (.tmp 8) (.tmp 45) rfl ([.int .u8 0, .int .u8 0, .int .u8 0, .int .u8 0, .int .u8 0, .int .u8 0, .int .u8 0, .int .u8 0, .int .u8 0, .int .u8 0, .int .u8 0, .int .u8 0, .int .u8 0, .int .u8 0, .int .u8 0, .int .u8 0, .int .u8 0, .int .u8 0, .int .u8 0, .int .u8 0, .int .u8 0, .int .u8 0, .int .u8 0, .int .u8 0, .int .u8 0, .int .u8 0, .int .u8 0, .int .u8 0, .int .u8 0, .int .u8 0, .int .u8 0, .int .u8 0] : List Value) (D.map B) 25 rfl rfl HD1.out.1 HD1.out.2.1.symm HD1.out.2.2 ?_; rw [← HYq.out])
  obtain ⟨gd, hgd⟩ : ∃ x, x = w5.heap.size := ⟨_, rfl⟩
  rw [← hgd] at rY ⊢
  clear HYq hgd
  refine wp_region_held_drew (S := fun w' => w'.rangeAt gd 0 (D.map B)) (by kernel_rfl) rY (fun hHeld => ?_)
  obtain ⟨V, hV⟩ : ∃ V, V = Y.drew := ⟨_, rfl⟩
  have HV : Seal (Below w.heap.size w V) := ⟨by rw [hV]; exact HY.out.trans ((below_drewn Y).mono HY.out.size)⟩
  rw [← hV] at hHeld ⊢
  clear hV rY
  refine take_h 0 ?_ rfl (by kernel_rfl) (by kernel_rfl) (by kernel_rfl) (fun _ _ _ h => h) (Or.inl ⟨by kernel_rfl, ?_⟩) (by assumption) ?_
  rotate_left
  · (intro w hSw; (try dsimp only at hSw); go_simp; try (with_reducible rfl))
  try simp only [Act.put, List.setIfInBounds_toArray, List.set_cons_zero, List.set_cons_succ]
  refine take_h 1 ?_ rfl (by kernel_rfl) (by kernel_rfl) (by kernel_rfl) (fun _ _ _ h => h) (Or.inl ⟨by kernel_rfl, ?_⟩) (by assumption) ?_
  rotate_left
  · (intro w hSw; (try dsimp only at hSw); go_simp; try (with_reducible rfl))
  try simp only [Act.put, List.setIfInBounds_toArray, List.set_cons_zero, List.set_cons_succ]
  refine take_h 2 ?_ rfl (by kernel_rfl) (by kernel_rfl) (by kernel_rfl) (fun _ _ _ h => h) (Or.inl ⟨by kernel_rfl, ?_⟩) (by assumption) ?_
  rotate_left
  · (intro w hSw; (try dsimp only at hSw); go_simp; try (with_reducible rfl))
  try simp only [Act.put, List.setIfInBounds_toArray, List.set_cons_zero, List.set_cons_succ]
  refine take_h 3 ?_ rfl (by kernel_rfl) (by kernel_rfl) (by kernel_rfl) (fun _ _ _ h => h) (Or.inl ⟨by kernel_rfl, ?_⟩) (by assumption) ?_
  rotate_left
  · (intro w hSw; (try dsimp only at hSw); go_simp; try (with_reducible rfl))
  try simp only [Act.put, List.setIfInBounds_toArray, List.set_cons_zero, List.set_cons_succ]
  refine take_h 4 ?_ rfl (by kernel_rfl) (by kernel_rfl) (by kernel_rfl) (fun _ _ _ h => h) (Or.inl ⟨by kernel_rfl, ?_⟩) (by assumption) ?_
  rotate_left
  · (intro w hSw; (try dsimp only at hSw); go_simp; try (with_reducible rfl))
  try simp only [Act.put, List.setIfInBounds_toArray, List.set_cons_zero, List.set_cons_succ]
  refine take_h 5 ?_ rfl (by kernel_rfl) (by kernel_rfl) (by kernel_rfl) (fun _ _ _ h => h) (Or.inl ⟨by kernel_rfl, ?_⟩) (by assumption) ?_
  rotate_left
  · (intro w hSw; (try dsimp only at hSw); go_simp; try (with_reducible rfl))
  try simp only [Act.put, List.setIfInBounds_toArray, List.set_cons_zero, List.set_cons_succ]
  refine take_h 6 ?_ rfl (by kernel_rfl) (by kernel_rfl) (by kernel_rfl) (fun _ _ _ h => h) (Or.inl ⟨by kernel_rfl, ?_⟩) (by assumption) ?_
  rotate_left
  · (intro w hSw; (try dsimp only at hSw); go_simp; try (with_reducible rfl))
  try simp only [Act.put, List.setIfInBounds_toArray, List.set_cons_zero, List.set_cons_succ]
  refine take_h 7 _ rfl (by kernel_rfl) (by kernel_rfl) (by kernel_rfl) (fun _ _ _ h => h) (yieldsIf_load_mid (by kernel_rfl) 25 (.tmp 8) rfl gd 0 rfl (D.map B) _ (fun w hSw => hSw) uD rfl iD) (by assumption) ?_
  try simp only [Act.put, List.setIfInBounds_toArray, List.set_cons_zero, List.set_cons_succ]
  refine take_h 8 ?_ rfl (by kernel_rfl) (by kernel_rfl) (by kernel_rfl) (fun _ _ _ h => h) (Or.inl ⟨by kernel_rfl, ?_⟩) (by assumption) ?_
  rotate_left
  · (intro w hSw; (try dsimp only at hSw); go_simp; try (with_reducible rfl))
  try simp only [Act.put, List.setIfInBounds_toArray, List.set_cons_zero, List.set_cons_succ]
  refine call_h 9 rfl (by kernel_rfl) 18 #[.slice (some ⟨g, off, none⟩) n c] (by kernel_rfl) (by go_simp) ?_
  refine (HRt.out V (HGw.out.below HV.out) (HL.out.of_heap HV.out)).mono ?_
  rintro e w6 ⟨rfl, hb6⟩
  have HB6 : Seal (Below w.heap.size w w6) := ⟨HV.out.trans (hb6.mono HV.out.size)⟩
  refine ⟨_, rfl, rangeAt_below' hHeld hb6, fun hHeld2 => ?_⟩
  clear hHeld hb6
  try simp only [Act.put, List.setIfInBounds_toArray, List.set_cons_zero, List.set_cons_succ]
  refine take_h 10 ?_ rfl (by kernel_rfl) (by kernel_rfl) (by kernel_rfl) (fun _ _ _ h => h) (Or.inl ⟨by kernel_rfl, ?_⟩) (by assumption) ?_
  rotate_left
  · (intro w hSw; (try dsimp only at hSw); go_simp; try (with_reducible rfl))
  try simp only [Act.put, List.setIfInBounds_toArray, List.set_cons_zero, List.set_cons_succ]
  refine take_h 11 ?_ rfl (by kernel_rfl) (by kernel_rfl) (by kernel_rfl) (fun _ _ _ h => h) (Or.inl ⟨by kernel_rfl, ?_⟩) (by assumption) ?_
  rotate_left
  · (intro w hSw; (try dsimp only at hSw); go_simp; try (with_reducible rfl))
  try simp only [Act.put, List.setIfInBounds_toArray, List.set_cons_zero, List.set_cons_succ]
  refine take_h 12 ?_ rfl (by kernel_rfl) (by kernel_rfl) (by kernel_rfl) (fun _ _ _ h => h) (Or.inl ⟨by kernel_rfl, ?_⟩) (by assumption) ?_
  rotate_left
  · (intro w hSw; (try dsimp only at hSw); go_simp; try (with_reducible rfl))
  try simp only [Act.put, List.setIfInBounds_toArray, List.set_cons_zero, List.set_cons_succ]
  refine take_h 13 ?_ rfl (by kernel_rfl) (by kernel_rfl) (by kernel_rfl) (fun _ _ _ h => h) (Or.inl ⟨by kernel_rfl, ?_⟩) (by assumption) ?_
  rotate_left
  · (intro w hSw; (try dsimp only at hSw); go_simp; try (with_reducible rfl))
  try simp only [Act.put, List.setIfInBounds_toArray, List.set_cons_zero, List.set_cons_succ]
  refine take_h 14 ?_ rfl (by kernel_rfl) (by kernel_rfl) (by kernel_rfl) (fun _ _ _ h => h) (Or.inl ⟨by kernel_rfl, ?_⟩) (by assumption) ?_
  rotate_left
  · (intro w hSw; (try dsimp only at hSw); go_simp; try (with_reducible rfl))
  try simp only [Act.put, List.setIfInBounds_toArray, List.set_cons_zero, List.set_cons_succ]
  refine take_h 15 ?_ rfl (by kernel_rfl) (by kernel_rfl) (by kernel_rfl) (fun _ _ _ h => h) (Or.inl ⟨by kernel_rfl, ?_⟩) (by assumption) ?_
  rotate_left
  · (intro w hSw; (try dsimp only at hSw); go_simp; try (with_reducible rfl))
  try simp only [Act.put, List.setIfInBounds_toArray, List.set_cons_zero, List.set_cons_succ]
  refine take_h 16 ?_ rfl (by kernel_rfl) (by kernel_rfl) (by kernel_rfl) (fun _ _ _ h => h) (Or.inl ⟨by kernel_rfl, ?_⟩) (by assumption) ?_
  rotate_left
  · (intro w hSw; (try dsimp only at hSw); go_simp; try (with_reducible rfl))
  try simp only [Act.put, List.setIfInBounds_toArray, List.set_cons_zero, List.set_cons_succ]
  refine take_h 17 ?_ rfl (by kernel_rfl) (by kernel_rfl) (by kernel_rfl) (fun _ _ _ h => h) (Or.inl ⟨by kernel_rfl, ?_⟩) (by assumption) ?_
  rotate_left
  · (intro w hSw; (try dsimp only at hSw); go_simp; try (with_reducible rfl))
  try simp only [Act.put, List.setIfInBounds_toArray, List.set_cons_zero, List.set_cons_succ]
  refine call_h 18 rfl (by kernel_rfl) 31 #[.int .i64 n, .int .i64 i] (by kernel_rfl) (by go_simp) ?_
  refine (HLen.out w6).mono ?_
  rintro e w7 ⟨rfl, rfl⟩
  refine ⟨_, rfl, hHeld2, fun hHeld3 => ?_⟩
  try simp only [Act.put, List.setIfInBounds_toArray, List.set_cons_zero, List.set_cons_succ]
  refine take_h 19 ?_ rfl (by kernel_rfl) (by kernel_rfl) (by kernel_rfl) (fun _ _ _ h => h) (Or.inl ⟨by kernel_rfl, ?_⟩) (by assumption) ?_
  rotate_left
  · (intro w hSw; (try dsimp only at hSw); go_simp; try (with_reducible rfl))
  try simp only [Act.put, List.setIfInBounds_toArray, List.set_cons_zero, List.set_cons_succ]
  refine take_h 20 ?_ rfl (by kernel_rfl) (by kernel_rfl) (by kernel_rfl) (fun _ _ _ h => h) (Or.inl ⟨by kernel_rfl, ?_⟩) (by assumption) ?_
  rotate_left
  · (intro w hSw; (try dsimp only at hSw); go_simp; try (with_reducible rfl))
  try simp only [Act.put, List.setIfInBounds_toArray, List.set_cons_zero, List.set_cons_succ]
  refine take_h 21 ?_ rfl (by kernel_rfl) (by kernel_rfl) (by kernel_rfl) (fun _ _ _ h => h) (Or.inl ⟨by kernel_rfl, ?_⟩) (by assumption) ?_
  rotate_left
  · (intro w hSw; (try dsimp only at hSw); go_simp; try (with_reducible rfl))
  try simp only [Act.put, List.setIfInBounds_toArray, List.set_cons_zero, List.set_cons_succ]
  refine wpAnyH_done (by kernel_rfl) ?_ _
  clear hHeld2 hHeld3
  go_wp2
  go_ret
  exact ⟨ret_bool (by simp), HB6.out⟩

theorem law_handoverProves (a : Option Addr) (n c : Nat) (l : List (List Int)) (at_ : Int) (w : World) (hG : Glob w) (hl : n ≤ 1000 → IsL w a n c l) (ha : I64 at_) :
    Calls Tryd.prog 7 #[.slice a n c, .int .i64 at_] w fun e w' => e = .returned (.bool true) ∧ Below w.heap.size w w' := by
  by_cases hn : n ≤ 70
  · by_cases h0 : n = 0
    · subst h0; exact proves_none a c at_ w hG
    · exact proves_few a n c l at_ w hG (hl (by omega)) hn (by omega) ha
  · exact proves_many a n c at_ w hG hn
end Frk

namespace Go.Proofs.YtkkkfkefbjpmaaaDoor
open Go Go.RowKit Go.Proofs Go.ChangeShapes Go.WideShapes Go.ChangeAt Frk
set_option maxRecDepth 100000

theorem lifted (os : Os) (started : os.Started) (H : Type) (enc : TypeId × Value → H) :
    ReturnsInHanded {} Tryd.checked os 7 .any (fun w args => (Rows.handoverProvesSpec.pre enc Tryd.prog Tryd.f7 [] false w args ∧ laidMetH Tryd.prog laid w) ∧ sizedMet enc Tryd.prog Tryd.f7 (OpenSpec.ofChange Rows.handoverProvesSpec) false w args)
      (Rows.handoverProvesSpec.post enc Tryd.prog Tryd.f7 false true false false) := by
  refine returnsInHanded_of_change_and (C := Tryd.checked) (X := fun w _ => laidMetH Tryd.prog laid w) (fun _ _ _ hh h => h.of_heap hh) own started (by kernel_rfl) Tryd.func7
    (ChangeSpec.witness_shaped (enc := enc) (C := Tryd.checked) (os := os) (X := fun w _ => laidMetH Tryd.prog laid w) false (World.doorLaid Tryd.prog 400 os) #[.slice none 0 0, .int .i64 0] 8 rfl (World.shaped_of_RefB (by kernel_rfl) (by kernel_rfl)) (by kernel_rfl) (by kernel_rfl) (by kernel_rfl) (door_met os _)) ?_
  intro W base args ds gs before hval0 hW _ _ hL _
  have hval : ∀ (j : Nat) t v, Tryd.f7.params[j]? = some t → args[j]? = some v → Value.okWide Tryd.prog W .any base t v := hval0
  have hW' := hW
  obtain ⟨p, q, hA0, hV, rfl, hfz, hnd⟩ := hW
  have hA : DataW.TrodAll enc Tryd.prog W 0 (fun _ => true) true Tryd.f7.params.toList args.toList ds p := hA0
  rw [Tryd.params7] at hA hval
  obtain ⟨args⟩ := args
  obtain ⟨v0, vs0, d0, ds0, p0, q0, e0, rfl, rfl, h0, hr0⟩ := trodAll_cons hA
  obtain ⟨v1, vs1, d1, ds1, p1, q1, e1, rfl, rfl, h1, hr1⟩ := trodAll_cons hr0
  obtain ⟨rfl, rfl, rfl⟩ := trodAll_nil hr1
  obtain rfl : args = [v0, v1] := by simpa [e1] using e0
  obtain ⟨a0, n0, c0, l0, rfl, m0, wx0⟩ := letters_open (hval 0 36 v0 rfl rfl) h0
  obtain ⟨x1, rfl, wx1⟩ := int_open (hval 1 3 v1 rfl rfl) h1
  obtain ⟨rfl, rfl⟩ := trodVars_none hV
  have hG := glob_of_laid hL
  refine (law_handoverProves a0 n0 c0 l0 x1 W hG wx0 wx1).mono fun e W' ⟨he, hb⟩ => ?_
  subst he
  exact ⟨_, rfl, law_fin (by rw [Tryd.params7]; simp only [List.mem_cons, List.not_mem_nil, or_false]; intro t ht; rcases ht with rfl | rfl <;> exact ⟨by kernel_rfl, of_decide_eq_true (by kernel_rfl)⟩) (by kernel_rfl) rfl rfl hW' hb⟩

theorem handoverProves_row : Rows.HandoverProvesSaid :=
  OpenClaim.holds_of_wide 7 Tryd.f7 rfl rfl rfl rfl rfl rfl rfl ⟨rfl, rfl, rfl, rfl, rfl⟩ rfl rfl rfl rfl rfl (by kernel_rfl) Tryd.func7 (by kernel_rfl)
    (of_decide_eq_true (by kernel_rfl)) (by unfold Func.isWrapper; first | (rw [if_pos (by decide +kernel)]; kernel_rfl) | (rw [if_neg (by decide +kernel)]; exact ⟨rfl, rfl⟩))
    (fun os started H enc _ => lifted os started H enc)

theorem handoverProves_holds : Rows.HandoverProvesCardSaid :=
  Claim7.holds_tied_plain_at .later [] [.data, .data] true Rows.handoverProvesCard.stood.harness true
    handoverProves_row (fun _ h => by cases h) (by kernel_rfl) (fun _ h => by cases h) handoverProves_row_tie rfl ⟨rfl, rfl⟩ (by kernel_rfl) rfl
    (fun f fn hf hfn => by
      obtain rfl : f = 7 := Option.some.inj ((show Tryd.prog.funcNamed "franking/frankinglaw48.HandoverProves" = some 7 by kernel_rfl).symm.trans hf) |>.symm
      obtain rfl : fn = Tryd.f7 := (Option.some.inj (Tryd.func7.symm.trans hfn)).symm
      exact ⟨by kernel_rfl, fun j t ht => by
        rw [Tryd.params7] at ht
        have hm : t ∈ [36, 3] := by simpa using Array.mem_of_getElem? ht
        have hall : ([36, 3].all fun u => !Tryd.prog.wantsStandIn u) = true := by kernel_rfl
        exact (show Tryd.prog.wantsStandIn t = false by simpa using List.all_eq_true.1 hall t hm)⟩)
    (by kernel_rfl)
#print axioms handoverProves_holds
end Go.Proofs.YtkkkfkefbjpmaaaDoor
