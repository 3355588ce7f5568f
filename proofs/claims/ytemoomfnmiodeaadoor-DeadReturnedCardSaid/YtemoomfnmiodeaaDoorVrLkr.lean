/- Law 45: DeadReturned's walk. -/
import Derived.Test.YtemoomfnmiodeaaDoorVrKsv
import Derived.Test.YtemoomfnmiodeaaDoorVrgKpl
namespace Frk
open Go Go.RowKit Go.Proofs
set_option maxRecDepth 100000

theorem eqWd_k (x0 x1 x2 : Int) (w : World) : (Op.equalIn 10000 52 (.agg #[.int .i64 x0, .int .i64 x1, .int .i64 x2]) (.agg #[.int .i64 x0, .int .i64 x1, .int .i64 x2])).run Tryd.prog w = .ok true w := by
  have aC := Tryd.isAgg3
  have zC := Tryd.sizeOf3
  have c2 : Tryd.prog.cellsOf 3 = 1 := by kernel_rfl
  obtain ⟨i0, hi⟩ : ∃ i, Tryd.prog.info? 3 = some i := by
    cases h : Tryd.prog.info? 3 with
    | none => have : (Tryd.prog.info? 3).isSome = true := by kernel_rfl
              rw [h] at this; cases this
    | some i => exact ⟨i, rfl⟩
  have e : ∀ a : Int, (Op.equalIn 9999 3 (.int .i64 a) (.int .i64 a)).run Tryd.prog w = .ok true w := fun a => by
    rw [show (9999 : Nat) = 9998 + 1 from rfl, eqInt_s 9998 a a w]; simp
  have p0 : (part 3 #[.int .i64 x0, .int .i64 x1, .int .i64 x2] (0 * 1)).run Tryd.prog w = .ok (.int .i64 x0) w := by simp [part, aC]
  have p1 : (part 3 #[.int .i64 x0, .int .i64 x1, .int .i64 x2] (1 * 1)).run Tryd.prog w = .ok (.int .i64 x1) w := by simp [part, aC]
  have p2 : (part 3 #[.int .i64 x0, .int .i64 x1, .int .i64 x2] (2 * 1)).run Tryd.prog w = .ok (.int .i64 x2) w := by simp [part, aC]
  rw [show (10000 : Nat) = 9999 + 1 from rfl, run_equalIn_array w 9999 _ _ Tryd.underlying52 hi, show List.range 3 = [0, 1, 2] from rfl, c2,
    eqItems_k _ _ _ _ _ _ _ _ _ _ p0 p0 (e _), eqItems_k _ _ _ _ _ _ _ _ _ _ p1 p1 (e _), eqItems_k _ _ _ _ _ _ _ _ _ _ p2 p2 (e _)]
  rw [Op.eqItems]
  rfl

/-- Keep at the letter of the law -/
theorem keep_two {l : List Ltr} {k : Ltr} (hc : chkL l = 0) (hk : okK k = true) (hn : l.length ≤ 12) : (keepE l k = 181 ∧ True) ∨ (keepE l k = 0 ∧ keepL l k = insK Ltr.N l k ∧ hasK Ltr.N l k.N = false ∧ RisK Ltr.N l) := by
  cases hh : hasK Ltr.N l k.N with
  | true =>
    left
    refine ⟨?_, trivial⟩
    unfold keepE
    rw [if_neg (by rw [hc]; simp), if_neg (by rw [hk]; simp), if_pos hh]
  | false =>
    right
    have e : keepE l k = 0 := keepE_zero.2 ⟨hc, hk, hh, by omega⟩
    exact ⟨e, by unfold keepL; rw [if_pos e], rfl, (chkL_zero.1 hc).2.2⟩
theorem send_back {l : List Ltr} {k : Ltr} {a b n0 n1 n2 c0 d0 c1 d1 c2 d2 : Int} (he : keepE l k = 0) (hr : RisK Ltr.N l) (hn : hasK Ltr.N l k.N = false) (hu : useF (chkB k.L k.K k.P k.Q k.T) k.K k.P k.Q a b n0 n1 n2 = (c0, d0, c1, d1, c2, d2, 0)) :
    sendF (keepL l k) k.N a b n0 n1 n2 = (l, (c0, d0, c1, d1, c2, d2), 0) := by
  obtain ⟨e1, e2⟩ := keep_chk he
  have hm : k ∈ insK Ltr.N l k := mem_insK.2 (.inl rfl)
  have hf := fndK_of (insK_ris hr hn) hm
  rw [e1] at e2 ⊢
  unfold sendF
  rw [if_neg (by rw [e2]; simp), hf]
  dsimp only
  rw [hu]
  dsimp only
  rw [if_neg (by decide), outK_ins hr hn]
theorem send_gone {l : List Ltr} {n a b n0 n1 n2 : Int} (hc : chkL l = 0) (hn : hasK Ltr.N l n = false) : sendF l n a b n0 n1 n2 = ([], (0, 0, 0, 0, 0, 0), 1) := by
  unfold sendF
  rw [if_neg (by rw [hc]; simp), fndK_none.2 hn]

set_option maxHeartbeats 16000000 in
theorem law_deadReturned (a : Option Addr) (n c : Nat) (l : List Ltr) (x y s al r w0 w1 n0 n1 n2 : Int) (w : World) (hG : Glob w) (hl : n ≤ 5000 → IsC Ltr.C 38 w a n c l) (hok : ∀ x ∈ l, x.ok)
    (hx : 0 ≤ x ∧ x < 65536) (hy : 0 ≤ y ∧ y < 65536) (hs : 0 ≤ s ∧ s < 4294967296) (hal : 0 ≤ al ∧ al < 4294967296) (hr : 0 ≤ r ∧ r < 4294967296) (hw0 : 0 ≤ w0 ∧ w0 < 4294967296) (hw1 : 0 ≤ w1 ∧ w1 < 4294967296) (h0 : I64 n0) (h1 : I64 n1) (h2 : I64 n2) :
    Calls Tryd.prog 3 #[.slice a n c, .int .u16 x, .int .u16 y, .int .u32 s, .int .u32 al, .int .u32 r, .agg #[.int .u32 w0, .int .u32 w1], .agg #[.int .i64 n0, .int .i64 n1, .int .i64 n2]] w fun e w' => e = .returned (.bool true) ∧ Below w.heap.size w w' := by
  obtain ⟨X1, hX1⟩ : ∃ X : World, X = w.alloc (.cells #[.int .u32 w0, .int .u32 w1] 25) := ⟨_, rfl⟩
  obtain ⟨X, hX⟩ : ∃ X : World, X = X1.alloc (.cells #[.int .i64 n0, .int .i64 n1, .int .i64 n2] 26) := ⟨_, rfl⟩
  have b1 : Below w.heap.size w X1 := by rw [hX1]; exact below_alloc _ _
  have b2 : Below X1.heap.size X1 X := by rw [hX]; exact below_alloc _ _
  have s1 : X1.heap.size = w.heap.size + 1 := by rw [hX1, size_alloc]
  have r1 : X1.rangeAt w.heap.size 0 [.int .u32 w0, .int .u32 w1] := by rw [hX1]; exact rangeAt_row (cs := [.int .u32 w0, .int .u32 w1]) (heap_alloc_new w _)
  have r2 : X.rangeAt (w.heap.size + 1) 0 [.int .i64 n0, .int .i64 n1, .int .i64 n2] := by rw [← s1, hX]; exact rangeAt_row (cs := [.int .i64 n0, .int .i64 n1, .int .i64 n2]) (heap_alloc_new X1 _)
  have HB : Seal (Below w.heap.size w X) := ⟨b1.trans (b2.mono b1.size)⟩
  obtain ⟨gw, hgw⟩ : ∃ g, g = w.heap.size := ⟨_, rfl⟩
  obtain ⟨gn, hgn⟩ : ∃ g, g = w.heap.size + 1 := ⟨_, rfl⟩
  have KW : Seal (Ko X fun W => W.rangeAt gw 0 [.int .u32 w0, .int .u32 w1] ∧ W.rangeAt gn 0 [.int .i64 n0, .int .i64 n1, .int .i64 n2]) := ⟨fun W hW => by rw [hgw, hgn]; exact ⟨rangeAt_below' (rangeAt_below' r1 b2) hW, rangeAt_below' r2 hW⟩⟩
  have HG : Seal (∀ W, Below w.heap.size w W → Glob W) := ⟨fun W h => hG.below h⟩
  have HL : Seal (∀ W, Below w.heap.size w W → n ≤ 12 → IsC Ltr.C 38 W a n c l) := ⟨fun W h hn => (hl (by omega)).below h⟩
  have HOK := Seal.mk hok
  have HI : Seal (I64 n0 ∧ I64 n1 ∧ I64 n2) := ⟨h0, h1, h2⟩
  obtain ⟨S1, hS1⟩ : ∃ S, S = s.tmod 1073741788 := ⟨_, rfl⟩
  obtain ⟨A1, hA1⟩ : ∃ S, S = al.tmod 1073741789 := ⟨_, rfl⟩
  obtain ⟨U1, hU1⟩ : ∃ S, S = w0.tmod 1073741789 := ⟨_, rfl⟩
  obtain ⟨V1, hV1⟩ : ∃ S, S = w1.tmod 1073741789 := ⟨_, rfl⟩
  have hb : (0 ≤ S1 ∧ S1 < 1073741788) ∧ (0 ≤ A1 ∧ A1 < 1073741789) ∧ (0 ≤ U1 ∧ U1 < 1073741789) ∧ (0 ≤ V1 ∧ V1 < 1073741789) := by
    rw [hS1, hA1, hU1, hV1]
    refine ⟨⟨Int.tmod_nonneg _ hs.1, Int.tmod_lt_of_pos _ (by decide)⟩, ⟨Int.tmod_nonneg _ hal.1, Int.tmod_lt_of_pos _ (by decide)⟩, ⟨Int.tmod_nonneg _ hw0.1, Int.tmod_lt_of_pos _ (by decide)⟩, ⟨Int.tmod_nonneg _ hw1.1, Int.tmod_lt_of_pos _ (by decide)⟩⟩
  obtain ⟨S, hS⟩ : ∃ S, S = 1 + S1 := ⟨_, rfl⟩
  obtain ⟨AL, hAL⟩ : ∃ S, S = 1 + A1 := ⟨_, rfl⟩
  obtain ⟨U, hU⟩ : ∃ S, S = 1 + U1 := ⟨_, rfl⟩
  obtain ⟨V, hV⟩ : ∃ S, S = 1 + V1 := ⟨_, rfl⟩
  have z1 : IntKind.i64.wrap s = s := IntWalk.i64_in _ (by omega)
  have z2 : IntKind.i64.wrap al = al := IntWalk.i64_in _ (by omega)
  have z3 : IntKind.i64.wrap w0 = w0 := IntWalk.i64_in _ (by omega)
  have z4 : IntKind.i64.wrap w1 = w1 := IntWalk.i64_in _ (by omega)
  have z5 : IntKind.i64.wrap r = r := IntWalk.i64_in _ (by omega)
  have z6 : IntKind.i64.wrap x = x := IntWalk.i64_in _ (by omega)
  have z7 : IntKind.i64.wrap y = y := IntWalk.i64_in _ (by omega)
  have y1 : s.tmod 1073741788 = S1 := hS1.symm
  have y2 : al.tmod 1073741789 = A1 := hA1.symm
  have y3 : w0.tmod 1073741789 = U1 := hU1.symm
  have y4 : w1.tmod 1073741789 = V1 := hV1.symm
  have x1 : IntKind.i64.wrap (1 + S1) = S := by rw [hS]; exact IntWalk.i64_in _ (by omega)
  have x2 : IntKind.i64.wrap (1 + A1) = AL := by rw [hAL]; exact IntWalk.i64_in _ (by omega)
  have x3 : IntKind.i64.wrap (1 + U1) = U := by rw [hU]; exact IntWalk.i64_in _ (by omega)
  have x4 : IntKind.i64.wrap (1 + V1) = V := by rw [hV]; exact IntWalk.i64_in _ (by omega)
  have w1' : IntKind.i64.wrap S1 = S1 := IntWalk.i64_in _ (by omega)
  have w2' : IntKind.i64.wrap A1 = A1 := IntWalk.i64_in _ (by omega)
  have w3' : IntKind.i64.wrap U1 = U1 := IntWalk.i64_in _ (by omega)
  have w4' : IntKind.i64.wrap V1 = V1 := IntWalk.i64_in _ (by omega)
  have HR : Seal ((1 ≤ S ∧ S < 1073741789) ∧ (1 ≤ AL ∧ AL ≤ 1073741789) ∧ (1 ≤ U ∧ U ≤ 1073741789) ∧ (1 ≤ V ∧ V ≤ 1073741789) ∧ (0 ≤ x ∧ x < 65536) ∧ (0 ≤ y ∧ y < 65536) ∧ 0 ≤ r ∧ r < 4294967296) := ⟨⟨by omega, by omega⟩, ⟨by omega, by omega⟩, ⟨by omega, by omega⟩, ⟨by omega, by omega⟩, hx, hy, hr⟩
  have hXX : X = (w.alloc (.cells #[.int .u32 w0, .int .u32 w1] 25)).alloc (.cells #[.int .i64 n0, .int .i64 n1, .int .i64 n2] 26) := by rw [hX, hX1]
  have ut := Tryd.underlying45
  have ur := Tryd.underlying39
  have us := Tryd.underlying47
  have uw := Tryd.underlying52
  have u2 := Tryd.underlying31
  have u3 := Tryd.underlying26
  clear hX hX1 b1 b2 s1 r1 r2 hG hl hok hx hy hs hal hr hw0 hw1 h0 h1 h2 hb hS hAL hU hV hS1 hA1 hU1 hV1
  go_enter Tryd.func3, Tryd.ntmps3
  go_upto_region 1 with (fail)
  rw [← hXX, ← hgn, ← hgw]
  clear hXX hgn hgw
  go_wp2_with fail
  refine (sane45_any X (HG.out _ HB.out)).mono ?_
  rintro e v1 ⟨rfl, hb⟩
  have HB := Seal.mk (HB.out.trans ((hb).mono HB.out.size))
  have KW := Seal.mk (KW.out.step (hb))
  clear hb
  go_wp2_with fail
  refine (kfew_any a n c v1).mono ?_
  rintro e v2 ⟨rfl, rfl⟩
  by_cases hn : n ≤ 12
  rotate_left
  · have q1 : decide (n ≤ 12) = false := decide_eq_false hn
    rw [q1]
    go_wp2
    go_ret
    exact ⟨rfl, HB.out⟩
  · have q1 : decide (n ≤ 12) = true := decide_eq_true hn
    rw [q1]
    clear q1
    have HN : Seal (n ≤ 12 ∧ l.length = n) := ⟨hn, (HL.out _ HB.out hn).llen⟩
    have hk := kchk_any a n c l v1 (HG.out _ HB.out) (HL.out _ HB.out hn) HOK.out
    obtain ⟨ck, hck⟩ : ∃ e, e = chkL l := ⟨_, rfl⟩
    rw [← hck] at hk
    clear hn
    go_wp2_with fail
    refine hk.mono ?_
    rintro e v2 ⟨rfl, hb⟩
    have HB := Seal.mk (HB.out.trans ((hb).mono HB.out.size))
    have KW := Seal.mk (KW.out.step (hb))
    clear hk hb
    by_cases hz : ck = 0
    rotate_left
    · have qz : (ck == 0) = false := by rw [beq_eq_false_iff_ne]; exact hz
      clear hck
      go_wp2
      go_ret
      exact ⟨rfl, HB.out⟩
    · subst hz
      have HC := Seal.mk hck.symm
      clear hck
      have rW := KW.out.at.1
      have cw0 : v2.cell? ⟨gw, 0, none⟩ = some (.int .u32 w0) := by have := rW 0 _ rfl; simpa using this
      have cw1 : v2.cell? ⟨gw, 1, none⟩ = some (.int .u32 w1) := by have := rW 1 _ rfl; simpa using this
      clear rW
      go_wp2_with fail
      refine wp_region_held_drew (S := fun W => W.cell? ⟨gw, 0, none⟩ = some (.int .u32 w0) ∧ W.cell? ⟨gw, 1, none⟩ = some (.int .u32 w1)) (by kernel_rfl) ⟨cw0, cw1⟩ (fun hHeld => ?_)
      obtain ⟨Y, hY⟩ : ∃ Y, Y = v2.drew := ⟨_, rfl⟩
      have hbd : Below v2.heap.size v2 Y := by rw [hY]; exact below_drewn_o _
      have HB := Seal.mk (HB.out.trans ((hbd).mono HB.out.size))
      have KW := Seal.mk (KW.out.step (hbd))
      rw [← hY] at hHeld ⊢
      clear hY hbd cw0 cw1
      refine take_h 0 ?_ rfl (by kernel_rfl) (by kernel_rfl) (by kernel_rfl) (fun _ _ _ h => h) (Or.inl ⟨by kernel_rfl, ?_⟩) (by assumption) ?_
      rotate_left
      · (intro w hSw; (try dsimp only at hSw); go_simp; try (with_reducible rfl))
      try simp only [Act.put, List.setIfInBounds_toArray, List.set_cons_zero, List.set_cons_succ]
      refine take_h 1 ?_ rfl (by kernel_rfl) (by kernel_rfl) (by kernel_rfl) (fun _ _ _ h => h) (Or.inl ⟨by kernel_rfl, ?_⟩) (by assumption) ?_
      rotate_left
      · (intro w hSw; (try dsimp only at hSw); go_simp; try (with_reducible rfl))
      try simp only [Act.put, List.setIfInBounds_toArray, List.set_cons_zero, List.set_cons_succ]
      refine take_h 2 ?_ rfl (by kernel_rfl) (by kernel_rfl) (by kernel_rfl) (fun _ _ _ h => h) (Or.inl ⟨by kernel_rfl, ?_⟩) (by assumption) ?_
      rotate_left
      · (intro w hSw; (try dsimp only at hSw); go_simp; try (with_reducible rfl))
      try simp only [Act.put, List.setIfInBounds_toArray, List.set_cons_zero, List.set_cons_succ]
      refine take_h 3 ?_ rfl (by kernel_rfl) (by kernel_rfl) (by kernel_rfl) (fun _ _ _ h => h) (Or.inl ⟨by kernel_rfl, ?_⟩) (by assumption) ?_
      rotate_left
      · (intro w hSw; (try dsimp only at hSw); go_simp; try (with_reducible rfl))
      try simp only [Act.put, List.setIfInBounds_toArray, List.set_cons_zero, List.set_cons_succ]
      refine take_h 4 ?_ rfl (by kernel_rfl) (by kernel_rfl) (by kernel_rfl) (fun _ _ _ h => h) (Or.inl ⟨by kernel_rfl, ?_⟩) (by assumption) ?_
      rotate_left
      · (intro w hSw; (try dsimp only at hSw); go_simp; try (with_reducible rfl))
      try simp only [Act.put, List.setIfInBounds_toArray, List.set_cons_zero, List.set_cons_succ]
      refine take_h 5 ?_ rfl (by kernel_rfl) (by kernel_rfl) (by kernel_rfl) (fun _ _ _ h => h) (Or.inl ⟨by kernel_rfl, ?_⟩) (by assumption) ?_
      rotate_left
      · (intro w hSw; (try dsimp only at hSw); go_simp; try (with_reducible rfl))
      try simp only [Act.put, List.setIfInBounds_toArray, List.set_cons_zero, List.set_cons_succ]
      refine take_h 6 ?_ rfl (by kernel_rfl) (by kernel_rfl) (by kernel_rfl) (fun _ _ _ h => h) (Or.inl ⟨by kernel_rfl, ?_⟩) (by assumption) ?_
      rotate_left
      · (intro w hSw; (try dsimp only at hSw); go_simp; try (with_reducible rfl))
      try simp only [Act.put, List.setIfInBounds_toArray, List.set_cons_zero, List.set_cons_succ]
      refine take_h 7 ?_ rfl (by kernel_rfl) (by kernel_rfl) (by kernel_rfl) (fun _ _ _ h => h) (Or.inl ⟨by kernel_rfl, ?_⟩) (by assumption) ?_
      rotate_left
      · (intro w hSw; (try dsimp only at hSw); go_simp; try (with_reducible rfl))
      try simp only [Act.put, List.setIfInBounds_toArray, List.set_cons_zero, List.set_cons_succ]
      refine take_h 8 ?_ rfl (by kernel_rfl) (by kernel_rfl) (by kernel_rfl) (fun _ _ _ h => h) (Or.inl ⟨by kernel_rfl, ?_⟩) (by assumption) ?_
      rotate_left
      · (intro w hSw; (try dsimp only at hSw); go_simp; try (with_reducible rfl))
      try simp only [Act.put, List.setIfInBounds_toArray, List.set_cons_zero, List.set_cons_succ]
      refine take_h 9 ?_ rfl (by kernel_rfl) (by kernel_rfl) (by kernel_rfl) (fun _ _ _ h => h) (Or.inl ⟨by kernel_rfl, ?_⟩) (by assumption) ?_
      rotate_left
      · (intro w hSw; (try dsimp only at hSw); go_simp; try (with_reducible rfl))
      try simp only [Act.put, List.setIfInBounds_toArray, List.set_cons_zero, List.set_cons_succ]
      refine take_h 10 ?_ rfl (by kernel_rfl) (by kernel_rfl) (by kernel_rfl) (fun _ _ _ h => h) (Or.inl ⟨by kernel_rfl, ?_⟩) (by assumption) ?_
      rotate_left
      · (intro w hSw; (try dsimp only at hSw); go_simp; try (with_reducible rfl))
      try simp only [Act.put, List.setIfInBounds_toArray, List.set_cons_zero, List.set_cons_succ]
      refine take_h 11 ?_ rfl (by kernel_rfl) (by kernel_rfl) (by kernel_rfl) (fun _ _ _ h => h) (Or.inl ⟨by kernel_rfl, ?_⟩) (by assumption) ?_
      rotate_left
      · (intro w hSw; (try dsimp only at hSw); go_simp; try (with_reducible rfl))
      try simp only [Act.put, List.setIfInBounds_toArray, List.set_cons_zero, List.set_cons_succ]
      refine take_h 12 ?_ rfl (by kernel_rfl) (by kernel_rfl) (by kernel_rfl) (fun _ _ _ h => h) (Or.inl ⟨by kernel_rfl, ?_⟩) (by assumption) ?_
      rotate_left
      · (intro w hSw; (try dsimp only at hSw); go_simp; try (with_reducible rfl))
      try simp only [Act.put, List.setIfInBounds_toArray, List.set_cons_zero, List.set_cons_succ]
      refine take_h 13 ?_ rfl (by kernel_rfl) (by kernel_rfl) (by kernel_rfl) (fun _ _ _ h => h) (Or.inl ⟨by kernel_rfl, ?_⟩) (by assumption) ?_
      rotate_left
      · (intro w hSw; (try dsimp only at hSw); go_simp; try (with_reducible rfl))
      try simp only [Act.put, List.setIfInBounds_toArray, List.set_cons_zero, List.set_cons_succ]
      refine take_h 14 ?_ rfl (by kernel_rfl) (by kernel_rfl) (by kernel_rfl) (fun _ _ _ h => h) (Or.inl ⟨by kernel_rfl, ?_⟩) (by assumption) ?_
      rotate_left
      · (intro w hSw; (try dsimp only at hSw); go_simp; try (with_reducible rfl))
      try simp only [Act.put, List.setIfInBounds_toArray, List.set_cons_zero, List.set_cons_succ]
      obtain ⟨Y1, g18, hg18, n_1, n_2, n_3, n_4, _, _⟩ := newv Y #[.int .i64 0, .int .i64 0] [.int .i64 U, .int .i64 V] 31
      have HNv : Seal (Below Y.heap.size Y Y1 ∧ Ko Y1 (fun W => W.rangeAt g18 0 [.int .i64 U, .int .i64 V]) ∧ g18 = Y.heap.size) := ⟨n_4, n_3, hg18⟩
      have hal := below_alloc Y (.cells #[.int .i64 0, .int .i64 0] 31)
      refine oper_h 15 (.pointer (some ⟨Y.heap.size, 0, none⟩)) (Y.alloc (.cells #[.int .i64 0, .int .i64 0] 31)) rfl (by kernel_rfl) (by kernel_rfl) (by go_simp) ⟨cell_below' hal hHeld.1, cell_below' hal hHeld.2⟩ (fun hHeld2 => ?_)
      rw [← hg18]
      have HC2 : Seal (Y1.cell? ⟨gw, 0, none⟩ = some (.int .u32 w0) ∧ Y1.cell? ⟨gw, 1, none⟩ = some (.int .u32 w1)) := ⟨cell_below' n_4 hHeld.1, cell_below' n_4 hHeld.2⟩
      clear hHeld hal
      try simp only [Act.put, List.setIfInBounds_toArray, List.set_cons_zero, List.set_cons_succ]
      refine take_h 16 ?_ rfl (by kernel_rfl) (by kernel_rfl) (by kernel_rfl) (fun _ _ _ h => h) (Or.inl ⟨by kernel_rfl, ?_⟩) (by assumption) ?_
      rotate_left
      · (intro w hSw; (try dsimp only at hSw); go_simp; try (with_reducible rfl))
      try simp only [Act.put, List.setIfInBounds_toArray, List.set_cons_zero, List.set_cons_succ]
      refine skip_h 17 Y1 rfl (by kernel_rfl) (by kernel_rfl) (by rw [← n_1]; exact exec_store_row 31 (.tmp 18) (.tmp 59) rfl g18 #[.int .i64 U, .int .i64 V] rfl rfl 31 _ n_2 (by kernel_rfl) rfl (by simp [Value.oneCell'])) HC2.out (fun hHeld3 => ?_)
      try simp only [Act.put]
      refine wpAnyH_done (by kernel_rfl) ?_ _
      clear HC2 hHeld2 hHeld3 n_1 n_2 n_3 n_4 hg18
      have HB := Seal.mk (HB.out.trans ((HNv.out.1).mono HB.out.size))
      have KW := Seal.mk (KW.out.step (HNv.out.1))
      have K18 := Seal.mk HNv.out.2.1
      clear HNv
      obtain ⟨K, hK⟩ : ∃ K, K = ((pw 4 S : Nat) : Int) := ⟨_, rfl⟩
      have hk : Calls Tryd.prog 9 #[.int .i64 S] Y1 fun e w' => e = .returned (.tuple #[.int .i64 K, .int .i64 0]) ∧ Below Y1.heap.size Y1 w' := by
        rw [hK]
        exact public_at S _ 0 Y1 ⟨by unfold pubF secB; rw [if_pos (by simp; have := HR.out; omega)]⟩ (by have := HR.out; omega) (by have := HR.out; omega)
      go_wp2_with fail
      refine hk.mono ?_
      rintro e v3 ⟨rfl, hb⟩
      have HB := Seal.mk (HB.out.trans ((hb).mono HB.out.size))
      have KW := Seal.mk (KW.out.step (hb))
      have K18 := Seal.mk (K18.out.step (hb))
      clear hk hb
      obtain ⟨kk, hkk⟩ : ∃ k, k = bkK x y S AL r := ⟨_, rfl⟩
      obtain ⟨CR, hCR⟩ : ∃ C, C = retC 5 K kk.P kk.Q kk.T := ⟨_, rfl⟩
      have hk : Calls Tryd.prog 10 #[.int .i64 5, .int .i64 K, .int .i64 AL, .int .i64 r] v3 fun e' w' => e' = .returned (.tuple #[.agg CR.toArray, .int .i64 0]) ∧ Below v3.heap.size v3 w' := by
        rw [hCR, hkk, hK]
        exact omake_at 5 _ AL r 5 _ _ _ 0 _ v3 (HG.out _ HB.out) (by decide) (i64_pw _ _) (by have := HR.out; omega) (by have := HR.out; omega) ⟨bkK_make x y S r HR.out.2.1.1 HR.out.2.1.2⟩
      have okk : kk.ok := by rw [hkk]; exact bkK_ok S AL r ⟨by have := HR.out; omega, by have := HR.out; omega⟩ ⟨by have := HR.out; omega, by have := HR.out; omega⟩
      have ckk : kk.C = .int .i64 x :: .int .i64 y :: CR := by rw [hCR, hkk, hK]; rfl
      have HKK : Seal (kk.ok ∧ kk.C = .int .i64 x :: .int .i64 y :: CR ∧ CR.length = 36 ∧ (Tryd.prog.info? 39).map (·.size) = some CR.length ∧ (List.toArray (.int .i64 0 :: .int .i64 0 :: .int .i64 0 :: .int .i64 0 :: .int .u8 0 :: .int .u8 0 :: .int .u8 0 :: .int .u8 0 :: .int .u8 0 :: .int .u8 0 :: .int .u8 0 :: .int .u8 0 :: .int .u8 0 :: .int .u8 0 :: .int .u8 0 :: .int .u8 0 :: .int .u8 0 :: .int .u8 0 :: .int .u8 0 :: .int .u8 0 :: .int .u8 0 :: .int .u8 0 :: .int .u8 0 :: .int .u8 0 :: .int .u8 0 :: .int .u8 0 :: .int .u8 0 :: .int .u8 0 :: .int .u8 0 :: .int .u8 0 :: .int .u8 0 :: .int .u8 0 :: .int .u8 0 :: .int .u8 0 :: .int .u8 0 :: .int .u8 0 :: []) : Array Value).size = CR.toArray.size ∧ CR.toArray.all (·.oneCell') = true ∧ okK kk = true ∧ kk.N = x ∧ kk = bkK x y S AL r) := ⟨okk, ckk, by rw [hCR]; exact retC_len okk.t32, by rw [hCR]; exact retC_info okk.t32, by rw [show CR.toArray.size = 36 from by rw [List.size_toArray, hCR]; exact retC_len okk.t32]; rfl, by rw [hCR]; exact all_oneCell_toArray (retC_one _ _ _ _ _), by rw [hkk]; exact bkK_okK S r HR.out.2.1.1 HR.out.2.1.2 HR.out.2.2.2.2.1.1 (by have := HR.out; omega) HR.out.2.2.2.2.2.1.1 (by have := HR.out; omega), by rw [hkk]; rfl, hkk⟩
      clear okk ckk hCR hkk hK
      go_wp2_with fail
      refine hk.mono ?_
      rintro e v4 ⟨rfl, hb⟩
      have HB := Seal.mk (HB.out.trans ((hb).mono HB.out.size))
      have KW := Seal.mk (KW.out.step (hb))
      have K18 := Seal.mk (K18.out.step (hb))
      clear hk hb
      obtain ⟨Y2, g21, hg, n_1, n_2, n_3, n_4, _, _⟩ := newv v4 (List.toArray (.int .i64 0 :: .int .i64 0 :: .int .i64 0 :: .int .i64 0 :: .int .u8 0 :: .int .u8 0 :: .int .u8 0 :: .int .u8 0 :: .int .u8 0 :: .int .u8 0 :: .int .u8 0 :: .int .u8 0 :: .int .u8 0 :: .int .u8 0 :: .int .u8 0 :: .int .u8 0 :: .int .u8 0 :: .int .u8 0 :: .int .u8 0 :: .int .u8 0 :: .int .u8 0 :: .int .u8 0 :: .int .u8 0 :: .int .u8 0 :: .int .u8 0 :: .int .u8 0 :: .int .u8 0 :: .int .u8 0 :: .int .u8 0 :: .int .u8 0 :: .int .u8 0 :: .int .u8 0 :: .int .u8 0 :: .int .u8 0 :: .int .u8 0 :: .int .u8 0 :: []) : Array Value) CR 39
      have HB := Seal.mk (HB.out.trans ((n_4).mono HB.out.size))
      have KW := Seal.mk (KW.out.step (n_4))
      have K18 := Seal.mk (K18.out.step (n_4))
      have K21 := Seal.mk n_3
      have hgn := hg.symm
      clear hg n_3 n_4
      have r21 := K21.out.at
      have i21 := HKK.out.2.2.2.1
      go_wp2_with (first | (refine wpList_load_mid_g (by kernel_rfl) 39 (.tmp 21) rfl g21 0 rfl CR _ r21 ur rfl i21 ?_; (try simp only [Act.put, List.setIfInBounds_toArray, List.set_cons_zero, List.set_cons_succ])) | (refine wpList_build_kt rfl (.tmp 79) (.tmp 81) (.tmp 82) rfl x y CR HKK.out.2.2.1 rfl rfl rfl ?_; (try simp only [Act.put, List.setIfInBounds_toArray, List.set_cons_zero, List.set_cons_succ])) | ((try rw [hgn]); refine wpList_store_row rfl 39 (.tmp 21) (.tmp 74) rfl g21 CR.toArray rfl rfl 39 _ n_2 (by simpa using i21) HKK.out.2.2.2.2.1 HKK.out.2.2.2.2.2.1 ?_; rw [n_1]; clear n_1 n_2 hgn; (try simp only [Act.put])))
      have hk : Calls Tryd.prog 11 #[.slice a n c, .agg (Value.int .i64 x :: .int .i64 y :: CR).toArray] Y2 (KeptPost (keepL l kk) (keepE l kk) Y2) := by
        rw [← HKK.out.2.1]
        exact kkeep_any a n c l kk Y2 (HG.out _ HB.out) (HL.out _ HB.out HN.out.1) HOK.out HKK.out.1
      have HKT := Seal.mk (keep_two HC.out HKK.out.2.2.2.2.2.2.1 (by rw [HN.out.2]; exact HN.out.1))
      obtain ⟨E, hE⟩ : ∃ e, e = keepE l kk := ⟨_, rfl⟩
      rw [← hE] at hk
      refine hk.mono ?_
      rintro e v5 ⟨a5, m5, c5, rfl, hi, hb⟩
      have HB := Seal.mk (HB.out.trans ((hb).mono HB.out.size))
      have KW := Seal.mk (KW.out.step (hb))
      have K18 := Seal.mk (K18.out.step (hb))
      have K5 := Seal.mk (ko_isC hi.out)
      clear hk hi hb K21 r21 i21
      rcases HKT.out with ⟨e1, _⟩ | ⟨e1, e2, e3, e4⟩
      · rw [← hE] at e1
        subst e1
        clear hE
        go_wp2
        go_ret
        exact ⟨rfl, HB.out⟩
      · have HE : Seal (keepE l kk = 0 ∧ keepL l kk = insK Ltr.N l kk ∧ hasK Ltr.N l kk.N = false ∧ RisK Ltr.N l) := ⟨e1, e2, e3, e4⟩
        rw [← hE] at e1
        subst e1
        clear hE e2 e3 e4 HKT
        obtain ⟨F, hF⟩ : ∃ F, F = rtL S AL r U V n0 n1 n2 := ⟨_, rfl⟩
        obtain ⟨SX, hSX⟩ : ∃ L, L = rowL F := ⟨_, rfl⟩
        have hok : okL F := by rw [hF]; exact rtL_ok S r n0 n1 n2 HR.out.2.1.1 HR.out.2.1.2 HR.out.2.2.1.1 HR.out.2.2.1.2 HR.out.2.2.2.1.1 HR.out.2.2.2.1.2
        have hu := bkK_use x y S r n0 n1 n2 HR.out.2.1.1 HR.out.2.1.2 HR.out.2.2.1.1 HR.out.2.2.1.2 HR.out.2.2.2.1.1 HR.out.2.2.2.1.2
        rw [← HKK.out.2.2.2.2.2.2.2.2, ← hF] at hu
        have hsb := send_back HE.out.1 HE.out.2.2.2 HE.out.2.2.1 hu
        rw [HKK.out.2.2.2.2.2.2.2.1] at hsb
        have KLok : ∀ z ∈ keepL l kk, z.ok := fun z hz => by
          rw [HE.out.2.1] at hz
          rcases mem_insK.1 hz with rfl | h
          · exact HKK.out.1
          · exact HOK.out z h
        have iSX : (Tryd.prog.info? 47).map (·.size) = some SX.length := by rw [hSX]; kernel_rfl
        have HSX : Seal (SX = rowL F ∧ (#[.int .i64 0, .int .i64 0, .int .i64 0, .int .i64 0, .int .i64 0, .int .i64 0] : Array Value).size = SX.toArray.size ∧ SX.toArray.all (·.oneCell') = true ∧ okL F ∧ F = rtL S AL r U V n0 n1 n2) := ⟨hSX, by rw [hSX]; rfl, by rw [hSX]; simp [rowL, Value.oneCell'], hok, hF⟩
        have hk : Calls Tryd.prog 12 #[.slice a5 m5 c5, .int .i64 x, .agg [Value.int .i64 U, .int .i64 V].toArray, .agg [Value.int .i64 n0, .int .i64 n1, .int .i64 n2].toArray] v5 (fun e w' => ∃ a n c, e = .returned (.tuple #[.slice a n c, .agg SX.toArray, .int .i64 0]) ∧ Seal (IsC Ltr.C 38 w' a n c l) ∧ Below v5.heap.size v5 w') := by
          have h := ksend_any a5 m5 c5 (keepL l kk) x U V n0 n1 n2 v5 (HG.out _ HB.out) K5.out.at KLok HI.out.1 HI.out.2.1 HI.out.2.2
          rw [hsb] at h
          rw [hSX]
          exact h.mono fun e w' hp => sendPost_c hp
        clear hsb hu KLok hok hSX hF
        have r18 := K18.out.at
        have rN := KW.out.at.2
        have i2 : (Tryd.prog.info? 31).map (·.size) = some ([Value.int .i64 U, .int .i64 V] : List Value).length := by kernel_rfl
        have i3 : (Tryd.prog.info? 26).map (·.size) = some ([Value.int .i64 n0, .int .i64 n1, .int .i64 n2] : List Value).length := by kernel_rfl
        go_wp2_with (first | (refine wpList_load_mid_g (by kernel_rfl) 31 (.tmp 18) rfl g18 0 rfl [Value.int .i64 U, .int .i64 V] _ r18 u2 rfl i2 ?_; (try simp only [Act.put, List.setIfInBounds_toArray, List.set_cons_zero, List.set_cons_succ])) | (refine wpList_load_mid_g (by kernel_rfl) 26 (.tmp 15) rfl gn 0 rfl [Value.int .i64 n0, .int .i64 n1, .int .i64 n2] _ rN u3 rfl i3 ?_; (try simp only [Act.put, List.setIfInBounds_toArray, List.set_cons_zero, List.set_cons_succ])))
        refine hk.mono ?_
        rintro e v6 ⟨a6, m6, c6, rfl, hi, hb⟩
        have HB := Seal.mk (HB.out.trans ((hb).mono HB.out.size))
        have KW := Seal.mk (KW.out.step (hb))
        have K18 := Seal.mk (K18.out.step (hb))
        have K5 := Seal.mk (K5.out.step (hb))
        have K6 := Seal.mk (ko_isC hi.out)
        clear hk hi hb r18 rN K5
        obtain ⟨Y3, g26, hg, n_1, n_2, n_3, n_4, _, _⟩ := newv v6 #[.int .i64 0, .int .i64 0, .int .i64 0, .int .i64 0, .int .i64 0, .int .i64 0] SX 47
        have HB := Seal.mk (HB.out.trans ((n_4).mono HB.out.size))
        have KW := Seal.mk (KW.out.step (n_4))
        have K18 := Seal.mk (K18.out.step (n_4))
        have K6 := Seal.mk (K6.out.step (n_4))
        have K26 := Seal.mk n_3
        have hgn := hg.symm
        clear hg n_3 n_4
        have r26 := K26.out.at
        go_wp2_with (first | (refine wpList_load_mid_g (by kernel_rfl) 47 (.tmp 26) rfl g26 0 rfl SX _ r26 us rfl iSX ?_; (try simp only [Act.put, List.setIfInBounds_toArray, List.set_cons_zero, List.set_cons_succ])) | ((try rw [hgn]); refine wpList_store_row rfl 47 (.tmp 26) (.tmp 111) rfl g26 SX.toArray rfl rfl 47 _ n_2 (by simpa using iSX) HSX.out.2.1 HSX.out.2.2.1 ?_; rw [n_1]; clear n_1 n_2 hgn; (try simp only [Act.put])))
        obtain ⟨SY, hSY⟩ : ∃ L, L = rowL (fun j => offP S (F j)) := ⟨_, rfl⟩
        have hk : Calls Tryd.prog 13 #[.int .i64 S, .agg SX.toArray] Y3 fun e w' => e = .returned (.tuple #[.agg SY.toArray, .int .i64 0]) ∧ Below Y3.heap.size Y3 w' := by rw [HSX.out.1, hSY]; exact estrip_yes S F Y3 HSX.out.2.2.2.1 HR.out.1.1 HR.out.1.2
        have iSY : (Tryd.prog.info? 47).map (·.size) = some SY.length := by rw [hSY]; kernel_rfl
        have HSY : Seal (SY = rowL (fun j => offP S (F j)) ∧ (#[.int .i64 0, .int .i64 0, .int .i64 0, .int .i64 0, .int .i64 0, .int .i64 0] : Array Value).size = SY.toArray.size ∧ SY.toArray.all (·.oneCell') = true) := ⟨hSY, by rw [hSY]; rfl, by rw [hSY]; simp [rowL, Value.oneCell']⟩
        clear hSY
        refine hk.mono ?_
        rintro e v7 ⟨rfl, hb⟩
        have HB := Seal.mk (HB.out.trans ((hb).mono HB.out.size))
        have KW := Seal.mk (KW.out.step (hb))
        have K18 := Seal.mk (K18.out.step (hb))
        have K6 := Seal.mk (K6.out.step (hb))
        have K26 := Seal.mk (K26.out.step (hb))
        clear hk hb K26 r26
        obtain ⟨Y4, g28, hg, n_1, n_2, n_3, n_4, _, _⟩ := newv v7 #[.int .i64 0, .int .i64 0, .int .i64 0, .int .i64 0, .int .i64 0, .int .i64 0] SY 47
        have HB := Seal.mk (HB.out.trans ((n_4).mono HB.out.size))
        have KW := Seal.mk (KW.out.step (n_4))
        have K18 := Seal.mk (K18.out.step (n_4))
        have K6 := Seal.mk (K6.out.step (n_4))
        have K28 := Seal.mk n_3
        have hgn := hg.symm
        clear hg n_3 n_4
        have r28 := K28.out.at
        go_wp2_with (first | (refine wpList_load_mid_g (by kernel_rfl) 47 (.tmp 28) rfl g28 0 rfl SY _ r28 us rfl iSY ?_; (try simp only [Act.put, List.setIfInBounds_toArray, List.set_cons_zero, List.set_cons_succ])) | ((try rw [hgn]); refine wpList_store_row rfl 47 (.tmp 28) (.tmp 117) rfl g28 SY.toArray rfl rfl 47 _ n_2 (by simpa using iSY) HSY.out.2.1 HSY.out.2.2 ?_; rw [n_1]; clear n_1 n_2 hgn; (try simp only [Act.put])))
        have hk : Calls Tryd.prog 14 #[.agg SY.toArray] Y4 fun e w' => e = .returned (.tuple #[.agg [Value.int .i64 AL, .int .i64 U, .int .i64 V].toArray, .int .i64 0]) ∧ Below Y4.heap.size Y4 w' := by
          have h := eread_any (fun j => offP S (F j)) Y4 (fun j => offP_ok (HSX.out.2.2.2.1 j))
          rw [← HSY.out.1, HSX.out.2.2.2.2] at h
          rw [show nuB (offP S (rtL S AL r U V n0 n1 n2 0)).2 = AL from selP_read S _ HR.out.2.1.1 HR.out.2.1.2, show nuB (offP S (rtL S AL r U V n0 n1 n2 1)).2 = U from selP_read S _ HR.out.2.2.1.1 HR.out.2.2.1.2, show nuB (offP S (rtL S AL r U V n0 n1 n2 2)).2 = V from selP_read S _ HR.out.2.2.2.1.1 HR.out.2.2.2.1.2] at h
          exact h
        refine hk.mono ?_
        rintro e v8 ⟨rfl, hb⟩
        have HB := Seal.mk (HB.out.trans ((hb).mono HB.out.size))
        have KW := Seal.mk (KW.out.step (hb))
        have K18 := Seal.mk (K18.out.step (hb))
        have K6 := Seal.mk (K6.out.step (hb))
        have K28 := Seal.mk (K28.out.step (hb))
        clear hk hb K28 r28
        obtain ⟨Y5, g30, hg, n_1, n_2, n_3, n_4, _, _⟩ := newv v8 #[.int .i64 0, .int .i64 0, .int .i64 0] [.int .i64 AL, .int .i64 U, .int .i64 V] 52
        have HB := Seal.mk (HB.out.trans ((n_4).mono HB.out.size))
        have KW := Seal.mk (KW.out.step (n_4))
        have K18 := Seal.mk (K18.out.step (n_4))
        have K6 := Seal.mk (K6.out.step (n_4))
        have K30 := Seal.mk n_3
        have hgn := hg.symm
        clear hg n_3 n_4
        have r18 := K18.out.at
        have rN := KW.out.at.2
        go_wp2_with (first | (refine wpList_load_mid_g (by kernel_rfl) 31 (.tmp 18) rfl g18 0 rfl [Value.int .i64 U, .int .i64 V] _ r18 u2 rfl i2 ?_; (try simp only [Act.put, List.setIfInBounds_toArray, List.set_cons_zero, List.set_cons_succ])) | (refine wpList_load_mid_g (by kernel_rfl) 26 (.tmp 15) rfl gn 0 rfl [Value.int .i64 n0, .int .i64 n1, .int .i64 n2] _ rN u3 rfl i3 ?_; (try simp only [Act.put, List.setIfInBounds_toArray, List.set_cons_zero, List.set_cons_succ])) | ((try rw [hgn]); refine wpList_store_row rfl 52 (.tmp 30) (.tmp 122) rfl g30 [Value.int .i64 AL, .int .i64 U, .int .i64 V].toArray rfl rfl 52 _ n_2 (by kernel_rfl) rfl (by simp [Value.oneCell']) ?_; rw [n_1]; clear n_1 n_2 hgn; (try simp only [Act.put])))
        have hk : Calls Tryd.prog 12 #[.slice a6 m6 c6, .int .i64 x, .agg [Value.int .i64 U, .int .i64 V].toArray, .agg [Value.int .i64 n0, .int .i64 n1, .int .i64 n2].toArray] Y5 (fun e w' => ∃ a n c, e = .returned (.tuple #[.slice a n c, .agg #[.int .i64 0, .int .i64 0, .int .i64 0, .int .i64 0, .int .i64 0, .int .i64 0], .int .i64 1]) ∧ Seal (IsC Ltr.C 38 w' a n c []) ∧ Below Y5.heap.size Y5 w') := by
          have h := ksend_any a6 m6 c6 l x U V n0 n1 n2 Y5 (HG.out _ HB.out) K6.out.at HOK.out HI.out.1 HI.out.2.1 HI.out.2.2
          rw [send_gone HC.out (by have := HE.out.2.2.1; rwa [HKK.out.2.2.2.2.2.2.2.1] at this)] at h
          exact h.mono fun e w' hp => sendPost_c hp
        refine hk.mono ?_
        rintro e v9 ⟨a9, m9, c9, rfl, hi, hb⟩
        have HB := Seal.mk (HB.out.trans ((hb).mono HB.out.size))
        have KW := Seal.mk (KW.out.step (hb))
        have K18 := Seal.mk (K18.out.step (hb))
        have K6 := Seal.mk (K6.out.step (hb))
        have K30 := Seal.mk (K30.out.step (hb))
        clear hk hi hb r18 rN
        obtain ⟨Y6, g33, hg, n_1, n_2, n_3, n_4, _, _⟩ := newv v9 #[.int .i64 0, .int .i64 0, .int .i64 0, .int .i64 0, .int .i64 0, .int .i64 0] [.int .i64 0, .int .i64 0, .int .i64 0, .int .i64 0, .int .i64 0, .int .i64 0] 47
        have HB := Seal.mk (HB.out.trans ((n_4).mono HB.out.size))
        have KW := Seal.mk (KW.out.step (n_4))
        have K18 := Seal.mk (K18.out.step (n_4))
        have K6 := Seal.mk (K6.out.step (n_4))
        have K30 := Seal.mk (K30.out.step (n_4))
        have K33 := Seal.mk n_3
        have hgn := hg.symm
        clear hg n_3 n_4
        have hk : Calls Tryd.prog 15 #[.slice a6 m6 c6, .slice a n c] Y6 fun e w' => e = .returned (.bool true) ∧ Below Y6.heap.size Y6 w' := by
          have h := rsameK_any a6 a m6 c6 n c l l Y6 K6.out.at (HL.out _ HB.out HN.out.1) (fun z hz => (HOK.out z hz).t32) (fun z hz => (HOK.out z hz).t32)
          rwa [decide_eq_true rfl] at h
        go_wp2_with ((try rw [hgn]); refine wpList_store_row rfl 47 (.tmp 33) (.tmp 132) rfl g33 [Value.int .i64 0, .int .i64 0, .int .i64 0, .int .i64 0, .int .i64 0, .int .i64 0].toArray rfl rfl 47 _ n_2 (by kernel_rfl) rfl (by simp [Value.oneCell']) ?_; rw [n_1]; clear n_1 n_2 hgn; (try simp only [Act.put]))
        clear K33
        refine hk.mono ?_
        rintro e v10 ⟨rfl, hb⟩
        have HB := Seal.mk (HB.out.trans ((hb).mono HB.out.size))
        have KW := Seal.mk (KW.out.step (hb))
        have K18 := Seal.mk (K18.out.step (hb))
        have K6 := Seal.mk (K6.out.step (hb))
        have K30 := Seal.mk (K30.out.step (hb))
        clear hk hb
        have r30 := K30.out.at
        have c18 : v10.cell? ⟨g18, 0, none⟩ = some (.int .i64 U) := by have := K18.out.at 0 _ rfl; simpa using this
        have c19 : v10.cell? ⟨g18, 1, none⟩ = some (.int .i64 V) := by have := K18.out.at 1 _ rfl; simpa using this
        have i30 : (Tryd.prog.info? 52).map (·.size) = some ([Value.int .i64 AL, .int .i64 U, .int .i64 V] : List Value).length := by kernel_rfl
        have qw := fun w => eqWd_k AL U V w
        go_wp2_with (refine wpList_load_mid_g (by kernel_rfl) 52 (.tmp 30) rfl g30 0 rfl [Value.int .i64 AL, .int .i64 U, .int .i64 V] _ r30 uw rfl i30 ?_; (try simp only [Act.put, List.setIfInBounds_toArray, List.set_cons_zero, List.set_cons_succ]))
        go_ret
        exact ⟨rfl, HB.out⟩
end Frk
