/- Law 45: dead.Send. -/
import Derived.Test.YtemoomfnmiodeaaGreatDoorVuKix
namespace Frk
open Go Go.RowKit Go.Proofs
set_option maxRecDepth 100000

theorem results_mid {P : Program} {fn : Func} {p q r : Tmp} {ty : TypeId} (h : fn.results = #[.tmp q, .cell p ty, .tmp r]) (tmps : Array Value) (w : World) (g : Nat) (t : TypeId) (cs : Array Value) (fr : Nat × Nat) (d : TypeDesc) (v u : Value)
    (hp : tmps.getD p undef = .pointer (some ⟨g, 0, none⟩)) (hq : tmps.getD q undef = v) (hr : tmps.getD r undef = u) (hg : w.heap[g]? = some (.cells cs t fr))
    (hu : P.underlying ty = some d) (hd : (match d with | .struct _ | .array _ _ => true | _ => false) = true) (hi : (P.info? ty).map (·.size) = some cs.size) :
    (results fn tmps).run P w = .ok (.tuple #[v, .agg cs, u]) w := by
  have hp' : tmps[p]?.getD undef = .pointer (some ⟨g, 0, none⟩) := by simpa using hp
  have hq' : tmps[q]?.getD undef = v := by simpa using hq
  have hr' : tmps[r]?.getD undef = u := by simpa using hr
  simp [results, h, hp', hq', hr', asAddr, run_loadVar_row w g t ty cs fr d hg hu hd hi]

def six (s : Z6) : List Value := [.int .i64 s.1, .int .i64 s.2.1, .int .i64 s.2.2.1, .int .i64 s.2.2.2.1, .int .i64 s.2.2.2.2.1, .int .i64 s.2.2.2.2.2]
/-- what Send returns -/
def SendPost (R : List Ltr × Z6 × Int) (w : World) (e : Ending) (w' : World) : Prop :=
  ∃ a c, e = .returned (.tuple #[.slice a R.1.length c, .agg (six R.2.1).toArray, .int .i64 R.2.2]) ∧ Seal (IsC Ltr.C 38 w' a R.1.length c R.1) ∧ Below w.heap.size w w'

theorem findIdx_fnd {l : List Ltr} {no : Int} : (fndK l no = none ∧ fstI (fun x => x.N == no) l = -1) ∨ ∃ k x, k < l.length ∧ l[k]? = some x ∧ x.N = no ∧ fndK l no = some x ∧ fstI (fun x => x.N == no) l = (k : Nat) := by
  cases h : hasK Ltr.N l no with
  | false =>
    left
    exact ⟨fndK_none.2 h, fstI_miss fun x hx => by have := hasK_not.1 h x hx; simpa using this⟩
  | true =>
    right
    cases hf : fndK l no with
    | none => rw [fndK_none.1 hf] at h; cases h
    | some x =>
      have hi : l.findIdx (fun x => decide (x.N = no)) < l.length := by
        rw [List.findIdx_lt_length]
        exact ⟨x, (fndK_some hf).1, by simp [(fndK_some hf).2]⟩
      have hx : l[l.findIdx (fun x => decide (x.N = no))]? = some x := by
        have h1 := hf
        unfold fndK at h1
        rw [List.find?_eq_getElem?_findIdx ] at h1
        exact h1
      refine ⟨_, x, hi, hx, (fndK_some hf).2, rfl, fstI_hit hx (by simp [(fndK_some hf).2]) fun j y hj hy => ?_⟩
      have := List.not_of_lt_findIdx hj
      obtain ⟨hjl, ey⟩ := List.getElem?_eq_some_iff.1 hy
      rw [ey] at this
      simpa using this

def Z6V : Array Value := #[.int .i64 0, .int .i64 0, .int .i64 0, .int .i64 0, .int .i64 0, .int .i64 0]
/-- what Send keeps in its variables -/
structure SnK (w : World) (no a b r0 r1 r2 : Int) (W : World) : Prop where
  bel : Below w.heap.size w W
  cno : W.cell? ⟨w.heap.size, 0, none⟩ = some (.int .i64 no)
  rw_ : W.rangeAt (w.heap.size + 1) 0 [.int .i64 a, .int .i64 b]
  rr : W.rangeAt (w.heap.size + 1 + 1) 0 [.int .i64 r0, .int .i64 r1, .int .i64 r2]
  rs : W.heap[w.heap.size + 1 + 1 + 1]? = some (.cells #[.int .i64 0, .int .i64 0, .int .i64 0, .int .i64 0, .int .i64 0, .int .i64 0] 44 (0, 0))
theorem SnK.step {w W W' : World} {no a b r0 r1 r2 : Int} (h : SnK w no a b r0 r1 r2 W) (hb : Below W.heap.size W W') : SnK w no a b r0 r1 r2 W' :=
  ⟨h.bel.trans (hb.mono h.bel.size), cell_below' hb h.cno, rangeAt_below' h.rw_ hb, rangeAt_below' h.rr hb, (hb.block _ (Array.getElem?_eq_some_iff.1 h.rs).1).trans h.rs⟩
theorem snK_new (w : World) (no a b r0 r1 r2 : Int) : SnK w no a b r0 r1 r2 ((((w.alloc (.cells #[.int .i64 no] 3)).alloc (.cells #[.int .i64 a, .int .i64 b] 41)).alloc (.cells #[.int .i64 r0, .int .i64 r1, .int .i64 r2] 42)).alloc (.cells #[.int .i64 0, .int .i64 0, .int .i64 0, .int .i64 0, .int .i64 0, .int .i64 0] 44)) := by
  obtain ⟨W1, h1⟩ : ∃ W, W = w.alloc (.cells #[.int .i64 no] 3) := ⟨_, rfl⟩
  obtain ⟨W2, h2⟩ : ∃ W, W = W1.alloc (.cells #[.int .i64 a, .int .i64 b] 41) := ⟨_, rfl⟩
  obtain ⟨W3, h3⟩ : ∃ W, W = W2.alloc (.cells #[.int .i64 r0, .int .i64 r1, .int .i64 r2] 42) := ⟨_, rfl⟩
  obtain ⟨W4, h4⟩ : ∃ W, W = W3.alloc (.cells #[.int .i64 0, .int .i64 0, .int .i64 0, .int .i64 0, .int .i64 0, .int .i64 0] 44) := ⟨_, rfl⟩
  rw [← h1, ← h2, ← h3, ← h4]
  have s1 : W1.heap.size = w.heap.size + 1 := by rw [h1, size_alloc]
  have s2 : W2.heap.size = w.heap.size + 1 + 1 := by rw [h2, size_alloc, s1]
  have s3 : W3.heap.size = w.heap.size + 1 + 1 + 1 := by rw [h3, size_alloc, s2]
  have b1 : Below w.heap.size w W1 := by rw [h1]; exact below_alloc _ _
  have b2 : Below W1.heap.size W1 W2 := by rw [h2]; exact below_alloc _ _
  have b3 : Below W2.heap.size W2 W3 := by rw [h3]; exact below_alloc _ _
  have b4 : Below W3.heap.size W3 W4 := by rw [h4]; exact below_alloc _ _
  have c1 : W1.cell? ⟨w.heap.size, 0, none⟩ = some (.int .i64 no) := by rw [h1, cell_of_row _ _ _ _ _ _ (heap_alloc_new w _)]; rfl
  have c2 : W2.rangeAt (w.heap.size + 1) 0 [.int .i64 a, .int .i64 b] := by rw [← s1, h2]; exact rangeAt_row (cs := [.int .i64 a, .int .i64 b]) (heap_alloc_new W1 _)
  have c3 : W3.rangeAt (w.heap.size + 1 + 1) 0 [.int .i64 r0, .int .i64 r1, .int .i64 r2] := by rw [← s2, h3]; exact rangeAt_row (cs := [.int .i64 r0, .int .i64 r1, .int .i64 r2]) (heap_alloc_new W2 _)
  have c4 : W4.heap[w.heap.size + 1 + 1 + 1]? = some (.cells #[.int .i64 0, .int .i64 0, .int .i64 0, .int .i64 0, .int .i64 0, .int .i64 0] 44 (0, 0)) := by rw [← s3, h4]; exact heap_alloc_new W3 _
  have b24 := b3.trans (b4.mono b3.size)
  have b14 := b2.trans (b24.mono b2.size)
  exact ⟨b1.trans (b14.mono b1.size), cell_below' b14 c1, rangeAt_below' c2 b24, rangeAt_below' c3 b4, c4⟩

set_option maxHeartbeats 4000000 in
theorem ksend_any (a : Option Addr) (n c : Nat) (l : List Ltr) (no wa wb r0 r1 r2 : Int) (w : World) (hG : Glob w) (hd : IsC Ltr.C 38 w a n c l) (hok : ∀ x ∈ l, x.ok) (h0 : I64 r0) (h1 : I64 r1) (h2 : I64 r2) :
    Calls Tryz.prog 15 #[.slice a n c, .int .i64 no, .agg #[.int .i64 wa, .int .i64 wb], .agg #[.int .i64 r0, .int .i64 r1, .int .i64 r2]] w (SendPost (sendF l no wa wb r0 r1 r2) w) := by
  obtain ⟨X, hX⟩ : ∃ X : World, X = (((w.alloc (.cells #[.int .i64 no] 3)).alloc (.cells #[.int .i64 wa, .int .i64 wb] 41)).alloc (.cells #[.int .i64 r0, .int .i64 r1, .int .i64 r2] 42)).alloc (.cells #[.int .i64 0, .int .i64 0, .int .i64 0, .int .i64 0, .int .i64 0, .int .i64 0] 44) := ⟨_, rfl⟩
  have HK : Seal (SnK w no wa wb r0 r1 r2 X) := ⟨by rw [hX]; exact snK_new w no wa wb r0 r1 r2⟩
  have HGl : Seal (∀ W, Below w.heap.size w W → Glob W) := ⟨fun W h => hG.below h⟩
  have HD : Seal (∀ W, Below w.heap.size w W → IsC Ltr.C 38 W a n c l) := ⟨fun W h => hd.below h⟩
  have HOK := Seal.mk hok
  have HI : Seal (I64 r0 ∧ I64 r1 ∧ I64 r2) := ⟨h0, h1, h2⟩
  have hll := hd.llen
  have hlm := hd.lmax
  obtain ⟨e0, he0⟩ : ∃ e, e = chkL l := ⟨_, rfl⟩
  have HC1 := Seal.mk (kchk_any a n c l X (HGl.out X HK.out.bel) (HD.out X HK.out.bel) hok)
  rw [← he0] at HC1
  have iS : Seal ((Tryz.prog.info? 44).map (·.size) = some (#[.int .i64 0, .int .i64 0, .int .i64 0, .int .i64 0, .int .i64 0, .int .i64 0] : Array Value).size) := ⟨by kernel_rfl⟩
  have iL : (Tryz.prog.info? 44).map (·.size) = some ([.int .i64 0, .int .i64 0, .int .i64 0, .int .i64 0, .int .i64 0, .int .i64 0] : List Value).length := by kernel_rfl
  have uS := Tryz.underlying44
  obtain ⟨RES, hRES⟩ : ∃ R, R = sendF l no wa wb r0 r1 r2 := ⟨_, rfl⟩
  rw [← hRES]
  clear hG hd hok h0 h1 h2
  by_cases hz : e0 = 0
  · subst hz
    have hc := he0.symm
    obtain ⟨q1, q2, q3⟩ := chkL_zero.1 hc
    have HIx : Seal (∀ W, SnK w no wa wb r0 r1 r2 W → Calls Tryz.prog 35 #[.slice a n c, .func (.func 36) #[] #[.pointer (some ⟨w.heap.size, 0, none⟩)]] W fun e w' => e = .returned (.int .i64 (fstI (fun x => x.N == no) l)) ∧ Below W.heap.size W w') := ⟨fun W h => kindex_same a n c l no w.heap.size W (HD.out W h.bel) (fun x hx => (HOK.out x hx).t32) h.cno⟩
    rcases findIdx_fnd (l := l) (no := no) with ⟨hf, hi⟩ | ⟨k, x, hk, hx, hxN, hf, hi⟩
    · rw [hi] at HIx
      have HR : Seal (RES = ([], (0, 0, 0, 0, 0, 0), 1)) := ⟨by rw [hRES]; unfold sendF; rw [if_neg (by rw [hc]; simp), hf]⟩
      clear hf hi hRES hc q1 q2 q3 he0
      go_enter Tryz.func15, Tryz.ntmps15
      go_upto_region 1 with (fail)
      rw [← hX]
      clear hX
      go_wp2_with fail
      refine HC1.out.mono ?_
      rintro e w1 ⟨rfl, hb⟩
      have HK1 := Seal.mk (HK.out.step hb)
      clear hb HC1 HK
      go_wp2_with fail
      refine (HIx.out w1 HK1.out).mono ?_
      rintro e w2 ⟨rfl, hb⟩
      have HK2 := Seal.mk (HK1.out.step hb)
      clear hb HK1 HIx
      go_wp2_with (refine wpList_store_row rfl 44 (.tmp 9) (.tmp 24) rfl (w.heap.size + 1 + 1 + 1) #[.int .i64 0, .int .i64 0, .int .i64 0, .int .i64 0, .int .i64 0, .int .i64 0] rfl rfl 44 _ HK2.out.rs iS.out rfl (by simp [Value.oneCell']) ?_)
      refine bodyPost_ret (results_mid (fn := Tryz.f15) rfl _ _ (w.heap.size + 1 + 1 + 1) 44 #[.int .i64 0, .int .i64 0, .int .i64 0, .int .i64 0, .int .i64 0, .int .i64 0] (0, 0) _ _ _ rfl rfl rfl (setRow_heap _ _ _ _ _ _ HK2.out.rs) Tryz.underlying44 rfl iS.out) rfl ?_
      exact ⟨none, 0, by rw [HR.out]; rfl, ⟨by rw [HR.out]; exact isC_nilK _⟩, below_row HK2.out.bel (by omega) _⟩
    · rw [hi] at HIx
      have ox := HOK.out x (List.mem_of_getElem? hx)
      obtain ⟨c0, d0, c1, d1, c2, d2, er, hU⟩ : ∃ c0 d0 c1 d1 c2 d2 er, useF (chkB x.L x.K x.P x.Q x.T) x.K x.P x.Q wa wb r0 r1 r2 = (c0, d0, c1, d1, c2, d2, er) := ⟨_, _, _, _, _, _, _, rfl⟩
      have HU : Seal (∀ W, Below w.heap.size w W → Calls Tryz.prog 23 #[.agg (retC x.L x.K x.P x.Q x.T).toArray, .agg #[.int .i64 wa, .int .i64 wb], .agg #[.int .i64 r0, .int .i64 r1, .int .i64 r2]] W fun e' w' => e' = .returned (.tuple #[.agg #[.int .i64 c0, .int .i64 d0, .int .i64 c1, .int .i64 d1, .int .i64 c2, .int .i64 d2], .int .i64 er]) ∧ Below W.heap.size W w') :=
        ⟨fun W h => ouse_any x.L x.K x.P x.Q wa wb r0 r1 r2 c0 d0 c1 d1 c2 d2 er x.T W (HGl.out W h) ox.l ox.k ox.p ox.q ox.t32 HI.out.1 HI.out.2.1 HI.out.2.2 ⟨hU⟩⟩
      have HR0 : Seal (er ≠ 0 → RES = ([], (0, 0, 0, 0, 0, 0), er)) := ⟨fun h => by rw [hRES]; unfold sendF; rw [if_neg (by rw [hc]; simp), hf]; dsimp only; rw [hU]; dsimp only; rw [if_pos h]⟩
      obtain ⟨L, hL⟩ : ∃ L, L = l.take k ++ l.drop (k + 1) := ⟨_, rfl⟩
      have HR1 : Seal (er = 0 → RES = (L, (c0, d0, c1, d1, c2, d2), 0)) := ⟨fun h => by rw [hRES]; unfold sendF; rw [if_neg (by rw [hc]; simp), hf]; dsimp only; rw [hU]; dsimp only; rw [if_neg (by rw [h]; simp), ← hxN, outK_at q3 hx, hL]⟩
      have HDel : Seal (∀ base gv cv W, OwnK W base (.slice (some ⟨gv, 0, none⟩) n cv) n l → base ≤ W.heap.size → Calls Tryz.prog 37 #[.slice (some ⟨gv, 0, none⟩) n cv, .int .i64 (k : Nat), .int .i64 ((k : Int) + 1)] W (KRes base L W)) := ⟨fun base gv cv W h1 h2 => by rw [hL]; exact kdelete_any base n k gv cv l W h1 hll (fun x hx => Ltr.C_len (HOK.out x hx).t32) (by omega) (by omega) h2⟩
      obtain ⟨CR, hCR⟩ : ∃ C, C = retC x.L x.K x.P x.Q x.T := ⟨_, rfl⟩
      have HRow : Seal (∃ g off, a = some ⟨g, off, none⟩ ∧ ∀ W, Below w.heap.size w W → W.rangeAt g (off + k * 38 + 2) CR) := ⟨by
        rcases (HD.out w (Below.refl _ _)).at_ with h | ⟨g, off, e, hr, hg⟩
        · omega
        · refine ⟨g, off, e, fun W hW => ?_⟩
          have r1 := rangeAt_below' (rangeC_row hr (HD.out w (Below.refl _ _)).each hx) hW
          have r2 := rangeAt_drop r1 2
          rw [show x.C.drop 2 = CR from by rw [hCR]; rfl] at r2
          exact r2⟩
      have iR : (Tryz.prog.info? 28).map (·.size) = some CR.length := by rw [hCR]; exact retC_info ox.t32
      rw [← hCR] at HU
      obtain ⟨g, off, rfl, hrow⟩ := HRow.out
      have HRow := Seal.mk hrow
      have u3 := Tryz.underlying28
      have u1 := Tryz.underlying41
      have u2 := Tryz.underlying42
      have i1 : (Tryz.prog.info? 41).map (·.size) = some ([.int .i64 wa, .int .i64 wb] : List Value).length := by kernel_rfl
      have i2 : (Tryz.prog.info? 42).map (·.size) = some ([.int .i64 r0, .int .i64 r1, .int .i64 r2] : List Value).length := by kernel_rfl
      have p1 : (k : Int) < (n : Int) := by omega
      have p2 : (0 : Int) ≤ (k : Int) := by omega
      have p3 : ¬ (k : Int) < 0 := by omega
      have p4 : IntKind.i64.wrap ((k : Int) + 1) = (k : Int) + 1 := IntWalk.i64_in _ (by omega)
      have HKN : Seal (k < n ∧ n ≤ 5000) := ⟨by omega, by omega⟩
      clear hf hi hRES hc q1 q2 q3 he0 hU hCR hrow hx hxN ox hk hL
      go_enter Tryz.func15, Tryz.ntmps15
      go_upto_region 1 with (fail)
      rw [← hX]
      clear hX
      go_wp2_with fail
      refine HC1.out.mono ?_
      rintro e w1 ⟨rfl, hb⟩
      have HK1 := Seal.mk (HK.out.step hb)
      clear hb HC1 HK
      go_wp2_with fail
      refine (HIx.out w1 HK1.out).mono ?_
      rintro e w2 ⟨rfl, hb⟩
      have HK2 := Seal.mk (HK1.out.step hb)
      clear hb HK1 HIx
      go_wp2_with fail
      refine wp_region_held_drew (S := fun W => Below w.heap.size w W ∧ W.rangeAt (w.heap.size + 1) 0 [.int .i64 wa, .int .i64 wb] ∧ W.rangeAt (w.heap.size + 1 + 1) 0 [.int .i64 r0, .int .i64 r1, .int .i64 r2]) (by kernel_rfl) (by have h := HK2.out.step (below_drewn_o w2); exact ⟨h.bel, h.rw_, h.rr⟩) (fun hHeld => ?_)
      obtain ⟨V, hV⟩ : ∃ V, V = w2.drew := ⟨_, rfl⟩
      have HKV : Seal (SnK w no wa wb r0 r1 r2 V) := ⟨by rw [hV]; exact HK2.out.step (below_drewn_o _)⟩
      rw [← hV] at hHeld ⊢
      clear hV HK2
      refine take_h 0 ?_ rfl (by kernel_rfl) (by kernel_rfl) (by kernel_rfl) (fun _ _ _ h => h) (Or.inl ⟨by kernel_rfl, ?_⟩) (by assumption) ?_
      rotate_left
      · (intro w hSw; (try dsimp only at hSw); go_simp; try (with_reducible rfl))
      try simp only [Act.put, List.setIfInBounds_toArray, List.set_cons_zero, List.set_cons_succ]
      refine take_h 1 ?_ rfl (by kernel_rfl) (by kernel_rfl) (by kernel_rfl) (fun _ _ _ h => h) (Or.inl ⟨by kernel_rfl, ?_⟩) (by assumption) ?_
      rotate_left
      · (intro w hSw; (try dsimp only at hSw); go_simp; try (with_reducible rfl))
      try simp only [Act.put, List.setIfInBounds_toArray, List.set_cons_zero, List.set_cons_succ]
      refine take_h 2 ?_ rfl (by kernel_rfl) (by kernel_rfl) (by kernel_rfl) (fun _ _ _ h => h) (Or.inl ⟨by kernel_rfl, ?_⟩) (by assumption) ?_
      rotate_left
      · (intro w hSw; (try dsimp only at hSw); go_simp; try (with_reducible rfl))
      try simp only [Act.put, List.setIfInBounds_toArray, List.set_cons_zero, List.set_cons_succ]
      refine take_h 3 ?_ rfl (by kernel_rfl) (by kernel_rfl) (by kernel_rfl) (fun _ _ _ h => h) (Or.inl ⟨by kernel_rfl, ?_⟩) (by assumption) ?_
      rotate_left
      · (intro w hSw; (try dsimp only at hSw); go_simp; try (with_reducible rfl))
      try simp only [Act.put, List.setIfInBounds_toArray, List.set_cons_zero, List.set_cons_succ]
      refine take_h 4 _ rfl (by kernel_rfl) (by kernel_rfl) (by kernel_rfl) (fun _ _ _ h => h) (yieldsIf_load_mid (by kernel_rfl) 28 (.tmp 29) rfl g (off + k * 38 + 2) rfl CR _ (fun w hSw => (HRow.out _ hSw.1)) u3 rfl iR) (by assumption) ?_
      try simp only [Act.put, List.setIfInBounds_toArray, List.set_cons_zero, List.set_cons_succ]
      refine take_h 5 _ rfl (by kernel_rfl) (by kernel_rfl) (by kernel_rfl) (fun _ _ _ h => h) (yieldsIf_load_mid (by kernel_rfl) 41 (.tmp 6) rfl (w.heap.size + 1) 0 rfl [.int .i64 wa, .int .i64 wb] _ (fun w hSw => hSw.2.1) u1 rfl i1) (by assumption) ?_
      try simp only [Act.put, List.setIfInBounds_toArray, List.set_cons_zero, List.set_cons_succ]
      refine take_h 6 _ rfl (by kernel_rfl) (by kernel_rfl) (by kernel_rfl) (fun _ _ _ h => h) (yieldsIf_load_mid (by kernel_rfl) 42 (.tmp 7) rfl (w.heap.size + 1 + 1) 0 rfl [.int .i64 r0, .int .i64 r1, .int .i64 r2] _ (fun w hSw => hSw.2.2) u2 rfl i2) (by assumption) ?_
      try simp only [Act.put, List.setIfInBounds_toArray, List.set_cons_zero, List.set_cons_succ]
      refine call_h 7 rfl (by kernel_rfl) 23 #[.agg CR.toArray, .agg #[.int .i64 wa, .int .i64 wb], .agg #[.int .i64 r0, .int .i64 r1, .int .i64 r2]] (by kernel_rfl) (by go_simp) ?_
      refine (HU.out V HKV.out.bel).mono ?_
      rintro e V1 ⟨rfl, hb⟩
      refine ⟨_, rfl, ⟨hHeld.1.trans (hb.mono hHeld.1.size), rangeAt_below' hHeld.2.1 hb, rangeAt_below' hHeld.2.2 hb⟩, fun hHeld1 => ?_⟩
      have HKV1 := Seal.mk (HKV.out.step hb)
      clear hHeld hb HKV
      try simp only [Act.put, List.setIfInBounds_toArray, List.set_cons_zero, List.set_cons_succ]
      refine take_h 8 ?_ rfl (by kernel_rfl) (by kernel_rfl) (by kernel_rfl) (fun _ _ _ h => h) (Or.inl ⟨by kernel_rfl, ?_⟩) (by assumption) ?_
      rotate_left
      · (intro w hSw; (try dsimp only at hSw); go_simp; try (with_reducible rfl))
      try simp only [Act.put, List.setIfInBounds_toArray, List.set_cons_zero, List.set_cons_succ]
      refine take_h 9 ?_ rfl (by kernel_rfl) (by kernel_rfl) (by kernel_rfl) (fun _ _ _ h => h) (Or.inl ⟨by kernel_rfl, ?_⟩) (by assumption) ?_
      rotate_left
      · (intro w hSw; (try dsimp only at hSw); go_simp; try (with_reducible rfl))
      try simp only [Act.put, List.setIfInBounds_toArray, List.set_cons_zero, List.set_cons_succ]
      refine take_h 10 ?_ rfl (by kernel_rfl) (by kernel_rfl) (by kernel_rfl) (fun _ _ _ h => h) (Or.inl ⟨by kernel_rfl, ?_⟩) (by assumption) ?_
      rotate_left
      · (intro w hSw; (try dsimp only at hSw); go_simp; try (with_reducible rfl))
      try simp only [Act.put, List.setIfInBounds_toArray, List.set_cons_zero, List.set_cons_succ]
      refine skip_h 11 (V1.setRow (w.heap.size + 1 + 1 + 1) #[.int .i64 c0, .int .i64 d0, .int .i64 c1, .int .i64 d1, .int .i64 c2, .int .i64 d2]) rfl (by kernel_rfl) (by kernel_rfl) (exec_store_row 44 (.tmp 9) (.tmp 34) rfl (w.heap.size + 1 + 1 + 1) #[.int .i64 c0, .int .i64 d0, .int .i64 c1, .int .i64 d1, .int .i64 c2, .int .i64 d2] rfl rfl 44 _ HKV1.out.rs iS.out rfl (by simp [Value.oneCell']))
        ⟨below_row hHeld1.1 (by omega) _, fun j u hu => (World.cell?_of_block (w := V1) (setRow_other V1 (w.heap.size + 1 + 1 + 1) (w.heap.size + 1) _ (by omega))).trans (hHeld1.2.1 j u hu), fun j u hu => (World.cell?_of_block (w := V1) (setRow_other V1 (w.heap.size + 1 + 1 + 1) (w.heap.size + 1 + 1) _ (by omega))).trans (hHeld1.2.2 j u hu)⟩ (fun hHeld2 => ?_)
      try simp only [Act.put]
      obtain ⟨Y, hY⟩ : ∃ Y, Y = V1.setRow (w.heap.size + 1 + 1 + 1) #[.int .i64 c0, .int .i64 d0, .int .i64 c1, .int .i64 d1, .int .i64 c2, .int .i64 d2] := ⟨_, rfl⟩
      have HY : Seal (Below w.heap.size w Y ∧ Y.heap[w.heap.size + 1 + 1 + 1]? = some (.cells #[.int .i64 c0, .int .i64 d0, .int .i64 c1, .int .i64 d1, .int .i64 c2, .int .i64 d2] 44 (0, 0))) := ⟨by rw [hY]; exact ⟨hHeld2.1, setRow_heap _ _ _ _ _ _ HKV1.out.rs⟩⟩
      rw [← hY] at hHeld2 ⊢
      clear hHeld1 hY HKV1
      refine take_h 12 ?_ rfl (by kernel_rfl) (by kernel_rfl) (by kernel_rfl) (fun _ _ _ h => h) (Or.inl ⟨by kernel_rfl, ?_⟩) (by assumption) ?_
      rotate_left
      · (intro w hSw; (try dsimp only at hSw); go_simp; try (with_reducible rfl))
      try simp only [Act.put, List.setIfInBounds_toArray, List.set_cons_zero, List.set_cons_succ]
      refine wpAnyH_done (by kernel_rfl) ?_ _
      clear hHeld2
      by_cases hz : er = 0
      · subst hz
        have HR := Seal.mk (HR1.out rfl)
        have hr6 := rangeAt_row (cs := [.int .i64 c0, .int .i64 d0, .int .i64 c1, .int .i64 d1, .int .i64 c2, .int .i64 d2]) HY.out.2
        have i6 : (Tryz.prog.info? 44).map (·.size) = some ([.int .i64 c0, .int .i64 d0, .int .i64 c1, .int .i64 d1, .int .i64 c2, .int .i64 d2] : List Value).length := by kernel_rfl
        clear HR0 HR1
        go_wp2_with fail
        refine wp_region_held_drew (S := fun W => W.rangeAt (w.heap.size + 1 + 1 + 1) 0 [.int .i64 c0, .int .i64 d0, .int .i64 c1, .int .i64 d1, .int .i64 c2, .int .i64 d2]) (by kernel_rfl) hr6 (fun hHeld => ?_)
        obtain ⟨Z, hZ⟩ : ∃ V, V = Y.drew := ⟨_, rfl⟩
        have HZ : Seal (Below w.heap.size w Z ∧ Z.heap[w.heap.size + 1 + 1 + 1]? = some (.cells #[.int .i64 c0, .int .i64 d0, .int .i64 c1, .int .i64 d1, .int .i64 c2, .int .i64 d2] 44 (0, 0))) := ⟨by rw [hZ]; exact ⟨HY.out.1.trans ((below_drewn_o _).mono HY.out.1.size), HY.out.2⟩⟩
        rw [← hZ] at hHeld ⊢
        clear hZ HY hr6
        refine take_h 0 ?_ rfl (by kernel_rfl) (by kernel_rfl) (by kernel_rfl) (fun _ _ _ h => h) (Or.inl ⟨by kernel_rfl, ?_⟩) (by assumption) ?_
        rotate_left
        · (intro w hSw; (try dsimp only at hSw); go_simp; try (with_reducible rfl))
        try simp only [Act.put, List.setIfInBounds_toArray, List.set_cons_zero, List.set_cons_succ]
        refine take_h 2 ?_ rfl (by kernel_rfl) (by kernel_rfl) (by kernel_rfl) (fun _ _ _ h => h) (Or.inl ⟨by kernel_rfl, ?_⟩) (by assumption) ?_
        rotate_left
        · (intro w hSw; (try dsimp only at hSw); go_simp; try (with_reducible rfl))
        try simp only [Act.put, List.setIfInBounds_toArray, List.set_cons_zero, List.set_cons_succ]
        refine take_h 3 ?_ rfl (by kernel_rfl) (by kernel_rfl) (by kernel_rfl) (fun _ _ _ h => h) (Or.inl ⟨by kernel_rfl, ?_⟩) (by assumption) ?_
        rotate_left
        · (intro w hSw; (try dsimp only at hSw); go_simp; try (with_reducible rfl))
        try simp only [Act.put, List.setIfInBounds_toArray, List.set_cons_zero, List.set_cons_succ]
        refine take_h 4 ?_ rfl (by kernel_rfl) (by kernel_rfl) (by kernel_rfl) (fun _ _ _ h => h) (Or.inl ⟨by kernel_rfl, ?_⟩) (by assumption) ?_
        rotate_left
        · (intro w hSw; (try dsimp only at hSw); go_simp; try (with_reducible rfl))
        try simp only [Act.put, List.setIfInBounds_toArray, List.set_cons_zero, List.set_cons_succ]
        refine take_h 6 _ rfl (by kernel_rfl) (by kernel_rfl) (by kernel_rfl) (fun _ _ _ h => h) (yieldsIf_load_mid (by kernel_rfl) 44 (.tmp 9) rfl (w.heap.size + 1 + 1 + 1) 0 rfl [.int .i64 c0, .int .i64 d0, .int .i64 c1, .int .i64 d1, .int .i64 c2, .int .i64 d2] _ (fun w hSw => hSw) uS rfl i6) (by assumption) ?_
        try simp only [Act.put, List.setIfInBounds_toArray, List.set_cons_zero, List.set_cons_succ]
        refine call_h 1 rfl (by kernel_rfl) 33 #[.slice (some ⟨g, off, none⟩) n c] (by kernel_rfl) (by go_simp) ?_
        refine (kclone_any (some ⟨g, off, none⟩) n c l Z (HD.out Z HZ.out.1)).mono ?_
        rintro e Z1 ⟨v, rfl, ho, hv, hb⟩
        refine ⟨_, rfl, rangeAt_below' hHeld hb, fun hHeld1 => ?_⟩
        have HZ1 : Seal (Below w.heap.size w Z1 ∧ Z1.heap[w.heap.size + 1 + 1 + 1]? = some (.cells #[.int .i64 c0, .int .i64 d0, .int .i64 c1, .int .i64 d1, .int .i64 c2, .int .i64 d2] 44 (0, 0)) ∧ Z.heap.size ≤ Z1.heap.size ∧ w.heap.size + 1 + 1 + 1 < Z.heap.size) := ⟨HZ.out.1.trans (hb.mono HZ.out.1.size), (hb.block _ (Array.getElem?_eq_some_iff.1 HZ.out.2).1).trans HZ.out.2, hb.size, (Array.getElem?_eq_some_iff.1 HZ.out.2).1⟩
        clear hHeld hb
        try simp only [Act.put, List.setIfInBounds_toArray, List.set_cons_zero, List.set_cons_succ]
        obtain ⟨gv, cv, rfl⟩ : ∃ gv cv, v = .slice (some ⟨gv, 0, none⟩) n cv := by
          rcases hv.out with ⟨_, h⟩ | ⟨gv, cv, e⟩
          · have := HKN.out.1; omega
          · exact ⟨gv, cv, e⟩
        clear hv
        refine call_h 5 rfl (by kernel_rfl) 37 #[.slice (some ⟨gv, 0, none⟩) n cv, .int .i64 (k : Nat), .int .i64 ((k : Int) + 1)] (by kernel_rfl) (by go_simp) ?_
        refine (HDel.out Z.heap.size gv cv Z1 ho.out HZ1.out.2.2.1).mono ?_
        rintro e Z2 ⟨aD, cD, rfl, hD, hb⟩
        refine ⟨_, rfl, rangeAt_below hHeld1 hb HZ1.out.2.2.2, fun hHeld2 => ?_⟩
        have HZ2 : Seal (Below w.heap.size w Z2 ∧ Z2.heap[w.heap.size + 1 + 1 + 1]? = some (.cells #[.int .i64 c0, .int .i64 d0, .int .i64 c1, .int .i64 d1, .int .i64 c2, .int .i64 d2] 44 (0, 0))) := ⟨HZ1.out.1.trans (hb.mono HZ.out.1.size), (hb.block _ HZ1.out.2.2.2).trans HZ1.out.2.1⟩
        clear hHeld1 hb ho
        try simp only [Act.put, List.setIfInBounds_toArray, List.set_cons_zero, List.set_cons_succ]
        refine take_h 7 ?_ rfl (by kernel_rfl) (by kernel_rfl) (by kernel_rfl) (fun _ _ _ h => h) (Or.inl ⟨by kernel_rfl, ?_⟩) (by assumption) ?_
        rotate_left
        · (intro w hSw; (try dsimp only at hSw); go_simp; try (with_reducible rfl))
        try simp only [Act.put, List.setIfInBounds_toArray, List.set_cons_zero, List.set_cons_succ]
        refine skip_h 8 (Z2.setRow (w.heap.size + 1 + 1 + 1) #[.int .i64 c0, .int .i64 d0, .int .i64 c1, .int .i64 d1, .int .i64 c2, .int .i64 d2]) rfl (by kernel_rfl) (by kernel_rfl) (exec_store_row 44 (.tmp 9) (.tmp 46) rfl (w.heap.size + 1 + 1 + 1) #[.int .i64 c0, .int .i64 d0, .int .i64 c1, .int .i64 d1, .int .i64 c2, .int .i64 d2] rfl rfl 44 _ HZ2.out.2 iS.out rfl (by simp [Value.oneCell']))
          (rangeAt_row (cs := [.int .i64 c0, .int .i64 d0, .int .i64 c1, .int .i64 d1, .int .i64 c2, .int .i64 d2]) (setRow_heap _ _ _ _ _ _ HZ2.out.2)) (fun hHeld3 => ?_)
        try simp only [Act.put]
        refine take_h 9 ?_ rfl (by kernel_rfl) (by kernel_rfl) (by kernel_rfl) (fun _ _ _ h => h) (Or.inl ⟨by kernel_rfl, ?_⟩) (by assumption) ?_
        rotate_left
        · (intro w hSw; (try dsimp only at hSw); go_simp; try (with_reducible rfl))
        try simp only [Act.put, List.setIfInBounds_toArray, List.set_cons_zero, List.set_cons_succ]
        refine wpAnyH_done (by kernel_rfl) ?_ _
        clear hHeld2 hHeld3
        go_wp2
        refine bodyPost_ret (results_mid (fn := Tryz.f15) rfl _ _ (w.heap.size + 1 + 1 + 1) 44 #[.int .i64 c0, .int .i64 d0, .int .i64 c1, .int .i64 d1, .int .i64 c2, .int .i64 d2] (0, 0) _ _ _ rfl rfl rfl (setRow_heap _ _ _ _ _ _ HZ2.out.2) Tryz.underlying44 rfl iS.out) rfl ?_
        exact ⟨aD, cD, by rw [HR.out]; rfl, ⟨by
          rw [HR.out]
          exact hD.out.1.other _ (fun g o e => by have := hD.out.2 g o e; have := HZ1.out.2.2.2; omega)⟩, below_row HZ2.out.1 (by omega) _⟩
      · have HR := Seal.mk (HR0.out hz)
        clear HR0 HR1
        go_wp2_with (refine wpList_store_row rfl 44 (.tmp 9) (.tmp 38) rfl (w.heap.size + 1 + 1 + 1) #[.int .i64 0, .int .i64 0, .int .i64 0, .int .i64 0, .int .i64 0, .int .i64 0] rfl rfl 44 _ HY.out.2 iS.out rfl (by simp [Value.oneCell']) ?_)
        refine bodyPost_ret (results_mid (fn := Tryz.f15) rfl _ _ (w.heap.size + 1 + 1 + 1) 44 #[.int .i64 0, .int .i64 0, .int .i64 0, .int .i64 0, .int .i64 0, .int .i64 0] (0, 0) _ _ _ rfl rfl rfl (setRow_heap _ _ _ _ _ _ HY.out.2) Tryz.underlying44 rfl iS.out) rfl ?_
        exact ⟨none, 0, by rw [HR.out]; rfl, ⟨by rw [HR.out]; exact isC_nilK _⟩, below_row HY.out.1 (by omega) _⟩
  · have HR : Seal (RES = ([], (0, 0, 0, 0, 0, 0), e0)) := ⟨by rw [hRES]; unfold sendF; rw [if_pos (by rw [← he0]; exact hz), he0]⟩
    clear he0 hRES
    go_enter Tryz.func15, Tryz.ntmps15
    go_upto_region 1 with (fail)
    rw [← hX]
    clear hX
    go_wp2_with fail
    refine HC1.out.mono ?_
    rintro e w1 ⟨rfl, hb⟩
    have HK1 := Seal.mk (HK.out.step hb)
    clear hb HC1 HK
    go_wp2_with (refine wpList_store_row rfl 44 (.tmp 9) (.tmp 17) rfl (w.heap.size + 1 + 1 + 1) #[.int .i64 0, .int .i64 0, .int .i64 0, .int .i64 0, .int .i64 0, .int .i64 0] rfl rfl 44 _ HK1.out.rs iS.out rfl (by simp [Value.oneCell']) ?_)
    refine bodyPost_ret (results_mid (fn := Tryz.f15) rfl _ _ (w.heap.size + 1 + 1 + 1) 44 #[.int .i64 0, .int .i64 0, .int .i64 0, .int .i64 0, .int .i64 0, .int .i64 0] (0, 0) _ _ _ rfl rfl rfl (setRow_heap _ _ _ _ _ _ HK1.out.rs) Tryz.underlying44 rfl iS.out) rfl ?_
    exact ⟨none, 0, by rw [HR.out]; rfl, ⟨by rw [HR.out]; exact isC_nilK _⟩, below_row HK1.out.bel (by omega) _⟩
end Frk
