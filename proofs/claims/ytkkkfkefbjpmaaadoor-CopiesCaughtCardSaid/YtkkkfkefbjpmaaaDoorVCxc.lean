/- Law 51: the reference's Find and Trust, equal lists, the examples: joined. -/
import Derived.Test.YtkkkfkefbjpmaaaDoorVCxb
import Derived.Test.YtkkkfkefbjpmaaaDoorVExs
namespace Frk
open Go Go.RowKit Go.Proofs
set_option maxRecDepth 100000

/-- the cells of a lie, or of none -/
def lieO (zl : List Value) : Option (Hd × Hd) → List Value
  | none => zl
  | some x => lieC x.1 x.2
/-- where the two loops are -/
structure LieR (s : List Hd) (o : Int) (zl : List Value) (g6 : Nat) (a : Option Addr) (n c : Nat) (w0 : World) (best : Option (Hd × Hd)) (W : World) : Prop where
  hs : IsHs W a n c s
  row : W.heap[g6]? = some (.cells (lieO zl best).toArray 74 (0, 0))
  z4 : ∃ z, W.heap[w0.heap.size]? = some (.cells z 74 (0, 0)) ∧ z.size = 84
  bel : Below w0.heap.size w0 W
  okb : ∀ x, best = some x → x.1.ok ∧ x.2.ok

theorem LieR.below {s : List Hd} {o : Int} {zl : List Value} {g6 n c : Nat} {a : Option Addr} {w0 W W' : World} {best : Option (Hd × Hd)} (h : LieR s o zl g6 a n c w0 best W) (hb : Below W.heap.size W W') : LieR s o zl g6 a n c w0 best W' :=
  ⟨h.hs.below hb, (hb.block _ (Array.getElem?_eq_some_iff.1 h.row).1).trans h.row, by obtain ⟨z, hz, hs⟩ := h.z4; exact ⟨z, (hb.block _ (Array.getElem?_eq_some_iff.1 hz).1).trans hz, hs⟩, h.bel.trans (hb.mono h.bel.size), h.okb⟩
theorem LieR.store {s : List Hd} {o : Int} {zl : List Value} {g6 n c : Nat} {a : Option Addr} {w0 W : World} {best : Option (Hd × Hd)} (h : LieR s o zl g6 a n c w0 best W) (hg : w0.heap.size < g6) (ha : ∀ g off, a = some ⟨g, off, none⟩ → 0 < n → g < w0.heap.size) (x y : Hd) (hx : x.ok) (hy : y.ok) :
    LieR s o zl g6 a n c w0 (some (x, y)) (W.setRow g6 (lieC x y).toArray) := by
  have k : ∀ j, j ≠ g6 → (W.setRow g6 (lieC x y).toArray).heap[j]? = W.heap[j]? := fun j hj => setRow_other W g6 j _ hj
  refine ⟨h.hs.same (fun g off h0 e _ => k g (by have := ha g off e h0; omega)) (by simp [World.setRow]), setRow_heap _ _ _ _ _ _ h.row, ?_, below_row h.bel (by omega) _, fun z hz => by cases hz; exact ⟨hx, hy⟩⟩
  obtain ⟨z, hz, hs⟩ := h.z4
  exact ⟨z, (k _ (by omega)).trans hz, hs⟩

end Frk

namespace Frk
open Go Go.RowKit Go.Proofs
set_option maxRecDepth 100000

end Frk

namespace Frk
open Go Go.RowKit Go.Proofs
set_option maxRecDepth 100000

set_option maxHeartbeats 1000000 in
theorem eqHand_at (d : Nat) (h g : Hd) (kh : h.T.length = 32) (kg : g.T.length = 32) (w : World) :
    (Op.equalIn (d + 1 + 1 + 1) 29 (.agg h.C.toArray) (.agg g.C.toArray)).run Tryd.prog w = .ok (hdB h g) w := by
  have a3 := Tryd.isAgg3
  have aR := Tryd.isAgg23
  have zR := Tryd.sizeOf23
  have aC := Tryd.isAgg27
  have zC := Tryd.sizeOf27
  have aD := Tryd.isAgg25
  have zD := Tryd.sizeOf25
  have hS : Tryd.prog.underlying 29 = some (.struct (Tryd.prog.fieldsOf 29)) := by kernel_rfl
  have hp : Tryd.prog.stoodInHeld 29 = false := by kernel_rfl
  have p0 : ∀ h : Hd, (part 23 h.C.toArray 0).run Tryd.prog w = .ok (.agg #[.int .i64 h.L, .int .i64 h.A, .int .i64 h.R]) w := fun h => by simp [part, aR, zR, Hd.C_run]
  have pi : ∀ (h : Hd) (i : Nat) (x : Int), h.C[i]? = some (.int .i64 x) → (part 3 h.C.toArray i).run Tryd.prog w = .ok (.int .i64 x) w := fun h i x e => by simp [part, a3, e]
  have p5 : ∀ h : Hd, h.T.length = 32 → (part 25 h.C.toArray 7).run Tryd.prog w = .ok (.agg (h.T.map B).toArray) w := fun h k => by
    have := Hd.C_text k
    simp [part, aD, zD, this]
  have p7 : ∀ h : Hd, h.T.length = 32 → (part 27 h.C.toArray 40).run Tryd.prog w = .ok (.agg #[.int .i64 h.E, .int .i64 h.S]) w := fun h k => by
    have := Hd.C_sig k
    simp [part, aC, zC, this]
  obtain ⟨a0, a1, a2, a3', a4, a5, a6⟩ := Hd.C_lo h
  obtain ⟨b0, b1, b2, b3, b4, b5, b6⟩ := Hd.C_lo g
  obtain ⟨a39, _, _⟩ := Hd.C_hi kh
  obtain ⟨b39, _, _⟩ := Hd.C_hi kg
  have q0 := p0 h
  have q3 := pi h 3 _ a3'
  have q4 := pi h 4 _ a4
  have q5 := pi h 5 _ a5
  have q6 := pi h 6 _ a6
  have q7 := p5 h kh
  have q39 := pi h 39 _ a39
  have q40 := p7 h kh
  have r0 := p0 g
  have r3 := pi g 3 _ b3
  have r4 := pi g 4 _ b4
  have r5 := pi g 5 _ b5
  have r6 := pi g 6 _ b6
  have r7 := p5 g kg
  have r39 := pi g 39 _ b39
  have r40 := p7 g kg
  clear p0 pi p5 p7 a0 a1 a2 a3' a4 a5 a6 b0 b1 b2 b3 b4 b5 b6 a39 b39
  generalize h.C.toArray = C at *
  generalize g.C.toArray = D at *
  rw [run_equalIn_agg w (d + 1 + 1) 29 _ _ hS hp]
  simp only [Program.fieldsOf, Tryd.underlying29]
  rw [eqFields_s _ _ _ _ _ _ _ _ _ (by decide) q0 r0 (eqRun_at d _ _ _ _ _ _ w)]
  rw [eqFields_s _ _ _ _ _ _ _ _ _ (by decide) q3 r3 (eqInt_s (d + 1) _ _ w)]
  rw [eqFields_s _ _ _ _ _ _ _ _ _ (by decide) q4 r4 (eqInt_s (d + 1) _ _ w)]
  rw [eqFields_s _ _ _ _ _ _ _ _ _ (by decide) q5 r5 (eqInt_s (d + 1) _ _ w)]
  rw [eqFields_s _ _ _ _ _ _ _ _ _ (by decide) q6 r6 (eqInt_s (d + 1) _ _ w)]
  rw [eqFields_s _ _ _ _ _ _ _ _ _ (by decide) q7 r7 (eqDig_s d _ _ kh kg w)]
  rw [eqFields_s _ _ _ _ _ _ _ _ _ (by decide) q39 r39 (eqInt_s (d + 1) _ _ w)]
  rw [eqFields_s _ _ _ _ _ _ _ _ _ (by decide) q40 r40 (eqSig_at d _ _ _ _ w)]
  rw [eqEnd_s]
  unfold hdB
  generalize (h.L == g.L && (h.A == g.A && h.R == g.R)) = x0
  generalize (h.leg == g.leg) = x1
  generalize (h.fr == g.fr) = x2
  generalize (h.to == g.to) = x3
  generalize (h.mn == g.mn) = x4
  generalize (h.T == g.T) = x5
  generalize (h.tm == g.tm) = x6
  generalize (h.E == g.E && h.S == g.S) = x7
  cases x0 <;> cases x1 <;> cases x2 <;> cases x3 <;> cases x4 <;> cases x5 <;> cases x6 <;> cases x7 <;> rfl


def liB (x y : Hd × Hd) : Bool := hdB x.1 y.1 && hdB x.2 y.2
theorem liB_iff (x y : Hd × Hd) : liB x y = true ↔ x = y := by
  unfold liB
  rw [Bool.and_eq_true, hdB_iff, hdB_iff]
  exact ⟨fun h => Prod.ext h.1 h.2, fun h => by rw [h]; exact ⟨rfl, rfl⟩⟩
set_option maxHeartbeats 1000000 in
theorem eqLie_at (d : Nat) (x y : Hd × Hd) (k1 : x.1.T.length = 32) (k2 : x.2.T.length = 32) (k3 : y.1.T.length = 32) (k4 : y.2.T.length = 32) (w : World) :
    (Op.equalIn (d + 1 + 1 + 1 + 1) 74 (.agg (lieC x.1 x.2).toArray) (.agg (lieC y.1 y.2).toArray)).run Tryd.prog w = .ok (liB x y) w := by
  have aH := Tryd.isAgg29
  have zH := Tryd.sizeOf29
  have hS : Tryd.prog.underlying 74 = some (.struct (Tryd.prog.fieldsOf 74)) := by kernel_rfl
  have hp : Tryd.prog.stoodInHeld 74 = false := by kernel_rfl
  have p0 : ∀ a b : Hd, a.T.length = 32 → (part 29 (lieC a b).toArray 0).run Tryd.prog w = .ok (.agg a.C.toArray) w := fun a b ka => by
    have e : (lieC a b).take 42 = a.C := List.take_left' (Hd.C_len ka)
    simp [part, aH, zH, e]
  have p1 : ∀ a b : Hd, a.T.length = 32 → b.T.length = 32 → (part 29 (lieC a b).toArray 42).run Tryd.prog w = .ok (.agg b.C.toArray) w := fun a b ka kb => by
    have e : ((lieC a b).drop 42).take 42 = b.C := by
      unfold lieC
      rw [List.drop_left' (Hd.C_len ka)]
      exact List.take_of_length_le (by rw [Hd.C_len kb]; omega)
    have e2 : (lieC a b).toArray.extract 42 (42 + 42) = b.C.toArray := by
      apply Array.ext'
      simpa using e
    simp [part, aH, zH, e]
  have q0 := p0 x.1 x.2 k1
  have q1 := p1 x.1 x.2 k1 k2
  have r0 := p0 y.1 y.2 k3
  have r1 := p1 y.1 y.2 k3 k4
  clear p0 p1
  generalize (lieC x.1 x.2).toArray = C at *
  generalize (lieC y.1 y.2).toArray = D at *
  rw [run_equalIn_agg w (d + 1 + 1 + 1) 74 _ _ hS hp]
  simp only [Program.fieldsOf, Tryd.underlying74]
  rw [eqFields_s (d + 1 + 1 + 1) C D { name := "A", type := 29, offset := 0, embedded := false, tag := "", pkgPath := "", byteOffset := 0 } _ w _ _ _ (by decide) q0 r0 (eqHand_at d _ _ k1 k3 w)]
  rw [eqFields_s (d + 1 + 1 + 1) C D { name := "B", type := 29, offset := 42, embedded := false, tag := "", pkgPath := "", byteOffset := 112 } _ w _ _ _ (by decide) q1 r1 (eqHand_at d _ _ k2 k4 w)]
  rw [eqEnd_s]
  unfold liB
  generalize hdB x.1 y.1 = b0
  generalize hdB x.2 y.2 = b1
  cases b0 <;> cases b1 <;> rfl
theorem eqLie (x y : Hd × Hd) (k1 : x.1.T.length = 32) (k2 : x.2.T.length = 32) (k3 : y.1.T.length = 32) (k4 : y.2.T.length = 32) (w : World) :
    (Op.equalIn 10000 74 (.agg (lieC x.1 x.2).toArray) (.agg (lieC y.1 y.2).toArray)).run Tryd.prog w = .ok (liB x y) w := eqLie_at 9996 x y k1 k2 k3 k4 w

/-! ## Check -/
def chL (key : Int) (x y : Hd) : Bool := clB x y && (chB key x && chB key y)
set_option maxHeartbeats 2000000 in
theorem ccheckl_any (key : Int) (x y : Hd) (w : World) (kx : x.ok) (ky : y.ok) (hG : Glob w) : Calls Tryd.prog 38 #[.int .i64 key, .agg (lieC x y).toArray] w fun e w' => e = .returned (.bool (chL key x y)) ∧ Below w.heap.size w w' := by
  obtain ⟨CL, hCL⟩ : ∃ C, C = lieC x y := ⟨_, rfl⟩
  obtain ⟨CX, hCX⟩ : ∃ C, C = x.C := ⟨_, rfl⟩
  obtain ⟨CY, hCY⟩ : ∃ C, C = y.C := ⟨_, rfl⟩
  obtain ⟨X, hX⟩ : ∃ X : World, X = w.alloc (.cells CL.toArray 74) := ⟨_, rfl⟩
  have r0 : X.rangeAt w.heap.size 0 CL := by rw [hX]; exact rangeAt_row (heap_alloc_new _ _)
  have rX : X.rangeAt w.heap.size 0 CX := by
    have := rangeAt_take r0 42
    rwa [hCL, show (lieC x y).take 42 = x.C from List.take_left' (Hd.C_len kx.t32), ← hCX] at this
  have rY : X.rangeAt w.heap.size 42 CY := by
    have := rangeAt_drop r0 42
    rw [hCL, show (lieC x y).drop 42 = y.C from List.drop_left' (Hd.C_len kx.t32), ← hCY] at this
    simpa using this
  have HX : Seal (Below w.heap.size w X ∧ Glob X) := ⟨by rw [hX]; exact ⟨below_alloc _ _, hG.below (below_alloc _ _)⟩⟩
  have uH := Tryd.underlying29
  have iX : (Tryd.prog.info? 29).map (·.size) = some CX.length := by rw [hCX]; exact Hd.C_info kx.t32
  have iY : (Tryd.prog.info? 29).map (·.size) = some CY.length := by rw [hCY]; exact Hd.C_info ky.t32
  obtain ⟨cl, hcl⟩ : ∃ b, b = clB x y := ⟨_, rfl⟩
  obtain ⟨ca, hca⟩ : ∃ b, b = chB key x := ⟨_, rfl⟩
  obtain ⟨cb, hcb⟩ : ∃ b, b = chB key y := ⟨_, rfl⟩
  have HC1 : Seal (∀ W', Calls Tryd.prog 20 #[.agg CX.toArray, .agg CY.toArray] W' fun e w' => e = .returned (.bool cl) ∧ Below W'.heap.size W' w') := ⟨fun W' => by rw [hCX, hCY, hcl]; exact hclash_any x y W' kx.t32 ky.t32⟩
  have HC2 : Seal (∀ W', Glob W' → Calls Tryd.prog 15 #[.int .i64 key, .agg CX.toArray] W' fun e w' => e = .returned (.bool ca) ∧ Below W'.heap.size W' w') := ⟨fun W' hG => by rw [hCX, hca]; exact hcheck_any key x W' kx hG⟩
  have HC3 : Seal (∀ W', Glob W' → Calls Tryd.prog 15 #[.int .i64 key, .agg CY.toArray] W' fun e w' => e = .returned (.bool cb) ∧ Below W'.heap.size W' w') := ⟨fun W' hG => by rw [hCY, hcb]; exact hcheck_any key y W' ky hG⟩
  unfold chL
  rw [← hcl, ← hca, ← hcb, ← hCL]
  clear hCL hCX hCY r0 hcl hca hcb kx ky hG
  go_enter Tryd.func38, Tryd.ntmps38
  go_upto_region 1 with (fail)
  rw [← hX]
  clear hX
  go_wp2_with (first
    | (refine wpList_load_mid rfl 29 (.tmp 5) rfl w.heap.size 0 rfl CX _ rX uH rfl iX ?_; (try simp only [Act.put, List.setIfInBounds_toArray, List.set_cons_zero, List.set_cons_succ]))
    | (refine wpList_load_mid rfl 29 (.tmp 7) rfl w.heap.size 42 rfl CY _ rY uH rfl iY ?_; (try simp only [Act.put, List.setIfInBounds_toArray, List.set_cons_zero, List.set_cons_succ])))
  refine (HC1.out X).mono ?_
  rintro e V1 ⟨rfl, hb1⟩
  have rX1 := rangeAt_below' rX hb1
  have rY1 := rangeAt_below' rY hb1
  have HX1 : Seal (Below w.heap.size w V1 ∧ Glob V1) := ⟨HX.out.1.trans (hb1.mono HX.out.1.size), HX.out.2.below hb1⟩
  clear hb1 rX rY HX HC1
  cases cl with
  | false =>
    go_wp2
    go_ret
    exact ⟨rfl, HX1.out.1⟩
  | true =>
    go_wp2_with (refine wpList_load_mid_g (by kernel_rfl) 29 (.tmp 12) rfl w.heap.size 0 rfl CX _ rX1 uH rfl iX ?_; (try simp only [Act.put, List.setIfInBounds_toArray, List.set_cons_zero, List.set_cons_succ]))
    refine (HC2.out V1 HX1.out.2).mono ?_
    rintro e V2 ⟨rfl, hb2⟩
    have rY2 := rangeAt_below' rY1 hb2
    have HX2 : Seal (Below w.heap.size w V2 ∧ Glob V2) := ⟨HX1.out.1.trans (hb2.mono HX1.out.1.size), HX1.out.2.below hb2⟩
    clear hb2 rX1 rY1 HX1 HC2
    cases ca with
    | false =>
      go_wp2
      go_ret
      exact ⟨rfl, HX2.out.1⟩
    | true =>
      go_wp2_with (refine wpList_load_mid_g (by kernel_rfl) 29 (.tmp 18) rfl w.heap.size 42 rfl CY _ rY2 uH rfl iY ?_; (try simp only [Act.put, List.setIfInBounds_toArray, List.set_cons_zero, List.set_cons_succ]))
      refine (HC3.out V2 HX2.out.2).mono ?_
      rintro e V3 ⟨rfl, hb3⟩
      have HX3 : Seal (Below w.heap.size w V3) := ⟨HX2.out.1.trans (hb3.mono HX2.out.1.size)⟩
      clear hb3 rY2 HX2 HC3
      go_wp2
      go_ret
      exact ⟨by simp, HX3.out⟩
end Frk

namespace Frk
open Go Go.RowKit Go.Proofs
set_option maxRecDepth 100000

/-- a slice of lies -/
structure IsLs (w : World) (a : Option Addr) (n c : Nat) (L : List (Hd × Hd)) : Prop where
  llen : L.length = n
  lmax : n ≤ 5000
  each : ∀ x ∈ L, x.1.ok ∧ x.2.ok
  at_ : n = 0 ∨ ∃ g o, a = some ⟨g, o, none⟩ ∧ w.rangeAt g o (lcells L) ∧ g < w.heap.size
theorem IsLs.below {w w' : World} {a : Option Addr} {n c : Nat} {L : List (Hd × Hd)} (h : IsLs w a n c L) (hb : Below w.heap.size w w') : IsLs w' a n c L :=
  ⟨h.llen, h.lmax, h.each, by
    rcases h.at_ with h0 | ⟨g, o, e, hr, hg⟩
    · exact .inl h0
    · exact .inr ⟨g, o, e, rangeAt_below' hr hb, Nat.lt_of_lt_of_le hg hb.size⟩⟩
theorem isLs_own {w : World} {base : Nat} {v : Value} {L : List (Hd × Hd)} (h : w.ownsRow base 74 84 v L.length (lcells L)) (hok : ∀ x ∈ L, x.1.ok ∧ x.2.ok) (hm : L.length ≤ 5000) : ∃ a c, v = .slice a L.length c ∧ IsLs w a L.length c L := by
  obtain ⟨a, c, e, _, h2⟩ := ls_of_own h
  exact ⟨a, c, e, rfl, hm, hok, by
    rcases h2 with h0 | ⟨g, e, _, hg, hr⟩
    · exact .inl h0
    · exact .inr ⟨g, 0, e, hr, hg⟩⟩
theorem fnd_ok {ks : List Int} {l : List Hd} (hl : ∀ h ∈ l, h.ok) : ∀ x ∈ fnd ks l, x.1.ok ∧ x.2.ok := by
  intro x hx
  unfold fnd at hx
  split at hx
  · cases hx
  · unfold fndP at hx
    obtain ⟨o, _, ho⟩ := List.mem_filterMap.1 hx
    exact lies_ok hl ho
theorem fnd_len (ks : List Int) (l : List Hd) : (fnd ks l).length ≤ 24 := by
  unfold fnd
  split
  · simp
  · have := List.length_filterMap_le (fun (o : Nat) => fdF (sgd ks l) (o : Int)) (List.range ks.length)
    rw [List.length_range] at this
    unfold fndP; omega
theorem trs_ok {ks : List Int} {l : List Hd} (hl : ∀ h ∈ l, h.ok) : ∀ x ∈ trs ks l, x.ok := by
  intro x hx
  unfold trs at hx
  split at hx
  · cases hx
  · exact hl x (List.mem_filter.1 (List.mem_filter.1 hx).1).1
theorem trs_len (ks : List Int) (l : List Hd) : (trs ks l).length ≤ l.length := by
  unfold trs
  split
  · simp
  · exact Nat.le_trans (List.length_filter_le _ _) (List.length_filter_le _ _)

set_option maxHeartbeats 2000000 in
theorem rsame_eq (a b : Option Addr) (n c d : Nat) (L : List (Hd × Hd)) (w : World) (ha : IsLs w a n c L) (hb : IsLs w b n d L) :
    Calls Tryd.prog 40 #[.slice a n c, .slice b n d] w fun e w' => e = .returned (.bool true) ∧ Below w.heap.size w w' := by
  have hll := ha.llen
  have hmx := ha.lmax
  have HA := Seal.mk (And.intro ha hb)
  have uL := Tryd.underlying74
  have q0 : ((n : Int) != (n : Int)) = false := by simp
  clear ha hb
  go_enter Tryd.func40, Tryd.ntmps40
  go_wp2
  go_loopw [5] (fun i wr => ∃ (k : Nat), k ≤ n ∧ i = .int .i64 k ∧ Seal (Below w.heap.size w wr)) (fun i _ => n - (intOf i).toNat)
  case atStart => exact ⟨0, by omega, rfl, ⟨Below.refl _ _⟩⟩
  case round =>
    obtain ⟨wo, rfl⟩ : ∃ z, z = wr := ⟨_, rfl⟩
    obtain ⟨k, hk, rfl, hH⟩ := hrel
    by_cases hlt : k < n
    · have hA := HA.out.1.below hH.out
      have hB := HA.out.2.below hH.out
      rcases hA.at_ with hz | ⟨g, off, rfl, hr, hg⟩
      · omega
      · rcases hB.at_ with hz | ⟨g2, off2, rfl, hr2, hg2⟩
        · omega
        · obtain ⟨x, hx⟩ : ∃ x, L[k]? = some x := ⟨_, List.getElem?_eq_getElem (by omega)⟩
          have okx := hA.each x (List.mem_of_getElem? hx)
          have rX := rangeC_at hr (fun x hx => lieC_len (HA.out.1.each x hx).1.t32 (HA.out.1.each x hx).2.t32) hx
          have rY := rangeC_at hr2 (fun x hx => lieC_len (HA.out.1.each x hx).1.t32 (HA.out.1.each x hx).2.t32) hx
          obtain ⟨C, hC⟩ : ∃ C, C = lieC x.1 x.2 := ⟨_, rfl⟩
          have qe : ∀ w, (Op.equalIn 10000 74 (.agg C.toArray) (.agg C.toArray)).run Tryd.prog w = .ok true w := fun w => by rw [hC, eqLie x x okx.1.t32 okx.2.t32 okx.1.t32 okx.2.t32 w, (liB_iff x x).2 rfl]
          have iC : (Tryd.prog.info? 74).map (·.size) = some C.length := by rw [hC]; exact lieC_info okx.1.t32 okx.2.t32
          rw [← hC] at rX rY
          have q5 : (k : Int) < (n : Int) := by omega
          have q6 : (0 : Int) ≤ (k : Int) := by omega
          clear hA hB hr hg hr2 hg2 hx okx hC
          go_wp2_with fail
          refine wp_region_held_drew (S := fun w' => w'.rangeAt g (off + k * 84) C ∧ w'.rangeAt g2 (off2 + k * 84) C) (by kernel_rfl) ⟨rX, rY⟩ (fun hHeld => ?_)
          have HV : Seal (Below w.heap.size w wo.drew) := ⟨hH.out.trans ((below_drewn wo).mono hH.out.size)⟩
          obtain ⟨V, hV⟩ : ∃ V, V = wo.drew := ⟨_, rfl⟩
          rw [← hV] at hHeld HV ⊢
          clear hV rX rY hH
          refine take_h 0 ?_ rfl (by kernel_rfl) (by kernel_rfl) (by kernel_rfl) (fun _ _ _ h => h) (Or.inl ⟨by kernel_rfl, ?_⟩) (by assumption) ?_
          rotate_left
          · (intro w hSw; (try dsimp only at hSw); go_simp; try (with_reducible rfl))
          try simp only [Act.put, List.setIfInBounds_toArray, List.set_cons_zero, List.set_cons_succ]
          refine take_h 1 ?_ rfl (by kernel_rfl) (by kernel_rfl) (by kernel_rfl) (fun _ _ _ h => h) (Or.inl ⟨by kernel_rfl, ?_⟩) (by assumption) ?_
          rotate_left
          · (intro w hSw; (try dsimp only at hSw); go_simp; try (with_reducible rfl))
          try simp only [Act.put, List.setIfInBounds_toArray, List.set_cons_zero, List.set_cons_succ]
          refine take_h 2 ?_ rfl (by kernel_rfl) (by kernel_rfl) (by kernel_rfl) (fun _ _ _ h => h) (Or.inl ⟨by kernel_rfl, ?_⟩) (by assumption) ?_
          rotate_left
          · (intro w hSw; (try dsimp only at hSw); go_simp; try (with_reducible rfl))
          try simp only [Act.put, List.setIfInBounds_toArray, List.set_cons_zero, List.set_cons_succ]
          refine take_h 3 _ rfl (by kernel_rfl) (by kernel_rfl) (by kernel_rfl) (fun _ _ _ h => h) (yieldsIf_load_mid (by kernel_rfl) 74 (.tmp 19) rfl g (off + k * 84) rfl C _ (fun w hSw => hSw.1) uL rfl iC) (by assumption) ?_
          try simp only [Act.put, List.setIfInBounds_toArray, List.set_cons_zero, List.set_cons_succ]
          refine take_h 4 ?_ rfl (by kernel_rfl) (by kernel_rfl) (by kernel_rfl) (fun _ _ _ h => h) (Or.inl ⟨by kernel_rfl, ?_⟩) (by assumption) ?_
          rotate_left
          · (intro w hSw; (try dsimp only at hSw); go_simp; try (with_reducible rfl))
          try simp only [Act.put, List.setIfInBounds_toArray, List.set_cons_zero, List.set_cons_succ]
          refine take_h 5 ?_ rfl (by kernel_rfl) (by kernel_rfl) (by kernel_rfl) (fun _ _ _ h => h) (Or.inl ⟨by kernel_rfl, ?_⟩) (by assumption) ?_
          rotate_left
          · (intro w hSw; (try dsimp only at hSw); go_simp; try (with_reducible rfl))
          try simp only [Act.put, List.setIfInBounds_toArray, List.set_cons_zero, List.set_cons_succ]
          refine take_h 6 ?_ rfl (by kernel_rfl) (by kernel_rfl) (by kernel_rfl) (fun _ _ _ h => h) (Or.inl ⟨by kernel_rfl, ?_⟩) (by assumption) ?_
          rotate_left
          · (intro w hSw; (try dsimp only at hSw); go_simp; try (with_reducible rfl))
          try simp only [Act.put, List.setIfInBounds_toArray, List.set_cons_zero, List.set_cons_succ]
          refine take_h 7 _ rfl (by kernel_rfl) (by kernel_rfl) (by kernel_rfl) (fun _ _ _ h => h) (yieldsIf_load_mid (by kernel_rfl) 74 (.tmp 23) rfl g2 (off2 + k * 84) rfl C _ (fun w hSw => hSw.2) uL rfl iC) (by assumption) ?_
          try simp only [Act.put, List.setIfInBounds_toArray, List.set_cons_zero, List.set_cons_succ]
          refine take_h 8 ?_ rfl (by kernel_rfl) (by kernel_rfl) (by kernel_rfl) (fun _ _ _ h => h) (Or.inl ⟨by kernel_rfl, ?_⟩) (by assumption) ?_
          rotate_left
          · (intro w hSw; (try dsimp only at hSw); go_simp; try (with_reducible rfl))
          try simp only [Act.put, List.setIfInBounds_toArray, List.set_cons_zero, List.set_cons_succ]
          refine wpAnyH_done (by kernel_rfl) ?_ _
          clear hHeld
          go_wp2
          go_roundw
          case rel => exact ⟨k + 1, by omega, by go_num, HV⟩
          case measure => simp [intOf]; omega
    · obtain rfl : k = n := by omega
      have q5 : ¬ (k : Int) < (k : Int) := by omega
      go_wp2
      go_ret
      exact ⟨rfl, hH.out⟩
set_option maxHeartbeats 2000000 in
theorem rsameh_eq (a b : Option Addr) (n c d : Nat) (L : List (Hd)) (w : World) (ha : IsHs w a n c L) (hb : IsHs w b n d L) :
    Calls Tryd.prog 41 #[.slice a n c, .slice b n d] w fun e w' => e = .returned (.bool true) ∧ Below w.heap.size w w' := by
  have hll := ha.llen
  have hmx := ha.lmax
  have HA := Seal.mk (And.intro ha hb)
  have uL := Tryd.underlying29
  have q0 : ((n : Int) != (n : Int)) = false := by simp
  clear ha hb
  go_enter Tryd.func41, Tryd.ntmps41
  go_wp2
  go_loopw [5] (fun i wr => ∃ (k : Nat), k ≤ n ∧ i = .int .i64 k ∧ Seal (Below w.heap.size w wr)) (fun i _ => n - (intOf i).toNat)
  case atStart => exact ⟨0, by omega, rfl, ⟨Below.refl _ _⟩⟩
  case round =>
    obtain ⟨wo, rfl⟩ : ∃ z, z = wr := ⟨_, rfl⟩
    obtain ⟨k, hk, rfl, hH⟩ := hrel
    by_cases hlt : k < n
    · have hA := HA.out.1.below hH.out
      have hB := HA.out.2.below hH.out
      rcases hA.at_ with hz | ⟨g, off, rfl, hr, hg⟩
      · omega
      · rcases hB.at_ with hz | ⟨g2, off2, rfl, hr2, hg2⟩
        · omega
        · obtain ⟨x, hx⟩ : ∃ x, L[k]? = some x := ⟨_, List.getElem?_eq_getElem (by omega)⟩
          have okx := hA.each x (List.mem_of_getElem? hx)
          have rX := rangeC_at hr (fun x hx => Hd.C_len (HA.out.1.each x hx).t32) hx
          have rY := rangeC_at hr2 (fun x hx => Hd.C_len (HA.out.1.each x hx).t32) hx
          obtain ⟨C, hC⟩ : ∃ C, C = x.C := ⟨_, rfl⟩
          have qe : ∀ w, (Op.equalIn 10000 29 (.agg C.toArray) (.agg C.toArray)).run Tryd.prog w = .ok true w := fun w => by rw [hC, eqHand x x okx.t32 okx.t32 w, (hdB_iff x x).2 rfl]
          have iC : (Tryd.prog.info? 29).map (·.size) = some C.length := by rw [hC]; exact Hd.C_info okx.t32
          rw [← hC] at rX rY
          have q5 : (k : Int) < (n : Int) := by omega
          have q6 : (0 : Int) ≤ (k : Int) := by omega
          clear hA hB hr hg hr2 hg2 hx okx hC
          go_wp2_with fail
          refine wp_region_held_drew (S := fun w' => w'.rangeAt g (off + k * 42) C ∧ w'.rangeAt g2 (off2 + k * 42) C) (by kernel_rfl) ⟨rX, rY⟩ (fun hHeld => ?_)
          have HV : Seal (Below w.heap.size w wo.drew) := ⟨hH.out.trans ((below_drewn wo).mono hH.out.size)⟩
          obtain ⟨V, hV⟩ : ∃ V, V = wo.drew := ⟨_, rfl⟩
          rw [← hV] at hHeld HV ⊢
          clear hV rX rY hH
          refine take_h 0 ?_ rfl (by kernel_rfl) (by kernel_rfl) (by kernel_rfl) (fun _ _ _ h => h) (Or.inl ⟨by kernel_rfl, ?_⟩) (by assumption) ?_
          rotate_left
          · (intro w hSw; (try dsimp only at hSw); go_simp; try (with_reducible rfl))
          try simp only [Act.put, List.setIfInBounds_toArray, List.set_cons_zero, List.set_cons_succ]
          refine take_h 1 ?_ rfl (by kernel_rfl) (by kernel_rfl) (by kernel_rfl) (fun _ _ _ h => h) (Or.inl ⟨by kernel_rfl, ?_⟩) (by assumption) ?_
          rotate_left
          · (intro w hSw; (try dsimp only at hSw); go_simp; try (with_reducible rfl))
          try simp only [Act.put, List.setIfInBounds_toArray, List.set_cons_zero, List.set_cons_succ]
          refine take_h 2 ?_ rfl (by kernel_rfl) (by kernel_rfl) (by kernel_rfl) (fun _ _ _ h => h) (Or.inl ⟨by kernel_rfl, ?_⟩) (by assumption) ?_
          rotate_left
          · (intro w hSw; (try dsimp only at hSw); go_simp; try (with_reducible rfl))
          try simp only [Act.put, List.setIfInBounds_toArray, List.set_cons_zero, List.set_cons_succ]
          refine take_h 3 _ rfl (by kernel_rfl) (by kernel_rfl) (by kernel_rfl) (fun _ _ _ h => h) (yieldsIf_load_mid (by kernel_rfl) 29 (.tmp 19) rfl g (off + k * 42) rfl C _ (fun w hSw => hSw.1) uL rfl iC) (by assumption) ?_
          try simp only [Act.put, List.setIfInBounds_toArray, List.set_cons_zero, List.set_cons_succ]
          refine take_h 4 ?_ rfl (by kernel_rfl) (by kernel_rfl) (by kernel_rfl) (fun _ _ _ h => h) (Or.inl ⟨by kernel_rfl, ?_⟩) (by assumption) ?_
          rotate_left
          · (intro w hSw; (try dsimp only at hSw); go_simp; try (with_reducible rfl))
          try simp only [Act.put, List.setIfInBounds_toArray, List.set_cons_zero, List.set_cons_succ]
          refine take_h 5 ?_ rfl (by kernel_rfl) (by kernel_rfl) (by kernel_rfl) (fun _ _ _ h => h) (Or.inl ⟨by kernel_rfl, ?_⟩) (by assumption) ?_
          rotate_left
          · (intro w hSw; (try dsimp only at hSw); go_simp; try (with_reducible rfl))
          try simp only [Act.put, List.setIfInBounds_toArray, List.set_cons_zero, List.set_cons_succ]
          refine take_h 6 ?_ rfl (by kernel_rfl) (by kernel_rfl) (by kernel_rfl) (fun _ _ _ h => h) (Or.inl ⟨by kernel_rfl, ?_⟩) (by assumption) ?_
          rotate_left
          · (intro w hSw; (try dsimp only at hSw); go_simp; try (with_reducible rfl))
          try simp only [Act.put, List.setIfInBounds_toArray, List.set_cons_zero, List.set_cons_succ]
          refine take_h 7 _ rfl (by kernel_rfl) (by kernel_rfl) (by kernel_rfl) (fun _ _ _ h => h) (yieldsIf_load_mid (by kernel_rfl) 29 (.tmp 23) rfl g2 (off2 + k * 42) rfl C _ (fun w hSw => hSw.2) uL rfl iC) (by assumption) ?_
          try simp only [Act.put, List.setIfInBounds_toArray, List.set_cons_zero, List.set_cons_succ]
          refine take_h 8 ?_ rfl (by kernel_rfl) (by kernel_rfl) (by kernel_rfl) (fun _ _ _ h => h) (Or.inl ⟨by kernel_rfl, ?_⟩) (by assumption) ?_
          rotate_left
          · (intro w hSw; (try dsimp only at hSw); go_simp; try (with_reducible rfl))
          try simp only [Act.put, List.setIfInBounds_toArray, List.set_cons_zero, List.set_cons_succ]
          refine wpAnyH_done (by kernel_rfl) ?_ _
          clear hHeld
          go_wp2
          go_roundw
          case rel => exact ⟨k + 1, by omega, by go_num, HV⟩
          case measure => simp [intOf]; omega
    · obtain rfl : k = n := by omega
      have q5 : ¬ (k : Int) < (k : Int) := by omega
      go_wp2
      go_ret
      exact ⟨rfl, hH.out⟩
end Frk

namespace Frk
open Go Go.RowKit Go.Proofs
set_option maxRecDepth 100000

def kA : Hd := ⟨2, 10, 30, 1, 1, 0, 4, zb32, 12, 0, 0⟩
def kB : Hd := ⟨2, 10, 30, 1, 1, 0, 5, zb32, 12, 0, 0⟩
def kC : Hd := ⟨2, 10, 30, 0, 1, 0, 4, zb32, 12, 0, 0⟩
def sA : Hd := kA.sg 844474424 453798050
def sB : Hd := kB.sg 863833683 506595863
def sC : Hd := kC.sg 136584336 977872519
theorem ok_kA : kA.ok := ⟨rfl, by unfold I64; decide, by unfold I64; decide, by unfold I64; decide, by unfold I64; decide, by unfold I64; decide, by unfold I64; decide, by unfold I64; decide, by unfold I64; decide⟩
theorem ok_kB : kB.ok := ⟨rfl, by unfold I64; decide, by unfold I64; decide, by unfold I64; decide, by unfold I64; decide, by unfold I64; decide, by unfold I64; decide, by unfold I64; decide, by unfold I64; decide⟩
theorem ok_kC : kC.ok := ⟨rfl, by unfold I64; decide, by unfold I64; decide, by unfold I64; decide, by unfold I64; decide, by unfold I64; decide, by unfold I64; decide, by unfold I64; decide, by unfold I64; decide⟩
theorem ok_sA : sA.ok := ⟨ok_kA.1, ok_kA.2, ok_kA.3, ok_kA.4, ok_kA.5, ok_kA.6, ok_kA.7, ok_kA.8, ok_kA.9⟩
theorem ok_sB : sB.ok := ⟨ok_kB.1, ok_kB.2, ok_kB.3, ok_kB.4, ok_kB.5, ok_kB.6, ok_kB.7, ok_kB.8, ok_kB.9⟩
theorem ok_sC : sC.ok := ⟨ok_kC.1, ok_kC.2, ok_kC.3, ok_kC.4, ok_kC.5, ok_kC.6, ok_kC.7, ok_kC.8, ok_kC.9⟩
theorem ok_hz : hz.ok := ⟨rfl, by unfold I64; decide, by unfold I64; decide, by unfold I64; decide, by unfold I64; decide, by unfold I64; decide, by unfold I64; decide, by unfold I64; decide, by unfold I64; decide⟩

theorem mk_of {h : Hd} {E : Nat} {S : Int} (hf : h.fm = true) (hE : sgE 3 h.tx = E) (hS : sgS 3 h.tx = S) : mkF 3 h = (h.sg E S, 0) := by
  unfold mkF
  rw [if_pos (by decide), if_pos hf, hE, hS]
theorem mk_A : mkF 3 kA = (sA, 0) := mk_of (by decide) (by rw [sgE_q]; decide +kernel) (by rw [sgS_q]; decide +kernel)
theorem mk_B : mkF 3 kB = (sB, 0) := mk_of (by decide) (by rw [sgE_q]; decide +kernel) (by rw [sgS_q]; decide +kernel)
theorem mk_C : mkF 3 kC = (sC, 0) := mk_of (by decide) (by rw [sgE_q]; decide +kernel) (by rw [sgS_q]; decide +kernel)
theorem ch_A : chB 64 sA = true := by unfold chB; rw [show sA.fm = true from by decide, Bool.true_and, vr_q]; decide +kernel
theorem ch_B : chB 64 sB = true := by unfold chB; rw [show sB.fm = true from by decide, Bool.true_and, vr_q]; decide +kernel
theorem ch_C : chB 64 sC = true := by unfold chB; rw [show sC.fm = true from by decide, Bool.true_and, vr_q]; decide +kernel
theorem sg_A : sgn [4, 64] sA = true := by unfold sgn; rw [show ([4, 64] : List Int).getD sA.fr.toNat 0 = 64 from rfl, ch_A]; decide
theorem sg_B : sgn [4, 64] sB = true := by unfold sgn; rw [show ([4, 64] : List Int).getD sB.fr.toNat 0 = 64 from rfl, ch_B]; decide
theorem sg_C : sgn [4, 64] sC = true := by unfold sgn; rw [show ([4, 64] : List Int).getD sC.fr.toNat 0 = 64 from rfl, ch_C]; decide
theorem sgd_all {ks : List Int} {l : List Hd} (h : ∀ x ∈ l, sgn ks x = true) : sgd ks l = l := List.filter_eq_self.2 h

theorem cl_AB : clB sA sB = true := by decide
theorem cl_AC : clB sA sC = false := by decide
theorem cl_BC : clB sB sC = false := by decide
theorem fd_none {s : List Hd} (hs : ∀ x ∈ s, x.fm = true) (h : ∀ a ∈ s, ∀ b ∈ s, clB a b = false) (o : Int) : fdF s o = none :=
  (fdF_spec _ s rfl hs o).unique (r' := none) (fun a ha b hb _ => h a ha b hb)
theorem fnd_none {ks : List Int} {l : List Hd} (h : ∀ a ∈ l, ∀ b ∈ l, clB a b = false) : fnd ks l = [] := by
  unfold fnd
  split
  · rfl
  · unfold fndP
    refine List.filterMap_eq_nil_iff.2 (fun o _ => ?_)
    exact fd_none sgd_fm (fun a ha b hb => h a (List.mem_filter.1 ha).1 b (List.mem_filter.1 hb).1) _
theorem lie_AB {s : List Hd} (hm : ∀ x ∈ s, x = sA ∨ x = sB ∨ x = sC) (h1 : s.find? (fun x => slB x sA) = some sA) (h2 : s.find? (fun x => clB sA x) = some sB) : fdF s 1 = some (sA, sB) := by
  refine (fdF_spec _ s rfl (fun x hx => ?_) 1).unique (r' := some (sA, sB)) ⟨rfl, h1, h2, fun a ha b hb _ hc => ?_⟩
  · rcases hm x hx with rfl | rfl | rfl <;> decide
  · rcases hm a ha with rfl | rfl | rfl
    · decide
    · decide
    · rcases hm b hb with rfl | rfl | rfl
      · rw [cq_comm, cl_AC] at hc; cases hc
      · rw [cq_comm, cl_BC] at hc; cases hc
      · rw [cq_self] at hc; cases hc
theorem fd_zero {s : List Hd} (hm : ∀ x ∈ s, x = sA ∨ x = sB ∨ x = sC) : fdF s 0 = none := by
  refine (fdF_spec _ s rfl (fun x hx => ?_) 0).unique (r' := none) (fun a ha b hb hf => ?_)
  · rcases hm x hx with rfl | rfl | rfl <;> decide
  · rcases hm a ha with rfl | rfl | rfl <;> exact absurd hf (by decide)
theorem abc {s : List Hd} (h : ∀ x ∈ s, x = sA ∨ x = sB ∨ x = sC) : sgd [4, 64] s = s := sgd_all (fun x hx => by
  rcases h x hx with rfl | rfl | rfl
  · exact sg_A
  · exact sg_B
  · exact sg_C)
theorem mem1 : ∀ x ∈ [sC, sA, sA, sB], x = sA ∨ x = sB ∨ x = sC := by intro x hx; simp at hx; rcases hx with h | h | h <;> simp [h]
theorem mem2 : ∀ x ∈ [sC, sA, sB], x = sA ∨ x = sB ∨ x = sC := by intro x hx; simp at hx; rcases hx with h | h | h <;> simp [h]
theorem mem3 : ∀ x ∈ [sA, sC], x = sA ∨ x = sB ∨ x = sC := by intro x hx; simp at hx; rcases hx with h | h <;> simp [h]
theorem ex_find : fnd [4, 64] [sC, sA, sA, sB] = [(sA, sB)] := by
  unfold fnd
  rw [if_neg (by decide)]
  unfold fndP
  rw [abc mem1]
  have e0 := fd_zero mem1
  have e1 := lie_AB mem1 (by kernel_rfl) (by kernel_rfl)
  simp [List.range_succ, e0, e1]
theorem ex_trust1 : trs [4, 64] [sC, sA, sB] = [] := by
  unfold trs
  rw [if_neg (by decide)]
  unfold trsP
  rw [abc mem2]
  have e1 := lie_AB mem2 (by kernel_rfl) (by kernel_rfl)
  refine List.filter_eq_nil_iff.2 (fun x hx => ?_)
  have : x.fr = 1 := by rcases mem2 x hx with rfl | rfl | rfl <;> rfl
  rw [this, e1]; simp
theorem ex_trust2 : trs [4, 64] [sA, sC] = [sA, sC] := by
  unfold trs
  rw [if_neg (by decide)]
  unfold trsP
  rw [abc mem3]
  refine List.filter_eq_self.2 (fun x hx => ?_)
  rw [fd_none (fun x hx => by rcases mem3 x hx with rfl | rfl | rfl <;> decide) (fun a ha b hb => by
    simp only [List.mem_cons, List.not_mem_nil, or_false] at ha hb
    rcases ha with rfl | rfl <;> rcases hb with rfl | rfl <;> first | exact cq_self _ | exact cl_AC | (rw [cq_comm]; exact cl_AC))]
  rfl
theorem ex_find2 : fnd [] [sA, sB] = [] := rfl
theorem ex_find3 : fnd [4, 4] [hz, sC, sC] = [] := fnd_none (fun a ha b hb => by
  simp only [List.mem_cons, List.not_mem_nil, or_false] at ha hb
  have h1 : clB hz sC = false := by decide
  rcases ha with rfl | rfl | rfl <;> rcases hb with rfl | rfl | rfl <;> first | exact cq_self _ | exact h1 | (rw [cq_comm]; exact h1))
theorem ex_trust3 (ks : List Int) (h : ks.length = 25) : trs ks [] = [] ∧ ler ks = 2 := ⟨by unfold trs; rw [h]; rfl, by unfold ler; rw [h]; rfl⟩
theorem ex_chk : chL 64 sA sB = true ∧ chL 64 sA sA = false ∧ chL 64 sA sC = false ∧ chL 64 hz hz = false := by
  unfold chL
  rw [cl_AB, ch_A, ch_B, cq_self, cl_AC, cq_self]
  exact ⟨rfl, rfl, rfl, rfl⟩
end Frk

namespace Frk
open Go Go.RowKit Go.Proofs
set_option maxRecDepth 100000

theorem isHs_new (w : World) (l : List Hd) (n : Nat) (hn : l.length = n) (ok : ∀ h ∈ l, h.ok) (hm : n ≤ 5000) (cs : List Value) (hc : cs = l.flatMap Hd.C) : IsHs (w.alloc (.cells cs.toArray 29)) (some ⟨w.heap.size, 0, none⟩) n n l :=
  ⟨hn, Nat.le_refl _, hm, by omega, ok, .inr ⟨w.heap.size, 0, rfl, by rw [hc]; exact rangeAt_row (heap_alloc_new w _), by rw [size_alloc]; omega⟩⟩
theorem isHs_nil (w : World) (a : Option Addr) (c : Nat) (hc : c ≤ 9223372036854775807) : IsHs w a 0 c [] := ⟨rfl, Nat.zero_le _, by decide, hc, by simp, .inl rfl⟩
theorem isKs_nil (w : World) (a : Option Addr) (c : Nat) (hc : c ≤ 9223372036854775807) : IsKs w a 0 c [] := ⟨rfl, Nat.zero_le _, by decide, hc, .inl rfl⟩


set_option maxHeartbeats 2000000 in
theorem signed51_A (w : World) (hG : Glob w) : Calls Tryd.prog 69 #[.int .i64 1, .int .i64 4] w fun e w' => e = .returned (.tuple #[.agg sA.C.toArray, .bool true]) ∧ Below w.heap.size w w' := by
  obtain ⟨X, hX⟩ : ∃ X : World, X = w.alloc (.cells (List.toArray (.int .i64 0 :: .int .i64 0 :: .int .i64 0 :: .int .i64 0 :: .int .i64 0 :: .int .i64 0 :: .int .i64 0 :: .int .u8 0 :: .int .u8 0 :: .int .u8 0 :: .int .u8 0 :: .int .u8 0 :: .int .u8 0 :: .int .u8 0 :: .int .u8 0 :: .int .u8 0 :: .int .u8 0 :: .int .u8 0 :: .int .u8 0 :: .int .u8 0 :: .int .u8 0 :: .int .u8 0 :: .int .u8 0 :: .int .u8 0 :: .int .u8 0 :: .int .u8 0 :: .int .u8 0 :: .int .u8 0 :: .int .u8 0 :: .int .u8 0 :: .int .u8 0 :: .int .u8 0 :: .int .u8 0 :: .int .u8 0 :: .int .u8 0 :: .int .u8 0 :: .int .u8 0 :: .int .u8 0 :: .int .u8 0 :: .int .i64 0 :: .int .i64 0 :: .int .i64 0 :: [] : List Value) : Array Value) 29) := ⟨_, rfl⟩
  have hXz : X.heap[w.heap.size]? = some (.cells (List.toArray (.int .i64 0 :: .int .i64 0 :: .int .i64 0 :: .int .i64 0 :: .int .i64 0 :: .int .i64 0 :: .int .i64 0 :: .int .u8 0 :: .int .u8 0 :: .int .u8 0 :: .int .u8 0 :: .int .u8 0 :: .int .u8 0 :: .int .u8 0 :: .int .u8 0 :: .int .u8 0 :: .int .u8 0 :: .int .u8 0 :: .int .u8 0 :: .int .u8 0 :: .int .u8 0 :: .int .u8 0 :: .int .u8 0 :: .int .u8 0 :: .int .u8 0 :: .int .u8 0 :: .int .u8 0 :: .int .u8 0 :: .int .u8 0 :: .int .u8 0 :: .int .u8 0 :: .int .u8 0 :: .int .u8 0 :: .int .u8 0 :: .int .u8 0 :: .int .u8 0 :: .int .u8 0 :: .int .u8 0 :: .int .u8 0 :: .int .i64 0 :: .int .i64 0 :: .int .i64 0 :: [] : List Value) : Array Value) 29 (0, 0)) := by rw [hX]; exact heap_alloc_new _ _
  have hXs : w.heap.size < X.heap.size := by rw [hX, size_alloc]; omega
  have hXb : Below w.heap.size w X := by rw [hX]; exact below_alloc _ _
  obtain ⟨CS, hCS⟩ : ∃ C, C = sA.C := ⟨_, rfl⟩
  have hm := hmake_any 3 kA X ok_kA (hG.below hXb)
  rw [mk_A] at hm
  rw [show kA.C.toArray = (List.toArray (.int .i64 2 :: .int .i64 10 :: .int .i64 30 :: .int .i64 1 :: .int .i64 1 :: .int .i64 0 :: .int .i64 4 :: .int .u8 0 :: .int .u8 0 :: .int .u8 0 :: .int .u8 0 :: .int .u8 0 :: .int .u8 0 :: .int .u8 0 :: .int .u8 0 :: .int .u8 0 :: .int .u8 0 :: .int .u8 0 :: .int .u8 0 :: .int .u8 0 :: .int .u8 0 :: .int .u8 0 :: .int .u8 0 :: .int .u8 0 :: .int .u8 0 :: .int .u8 0 :: .int .u8 0 :: .int .u8 0 :: .int .u8 0 :: .int .u8 0 :: .int .u8 0 :: .int .u8 0 :: .int .u8 0 :: .int .u8 0 :: .int .u8 0 :: .int .u8 0 :: .int .u8 0 :: .int .u8 0 :: .int .u8 0 :: .int .i64 12 :: .int .i64 0 :: .int .i64 0 :: [] : List Value) : Array Value) from by kernel_rfl] at hm
  rw [← hCS] at hm ⊢
  have HM := Seal.mk hm
  have iC : (Tryd.prog.info? 29).map (·.size) = some CS.length := by rw [hCS]; exact Hd.C_info ok_sA.t32
  have zC : (.int .i64 0 :: .int .i64 0 :: .int .i64 0 :: .int .i64 0 :: .int .i64 0 :: .int .i64 0 :: .int .i64 0 :: .int .u8 0 :: .int .u8 0 :: .int .u8 0 :: .int .u8 0 :: .int .u8 0 :: .int .u8 0 :: .int .u8 0 :: .int .u8 0 :: .int .u8 0 :: .int .u8 0 :: .int .u8 0 :: .int .u8 0 :: .int .u8 0 :: .int .u8 0 :: .int .u8 0 :: .int .u8 0 :: .int .u8 0 :: .int .u8 0 :: .int .u8 0 :: .int .u8 0 :: .int .u8 0 :: .int .u8 0 :: .int .u8 0 :: .int .u8 0 :: .int .u8 0 :: .int .u8 0 :: .int .u8 0 :: .int .u8 0 :: .int .u8 0 :: .int .u8 0 :: .int .u8 0 :: .int .u8 0 :: .int .i64 0 :: .int .i64 0 :: .int .i64 0 :: [] : List Value).length = CS.length := by rw [show CS.length = 42 from by rw [hCS, Hd.C_len ok_sA.t32]]; rfl
  have oC : ∀ v ∈ CS, v.oneCell' = true := by rw [hCS]; exact Hd.C_one _
  have HX := Seal.mk (And.intro hXz (And.intro hXs hXb))
  have uH := Tryd.underlying29
  have OC := Seal.mk (And.intro iC (And.intro zC oC))
  clear hm hCS hXz hXs hXb hG zC oC
  go_enter Tryd.func69, Tryd.ntmps69
  go_upto_region 1 with (fail)
  rw [← hX]
  clear hX
  go_wp2_with fail
  refine HM.out.mono ?_
  rintro e V1 ⟨rfl, hb⟩
  have r4 := blk hb HX.out.2.1 HX.out.1
  have HB1 : Seal (Below w.heap.size w V1 ∧ w.heap.size < V1.heap.size) := ⟨HX.out.2.2.trans (hb.mono HX.out.2.2.size), Nat.lt_of_lt_of_le HX.out.2.1 hb.size⟩
  clear hb HX HM
  go_wp2_with (first
    | (refine wpList_newvar rfl rfl 29 6 (.tmp 14) rfl rfl rfl (.int .i64 0 :: .int .i64 0 :: .int .i64 0 :: .int .i64 0 :: .int .i64 0 :: .int .i64 0 :: .int .i64 0 :: .int .u8 0 :: .int .u8 0 :: .int .u8 0 :: .int .u8 0 :: .int .u8 0 :: .int .u8 0 :: .int .u8 0 :: .int .u8 0 :: .int .u8 0 :: .int .u8 0 :: .int .u8 0 :: .int .u8 0 :: .int .u8 0 :: .int .u8 0 :: .int .u8 0 :: .int .u8 0 :: .int .u8 0 :: .int .u8 0 :: .int .u8 0 :: .int .u8 0 :: .int .u8 0 :: .int .u8 0 :: .int .u8 0 :: .int .u8 0 :: .int .u8 0 :: .int .u8 0 :: .int .u8 0 :: .int .u8 0 :: .int .u8 0 :: .int .u8 0 :: .int .u8 0 :: .int .u8 0 :: .int .i64 0 :: .int .i64 0 :: .int .i64 0 :: [] : List Value) CS (exec_alloc_hand rfl _) rfl rfl iC OC.out.2.1 OC.out.2.2 ?_; intro V2 hV2; have HB2 : Seal (Below w.heap.size w V2) := ⟨(by rw [hV2]; exact HB1.out.1.alloc HB1.out.1.size _)⟩; have r6 : V2.rangeAt V1.heap.size 0 CS := (by rw [hV2]; exact rangeAt_row (heap_alloc_new V1 _)); have r42 : V2.heap[w.heap.size]? = some (.cells (List.toArray (.int .i64 0 :: .int .i64 0 :: .int .i64 0 :: .int .i64 0 :: .int .i64 0 :: .int .i64 0 :: .int .i64 0 :: .int .u8 0 :: .int .u8 0 :: .int .u8 0 :: .int .u8 0 :: .int .u8 0 :: .int .u8 0 :: .int .u8 0 :: .int .u8 0 :: .int .u8 0 :: .int .u8 0 :: .int .u8 0 :: .int .u8 0 :: .int .u8 0 :: .int .u8 0 :: .int .u8 0 :: .int .u8 0 :: .int .u8 0 :: .int .u8 0 :: .int .u8 0 :: .int .u8 0 :: .int .u8 0 :: .int .u8 0 :: .int .u8 0 :: .int .u8 0 :: .int .u8 0 :: .int .u8 0 :: .int .u8 0 :: .int .u8 0 :: .int .u8 0 :: .int .u8 0 :: .int .u8 0 :: .int .u8 0 :: .int .i64 0 :: .int .i64 0 :: .int .i64 0 :: [] : List Value) : Array Value) 29 (0, 0)) := (by rw [hV2]; exact (Below.heap_alloc V1 _ _ HB1.out.2).trans r4); clear hV2 r4 HB1; obtain ⟨g6, hg6⟩ : ∃ g, g = V1.heap.size := ⟨_, rfl⟩; rw [← hg6] at r6 ⊢; clear hg6; (try simp only [Act.put, List.setIfInBounds_toArray, List.set_cons_zero, List.set_cons_succ]))
    | (refine wpList_load_mid rfl 29 (.tmp 6) rfl g6 0 rfl CS _ r6 uH rfl iC ?_; (try simp only [Act.put, List.setIfInBounds_toArray, List.set_cons_zero, List.set_cons_succ]))
    | (refine wpList_store_row rfl 29 (.tmp 4) (.tmp 16) rfl w.heap.size CS.toArray rfl rfl 29 (List.toArray (.int .i64 0 :: .int .i64 0 :: .int .i64 0 :: .int .i64 0 :: .int .i64 0 :: .int .i64 0 :: .int .i64 0 :: .int .u8 0 :: .int .u8 0 :: .int .u8 0 :: .int .u8 0 :: .int .u8 0 :: .int .u8 0 :: .int .u8 0 :: .int .u8 0 :: .int .u8 0 :: .int .u8 0 :: .int .u8 0 :: .int .u8 0 :: .int .u8 0 :: .int .u8 0 :: .int .u8 0 :: .int .u8 0 :: .int .u8 0 :: .int .u8 0 :: .int .u8 0 :: .int .u8 0 :: .int .u8 0 :: .int .u8 0 :: .int .u8 0 :: .int .u8 0 :: .int .u8 0 :: .int .u8 0 :: .int .u8 0 :: .int .u8 0 :: .int .u8 0 :: .int .u8 0 :: .int .u8 0 :: .int .u8 0 :: .int .i64 0 :: .int .i64 0 :: .int .i64 0 :: [] : List Value) : Array Value) r42 (by rw [List.size_toArray]; exact iC) (by rw [List.size_toArray]; exact OC.out.2.1) (all_oneCell_toArray OC.out.2.2) ?_; (try simp only [Act.put])))
  exact bodyPost_ret (results_row_tmp (fn := Tryd.f69) rfl _ _ w.heap.size 29 CS.toArray (0, 0) _ _ rfl rfl (setRow_heap _ _ _ _ _ _ r42) uH rfl (by rw [List.size_toArray]; exact iC)) rfl ⟨by simp, below_row HB2.out (Nat.le_refl _) _⟩


set_option maxHeartbeats 2000000 in
theorem signed51_B (w : World) (hG : Glob w) : Calls Tryd.prog 69 #[.int .i64 1, .int .i64 5] w fun e w' => e = .returned (.tuple #[.agg sB.C.toArray, .bool true]) ∧ Below w.heap.size w w' := by
  obtain ⟨X, hX⟩ : ∃ X : World, X = w.alloc (.cells (List.toArray (.int .i64 0 :: .int .i64 0 :: .int .i64 0 :: .int .i64 0 :: .int .i64 0 :: .int .i64 0 :: .int .i64 0 :: .int .u8 0 :: .int .u8 0 :: .int .u8 0 :: .int .u8 0 :: .int .u8 0 :: .int .u8 0 :: .int .u8 0 :: .int .u8 0 :: .int .u8 0 :: .int .u8 0 :: .int .u8 0 :: .int .u8 0 :: .int .u8 0 :: .int .u8 0 :: .int .u8 0 :: .int .u8 0 :: .int .u8 0 :: .int .u8 0 :: .int .u8 0 :: .int .u8 0 :: .int .u8 0 :: .int .u8 0 :: .int .u8 0 :: .int .u8 0 :: .int .u8 0 :: .int .u8 0 :: .int .u8 0 :: .int .u8 0 :: .int .u8 0 :: .int .u8 0 :: .int .u8 0 :: .int .u8 0 :: .int .i64 0 :: .int .i64 0 :: .int .i64 0 :: [] : List Value) : Array Value) 29) := ⟨_, rfl⟩
  have hXz : X.heap[w.heap.size]? = some (.cells (List.toArray (.int .i64 0 :: .int .i64 0 :: .int .i64 0 :: .int .i64 0 :: .int .i64 0 :: .int .i64 0 :: .int .i64 0 :: .int .u8 0 :: .int .u8 0 :: .int .u8 0 :: .int .u8 0 :: .int .u8 0 :: .int .u8 0 :: .int .u8 0 :: .int .u8 0 :: .int .u8 0 :: .int .u8 0 :: .int .u8 0 :: .int .u8 0 :: .int .u8 0 :: .int .u8 0 :: .int .u8 0 :: .int .u8 0 :: .int .u8 0 :: .int .u8 0 :: .int .u8 0 :: .int .u8 0 :: .int .u8 0 :: .int .u8 0 :: .int .u8 0 :: .int .u8 0 :: .int .u8 0 :: .int .u8 0 :: .int .u8 0 :: .int .u8 0 :: .int .u8 0 :: .int .u8 0 :: .int .u8 0 :: .int .u8 0 :: .int .i64 0 :: .int .i64 0 :: .int .i64 0 :: [] : List Value) : Array Value) 29 (0, 0)) := by rw [hX]; exact heap_alloc_new _ _
  have hXs : w.heap.size < X.heap.size := by rw [hX, size_alloc]; omega
  have hXb : Below w.heap.size w X := by rw [hX]; exact below_alloc _ _
  obtain ⟨CS, hCS⟩ : ∃ C, C = sB.C := ⟨_, rfl⟩
  have hm := hmake_any 3 kB X ok_kB (hG.below hXb)
  rw [mk_B] at hm
  rw [show kB.C.toArray = (List.toArray (.int .i64 2 :: .int .i64 10 :: .int .i64 30 :: .int .i64 1 :: .int .i64 1 :: .int .i64 0 :: .int .i64 5 :: .int .u8 0 :: .int .u8 0 :: .int .u8 0 :: .int .u8 0 :: .int .u8 0 :: .int .u8 0 :: .int .u8 0 :: .int .u8 0 :: .int .u8 0 :: .int .u8 0 :: .int .u8 0 :: .int .u8 0 :: .int .u8 0 :: .int .u8 0 :: .int .u8 0 :: .int .u8 0 :: .int .u8 0 :: .int .u8 0 :: .int .u8 0 :: .int .u8 0 :: .int .u8 0 :: .int .u8 0 :: .int .u8 0 :: .int .u8 0 :: .int .u8 0 :: .int .u8 0 :: .int .u8 0 :: .int .u8 0 :: .int .u8 0 :: .int .u8 0 :: .int .u8 0 :: .int .u8 0 :: .int .i64 12 :: .int .i64 0 :: .int .i64 0 :: [] : List Value) : Array Value) from by kernel_rfl] at hm
  rw [← hCS] at hm ⊢
  have HM := Seal.mk hm
  have iC : (Tryd.prog.info? 29).map (·.size) = some CS.length := by rw [hCS]; exact Hd.C_info ok_sB.t32
  have zC : (.int .i64 0 :: .int .i64 0 :: .int .i64 0 :: .int .i64 0 :: .int .i64 0 :: .int .i64 0 :: .int .i64 0 :: .int .u8 0 :: .int .u8 0 :: .int .u8 0 :: .int .u8 0 :: .int .u8 0 :: .int .u8 0 :: .int .u8 0 :: .int .u8 0 :: .int .u8 0 :: .int .u8 0 :: .int .u8 0 :: .int .u8 0 :: .int .u8 0 :: .int .u8 0 :: .int .u8 0 :: .int .u8 0 :: .int .u8 0 :: .int .u8 0 :: .int .u8 0 :: .int .u8 0 :: .int .u8 0 :: .int .u8 0 :: .int .u8 0 :: .int .u8 0 :: .int .u8 0 :: .int .u8 0 :: .int .u8 0 :: .int .u8 0 :: .int .u8 0 :: .int .u8 0 :: .int .u8 0 :: .int .u8 0 :: .int .i64 0 :: .int .i64 0 :: .int .i64 0 :: [] : List Value).length = CS.length := by rw [show CS.length = 42 from by rw [hCS, Hd.C_len ok_sB.t32]]; rfl
  have oC : ∀ v ∈ CS, v.oneCell' = true := by rw [hCS]; exact Hd.C_one _
  have HX := Seal.mk (And.intro hXz (And.intro hXs hXb))
  have uH := Tryd.underlying29
  have OC := Seal.mk (And.intro iC (And.intro zC oC))
  clear hm hCS hXz hXs hXb hG zC oC
  go_enter Tryd.func69, Tryd.ntmps69
  go_upto_region 1 with (fail)
  rw [← hX]
  clear hX
  go_wp2_with fail
  refine HM.out.mono ?_
  rintro e V1 ⟨rfl, hb⟩
  have r4 := blk hb HX.out.2.1 HX.out.1
  have HB1 : Seal (Below w.heap.size w V1 ∧ w.heap.size < V1.heap.size) := ⟨HX.out.2.2.trans (hb.mono HX.out.2.2.size), Nat.lt_of_lt_of_le HX.out.2.1 hb.size⟩
  clear hb HX HM
  go_wp2_with (first
    | (refine wpList_newvar rfl rfl 29 6 (.tmp 14) rfl rfl rfl (.int .i64 0 :: .int .i64 0 :: .int .i64 0 :: .int .i64 0 :: .int .i64 0 :: .int .i64 0 :: .int .i64 0 :: .int .u8 0 :: .int .u8 0 :: .int .u8 0 :: .int .u8 0 :: .int .u8 0 :: .int .u8 0 :: .int .u8 0 :: .int .u8 0 :: .int .u8 0 :: .int .u8 0 :: .int .u8 0 :: .int .u8 0 :: .int .u8 0 :: .int .u8 0 :: .int .u8 0 :: .int .u8 0 :: .int .u8 0 :: .int .u8 0 :: .int .u8 0 :: .int .u8 0 :: .int .u8 0 :: .int .u8 0 :: .int .u8 0 :: .int .u8 0 :: .int .u8 0 :: .int .u8 0 :: .int .u8 0 :: .int .u8 0 :: .int .u8 0 :: .int .u8 0 :: .int .u8 0 :: .int .u8 0 :: .int .i64 0 :: .int .i64 0 :: .int .i64 0 :: [] : List Value) CS (exec_alloc_hand rfl _) rfl rfl iC OC.out.2.1 OC.out.2.2 ?_; intro V2 hV2; have HB2 : Seal (Below w.heap.size w V2) := ⟨(by rw [hV2]; exact HB1.out.1.alloc HB1.out.1.size _)⟩; have r6 : V2.rangeAt V1.heap.size 0 CS := (by rw [hV2]; exact rangeAt_row (heap_alloc_new V1 _)); have r42 : V2.heap[w.heap.size]? = some (.cells (List.toArray (.int .i64 0 :: .int .i64 0 :: .int .i64 0 :: .int .i64 0 :: .int .i64 0 :: .int .i64 0 :: .int .i64 0 :: .int .u8 0 :: .int .u8 0 :: .int .u8 0 :: .int .u8 0 :: .int .u8 0 :: .int .u8 0 :: .int .u8 0 :: .int .u8 0 :: .int .u8 0 :: .int .u8 0 :: .int .u8 0 :: .int .u8 0 :: .int .u8 0 :: .int .u8 0 :: .int .u8 0 :: .int .u8 0 :: .int .u8 0 :: .int .u8 0 :: .int .u8 0 :: .int .u8 0 :: .int .u8 0 :: .int .u8 0 :: .int .u8 0 :: .int .u8 0 :: .int .u8 0 :: .int .u8 0 :: .int .u8 0 :: .int .u8 0 :: .int .u8 0 :: .int .u8 0 :: .int .u8 0 :: .int .u8 0 :: .int .i64 0 :: .int .i64 0 :: .int .i64 0 :: [] : List Value) : Array Value) 29 (0, 0)) := (by rw [hV2]; exact (Below.heap_alloc V1 _ _ HB1.out.2).trans r4); clear hV2 r4 HB1; obtain ⟨g6, hg6⟩ : ∃ g, g = V1.heap.size := ⟨_, rfl⟩; rw [← hg6] at r6 ⊢; clear hg6; (try simp only [Act.put, List.setIfInBounds_toArray, List.set_cons_zero, List.set_cons_succ]))
    | (refine wpList_load_mid rfl 29 (.tmp 6) rfl g6 0 rfl CS _ r6 uH rfl iC ?_; (try simp only [Act.put, List.setIfInBounds_toArray, List.set_cons_zero, List.set_cons_succ]))
    | (refine wpList_store_row rfl 29 (.tmp 4) (.tmp 16) rfl w.heap.size CS.toArray rfl rfl 29 (List.toArray (.int .i64 0 :: .int .i64 0 :: .int .i64 0 :: .int .i64 0 :: .int .i64 0 :: .int .i64 0 :: .int .i64 0 :: .int .u8 0 :: .int .u8 0 :: .int .u8 0 :: .int .u8 0 :: .int .u8 0 :: .int .u8 0 :: .int .u8 0 :: .int .u8 0 :: .int .u8 0 :: .int .u8 0 :: .int .u8 0 :: .int .u8 0 :: .int .u8 0 :: .int .u8 0 :: .int .u8 0 :: .int .u8 0 :: .int .u8 0 :: .int .u8 0 :: .int .u8 0 :: .int .u8 0 :: .int .u8 0 :: .int .u8 0 :: .int .u8 0 :: .int .u8 0 :: .int .u8 0 :: .int .u8 0 :: .int .u8 0 :: .int .u8 0 :: .int .u8 0 :: .int .u8 0 :: .int .u8 0 :: .int .u8 0 :: .int .i64 0 :: .int .i64 0 :: .int .i64 0 :: [] : List Value) : Array Value) r42 (by rw [List.size_toArray]; exact iC) (by rw [List.size_toArray]; exact OC.out.2.1) (all_oneCell_toArray OC.out.2.2) ?_; (try simp only [Act.put])))
  exact bodyPost_ret (results_row_tmp (fn := Tryd.f69) rfl _ _ w.heap.size 29 CS.toArray (0, 0) _ _ rfl rfl (setRow_heap _ _ _ _ _ _ r42) uH rfl (by rw [List.size_toArray]; exact iC)) rfl ⟨by simp, below_row HB2.out (Nat.le_refl _) _⟩


set_option maxHeartbeats 2000000 in
theorem signed51_C (w : World) (hG : Glob w) : Calls Tryd.prog 69 #[.int .i64 0, .int .i64 4] w fun e w' => e = .returned (.tuple #[.agg sC.C.toArray, .bool true]) ∧ Below w.heap.size w w' := by
  obtain ⟨X, hX⟩ : ∃ X : World, X = w.alloc (.cells (List.toArray (.int .i64 0 :: .int .i64 0 :: .int .i64 0 :: .int .i64 0 :: .int .i64 0 :: .int .i64 0 :: .int .i64 0 :: .int .u8 0 :: .int .u8 0 :: .int .u8 0 :: .int .u8 0 :: .int .u8 0 :: .int .u8 0 :: .int .u8 0 :: .int .u8 0 :: .int .u8 0 :: .int .u8 0 :: .int .u8 0 :: .int .u8 0 :: .int .u8 0 :: .int .u8 0 :: .int .u8 0 :: .int .u8 0 :: .int .u8 0 :: .int .u8 0 :: .int .u8 0 :: .int .u8 0 :: .int .u8 0 :: .int .u8 0 :: .int .u8 0 :: .int .u8 0 :: .int .u8 0 :: .int .u8 0 :: .int .u8 0 :: .int .u8 0 :: .int .u8 0 :: .int .u8 0 :: .int .u8 0 :: .int .u8 0 :: .int .i64 0 :: .int .i64 0 :: .int .i64 0 :: [] : List Value) : Array Value) 29) := ⟨_, rfl⟩
  have hXz : X.heap[w.heap.size]? = some (.cells (List.toArray (.int .i64 0 :: .int .i64 0 :: .int .i64 0 :: .int .i64 0 :: .int .i64 0 :: .int .i64 0 :: .int .i64 0 :: .int .u8 0 :: .int .u8 0 :: .int .u8 0 :: .int .u8 0 :: .int .u8 0 :: .int .u8 0 :: .int .u8 0 :: .int .u8 0 :: .int .u8 0 :: .int .u8 0 :: .int .u8 0 :: .int .u8 0 :: .int .u8 0 :: .int .u8 0 :: .int .u8 0 :: .int .u8 0 :: .int .u8 0 :: .int .u8 0 :: .int .u8 0 :: .int .u8 0 :: .int .u8 0 :: .int .u8 0 :: .int .u8 0 :: .int .u8 0 :: .int .u8 0 :: .int .u8 0 :: .int .u8 0 :: .int .u8 0 :: .int .u8 0 :: .int .u8 0 :: .int .u8 0 :: .int .u8 0 :: .int .i64 0 :: .int .i64 0 :: .int .i64 0 :: [] : List Value) : Array Value) 29 (0, 0)) := by rw [hX]; exact heap_alloc_new _ _
  have hXs : w.heap.size < X.heap.size := by rw [hX, size_alloc]; omega
  have hXb : Below w.heap.size w X := by rw [hX]; exact below_alloc _ _
  obtain ⟨CS, hCS⟩ : ∃ C, C = sC.C := ⟨_, rfl⟩
  have hm := hmake_any 3 kC X ok_kC (hG.below hXb)
  rw [mk_C] at hm
  rw [show kC.C.toArray = (List.toArray (.int .i64 2 :: .int .i64 10 :: .int .i64 30 :: .int .i64 0 :: .int .i64 1 :: .int .i64 0 :: .int .i64 4 :: .int .u8 0 :: .int .u8 0 :: .int .u8 0 :: .int .u8 0 :: .int .u8 0 :: .int .u8 0 :: .int .u8 0 :: .int .u8 0 :: .int .u8 0 :: .int .u8 0 :: .int .u8 0 :: .int .u8 0 :: .int .u8 0 :: .int .u8 0 :: .int .u8 0 :: .int .u8 0 :: .int .u8 0 :: .int .u8 0 :: .int .u8 0 :: .int .u8 0 :: .int .u8 0 :: .int .u8 0 :: .int .u8 0 :: .int .u8 0 :: .int .u8 0 :: .int .u8 0 :: .int .u8 0 :: .int .u8 0 :: .int .u8 0 :: .int .u8 0 :: .int .u8 0 :: .int .u8 0 :: .int .i64 12 :: .int .i64 0 :: .int .i64 0 :: [] : List Value) : Array Value) from by kernel_rfl] at hm
  rw [← hCS] at hm ⊢
  have HM := Seal.mk hm
  have iC : (Tryd.prog.info? 29).map (·.size) = some CS.length := by rw [hCS]; exact Hd.C_info ok_sC.t32
  have zC : (.int .i64 0 :: .int .i64 0 :: .int .i64 0 :: .int .i64 0 :: .int .i64 0 :: .int .i64 0 :: .int .i64 0 :: .int .u8 0 :: .int .u8 0 :: .int .u8 0 :: .int .u8 0 :: .int .u8 0 :: .int .u8 0 :: .int .u8 0 :: .int .u8 0 :: .int .u8 0 :: .int .u8 0 :: .int .u8 0 :: .int .u8 0 :: .int .u8 0 :: .int .u8 0 :: .int .u8 0 :: .int .u8 0 :: .int .u8 0 :: .int .u8 0 :: .int .u8 0 :: .int .u8 0 :: .int .u8 0 :: .int .u8 0 :: .int .u8 0 :: .int .u8 0 :: .int .u8 0 :: .int .u8 0 :: .int .u8 0 :: .int .u8 0 :: .int .u8 0 :: .int .u8 0 :: .int .u8 0 :: .int .u8 0 :: .int .i64 0 :: .int .i64 0 :: .int .i64 0 :: [] : List Value).length = CS.length := by rw [show CS.length = 42 from by rw [hCS, Hd.C_len ok_sC.t32]]; rfl
  have oC : ∀ v ∈ CS, v.oneCell' = true := by rw [hCS]; exact Hd.C_one _
  have HX := Seal.mk (And.intro hXz (And.intro hXs hXb))
  have uH := Tryd.underlying29
  have OC := Seal.mk (And.intro iC (And.intro zC oC))
  clear hm hCS hXz hXs hXb hG zC oC
  go_enter Tryd.func69, Tryd.ntmps69
  go_upto_region 1 with (fail)
  rw [← hX]
  clear hX
  go_wp2_with fail
  refine HM.out.mono ?_
  rintro e V1 ⟨rfl, hb⟩
  have r4 := blk hb HX.out.2.1 HX.out.1
  have HB1 : Seal (Below w.heap.size w V1 ∧ w.heap.size < V1.heap.size) := ⟨HX.out.2.2.trans (hb.mono HX.out.2.2.size), Nat.lt_of_lt_of_le HX.out.2.1 hb.size⟩
  clear hb HX HM
  go_wp2_with (first
    | (refine wpList_newvar rfl rfl 29 6 (.tmp 14) rfl rfl rfl (.int .i64 0 :: .int .i64 0 :: .int .i64 0 :: .int .i64 0 :: .int .i64 0 :: .int .i64 0 :: .int .i64 0 :: .int .u8 0 :: .int .u8 0 :: .int .u8 0 :: .int .u8 0 :: .int .u8 0 :: .int .u8 0 :: .int .u8 0 :: .int .u8 0 :: .int .u8 0 :: .int .u8 0 :: .int .u8 0 :: .int .u8 0 :: .int .u8 0 :: .int .u8 0 :: .int .u8 0 :: .int .u8 0 :: .int .u8 0 :: .int .u8 0 :: .int .u8 0 :: .int .u8 0 :: .int .u8 0 :: .int .u8 0 :: .int .u8 0 :: .int .u8 0 :: .int .u8 0 :: .int .u8 0 :: .int .u8 0 :: .int .u8 0 :: .int .u8 0 :: .int .u8 0 :: .int .u8 0 :: .int .u8 0 :: .int .i64 0 :: .int .i64 0 :: .int .i64 0 :: [] : List Value) CS (exec_alloc_hand rfl _) rfl rfl iC OC.out.2.1 OC.out.2.2 ?_; intro V2 hV2; have HB2 : Seal (Below w.heap.size w V2) := ⟨(by rw [hV2]; exact HB1.out.1.alloc HB1.out.1.size _)⟩; have r6 : V2.rangeAt V1.heap.size 0 CS := (by rw [hV2]; exact rangeAt_row (heap_alloc_new V1 _)); have r42 : V2.heap[w.heap.size]? = some (.cells (List.toArray (.int .i64 0 :: .int .i64 0 :: .int .i64 0 :: .int .i64 0 :: .int .i64 0 :: .int .i64 0 :: .int .i64 0 :: .int .u8 0 :: .int .u8 0 :: .int .u8 0 :: .int .u8 0 :: .int .u8 0 :: .int .u8 0 :: .int .u8 0 :: .int .u8 0 :: .int .u8 0 :: .int .u8 0 :: .int .u8 0 :: .int .u8 0 :: .int .u8 0 :: .int .u8 0 :: .int .u8 0 :: .int .u8 0 :: .int .u8 0 :: .int .u8 0 :: .int .u8 0 :: .int .u8 0 :: .int .u8 0 :: .int .u8 0 :: .int .u8 0 :: .int .u8 0 :: .int .u8 0 :: .int .u8 0 :: .int .u8 0 :: .int .u8 0 :: .int .u8 0 :: .int .u8 0 :: .int .u8 0 :: .int .u8 0 :: .int .i64 0 :: .int .i64 0 :: .int .i64 0 :: [] : List Value) : Array Value) 29 (0, 0)) := (by rw [hV2]; exact (Below.heap_alloc V1 _ _ HB1.out.2).trans r4); clear hV2 r4 HB1; obtain ⟨g6, hg6⟩ : ∃ g, g = V1.heap.size := ⟨_, rfl⟩; rw [← hg6] at r6 ⊢; clear hg6; (try simp only [Act.put, List.setIfInBounds_toArray, List.set_cons_zero, List.set_cons_succ]))
    | (refine wpList_load_mid rfl 29 (.tmp 6) rfl g6 0 rfl CS _ r6 uH rfl iC ?_; (try simp only [Act.put, List.setIfInBounds_toArray, List.set_cons_zero, List.set_cons_succ]))
    | (refine wpList_store_row rfl 29 (.tmp 4) (.tmp 16) rfl w.heap.size CS.toArray rfl rfl 29 (List.toArray (.int .i64 0 :: .int .i64 0 :: .int .i64 0 :: .int .i64 0 :: .int .i64 0 :: .int .i64 0 :: .int .i64 0 :: .int .u8 0 :: .int .u8 0 :: .int .u8 0 :: .int .u8 0 :: .int .u8 0 :: .int .u8 0 :: .int .u8 0 :: .int .u8 0 :: .int .u8 0 :: .int .u8 0 :: .int .u8 0 :: .int .u8 0 :: .int .u8 0 :: .int .u8 0 :: .int .u8 0 :: .int .u8 0 :: .int .u8 0 :: .int .u8 0 :: .int .u8 0 :: .int .u8 0 :: .int .u8 0 :: .int .u8 0 :: .int .u8 0 :: .int .u8 0 :: .int .u8 0 :: .int .u8 0 :: .int .u8 0 :: .int .u8 0 :: .int .u8 0 :: .int .u8 0 :: .int .u8 0 :: .int .u8 0 :: .int .i64 0 :: .int .i64 0 :: .int .i64 0 :: [] : List Value) : Array Value) r42 (by rw [List.size_toArray]; exact iC) (by rw [List.size_toArray]; exact OC.out.2.1) (all_oneCell_toArray OC.out.2.2) ?_; (try simp only [Act.put])))
  exact bodyPost_ret (results_row_tmp (fn := Tryd.f69) rfl _ _ w.heap.size 29 CS.toArray (0, 0) _ _ rfl rfl (setRow_heap _ _ _ _ _ _ r42) uH rfl (by rw [List.size_toArray]; exact iC)) rfl ⟨by simp, below_row HB2.out (Nat.le_refl _) _⟩

end Frk

namespace Frk
open Go Go.RowKit Go.Proofs
set_option maxRecDepth 100000

theorem hz_list : (.int .i64 0 :: .int .i64 0 :: .int .i64 0 :: .int .i64 0 :: .int .i64 0 :: .int .i64 0 :: .int .i64 0 :: .int .u8 0 :: .int .u8 0 :: .int .u8 0 :: .int .u8 0 :: .int .u8 0 :: .int .u8 0 :: .int .u8 0 :: .int .u8 0 :: .int .u8 0 :: .int .u8 0 :: .int .u8 0 :: .int .u8 0 :: .int .u8 0 :: .int .u8 0 :: .int .u8 0 :: .int .u8 0 :: .int .u8 0 :: .int .u8 0 :: .int .u8 0 :: .int .u8 0 :: .int .u8 0 :: .int .u8 0 :: .int .u8 0 :: .int .u8 0 :: .int .u8 0 :: .int .u8 0 :: .int .u8 0 :: .int .u8 0 :: .int .u8 0 :: .int .u8 0 :: .int .u8 0 :: .int .u8 0 :: .int .i64 0 :: .int .i64 0 :: .int .i64 0 :: [] : List Value) = hz.C := by kernel_rfl
theorem hz_lie : Tryd.zeroCells74 = (lieC hz hz).toArray := by kernel_rfl
theorem zl_size : (Value.agg Tryd.zeroCells74).cells.size = 84 := by kernel_rfl
theorem isLs_new (w : World) (L : List (Hd × Hd)) (n : Nat) (hn : L.length = n) (ok : ∀ x ∈ L, x.1.ok ∧ x.2.ok) (hm : n ≤ 5000) (cs : List Value) (hc : cs = lcells L) : IsLs (w.alloc (.cells cs.toArray 74)) (some ⟨w.heap.size, 0, none⟩) n n L :=
  ⟨hn, hm, ok, .inr ⟨w.heap.size, 0, rfl, by rw [← hc]; exact rangeAt_row (heap_alloc_new w _), by rw [size_alloc]; exact Nat.lt_succ_self _⟩⟩
theorem wpList_build_lie_g {ops : Array Oper} {rest : List Oper} {o : Oper} {a : Act} {w : World} {Q : Exit → Act → World → Prop} (hw : Region.wanted o (yielded ops a.tmps) = true) (x y : Operand) (ho : o.op = .build 74 #[(0, x), (1, y)])
    (A C : List Value) (hA : A.length = 42) (hC : C.length = 42) (hx : a.eval x = .agg A.toArray) (hy : a.eval y = .agg C.toArray) (h : wpList Tryd.prog ops Q rest (a.put o.dst (.agg (A ++ C).toArray)) w) :
    wpList Tryd.prog ops Q (o :: rest) a w :=
  wpList_wanted hw fun K hK' => by unfold Oper.wp; rw [exec_build_lie ho A C hA hC hx hy]; exact hK' _ _ h
theorem wpList_val_g {P : Program} {ops : Array Oper} {rest : List Oper} {o : Oper} {a : Act} {w : World} {Q : Exit → Act → World → Prop} (hw : Region.wanted o (yielded ops a.tmps) = true) (ty : TypeId) (ps : Array (Nat × Operand)) (_ho : o.op = .build ty ps) (v : Value) (hrun : (execOp a.eval o).run P w = .ok (.value v) w)
    (h : wpList P ops Q rest (a.put o.dst v) w) : wpList P ops Q (o :: rest) a w :=
  wpList_wanted hw fun K hK => by unfold Oper.wp; rw [hrun]; exact hK _ _ h
set_option maxHeartbeats 16000000 in
theorem sane51_any (w : World) (hG : Glob w) : Calls Tryd.prog 32 #[] w fun e w' => e = .returned (.bool true) ∧ Below w.heap.size w w' := by
  obtain ⟨CA, hCA⟩ : ∃ C, C = sA.C := ⟨_, rfl⟩
  obtain ⟨CB, hCB⟩ : ∃ C, C = sB.C := ⟨_, rfl⟩
  obtain ⟨CC, hCC⟩ : ∃ C, C = sC.C := ⟨_, rfl⟩
  have HC := Seal.mk (And.intro hCA (And.intro hCB hCC))
  have lA : CA.length = 42 := by rw [hCA, Hd.C_len ok_sA.t32]
  have FA : Seal ((Tryd.prog.info? 29).map (·.size) = some CA.length ∧ (.int .i64 0 :: .int .i64 0 :: .int .i64 0 :: .int .i64 0 :: .int .i64 0 :: .int .i64 0 :: .int .i64 0 :: .int .u8 0 :: .int .u8 0 :: .int .u8 0 :: .int .u8 0 :: .int .u8 0 :: .int .u8 0 :: .int .u8 0 :: .int .u8 0 :: .int .u8 0 :: .int .u8 0 :: .int .u8 0 :: .int .u8 0 :: .int .u8 0 :: .int .u8 0 :: .int .u8 0 :: .int .u8 0 :: .int .u8 0 :: .int .u8 0 :: .int .u8 0 :: .int .u8 0 :: .int .u8 0 :: .int .u8 0 :: .int .u8 0 :: .int .u8 0 :: .int .u8 0 :: .int .u8 0 :: .int .u8 0 :: .int .u8 0 :: .int .u8 0 :: .int .u8 0 :: .int .u8 0 :: .int .u8 0 :: .int .i64 0 :: .int .i64 0 :: .int .i64 0 :: [] : List Value).length = CA.length ∧ (∀ v ∈ CA, v.oneCell' = true)) := ⟨by rw [lA]; kernel_rfl, by rw [lA]; rfl, by rw [hCA]; exact Hd.C_one _⟩
  have lB : CB.length = 42 := by rw [hCB, Hd.C_len ok_sB.t32]
  have FB : Seal ((Tryd.prog.info? 29).map (·.size) = some CB.length ∧ (.int .i64 0 :: .int .i64 0 :: .int .i64 0 :: .int .i64 0 :: .int .i64 0 :: .int .i64 0 :: .int .i64 0 :: .int .u8 0 :: .int .u8 0 :: .int .u8 0 :: .int .u8 0 :: .int .u8 0 :: .int .u8 0 :: .int .u8 0 :: .int .u8 0 :: .int .u8 0 :: .int .u8 0 :: .int .u8 0 :: .int .u8 0 :: .int .u8 0 :: .int .u8 0 :: .int .u8 0 :: .int .u8 0 :: .int .u8 0 :: .int .u8 0 :: .int .u8 0 :: .int .u8 0 :: .int .u8 0 :: .int .u8 0 :: .int .u8 0 :: .int .u8 0 :: .int .u8 0 :: .int .u8 0 :: .int .u8 0 :: .int .u8 0 :: .int .u8 0 :: .int .u8 0 :: .int .u8 0 :: .int .u8 0 :: .int .i64 0 :: .int .i64 0 :: .int .i64 0 :: [] : List Value).length = CB.length ∧ (∀ v ∈ CB, v.oneCell' = true)) := ⟨by rw [lB]; kernel_rfl, by rw [lB]; rfl, by rw [hCB]; exact Hd.C_one _⟩
  have lC : CC.length = 42 := by rw [hCC, Hd.C_len ok_sC.t32]
  have FC : Seal ((Tryd.prog.info? 29).map (·.size) = some CC.length ∧ (.int .i64 0 :: .int .i64 0 :: .int .i64 0 :: .int .i64 0 :: .int .i64 0 :: .int .i64 0 :: .int .i64 0 :: .int .u8 0 :: .int .u8 0 :: .int .u8 0 :: .int .u8 0 :: .int .u8 0 :: .int .u8 0 :: .int .u8 0 :: .int .u8 0 :: .int .u8 0 :: .int .u8 0 :: .int .u8 0 :: .int .u8 0 :: .int .u8 0 :: .int .u8 0 :: .int .u8 0 :: .int .u8 0 :: .int .u8 0 :: .int .u8 0 :: .int .u8 0 :: .int .u8 0 :: .int .u8 0 :: .int .u8 0 :: .int .u8 0 :: .int .u8 0 :: .int .u8 0 :: .int .u8 0 :: .int .u8 0 :: .int .u8 0 :: .int .u8 0 :: .int .u8 0 :: .int .u8 0 :: .int .u8 0 :: .int .i64 0 :: .int .i64 0 :: .int .i64 0 :: [] : List Value).length = CC.length ∧ (∀ v ∈ CC, v.oneCell' = true)) := ⟨by rw [lC]; kernel_rfl, by rw [lC]; rfl, by rw [hCC]; exact Hd.C_one _⟩
  have HSA : Seal (∀ W, Glob W → Calls Tryd.prog 69 #[.int .i64 1, .int .i64 4] W fun e w' => e = .returned (.tuple #[.agg CA.toArray, .bool true]) ∧ Below W.heap.size W w') := ⟨fun W h => by rw [hCA]; exact signed51_A W h⟩
  have HSB : Seal (∀ W, Glob W → Calls Tryd.prog 69 #[.int .i64 1, .int .i64 5] W fun e w' => e = .returned (.tuple #[.agg CB.toArray, .bool true]) ∧ Below W.heap.size W w') := ⟨fun W h => by rw [hCB]; exact signed51_B W h⟩
  have HSC : Seal (∀ W, Glob W → Calls Tryd.prog 69 #[.int .i64 0, .int .i64 4] W fun e w' => e = .returned (.tuple #[.agg CC.toArray, .bool true]) ∧ Below W.heap.size W w') := ⟨fun W h => by rw [hCC]; exact signed51_C W h⟩
  have HK1 : Seal (∀ W, Glob W → Calls Tryd.prog 38 #[.int .i64 64, .agg (CA ++ CB).toArray] W fun e w' => e = .returned (.bool true) ∧ Below W.heap.size W w') := ⟨fun W h => by
    have hq := ccheckl_any 64 sA sB W ok_sA ok_sB h
    rw [ex_chk.1] at hq
    rw [hCA, hCB]
    exact hq⟩
  have HK2 : Seal (∀ W, Glob W → Calls Tryd.prog 38 #[.int .i64 64, .agg (CA ++ CA).toArray] W fun e w' => e = .returned (.bool false) ∧ Below W.heap.size W w') := ⟨fun W h => by
    have hq := ccheckl_any 64 sA sA W ok_sA ok_sA h
    rw [ex_chk.2.1] at hq
    rw [hCA]
    exact hq⟩
  have HK3 : Seal (∀ W, Glob W → Calls Tryd.prog 38 #[.int .i64 64, .agg (CA ++ CC).toArray] W fun e w' => e = .returned (.bool false) ∧ Below W.heap.size W w') := ⟨fun W h => by
    have hq := ccheckl_any 64 sA sC W ok_sA ok_sC h
    rw [ex_chk.2.2.1] at hq
    rw [hCA, hCC]
    exact hq⟩
  have HKZ : Seal (∀ W, Glob W → Calls Tryd.prog 38 #[.int .i64 64, .agg Tryd.zeroCells74] W fun e w' => e = .returned (.bool false) ∧ Below W.heap.size W w') := ⟨fun W h => by
    have hq := ccheckl_any 64 hz hz W ok_hz ok_hz h
    rw [ex_chk.2.2.2] at hq
    rw [hz_lie]
    exact hq⟩
  have l42 : Seal (CA.length = 42 ∧ CB.length = 42 ∧ CC.length = 42) := ⟨lA, lB, lC⟩
  have uH := Tryd.underlying29
  have HB : Seal (Below w.heap.size w w) := ⟨Below.refl _ _⟩
  have HE : Seal (Env w none 0 0 [] []) := ⟨⟨hG, isB_nil w, by intro p hp; cases hp⟩⟩
  clear hCA hCB hCC lA lB lC hG
  go_enter Tryd.func32, Tryd.ntmps32
  go_wp2_with fail
  refine (HSA.out w HE.out.glob).mono ?_
  rintro e w1 ⟨rfl, hb⟩
  have HB2 := Seal.mk (HB.out.trans (hb.mono HB.out.size)); have HE2 := Seal.mk (HE.out.below hb); clear hb HB HE ; have HB := HB2; have HE := HE2; clear HB2 HE2
  go_wp2_with (refine wpList_newvar rfl rfl 29 1 (.tmp 22) rfl rfl rfl (.int .i64 0 :: .int .i64 0 :: .int .i64 0 :: .int .i64 0 :: .int .i64 0 :: .int .i64 0 :: .int .i64 0 :: .int .u8 0 :: .int .u8 0 :: .int .u8 0 :: .int .u8 0 :: .int .u8 0 :: .int .u8 0 :: .int .u8 0 :: .int .u8 0 :: .int .u8 0 :: .int .u8 0 :: .int .u8 0 :: .int .u8 0 :: .int .u8 0 :: .int .u8 0 :: .int .u8 0 :: .int .u8 0 :: .int .u8 0 :: .int .u8 0 :: .int .u8 0 :: .int .u8 0 :: .int .u8 0 :: .int .u8 0 :: .int .u8 0 :: .int .u8 0 :: .int .u8 0 :: .int .u8 0 :: .int .u8 0 :: .int .u8 0 :: .int .u8 0 :: .int .u8 0 :: .int .u8 0 :: .int .u8 0 :: .int .i64 0 :: .int .i64 0 :: .int .i64 0 :: [] : List Value) CA (exec_alloc_hand rfl _) rfl rfl FA.out.1 FA.out.2.1 FA.out.2.2 ?_; intro V1 hV; have hE : Seal (Env V1 none 0 0 [] ((w1.heap.size, .cells CA.toArray 29) :: [])) := ⟨(by rw [hV]; exact HE.out.push _)⟩; have hB : Seal (Below w.heap.size w V1) := ⟨(by rw [hV]; exact HB.out.alloc HB.out.size _)⟩; clear hV HB HE; obtain ⟨g1, hg⟩ : ∃ g, g = w1.heap.size := ⟨_, rfl⟩; rw [← hg] at hE ⊢; clear hg; have HE := hE; have HB := hB; clear hE hB; (try simp only [Act.put, List.setIfInBounds_toArray, List.set_cons_zero, List.set_cons_succ]))
  refine (HSB.out V1 HE.out.glob).mono ?_
  rintro e w2 ⟨rfl, hb⟩
  have HB2 := Seal.mk (HB.out.trans (hb.mono HB.out.size)); have HE2 := Seal.mk (HE.out.below hb); clear hb HB HE ; have HB := HB2; have HE := HE2; clear HB2 HE2
  go_wp2_with (refine wpList_newvar rfl rfl 29 3 (.tmp 26) rfl rfl rfl (.int .i64 0 :: .int .i64 0 :: .int .i64 0 :: .int .i64 0 :: .int .i64 0 :: .int .i64 0 :: .int .i64 0 :: .int .u8 0 :: .int .u8 0 :: .int .u8 0 :: .int .u8 0 :: .int .u8 0 :: .int .u8 0 :: .int .u8 0 :: .int .u8 0 :: .int .u8 0 :: .int .u8 0 :: .int .u8 0 :: .int .u8 0 :: .int .u8 0 :: .int .u8 0 :: .int .u8 0 :: .int .u8 0 :: .int .u8 0 :: .int .u8 0 :: .int .u8 0 :: .int .u8 0 :: .int .u8 0 :: .int .u8 0 :: .int .u8 0 :: .int .u8 0 :: .int .u8 0 :: .int .u8 0 :: .int .u8 0 :: .int .u8 0 :: .int .u8 0 :: .int .u8 0 :: .int .u8 0 :: .int .u8 0 :: .int .i64 0 :: .int .i64 0 :: .int .i64 0 :: [] : List Value) CB (exec_alloc_hand rfl _) rfl rfl FB.out.1 FB.out.2.1 FB.out.2.2 ?_; intro V2 hV; have hE : Seal (Env V2 none 0 0 [] ((w2.heap.size, .cells CB.toArray 29) :: [(g1, .cells CA.toArray 29)])) := ⟨(by rw [hV]; exact HE.out.push _)⟩; have hB : Seal (Below w.heap.size w V2) := ⟨(by rw [hV]; exact HB.out.alloc HB.out.size _)⟩; clear hV HB HE; obtain ⟨g3, hg⟩ : ∃ g, g = w2.heap.size := ⟨_, rfl⟩; rw [← hg] at hE ⊢; clear hg; have HE := hE; have HB := hB; clear hE hB; (try simp only [Act.put, List.setIfInBounds_toArray, List.set_cons_zero, List.set_cons_succ]))
  refine (HSC.out V2 HE.out.glob).mono ?_
  rintro e w3 ⟨rfl, hb⟩
  have HB2 := Seal.mk (HB.out.trans (hb.mono HB.out.size)); have HE2 := Seal.mk (HE.out.below hb); clear hb HB HE ; have HB := HB2; have HE := HE2; clear HB2 HE2
  go_wp2_with (first
    | (refine wpList_newvar rfl rfl 29 5 (.tmp 30) rfl rfl rfl (.int .i64 0 :: .int .i64 0 :: .int .i64 0 :: .int .i64 0 :: .int .i64 0 :: .int .i64 0 :: .int .i64 0 :: .int .u8 0 :: .int .u8 0 :: .int .u8 0 :: .int .u8 0 :: .int .u8 0 :: .int .u8 0 :: .int .u8 0 :: .int .u8 0 :: .int .u8 0 :: .int .u8 0 :: .int .u8 0 :: .int .u8 0 :: .int .u8 0 :: .int .u8 0 :: .int .u8 0 :: .int .u8 0 :: .int .u8 0 :: .int .u8 0 :: .int .u8 0 :: .int .u8 0 :: .int .u8 0 :: .int .u8 0 :: .int .u8 0 :: .int .u8 0 :: .int .u8 0 :: .int .u8 0 :: .int .u8 0 :: .int .u8 0 :: .int .u8 0 :: .int .u8 0 :: .int .u8 0 :: .int .u8 0 :: .int .i64 0 :: .int .i64 0 :: .int .i64 0 :: [] : List Value) CC (exec_alloc_hand rfl _) rfl rfl FC.out.1 FC.out.2.1 FC.out.2.2 ?_; intro V3 hV; have hE : Seal (Env V3 none 0 0 [] ((w3.heap.size, .cells CC.toArray 29) :: [(g3, .cells CB.toArray 29), (g1, .cells CA.toArray 29)])) := ⟨(by rw [hV]; exact HE.out.push _)⟩; have hB : Seal (Below w.heap.size w V3) := ⟨(by rw [hV]; exact HB.out.alloc HB.out.size _)⟩; clear hV HB HE; obtain ⟨g5, hg⟩ : ∃ g, g = w3.heap.size := ⟨_, rfl⟩; rw [← hg] at hE ⊢; clear hg; have HE := hE; have HB := hB; clear hE hB; have hE := Seal.mk (HE.out.push (.cells #[.int .i64 4, .int .i64 64] 3)); have hB : Seal (Below w.heap.size w (V3.alloc (.cells #[.int .i64 4, .int .i64 64] 3))) := ⟨HB.out.alloc HB.out.size _⟩; clear HE HB; have HE := hE; have HB := hB; clear hE hB; have RA := Seal.mk (HE.out.keep (g1, .cells CA.toArray 29) (by simp)); have RB := Seal.mk (HE.out.keep (g3, .cells CB.toArray 29) (by simp)); have RC := Seal.mk (HE.out.keep (g5, .cells CC.toArray 29) (by simp)); (try simp only [Act.put, List.setIfInBounds_toArray, List.set_cons_zero, List.set_cons_succ]))
    | (refine wpList_load_row_g (by kernel_rfl) 29 (.tmp 5) rfl g5 rfl 29 CC.toArray (0, 0) _ RC.out uH rfl (by rw [List.size_toArray]; exact FC.out.1) ?_; (try simp only [Act.put, List.setIfInBounds_toArray, List.set_cons_zero, List.set_cons_succ]))
    | (refine wpList_load_row_g (by kernel_rfl) 29 (.tmp 1) rfl g1 rfl 29 CA.toArray (0, 0) _ RA.out uH rfl (by rw [List.size_toArray]; exact FA.out.1) ?_; (try simp only [Act.put, List.setIfInBounds_toArray, List.set_cons_zero, List.set_cons_succ]))
    | (refine wpList_load_row_g (by kernel_rfl) 29 (.tmp 3) rfl g3 rfl 29 CB.toArray (0, 0) _ RB.out uH rfl (by rw [List.size_toArray]; exact FB.out.1) ?_; (try simp only [Act.put, List.setIfInBounds_toArray, List.set_cons_zero, List.set_cons_succ]))
    | (refine wpList_bslice (by kernel_rfl) 66 29 4 42 #[(0, .tmp 45), (1, .tmp 46), (2, .tmp 47), (3, .tmp 48)] rfl [CC, CA, CA, CB] Tryd.underlying66 size_hand _ zeroHd rfl rfl (by intro D hD; simp only [List.mem_cons, List.not_mem_nil, or_false] at hD; rcases hD with rfl | rfl | rfl | rfl <;> first | exact l42.out.1 | exact l42.out.2.1 | exact l42.out.2.2 | rfl) (by decide) (by decide) (by first | rfl | (simp [sparts]; done)) ?_; obtain ⟨V4, hV⟩ : ∃ V, V = (V3.alloc (.cells #[.int .i64 4, .int .i64 64] 3)).alloc (.cells ([CC, CA, CA, CB].flatten).toArray 29) := ⟨_, rfl⟩; have HH : Seal (IsHs V4 (some ⟨(V3.alloc (.cells #[.int .i64 4, .int .i64 64] 3)).heap.size, 0, none⟩) 4 4 [sC, sA, sA, sB]) := ⟨(by rw [hV]; exact isHs_new _ [sC, sA, sA, sB] 4 rfl (by intro h hh; simp only [List.mem_cons, List.not_mem_nil, or_false] at hh; rcases hh with rfl | rfl | rfl | rfl <;> first | exact ok_sA | exact ok_sB | exact ok_sC | exact ok_hz) (by decide) _ (by (try rw [HC.out.1]); (try rw [HC.out.2.1]); (try rw [HC.out.2.2]); (first | rfl | (rw [← hz_list]; rfl))))⟩; have hb : Below (V3.alloc (.cells #[.int .i64 4, .int .i64 64] 3)).heap.size (V3.alloc (.cells #[.int .i64 4, .int .i64 64] 3)) V4 := (by rw [hV]; exact below_alloc _ _); rw [← hV]; clear hV RA RB RC; have HB2 := Seal.mk (HB.out.trans (hb.mono HB.out.size)); have HE2 := Seal.mk (HE.out.below hb); clear hb HB HE ; have HB := HB2; have HE := HE2; clear HB2 HE2; (try simp only [Act.put, List.setIfInBounds_toArray, List.set_cons_zero, List.set_cons_succ])))
  have hh := HH.out
  rw [size_alloc] at hh
  have hk : IsKs V4 (some ⟨V3.heap.size, 0, none⟩) 2 2 [4, 64] := ⟨rfl, by decide, by decide, by decide, .inr ⟨V3.heap.size, 0, rfl, rangeAt_row (cs := [4, 64].map (Value.int .i64)) (HE.out.keep (V3.heap.size, .cells #[.int .i64 4, .int .i64 64] 3) (by simp)), HE.out.lt (o := .cells #[.int .i64 4, .int .i64 64] 3) (by simp)⟩⟩
  have hc := cfind_any 4 4 2 2 _ _ [sC, sA, sA, sB] [4, 64] V4 HE.out.glob hh hk (by decide)
  rw [ex_find, show ler [4, 64] = 0 from rfl] at hc
  have HCc := Seal.mk hc
  clear hc hh hk HH
  refine HCc.out.mono ?_
  rintro e w5 ⟨v8, rfl, hP⟩
  have hO := hP.out.1
  have hb := hP.out.2
  obtain ⟨a8, c8, hv, hX⟩ := isLs_own hO (by intro x hx; obtain rfl : x = (sA, sB) := (by simpa using hx); exact ⟨ok_sA, ok_sB⟩) (by decide)
  obtain rfl : v8 = .slice a8 1 c8 := hv
  have HB2 := Seal.mk (HB.out.trans (hb.mono HB.out.size)); have HE2 := Seal.mk (HE.out.below hb); clear hb HB HE ; have HB := HB2; have HE := HE2; clear HB2 HE2
  have HL : Seal (IsLs w5 a8 1 c8 [(sA, sB)]) := ⟨hX⟩
  clear hP hO hX HCc
  have RA := Seal.mk (HE.out.keep (g1, .cells CA.toArray 29) (by simp)); have RB := Seal.mk (HE.out.keep (g3, .cells CB.toArray 29) (by simp)); have RC := Seal.mk (HE.out.keep (g5, .cells CC.toArray 29) (by simp))
  go_wp2_with (first
    | (refine wpList_load_row_g (by kernel_rfl) 29 (.tmp 5) rfl g5 rfl 29 CC.toArray (0, 0) _ RC.out uH rfl (by rw [List.size_toArray]; exact FC.out.1) ?_; (try simp only [Act.put, List.setIfInBounds_toArray, List.set_cons_zero, List.set_cons_succ]))
    | (refine wpList_load_row_g (by kernel_rfl) 29 (.tmp 1) rfl g1 rfl 29 CA.toArray (0, 0) _ RA.out uH rfl (by rw [List.size_toArray]; exact FA.out.1) ?_; (try simp only [Act.put, List.setIfInBounds_toArray, List.set_cons_zero, List.set_cons_succ]))
    | (refine wpList_load_row_g (by kernel_rfl) 29 (.tmp 3) rfl g3 rfl 29 CB.toArray (0, 0) _ RB.out uH rfl (by rw [List.size_toArray]; exact FB.out.1) ?_; (try simp only [Act.put, List.setIfInBounds_toArray, List.set_cons_zero, List.set_cons_succ]))
    | (refine wpList_bslice (by kernel_rfl) 66 29 3 42 #[(0, .tmp 55), (1, .tmp 56), (2, .tmp 57)] rfl [CC, CA, CB] Tryd.underlying66 size_hand _ zeroHd rfl rfl (by intro D hD; simp only [List.mem_cons, List.not_mem_nil, or_false] at hD; rcases hD with rfl | rfl | rfl <;> first | exact l42.out.1 | exact l42.out.2.1 | exact l42.out.2.2 | rfl) (by decide) (by decide) (by first | rfl | (simp [sparts]; done)) ?_; obtain ⟨V6, hV⟩ : ∃ V, V = (w5).alloc (.cells ([CC, CA, CB].flatten).toArray 29) := ⟨_, rfl⟩; have HH : Seal (IsHs V6 (some ⟨(w5).heap.size, 0, none⟩) 3 3 [sC, sA, sB]) := ⟨(by rw [hV]; exact isHs_new _ [sC, sA, sB] 3 rfl (by intro h hh; simp only [List.mem_cons, List.not_mem_nil, or_false] at hh; rcases hh with rfl | rfl | rfl <;> first | exact ok_sA | exact ok_sB | exact ok_sC | exact ok_hz) (by decide) _ (by (try rw [HC.out.1]); (try rw [HC.out.2.1]); (try rw [HC.out.2.2]); (first | rfl | (rw [← hz_list]; rfl))))⟩; have hb : Below (w5).heap.size (w5) V6 := (by rw [hV]; exact below_alloc _ _); rw [← hV]; clear hV RA RB RC; have HB2 := Seal.mk (HB.out.trans (hb.mono HB.out.size)); have HE2 := Seal.mk (HE.out.below hb); have HL2 := Seal.mk (HL.out.below hb); clear hb HB HE HL; have HB := HB2; have HE := HE2; have HL := HL2; clear HB2 HE2 HL2; (try simp only [Act.put, List.setIfInBounds_toArray, List.set_cons_zero, List.set_cons_succ])))
  have hh := HH.out
  have hk : IsKs V6 (some ⟨V3.heap.size, 0, none⟩) 2 2 [4, 64] := ⟨rfl, by decide, by decide, by decide, .inr ⟨V3.heap.size, 0, rfl, rangeAt_row (cs := [4, 64].map (Value.int .i64)) (HE.out.keep (V3.heap.size, .cells #[.int .i64 4, .int .i64 64] 3) (by simp)), HE.out.lt (o := .cells #[.int .i64 4, .int .i64 64] 3) (by simp)⟩⟩
  have hc := ctrust_any 3 3 2 2 _ _ [sC, sA, sB] [4, 64] V6 HE.out.glob hh hk (by decide)
  rw [ex_trust1, show ler [4, 64] = 0 from rfl] at hc
  have HCc := Seal.mk hc
  clear hc hh hk HH
  refine HCc.out.mono ?_
  rintro e w7 ⟨v10, rfl, hP⟩
  have hO := hP.out.1
  have hb := hP.out.2
  obtain ⟨a10, c10, hv, hX⟩ := hs_of_own hO (by intro x hx; cases hx) (by decide)
  obtain rfl : v10 = .slice a10 0 c10 := hv
  have HB2 := Seal.mk (HB.out.trans (hb.mono HB.out.size)); have HE2 := Seal.mk (HE.out.below hb); have HL2 := Seal.mk (HL.out.below hb); clear hb HB HE HL; have HB := HB2; have HE := HE2; have HL := HL2; clear HB2 HE2 HL2
  clear hP hO hX HCc
  have RA := Seal.mk (HE.out.keep (g1, .cells CA.toArray 29) (by simp)); have RB := Seal.mk (HE.out.keep (g3, .cells CB.toArray 29) (by simp)); have RC := Seal.mk (HE.out.keep (g5, .cells CC.toArray 29) (by simp))
  go_wp2_with (first
    | (refine wpList_load_row_g (by kernel_rfl) 29 (.tmp 1) rfl g1 rfl 29 CA.toArray (0, 0) _ RA.out uH rfl (by rw [List.size_toArray]; exact FA.out.1) ?_; (try simp only [Act.put, List.setIfInBounds_toArray, List.set_cons_zero, List.set_cons_succ]))
    | (refine wpList_load_row_g (by kernel_rfl) 29 (.tmp 5) rfl g5 rfl 29 CC.toArray (0, 0) _ RC.out uH rfl (by rw [List.size_toArray]; exact FC.out.1) ?_; (try simp only [Act.put, List.setIfInBounds_toArray, List.set_cons_zero, List.set_cons_succ]))
    | (refine wpList_bslice (by kernel_rfl) 66 29 2 42 #[(0, .tmp 64), (1, .tmp 65)] rfl [CA, CC] Tryd.underlying66 size_hand _ zeroHd rfl rfl (by intro D hD; simp only [List.mem_cons, List.not_mem_nil, or_false] at hD; rcases hD with rfl | rfl <;> first | exact l42.out.1 | exact l42.out.2.1 | exact l42.out.2.2 | rfl) (by decide) (by decide) (by first | rfl | (simp [sparts]; done)) ?_; obtain ⟨V8, hV⟩ : ∃ V, V = (w7).alloc (.cells ([CA, CC].flatten).toArray 29) := ⟨_, rfl⟩; have HH : Seal (IsHs V8 (some ⟨(w7).heap.size, 0, none⟩) 2 2 [sA, sC]) := ⟨(by rw [hV]; exact isHs_new _ [sA, sC] 2 rfl (by intro h hh; simp only [List.mem_cons, List.not_mem_nil, or_false] at hh; rcases hh with rfl | rfl <;> first | exact ok_sA | exact ok_sB | exact ok_sC | exact ok_hz) (by decide) _ (by (try rw [HC.out.1]); (try rw [HC.out.2.1]); (try rw [HC.out.2.2]); (first | rfl | (rw [← hz_list]; rfl))))⟩; have hb : Below (w7).heap.size (w7) V8 := (by rw [hV]; exact below_alloc _ _); rw [← hV]; clear hV RA RB RC; have HB2 := Seal.mk (HB.out.trans (hb.mono HB.out.size)); have HE2 := Seal.mk (HE.out.below hb); have HL2 := Seal.mk (HL.out.below hb); clear hb HB HE HL; have HB := HB2; have HE := HE2; have HL := HL2; clear HB2 HE2 HL2; (try simp only [Act.put, List.setIfInBounds_toArray, List.set_cons_zero, List.set_cons_succ])))
  have hh := HH.out
  have hk : IsKs V8 (some ⟨V3.heap.size, 0, none⟩) 2 2 [4, 64] := ⟨rfl, by decide, by decide, by decide, .inr ⟨V3.heap.size, 0, rfl, rangeAt_row (cs := [4, 64].map (Value.int .i64)) (HE.out.keep (V3.heap.size, .cells #[.int .i64 4, .int .i64 64] 3) (by simp)), HE.out.lt (o := .cells #[.int .i64 4, .int .i64 64] 3) (by simp)⟩⟩
  have hc := ctrust_any 2 2 2 2 _ _ [sA, sC] [4, 64] V8 HE.out.glob hh hk (by decide)
  rw [ex_trust2, show ler [4, 64] = 0 from rfl] at hc
  have HCc := Seal.mk hc
  clear hc hh hk HH
  refine HCc.out.mono ?_
  rintro e w9 ⟨v12, rfl, hP⟩
  have hO := hP.out.1
  have hb := hP.out.2
  obtain ⟨a12, c12, hv, hX⟩ := hs_of_own hO (by intro x hx; simp only [List.mem_cons, List.not_mem_nil, or_false] at hx; rcases hx with rfl | rfl; exact ok_sA; exact ok_sC) (by decide)
  obtain rfl : v12 = .slice a12 2 c12 := hv
  have HB2 := Seal.mk (HB.out.trans (hb.mono HB.out.size)); have HE2 := Seal.mk (HE.out.below hb); have HL2 := Seal.mk (HL.out.below hb); clear hb HB HE HL; have HB := HB2; have HE := HE2; have HL := HL2; clear HB2 HE2 HL2
  have HZ : Seal (IsHs w9 a12 2 c12 [sA, sC]) := ⟨hX⟩
  clear hP hO hX HCc
  have RA := Seal.mk (HE.out.keep (g1, .cells CA.toArray 29) (by simp)); have RB := Seal.mk (HE.out.keep (g3, .cells CB.toArray 29) (by simp)); have RC := Seal.mk (HE.out.keep (g5, .cells CC.toArray 29) (by simp))
  go_wp2_with (first
    | (refine wpList_load_row_g (by kernel_rfl) 29 (.tmp 1) rfl g1 rfl 29 CA.toArray (0, 0) _ RA.out uH rfl (by rw [List.size_toArray]; exact FA.out.1) ?_; (try simp only [Act.put, List.setIfInBounds_toArray, List.set_cons_zero, List.set_cons_succ]))
    | (refine wpList_load_row_g (by kernel_rfl) 29 (.tmp 3) rfl g3 rfl 29 CB.toArray (0, 0) _ RB.out uH rfl (by rw [List.size_toArray]; exact FB.out.1) ?_; (try simp only [Act.put, List.setIfInBounds_toArray, List.set_cons_zero, List.set_cons_succ]))
    | (refine wpList_bslice (by kernel_rfl) 66 29 2 42 #[(0, .tmp 71), (1, .tmp 72)] rfl [CA, CB] Tryd.underlying66 size_hand _ zeroHd rfl rfl (by intro D hD; simp only [List.mem_cons, List.not_mem_nil, or_false] at hD; rcases hD with rfl | rfl <;> first | exact l42.out.1 | exact l42.out.2.1 | exact l42.out.2.2 | rfl) (by decide) (by decide) (by first | rfl | (simp [sparts]; done)) ?_; obtain ⟨V10, hV⟩ : ∃ V, V = (w9).alloc (.cells ([CA, CB].flatten).toArray 29) := ⟨_, rfl⟩; have HH : Seal (IsHs V10 (some ⟨(w9).heap.size, 0, none⟩) 2 2 [sA, sB]) := ⟨(by rw [hV]; exact isHs_new _ [sA, sB] 2 rfl (by intro h hh; simp only [List.mem_cons, List.not_mem_nil, or_false] at hh; rcases hh with rfl | rfl <;> first | exact ok_sA | exact ok_sB | exact ok_sC | exact ok_hz) (by decide) _ (by (try rw [HC.out.1]); (try rw [HC.out.2.1]); (try rw [HC.out.2.2]); (first | rfl | (rw [← hz_list]; rfl))))⟩; have hb : Below (w9).heap.size (w9) V10 := (by rw [hV]; exact below_alloc _ _); rw [← hV]; clear hV RA RB RC; have HB2 := Seal.mk (HB.out.trans (hb.mono HB.out.size)); have HE2 := Seal.mk (HE.out.below hb); have HL2 := Seal.mk (HL.out.below hb); have HZ2 := Seal.mk (HZ.out.below hb); clear hb HB HE HL HZ; have HB := HB2; have HE := HE2; have HL := HL2; have HZ := HZ2; clear HB2 HE2 HL2 HZ2; (try simp only [Act.put, List.setIfInBounds_toArray, List.set_cons_zero, List.set_cons_succ])))
  have hh := HH.out
  have hk : IsKs V10 none 0 0 [] := isKs_nil _ _ _ (by decide)
  have hc := cfind_any 2 2 0 0 _ _ [sA, sB] [] V10 HE.out.glob hh hk (by decide)
  rw [ex_find2, show ler [] = 0 from rfl] at hc
  have HCc := Seal.mk hc
  clear hc hh hk HH
  refine HCc.out.mono ?_
  rintro e w11 ⟨v14, rfl, hP⟩
  have hO := hP.out.1
  have hb := hP.out.2
  obtain ⟨a14, c14, hv, hX⟩ := isLs_own hO (by intro x hx; cases hx) (by decide)
  obtain rfl : v14 = .slice a14 0 c14 := hv
  have HB2 := Seal.mk (HB.out.trans (hb.mono HB.out.size)); have HE2 := Seal.mk (HE.out.below hb); have HL2 := Seal.mk (HL.out.below hb); have HZ2 := Seal.mk (HZ.out.below hb); clear hb HB HE HL HZ; have HB := HB2; have HE := HE2; have HL := HL2; have HZ := HZ2; clear HB2 HE2 HL2 HZ2
  clear hP hO hX HCc
  have hE := Seal.mk (HE.out.push (.cells #[.int .i64 4, .int .i64 4] 3))
  have hB : Seal (Below w.heap.size w (w11.alloc (.cells #[.int .i64 4, .int .i64 4] 3))) := ⟨HB.out.alloc HB.out.size _⟩
  have hL := Seal.mk (HL.out.below (below_alloc w11 (.cells #[.int .i64 4, .int .i64 4] 3)))
  have hZ := Seal.mk (HZ.out.below (below_alloc w11 (.cells #[.int .i64 4, .int .i64 4] 3)))
  clear HE HB HL HZ
  have HE := hE
  have HB := hB
  have HL := hL
  have HZ := hZ
  clear hE hB hL hZ
  have ZBH : Seal (∀ (ρ : Operand → Value) (o : Oper) (w : World), o.op = .build 29 #[] → (execOp ρ o).run Tryd.prog w = .ok (.value (.agg (.int .i64 0 :: .int .i64 0 :: .int .i64 0 :: .int .i64 0 :: .int .i64 0 :: .int .i64 0 :: .int .i64 0 :: .int .u8 0 :: .int .u8 0 :: .int .u8 0 :: .int .u8 0 :: .int .u8 0 :: .int .u8 0 :: .int .u8 0 :: .int .u8 0 :: .int .u8 0 :: .int .u8 0 :: .int .u8 0 :: .int .u8 0 :: .int .u8 0 :: .int .u8 0 :: .int .u8 0 :: .int .u8 0 :: .int .u8 0 :: .int .u8 0 :: .int .u8 0 :: .int .u8 0 :: .int .u8 0 :: .int .u8 0 :: .int .u8 0 :: .int .u8 0 :: .int .u8 0 :: .int .u8 0 :: .int .u8 0 :: .int .u8 0 :: .int .u8 0 :: .int .u8 0 :: .int .u8 0 :: .int .u8 0 :: .int .i64 0 :: .int .i64 0 :: .int .i64 0 :: [] : List Value).toArray)) w) := ⟨fun ρ o w ho => by
    have h : (Instr.build 29 #[]).run Tryd.prog w = .ok (.agg (.int .i64 0 :: .int .i64 0 :: .int .i64 0 :: .int .i64 0 :: .int .i64 0 :: .int .i64 0 :: .int .i64 0 :: .int .u8 0 :: .int .u8 0 :: .int .u8 0 :: .int .u8 0 :: .int .u8 0 :: .int .u8 0 :: .int .u8 0 :: .int .u8 0 :: .int .u8 0 :: .int .u8 0 :: .int .u8 0 :: .int .u8 0 :: .int .u8 0 :: .int .u8 0 :: .int .u8 0 :: .int .u8 0 :: .int .u8 0 :: .int .u8 0 :: .int .u8 0 :: .int .u8 0 :: .int .u8 0 :: .int .u8 0 :: .int .u8 0 :: .int .u8 0 :: .int .u8 0 :: .int .u8 0 :: .int .u8 0 :: .int .u8 0 :: .int .u8 0 :: .int .u8 0 :: .int .u8 0 :: .int .u8 0 :: .int .i64 0 :: .int .i64 0 :: .int .i64 0 :: [] : List Value).toArray) w := by kernel_rfl
    unfold execOp
    rw [ho]
    simp [h, Result.andThen]⟩
  have RA := Seal.mk (HE.out.keep (g1, .cells CA.toArray 29) (by simp)); have RB := Seal.mk (HE.out.keep (g3, .cells CB.toArray 29) (by simp)); have RC := Seal.mk (HE.out.keep (g5, .cells CC.toArray 29) (by simp))
  go_wp2_with (first
    | (refine wpList_val rfl 29 #[] rfl (.agg (.int .i64 0 :: .int .i64 0 :: .int .i64 0 :: .int .i64 0 :: .int .i64 0 :: .int .i64 0 :: .int .i64 0 :: .int .u8 0 :: .int .u8 0 :: .int .u8 0 :: .int .u8 0 :: .int .u8 0 :: .int .u8 0 :: .int .u8 0 :: .int .u8 0 :: .int .u8 0 :: .int .u8 0 :: .int .u8 0 :: .int .u8 0 :: .int .u8 0 :: .int .u8 0 :: .int .u8 0 :: .int .u8 0 :: .int .u8 0 :: .int .u8 0 :: .int .u8 0 :: .int .u8 0 :: .int .u8 0 :: .int .u8 0 :: .int .u8 0 :: .int .u8 0 :: .int .u8 0 :: .int .u8 0 :: .int .u8 0 :: .int .u8 0 :: .int .u8 0 :: .int .u8 0 :: .int .u8 0 :: .int .u8 0 :: .int .i64 0 :: .int .i64 0 :: .int .i64 0 :: [] : List Value).toArray) (ZBH.out _ _ _ rfl) ?_; (try simp only [Act.put, List.setIfInBounds_toArray, List.set_cons_zero, List.set_cons_succ]))
    | (refine wpList_load_row_g (by kernel_rfl) 29 (.tmp 5) rfl g5 rfl 29 CC.toArray (0, 0) _ RC.out uH rfl (by rw [List.size_toArray]; exact FC.out.1) ?_; (try simp only [Act.put, List.setIfInBounds_toArray, List.set_cons_zero, List.set_cons_succ]))
    | (refine wpList_load_row_g (by kernel_rfl) 29 (.tmp 5) rfl g5 rfl 29 CC.toArray (0, 0) _ RC.out uH rfl (by rw [List.size_toArray]; exact FC.out.1) ?_; (try simp only [Act.put, List.setIfInBounds_toArray, List.set_cons_zero, List.set_cons_succ]))
    | (refine wpList_bslice (by kernel_rfl) 66 29 3 42 #[(0, .tmp 79), (1, .tmp 80), (2, .tmp 81)] rfl [(.int .i64 0 :: .int .i64 0 :: .int .i64 0 :: .int .i64 0 :: .int .i64 0 :: .int .i64 0 :: .int .i64 0 :: .int .u8 0 :: .int .u8 0 :: .int .u8 0 :: .int .u8 0 :: .int .u8 0 :: .int .u8 0 :: .int .u8 0 :: .int .u8 0 :: .int .u8 0 :: .int .u8 0 :: .int .u8 0 :: .int .u8 0 :: .int .u8 0 :: .int .u8 0 :: .int .u8 0 :: .int .u8 0 :: .int .u8 0 :: .int .u8 0 :: .int .u8 0 :: .int .u8 0 :: .int .u8 0 :: .int .u8 0 :: .int .u8 0 :: .int .u8 0 :: .int .u8 0 :: .int .u8 0 :: .int .u8 0 :: .int .u8 0 :: .int .u8 0 :: .int .u8 0 :: .int .u8 0 :: .int .u8 0 :: .int .i64 0 :: .int .i64 0 :: .int .i64 0 :: [] : List Value), CC, CC] Tryd.underlying66 size_hand _ zeroHd rfl rfl (by intro D hD; simp only [List.mem_cons, List.not_mem_nil, or_false] at hD; rcases hD with rfl | rfl | rfl <;> first | exact l42.out.1 | exact l42.out.2.1 | exact l42.out.2.2 | rfl) (by decide) (by decide) (by first | rfl | (simp [sparts]; done)) ?_; obtain ⟨V12, hV⟩ : ∃ V, V = (w11.alloc (.cells #[.int .i64 4, .int .i64 4] 3)).alloc (.cells ([(.int .i64 0 :: .int .i64 0 :: .int .i64 0 :: .int .i64 0 :: .int .i64 0 :: .int .i64 0 :: .int .i64 0 :: .int .u8 0 :: .int .u8 0 :: .int .u8 0 :: .int .u8 0 :: .int .u8 0 :: .int .u8 0 :: .int .u8 0 :: .int .u8 0 :: .int .u8 0 :: .int .u8 0 :: .int .u8 0 :: .int .u8 0 :: .int .u8 0 :: .int .u8 0 :: .int .u8 0 :: .int .u8 0 :: .int .u8 0 :: .int .u8 0 :: .int .u8 0 :: .int .u8 0 :: .int .u8 0 :: .int .u8 0 :: .int .u8 0 :: .int .u8 0 :: .int .u8 0 :: .int .u8 0 :: .int .u8 0 :: .int .u8 0 :: .int .u8 0 :: .int .u8 0 :: .int .u8 0 :: .int .u8 0 :: .int .i64 0 :: .int .i64 0 :: .int .i64 0 :: [] : List Value), CC, CC].flatten).toArray 29) := ⟨_, rfl⟩; have HH : Seal (IsHs V12 (some ⟨(w11.alloc (.cells #[.int .i64 4, .int .i64 4] 3)).heap.size, 0, none⟩) 3 3 [hz, sC, sC]) := ⟨(by rw [hV]; exact isHs_new _ [hz, sC, sC] 3 rfl (by intro h hh; simp only [List.mem_cons, List.not_mem_nil, or_false] at hh; rcases hh with rfl | rfl | rfl <;> first | exact ok_sA | exact ok_sB | exact ok_sC | exact ok_hz) (by decide) _ (by (try rw [HC.out.1]); (try rw [HC.out.2.1]); (try rw [HC.out.2.2]); (first | rfl | (rw [← hz_list]; rfl))))⟩; have hb : Below (w11.alloc (.cells #[.int .i64 4, .int .i64 4] 3)).heap.size (w11.alloc (.cells #[.int .i64 4, .int .i64 4] 3)) V12 := (by rw [hV]; exact below_alloc _ _); rw [← hV]; clear hV RA RB RC; have HB2 := Seal.mk (HB.out.trans (hb.mono HB.out.size)); have HE2 := Seal.mk (HE.out.below hb); have HL2 := Seal.mk (HL.out.below hb); have HZ2 := Seal.mk (HZ.out.below hb); clear hb HB HE HL HZ; have HB := HB2; have HE := HE2; have HL := HL2; have HZ := HZ2; clear HB2 HE2 HL2 HZ2; (try simp only [Act.put, List.setIfInBounds_toArray, List.set_cons_zero, List.set_cons_succ])))
  have hh := HH.out
  rw [size_alloc] at hh
  have hk : IsKs V12 (some ⟨w11.heap.size, 0, none⟩) 2 2 [4, 4] := ⟨rfl, by decide, by decide, by decide, .inr ⟨w11.heap.size, 0, rfl, rangeAt_row (cs := [4, 4].map (Value.int .i64)) (HE.out.keep (w11.heap.size, .cells #[.int .i64 4, .int .i64 4] 3) (by simp)), HE.out.lt (o := .cells #[.int .i64 4, .int .i64 4] 3) (by simp)⟩⟩
  have hc := cfind_any 3 3 2 2 _ _ [hz, sC, sC] [4, 4] V12 HE.out.glob hh hk (by decide)
  rw [ex_find3, show ler [4, 4] = 0 from rfl] at hc
  have HCc := Seal.mk hc
  clear hc hh hk HH
  refine HCc.out.mono ?_
  rintro e w13 ⟨v16, rfl, hP⟩
  have hO := hP.out.1
  have hb := hP.out.2
  obtain ⟨a16, c16, hv, hX⟩ := isLs_own hO (by intro x hx; cases hx) (by decide)
  obtain rfl : v16 = .slice a16 0 c16 := hv
  have HB2 := Seal.mk (HB.out.trans (hb.mono HB.out.size)); have HE2 := Seal.mk (HE.out.below hb); have HL2 := Seal.mk (HL.out.below hb); have HZ2 := Seal.mk (HZ.out.below hb); clear hb HB HE HL HZ; have HB := HB2; have HE := HE2; have HL := HL2; have HZ := HZ2; clear HB2 HE2 HL2 HZ2
  clear hP hO hX HCc
  go_wp2_with fail
  have mk0 : (Instr.makeSlice 65 (.int .i64 25) (.int .i64 25)).run Tryd.prog w13 = .ok (.slice (some ⟨w13.heap.size, 0, none⟩) 25 25) (w13.alloc (.cells #[.int .i64 0, .int .i64 0, .int .i64 0, .int .i64 0, .int .i64 0, .int .i64 0, .int .i64 0, .int .i64 0, .int .i64 0, .int .i64 0, .int .i64 0, .int .i64 0, .int .i64 0, .int .i64 0, .int .i64 0, .int .i64 0, .int .i64 0, .int .i64 0, .int .i64 0, .int .i64 0, .int .i64 0, .int .i64 0, .int .i64 0, .int .i64 0, .int .i64 0] 3)) := by kernel_rfl
  rw [mk0]
  simp only [Result.andThen_ok]
  obtain ⟨ks3, hks3⟩ : ∃ k : List Int, k = List.replicate 25 0 := ⟨_, rfl⟩
  obtain ⟨V14, hV⟩ : ∃ V, V = w13.alloc (.cells #[.int .i64 0, .int .i64 0, .int .i64 0, .int .i64 0, .int .i64 0, .int .i64 0, .int .i64 0, .int .i64 0, .int .i64 0, .int .i64 0, .int .i64 0, .int .i64 0, .int .i64 0, .int .i64 0, .int .i64 0, .int .i64 0, .int .i64 0, .int .i64 0, .int .i64 0, .int .i64 0, .int .i64 0, .int .i64 0, .int .i64 0, .int .i64 0, .int .i64 0] 3) := ⟨_, rfl⟩
  have hb : Below w13.heap.size w13 V14 := (by rw [hV]; exact below_alloc _ _)
  have HK3 : Seal (IsKs V14 (some ⟨w13.heap.size, 0, none⟩) 25 25 ks3 ∧ ks3.length = 25) := ⟨by
    constructor
    · rw [hks3, hV]
      exact ⟨rfl, by decide, by decide, by decide, .inr ⟨w13.heap.size, 0, rfl, rangeAt_row (cs := (List.replicate 25 (0 : Int)).map (Value.int .i64)) (heap_alloc_new w13 _), (by rw [size_alloc]; exact Nat.lt_succ_self _)⟩⟩
    · rw [hks3]; rfl⟩
  rw [← hV]
  clear hV mk0 hks3
  have HB2 := Seal.mk (HB.out.trans (hb.mono HB.out.size)); have HE2 := Seal.mk (HE.out.below hb); have HL2 := Seal.mk (HL.out.below hb); have HZ2 := Seal.mk (HZ.out.below hb); clear hb HB HE HL HZ; have HB := HB2; have HE := HE2; have HL := HL2; have HZ := HZ2; clear HB2 HE2 HL2 HZ2
  go_wp2_with fail
  have hc := ctrust_any 0 0 25 25 none _ [] ks3 V14 HE.out.glob (isHs_nil _ _ _ (by decide)) HK3.out.1 (by decide)
  rw [(ex_trust3 ks3 HK3.out.2).1, (ex_trust3 ks3 HK3.out.2).2] at hc
  have HCc := Seal.mk hc
  clear hc HK3
  refine HCc.out.mono ?_
  rintro e w15 ⟨v18, rfl, hP⟩
  have hO := hP.out.1
  have hb := hP.out.2
  obtain ⟨a18, c18, hv, hX⟩ := hs_of_own hO (by intro x hx; cases hx) (by decide)
  obtain rfl : v18 = .slice a18 0 c18 := hv
  have HB2 := Seal.mk (HB.out.trans (hb.mono HB.out.size)); have HE2 := Seal.mk (HE.out.below hb); have HL2 := Seal.mk (HL.out.below hb); have HZ2 := Seal.mk (HZ.out.below hb); clear hb HB HE HL HZ; have HB := HB2; have HE := HE2; have HL := HL2; have HZ := HZ2; clear HB2 HE2 HL2 HZ2
  clear hP hO hX HCc
  have RA := Seal.mk (HE.out.keep (g1, .cells CA.toArray 29) (by simp)); have RB := Seal.mk (HE.out.keep (g3, .cells CB.toArray 29) (by simp)); have RC := Seal.mk (HE.out.keep (g5, .cells CC.toArray 29) (by simp))
  go_wp2_with (first
    | (refine wpList_load_row_g (by kernel_rfl) 29 (.tmp 1) rfl g1 rfl 29 CA.toArray (0, 0) _ RA.out uH rfl (by rw [List.size_toArray]; exact FA.out.1) ?_; (try simp only [Act.put, List.setIfInBounds_toArray, List.set_cons_zero, List.set_cons_succ]))
    | (refine wpList_load_row_g (by kernel_rfl) 29 (.tmp 3) rfl g3 rfl 29 CB.toArray (0, 0) _ RB.out uH rfl (by rw [List.size_toArray]; exact FB.out.1) ?_; (try simp only [Act.put, List.setIfInBounds_toArray, List.set_cons_zero, List.set_cons_succ]))
    | (refine wpList_build_lie_g (by kernel_rfl) (.tmp 114) (.tmp 115) rfl CA CB l42.out.1 l42.out.2.1 rfl rfl ?_; (try simp only [Act.put, List.setIfInBounds_toArray, List.set_cons_zero, List.set_cons_succ]))
    | (refine wpList_bslice (by kernel_rfl) 68 74 1 84 #[(0, .tmp 116)] rfl [CA ++ CB] Tryd.underlying68 size_lie _ zeroLi zl_size rfl (by intro D hD; obtain rfl := List.mem_singleton.1 hD; rw [List.length_append, l42.out.1, l42.out.2.1]) (by decide) (by decide) (by first | rfl | (simp [sparts]; done)) ?_; obtain ⟨V16, hV⟩ : ∃ V, V = (w15).alloc (.cells ([CA ++ CB].flatten).toArray 74) := ⟨_, rfl⟩; have HLN : Seal (IsLs V16 (some ⟨(w15).heap.size, 0, none⟩) 1 1 [(sA, sB)]) := ⟨(by rw [hV]; exact isLs_new _ [(sA, sB)] 1 rfl (by intro x hx; obtain rfl := List.mem_singleton.1 hx; exact ⟨ok_sA, ok_sB⟩) (by decide) _ (by rw [HC.out.1, HC.out.2.1]; simp [lcells, lieC]))⟩; have hb : Below (w15).heap.size (w15) V16 := (by rw [hV]; exact below_alloc _ _); rw [← hV]; clear hV RA RB RC; have HB2 := Seal.mk (HB.out.trans (hb.mono HB.out.size)); have HE2 := Seal.mk (HE.out.below hb); have HL2 := Seal.mk (HL.out.below hb); have HZ2 := Seal.mk (HZ.out.below hb); clear hb HB HE HL HZ; have HB := HB2; have HE := HE2; have HL := HL2; have HZ := HZ2; clear HB2 HE2 HL2 HZ2; (try simp only [Act.put, List.setIfInBounds_toArray, List.set_cons_zero, List.set_cons_succ])))
  have hc := rsame_eq _ _ 1 _ _ _ V16 HL.out HLN.out
  have HCc := Seal.mk hc
  clear hc HL HLN
  refine HCc.out.mono ?_
  rintro e w17 ⟨rfl, hb⟩
  clear HCc
  have HB2 := Seal.mk (HB.out.trans (hb.mono HB.out.size)); have HE2 := Seal.mk (HE.out.below hb); have HZ2 := Seal.mk (HZ.out.below hb); clear hb HB HE HZ; have HB := HB2; have HE := HE2; have HZ := HZ2; clear HB2 HE2 HZ2
  have RA := Seal.mk (HE.out.keep (g1, .cells CA.toArray 29) (by simp)); have RB := Seal.mk (HE.out.keep (g3, .cells CB.toArray 29) (by simp)); have RC := Seal.mk (HE.out.keep (g5, .cells CC.toArray 29) (by simp))
  go_wp2_with (first
    | (refine wpList_load_row_g (by kernel_rfl) 29 (.tmp 1) rfl g1 rfl 29 CA.toArray (0, 0) _ RA.out uH rfl (by rw [List.size_toArray]; exact FA.out.1) ?_; (try simp only [Act.put, List.setIfInBounds_toArray, List.set_cons_zero, List.set_cons_succ]))
    | (refine wpList_load_row_g (by kernel_rfl) 29 (.tmp 5) rfl g5 rfl 29 CC.toArray (0, 0) _ RC.out uH rfl (by rw [List.size_toArray]; exact FC.out.1) ?_; (try simp only [Act.put, List.setIfInBounds_toArray, List.set_cons_zero, List.set_cons_succ]))
    | (refine wpList_bslice (by kernel_rfl) 66 29 2 42 #[(0, .tmp 126), (1, .tmp 127)] rfl [CA, CC] Tryd.underlying66 size_hand _ zeroHd rfl rfl (by intro D hD; simp only [List.mem_cons, List.not_mem_nil, or_false] at hD; rcases hD with rfl | rfl <;> first | exact l42.out.1 | exact l42.out.2.1 | exact l42.out.2.2 | rfl) (by decide) (by decide) (by first | rfl | (simp [sparts]; done)) ?_; obtain ⟨V18, hV⟩ : ∃ V, V = (w17).alloc (.cells ([CA, CC].flatten).toArray 29) := ⟨_, rfl⟩; have HH : Seal (IsHs V18 (some ⟨(w17).heap.size, 0, none⟩) 2 2 [sA, sC]) := ⟨(by rw [hV]; exact isHs_new _ [sA, sC] 2 rfl (by intro h hh; simp only [List.mem_cons, List.not_mem_nil, or_false] at hh; rcases hh with rfl | rfl <;> first | exact ok_sA | exact ok_sB | exact ok_sC | exact ok_hz) (by decide) _ (by (try rw [HC.out.1]); (try rw [HC.out.2.1]); (try rw [HC.out.2.2]); (first | rfl | (rw [← hz_list]; rfl))))⟩; have hb : Below (w17).heap.size (w17) V18 := (by rw [hV]; exact below_alloc _ _); rw [← hV]; clear hV RA RB RC; have HB2 := Seal.mk (HB.out.trans (hb.mono HB.out.size)); have HE2 := Seal.mk (HE.out.below hb); have HZ2 := Seal.mk (HZ.out.below hb); clear hb HB HE HZ; have HB := HB2; have HE := HE2; have HZ := HZ2; clear HB2 HE2 HZ2; (try simp only [Act.put, List.setIfInBounds_toArray, List.set_cons_zero, List.set_cons_succ])))
  have hc := rsameh_eq _ _ 2 _ _ _ V18 HZ.out HH.out
  have HCc := Seal.mk hc
  clear hc HZ HH
  refine HCc.out.mono ?_
  rintro e w19 ⟨rfl, hb⟩
  clear HCc
  have HB2 := Seal.mk (HB.out.trans (hb.mono HB.out.size)); have HE2 := Seal.mk (HE.out.below hb); clear hb HB HE ; have HB := HB2; have HE := HE2; clear HB2 HE2
  have RA := Seal.mk (HE.out.keep (g1, .cells CA.toArray 29) (by simp)); have RB := Seal.mk (HE.out.keep (g3, .cells CB.toArray 29) (by simp)); have RC := Seal.mk (HE.out.keep (g5, .cells CC.toArray 29) (by simp))
  go_wp2_with (first
    | (refine wpList_load_row_g (by kernel_rfl) 29 (.tmp 1) rfl g1 rfl 29 CA.toArray (0, 0) _ RA.out uH rfl (by rw [List.size_toArray]; exact FA.out.1) ?_; (try simp only [Act.put, List.setIfInBounds_toArray, List.set_cons_zero, List.set_cons_succ]))
    | (refine wpList_load_row_g (by kernel_rfl) 29 (.tmp 3) rfl g3 rfl 29 CB.toArray (0, 0) _ RB.out uH rfl (by rw [List.size_toArray]; exact FB.out.1) ?_; (try simp only [Act.put, List.setIfInBounds_toArray, List.set_cons_zero, List.set_cons_succ]))
    | (refine wpList_build_lie_g (by kernel_rfl) (.tmp 142) (.tmp 143) rfl CA CB l42.out.1 l42.out.2.1 rfl rfl ?_; (try simp only [Act.put, List.setIfInBounds_toArray, List.set_cons_zero, List.set_cons_succ])))
  have hc : Calls Tryd.prog 38 #[.int .i64 64, .agg (CA ++ CB).toArray] w19 fun e w' => e = .returned (.bool true) ∧ Below w19.heap.size w19 w' := HK1.out w19 HE.out.glob
  refine hc.mono ?_
  clear hc RA RB RC
  rintro e w20 ⟨rfl, hb⟩
  have HB2 := Seal.mk (HB.out.trans (hb.mono HB.out.size)); have HE2 := Seal.mk (HE.out.below hb); clear hb HB HE ; have HB := HB2; have HE := HE2; clear HB2 HE2
  have RA := Seal.mk (HE.out.keep (g1, .cells CA.toArray 29) (by simp)); have RB := Seal.mk (HE.out.keep (g3, .cells CB.toArray 29) (by simp)); have RC := Seal.mk (HE.out.keep (g5, .cells CC.toArray 29) (by simp))
  go_wp2_with (first
    | (refine wpList_load_row_g (by kernel_rfl) 29 (.tmp 1) rfl g1 rfl 29 CA.toArray (0, 0) _ RA.out uH rfl (by rw [List.size_toArray]; exact FA.out.1) ?_; (try simp only [Act.put, List.setIfInBounds_toArray, List.set_cons_zero, List.set_cons_succ]))
    | (refine wpList_load_row_g (by kernel_rfl) 29 (.tmp 1) rfl g1 rfl 29 CA.toArray (0, 0) _ RA.out uH rfl (by rw [List.size_toArray]; exact FA.out.1) ?_; (try simp only [Act.put, List.setIfInBounds_toArray, List.set_cons_zero, List.set_cons_succ]))
    | (refine wpList_build_lie_g (by kernel_rfl) (.tmp 148) (.tmp 149) rfl CA CA l42.out.1 l42.out.1 rfl rfl ?_; (try simp only [Act.put, List.setIfInBounds_toArray, List.set_cons_zero, List.set_cons_succ])))
  have hc : Calls Tryd.prog 38 #[.int .i64 64, .agg (CA ++ CA).toArray] w20 fun e w' => e = .returned (.bool false) ∧ Below w20.heap.size w20 w' := HK2.out w20 HE.out.glob
  refine hc.mono ?_
  clear hc RA RB RC
  rintro e w21 ⟨rfl, hb⟩
  have HB2 := Seal.mk (HB.out.trans (hb.mono HB.out.size)); have HE2 := Seal.mk (HE.out.below hb); clear hb HB HE ; have HB := HB2; have HE := HE2; clear HB2 HE2
  have RA := Seal.mk (HE.out.keep (g1, .cells CA.toArray 29) (by simp)); have RB := Seal.mk (HE.out.keep (g3, .cells CB.toArray 29) (by simp)); have RC := Seal.mk (HE.out.keep (g5, .cells CC.toArray 29) (by simp))
  go_wp2_with (first
    | (refine wpList_load_row_g (by kernel_rfl) 29 (.tmp 1) rfl g1 rfl 29 CA.toArray (0, 0) _ RA.out uH rfl (by rw [List.size_toArray]; exact FA.out.1) ?_; (try simp only [Act.put, List.setIfInBounds_toArray, List.set_cons_zero, List.set_cons_succ]))
    | (refine wpList_load_row_g (by kernel_rfl) 29 (.tmp 5) rfl g5 rfl 29 CC.toArray (0, 0) _ RC.out uH rfl (by rw [List.size_toArray]; exact FC.out.1) ?_; (try simp only [Act.put, List.setIfInBounds_toArray, List.set_cons_zero, List.set_cons_succ]))
    | (refine wpList_build_lie_g (by kernel_rfl) (.tmp 155) (.tmp 156) rfl CA CC l42.out.1 l42.out.2.2 rfl rfl ?_; (try simp only [Act.put, List.setIfInBounds_toArray, List.set_cons_zero, List.set_cons_succ])))
  have hc : Calls Tryd.prog 38 #[.int .i64 64, .agg (CA ++ CC).toArray] w21 fun e w' => e = .returned (.bool false) ∧ Below w21.heap.size w21 w' := HK3.out w21 HE.out.glob
  refine hc.mono ?_
  clear hc RA RB RC
  rintro e w22 ⟨rfl, hb⟩
  have HB2 := Seal.mk (HB.out.trans (hb.mono HB.out.size)); have HE2 := Seal.mk (HE.out.below hb); clear hb HB HE ; have HB := HB2; have HE := HE2; clear HB2 HE2
  have ZBL : Seal (∀ (ρ : Operand → Value) (o : Oper) (w : World), o.op = .build 74 #[] → (execOp ρ o).run Tryd.prog w = .ok (.value (.agg Tryd.zeroCells74)) w) := ⟨fun ρ o w ho => by
    have h : (Instr.build 74 #[]).run Tryd.prog w = .ok (.agg Tryd.zeroCells74) w := by kernel_rfl
    unfold execOp
    rw [ho]
    simp [h, Result.andThen]⟩
  go_wp2_with (refine wpList_val_g (by kernel_rfl) 74 #[] rfl (.agg Tryd.zeroCells74) (ZBL.out _ _ _ rfl) ?_; (try simp only [Act.put, List.setIfInBounds_toArray, List.set_cons_zero, List.set_cons_succ]))
  have hc : Calls Tryd.prog 38 #[.int .i64 64, .agg Tryd.zeroCells74] w22 fun e w' => e = .returned (.bool false) ∧ Below w22.heap.size w22 w' := HKZ.out w22 HE.out.glob
  refine hc.mono ?_
  clear hc
  rintro e w23 ⟨rfl, hb⟩
  have HB2 := Seal.mk (HB.out.trans (hb.mono HB.out.size)); have HE2 := Seal.mk (HE.out.below hb); clear hb HB HE ; have HB := HB2; have HE := HE2; clear HB2 HE2
  go_wp2
  go_ret
  exact ⟨rfl, HB.out⟩
end Frk

