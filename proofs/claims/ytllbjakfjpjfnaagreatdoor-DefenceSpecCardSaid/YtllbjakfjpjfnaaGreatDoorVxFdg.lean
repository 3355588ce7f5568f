/- Law 57: cases, their digest. -/
import Derived.Test.YtllbjakfjpjfnaaGreatDoorVxgFct
import Derived.Test.YtllbjakfjpjfnaaGreatDoorVxFtx
import Derived.Test.YtllbjakfjpjfnaaGreatDoorVxgCod
namespace Frk
open Go Go.RowKit Go.Proofs
set_option maxRecDepth 100000

/-- a case as it is handed over: its data, and where its lists lie -/
structure CaX where
  c : Cas
  aF : Option Addr
  nF : Nat
  cF : Nat
  aK : Option Addr
  nK : Nat
  cK : Nat
  vJ : Value
  vS : Value
  r1 : Value
  r2 : Value
  r3 : Value
def CaX.C (x : CaX) : List Value := [.int .i64 x.c.L, .int .i64 x.c.A, .int .i64 x.c.R, .slice x.aF x.nF x.cF, .slice x.aK x.nK x.cK, x.vJ, .int .i64 x.c.P, .int .i64 x.c.W1, .int .i64 x.c.W2, .int .i64 x.c.W3, x.r1, x.r2, x.r3, x.vS, .int .i64 x.c.T]
theorem CaX.len (x : CaX) : x.C.length = 15 := rfl
theorem CaX.info (x : CaX) : (Tryz.prog.info? 35).map (·.size) = some x.C.length := by rw [CaX.len]; kernel_rfl
structure CaX.ok (x : CaX) : Prop where
  l : I64 x.c.L
  a : I64 x.c.A
  r : I64 x.c.R
  p : I64 x.c.P
  w1 : I64 x.c.W1
  w2 : I64 x.c.W2
  w3 : I64 x.c.W3
  t : I64 x.c.T
  one : x.vJ.oneCell' = true ∧ x.vS.oneCell' = true ∧ x.r1.oneCell' = true ∧ x.r2.oneCell' = true ∧ x.r3.oneCell' = true
theorem CaX.ones {x : CaX} (h : x.ok) : ∀ v ∈ x.C, v.oneCell' = true := by
  obtain ⟨h1, h2, h3, h4, h5⟩ := h.one
  intro v hv
  simp only [CaX.C, List.mem_cons, List.not_mem_nil, or_false] at hv
  rcases hv with rfl | rfl | rfl | rfl | rfl | rfl | rfl | rfl | rfl | rfl | rfl | rfl | rfl | rfl | rfl <;> first | rfl | assumption
/-- what is read of a case that lies in a variable -/
structure CaAt (W : World) (g : Nat) (x : CaX) : Prop where
  all : W.rangeAt g 0 x.C
  run : W.rangeAt g 0 [.int .i64 x.c.L, .int .i64 x.c.A, .int .i64 x.c.R]
  words : W.rangeAt g 7 [.int .i64 x.c.W1, .int .i64 x.c.W2, .int .i64 x.c.W3]
  L : W.cell? ⟨g, 0, none⟩ = some (.int .i64 x.c.L)
  A : W.cell? ⟨g, 1, none⟩ = some (.int .i64 x.c.A)
  R : W.cell? ⟨g, 2, none⟩ = some (.int .i64 x.c.R)
  F : W.cell? ⟨g, 3, none⟩ = some (.slice x.aF x.nF x.cF)
  K : W.cell? ⟨g, 4, none⟩ = some (.slice x.aK x.nK x.cK)
  P : W.cell? ⟨g, 6, none⟩ = some (.int .i64 x.c.P)
  T : W.cell? ⟨g, 14, none⟩ = some (.int .i64 x.c.T)
theorem caAt_of {W : World} {g : Nat} {x : CaX} (h : W.rangeAt g 0 x.C) : CaAt W g x := by
  have at_ : ∀ i v, x.C[i]? = some v → W.cell? ⟨g, i, none⟩ = some v := fun i v hv => by have := h i v hv; simpa using this
  have h7 := rangeAt_take (rangeAt_drop h 7) 3
  rw [Nat.zero_add] at h7
  exact ⟨h, rangeAt_take h 3, h7, at_ 0 _ rfl, at_ 1 _ rfl, at_ 2 _ rfl, at_ 3 _ rfl, at_ 4 _ rfl, at_ 6 _ rfl, at_ 14 _ rfl⟩
theorem CaAt.below {W W' : World} {g : Nat} {x : CaX} (h : CaAt W g x) (hb : Below W.heap.size W W') : CaAt W' g x := caAt_of (rangeAt_below' h.all hb)

theorem ftext_new (xs : List FA) (k H : Nat) (w : World) (hH : w.heap.size = H) (hk : xs.length = k) (hkm : k ≤ 1000) (hk0 : 0 < (xs.flatMap FA.lfs).length) (hk9 : (xs.flatMap FA.lfs).length ≤ 900) (hw : wgts (xs.flatMap FA.lfs) + 22 ≤ 140737488355328) (hok : ∀ x ∈ xs, x.ok) (hfit : ∀ y ∈ xs.flatMap FA.lfs, y.fits) (cs : Array Value) (hcs : cs.toList = xs.map FA.val) :
    Calls Tryz.prog 36 #[.slice (some ⟨H, 0, none⟩) k k] (w.alloc (.cells cs 20)) (ListPost (encL (xs.flatMap FA.lfs)) w) := by
  subst hH
  refine (ftext_any w.heap.size 0 k k xs (w.alloc (.cells cs 20)) hk hkm hk0 hk9 hw (fun j x hx => ?_) hok hfit).mono ?_
  · rw [cell_of_row _ _ _ _ _ _ (heap_alloc_new w _), Nat.zero_add, ← Array.getElem?_toList, hcs, List.getElem?_map, hx]; rfl
  · rintro e w' ⟨g', n', cap', hn, rfl, hf⟩
    exact ⟨g', n', cap', hn, rfl, ⟨hf.out.1, hf.out.2.1, hf.out.2.2.1, hf.out.2.2.2.1, (below_alloc w _).trans (hf.out.2.2.2.2.mono (by rw [size_alloc]; omega))⟩⟩

theorem caseD_len (c : Cas) : (caseD c).length = 32 := by unfold caseD tagged; exact sha_length _
set_option maxHeartbeats 4000000 in
theorem dcase_any (x : CaX) (w : World) (hG : Glob w) (ok : x.ok) (hl : IsL w x.aF x.nF x.cF x.c.F) (hm : x.nF ≤ 100) :
    Calls Tryz.prog 8 #[.agg x.C.toArray] w fun e w' => e = .returned (.agg ((caseD x.c).map B).toArray) ∧ Below w.heap.size w w' := by
  obtain ⟨X1, hX1⟩ : ∃ X : World, X = w.alloc (.cells x.C.toArray 35) := ⟨_, rfl⟩
  obtain ⟨X, hX⟩ : ∃ X : World, X = X1.alloc (.cells #[.int .u8 0, .int .u8 0, .int .u8 0, .int .u8 0, .int .u8 0, .int .u8 0, .int .u8 0, .int .u8 0, .int .u8 0, .int .u8 0, .int .u8 0, .int .u8 0, .int .u8 0, .int .u8 0, .int .u8 0, .int .u8 0, .int .u8 0, .int .u8 0, .int .u8 0, .int .u8 0, .int .u8 0, .int .u8 0, .int .u8 0, .int .u8 0, .int .u8 0, .int .u8 0, .int .u8 0, .int .u8 0, .int .u8 0, .int .u8 0, .int .u8 0, .int .u8 0] 42) := ⟨_, rfl⟩
  have b1 : Below w.heap.size w X1 := by rw [hX1]; exact below_alloc _ _
  have b2 : Below X1.heap.size X1 X := by rw [hX]; exact below_alloc _ _
  have s1 : X1.heap.size = w.heap.size + 1 := by rw [hX1, size_alloc]
  have hC := (caAt_of (rangeAt_row (by rw [hX1]; exact heap_alloc_new w _)) : CaAt X1 w.heap.size x).below b2
  have h2 : X.heap[w.heap.size + 1]? = some (.cells #[.int .u8 0, .int .u8 0, .int .u8 0, .int .u8 0, .int .u8 0, .int .u8 0, .int .u8 0, .int .u8 0, .int .u8 0, .int .u8 0, .int .u8 0, .int .u8 0, .int .u8 0, .int .u8 0, .int .u8 0, .int .u8 0, .int .u8 0, .int .u8 0, .int .u8 0, .int .u8 0, .int .u8 0, .int .u8 0, .int .u8 0, .int .u8 0, .int .u8 0, .int .u8 0, .int .u8 0, .int .u8 0, .int .u8 0, .int .u8 0, .int .u8 0, .int .u8 0] 42 (0, 0)) := by rw [← s1, hX]; exact heap_alloc_new X1 _
  have HB : Seal (Below w.heap.size w X ∧ X.heap[w.heap.size + 1]? = some (.cells #[.int .u8 0, .int .u8 0, .int .u8 0, .int .u8 0, .int .u8 0, .int .u8 0, .int .u8 0, .int .u8 0, .int .u8 0, .int .u8 0, .int .u8 0, .int .u8 0, .int .u8 0, .int .u8 0, .int .u8 0, .int .u8 0, .int .u8 0, .int .u8 0, .int .u8 0, .int .u8 0, .int .u8 0, .int .u8 0, .int .u8 0, .int .u8 0, .int .u8 0, .int .u8 0, .int .u8 0, .int .u8 0, .int .u8 0, .int .u8 0, .int .u8 0, .int .u8 0] 42 (0, 0))) := ⟨b1.trans (b2.mono b1.size), h2⟩
  obtain ⟨RL, hRL⟩ : ∃ L : List Value, L = [.int .i64 x.c.L, .int .i64 x.c.A, .int .i64 x.c.R] := ⟨_, rfl⟩
  obtain ⟨WL, hWL⟩ : ∃ L : List Value, L = [.int .i64 x.c.W1, .int .i64 x.c.W2, .int .i64 x.c.W3] := ⟨_, rfl⟩
  have cR := hC.run
  have cW := hC.words
  have cP := hC.P
  have cF := hC.F
  rw [← hRL] at cR
  rw [← hWL] at cW
  have iR : (Tryz.prog.info? 26).map (·.size) = some RL.length := by rw [hRL]; kernel_rfl
  have iW : (Tryz.prog.info? 30).map (·.size) = some WL.length := by rw [hWL]; kernel_rfl
  have uR := Tryz.underlying26
  have uW := Tryz.underlying30
  obtain ⟨RT, hRT⟩ : ∃ r, r = rootB (x.c.F.map txL) := ⟨_, rfl⟩
  have hr32 : RT.length = 32 := by rw [hRT]; exact rootB_len _
  obtain ⟨D, hD⟩ : ∃ D, D = (RT.map B).toArray := ⟨_, rfl⟩
  have HRoot : Seal (∀ W, Below w.heap.size w W → Calls Tryz.prog 12 #[.slice x.aF x.nF x.cF] W fun e w' => e = .returned (.agg D) ∧ Below W.heap.size W w') := ⟨fun W h => by rw [hD, hRT]; exact hroot_any x.aF x.nF x.cF x.c.F W (hG.below h) (hl.of_heap h) hm⟩
  have HText : Seal (∀ (W : World), Calls Tryz.prog 36 #[.slice (some ⟨W.heap.size, 0, none⟩) 4 4] (W.alloc (.cells #[.iface 26 (.agg RL.toArray), .iface 3 (.int .i64 x.c.P), .iface 30 (.agg WL.toArray), .iface 42 (.agg D)] 20)) (ListPost (encL (lfC x.c RT)) W)) := ⟨fun W => by
    have hw : wgts (lfC x.c RT) ≤ 160 := by simp [lfC, wgts, Lf.wgt, hr32]
    have he : [FA.r x.c.L x.c.A x.c.R, .i x.c.P, .w x.c.W1 x.c.W2 x.c.W3, .t RT].flatMap FA.lfs = lfC x.c RT := rfl
    have h := ftext_new [.r x.c.L x.c.A x.c.R, .i x.c.P, .w x.c.W1 x.c.W2 x.c.W3, .t RT] 4 W.heap.size W rfl rfl (by decide) (by rw [he]; simp [lfC]) (by rw [he]; simp [lfC]) (by rw [he]; omega) (by
      intro y hy
      simp only [List.mem_cons, List.not_mem_nil, or_false] at hy
      rcases hy with rfl | rfl | rfl | rfl <;> first | trivial | exact hr32) (by
      rw [he]
      intro y hy
      simp only [lfC, List.mem_cons, List.not_mem_nil, or_false] at hy
      rcases hy with rfl | rfl | rfl | rfl | rfl | rfl | rfl | rfl
      · exact ok.l
      · exact ok.a
      · exact ok.r
      · exact ok.p
      · exact ok.w1
      · exact ok.w2
      · exact ok.w3
      · show RT.length < 2 ^ 63
        rw [hr32]; decide) #[.iface 26 (.agg RL.toArray), .iface 3 (.int .i64 x.c.P), .iface 30 (.agg WL.toArray), .iface 42 (.agg D)] (by rw [hRL, hWL, hD]; rfl)
    rw [he] at h
    exact h⟩
  have hlen : (encL (lfC x.c RT)).length ≤ 300 := by
    have h1 := encL_length (lfC x.c RT)
    have hw : wgts (lfC x.c RT) ≤ 160 := by simp [lfC, wgts, Lf.wgt, hr32]
    omega
  obtain ⟨TX, hTX⟩ : ∃ T, T = encL (lfC x.c RT) := ⟨_, rfl⟩
  rw [← hTX] at HText hlen
  obtain ⟨CD, hCD⟩ : ∃ T, T = ((caseD x.c).map B).toArray := ⟨_, rfl⟩
  have hcd : CD = ((tagged tCase TX).map B).toArray := by rw [hCD, hTX, hRT]; rfl
  have HTag : Seal (∀ (W : World) (g' n' cap' : Nat), Below w.heap.size w W → TX.length = n' → n' ≤ cap' → cap' ≤ 9223372036854775807 → g' < W.heap.size → W.rangeAt g' 0 (TX.map B) → Calls Tryz.prog 14 #[.string ⟨#[99, 97, 115, 101]⟩, .slice (some ⟨g', 0, none⟩) n' cap'] W fun e w' => e = .returned (.agg CD) ∧ Below W.heap.size W w') := ⟨fun W g' n' cap' h h1 h2 h3 h4 h5 => by
    rw [hcd]
    exact tagged_some ⟨#[99, 97, 115, 101]⟩ g' 0 n' cap' TX W (hG.below h) (by decide) (by decide) h1 h2 (by omega) h3 h5 h4⟩
  have ID : Seal ((Tryz.prog.info? 42).map (·.size) = some CD.size ∧ (#[.int .u8 0, .int .u8 0, .int .u8 0, .int .u8 0, .int .u8 0, .int .u8 0, .int .u8 0, .int .u8 0, .int .u8 0, .int .u8 0, .int .u8 0, .int .u8 0, .int .u8 0, .int .u8 0, .int .u8 0, .int .u8 0, .int .u8 0, .int .u8 0, .int .u8 0, .int .u8 0, .int .u8 0, .int .u8 0, .int .u8 0, .int .u8 0, .int .u8 0, .int .u8 0, .int .u8 0, .int .u8 0, .int .u8 0, .int .u8 0, .int .u8 0, .int .u8 0] : Array Value).size = CD.size ∧ CD.all (·.oneCell') = true) := ⟨by rw [hCD, List.size_toArray]; exact dg_info _ (caseD_len x.c), by show 32 = CD.size; rw [hCD, List.size_toArray, List.length_map, caseD_len], by rw [hCD]; simp [Value.oneCell']⟩
  have hXX : X = (w.alloc (.cells x.C.toArray 35)).alloc (.cells #[.int .u8 0, .int .u8 0, .int .u8 0, .int .u8 0, .int .u8 0, .int .u8 0, .int .u8 0, .int .u8 0, .int .u8 0, .int .u8 0, .int .u8 0, .int .u8 0, .int .u8 0, .int .u8 0, .int .u8 0, .int .u8 0, .int .u8 0, .int .u8 0, .int .u8 0, .int .u8 0, .int .u8 0, .int .u8 0, .int .u8 0, .int .u8 0, .int .u8 0, .int .u8 0, .int .u8 0, .int .u8 0, .int .u8 0, .int .u8 0, .int .u8 0, .int .u8 0] 42) := by rw [hX, hX1]
  obtain ⟨CX, hCX⟩ : ∃ C, C = x.C.toArray := ⟨_, rfl⟩
  rw [← hCX] at hXX ⊢
  rw [← hCD]
  obtain ⟨P, hP⟩ : ∃ P, P = x.c.P := ⟨_, rfl⟩
  obtain ⟨vF, hvF⟩ : ∃ v, v = Value.slice x.aF x.nF x.cF := ⟨_, rfl⟩
  rw [← hP] at cP HText
  rw [← hvF] at cF HRoot
  obtain ⟨gx, hgx⟩ : ∃ g, g = w.heap.size := ⟨_, rfl⟩
  rw [← hgx] at cR cW cP cF
  obtain ⟨g2, hg2⟩ : ∃ g, g = w.heap.size + 1 := ⟨_, rfl⟩
  have HG2 : Seal (g2 = w.heap.size + 1 ∧ gx = w.heap.size) := ⟨hg2, hgx⟩
  rw [← hg2] at HB
  clear hX hX1 b1 b2 s1 hC h2 hRL hWL hRT hr32 hD hTX hCD hcd hCX hP hvF hG ok hl hm hlen
  go_enter Tryz.func8, Tryz.ntmps8
  go_upto_region 1 with (fail)
  rw [← hXX, ← hg2, ← hgx]
  clear hXX hg2 hgx
  refine wp_region_held_drew (S := fun W => W.rangeAt gx 0 RL ∧ W.rangeAt gx 7 WL ∧ W.cell? ⟨gx, 6, none⟩ = some (.int .i64 P) ∧ W.cell? ⟨gx, 3, none⟩ = some vF) (by kernel_rfl) ⟨cR, cW, cP, cF⟩ (fun hHeld => ?_)
  obtain ⟨V, hV⟩ : ∃ V, V = X.drew := ⟨_, rfl⟩
  have HY : Seal (Below w.heap.size w V ∧ V.heap[g2]? = some (.cells #[.int .u8 0, .int .u8 0, .int .u8 0, .int .u8 0, .int .u8 0, .int .u8 0, .int .u8 0, .int .u8 0, .int .u8 0, .int .u8 0, .int .u8 0, .int .u8 0, .int .u8 0, .int .u8 0, .int .u8 0, .int .u8 0, .int .u8 0, .int .u8 0, .int .u8 0, .int .u8 0, .int .u8 0, .int .u8 0, .int .u8 0, .int .u8 0, .int .u8 0, .int .u8 0, .int .u8 0, .int .u8 0, .int .u8 0, .int .u8 0, .int .u8 0, .int .u8 0] 42 (0, 0))) := ⟨by rw [hV]; exact HB.out.1.trans ((below_drewn_f _).mono HB.out.1.size), by rw [hV]; exact HB.out.2⟩
  rw [← hV] at hHeld ⊢
  clear hV cR cW cP cF HB
  refine take_h 0 ?_ rfl (by kernel_rfl) (by kernel_rfl) (by kernel_rfl) (fun _ _ _ h => h) (Or.inl ⟨by kernel_rfl, ?_⟩) (by assumption) ?_
  rotate_left
  · (intro w hSw; (try dsimp only at hSw); go_simp; try (with_reducible rfl))
  try simp only [Act.put, List.setIfInBounds_toArray, List.set_cons_zero, List.set_cons_succ]
  refine take_h 1 _ rfl (by kernel_rfl) (by kernel_rfl) (by kernel_rfl) (fun _ _ _ h => h) (yieldsIf_load_mid (by kernel_rfl) 26 (.tmp 3) rfl gx 0 rfl RL _ (fun w hSw => hSw.1) uR rfl iR) (by assumption) ?_
  try simp only [Act.put, List.setIfInBounds_toArray, List.set_cons_zero, List.set_cons_succ]
  refine take_h 2 ?_ rfl (by kernel_rfl) (by kernel_rfl) (by kernel_rfl) (fun _ _ _ h => h) (Or.inl ⟨by kernel_rfl, ?_⟩) (by assumption) ?_
  rotate_left
  · (intro w hSw; (try dsimp only at hSw); go_simp; try (with_reducible rfl))
  try simp only [Act.put, List.setIfInBounds_toArray, List.set_cons_zero, List.set_cons_succ]
  refine take_h 3 ?_ rfl (by kernel_rfl) (by kernel_rfl) (by kernel_rfl) (fun _ _ _ h => h) (Or.inl ⟨by kernel_rfl, ?_⟩) (by assumption) ?_
  rotate_left
  · (intro w hSw; (try dsimp only at hSw); go_simp; try (with_reducible rfl))
  try simp only [Act.put, List.setIfInBounds_toArray, List.set_cons_zero, List.set_cons_succ]
  refine take_h 4 ?_ rfl (by kernel_rfl) (by kernel_rfl) (by kernel_rfl) (fun _ _ _ h => h) (Or.inl ⟨by kernel_rfl, ?_⟩) (by assumption) ?_
  rotate_left
  · (intro w hSw; (try dsimp only at hSw); go_simp; try (with_reducible rfl))
  try simp only [Act.put, List.setIfInBounds_toArray, List.set_cons_zero, List.set_cons_succ]
  refine take_h 5 ?_ rfl (by kernel_rfl) (by kernel_rfl) (by kernel_rfl) (fun _ _ _ h => h) (Or.inl ⟨by kernel_rfl, ?_⟩) (by assumption) ?_
  rotate_left
  · (intro w hSw; (try dsimp only at hSw); go_simp; try (with_reducible rfl))
  try simp only [Act.put, List.setIfInBounds_toArray, List.set_cons_zero, List.set_cons_succ]
  refine take_h 6 ?_ rfl (by kernel_rfl) (by kernel_rfl) (by kernel_rfl) (fun _ _ _ h => h) (Or.inl ⟨by kernel_rfl, ?_⟩) (by assumption) ?_
  rotate_left
  · (intro w hSw; (try dsimp only at hSw); go_simp; try (with_reducible rfl))
  try simp only [Act.put, List.setIfInBounds_toArray, List.set_cons_zero, List.set_cons_succ]
  refine take_h 7 ?_ rfl (by kernel_rfl) (by kernel_rfl) (by kernel_rfl) (fun _ _ _ h => h) (Or.inl ⟨by kernel_rfl, ?_⟩) (by assumption) ?_
  rotate_left
  · (intro w hSw; (try dsimp only at hSw); go_simp; try (with_reducible rfl))
  try simp only [Act.put, List.setIfInBounds_toArray, List.set_cons_zero, List.set_cons_succ]
  refine take_h 8 ?_ rfl (by kernel_rfl) (by kernel_rfl) (by kernel_rfl) (fun _ _ _ h => h) (Or.inl ⟨by kernel_rfl, ?_⟩) (by assumption) ?_
  rotate_left
  · (intro w hSw; (try dsimp only at hSw); go_simp; try (with_reducible rfl))
  try simp only [Act.put, List.setIfInBounds_toArray, List.set_cons_zero, List.set_cons_succ]
  refine take_h 9 _ rfl (by kernel_rfl) (by kernel_rfl) (by kernel_rfl) (fun _ _ _ h => h) (yieldsIf_load_mid (by kernel_rfl) 30 (.tmp 11) rfl gx 7 rfl WL _ (fun w hSw => hSw.2.1) uW rfl iW) (by assumption) ?_
  try simp only [Act.put, List.setIfInBounds_toArray, List.set_cons_zero, List.set_cons_succ]
  refine take_h 10 ?_ rfl (by kernel_rfl) (by kernel_rfl) (by kernel_rfl) (fun _ _ _ h => h) (Or.inl ⟨by kernel_rfl, ?_⟩) (by assumption) ?_
  rotate_left
  · (intro w hSw; (try dsimp only at hSw); go_simp; try (with_reducible rfl))
  try simp only [Act.put, List.setIfInBounds_toArray, List.set_cons_zero, List.set_cons_succ]
  refine take_h 11 ?_ rfl (by kernel_rfl) (by kernel_rfl) (by kernel_rfl) (fun _ _ _ h => h) (Or.inl ⟨by kernel_rfl, ?_⟩) (by assumption) ?_
  rotate_left
  · (intro w hSw; (try dsimp only at hSw); go_simp; try (with_reducible rfl))
  try simp only [Act.put, List.setIfInBounds_toArray, List.set_cons_zero, List.set_cons_succ]
  refine take_h 12 ?_ rfl (by kernel_rfl) (by kernel_rfl) (by kernel_rfl) (fun _ _ _ h => h) (Or.inl ⟨by kernel_rfl, ?_⟩) (by assumption) ?_
  rotate_left
  · (intro w hSw; (try dsimp only at hSw); go_simp; try (with_reducible rfl))
  try simp only [Act.put, List.setIfInBounds_toArray, List.set_cons_zero, List.set_cons_succ]
  refine call_h 13 rfl (by kernel_rfl) 12 #[vF] (by kernel_rfl) (by go_simp) ?_
  refine (HRoot.out V HY.out.1).mono ?_
  rintro e V1 ⟨rfl, hb⟩
  have HY2 : Seal (Below w.heap.size w V1 ∧ (V1).heap[g2]? = some (.cells #[.int .u8 0, .int .u8 0, .int .u8 0, .int .u8 0, .int .u8 0, .int .u8 0, .int .u8 0, .int .u8 0, .int .u8 0, .int .u8 0, .int .u8 0, .int .u8 0, .int .u8 0, .int .u8 0, .int .u8 0, .int .u8 0, .int .u8 0, .int .u8 0, .int .u8 0, .int .u8 0, .int .u8 0, .int .u8 0, .int .u8 0, .int .u8 0, .int .u8 0, .int .u8 0, .int .u8 0, .int .u8 0, .int .u8 0, .int .u8 0, .int .u8 0, .int .u8 0] 42 (0, 0))) := ⟨HY.out.1.trans (hb.mono HY.out.1.size), (hb.block _ (Array.getElem?_eq_some_iff.1 HY.out.2).1).trans HY.out.2⟩
  have hS2 := And.intro (rangeAt_below' hHeld.1 hb) (And.intro (rangeAt_below' hHeld.2.1 hb) (And.intro (cell_below' hb hHeld.2.2.1) (cell_below' hb hHeld.2.2.2)))
  refine ⟨_, rfl, hS2, fun hHeld2 => ?_⟩
  clear HY hHeld hb hS2
  have HY := HY2
  have hHeld := hHeld2
  clear HY2 hHeld2
  try simp only [Act.put, List.setIfInBounds_toArray, List.set_cons_zero, List.set_cons_succ]
  refine take_h 14 ?_ rfl (by kernel_rfl) (by kernel_rfl) (by kernel_rfl) (fun _ _ _ h => h) (Or.inl ⟨by kernel_rfl, ?_⟩) (by assumption) ?_
  rotate_left
  · (intro w hSw; (try dsimp only at hSw); go_simp; try (with_reducible rfl))
  try simp only [Act.put, List.setIfInBounds_toArray, List.set_cons_zero, List.set_cons_succ]
  have hb := below_alloc V1 (.cells #[.iface 26 (.agg RL.toArray), .iface 3 (.int .i64 P), .iface 30 (.agg WL.toArray), .iface 42 (.agg D)] 20)
  have hS2 := And.intro (rangeAt_below' hHeld.1 hb) (And.intro (rangeAt_below' hHeld.2.1 hb) (And.intro (cell_below' hb hHeld.2.2.1) (cell_below' hb hHeld.2.2.2)))
  refine oper_h 15 (.slice (some ⟨V1.heap.size, 0, none⟩) 4 4) (V1.alloc (.cells #[.iface 26 (.agg RL.toArray), .iface 3 (.int .i64 P), .iface 30 (.agg WL.toArray), .iface 42 (.agg D)] 20)) rfl (by kernel_rfl) (by kernel_rfl) (by go_simp; try rfl) hS2 (fun hHeld3 => ?_)
  clear hb hS2 hHeld3
  try simp only [Act.put, List.setIfInBounds_toArray, List.set_cons_zero, List.set_cons_succ]
  refine call_h 16 rfl (by kernel_rfl) 36 #[.slice (some ⟨V1.heap.size, 0, none⟩) 4 4] (by kernel_rfl) (by go_simp) ?_
  refine (HText.out V1).mono ?_
  rintro e V2 ⟨g', n', cap', hn', rfl, hf⟩
  have hb := hf.out.2.2.2.2
  have HY2 : Seal (Below w.heap.size w V2 ∧ (V2).heap[g2]? = some (.cells #[.int .u8 0, .int .u8 0, .int .u8 0, .int .u8 0, .int .u8 0, .int .u8 0, .int .u8 0, .int .u8 0, .int .u8 0, .int .u8 0, .int .u8 0, .int .u8 0, .int .u8 0, .int .u8 0, .int .u8 0, .int .u8 0, .int .u8 0, .int .u8 0, .int .u8 0, .int .u8 0, .int .u8 0, .int .u8 0, .int .u8 0, .int .u8 0, .int .u8 0, .int .u8 0, .int .u8 0, .int .u8 0, .int .u8 0, .int .u8 0, .int .u8 0, .int .u8 0] 42 (0, 0))) := ⟨HY.out.1.trans (hb.mono HY.out.1.size), (hb.block _ (Array.getElem?_eq_some_iff.1 HY.out.2).1).trans HY.out.2⟩
  have hS2 := And.intro (rangeAt_below' hHeld.1 hb) (And.intro (rangeAt_below' hHeld.2.1 hb) (And.intro (cell_below' hb hHeld.2.2.1) (cell_below' hb hHeld.2.2.2)))
  have HF := Seal.mk (And.intro hn'.out (And.intro hf.out.1 (And.intro hf.out.2.1 (And.intro hf.out.2.2.1 hf.out.2.2.2.1))))
  clear hf hn'
  refine ⟨_, rfl, hS2, fun hHeld2 => ?_⟩
  clear HY hHeld hb hS2
  have HY := HY2
  have hHeld := hHeld2
  clear HY2 hHeld2
  try simp only [Act.put, List.setIfInBounds_toArray, List.set_cons_zero, List.set_cons_succ]
  refine call_h 17 rfl (by kernel_rfl) 14 #[.string ⟨#[99, 97, 115, 101]⟩, .slice (some ⟨g', 0, none⟩) n' cap'] (by kernel_rfl) (by go_simp; try rfl) ?_
  refine (HTag.out V2 g' n' cap' HY.out.1 HF.out.1 HF.out.2.1 HF.out.2.2.1 HF.out.2.2.2.1 HF.out.2.2.2.2).mono ?_
  rintro e V3 ⟨rfl, hb⟩
  have HY2 : Seal (Below w.heap.size w V3 ∧ (V3).heap[g2]? = some (.cells #[.int .u8 0, .int .u8 0, .int .u8 0, .int .u8 0, .int .u8 0, .int .u8 0, .int .u8 0, .int .u8 0, .int .u8 0, .int .u8 0, .int .u8 0, .int .u8 0, .int .u8 0, .int .u8 0, .int .u8 0, .int .u8 0, .int .u8 0, .int .u8 0, .int .u8 0, .int .u8 0, .int .u8 0, .int .u8 0, .int .u8 0, .int .u8 0, .int .u8 0, .int .u8 0, .int .u8 0, .int .u8 0, .int .u8 0, .int .u8 0, .int .u8 0, .int .u8 0] 42 (0, 0))) := ⟨HY.out.1.trans (hb.mono HY.out.1.size), (hb.block _ (Array.getElem?_eq_some_iff.1 HY.out.2).1).trans HY.out.2⟩
  have hS2 := And.intro (rangeAt_below' hHeld.1 hb) (And.intro (rangeAt_below' hHeld.2.1 hb) (And.intro (cell_below' hb hHeld.2.2.1) (cell_below' hb hHeld.2.2.2)))
  refine ⟨_, rfl, hS2, fun hHeld2 => ?_⟩
  clear HY hHeld hb hS2
  have HY := HY2
  have hHeld := hHeld2
  clear HY2 hHeld2
  try simp only [Act.put, List.setIfInBounds_toArray, List.set_cons_zero, List.set_cons_succ]
  obtain ⟨Z, hZ⟩ : ∃ Z, Z = V3.setRow g2 CD := ⟨_, rfl⟩
  have hot : ∀ k, k ≠ g2 → Z.heap[k]? = V3.heap[k]? := fun k hk => by rw [hZ]; exact setRow_other _ _ _ _ hk
  have hne : gx ≠ g2 := by have := HG2.out; omega
  have hS2 : Z.rangeAt gx 0 RL ∧ Z.rangeAt gx 7 WL ∧ Z.cell? ⟨gx, 6, none⟩ = some (.int .i64 P) ∧ Z.cell? ⟨gx, 3, none⟩ = some vF := ⟨fun j u hu => (World.cell?_of_block (w := V3) (hot gx hne)).trans (hHeld.1 j u hu), fun j u hu => (World.cell?_of_block (w := V3) (hot gx hne)).trans (hHeld.2.1 j u hu), (World.cell?_of_block (w := V3) (hot gx hne)).trans hHeld.2.2.1, (World.cell?_of_block (w := V3) (hot gx hne)).trans hHeld.2.2.2⟩
  have HZ : Seal (Below w.heap.size w Z ∧ Z.heap[g2]? = some (.cells CD 42 (0, 0))) := ⟨by rw [hZ]; exact below_row HY.out.1 (by have := HG2.out; omega) _, by rw [hZ]; exact setRow_heap _ _ _ _ _ _ HY.out.2⟩
  refine skip_h 18 Z rfl (by kernel_rfl) (by kernel_rfl) (by rw [hZ]; exact exec_store_row 42 (.tmp 2) (.tmp 20) rfl g2 CD rfl rfl 42 _ HY.out.2 ID.out.1 ID.out.2.1 ID.out.2.2) hS2 (fun hHeld2 => ?_)
  clear hHeld2 hS2 hot hne hZ hHeld
  try simp only [Act.put]
  refine wpAnyH_done (by kernel_rfl) ?_ _
  go_wp2
  exact bodyPost_ret (results_cell_row (fn := Tryz.f8) rfl _ _ g2 42 CD (0, 0) _ rfl HZ.out.2 Tryz.underlying42 rfl ID.out.1) rfl ⟨rfl, HZ.out.1⟩
end Frk
