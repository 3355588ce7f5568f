/- Parts of the proof, joined. -/
import Derived.Test.YtllbjakfjpjfnaaGreatDoorVxFad
import Derived.Test.YtllbjakfjpjfnaaGreatDoorVxDin
/- Law 57: Few; the examples. -/
namespace Frk
open Go Go.RowKit Go.Proofs
set_option maxRecDepth 100000

def fewF (nE nO nP nK nF : Nat) : Bool := decide (nE ≤ 40) && (decide (nO ≤ 12) && (decide (nP ≤ 40) && (decide (nK ≤ 30) && decide (nF ≤ 70))))
theorem fewF_iff {nE nO nP nK nF : Nat} : fewF nE nO nP nK nF = true ↔ nE ≤ 40 ∧ nO ≤ 12 ∧ nP ≤ 40 ∧ nK ≤ 30 ∧ nF ≤ 70 := by unfold fewF; simp
set_option maxHeartbeats 4000000 in
theorem ffew_any (aE aO aP : Option Addr) (nE cE nO cO nP cP : Nat) (x : CaX) (w : World) :
    Calls Tryz.prog 5 #[.slice aE nE cE, .slice aO nO cO, .slice aP nP cP, .agg x.C.toArray] w fun e w' => e = .returned (.bool (fewF nE nO nP x.nK x.nF)) ∧ Below w.heap.size w w' := by
  obtain ⟨X, hX⟩ : ∃ X : World, X = w.alloc (.cells x.C.toArray 35) := ⟨_, rfl⟩
  have HB : Seal (Below w.heap.size w X) := ⟨by rw [hX]; exact below_alloc _ _⟩
  obtain ⟨gx, hgx⟩ : ∃ g, g = w.heap.size := ⟨_, rfl⟩
  have hC : CaAt X gx x := by rw [hgx]; exact caAt_of (rangeAt_row (by rw [hX]; exact heap_alloc_new w _))
  obtain ⟨nF, hnF⟩ : ∃ A, A = x.nF := ⟨_, rfl⟩
  obtain ⟨nK, hnK⟩ : ∃ A, A = x.nK := ⟨_, rfl⟩
  have k3 := hC.F
  have k4 := hC.K
  rw [← hnF] at k3
  rw [← hnK] at k4
  obtain ⟨R, hR⟩ : ∃ R, R = fewF nE nO nP nK nF := ⟨_, rfl⟩
  have HR := Seal.mk hR
  obtain ⟨CX, hCX⟩ : ∃ C, C = x.C.toArray := ⟨_, rfl⟩
  rw [← hCX] at hX ⊢
  rw [← hnF, ← hnK, ← hR]
  clear hnF hnK hCX hR hC
  by_cases a1 : nE ≤ 40
  · have q1 : (nE : Int) ≤ 40 := by omega
    by_cases a2 : nO ≤ 12
    · have q2 : (nO : Int) ≤ 12 := by omega
      by_cases a3 : nP ≤ 40
      · have q3 : (nP : Int) ≤ 40 := by omega
        by_cases a4 : nK ≤ 30
        · have q4 : (nK : Int) ≤ 30 := by omega
          by_cases a5 : nF ≤ 70
          · have q5 : (nF : Int) ≤ 70 := by omega
            have HF : Seal (R = true) := ⟨by rw [HR.out]; exact fewF_iff.2 ⟨a1, a2, a3, a4, a5⟩⟩
            go_enter Tryz.func5, Tryz.ntmps5
            go_upto_region 1 with (fail)
            rw [← hX, ← hgx]
            clear hX hgx
            go_wp2
            go_ret
            exact ⟨by rw [HF.out]; first | rfl | simp [q5], HB.out⟩
          · have q5 : ¬ (nF : Int) ≤ 70 := by omega
            have HF : Seal (R = false) := ⟨by
              rw [HR.out]
              cases h : fewF nE nO nP nK nF with
              | false => rfl
              | true => exact absurd (fewF_iff.1 h).2.2.2.2 a5⟩
            go_enter Tryz.func5, Tryz.ntmps5
            go_upto_region 1 with (fail)
            rw [← hX, ← hgx]
            clear hX hgx
            go_wp2
            go_ret
            exact ⟨by rw [HF.out]; first | rfl | simp [q5], HB.out⟩
        · have q4 : ¬ (nK : Int) ≤ 30 := by omega
          have HF : Seal (R = false) := ⟨by
            rw [HR.out]
            cases h : fewF nE nO nP nK nF with
            | false => rfl
            | true =>
              obtain ⟨h1, h2, h3, h4, h5⟩ := fewF_iff.1 h
              omega⟩
          go_enter Tryz.func5, Tryz.ntmps5
          go_upto_region 1 with (fail)
          rw [← hX, ← hgx]
          clear hX hgx
          go_wp2
          go_ret
          exact ⟨by rw [HF.out]; first | rfl | simp [*], HB.out⟩
      · have q3 : ¬ (nP : Int) ≤ 40 := by omega
        have HF : Seal (R = false) := ⟨by
          rw [HR.out]
          cases h : fewF nE nO nP nK nF with
          | false => rfl
          | true =>
            obtain ⟨h1, h2, h3, h4, h5⟩ := fewF_iff.1 h
            omega⟩
        go_enter Tryz.func5, Tryz.ntmps5
        go_upto_region 1 with (fail)
        rw [← hX, ← hgx]
        clear hX hgx
        go_wp2
        go_ret
        exact ⟨by rw [HF.out]; first | rfl | simp [*], HB.out⟩
    · have q2 : ¬ (nO : Int) ≤ 12 := by omega
      have HF : Seal (R = false) := ⟨by
        rw [HR.out]
        cases h : fewF nE nO nP nK nF with
        | false => rfl
        | true =>
          obtain ⟨h1, h2, h3, h4, h5⟩ := fewF_iff.1 h
          omega⟩
      go_enter Tryz.func5, Tryz.ntmps5
      go_upto_region 1 with (fail)
      rw [← hX, ← hgx]
      clear hX hgx
      go_wp2
      go_ret
      exact ⟨by rw [HF.out]; first | rfl | simp [*], HB.out⟩
  · have q1 : ¬ (nE : Int) ≤ 40 := by omega
    have HF : Seal (R = false) := ⟨by
      rw [HR.out]
      cases h : fewF nE nO nP nK nF with
      | false => rfl
      | true =>
        obtain ⟨h1, h2, h3, h4, h5⟩ := fewF_iff.1 h
        omega⟩
    go_enter Tryz.func5, Tryz.ntmps5
    go_upto_region 1 with (fail)
    rw [← hX, ← hgx]
    clear hX hgx
    go_wp2
    go_ret
    exact ⟨by rw [HF.out]; first | rfl | simp [*], HB.out⟩

/-! ## the examples -/
def exE : List Ep := [⟨0, 0, 4⟩, ⟨3, 5, 16⟩, ⟨3, 50, 64⟩]
def exC : Cas := { L := 1, A := 10, R := 20, P := 0, W1 := 7, W2 := 8, W3 := 9, T := 30, F := [[0, 0, 0, 0, 0, 0], [0, 0, 0, 0, 0, 0]], K := [4, 16] }
def exX (gF gK : Nat) (vJ : Value) : CaX := { c := exC, aF := some ⟨gF, 0, none⟩, nF := 2, cF := 2, aK := some ⟨gK, 0, none⟩, nK := 2, cK := 2, vJ := vJ, vS := .slice none 0 0, r1 := .int .i64 0, r2 := .int .i64 0, r3 := .int .i64 0 }
def noC : Cas := { L := 0, A := 0, R := 0, P := 0, W1 := 0, W2 := 0, W3 := 0, T := 0, F := [], K := [] }
def noX : CaX := { c := noC, aF := none, nF := 0, cF := 0, aK := none, nK := 0, cK := 0, vJ := .slice none 0 0, vS := .slice none 0 0, r1 := .int .i64 0, r2 := .int .i64 0, r3 := .int .i64 0 }
theorem results_last3 {P : Program} {fn : Func} {p q r : Tmp} {ty : TypeId} (h : fn.results = #[.tmp q, .tmp r, .cell p ty]) (tmps : Array Value) (w : World) (g : Nat) (t : TypeId) (cs : Array Value) (fr : Nat × Nat) (d : TypeDesc) (v u : Value)
    (hp : tmps.getD p undef = .pointer (some ⟨g, 0, none⟩)) (hq : tmps.getD q undef = v) (hr : tmps.getD r undef = u) (hg : w.heap[g]? = some (.cells cs t fr))
    (hu : P.underlying ty = some d) (hd : (match d with | .struct _ | .array _ _ => true | _ => false) = true) (hi : (P.info? ty).map (·.size) = some cs.size) :
    (results fn tmps).run P w = .ok (.tuple #[v, u, .agg cs]) w := by
  have hp' : tmps[p]?.getD undef = .pointer (some ⟨g, 0, none⟩) := by simpa using hp
  have hq' : tmps[q]?.getD undef = v := by simpa using hq
  have hr' : tmps[r]?.getD undef = u := by simpa using hr
  simp [results, h, hp', hq', hr', asAddr, run_loadVar_row w g t ty cs fr d hg hu hd hi]

theorem okS_zero : okS [0, 0, 0, 0, 0, 0] := by
  refine ⟨rfl, fun y hy => ?_⟩
  simp only [List.mem_cons, List.not_mem_nil, or_false, or_self] at hy
  rw [hy]
  exact ⟨by decide, by decide⟩
theorem exC_val (gF gK : Nat) : (exX gF gK (.slice none 0 0)).C.toArray = #[.int .i64 1, .int .i64 10, .int .i64 20, .slice (some ⟨gF, 0, none⟩) 2 2, .slice (some ⟨gK, 0, none⟩) 2 2, .slice none 0 0, .int .i64 0, .int .i64 7, .int .i64 8, .int .i64 9, .int .i64 0, .int .i64 0, .int .i64 0, .slice none 0 0, .int .i64 30] := rfl
set_option maxHeartbeats 4000000 in
theorem fcomplaint_any (w : World) : Calls Tryz.prog 11 #[] w fun e w' => ∃ gE gO gF gK, e = .returned (.tuple #[.slice (some ⟨gE, 0, none⟩) 3 3, .slice (some ⟨gO, 0, none⟩) 2 2, .agg (exX gF gK (.slice none 0 0)).C.toArray]) ∧
    Seal (IsE w' (some ⟨gE, 0, none⟩) 3 3 exE ∧ IsIs w' (some ⟨gO, 0, none⟩) 2 2 [0, 3] ∧ IsL w' (some ⟨gF, 0, none⟩) 2 2 exC.F ∧ IsIs w' (some ⟨gK, 0, none⟩) 2 2 exC.K) ∧ Below w.heap.size w w' := by
  have mk0 : ∀ w, (Instr.makeSlice 27 (.int .i64 2) (.int .i64 2)).run Tryz.prog w = .ok (.slice (some ⟨w.heap.size, 0, none⟩) 2 2) (w.alloc (.cells #[.int .i64 0, .int .i64 0, .int .i64 0, .int .i64 0, .int .i64 0, .int .i64 0, .int .i64 0, .int .i64 0, .int .i64 0, .int .i64 0, .int .i64 0, .int .i64 0] 118)) := fun _ => by kernel_rfl
  obtain ⟨g1, hg1⟩ : ∃ g, g = w.heap.size + 1 := ⟨_, rfl⟩
  obtain ⟨g2, hg2⟩ : ∃ g, g = g1 + 1 := ⟨_, rfl⟩
  obtain ⟨g3, hg3⟩ : ∃ g, g = g2 + 1 := ⟨_, rfl⟩
  obtain ⟨CX, hCX⟩ : ∃ C : List Value, C = [.int .i64 1, .int .i64 10, .int .i64 20, .slice (some ⟨g3, 0, none⟩) 2 2, .slice (some ⟨g2, 0, none⟩) 2 2, .slice none 0 0, .int .i64 0, .int .i64 7, .int .i64 8, .int .i64 9, .int .i64 0, .int .i64 0, .int .i64 0, .slice none 0 0, .int .i64 30] := ⟨_, rfl⟩
  obtain ⟨X1, hX1⟩ : ∃ X : World, X = w.alloc (.cells CX.toArray 35) := ⟨_, rfl⟩
  obtain ⟨X2, hX2⟩ : ∃ X : World, X = X1.alloc (.cells #[.int .i64 0, .int .i64 0, .int .i64 4, .int .i64 3, .int .i64 5, .int .i64 16, .int .i64 3, .int .i64 50, .int .i64 64] 80) := ⟨_, rfl⟩
  obtain ⟨X3, hX3⟩ : ∃ X : World, X = X2.alloc (.cells #[.int .i64 4, .int .i64 16] 3) := ⟨_, rfl⟩
  obtain ⟨X, hX⟩ : ∃ X : World, X = X3.alloc (.cells #[.int .i64 0, .int .i64 0, .int .i64 0, .int .i64 0, .int .i64 0, .int .i64 0, .int .i64 0, .int .i64 0, .int .i64 0, .int .i64 0, .int .i64 0, .int .i64 0] 118) := ⟨_, rfl⟩
  have b1 : Below w.heap.size w X1 := by rw [hX1]; exact below_alloc _ _
  have b2 : Below X1.heap.size X1 X2 := by rw [hX2]; exact below_alloc _ _
  have b3 : Below X2.heap.size X2 X3 := by rw [hX3]; exact below_alloc _ _
  have b4 : Below X3.heap.size X3 X := by rw [hX]; exact below_alloc _ _
  have s1 : X1.heap.size = g1 := by rw [hX1, size_alloc, hg1]
  have s2 : X2.heap.size = g2 := by rw [hX2, size_alloc, s1, hg2]
  have s3 : X3.heap.size = g3 := by rw [hX3, size_alloc, s2, hg3]
  have h0 : X.heap[w.heap.size]? = some (.cells CX.toArray 35 (0, 0)) := by
    refine (b4.block _ (by omega)).trans ((b3.block _ (by omega)).trans ((b2.block _ (by omega)).trans ?_))
    rw [hX1]; exact heap_alloc_new w _
  have h1 : X.heap[g1]? = some (.cells #[.int .i64 0, .int .i64 0, .int .i64 4, .int .i64 3, .int .i64 5, .int .i64 16, .int .i64 3, .int .i64 50, .int .i64 64] 80 (0, 0)) := by
    refine (b4.block _ (by omega)).trans ((b3.block _ (by omega)).trans ?_)
    rw [← s1, hX2]; exact heap_alloc_new X1 _
  have h2 : X.heap[g2]? = some (.cells #[.int .i64 4, .int .i64 16] 3 (0, 0)) := by
    refine (b4.block _ (by omega)).trans ?_
    rw [← s2, hX3]; exact heap_alloc_new X2 _
  have h3 : X.heap[g3]? = some (.cells #[.int .i64 0, .int .i64 0, .int .i64 0, .int .i64 0, .int .i64 0, .int .i64 0, .int .i64 0, .int .i64 0, .int .i64 0, .int .i64 0, .int .i64 0, .int .i64 0] 118 (0, 0)) := by
    rw [← s3, hX]; exact heap_alloc_new X3 _
  have sX : X.heap.size = g3 + 1 := by rw [hX, size_alloc, s3]
  have HB : Seal (Below w.heap.size w X ∧ X.heap[w.heap.size]? = some (.cells CX.toArray 35 (0, 0)) ∧ X.heap[g1]? = some (.cells #[.int .i64 0, .int .i64 0, .int .i64 4, .int .i64 3, .int .i64 5, .int .i64 16, .int .i64 3, .int .i64 50, .int .i64 64] 80 (0, 0)) ∧ X.heap[g2]? = some (.cells #[.int .i64 4, .int .i64 16] 3 (0, 0)) ∧ X.heap[g3]? = some (.cells #[.int .i64 0, .int .i64 0, .int .i64 0, .int .i64 0, .int .i64 0, .int .i64 0, .int .i64 0, .int .i64 0, .int .i64 0, .int .i64 0, .int .i64 0, .int .i64 0] 118 (0, 0))) :=
    ⟨b1.trans ((b2.mono (by omega)).trans ((b3.mono (by omega)).trans (b4.mono (by omega)))), h0, h1, h2, h3⟩
  have hXX : X = (((w.alloc (.cells #[.int .i64 1, .int .i64 10, .int .i64 20, .slice (some ⟨g3, 0, none⟩) 2 2, .slice (some ⟨g2, 0, none⟩) 2 2, .slice none 0 0, .int .i64 0, .int .i64 7, .int .i64 8, .int .i64 9, .int .i64 0, .int .i64 0, .int .i64 0, .slice none 0 0, .int .i64 30] 35)).alloc (.cells #[.int .i64 0, .int .i64 0, .int .i64 4, .int .i64 3, .int .i64 5, .int .i64 16, .int .i64 3, .int .i64 50, .int .i64 64] 80)).alloc (.cells #[.int .i64 4, .int .i64 16] 3)).alloc (.cells #[.int .i64 0, .int .i64 0, .int .i64 0, .int .i64 0, .int .i64 0, .int .i64 0, .int .i64 0, .int .i64 0, .int .i64 0, .int .i64 0, .int .i64 0, .int .i64 0] 118) := by
    rw [hX, hX3, hX2, hX1, hCX]
  have HK : Seal (CX.toArray = #[.int .i64 1, .int .i64 10, .int .i64 20, .slice (some ⟨g3, 0, none⟩) 2 2, .slice (some ⟨g2, 0, none⟩) 2 2, .slice none 0 0, .int .i64 0, .int .i64 7, .int .i64 8, .int .i64 9, .int .i64 0, .int .i64 0, .int .i64 0, .slice none 0 0, .int .i64 30]) := ⟨by rw [hCX]⟩
  have iC : (Tryz.prog.info? 35).map (·.size) = some CX.length := by rw [hCX]; kernel_rfl
  have uC := Tryz.underlying35
  have HC : Seal ((CX.toArray : Array Value).all (·.oneCell') = true) := ⟨by rw [hCX]; simp [Value.oneCell']⟩
  have HS : Seal (g1 = w.heap.size + 1 ∧ g2 = g1 + 1 ∧ g3 = g2 + 1 ∧ X.heap.size = g3 + 1) := ⟨hg1, hg2, hg3, sX⟩
  obtain ⟨g0, hg0⟩ : ∃ g, g = w.heap.size := ⟨_, rfl⟩
  have HG0 := Seal.mk hg0
  rw [← hg0] at h0
  have c0 := rangeAt_row h0
  clear hX hX1 hX2 hX3 b1 b2 b3 b4 s1 s2 s3 h0 h1 h2 h3 sX hCX
  go_enter Tryz.func11, Tryz.ntmps11
  go_wp2_with fail
  rw [← hg1, ← hg2, ← hg3, ← hXX]
  rw [← hg0]
  clear hXX hg0 hg1 hg2 hg3 mk0
  refine wp_region_held_drew (S := fun W => W.rangeAt g0 0 CX) (by kernel_rfl) c0 (fun hHeld => ?_)
  obtain ⟨V, hV⟩ : ∃ V, V = X.drew := ⟨_, rfl⟩
  have HV : Seal (Below X.heap.size X V) := ⟨by rw [hV]; exact below_drewn_f _⟩
  rw [← hV] at hHeld ⊢
  clear hV c0
  refine take_h 0 ?_ rfl (by kernel_rfl) (by kernel_rfl) (by kernel_rfl) (fun _ _ _ h => h) (Or.inl ⟨by kernel_rfl, ?_⟩) (by assumption) ?_
  rotate_left
  · (intro w hSw; (try dsimp only at hSw); go_simp; try (with_reducible rfl))
  try simp only [Act.put, List.setIfInBounds_toArray, List.set_cons_zero, List.set_cons_succ]
  refine take_h 2 _ rfl (by kernel_rfl) (by kernel_rfl) (by kernel_rfl) (fun _ _ _ h => h) (yieldsIf_load_mid (by kernel_rfl) 35 (.tmp 2) rfl g0 0 rfl CX _ (fun w hSw => hSw) uC rfl iC) (by assumption) ?_
  try simp only [Act.put, List.setIfInBounds_toArray, List.set_cons_zero, List.set_cons_succ]
  refine take_h 3 ?_ rfl (by kernel_rfl) (by kernel_rfl) (by kernel_rfl) (fun _ _ _ h => h) (Or.inl ⟨by kernel_rfl, ?_⟩) (by assumption) ?_
  rotate_left
  · (intro w hSw; (try dsimp only at hSw); go_simp; try (with_reducible rfl))
  try simp only [Act.put, List.setIfInBounds_toArray, List.set_cons_zero]
  have hb := below_alloc V (.cells #[.int .i64 0, .int .i64 3] 3)
  have hS2 := rangeAt_below' hHeld hb
  refine oper_h 1 (.slice (some ⟨V.heap.size, 0, none⟩) 2 2) (V.alloc (.cells #[.int .i64 0, .int .i64 3] 3)) rfl (by kernel_rfl) (by kernel_rfl) (by go_simp; try rfl) hS2 (fun hHeld2 => ?_)
  try simp only [Act.put, List.setIfInBounds_toArray, List.set_cons_zero, List.set_cons_succ]
  refine take_h 4 ?_ rfl (by kernel_rfl) (by kernel_rfl) (by kernel_rfl) (fun _ _ _ h => h) (Or.inl ⟨by kernel_rfl, ?_⟩) (by assumption) ?_
  rotate_left
  · (intro w hSw; (try dsimp only at hSw); go_simp; try (with_reducible rfl))
  try simp only [Act.put, List.setIfInBounds_toArray, List.set_cons_zero, List.set_cons_succ]
  obtain ⟨Y, hY⟩ : ∃ Y, Y = V.alloc (.cells #[.int .i64 0, .int .i64 3] 3) := ⟨_, rfl⟩
  have bY : Below V.heap.size V Y := by rw [hY]; exact below_alloc _ _
  have dY : Y.heap[V.heap.size]? = some (.cells #[.int .i64 0, .int .i64 3] 3 (0, 0)) := by rw [hY]; exact heap_alloc_new V _
  rw [← hY] at hS2 ⊢
  clear hY hHeld hHeld2 hb
  have l1 := HS.out
  have l2 := HG0.out
  have lV : X.heap.size ≤ V.heap.size := HV.out.size
  have bXY : Below X.heap.size X Y := HV.out.trans (bY.mono lV)
  have e0 : Y.heap[g0]? = some (.cells CX.toArray 35 (0, 0)) := (bXY.block _ (by omega)).trans (by rw [l2]; exact HB.out.2.1)
  have e1 := (bXY.block g1 (by omega)).trans HB.out.2.2.1
  have e2 := (bXY.block g2 (by omega)).trans HB.out.2.2.2.1
  have e3 := (bXY.block g3 (by omega)).trans HB.out.2.2.2.2
  obtain ⟨Z, hZ⟩ : ∃ Z, Z = Y.setRow g0 CX.toArray := ⟨_, rfl⟩
  have hot : ∀ k, k ≠ g0 → Z.heap[k]? = Y.heap[k]? := fun k hk => by rw [hZ]; exact setRow_other _ _ _ _ hk
  have z0 : Z.heap[g0]? = some (.cells CX.toArray 35 (0, 0)) := by rw [hZ]; exact setRow_heap _ _ _ _ _ _ e0
  have z1 := (hot g1 (by omega)).trans e1
  have z2 := (hot g2 (by omega)).trans e2
  have z3 := (hot g3 (by omega)).trans e3
  have z4 := (hot V.heap.size (by omega)).trans dY
  have lt : ∀ {k : Nat} {o : Obj}, Z.heap[k]? = some o → k < Z.heap.size := fun h => (Array.getElem?_eq_some_iff.1 h).1
  have HZ : Seal (Below w.heap.size w Z) := ⟨by rw [hZ]; exact below_row ((HB.out.1).trans (bXY.mono HB.out.1.size)) (by omega) _⟩
  have HE : Seal (Z.heap[g0]? = some (.cells CX.toArray 35 (0, 0)) ∧ (IsE Z (some ⟨g1, 0, none⟩) 3 3 exE ∧ IsIs Z (some ⟨V.heap.size, 0, none⟩) 2 2 [0, 3] ∧ IsL Z (some ⟨g3, 0, none⟩) 2 2 exC.F ∧ IsIs Z (some ⟨g2, 0, none⟩) 2 2 exC.K)) := by
    refine ⟨z0, ⟨rfl, by decide, by decide, by decide, ?_, .inr ⟨_, 0, rfl, rangeAt_row (cs := _) z1, lt z1⟩⟩, ⟨rfl, by decide, by decide, by decide, ?_, .inr ⟨_, 0, rfl, rangeAt_row (cs := _) z4, lt z4⟩⟩, ⟨rfl, by decide, by decide, by decide, ?_, .inr ⟨_, 0, rfl, rangeAt_row (cs := _) z3, lt z3⟩⟩, ⟨rfl, by decide, by decide, by decide, ?_, .inr ⟨_, 0, rfl, rangeAt_row (cs := _) z2, lt z2⟩⟩⟩
    · intro x _; rfl
    · intro x _; rfl
    · intro x hx
      have : x = [0, 0, 0, 0, 0, 0] := by simpa [exC] using hx
      rw [this]; exact okS_zero
    · intro x _; rfl
  refine skip_h 5 Z rfl (by kernel_rfl) (by kernel_rfl) (by rw [hZ]; exact exec_store_row 35 (.tmp 2) (.tmp 16) rfl g0 CX.toArray rfl rfl 35 _ e0 (by rw [List.size_toArray]; exact iC) rfl HC.out) (fun j u hu => by rw [cell_of_row _ _ _ _ _ _ z0, Nat.zero_add, List.getElem?_toArray]; exact hu) (fun hHeld2 => ?_)
  clear hHeld2 hS2 hot hZ e0 e1 e2 e3 z0 z1 z2 z3 z4 lt bXY bY dY l1 l2 lV
  try simp only [Act.put]
  refine wpAnyH_done (by kernel_rfl) ?_ _
  go_wp2
  exact bodyPost_ret (results_last3 (fn := Tryz.f11) rfl _ _ g0 35 CX.toArray (0, 0) _ (.slice (some ⟨g1, 0, none⟩) 3 3) (.slice (some ⟨V.heap.size, 0, none⟩) 2 2) rfl rfl rfl HE.out.1 Tryz.underlying35 rfl (by rw [List.size_toArray]; exact iC)) rfl ⟨g1, V.heap.size, g3, g2, by rw [exC_val, HK.out], ⟨HE.out.2⟩, HZ.out⟩
end Frk

/- A slice of digests of one's own is one that may be read. -/
namespace Frk
open Go Go.RowKit Go.Proofs
set_option maxRecDepth 100000

theorem disD_own {w : World} {base n g c : Nat} {l : List Bytes} (h : OwnD w base (.slice (some ⟨g, 0, none⟩) n c) n l) (hl : l.length = n) (he : ∀ d ∈ l, d.length = 32) (hn : n ≤ 1099511627776) : IsD w (some ⟨g, 0, none⟩) n c l := by
  rcases h.2 with ⟨e, _⟩ | ⟨g', cap, cur, hv, hb, hg, hnc, hcm, hcs, htk⟩
  · cases e
  · cases hv
    unfold maxLen at hcm
    refine ⟨hl, hnc, hn, by omega, he, .inr ⟨_, 0, rfl, ?_, (Array.getElem?_eq_some_iff.1 hg).1⟩⟩
    have := rangeAt_take (rangeAt_row (cs := cur.toList) (by simpa using hg)) (n * 32)
    rw [htk] at this
    exact this
end Frk

