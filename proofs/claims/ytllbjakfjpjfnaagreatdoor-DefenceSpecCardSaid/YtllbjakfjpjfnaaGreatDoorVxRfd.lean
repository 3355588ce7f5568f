/- ref57.Formed. -/
import Derived.Test.YtllbjakfjpjfnaaGreatDoorVxgRfm
namespace Frk
open Go Go.RowKit Go.Proofs
set_option maxRecDepth 100000

set_option maxHeartbeats 8000000 in
theorem rformed57_any (a : Option Addr) (n c : Nat) (off : List Int) (x : CaX) (w : World) (hO : IsIs w a n c off) (hK : x.nK = x.c.K.length) (hF : x.nF = x.c.F.length) :
    Calls Tryz.prog 32 #[.slice a n c, .agg x.C.toArray] w fun e w' => e = .returned (.bool (formB off x.c)) ∧ Below w.heap.size w w' := by
  obtain ⟨X, hX⟩ : ∃ X : World, X = w.alloc (.cells x.C.toArray 35) := ⟨_, rfl⟩
  have b1 : Below w.heap.size w X := by rw [hX]; exact below_alloc _ _
  obtain ⟨gx, hgx⟩ : ∃ g, g = w.heap.size := ⟨_, rfl⟩
  have hcx := caAt_of (W := X) (g := gx) (x := x) (by rw [hX, hgx]; exact rangeAt_row (heap_alloc_new w _))
  obtain ⟨A, hA⟩ : ∃ A, A = x.c.A := ⟨_, rfl⟩
  obtain ⟨R, hR⟩ : ∃ A, A = x.c.R := ⟨_, rfl⟩
  obtain ⟨T, hT⟩ : ∃ A, A = x.c.T := ⟨_, rfl⟩
  obtain ⟨Ln, hLn⟩ : ∃ A, A = x.c.L := ⟨_, rfl⟩
  obtain ⟨Pl, hPl⟩ : ∃ A, A = x.c.P := ⟨_, rfl⟩
  obtain ⟨nF, hnF⟩ : ∃ A, A = x.nF := ⟨_, rfl⟩
  obtain ⟨nK, hnK⟩ : ∃ A, A = x.nK := ⟨_, rfl⟩
  have k0 := hcx.L
  have k1 := hcx.A
  have k2 := hcx.R
  have k3 := hcx.F
  have k4 := hcx.K
  have k6 := hcx.P
  have k14 := hcx.T
  rw [← hLn] at k0
  rw [← hA] at k1
  rw [← hR] at k2
  rw [← hnF] at k3
  rw [← hnK] at k4
  rw [← hPl] at k6
  rw [← hT] at k14
  have HC : Seal (∀ W, Below X.heap.size X W → W.cell? ⟨gx, 0, none⟩ = some (.int .i64 Ln) ∧ W.cell? ⟨gx, 1, none⟩ = some (.int .i64 A) ∧ W.cell? ⟨gx, 2, none⟩ = some (.int .i64 R) ∧ W.cell? ⟨gx, 3, none⟩ = some (.slice x.aF nF x.cF) ∧ W.cell? ⟨gx, 4, none⟩ = some (.slice x.aK nK x.cK) ∧ W.cell? ⟨gx, 6, none⟩ = some (.int .i64 Pl) ∧ W.cell? ⟨gx, 14, none⟩ = some (.int .i64 T)) :=
    ⟨fun W h => ⟨cell_below' h k0, cell_below' h k1, cell_below' h k2, cell_below' h k3, cell_below' h k4, cell_below' h k6, cell_below' h k14⟩⟩
  have HI : Seal (∀ W, Below X.heap.size X W → Below w.heap.size w W ∧ IsIs W a n c off) := ⟨fun W h => by
    have h2 := b1.trans (h.mono b1.size)
    exact ⟨h2, hO.below h2⟩⟩
  obtain ⟨RB, hRB⟩ : ∃ R, R = formB off x.c := ⟨_, rfl⟩
  have hll := hO.llen
  have hlm := hO.lmax
  have HF : Seal (formB off x.c = true ↔ (2 ≤ n ∧ n ≤ 9 ∧ nK = n) ∧ ((∀ x ∈ off, betw x 24 = true) ∧ off.Nodup) ∧ (0 ≤ A ∧ A < R) ∧ R < 2097152 ∧ (0 ≤ T ∧ T < 2097152) ∧ (0 ≤ Ln ∧ Ln < 64) ∧ nF ≤ 64 ∧ (0 ≤ Pl ∧ Pl < (nF : Int))) := ⟨by
    rw [formB_iff, betw_iff, betw_iff, betw_iff, betw_iff, ← hA, ← hR, ← hT, ← hLn, ← hPl, ← hK, ← hnK, ← hF, ← hnF, hll]
    constructor
    · rintro ⟨h1, h2, ⟨h3, h4, h5⟩, h6, h7, h8⟩
      exact ⟨h1, h2, h3, h4, h5, h6, h7, h8⟩
    · rintro ⟨h1, h2, h3, h4, h5, h6, h7, h8⟩
      exact ⟨h1, h2, ⟨h3, h4, h5⟩, h6, h7, h8⟩⟩
  have HNo : Seal (¬ ((2 ≤ n ∧ n ≤ 9 ∧ nK = n) ∧ ((∀ x ∈ off, betw x 24 = true) ∧ off.Nodup) ∧ (0 ≤ A ∧ A < R) ∧ R < 2097152 ∧ (0 ≤ T ∧ T < 2097152) ∧ (0 ≤ Ln ∧ Ln < 64) ∧ nF ≤ 64 ∧ (0 ≤ Pl ∧ Pl < (nF : Int))) → RB = false) := ⟨fun h => by
    cases hr : RB with
    | false => rfl
    | true => exact absurd (HF.out.1 (hRB.symm.trans hr)) h⟩
  have HYes : Seal (((2 ≤ n ∧ n ≤ 9 ∧ nK = n) ∧ ((∀ x ∈ off, betw x 24 = true) ∧ off.Nodup) ∧ (0 ≤ A ∧ A < R) ∧ R < 2097152 ∧ (0 ≤ T ∧ T < 2097152) ∧ (0 ≤ Ln ∧ Ln < 64) ∧ nF ≤ 64 ∧ (0 ≤ Pl ∧ Pl < (nF : Int))) → RB = true) := ⟨fun h => hRB.trans (HF.out.2 h)⟩
  rw [← hRB]
  obtain ⟨CX, hCX⟩ : ∃ C, C = x.C := ⟨_, rfl⟩
  rw [← hCX] at hX ⊢
  have HLn := Seal.mk hll
  have HQ : Seal (Below X.heap.size X X) := ⟨Below.refl _ _⟩
  clear hcx hA hR hT hLn hPl hnF hnK hO hK hF hRB hCX b1 hll HF
  go_enter Tryz.func32, Tryz.ntmps32
  go_upto_region 1 with (fail)
  rw [← hX, ← hgx]
  clear hX hgx
  by_cases a1 : n < 2
  · have q1 : (n : Int) < 2 := by omega
    have hr := HNo.out (fun h => by have := h.1.1; omega)
    go_wp2
    go_ret
    exact ⟨by first | rfl | (rw [hr]; rfl) | simp [*], (HI.out _ HQ.out).1⟩
  have q1 : ¬ (n : Int) < 2 := by omega
  by_cases a2 : 9 < n
  · have q2 : (9 : Int) < (n : Int) := by omega
    have hr := HNo.out (fun h => by have := h.1.2.1; omega)
    go_wp2
    go_ret
    exact ⟨by first | rfl | (rw [hr]; rfl) | simp [*], (HI.out _ HQ.out).1⟩
  have q2 : ¬ (9 : Int) < (n : Int) := by omega
  obtain ⟨b, hb⟩ : ∃ b, b = decide off.Nodup := ⟨_, rfl⟩
  have hD := rdiff25_any a n c off X (HI.out X HQ.out).2
  rw [← hb] at hD
  have HBb := Seal.mk hb
  clear hb
  go_wp2_with fail
  refine hD.mono ?_
  rintro e X1 ⟨rfl, hb⟩
  have HB := Seal.mk hb
  clear hD hb k0 k1 k2 k3 k4 k6 k14
  obtain ⟨k0, k1, k2, k3, k4, k6, k14⟩ := HC.out X1 HB.out
  cases b with
  | false =>
    have hnd : ¬ off.Nodup := of_decide_eq_false HBb.out.symm
    have hr := HNo.out (fun h => hnd h.2.1.2)
    go_wp2
    go_ret
    exact ⟨by first | rfl | (rw [hr]; rfl) | simp [*], (HI.out _ HB.out).1⟩
  | true =>
    have HND : Seal off.Nodup := ⟨of_decide_eq_true HBb.out.symm⟩
    clear HBb
    by_cases a3 : nK = n
    rotate_left
    · have q3 : ¬ ((nK : Int) = (n : Int)) := by omega
      have q3b : ((nK : Int) == (n : Int)) = false := by rw [beq_eq_false_iff_ne]; exact q3
      have hr := HNo.out (fun h => a3 h.1.2.2)
      go_wp2
      go_ret
      exact ⟨by first | rfl | (rw [hr]; rfl) | simp [*], (HI.out _ HB.out).1⟩
    subst a3
    clear k0 k1 k2 k3 k6 k14
    go_wp2
    go_loopw [5] (fun i wr => ∃ k : Nat, k ≤ nK ∧ i = .int .i64 k ∧ Seal (∀ (j : Nat), j < k → 0 ≤ off.getD j 0 ∧ off.getD j 0 < 24) ∧ Seal (Below X.heap.size X wr)) (fun i _ => nK - (intOf i).toNat)
    case atStart => exact ⟨0, Nat.zero_le _, rfl, ⟨fun j hj => by omega⟩, HB⟩
    case round =>
      obtain ⟨k, hk, rfl, HA, HBr⟩ := hrel
      clear HB k4
      by_cases hlt : k < nK
      · have p1 : (k : Int) < (nK : Int) := by omega
        have p2 : (0 : Int) ≤ (k : Int) := by omega
        have p3 : IntKind.i64.wrap ((k : Int) + 1) = ((k + 1 : Nat) : Int) := by rw [IntWalk.i64_in _ (by omega)]; omega
        obtain ⟨hbw, hO⟩ := HI.out wr HBr.out
        obtain ⟨g, o, rfl⟩ : ∃ g o, a = some ⟨g, o, none⟩ := by
          rcases hO.at_ with h0 | ⟨g, o, e, _, _⟩
          · omega
          · exact ⟨g, o, e⟩
        have cc := isIs_cellR hO hlt
        obtain ⟨v, hv⟩ : ∃ v, v = off.getD k 0 := ⟨_, rfl⟩
        rw [← hv] at cc
        have Hv : Seal (v = off.getD k 0 ∧ v ∈ off) := ⟨hv, by
          have hl : k < off.length := by rw [HLn.out]; exact hlt
          rw [hv, List.getD_eq_getElem?_getD, List.getElem?_eq_getElem hl]
          exact List.getElem_mem hl⟩
        clear hv hbw hO
        by_cases c1 : v < 0
        · skip
          have hr := HNo.out (fun h => by have := betw_iff.1 (h.2.1.1 v Hv.out.2); omega)
          go_wp2
          go_ret
          exact ⟨by first | rfl | (rw [hr]; rfl) | simp [*], (HI.out _ HBr.out).1⟩
        by_cases c2 : 24 ≤ v
        · skip
          have hr := HNo.out (fun h => by have := betw_iff.1 (h.2.1.1 v Hv.out.2); omega)
          go_wp2
          go_ret
          exact ⟨by first | rfl | (rw [hr]; rfl) | simp [*], (HI.out _ HBr.out).1⟩
        go_wp2
        refine ⟨⟨k + 1, by omega, rfl, ⟨fun j hj => ?_⟩, HBr⟩, by simp only [intOf]; omega⟩
        rcases Nat.lt_or_ge j k with h | h
        · exact HA.out j h
        · obtain rfl : j = k := by omega
          rw [← Hv.out.1]; omega
      · obtain rfl : k = nK := by omega
        have p1 : ¬ (k : Int) < (k : Int) := by omega
        obtain ⟨k0, k1, k2, k3, k4, k6, k14⟩ := HC.out wr HBr.out
        have HAll : Seal (∀ x ∈ off, betw x 24 = true) := ⟨fun x hx => by
          obtain ⟨j, hj, e⟩ := List.getElem_of_mem hx
          have h := HA.out j (by rw [← HLn.out]; exact hj)
          rw [List.getD_eq_getElem?_getD, List.getElem?_eq_getElem hj] at h
          rw [betw_iff, ← e]; exact h⟩
        have HBz : Seal (∀ V, Below wr.heap.size wr V → Below w.heap.size w V) := ⟨fun V h => (HI.out V (HBr.out.trans (h.mono HBr.out.size))).1⟩
        clear HA k4
        obtain ⟨gr, hgr⟩ : ∃ g, g = wr.heap.size := ⟨_, rfl⟩
        obtain ⟨Z, hZ⟩ : ∃ Z, Z = wr.alloc (.cells #[.int .i64 Ln, .int .i64 A, .int .i64 R] 26) := ⟨_, rfl⟩
        have hbZ : Below wr.heap.size wr Z := by rw [hZ]; exact below_alloc _ _
        have hrow : Z.heap[gr]? = some (.cells #[.int .i64 Ln, .int .i64 A, .int .i64 R] 26 (0, 0)) := by rw [hZ, hgr]; exact heap_alloc_new wr _
        go_upto_region 9 with (fail)
        rw [← hZ, ← hgr]
        clear k0 k1 k2 k3 k6 k14 hZ hgr
        have z0 : Z.cell? ⟨gr, 0, none⟩ = some (.int .i64 Ln) := by rw [cell_of_row _ _ _ _ _ _ hrow]; rfl
        have z1 : Z.cell? ⟨gr, 1, none⟩ = some (.int .i64 A) := by rw [cell_of_row _ _ _ _ _ _ hrow]; rfl
        have z2 : Z.cell? ⟨gr, 2, none⟩ = some (.int .i64 R) := by rw [cell_of_row _ _ _ _ _ _ hrow]; rfl
        obtain ⟨_, _, _, k3, _, k6, k14⟩ := HC.out Z (HBr.out.trans (hbZ.mono HBr.out.size))
        have HZ := Seal.mk (HBz.out Z hbZ)
        clear hbZ hrow HBz
        by_cases d1 : Ln < 0
        · have hr := HNo.out (fun h => by have h' := h.2.2; omega)
          go_wp2
          go_ret
          exact ⟨by first | rfl | (rw [hr]; rfl) | simp [*], HZ.out⟩
        by_cases d2 : 64 ≤ Ln
        · have hr := HNo.out (fun h => by have h' := h.2.2; omega)
          go_wp2
          go_ret
          exact ⟨by first | rfl | (rw [hr]; rfl) | simp [*], HZ.out⟩
        by_cases d3 : A < 0
        · have hr := HNo.out (fun h => by have h' := h.2.2; omega)
          go_wp2
          go_ret
          exact ⟨by first | rfl | (rw [hr]; rfl) | simp [*], HZ.out⟩
        by_cases d4 : R ≤ A
        · have hr := HNo.out (fun h => by have h' := h.2.2; omega)
          go_wp2
          go_ret
          exact ⟨by first | rfl | (rw [hr]; rfl) | simp [*], HZ.out⟩
        by_cases d5 : 2097152 ≤ R
        · have hr := HNo.out (fun h => by have h' := h.2.2; omega)
          go_wp2
          go_ret
          exact ⟨by first | rfl | (rw [hr]; rfl) | simp [*], HZ.out⟩
        by_cases d6 : nF ≤ 64
        rotate_left
        · have e6 : ¬ ((nF : Int) ≤ 64) := by omega
          have hr := HNo.out (fun h => by have h' := h.2.2; omega)
          go_wp2
          go_ret
          exact ⟨by first | rfl | (rw [hr]; rfl) | simp [*], HZ.out⟩
        have e6 : (nF : Int) ≤ 64 := by omega
        by_cases d7 : 0 ≤ Pl
        rotate_left
        · have hr := HNo.out (fun h => by have h' := h.2.2; omega)
          go_wp2
          go_ret
          exact ⟨by first | rfl | (rw [hr]; rfl) | simp [*], HZ.out⟩
        by_cases d8 : Pl < (nF : Int)
        rotate_left
        · have hr := HNo.out (fun h => by have h' := h.2.2; omega)
          go_wp2
          go_ret
          exact ⟨by first | rfl | (rw [hr]; rfl) | simp [*], HZ.out⟩
        by_cases d9 : 0 ≤ T
        rotate_left
        · have hr := HNo.out (fun h => by have h' := h.2.2; omega)
          go_wp2
          go_ret
          exact ⟨by first | rfl | (rw [hr]; rfl) | simp [*], HZ.out⟩
        by_cases d10 : T < 2097152
        rotate_left
        · have hr := HNo.out (fun h => by have h' := h.2.2; omega)
          go_wp2
          go_ret
          exact ⟨by first | rfl | (rw [hr]; rfl) | simp [*], HZ.out⟩
        have hr := HYes.out ⟨⟨by omega, by omega, by first | rfl | trivial⟩, ⟨HAll.out, HND.out⟩, by omega, by omega, by omega, by omega, d6, by omega⟩
        go_wp2
        go_ret
        exact ⟨by first | rfl | (rw [hr]; rfl) | simp [*], HZ.out⟩
end Frk
