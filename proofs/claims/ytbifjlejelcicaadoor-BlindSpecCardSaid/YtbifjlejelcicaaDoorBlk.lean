/- The program's blind: Finish and Link. -/
import Derived.Test.YtbifjlejelcicaaDoorBlf
namespace Frk
open Go Go.RowKit Go.Proofs
set_option maxRecDepth 100000

theorem finish_no (key r u v s : Int) (t : Value) (w : World) (h : (vd key && vd r) = false) :
    Calls Tryd.prog 32 #[.int .i64 key, .int .i64 r, t, .int .i64 u, .int .i64 v, .int .i64 s] w fun e w' => e = .returned (.tuple #[.agg #[.int .i64 0, .int .i64 0], .int .i64 90]) ∧ Below w.heap.size w w' := by
  have HS := Seal.mk h
  clear h
  go_enter Tryd.func32, Tryd.ntmps32
  go_wp2_with (go_at_call 60; refine (elements_new _ _ false _ _ (by simp) HS).mono ?_; rintro e w' ⟨rfl, rfl⟩)
  refine bodyPost_ret (v := .tuple #[.agg #[.int .i64 0, .int .i64 0], .int .i64 90]) (by simp [results, Tryd.f32, go_sem]) rfl ⟨rfl, ?_⟩
  exact ((Below.refl _ w).alloc (Nat.le_refl _) _).alloc (by simp) _

set_option maxHeartbeats 2000000 in
/-- what Finish has reckoned ahead of the check -/
theorem finish_any (key r u v s H S : Int) (ok : Bool) (a : Option Addr) (len cap : Nat) (b : Bytes) (w : World) (hkr : (vd key && vd r) = true) (hh : Seal (((blHash key r b u v : Nat) : Int) = H)) (hS : Seal (((lq ((lq s : Nat) + (lq u : Nat)) : Nat) : Int) = S)) (hok : Seal (vrB key b H S = ok))
    (u1 : -9223372036854775808 ≤ u) (u2 : u ≤ 9223372036854775807) (v1 : -9223372036854775808 ≤ v) (v2 : v ≤ 9223372036854775807)
    (hb : IsB w a len cap b) (hl : len ≤ 1099511627776) (hG : Glob w) :
    Calls Tryd.prog 32 #[.int .i64 key, .int .i64 r, .slice a len cap, .int .i64 u, .int .i64 v, .int .i64 s] w fun e w' =>
      e = .returned (if ok then .tuple #[.agg #[.int .i64 H, .int .i64 S], .int .i64 0] else .tuple #[.agg #[.int .i64 0, .int .i64 0], .int .i64 150]) ∧ Below w.heap.size w w' := by
  have HS := Seal.mk hkr
  have hkr' : vd key = true ∧ vd r = true := by simpa using hkr
  have HK := Seal.mk hkr'
  have HE1 : Seal (Env (((w.alloc (.cells #[.int .i64 0, .int .i64 0] 24)).alloc (.cells #[.int .i64 key, .int .i64 r] 3)).alloc (.cells #[.int .i64 key, .int .i64 r, .slice a len cap, .int .i64 u, .int .i64 v] 85)) a len cap b _) := ⟨(((Env.mk hG hb (by intro p hp; cases hp) : Env w a len cap b []).push (.cells #[.int .i64 0, .int .i64 0] 24)).push _).push _⟩
  have HB1 : Seal (Below w.heap.size w (((w.alloc (.cells #[.int .i64 0, .int .i64 0] 24)).alloc (.cells #[.int .i64 key, .int .i64 r] 3)).alloc (.cells #[.int .i64 key, .int .i64 r, .slice a len cap, .int .i64 u, .int .i64 v] 85))) := ⟨(((Below.refl _ w).alloc (Nat.le_refl _) _).alloc (by simp) _).alloc (by simp; omega) _⟩
  obtain ⟨m, hm⟩ : ∃ m : Int, Seal (((lq s : Nat) : Int) = m) := ⟨_, ⟨rfl⟩⟩
  obtain ⟨n, hn⟩ : ∃ n : Int, Seal (((lq u : Nat) : Int) = n) := ⟨_, ⟨rfl⟩⟩
  rw [hm.out, hn.out] at hS
  have hm1 := lq_rng s
  rw [hm.out] at hm1
  obtain ⟨hm0, hm9⟩ := hm1
  have hn1 := lq_rng u
  rw [hn.out] at hn1
  obtain ⟨hn0, hn9⟩ := hn1
  have HI := Seal.mk hb
  have HG := Seal.mk hG
  have HL := Seal.mk hl
  clear hkr hkr' hb hG
  go_enter Tryd.func32, Tryd.ntmps32
  go_wp2_with (go_at_call 60; refine (elements_new _ _ true _ _ (by simp) HS).mono ?_; rintro e w' ⟨rfl, rfl⟩)
  refine (bhash_eq key r u v H a len cap b _ hh HK.out.1 HK.out.2 u1 u2 v1 v2 HE1.out.isb hl HE1.out.glob).mono ?_
  rintro e w2 ⟨rfl, hb⟩
  have HE2 := Seal.mk (HE1.out.below hb)
  have HB2 := Seal.mk (HB1.out.trans (hb.mono HB1.out.size))
  have HR2 : Seal (w2.heap[w.heap.size]? = some (.cells #[.int .i64 0, .int .i64 0] 24)) := ⟨HE2.out.keep (w.heap.size, .cells #[.int .i64 0, .int .i64 0] 24) (by simp)⟩
  clear hb HE1 HB1
  have c0 : w2.cell? ⟨w.heap.size, 0, none⟩ = some (.int .i64 0) := by rw [cell_of_row _ _ _ _ _ _ HR2.out]; rfl
  have c1 : w2.cell? ⟨w.heap.size, 1, none⟩ = some (.int .i64 0) := by rw [cell_of_row _ _ _ _ _ _ HR2.out]; rfl
  have f0 : w2.frozen? ⟨w.heap.size, 0, none⟩ = false := frozen_of_row _ _ _ _ _ HR2.out
  have f1 : w2.frozen? ⟨w.heap.size, 1, none⟩ = false := frozen_of_row _ _ _ _ _ HR2.out
  go_wp2_with fail
  refine (bmod_eq s m _ hm).mono ?_
  rintro e w3 ⟨rfl, rfl⟩
  go_wp2_with fail
  refine (bmod_eq u n _ hn).mono ?_
  rintro e w3 ⟨rfl, rfl⟩
  go_wp2_with fail
  refine (bmod_eq (m + n) S _ hS).mono ?_
  rintro e w3 ⟨rfl, rfl⟩
  have HB3 := Seal.mk ((HB2.out.setCell (p := ⟨w.heap.size, 0, none⟩) (Nat.le_refl _) (.int .i64 H)).setCell (p := ⟨w.heap.size, 1, none⟩) (Nat.le_refl _) (.int .i64 S))
  have HR3 := Seal.mk (heap_setCell_row (cs := [.int .i64 H, .int .i64 0]) (i := 1) (.int .i64 S) (heap_setCell_row (cs := [.int .i64 0, .int .i64 0]) (i := 0) (.int .i64 H) HR2.out))
  simp only [List.set_cons_zero, List.set_cons_succ] at HR3
  go_wp2_with fail
  refine (ver_at key H S ok a len cap b _ hok.out (HI.out.below HB3.out) HL.out (HG.out.below HB3.out)).mono ?_
  rintro e w5 ⟨rfl, hb5⟩
  have HB5 := Seal.mk (HB3.out.trans (hb5.mono HB3.out.size))
  have HR5 := Seal.mk (blk hb5 (Array.getElem?_eq_some_iff.1 HR3.out).1 HR3.out)
  clear hb5 HB3 HR3
  have d0 := cell_of_row _ _ 0 _ _ _ HR5.out
  have d1 := cell_of_row _ _ 1 _ _ _ HR5.out
  have e0 : w5.frozen? ⟨w.heap.size, 0, none⟩ = false := frozen_of_row _ _ _ _ _ HR5.out
  have e1 : w5.frozen? ⟨w.heap.size, 1, none⟩ = false := frozen_of_row _ _ _ _ _ HR5.out
  cases ok with
  | true =>
    go_wp2_with fail
    have hr9 := heap_setCell_row (cs := [.int .i64 H, .int .i64 S]) (i := 1) (.int .i64 S) (heap_setCell_row (cs := [.int .i64 H, .int .i64 S]) (i := 0) (.int .i64 H) HR5.out)
    simp only [List.set_cons_zero, List.set_cons_succ] at hr9
    have hd0 := cell_of_row _ _ 0 _ _ _ hr9
    have hd1 := cell_of_row _ _ 1 _ _ _ hr9
    refine bodyPost_ret (v := .tuple #[.agg #[.int .i64 H, .int .i64 S], .int .i64 0]) (by simp [results, Tryd.f32, go_sem, hd0, hd1]) rfl ⟨rfl, ?_⟩
    exact (HB5.out.setCell (p := ⟨w.heap.size, 0, none⟩) (Nat.le_refl _) _).setCell (p := ⟨w.heap.size, 1, none⟩) (Nat.le_refl _) _
  | false =>
    go_wp2_with fail
    have hr9 := heap_setCell_row (cs := [.int .i64 0, .int .i64 S]) (i := 1) (.int .i64 0) (heap_setCell_row (cs := [.int .i64 H, .int .i64 S]) (i := 0) (.int .i64 0) HR5.out)
    simp only [List.set_cons_zero, List.set_cons_succ] at hr9
    have hd0 := cell_of_row _ _ 0 _ _ _ hr9
    have hd1 := cell_of_row _ _ 1 _ _ _ hr9
    refine bodyPost_ret (v := .tuple #[.agg #[.int .i64 0, .int .i64 0], .int .i64 150]) (by simp [results, Tryd.f32, go_sem, hd0, hd1]) rfl ⟨rfl, ?_⟩
    exact (HB5.out.setCell (p := ⟨w.heap.size, 0, none⟩) (Nat.le_refl _) _).setCell (p := ⟨w.heap.size, 1, none⟩) (Nat.le_refl _) _
end Frk
