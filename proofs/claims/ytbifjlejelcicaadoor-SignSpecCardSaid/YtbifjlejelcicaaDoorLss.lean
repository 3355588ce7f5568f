/- The law SignSpec, walked. -/
import Derived.Test.YtbifjlejelcicaaDoorLawA
import Derived.Test.YtbifjlejelcicaaDoorRsg
namespace Frk
open Go Go.RowKit Go.Proofs
set_option maxRecDepth 100000

def signC (x : Int) (b : Bytes) : Int × Int × Int := if 1 ≤ x ∧ x < 1073741789 then (((sgE x b : Nat) : Int), sgS x b, 0) else (0, 0, 110)

theorem sign_at (x d0 d1 e0 : Int) (a : Option Addr) (len cap : Nat) (b : Bytes) (w : World) (h : Seal (signC x b = (d0, d1, e0))) (hb : IsB w a len cap b) (hl : len ≤ 1099511627776) (hG : Glob w) :
    Calls Tryd.prog 14 #[.int .i64 x, .slice a len cap] w fun e w' => e = .returned (.tuple #[.agg #[.int .i64 d0, .int .i64 d1], .int .i64 e0]) ∧ Below w.heap.size w w' := by
  have h' := h.out
  unfold signC at h'
  by_cases hx : 1 ≤ x ∧ x < 1073741789
  · rw [if_pos hx] at h'
    obtain ⟨rfl, h3⟩ := Prod.mk.inj h'
    obtain ⟨rfl, rfl⟩ := Prod.mk.inj h3
    exact sign_yes x a len cap b w hx.1 hx.2 hb hl hG
  · rw [if_neg hx] at h'
    obtain ⟨rfl, h3⟩ := Prod.mk.inj h'
    obtain ⟨rfl, rfl⟩ := Prod.mk.inj h3
    exact sign_no x _ w (by omega)

theorem rsign_at (x d0 d1 e0 : Int) (a : Option Addr) (len cap : Nat) (b : Bytes) (w : World) (h : Seal (signC x b = (d0, d1, e0))) (hb : IsB w a len cap b) (hl : len ≤ 1099511627776) :
    Calls Tryd.prog 15 #[.int .i64 x, .slice a len cap] w fun e w' => e = .returned (.tuple #[.agg #[.int .i64 d0, .int .i64 d1], .int .i64 e0]) ∧ Below w.heap.size w w' := by
  have h' := h.out
  unfold signC at h'
  by_cases hx : 1 ≤ x ∧ x < 1073741789
  · rw [if_pos hx] at h'
    obtain ⟨rfl, h3⟩ := Prod.mk.inj h'
    obtain ⟨rfl, rfl⟩ := Prod.mk.inj h3
    exact rsign_yes x a len cap b w hx.1 hx.2 hb hl
  · rw [if_neg hx] at h'
    obtain ⟨rfl, h3⟩ := Prod.mk.inj h'
    obtain ⟨rfl, rfl⟩ := Prod.mk.inj h3
    exact rsign_no x _ w (by omega)

theorem rver_at (key E S : Int) (r : Bool) (a : Option Addr) (len cap : Nat) (b : Bytes) (w : World) (hr : vrB key b E S = r) (hb : IsB w a len cap b) (hl : len ≤ 1099511627776) :
    Calls Tryd.prog 17 #[.int .i64 key, .slice a len cap, .agg #[.int .i64 E, .int .i64 S]] w fun e w' => e = .returned (.bool r) ∧ Below w.heap.size w w' := by
  rw [← hr]; exact rverify_any key E S a len cap b w hb hl

theorem Env.drew {w : World} {a : Option Addr} {len cap : Nat} {b : Bytes} {bs : List (Nat × Obj)} (h : Env w a len cap b bs) : Env w.drew a len cap b bs := ⟨⟨h.glob.start, h.glob.nums⟩, h.isb.drew, h.keep⟩

set_option maxHeartbeats 4000000 in
theorem law_signSpec (x key E S : Int) (a : Option Addr) (len cap : Nat) (b : Bytes) (w : World) (hlm : (len : Int) ≤ 9223372036854775807) (hb : len ≤ 600 → IsB w a len cap b) (hG : Glob w) :
    Calls Tryd.prog 3 #[.int .i64 x, .int .i64 key, .slice a len cap, .agg #[.int .i64 E, .int .i64 S]] w fun e w' => e = .returned (.bool true) ∧ Below w.heap.size w w' := by
  by_cases hl : len ≤ 600
  · have HE1 : Seal (Env (w.alloc (.cells #[.int .i64 E, .int .i64 S] 24)) a len cap b [(w.heap.size, .cells #[.int .i64 E, .int .i64 S] 24)]) := ⟨Env.push (bs := []) ⟨hG, hb hl, by intro p hp; cases hp⟩ _⟩
    have HB1 : Seal (Below w.heap.size w (w.alloc (.cells #[.int .i64 E, .int .i64 S] 24))) := ⟨below_alloc _ _⟩
    have hl6 : len ≤ 1099511627776 := by omega
    clear hb hG
    obtain ⟨d0, d1, e0, hd⟩ : ∃ d0 d1 e0 : Int, Seal (signC x b = (d0, d1, e0)) := ⟨_, _, _, ⟨rfl⟩⟩
    obtain ⟨t, ht⟩ : ∃ t, vrB key b E S = t := ⟨_, rfl⟩
    have HT := Seal.mk ht
    clear ht
    go_enter Tryd.func3, Tryd.ntmps3
    go_wp2_with fail
    refine (sane_any _ HE1.out.glob).mono ?_
    rintro e w2 ⟨rfl, hb⟩
    have HE2 := Seal.mk (HE1.out.below hb)
    have HB2 := Seal.mk (HB1.out.trans (hb.mono HB1.out.size))
    clear hb HE1 HB1
    go_wp2_with fail
    refine (sign_at x d0 d1 e0 _ _ _ b _ hd HE2.out.isb (by omega) HE2.out.glob).mono ?_
    rintro e w3 ⟨rfl, hb⟩
    have HE3 := Seal.mk ((HE2.out.below hb).push (.cells #[.int .i64 d0, .int .i64 d1] 24))
    have HB3 := Seal.mk ((HB2.out.trans (hb.mono HB2.out.size)).alloc (Nat.le_trans HB2.out.size hb.size) (.cells #[.int .i64 d0, .int .i64 d1] 24))
    clear hb HE2 HB2
    go_wp2_with fail
    refine (rsign_at x d0 d1 e0 _ _ _ b _ hd HE3.out.isb (by omega)).mono ?_
    rintro e w4 ⟨rfl, hb⟩
    have HE4 := Seal.mk ((HE3.out.below hb).push (.cells #[.int .i64 d0, .int .i64 d1] 24))
    have HB4 := Seal.mk ((HB3.out.trans (hb.mono HB3.out.size)).alloc (Nat.le_trans HB3.out.size hb.size) (.cells #[.int .i64 d0, .int .i64 d1] 24))
    clear hb HE3 HB3
    have heq := fun W => eqSig_same d0 d1 W
    go_wp2_with fail
    obtain ⟨Y, hY⟩ : ∃ Y : World, Y = w4.alloc (.cells #[.int .i64 d0, .int .i64 d1] 24) := ⟨_, rfl⟩
    rw [← hY] at HE4 HB4 ⊢
    have ⟨k0, k1, k2, k3, k4, k5⟩ : Y.cell? ⟨w3.heap.size, 0, none⟩ = some (.int .i64 d0) ∧ Y.cell? ⟨w3.heap.size, 1, none⟩ = some (.int .i64 d1) ∧ Y.cell? ⟨w4.heap.size, 0, none⟩ = some (.int .i64 d0) ∧ Y.cell? ⟨w4.heap.size, 1, none⟩ = some (.int .i64 d1) ∧ Y.cell? ⟨w.heap.size, 0, none⟩ = some (.int .i64 E) ∧ Y.cell? ⟨w.heap.size, 1, none⟩ = some (.int .i64 S) := ⟨HE4.out.cell (g := w3.heap.size) (i := 0) (cs := #[.int .i64 d0, .int .i64 d1]) (t := 24) (by simp) rfl, HE4.out.cell (g := w3.heap.size) (i := 1) (cs := #[.int .i64 d0, .int .i64 d1]) (t := 24) (by simp) rfl, HE4.out.cell (g := w4.heap.size) (i := 0) (cs := #[.int .i64 d0, .int .i64 d1]) (t := 24) (by simp) rfl, HE4.out.cell (g := w4.heap.size) (i := 1) (cs := #[.int .i64 d0, .int .i64 d1]) (t := 24) (by simp) rfl, HE4.out.cell (g := w.heap.size) (i := 0) (cs := #[.int .i64 E, .int .i64 S]) (t := 24) (by simp) rfl, HE4.out.cell (g := w.heap.size) (i := 1) (cs := #[.int .i64 E, .int .i64 S]) (t := 24) (by simp) rfl⟩
    clear hY
    go_region_held3 (fun w' => w'.cell? ⟨w3.heap.size, 0, none⟩ = some (.int .i64 d0) ∧ w'.cell? ⟨w3.heap.size, 1, none⟩ = some (.int .i64 d1) ∧ w'.cell? ⟨w4.heap.size, 0, none⟩ = some (.int .i64 d0) ∧ w'.cell? ⟨w4.heap.size, 1, none⟩ = some (.int .i64 d1) ∧ w'.cell? ⟨w.heap.size, 0, none⟩ = some (.int .i64 E) ∧ w'.cell? ⟨w.heap.size, 1, none⟩ = some (.int .i64 S)) (first | (go_keep; done) | exact hk5 | exact hk6) (first
      | (go_at_call 16; refine (ver_at key E S t _ _ _ b Y.drew HT.out HE4.out.drew.isb (by omega) HE4.out.drew.glob).mono ?_
         rintro e w5 ⟨rfl, hb⟩
         have HE5 := Seal.mk (HE4.out.drew.below hb)
         have HB5 : Seal (Below w.heap.size w w5) := ⟨HB4.out.trans ((show Below Y.heap.size Y w5 from ⟨hb.os, hb.tape, hb.output, hb.size, hb.block⟩).mono HB4.out.size)⟩
         have hk5 : w5.cell? ⟨w3.heap.size, 0, none⟩ = some (.int .i64 d0) ∧ w5.cell? ⟨w3.heap.size, 1, none⟩ = some (.int .i64 d1) ∧ w5.cell? ⟨w4.heap.size, 0, none⟩ = some (.int .i64 d0) ∧ w5.cell? ⟨w4.heap.size, 1, none⟩ = some (.int .i64 d1) ∧ w5.cell? ⟨w.heap.size, 0, none⟩ = some (.int .i64 E) ∧ w5.cell? ⟨w.heap.size, 1, none⟩ = some (.int .i64 S) := ⟨HE5.out.cell (g := w3.heap.size) (i := 0) (cs := #[.int .i64 d0, .int .i64 d1]) (t := 24) (by simp) rfl, HE5.out.cell (g := w3.heap.size) (i := 1) (cs := #[.int .i64 d0, .int .i64 d1]) (t := 24) (by simp) rfl, HE5.out.cell (g := w4.heap.size) (i := 0) (cs := #[.int .i64 d0, .int .i64 d1]) (t := 24) (by simp) rfl, HE5.out.cell (g := w4.heap.size) (i := 1) (cs := #[.int .i64 d0, .int .i64 d1]) (t := 24) (by simp) rfl, HE5.out.cell (g := w.heap.size) (i := 0) (cs := #[.int .i64 E, .int .i64 S]) (t := 24) (by simp) rfl, HE5.out.cell (g := w.heap.size) (i := 1) (cs := #[.int .i64 E, .int .i64 S]) (t := 24) (by simp) rfl⟩
         clear hb)
      | (go_at_call 17; refine (rver_at key E S t _ _ _ b w5 HT.out HE5.out.isb (by omega)).mono ?_
         rintro e w6 ⟨rfl, hb⟩
         have HE6 := Seal.mk (HE5.out.below hb)
         have HB6 : Seal (Below w.heap.size w w6) := ⟨HB5.out.trans (hb.mono HB5.out.size)⟩
         have hk6 : w6.cell? ⟨w3.heap.size, 0, none⟩ = some (.int .i64 d0) ∧ w6.cell? ⟨w3.heap.size, 1, none⟩ = some (.int .i64 d1) ∧ w6.cell? ⟨w4.heap.size, 0, none⟩ = some (.int .i64 d0) ∧ w6.cell? ⟨w4.heap.size, 1, none⟩ = some (.int .i64 d1) ∧ w6.cell? ⟨w.heap.size, 0, none⟩ = some (.int .i64 E) ∧ w6.cell? ⟨w.heap.size, 1, none⟩ = some (.int .i64 S) := ⟨HE6.out.cell (g := w3.heap.size) (i := 0) (cs := #[.int .i64 d0, .int .i64 d1]) (t := 24) (by simp) rfl, HE6.out.cell (g := w3.heap.size) (i := 1) (cs := #[.int .i64 d0, .int .i64 d1]) (t := 24) (by simp) rfl, HE6.out.cell (g := w4.heap.size) (i := 0) (cs := #[.int .i64 d0, .int .i64 d1]) (t := 24) (by simp) rfl, HE6.out.cell (g := w4.heap.size) (i := 1) (cs := #[.int .i64 d0, .int .i64 d1]) (t := 24) (by simp) rfl, HE6.out.cell (g := w.heap.size) (i := 0) (cs := #[.int .i64 E, .int .i64 S]) (t := 24) (by simp) rfl, HE6.out.cell (g := w.heap.size) (i := 1) (cs := #[.int .i64 E, .int .i64 S]) (t := 24) (by simp) rfl⟩
         clear hb))
    all_goals
      go_wp2
      go_ret
      exact ⟨by simp, HB6.out⟩
  · have hl' : 600 < (len : Int) := by omega
    clear hb
    go_enter Tryd.func3, Tryd.ntmps3
    go_wp2_with (go_at_call 13; refine (sane_any _ (hG.below (below_alloc _ _))).mono ?_; rintro e w2 ⟨rfl, hb2⟩)
    go_ret
    exact ⟨rfl, (below_alloc w (.cells #[.int .i64 E, .int .i64 S] 24)).trans (hb2.mono (by rw [size_alloc]; omega))⟩
end Frk
