/- The law BlindFinishSpec, walked. -/
import Derived.Test.YtbifjlejelcicaaDoorRbb
namespace Frk
open Go Go.RowKit Go.Proofs
set_option maxRecDepth 100000

set_option maxHeartbeats 4000000 in
theorem law_blindFinishSpec (key r u v c s E S : Int) (a : Option Addr) (len cap : Nat) (b : Bytes) (w : World) (hlm : (len : Int) ≤ 9223372036854775807) (u1 : -9223372036854775808 ≤ u) (u2 : u ≤ 9223372036854775807) (v1 : -9223372036854775808 ≤ v) (v2 : v ≤ 9223372036854775807) (c1 : -9223372036854775808 ≤ c) (c2 : c ≤ 9223372036854775807) (s1 : -9223372036854775808 ≤ s) (s2 : s ≤ 9223372036854775807) (hb : len ≤ 600 → IsB w a len cap b) (hG : Glob w) :
    Calls Tryd.prog 8 #[.int .i64 key, .int .i64 r, .slice a len cap, .int .i64 u, .int .i64 v, .int .i64 c, .int .i64 s, .agg #[.int .i64 E, .int .i64 S]] w fun e w' => e = .returned (.bool true) ∧ Below w.heap.size w w' := by
  by_cases hl : len ≤ 600
  · have HE1 : Seal (Env (w.alloc (.cells #[.int .i64 E, .int .i64 S] 24)) a len cap b [(w.heap.size, .cells #[.int .i64 E, .int .i64 S] 24)]) := ⟨Env.push (bs := []) ⟨hG, hb hl, by intro p hp; cases hp⟩ _⟩
    have HB1 : Seal (Below w.heap.size w (w.alloc (.cells #[.int .i64 E, .int .i64 S] 24))) := ⟨below_alloc _ _⟩
    have hl6 : len ≤ 1099511627776 := by omega
    clear hb hG
    obtain ⟨g0, g1, g2, hg⟩ : ∃ g0 g1 g2 : Int, Seal (finishC key r b u v s = (g0, g1, g2)) := ⟨_, _, _, ⟨rfl⟩⟩
    obtain ⟨d0, d1, t, hd⟩ : ∃ (d0 d1 : Int) (t : Bool), Seal (linkC key r c s b E S = (d0, d1, t)) := ⟨_, _, _, ⟨rfl⟩⟩
    have heq := fun W => eqSig_same g0 g1 W
    go_enter Tryd.func8, Tryd.ntmps8
    go_wp2_with fail
    refine (bsane_any _ HE1.out.glob).mono ?_
    rintro e w2 ⟨rfl, hb⟩
    have HE2 := Seal.mk (HE1.out.below hb)
    have HB2 := Seal.mk (HB1.out.trans (hb.mono HB1.out.size))
    clear hb HE1 HB1
    go_wp2_with fail
    refine (finish_at key r u v s g0 g1 g2 _ _ _ b _ hg (by omega) (by omega) (by omega) (by omega) HE2.out.isb (by omega) HE2.out.glob).mono ?_
    rintro e w3 ⟨rfl, hb⟩
    have HE3 := Seal.mk ((HE2.out.below hb).push (.cells #[.int .i64 g0, .int .i64 g1] 24))
    have HB3 := Seal.mk ((HB2.out.trans (hb.mono HB2.out.size)).alloc (Nat.le_trans HB2.out.size hb.size) (.cells #[.int .i64 g0, .int .i64 g1] 24))
    clear hb HE2 HB2
    go_wp2_with fail
    refine (rfinish_at key r u v s g0 g1 g2 _ _ _ b _ hg HE3.out.isb (by omega)).mono ?_
    rintro e w4 ⟨rfl, hb⟩
    have HE4 := Seal.mk ((HE3.out.below hb).push (.cells #[.int .i64 g0, .int .i64 g1] 24))
    have HB4 := Seal.mk ((HB3.out.trans (hb.mono HB3.out.size)).alloc (Nat.le_trans HB3.out.size hb.size) (.cells #[.int .i64 g0, .int .i64 g1] 24))
    clear hb HE3 HB3
    have k0 := HE4.out.cell (g := w.heap.size) (i := 0) (cs := #[.int .i64 E, .int .i64 S]) (t := 24) (by simp) rfl
    have k1 := HE4.out.cell (g := w.heap.size) (i := 1) (cs := #[.int .i64 E, .int .i64 S]) (t := 24) (by simp) rfl
    go_wp2_with fail
    refine (link_at key r c s E S d0 d1 t _ _ _ b _ hd (by omega) (by omega) (by omega) (by omega) HE4.out.isb (by omega) HE4.out.glob).mono ?_
    rintro e w5 ⟨rfl, hb⟩
    have HE5 := Seal.mk (HE4.out.below hb)
    have HB5 := Seal.mk (HB4.out.trans (hb.mono HB4.out.size))
    clear hb HE4 HB4
    clear k0 k1
    have k0 := HE5.out.cell (g := w.heap.size) (i := 0) (cs := #[.int .i64 E, .int .i64 S]) (t := 24) (by simp) rfl
    have k1 := HE5.out.cell (g := w.heap.size) (i := 1) (cs := #[.int .i64 E, .int .i64 S]) (t := 24) (by simp) rfl
    go_wp2_with fail
    refine (rlink_at key r c s E S d0 d1 t _ _ _ b _ hd HE5.out.isb (by omega)).mono ?_
    rintro e w6 ⟨rfl, hb⟩
    have HE6 := Seal.mk (HE5.out.below hb)
    have HB6 := Seal.mk (HB5.out.trans (hb.mono HB5.out.size))
    clear hb HE5 HB5
    clear k0 k1
    have k0 := HE6.out.cell (g := w3.heap.size) (i := 0) (cs := #[.int .i64 g0, .int .i64 g1]) (t := 24) (by simp) rfl
    have k1 := HE6.out.cell (g := w3.heap.size) (i := 1) (cs := #[.int .i64 g0, .int .i64 g1]) (t := 24) (by simp) rfl
    have k2 := HE6.out.cell (g := w4.heap.size) (i := 0) (cs := #[.int .i64 g0, .int .i64 g1]) (t := 24) (by simp) rfl
    have k3 := HE6.out.cell (g := w4.heap.size) (i := 1) (cs := #[.int .i64 g0, .int .i64 g1]) (t := 24) (by simp) rfl
    go_wp2_with fail
    go_ret
    exact ⟨by simp, HB6.out⟩
  · have hl' : 600 < (len : Int) := by omega
    clear hb
    go_enter Tryd.func8, Tryd.ntmps8
    go_wp2_with (go_at_call 25; refine (bsane_any _ (hG.below (below_alloc _ _))).mono ?_; rintro e w2 ⟨rfl, hb2⟩)
    go_ret
    exact ⟨rfl, (below_alloc w (.cells #[.int .i64 E, .int .i64 S] 24)).trans (hb2.mono (by rw [size_alloc]; omega))⟩
end Frk
