/- The law BlindSpec, walked. -/
import Derived.Test.YtbifjlejelcicaaDoorRbb
namespace Frk
open Go Go.RowKit Go.Proofs
set_option maxRecDepth 100000

set_option maxHeartbeats 4000000 in
theorem law_blindSpec (key r u v x n c : Int) (a : Option Addr) (len cap : Nat) (b : Bytes) (w : World) (hlm : (len : Int) ≤ 9223372036854775807) (u1 : -9223372036854775808 ≤ u) (u2 : u ≤ 9223372036854775807) (v1 : -9223372036854775808 ≤ v) (v2 : v ≤ 9223372036854775807) (n1 : -9223372036854775808 ≤ n) (n2 : n ≤ 9223372036854775807) (hb : len ≤ 600 → IsB w a len cap b) (hG : Glob w) :
    Calls Tryd.prog 7 #[.int .i64 key, .int .i64 r, .slice a len cap, .int .i64 u, .int .i64 v, .int .i64 x, .int .i64 n, .int .i64 c] w fun e w' => e = .returned (.bool true) ∧ Below w.heap.size w w' := by
  by_cases hl : len ≤ 600
  · have HE1 : Seal (Env w a len cap b []) := ⟨⟨hG, hb hl, by intro p hp; cases hp⟩⟩
    have HB1 : Seal (Below w.heap.size w w) := ⟨Below.refl _ _⟩
    have hl6 : len ≤ 1099511627776 := by omega
    clear hb hG
    obtain ⟨g0, g1, hg⟩ : ∃ g0 g1 : Int, Seal ((if secB n = true then (((pw 4 n : Nat) : Int), (0 : Int)) else (0, 110)) = (g0, g1)) := ⟨_, _, ⟨rfl⟩⟩
    obtain ⟨d0, d1, hd⟩ : ∃ d0 d1 : Int, Seal (askC key r b u v = (d0, d1)) := ⟨_, _, ⟨rfl⟩⟩
    obtain ⟨f0, f1, hf⟩ : ∃ f0 f1 : Int, Seal (answerC x n c = (f0, f1)) := ⟨_, _, ⟨rfl⟩⟩
    go_enter Tryd.func7, Tryd.ntmps7
    go_wp2_with fail
    refine (bsane_any _ HE1.out.glob).mono ?_
    rintro e w2 ⟨rfl, hb⟩
    have HE2 := Seal.mk (HE1.out.below hb)
    have HB2 := Seal.mk (HB1.out.trans (hb.mono HB1.out.size))
    clear hb HE1 HB1
    go_wp2_with fail
    refine (begin_at n g0 g1 _ hg (by omega) (by omega)).mono ?_
    rintro e w3 ⟨rfl, hb⟩
    have HE3 := Seal.mk (HE2.out.below hb)
    have HB3 := Seal.mk (HB2.out.trans (hb.mono HB2.out.size))
    clear hb HE2 HB2
    go_wp2_with fail
    refine (rbegin_at n g0 g1 _ hg).mono ?_
    rintro e w4 ⟨rfl, hb⟩
    have HE4 := Seal.mk (HE3.out.below hb)
    have HB4 := Seal.mk (HB3.out.trans (hb.mono HB3.out.size))
    clear hb HE3 HB3
    go_wp2_with fail
    refine (ask_at key r u v d0 d1 _ _ _ b _ hd (by omega) (by omega) (by omega) (by omega) HE4.out.isb (by omega) HE4.out.glob).mono ?_
    rintro e w5 ⟨rfl, hb⟩
    have HE5 := Seal.mk (HE4.out.below hb)
    have HB5 := Seal.mk (HB4.out.trans (hb.mono HB4.out.size))
    clear hb HE4 HB4
    go_wp2_with fail
    refine (rask_at key r u v d0 d1 _ _ _ b _ hd HE5.out.isb (by omega)).mono ?_
    rintro e w6 ⟨rfl, hb⟩
    have HE6 := Seal.mk (HE5.out.below hb)
    have HB6 := Seal.mk (HB5.out.trans (hb.mono HB5.out.size))
    clear hb HE5 HB5
    go_wp2_with fail
    refine (answer_at x n c f0 f1 _ hf).mono ?_
    rintro e w7 ⟨rfl, hb⟩
    have HE7 := Seal.mk (HE6.out.below hb)
    have HB7 := Seal.mk (HB6.out.trans (hb.mono HB6.out.size))
    clear hb HE6 HB6
    go_wp2_with fail
    refine (ranswer_at x n c f0 f1 _ hf).mono ?_
    rintro e w8 ⟨rfl, hb⟩
    have HE8 := Seal.mk (HE7.out.below hb)
    have HB8 := Seal.mk (HB7.out.trans (hb.mono HB7.out.size))
    clear hb HE7 HB7
    go_wp2_with fail
    go_ret
    exact ⟨rfl, HB8.out⟩
  · have hl' : 600 < (len : Int) := by omega
    clear hb
    go_enter Tryd.func7, Tryd.ntmps7
    go_wp2_with (go_at_call 25; refine (bsane_any _ hG).mono ?_; rintro e w2 ⟨rfl, hb2⟩)
    go_ret
    exact ⟨rfl, hb2⟩
end Frk
