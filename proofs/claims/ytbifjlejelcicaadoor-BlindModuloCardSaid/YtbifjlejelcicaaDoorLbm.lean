/- The law BlindModulo. -/
import Derived.Test.YtbifjlejelcicaaDoorAns
import Derived.Test.YtbifjlejelcicaaDoorLst
namespace Frk
open Go Go.RowKit Go.Proofs
set_option maxRecDepth 100000

set_option maxHeartbeats 4000000 in
theorem law_blindModulo (key r u v c s x n : Int) (a : Option Addr) (len cap : Nat) (b : Bytes) (w : World) (hlm : (len : Int) ≤ 9223372036854775807) (u1 : -9223372036854775808 ≤ u) (u2 : u ≤ 9223372036854775807) (v1 : -9223372036854775808 ≤ v) (v2 : v ≤ 9223372036854775807) (hb : len ≤ 600 → IsB w a len cap b) (hG : Glob w) :
    Calls Tryd.prog 12 #[.int .i64 key, .int .i64 r, .slice a len cap, .int .i64 u, .int .i64 v, .int .i64 c, .int .i64 s, .int .i64 x, .int .i64 n] w fun e w' => e = .returned (.bool true) ∧ Below w.heap.size w w' := by
  by_cases hl : len ≤ 600
  · have HE1 : Seal (Env w a len cap b []) := ⟨⟨hG, hb hl, by intro p hp; cases hp⟩⟩
    have HB1 : Seal (Below w.heap.size w w) := ⟨Below.refl _ _⟩
    have hl6 : len ≤ 1099511627776 := by omega
    clear hb hG
    obtain ⟨m, hm⟩ : ∃ m : Int, Seal (((lq v : Nat) : Int) = m) := ⟨_, ⟨rfl⟩⟩
    obtain ⟨k, hk⟩ : ∃ k : Int, Seal (((lq u : Nat) : Int) = k) := ⟨_, ⟨rfl⟩⟩
    obtain ⟨q, hq⟩ : ∃ q : Int, Seal (((lq s : Nat) : Int) = q) := ⟨_, ⟨rfl⟩⟩
    obtain ⟨p, hp⟩ : ∃ p : Int, Seal (((lq c : Nat) : Int) = p) := ⟨_, ⟨rfl⟩⟩
    have hr := lq_rng v
    rw [hm.out] at hr
    obtain ⟨m0, m9⟩ := hr
    have hr := lq_rng u
    rw [hk.out] at hr
    obtain ⟨k0, k9⟩ := hr
    have hr := lq_rng s
    rw [hq.out] at hr
    obtain ⟨q0, q9⟩ := hr
    have hr := lq_rng c
    rw [hp.out] at hr
    obtain ⟨p0, p9⟩ := hr
    have hQ : ((Q : Nat) : Int) = 1073741789 := rfl
    have em : v % ((Q : Nat) : Int) = (m - 1073741789) % ((Q : Nat) : Int) := by
      have h1 := hm.out
      rw [lq_cast] at h1
      rw [hQ] at *; omega
    have ek : u % ((Q : Nat) : Int) = k % ((Q : Nat) : Int) := by
      have h1 := hk.out
      rw [lq_cast] at h1
      rw [hQ] at *; omega
    have eq : s % ((Q : Nat) : Int) = (q + 1073741789) % ((Q : Nat) : Int) := by
      have h1 := hq.out
      rw [lq_cast] at h1
      rw [hQ] at *; omega
    have ep : c % ((Q : Nat) : Int) = p % ((Q : Nat) : Int) := by
      have h1 := hp.out
      rw [lq_cast] at h1
      rw [hQ] at *; omega
    obtain ⟨d0, d1, hd⟩ : ∃ d0 d1 : Int, Seal (askC key r b u v = (d0, d1)) := ⟨_, _, ⟨rfl⟩⟩
    have hd' : Seal (askC key r b k (m - 1073741789) = (d0, d1)) := ⟨by rw [← askC_congr key r b ek em]; exact hd.out⟩
    obtain ⟨f0, f1, hf⟩ : ∃ f0 f1 : Int, Seal (answerC x n c = (f0, f1)) := ⟨_, _, ⟨rfl⟩⟩
    have hf' : Seal (answerC x n p = (f0, f1)) := ⟨by rw [← answerC_congr x n ep]; exact hf.out⟩
    obtain ⟨g0, g1, g2, hg⟩ : ∃ g0 g1 g2 : Int, Seal (finishC key r b u v s = (g0, g1, g2)) := ⟨_, _, _, ⟨rfl⟩⟩
    have hg' : Seal (finishC key r b k (m - 1073741789) (q + 1073741789) = (g0, g1, g2)) := ⟨by rw [← finishC_congr key r b ek em eq]; exact hg.out⟩
    clear em ek eq ep hQ
    go_enter Tryd.func12, Tryd.ntmps12
    go_wp2_with fail
    refine (bsane_any _ HE1.out.glob).mono ?_
    rintro e w2 ⟨rfl, hb⟩
    have HE2 := Seal.mk (HE1.out.below hb)
    have HB2 := Seal.mk (HB1.out.trans (hb.mono HB1.out.size))
    clear hb HE1 HB1
    go_wp2_with fail
    refine (ask_at key r u v d0 d1 _ _ _ b _ hd (by omega) (by omega) (by omega) (by omega) HE2.out.isb (by omega) HE2.out.glob).mono ?_
    rintro e w3 ⟨rfl, hb⟩
    have HE3 := Seal.mk (HE2.out.below hb)
    have HB3 := Seal.mk (HB2.out.trans (hb.mono HB2.out.size))
    clear hb HE2 HB2
    go_wp2_with fail
    refine (mod_eq u k _ hk).mono ?_
    rintro e w' ⟨rfl, rfl⟩
    go_wp2_with fail
    refine (mod_eq v m _ hm).mono ?_
    rintro e w' ⟨rfl, rfl⟩
    go_wp2_with fail
    refine (ask_at key r k (m - 1073741789) d0 d1 _ _ _ b _ hd' (by omega) (by omega) (by omega) (by omega) HE3.out.isb (by omega) HE3.out.glob).mono ?_
    rintro e w4 ⟨rfl, hb⟩
    have HE4 := Seal.mk (HE3.out.below hb)
    have HB4 := Seal.mk (HB3.out.trans (hb.mono HB3.out.size))
    clear hb HE3 HB3
    go_wp2_with fail
    refine (answer_at x n c f0 f1 _ hf).mono ?_
    rintro e w5 ⟨rfl, hb⟩
    have HE5 := Seal.mk (HE4.out.below hb)
    have HB5 := Seal.mk (HB4.out.trans (hb.mono HB4.out.size))
    clear hb HE4 HB4
    go_wp2_with fail
    refine (mod_eq c p _ hp).mono ?_
    rintro e w' ⟨rfl, rfl⟩
    go_wp2_with fail
    refine (answer_at x n p f0 f1 _ hf').mono ?_
    rintro e w6 ⟨rfl, hb⟩
    have HE6 := Seal.mk (HE5.out.below hb)
    have HB6 := Seal.mk (HB5.out.trans (hb.mono HB5.out.size))
    clear hb HE5 HB5
    go_wp2_with fail
    refine (finish_at key r u v s g0 g1 g2 _ _ _ b _ hg (by omega) (by omega) (by omega) (by omega) HE6.out.isb (by omega) HE6.out.glob).mono ?_
    rintro e w7 ⟨rfl, hb⟩
    have HE7 := Seal.mk ((HE6.out.below hb).push (.cells #[.int .i64 g0, .int .i64 g1] 24))
    have HB7 := Seal.mk ((HB6.out.trans (hb.mono HB6.out.size)).alloc (Nat.le_trans HB6.out.size hb.size) (.cells #[.int .i64 g0, .int .i64 g1] 24))
    clear hb HE6 HB6
    go_wp2_with fail
    refine (mod_eq u k _ hk).mono ?_
    rintro e w' ⟨rfl, rfl⟩
    go_wp2_with fail
    refine (mod_eq v m _ hm).mono ?_
    rintro e w' ⟨rfl, rfl⟩
    go_wp2_with fail
    refine (mod_eq s q _ hq).mono ?_
    rintro e w' ⟨rfl, rfl⟩
    go_wp2_with fail
    refine (finish_at key r k (m - 1073741789) (q + 1073741789) g0 g1 g2 _ _ _ b _ hg' (by omega) (by omega) (by omega) (by omega) HE7.out.isb (by omega) HE7.out.glob).mono ?_
    rintro e w8 ⟨rfl, hb⟩
    have HE8 := Seal.mk ((HE7.out.below hb).push (.cells #[.int .i64 g0, .int .i64 g1] 24))
    have HB8 := Seal.mk ((HB7.out.trans (hb.mono HB7.out.size)).alloc (Nat.le_trans HB7.out.size hb.size) (.cells #[.int .i64 g0, .int .i64 g1] 24))
    clear hb HE7 HB7
    have c0 := HE8.out.cell (g := w7.heap.size) (i := 0) (cs := #[.int .i64 g0, .int .i64 g1]) (t := 24) (by simp) rfl
    have c1 := HE8.out.cell (g := w7.heap.size) (i := 1) (cs := #[.int .i64 g0, .int .i64 g1]) (t := 24) (by simp) rfl
    have heq := fun W => eqSig_same g0 g1 W
    go_wp2_with fail
    go_ret
    exact ⟨rfl, HB8.out⟩
  · have hl' : 600 < (len : Int) := by omega
    clear hb
    go_enter Tryd.func12, Tryd.ntmps12
    go_wp2_with (go_at_call 25; refine (bsane_any _ hG).mono ?_; rintro e w2 ⟨rfl, hb2⟩)
    go_ret
    exact ⟨rfl, hb2⟩
end Frk
