/- The law BlindRight. -/
import Derived.Test.YtbifjlejelcicaaDoorBpl
import Derived.Test.YtbifjlejelcicaaDoorLsr
namespace Frk
open Go Go.RowKit Go.Proofs
set_option maxRecDepth 100000

theorem tr_at' (key r c s : Int) (w : World) (h : trC key r c s = true) : Calls Tryd.prog 36 #[.int .i64 key, .int .i64 r, .int .i64 c, .int .i64 s] w fun e w' => e = .returned (.bool true) ∧ w = w' := by
  rw [← h]; exact transcript_any key r c s w

set_option maxHeartbeats 4000000 in
theorem law_blindRight (x n u v : Int) (a : Option Addr) (len cap : Nat) (b : Bytes) (w : World) (hlm : (len : Int) ≤ 9223372036854775807) (n1 : -9223372036854775808 ≤ n) (n2 : n ≤ 9223372036854775807) (u1 : -9223372036854775808 ≤ u) (u2 : u ≤ 9223372036854775807) (v1 : -9223372036854775808 ≤ v) (v2 : v ≤ 9223372036854775807) (hb : len ≤ 600 → IsB w a len cap b) (hG : Glob w) :
    Calls Tryd.prog 9 #[.int .i64 x, .int .i64 n, .slice a len cap, .int .i64 u, .int .i64 v] w fun e w' => e = .returned (.bool true) ∧ Below w.heap.size w w' := by
  by_cases hl : len ≤ 600
  · by_cases hx1 : x < 1
    · clear hb
      go_enter Tryd.func9, Tryd.ntmps9
      go_wp2_with (go_at_call 25; refine (bsane_any _ hG).mono ?_; rintro e w2 ⟨rfl, hb2⟩)
      go_ret
      exact ⟨rfl, hb2⟩
    · by_cases hx2 : 1073741789 ≤ x
      · clear hb
        go_enter Tryd.func9, Tryd.ntmps9
        go_wp2_with (go_at_call 25; refine (bsane_any _ hG).mono ?_; rintro e w2 ⟨rfl, hb2⟩)
        go_ret
        exact ⟨rfl, hb2⟩
      · have HE1 : Seal (Env w a len cap b []) := ⟨⟨hG, hb hl, by intro p hp; cases hp⟩⟩
        have HB1 : Seal (Below w.heap.size w w) := ⟨Below.refl _ _⟩
        have hl6 : len ≤ 1099511627776 := by omega
        clear hb hG
        obtain ⟨key, hkey⟩ : ∃ key : Int, Seal (((pw 4 x : Nat) : Int) = key) := ⟨_, ⟨rfl⟩⟩
        cases hs : secB n with
        | false =>
          have HBG : Seal ((if secB n = true then (((pw 4 n : Nat) : Int), (0 : Int)) else (0, 110)) = (0, 110)) := ⟨by rw [hs]; rfl⟩
          have hn : n < 1 ∨ (1 ≤ n ∧ 1073741789 ≤ n) := by unfold secB at hs; simp at hs; omega
          clear hs
          rcases hn with h | ⟨h, h2⟩
          ·
            go_enter Tryd.func9, Tryd.ntmps9
            go_wp2_with fail
            refine (bsane_any _ HE1.out.glob).mono ?_
            rintro e w2 ⟨rfl, hb⟩
            have HE2 := Seal.mk (HE1.out.below hb)
            have HB2 := Seal.mk (HB1.out.trans (hb.mono HB1.out.size))
            clear hb HE1 HB1
            go_wp2_with fail
            refine (pow_eq4 x _ key hkey (by omega) (by omega)).mono ?_
            rintro e w3 ⟨rfl, hb⟩
            have HE3 := Seal.mk (HE2.out.below hb)
            have HB3 := Seal.mk (HB2.out.trans (hb.mono HB2.out.size))
            clear hb HE2 HB2
            go_wp2_with fail
            refine (begin_at n 0 110 _ HBG n1 n2).mono ?_
            rintro e w4 ⟨rfl, hb⟩
            have HE4 := Seal.mk (HE3.out.below hb)
            have HB4 := Seal.mk (HB3.out.trans (hb.mono HB3.out.size))
            clear hb HE3 HB3
            go_wp2_with fail
            go_ret
            exact ⟨rfl, HB4.out⟩
          ·
            go_enter Tryd.func9, Tryd.ntmps9
            go_wp2_with fail
            refine (bsane_any _ HE1.out.glob).mono ?_
            rintro e w2 ⟨rfl, hb⟩
            have HE2 := Seal.mk (HE1.out.below hb)
            have HB2 := Seal.mk (HB1.out.trans (hb.mono HB1.out.size))
            clear hb HE1 HB1
            go_wp2_with fail
            refine (pow_eq4 x _ key hkey (by omega) (by omega)).mono ?_
            rintro e w3 ⟨rfl, hb⟩
            have HE3 := Seal.mk (HE2.out.below hb)
            have HB3 := Seal.mk (HB2.out.trans (hb.mono HB2.out.size))
            clear hb HE2 HB2
            go_wp2_with fail
            refine (begin_at n 0 110 _ HBG n1 n2).mono ?_
            rintro e w4 ⟨rfl, hb⟩
            have HE4 := Seal.mk (HE3.out.below hb)
            have HB4 := Seal.mk (HB3.out.trans (hb.mono HB3.out.size))
            clear hb HE3 HB3
            go_wp2_with fail
            go_ret
            exact ⟨rfl, HB4.out⟩
        | true =>
          have hsn := (secB_iff n).1 hs
          obtain ⟨n0, n9⟩ := hsn
          obtain ⟨r, hr⟩ : ∃ r : Int, Seal (((pw 4 n : Nat) : Int) = r) := ⟨_, ⟨rfl⟩⟩
          have HBG : Seal ((if secB n = true then (((pw 4 n : Nat) : Int), (0 : Int)) else (0, 110)) = (r, 0)) := ⟨by rw [hs, hr.out]; rfl⟩
          have hk : vd key = true := by rw [← hkey.out]; exact vd_of_nat (vd4.pw x)
          have hrv : vd r = true := by rw [← hr.out]; exact vd_of_nat (vd4.pw n)
          obtain ⟨H, hH⟩ : ∃ H : Int, Seal (((blHash key r b u v : Nat) : Int) = H) := ⟨_, ⟨rfl⟩⟩
          obtain ⟨c, hc⟩ : ∃ c : Int, Seal (((lq (H + (lq v : Nat)) : Nat) : Int) = c) := ⟨_, ⟨rfl⟩⟩
          obtain ⟨s, hs2⟩ : ∃ s : Int, Seal (((lq (n + (lq c : Nat) * x) : Nat) : Int) = s) := ⟨_, ⟨rfl⟩⟩
          obtain ⟨S, hS⟩ : ∃ S : Int, Seal (((lq ((lq s : Nat) + (lq u : Nat)) : Nat) : Int) = S) := ⟨_, ⟨rfl⟩⟩
          have HX : secB x = true := (secB_iff x).2 ⟨by omega, by omega⟩
          have HA : Seal (askC key r b u v = (c, 0)) := ⟨by unfold askC; rw [hk, hrv, ← hc.out, hH.out]; rfl⟩
          have HW : Seal (answerC x n c = (s, 0)) := ⟨by unfold answerC; rw [HX, hs, ← hs2.out]; rfl⟩
          have hfin : finH key r b u v s = true := by
            rw [← hkey.out, ← hr.out]
            exact right_fin x n u v b c s (by rw [hkey.out, hr.out, hH.out, hc.out]) hs2.out.symm
          have HF : Seal (finishC key r b u v s = (H, S, 0)) := ⟨by unfold finishC; rw [hk, hrv, hfin, ← hS.out, hH.out]; rfl⟩
          have HV : Seal (vrB key b H S = true) := ⟨by unfold finH at hfin; rw [hH.out, hS.out] at hfin; exact hfin⟩
          have HT : Seal (trC key r c s = true) := ⟨by rw [← hkey.out, ← hr.out, ← hs2.out]; exact right_tr x n c⟩
          have h3 := lq_rng (H + (lq v : Nat))
          rw [hc.out] at h3
          obtain ⟨c0, c9⟩ := h3
          have h3 := lq_rng (n + (lq c : Nat) * x)
          rw [hs2.out] at h3
          obtain ⟨s0, s9⟩ := h3
          clear hs hk hrv HX hfin hH hc hs2 hS
          go_enter Tryd.func9, Tryd.ntmps9
          go_wp2_with fail
          refine (bsane_any _ HE1.out.glob).mono ?_
          rintro e w2 ⟨rfl, hb⟩
          have HE2 := Seal.mk (HE1.out.below hb)
          have HB2 := Seal.mk (HB1.out.trans (hb.mono HB1.out.size))
          clear hb HE1 HB1
          go_wp2_with fail
          refine (pow_eq4 x _ key hkey (by omega) (by omega)).mono ?_
          rintro e w3 ⟨rfl, hb⟩
          have HE3 := Seal.mk (HE2.out.below hb)
          have HB3 := Seal.mk (HB2.out.trans (hb.mono HB2.out.size))
          clear hb HE2 HB2
          go_wp2_with fail
          refine (begin_at n r 0 _ HBG n1 n2).mono ?_
          rintro e w4 ⟨rfl, hb⟩
          have HE4 := Seal.mk (HE3.out.below hb)
          have HB4 := Seal.mk (HB3.out.trans (hb.mono HB3.out.size))
          clear hb HE3 HB3
          go_wp2_with fail
          refine (ask_at key r u v c 0 _ _ _ b _ HA (by omega) (by omega) (by omega) (by omega) HE4.out.isb (by omega) HE4.out.glob).mono ?_
          rintro e w5 ⟨rfl, hb⟩
          have HE5 := Seal.mk (HE4.out.below hb)
          have HB5 := Seal.mk (HB4.out.trans (hb.mono HB4.out.size))
          clear hb HE4 HB4
          go_wp2_with fail
          refine (answer_at x n c s 0 _ HW).mono ?_
          rintro e w6 ⟨rfl, hb⟩
          have HE6 := Seal.mk (HE5.out.below hb)
          have HB6 := Seal.mk (HB5.out.trans (hb.mono HB5.out.size))
          clear hb HE5 HB5
          go_wp2_with fail
          refine (finish_at key r u v s H S 0 _ _ _ b _ HF (by omega) (by omega) (by omega) (by omega) HE6.out.isb (by omega) HE6.out.glob).mono ?_
          rintro e w7 ⟨rfl, hb⟩
          have HE7 := Seal.mk ((HE6.out.below hb).push (.cells #[.int .i64 H, .int .i64 S] 24))
          have HB7 := Seal.mk ((HB6.out.trans (hb.mono HB6.out.size)).alloc (Nat.le_trans HB6.out.size hb.size) (.cells #[.int .i64 H, .int .i64 S] 24))
          clear hb HE6 HB6
          have d0 := HE7.out.cell (g := w7.heap.size) (i := 0) (cs := #[.int .i64 H, .int .i64 S]) (t := 24) (by simp) rfl
          have d1 := HE7.out.cell (g := w7.heap.size) (i := 1) (cs := #[.int .i64 H, .int .i64 S]) (t := 24) (by simp) rfl
          go_wp2_with fail
          refine (tr_at' key r c s _ HT.out).mono ?_
          rintro e w' ⟨rfl, rfl⟩
          go_wp2_with fail
          refine (ver_at key H S true _ _ _ b _ HV.out HE7.out.isb (by omega) HE7.out.glob).mono ?_
          rintro e w8 ⟨rfl, hb⟩
          have HE8 := Seal.mk (HE7.out.below hb)
          have HB8 := Seal.mk (HB7.out.trans (hb.mono HB7.out.size))
          clear hb HE7 HB7
          go_wp2_with fail
          go_ret
          exact ⟨rfl, HB8.out⟩
  · have hl' : 600 < (len : Int) := by omega
    clear hb
    go_enter Tryd.func9, Tryd.ntmps9
    go_wp2_with (go_at_call 25; refine (bsane_any _ hG).mono ?_; rintro e w2 ⟨rfl, hb2⟩)
    go_ret
    exact ⟨rfl, hb2⟩
end Frk
