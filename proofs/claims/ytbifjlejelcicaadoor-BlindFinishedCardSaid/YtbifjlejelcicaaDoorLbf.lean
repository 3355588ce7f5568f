/- The law BlindFinished. -/
import Derived.Test.YtbifjlejelcicaaDoorSab
import Derived.Test.YtbifjlejelcicaaDoorLsm
namespace Frk
open Go Go.RowKit Go.Proofs
set_option maxRecDepth 100000

theorem valid_at (x : Int) (r : Bool) (w : World) (hr : vd x = r) : Calls Tryd.prog 19 #[.int .i64 x] w fun e w' => e = .returned (.bool r) ∧ w = w' := by
  rw [← hr]; exact valid_any x w

set_option maxHeartbeats 4000000 in
theorem law_blindFinished (key r u v s : Int) (a : Option Addr) (len cap : Nat) (b : Bytes) (w : World) (hlm : (len : Int) ≤ 9223372036854775807) (u1 : -9223372036854775808 ≤ u) (u2 : u ≤ 9223372036854775807) (v1 : -9223372036854775808 ≤ v) (v2 : v ≤ 9223372036854775807) (hb : len ≤ 600 → IsB w a len cap b) (hG : Glob w) :
    Calls Tryd.prog 11 #[.int .i64 key, .int .i64 r, .slice a len cap, .int .i64 u, .int .i64 v, .int .i64 s] w fun e w' => e = .returned (.bool true) ∧ Below w.heap.size w w' := by
  by_cases hl : len ≤ 600
  · have HE1 : Seal (Env w a len cap b []) := ⟨⟨hG, hb hl, by intro p hp; cases hp⟩⟩
    have HB1 : Seal (Below w.heap.size w w) := ⟨Below.refl _ _⟩
    have hl6 : len ≤ 1099511627776 := by omega
    clear hb hG
    cases hkr : (vd key && vd r) with
    | false =>
      have HN := Seal.mk hkr
      have hkr' : vd key = false ∨ (vd key = true ∧ vd r = false) := by
        cases h1 : vd key
        · exact .inl rfl
        · rw [h1] at hkr; exact .inr ⟨rfl, by simpa using hkr⟩
      have HK := Seal.mk hkr'
      clear hkr hkr'
      rcases HK.out with h | ⟨h, h2⟩
      · have HV := Seal.mk h
        clear h
        go_enter Tryd.func11, Tryd.ntmps11
        go_wp2_with fail
        refine (bsane_any _ HE1.out.glob).mono ?_
        rintro e w2 ⟨rfl, hb⟩
        have HE2 := Seal.mk (HE1.out.below hb)
        have HB2 := Seal.mk (HB1.out.trans (hb.mono HB1.out.size))
        clear hb HE1 HB1
        go_wp2_with fail
        refine (ask_no key r u v _ _ HN.out).mono ?_
        rintro e w3 ⟨rfl, hb⟩
        have HE3 := Seal.mk (HE2.out.below hb)
        have HB3 := Seal.mk (HB2.out.trans (hb.mono HB2.out.size))
        clear hb HE2 HB2
        go_wp2_with fail
        refine (finish_no key r u v s _ _ HN.out).mono ?_
        rintro e w4 ⟨rfl, hb⟩
        have HE4 := Seal.mk ((HE3.out.below hb).push (.cells #[.int .i64 0, .int .i64 0] 24))
        have HB4 := Seal.mk ((HB3.out.trans (hb.mono HB3.out.size)).alloc (Nat.le_trans HB3.out.size hb.size) (.cells #[.int .i64 0, .int .i64 0] 24))
        clear hb HE3 HB3
        have c0 := HE4.out.cell (g := w4.heap.size) (i := 0) (cs := #[.int .i64 0, .int .i64 0]) (t := 24) (by simp) rfl
        have c1 := HE4.out.cell (g := w4.heap.size) (i := 1) (cs := #[.int .i64 0, .int .i64 0]) (t := 24) (by simp) rfl
        have heq := fun W => eqSig_same 0 0 W
        go_wp2_with (go_at_call 19; refine (valid_at _ _ _ HV.out).mono ?_; rintro e w' ⟨rfl, rfl⟩)
        go_ret
        exact ⟨rfl, HB4.out⟩
      · have HV := Seal.mk h
        have HV2 := Seal.mk h2
        clear h h2
        go_enter Tryd.func11, Tryd.ntmps11
        go_wp2_with fail
        refine (bsane_any _ HE1.out.glob).mono ?_
        rintro e w2 ⟨rfl, hb⟩
        have HE2 := Seal.mk (HE1.out.below hb)
        have HB2 := Seal.mk (HB1.out.trans (hb.mono HB1.out.size))
        clear hb HE1 HB1
        go_wp2_with fail
        refine (ask_no key r u v _ _ HN.out).mono ?_
        rintro e w3 ⟨rfl, hb⟩
        have HE3 := Seal.mk (HE2.out.below hb)
        have HB3 := Seal.mk (HB2.out.trans (hb.mono HB2.out.size))
        clear hb HE2 HB2
        go_wp2_with fail
        refine (finish_no key r u v s _ _ HN.out).mono ?_
        rintro e w4 ⟨rfl, hb⟩
        have HE4 := Seal.mk ((HE3.out.below hb).push (.cells #[.int .i64 0, .int .i64 0] 24))
        have HB4 := Seal.mk ((HB3.out.trans (hb.mono HB3.out.size)).alloc (Nat.le_trans HB3.out.size hb.size) (.cells #[.int .i64 0, .int .i64 0] 24))
        clear hb HE3 HB3
        have c0 := HE4.out.cell (g := w4.heap.size) (i := 0) (cs := #[.int .i64 0, .int .i64 0]) (t := 24) (by simp) rfl
        have c1 := HE4.out.cell (g := w4.heap.size) (i := 1) (cs := #[.int .i64 0, .int .i64 0]) (t := 24) (by simp) rfl
        have heq := fun W => eqSig_same 0 0 W
        go_wp2_with fail
        refine (valid_at _ _ _ HV.out).mono ?_
        rintro e w' ⟨rfl, rfl⟩
        go_wp2_with fail
        refine (valid_at _ _ _ HV2.out).mono ?_
        rintro e w' ⟨rfl, rfl⟩
        go_wp2_with fail
        go_ret
        exact ⟨rfl, HB4.out⟩
    | true =>
      have hkr' : vd key = true ∧ vd r = true := by simpa using hkr
      have HN := Seal.mk hkr
      have HV := Seal.mk hkr'.1
      have HV2 := Seal.mk hkr'.2
      obtain ⟨H, hH⟩ : ∃ H : Int, Seal (((blHash key r b u v : Nat) : Int) = H) := ⟨_, ⟨rfl⟩⟩
      obtain ⟨m, hm⟩ : ∃ m : Int, Seal (((lq v : Nat) : Int) = m) := ⟨_, ⟨rfl⟩⟩
      obtain ⟨n, hn⟩ : ∃ n : Int, Seal (((lq u : Nat) : Int) = n) := ⟨_, ⟨rfl⟩⟩
      obtain ⟨q, hq⟩ : ∃ q : Int, Seal (((lq s : Nat) : Int) = q) := ⟨_, ⟨rfl⟩⟩
      obtain ⟨c, hc⟩ : ∃ c : Int, Seal (((lq (H + m) : Nat) : Int) = c) := ⟨_, ⟨rfl⟩⟩
      obtain ⟨S, hS⟩ : ∃ S : Int, Seal (((lq (q + n) : Nat) : Int) = S) := ⟨_, ⟨rfl⟩⟩
      have hc' : Seal (((lq (H + (lq v : Nat)) : Nat) : Int) = c) := ⟨by rw [hm.out]; exact hc.out⟩
      have hS' : Seal (((lq ((lq s : Nat) + (lq u : Nat)) : Nat) : Int) = S) := ⟨by rw [hq.out, hn.out]; exact hS.out⟩
      have hr := blHash_rng key r u v b
      rw [hH.out] at hr
      obtain ⟨H0, H9⟩ := hr
      have hr := lq_rng v
      rw [hm.out] at hr
      obtain ⟨m0, m9⟩ := hr
      have hr := lq_rng u
      rw [hn.out] at hr
      obtain ⟨n0, n9⟩ := hr
      have hr := lq_rng s
      rw [hq.out] at hr
      obtain ⟨q0, q9⟩ := hr
      have hr := lq_rng (H + m)
      rw [hc.out] at hr
      obtain ⟨c0', c9⟩ := hr
      have hSn : Seal ((q + n) % 1073741789 = S) := ⟨by rw [← hS.out, lq_cast]; rfl⟩
      have hcm : Seal (((lq (c - m) : Nat) : Int) = H) := ⟨by
        have h1 := hc.out
        rw [lq_cast, show ((Q : Nat) : Int) = 1073741789 from rfl] at h1
        rw [lq_cast, show ((Q : Nat) : Int) = 1073741789 from rfl]
        omega⟩
      obtain ⟨ok, hok⟩ : ∃ ok : Bool, Seal (vrB key b H S = ok) := ⟨_, ⟨rfl⟩⟩
      clear hkr hkr'
      cases ok with
      | true =>
        go_enter Tryd.func11, Tryd.ntmps11
        go_wp2_with fail
        refine (bsane_any _ HE1.out.glob).mono ?_
        rintro e w2 ⟨rfl, hb⟩
        have HE2 := Seal.mk (HE1.out.below hb)
        have HB2 := Seal.mk (HB1.out.trans (hb.mono HB1.out.size))
        clear hb HE1 HB1
        go_wp2_with fail
        refine (ask_yes key r u v H c _ _ _ b _ HN.out hH hc' (by omega) (by omega) (by omega) (by omega) HE2.out.isb (by omega) HE2.out.glob).mono ?_
        rintro e w3 ⟨rfl, hb⟩
        have HE3 := Seal.mk (HE2.out.below hb)
        have HB3 := Seal.mk (HB2.out.trans (hb.mono HB2.out.size))
        clear hb HE2 HB2
        go_wp2_with fail
        refine (finish_any key r u v s H S true _ _ _ b _ HN.out hH hS' hok (by omega) (by omega) (by omega) (by omega) HE3.out.isb (by omega) HE3.out.glob).mono ?_
        rintro e w4 ⟨rfl, hb⟩
        have HE4 := Seal.mk ((HE3.out.below hb).push (.cells #[.int .i64 H, .int .i64 S] 24))
        have HB4 := Seal.mk ((HB3.out.trans (hb.mono HB3.out.size)).alloc (Nat.le_trans HB3.out.size hb.size) (.cells #[.int .i64 H, .int .i64 S] 24))
        clear hb HE3 HB3
        have c0 := HE4.out.cell (g := w4.heap.size) (i := 0) (cs := #[.int .i64 H, .int .i64 S]) (t := 24) (by simp) rfl
        have c1 := HE4.out.cell (g := w4.heap.size) (i := 1) (cs := #[.int .i64 H, .int .i64 S]) (t := 24) (by simp) rfl
        have heq := fun W => eqSig_same H S W
        go_wp2_with fail
        refine (valid_at _ _ _ HV.out).mono ?_
        rintro e w' ⟨rfl, rfl⟩
        go_wp2_with fail
        refine (valid_at _ _ _ HV2.out).mono ?_
        rintro e w' ⟨rfl, rfl⟩
        go_wp2_with fail
        refine (mod_eq v m _ hm).mono ?_
        rintro e w' ⟨rfl, rfl⟩
        go_wp2_with fail
        refine (mod_eq (c - m) H _ hcm).mono ?_
        rintro e w' ⟨rfl, rfl⟩
        go_wp2_with fail
        refine (mod_eq s q _ hq).mono ?_
        rintro e w' ⟨rfl, rfl⟩
        go_wp2_with fail
        refine (mod_eq u n _ hn).mono ?_
        rintro e w' ⟨rfl, rfl⟩
        go_wp2_with fail
        rw [hSn.out]
        have HE5 := Seal.mk (HE4.out.push (.cells #[.int .i64 H, .int .i64 S] 24))
        have HB5 := Seal.mk (HB4.out.alloc HB4.out.size (.cells #[.int .i64 H, .int .i64 S] 24))
        clear HE4 HB4 c0 c1
        refine (ver_at key H S true _ _ _ b _ hok.out HE5.out.isb (by omega) HE5.out.glob).mono ?_
        rintro e w6 ⟨rfl, hb⟩
        have HE6 := Seal.mk (HE5.out.below hb)
        have HB6 := Seal.mk (HB5.out.trans (hb.mono HB5.out.size))
        clear hb HE5 HB5
        have c0 := HE6.out.cell (g := w4.heap.size) (i := 0) (cs := #[.int .i64 H, .int .i64 S]) (t := 24) (by simp) rfl
        have c1 := HE6.out.cell (g := w4.heap.size) (i := 1) (cs := #[.int .i64 H, .int .i64 S]) (t := 24) (by simp) rfl
        have d0 := HE6.out.cell (g := w4.heap.size + 1) (i := 0) (cs := #[.int .i64 H, .int .i64 S]) (t := 24) (by simp) rfl
        have d1 := HE6.out.cell (g := w4.heap.size + 1) (i := 1) (cs := #[.int .i64 H, .int .i64 S]) (t := 24) (by simp) rfl
        go_wp2_with fail
        go_ret
        exact ⟨rfl, HB6.out⟩
      | false =>
        go_enter Tryd.func11, Tryd.ntmps11
        go_wp2_with fail
        refine (bsane_any _ HE1.out.glob).mono ?_
        rintro e w2 ⟨rfl, hb⟩
        have HE2 := Seal.mk (HE1.out.below hb)
        have HB2 := Seal.mk (HB1.out.trans (hb.mono HB1.out.size))
        clear hb HE1 HB1
        go_wp2_with fail
        refine (ask_yes key r u v H c _ _ _ b _ HN.out hH hc' (by omega) (by omega) (by omega) (by omega) HE2.out.isb (by omega) HE2.out.glob).mono ?_
        rintro e w3 ⟨rfl, hb⟩
        have HE3 := Seal.mk (HE2.out.below hb)
        have HB3 := Seal.mk (HB2.out.trans (hb.mono HB2.out.size))
        clear hb HE2 HB2
        go_wp2_with fail
        refine (finish_any key r u v s H S false _ _ _ b _ HN.out hH hS' hok (by omega) (by omega) (by omega) (by omega) HE3.out.isb (by omega) HE3.out.glob).mono ?_
        rintro e w4 ⟨rfl, hb⟩
        have HE4 := Seal.mk ((HE3.out.below hb).push (.cells #[.int .i64 0, .int .i64 0] 24))
        have HB4 := Seal.mk ((HB3.out.trans (hb.mono HB3.out.size)).alloc (Nat.le_trans HB3.out.size hb.size) (.cells #[.int .i64 0, .int .i64 0] 24))
        clear hb HE3 HB3
        have c0 := HE4.out.cell (g := w4.heap.size) (i := 0) (cs := #[.int .i64 0, .int .i64 0]) (t := 24) (by simp) rfl
        have c1 := HE4.out.cell (g := w4.heap.size) (i := 1) (cs := #[.int .i64 0, .int .i64 0]) (t := 24) (by simp) rfl
        have heq := fun W => eqSig_same 0 0 W
        go_wp2_with fail
        refine (valid_at _ _ _ HV.out).mono ?_
        rintro e w' ⟨rfl, rfl⟩
        go_wp2_with fail
        refine (valid_at _ _ _ HV2.out).mono ?_
        rintro e w' ⟨rfl, rfl⟩
        go_wp2_with fail
        refine (mod_eq v m _ hm).mono ?_
        rintro e w' ⟨rfl, rfl⟩
        go_wp2_with fail
        refine (mod_eq (c - m) H _ hcm).mono ?_
        rintro e w' ⟨rfl, rfl⟩
        go_wp2_with fail
        refine (mod_eq s q _ hq).mono ?_
        rintro e w' ⟨rfl, rfl⟩
        go_wp2_with fail
        refine (mod_eq u n _ hn).mono ?_
        rintro e w' ⟨rfl, rfl⟩
        go_wp2_with fail
        rw [hSn.out]
        have HE5 := Seal.mk (HE4.out.push (.cells #[.int .i64 H, .int .i64 S] 24))
        have HB5 := Seal.mk (HB4.out.alloc HB4.out.size (.cells #[.int .i64 H, .int .i64 S] 24))
        clear HE4 HB4 c0 c1
        refine (ver_at key H S false _ _ _ b _ hok.out HE5.out.isb (by omega) HE5.out.glob).mono ?_
        rintro e w6 ⟨rfl, hb⟩
        have HE6 := Seal.mk (HE5.out.below hb)
        have HB6 := Seal.mk (HB5.out.trans (hb.mono HB5.out.size))
        clear hb HE5 HB5
        have c0 := HE6.out.cell (g := w4.heap.size) (i := 0) (cs := #[.int .i64 0, .int .i64 0]) (t := 24) (by simp) rfl
        have c1 := HE6.out.cell (g := w4.heap.size) (i := 1) (cs := #[.int .i64 0, .int .i64 0]) (t := 24) (by simp) rfl
        have d0 := HE6.out.cell (g := w4.heap.size + 1) (i := 0) (cs := #[.int .i64 H, .int .i64 S]) (t := 24) (by simp) rfl
        have d1 := HE6.out.cell (g := w4.heap.size + 1) (i := 1) (cs := #[.int .i64 H, .int .i64 S]) (t := 24) (by simp) rfl
        go_wp2_with fail
        go_ret
        exact ⟨rfl, HB6.out⟩
  · have hl' : 600 < (len : Int) := by omega
    clear hb
    go_enter Tryd.func11, Tryd.ntmps11
    go_wp2_with (go_at_call 25; refine (bsane_any _ hG).mono ?_; rintro e w2 ⟨rfl, hb2⟩)
    go_ret
    exact ⟨rfl, hb2⟩
end Frk
