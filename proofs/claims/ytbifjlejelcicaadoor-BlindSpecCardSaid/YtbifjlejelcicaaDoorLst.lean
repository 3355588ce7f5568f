/- The law SignTwice, walked. -/
import Derived.Test.YtbifjlejelcicaaDoorLsr
import Derived.Test.YtbifjlejelcicaaDoorPnt
import Derived.Test.YtbifjlejelcicaaDoorRqm
namespace Frk
open Go Go.RowKit Go.Proofs
set_option maxRecDepth 100000

/-- two signatures with one point give away the secret -/
theorem twice_key (key E1 S1 E2 S2 : Int) (hk : vd key = true) (hp : sgPoint key E1 S1 = sgPoint key E2 S2) (hne : lq (E1 - E2) ≠ 0) : ((pw 4 (quo (S1 - S2) (E1 - E2) : Nat) : Nat) : Int) = key := by
  obtain ⟨K, rfl, hK⟩ := vd_of_vd hk
  unfold sgPoint at hp
  rw [Int.toNat_natCast] at hp
  have v4 := vd4
  have e1 : pw 4 (S1 - S2) = pw K (E1 - E2) := by
    have h := congrArg (fun z => mp (mp z (pw K E1)) (pw 4 (-S2))) hp
    have l : mp (mp (mp (pw 4 S1) (pw K (-E1))) (pw K E1)) (pw 4 (-S2)) = pw 4 (S1 - S2) := by
      rw [mp_assoc (pw 4 S1), show mp (pw K (-E1)) (pw K E1) = 1 from by unfold mp; rw [← pw_add hK, show -E1 + E1 = 0 by omega, pw_zero], mp_one (pw_lt _ _)]
      unfold mp; rw [← pw_add v4]; rfl
    have r : mp (mp (mp (pw 4 S2) (pw K (-E2))) (pw K E1)) (pw 4 (-S2)) = pw K (E1 - E2) := by
      rw [mp_comm (pw 4 S2), mp_assoc, mp_assoc, mp_left_comm (pw 4 S2), show mp (pw 4 S2) (pw 4 (-S2)) = 1 from by unfold mp; rw [← pw_add v4, show S2 + -S2 = 0 by omega, pw_zero], mp_one (pw_lt _ _)]
      unfold mp; rw [← pw_add hK, show -E2 + E1 = E1 - E2 by omega]
    rw [← l, ← r]; exact h
  have e2 : pw (pw 4 (quo (S1 - S2) (E1 - E2) : Nat)) (E1 - E2) = pw K (E1 - E2) := by
    rw [pw_pw v4, ← e1]
    exact pw_congr 4 (lq_eq_iff.1 (quo_mul _ _ hne))
  have e3 := congrArg (fun z => pw z (quo 1 (E1 - E2) : Nat)) e2
  have hX : Vd (pw 4 (quo (S1 - S2) (E1 - E2) : Nat)) := v4.pw _
  have one : ∀ X : Nat, Vd X → pw (pw X (E1 - E2)) (quo 1 (E1 - E2) : Nat) = X := fun X hX => by
    rw [pw_pw hX, Int.mul_comm, pw_congr X (lq_eq_iff.1 (quo_mul 1 _ hne)), pw_one hX]
  simp only [one _ hX, one _ hK] at e3
  rw [e3]

theorem vr_parts {key E S : Int} {b : Bytes} (h : vrB key b E S = true) : (0 ≤ E ∧ E < 1073741789) ∧ (0 ≤ S ∧ S < 1073741789) ∧ vd key = true := by
  unfold vrB at h
  simp only [Bool.and_eq_true] at h
  exact ⟨(inQ_iff E).1 h.1.1.1, (inQ_iff S).1 h.1.1.2, h.1.2⟩

theorem point_eq (key E S r : Int) (w : World) (hr : Seal (((sgPoint key E S : Nat) : Int) = r)) (hE : 0 ≤ E) (hE2 : E < 1073741789) (hS : 0 ≤ S) (hS2 : S < 1073741789) (hk : vd key = true) :
    Calls Tryd.prog 20 #[.int .i64 key, .agg #[.int .i64 E, .int .i64 S]] w fun e w' => e = .returned (.tuple #[.int .i64 r, .bool true]) ∧ Below w.heap.size w w' := by
  rw [← hr.out]; exact point_yes key E S w hE hE2 hS hS2 hk

theorem mod_eq (n r : Int) (w : World) (hr : Seal (((lq n : Nat) : Int) = r)) : Calls Tryd.prog 23 #[.int .i64 n] w fun e w' => e = .returned (.int .i64 r) ∧ w = w' := by
  rw [← hr.out]; exact mod_any n w

theorem quo_eq (a b q : Int) (w : World) (hq : Seal (((quo a b : Nat) : Int) = q)) : Calls Tryd.prog 24 #[.int .i64 a, .int .i64 b] w fun e w' => e = .returned (.int .i64 q) ∧ w = w' := by
  rw [← hq.out]; exact quotient_any a b w

set_option maxHeartbeats 2000000 in
theorem law_signTwice (key E1 S1 E2 S2 : Int) (a1 a2 a3 : Option Addr) (n1 n2 n3 c1 c2 c3 : Nat) (b1 b2 b3 : Bytes) (w : World)
    (hm1 : (n1 : Int) ≤ 9223372036854775807) (hm2 : (n2 : Int) ≤ 9223372036854775807) (hm3 : (n3 : Int) ≤ 9223372036854775807)
    (hb1 : n1 ≤ 600 → IsB w a1 n1 c1 b1) (hb2 : n2 ≤ 600 → IsB w a2 n2 c2 b2) (hb3 : n3 ≤ 600 → IsB w a3 n3 c3 b3) (hG : Glob w) :
    Calls Tryd.prog 6 #[.int .i64 key, .slice a1 n1 c1, .slice a2 n2 c2, .slice a3 n3 c3, .agg #[.int .i64 E1, .int .i64 S1], .agg #[.int .i64 E2, .int .i64 S2]] w fun e w' => e = .returned (.bool true) ∧ Below w.heap.size w w' := by
  have HBB : Seal (Below w.heap.size w ((w.alloc (.cells #[.int .i64 E1, .int .i64 S1] 24)).alloc (.cells #[.int .i64 E2, .int .i64 S2] 24))) := ⟨((Below.refl _ w).alloc (Nat.le_refl _) _).alloc (by simp) _⟩
  by_cases hl1 : n1 ≤ 600
  · by_cases hl2 : n2 ≤ 600
    · by_cases hl3 : n3 ≤ 600
      · have HE1 : Seal (Env ((w.alloc (.cells #[.int .i64 E1, .int .i64 S1] 24)).alloc (.cells #[.int .i64 E2, .int .i64 S2] 24)) a1 n1 c1 b1 [((w.alloc (.cells #[.int .i64 E1, .int .i64 S1] 24)).heap.size, .cells #[.int .i64 E2, .int .i64 S2] 24), (w.heap.size, .cells #[.int .i64 E1, .int .i64 S1] 24)]) :=
          ⟨((Env.mk hG (hb1 hl1) (by intro p hp; cases hp) : Env w a1 n1 c1 b1 []).push _).push _⟩
        rw [size_alloc] at HE1
        have HC1 := Seal.mk ((hb2 hl2).below HBB.out)
        have HD1 := Seal.mk ((hb3 hl3).below HBB.out)
        have hs1 : n1 ≤ 1099511627776 := by omega
        have hs2 : n2 ≤ 1099511627776 := by omega
        have hs3 : n3 ≤ 1099511627776 := by omega
        clear hb1 hb2 hb3 hG
        have HB1 := HBB
        cases hv1 : vrB key b1 E1 S1 with
        | false =>
          have HV1 : Seal (vrB key b1 E1 S1 = false) := ⟨hv1⟩
          clear hv1
          go_enter Tryd.func6, Tryd.ntmps6
          go_wp2_with fail
          refine (sane_any _ HE1.out.glob).mono ?_
          rintro e w2 ⟨rfl, hb⟩
          have HE2 := Seal.mk (HE1.out.below hb)
          have HC2 := Seal.mk (HC1.out.below hb)
          have HD2 := Seal.mk (HD1.out.below hb)
          have HB2 := Seal.mk (HB1.out.trans (hb.mono HB1.out.size))
          clear hb HE1 HB1 HC1 HD1
          have u0 := HE2.out.cell (g := w.heap.size) (i := 0) (cs := #[.int .i64 E1, .int .i64 S1]) (t := 24) (by simp) rfl
          have u1 := HE2.out.cell (g := w.heap.size) (i := 1) (cs := #[.int .i64 E1, .int .i64 S1]) (t := 24) (by simp) rfl
          have v0 := HE2.out.cell (g := w.heap.size + 1) (i := 0) (cs := #[.int .i64 E2, .int .i64 S2]) (t := 24) (by simp) rfl
          have v1 := HE2.out.cell (g := w.heap.size + 1) (i := 1) (cs := #[.int .i64 E2, .int .i64 S2]) (t := 24) (by simp) rfl
          go_wp2_with fail
          refine (ver_at key E1 S1 false a1 n1 c1 b1 _ HV1.out HE2.out.isb hs1 HE2.out.glob).mono ?_
          rintro e w3 ⟨rfl, hb⟩
          have HE3 := Seal.mk (HE2.out.below hb)
          have HC3 := Seal.mk (HC2.out.below hb)
          have HD3 := Seal.mk (HD2.out.below hb)
          have HB3 := Seal.mk (HB2.out.trans (hb.mono HB2.out.size))
          clear hb HE2 HB2 HC2 HD2
          have u0 := HE3.out.cell (g := w.heap.size) (i := 0) (cs := #[.int .i64 E1, .int .i64 S1]) (t := 24) (by simp) rfl
          have u1 := HE3.out.cell (g := w.heap.size) (i := 1) (cs := #[.int .i64 E1, .int .i64 S1]) (t := 24) (by simp) rfl
          have v0 := HE3.out.cell (g := w.heap.size + 1) (i := 0) (cs := #[.int .i64 E2, .int .i64 S2]) (t := 24) (by simp) rfl
          have v1 := HE3.out.cell (g := w.heap.size + 1) (i := 1) (cs := #[.int .i64 E2, .int .i64 S2]) (t := 24) (by simp) rfl
          go_wp2_with fail
          go_ret
          exact ⟨rfl, HB3.out⟩
        | true =>
          have HV1 : Seal (vrB key b1 E1 S1 = true) := ⟨hv1⟩
          clear hv1
          cases hv2 : vrB key b2 E2 S2 with
          | false =>
            have HV2 : Seal (vrB key b2 E2 S2 = false) := ⟨hv2⟩
            clear hv2
            go_enter Tryd.func6, Tryd.ntmps6
            go_wp2_with fail
            refine (sane_any _ HE1.out.glob).mono ?_
            rintro e w2 ⟨rfl, hb⟩
            have HE2 := Seal.mk (HE1.out.below hb)
            have HC2 := Seal.mk (HC1.out.below hb)
            have HD2 := Seal.mk (HD1.out.below hb)
            have HB2 := Seal.mk (HB1.out.trans (hb.mono HB1.out.size))
            clear hb HE1 HB1 HC1 HD1
            have u0 := HE2.out.cell (g := w.heap.size) (i := 0) (cs := #[.int .i64 E1, .int .i64 S1]) (t := 24) (by simp) rfl
            have u1 := HE2.out.cell (g := w.heap.size) (i := 1) (cs := #[.int .i64 E1, .int .i64 S1]) (t := 24) (by simp) rfl
            have v0 := HE2.out.cell (g := w.heap.size + 1) (i := 0) (cs := #[.int .i64 E2, .int .i64 S2]) (t := 24) (by simp) rfl
            have v1 := HE2.out.cell (g := w.heap.size + 1) (i := 1) (cs := #[.int .i64 E2, .int .i64 S2]) (t := 24) (by simp) rfl
            go_wp2_with fail
            refine (ver_at key E1 S1 true a1 n1 c1 b1 _ HV1.out HE2.out.isb hs1 HE2.out.glob).mono ?_
            rintro e w3 ⟨rfl, hb⟩
            have HE3 := Seal.mk (HE2.out.below hb)
            have HC3 := Seal.mk (HC2.out.below hb)
            have HD3 := Seal.mk (HD2.out.below hb)
            have HB3 := Seal.mk (HB2.out.trans (hb.mono HB2.out.size))
            clear hb HE2 HB2 HC2 HD2
            have u0 := HE3.out.cell (g := w.heap.size) (i := 0) (cs := #[.int .i64 E1, .int .i64 S1]) (t := 24) (by simp) rfl
            have u1 := HE3.out.cell (g := w.heap.size) (i := 1) (cs := #[.int .i64 E1, .int .i64 S1]) (t := 24) (by simp) rfl
            have v0 := HE3.out.cell (g := w.heap.size + 1) (i := 0) (cs := #[.int .i64 E2, .int .i64 S2]) (t := 24) (by simp) rfl
            have v1 := HE3.out.cell (g := w.heap.size + 1) (i := 1) (cs := #[.int .i64 E2, .int .i64 S2]) (t := 24) (by simp) rfl
            go_wp2_with fail
            refine (ver_at key E2 S2 false a2 n2 c2 b2 _ HV2.out HC3.out hs2 HE3.out.glob).mono ?_
            rintro e w4 ⟨rfl, hb⟩
            have HE4 := Seal.mk (HE3.out.below hb)
            have HC4 := Seal.mk (HC3.out.below hb)
            have HD4 := Seal.mk (HD3.out.below hb)
            have HB4 := Seal.mk (HB3.out.trans (hb.mono HB3.out.size))
            clear hb HE3 HB3 HC3 HD3
            have u0 := HE4.out.cell (g := w.heap.size) (i := 0) (cs := #[.int .i64 E1, .int .i64 S1]) (t := 24) (by simp) rfl
            have u1 := HE4.out.cell (g := w.heap.size) (i := 1) (cs := #[.int .i64 E1, .int .i64 S1]) (t := 24) (by simp) rfl
            have v0 := HE4.out.cell (g := w.heap.size + 1) (i := 0) (cs := #[.int .i64 E2, .int .i64 S2]) (t := 24) (by simp) rfl
            have v1 := HE4.out.cell (g := w.heap.size + 1) (i := 1) (cs := #[.int .i64 E2, .int .i64 S2]) (t := 24) (by simp) rfl
            go_wp2_with fail
            go_ret
            exact ⟨rfl, HB4.out⟩
          | true =>
            have HV2 : Seal (vrB key b2 E2 S2 = true) := ⟨hv2⟩
            clear hv2
            obtain ⟨⟨e1, e2⟩, ⟨s1, s2⟩, hkv⟩ := vr_parts HV1.out
            obtain ⟨⟨e3, e4⟩, ⟨s3, s4⟩, _⟩ := vr_parts HV2.out
            have HKV := Seal.mk hkv
            obtain ⟨r1, hr1⟩ : ∃ r : Int, Seal (((sgPoint key E1 S1 : Nat) : Int) = r) := ⟨_, ⟨rfl⟩⟩
            obtain ⟨r2, hr2⟩ : ∃ r : Int, Seal (((sgPoint key E2 S2 : Nat) : Int) = r) := ⟨_, ⟨rfl⟩⟩
            clear hkv
            by_cases hrr : r1 = r2
            · obtain ⟨m, hm⟩ : ∃ m : Int, Seal (((lq (E1 - E2) : Nat) : Int) = m) := ⟨_, ⟨rfl⟩⟩
              subst hrr
              by_cases hm0 : m = 0
              · subst hm0
                go_enter Tryd.func6, Tryd.ntmps6
                go_wp2_with fail
                refine (sane_any _ HE1.out.glob).mono ?_
                rintro e w2 ⟨rfl, hb⟩
                have HE2 := Seal.mk (HE1.out.below hb)
                have HC2 := Seal.mk (HC1.out.below hb)
                have HD2 := Seal.mk (HD1.out.below hb)
                have HB2 := Seal.mk (HB1.out.trans (hb.mono HB1.out.size))
                clear hb HE1 HB1 HC1 HD1
                have u0 := HE2.out.cell (g := w.heap.size) (i := 0) (cs := #[.int .i64 E1, .int .i64 S1]) (t := 24) (by simp) rfl
                have u1 := HE2.out.cell (g := w.heap.size) (i := 1) (cs := #[.int .i64 E1, .int .i64 S1]) (t := 24) (by simp) rfl
                have v0 := HE2.out.cell (g := w.heap.size + 1) (i := 0) (cs := #[.int .i64 E2, .int .i64 S2]) (t := 24) (by simp) rfl
                have v1 := HE2.out.cell (g := w.heap.size + 1) (i := 1) (cs := #[.int .i64 E2, .int .i64 S2]) (t := 24) (by simp) rfl
                go_wp2_with fail
                refine (ver_at key E1 S1 true a1 n1 c1 b1 _ HV1.out HE2.out.isb hs1 HE2.out.glob).mono ?_
                rintro e w3 ⟨rfl, hb⟩
                have HE3 := Seal.mk (HE2.out.below hb)
                have HC3 := Seal.mk (HC2.out.below hb)
                have HD3 := Seal.mk (HD2.out.below hb)
                have HB3 := Seal.mk (HB2.out.trans (hb.mono HB2.out.size))
                clear hb HE2 HB2 HC2 HD2
                have u0 := HE3.out.cell (g := w.heap.size) (i := 0) (cs := #[.int .i64 E1, .int .i64 S1]) (t := 24) (by simp) rfl
                have u1 := HE3.out.cell (g := w.heap.size) (i := 1) (cs := #[.int .i64 E1, .int .i64 S1]) (t := 24) (by simp) rfl
                have v0 := HE3.out.cell (g := w.heap.size + 1) (i := 0) (cs := #[.int .i64 E2, .int .i64 S2]) (t := 24) (by simp) rfl
                have v1 := HE3.out.cell (g := w.heap.size + 1) (i := 1) (cs := #[.int .i64 E2, .int .i64 S2]) (t := 24) (by simp) rfl
                go_wp2_with fail
                refine (ver_at key E2 S2 true a2 n2 c2 b2 _ HV2.out HC3.out hs2 HE3.out.glob).mono ?_
                rintro e w4 ⟨rfl, hb⟩
                have HE4 := Seal.mk (HE3.out.below hb)
                have HC4 := Seal.mk (HC3.out.below hb)
                have HD4 := Seal.mk (HD3.out.below hb)
                have HB4 := Seal.mk (HB3.out.trans (hb.mono HB3.out.size))
                clear hb HE3 HB3 HC3 HD3
                have u0 := HE4.out.cell (g := w.heap.size) (i := 0) (cs := #[.int .i64 E1, .int .i64 S1]) (t := 24) (by simp) rfl
                have u1 := HE4.out.cell (g := w.heap.size) (i := 1) (cs := #[.int .i64 E1, .int .i64 S1]) (t := 24) (by simp) rfl
                have v0 := HE4.out.cell (g := w.heap.size + 1) (i := 0) (cs := #[.int .i64 E2, .int .i64 S2]) (t := 24) (by simp) rfl
                have v1 := HE4.out.cell (g := w.heap.size + 1) (i := 1) (cs := #[.int .i64 E2, .int .i64 S2]) (t := 24) (by simp) rfl
                go_wp2_with fail
                refine (point_eq key E1 S1 r1 _ hr1 e1 e2 s1 s2 HKV.out).mono ?_
                rintro e w5 ⟨rfl, hb⟩
                have HE5 := Seal.mk (HE4.out.below hb)
                have HC5 := Seal.mk (HC4.out.below hb)
                have HD5 := Seal.mk (HD4.out.below hb)
                have HB5 := Seal.mk (HB4.out.trans (hb.mono HB4.out.size))
                clear hb HE4 HB4 HC4 HD4
                have u0 := HE5.out.cell (g := w.heap.size) (i := 0) (cs := #[.int .i64 E1, .int .i64 S1]) (t := 24) (by simp) rfl
                have u1 := HE5.out.cell (g := w.heap.size) (i := 1) (cs := #[.int .i64 E1, .int .i64 S1]) (t := 24) (by simp) rfl
                have v0 := HE5.out.cell (g := w.heap.size + 1) (i := 0) (cs := #[.int .i64 E2, .int .i64 S2]) (t := 24) (by simp) rfl
                have v1 := HE5.out.cell (g := w.heap.size + 1) (i := 1) (cs := #[.int .i64 E2, .int .i64 S2]) (t := 24) (by simp) rfl
                go_wp2_with fail
                refine (point_eq key E2 S2 r1 _ hr2 e3 e4 s3 s4 HKV.out).mono ?_
                rintro e w6 ⟨rfl, hb⟩
                have HE6 := Seal.mk (HE5.out.below hb)
                have HC6 := Seal.mk (HC5.out.below hb)
                have HD6 := Seal.mk (HD5.out.below hb)
                have HB6 := Seal.mk (HB5.out.trans (hb.mono HB5.out.size))
                clear hb HE5 HB5 HC5 HD5
                have u0 := HE6.out.cell (g := w.heap.size) (i := 0) (cs := #[.int .i64 E1, .int .i64 S1]) (t := 24) (by simp) rfl
                have u1 := HE6.out.cell (g := w.heap.size) (i := 1) (cs := #[.int .i64 E1, .int .i64 S1]) (t := 24) (by simp) rfl
                have v0 := HE6.out.cell (g := w.heap.size + 1) (i := 0) (cs := #[.int .i64 E2, .int .i64 S2]) (t := 24) (by simp) rfl
                have v1 := HE6.out.cell (g := w.heap.size + 1) (i := 1) (cs := #[.int .i64 E2, .int .i64 S2]) (t := 24) (by simp) rfl
                go_wp2_with fail
                refine (mod_eq _ 0 _ hm).mono ?_
                rintro e w7 ⟨rfl, rfl⟩
                go_wp2_with fail
                go_ret
                exact ⟨rfl, HB6.out⟩
              · have hmb : (m == 0) = false := by simpa using hm0
                obtain ⟨q, hq⟩ : ∃ q : Int, Seal (((quo (S1 - S2) (E1 - E2) : Nat) : Int) = q) := ⟨_, ⟨rfl⟩⟩
                have hq0 : 0 ≤ q := by have := hq.out; omega
                have hq9 : q < 1073741789 := by have := hq.out; have := quo_lt (S1 - S2) (E1 - E2); omega
                have HTK : Seal (((pw 4 q : Nat) : Int) = key) := ⟨by
                  rw [← hq.out]
                  refine twice_key key E1 S1 E2 S2 HKV.out ?_ ?_
                  · have h1 := hr1.out; have h2 := hr2.out; omega
                  · intro h; have h3 := hm.out; rw [h] at h3; exact hm0 h3.symm⟩
                clear hm0
                go_enter Tryd.func6, Tryd.ntmps6
                go_wp2_with fail
                refine (sane_any _ HE1.out.glob).mono ?_
                rintro e w2 ⟨rfl, hb⟩
                have HE2 := Seal.mk (HE1.out.below hb)
                have HC2 := Seal.mk (HC1.out.below hb)
                have HD2 := Seal.mk (HD1.out.below hb)
                have HB2 := Seal.mk (HB1.out.trans (hb.mono HB1.out.size))
                clear hb HE1 HB1 HC1 HD1
                have u0 := HE2.out.cell (g := w.heap.size) (i := 0) (cs := #[.int .i64 E1, .int .i64 S1]) (t := 24) (by simp) rfl
                have u1 := HE2.out.cell (g := w.heap.size) (i := 1) (cs := #[.int .i64 E1, .int .i64 S1]) (t := 24) (by simp) rfl
                have v0 := HE2.out.cell (g := w.heap.size + 1) (i := 0) (cs := #[.int .i64 E2, .int .i64 S2]) (t := 24) (by simp) rfl
                have v1 := HE2.out.cell (g := w.heap.size + 1) (i := 1) (cs := #[.int .i64 E2, .int .i64 S2]) (t := 24) (by simp) rfl
                go_wp2_with fail
                refine (ver_at key E1 S1 true a1 n1 c1 b1 _ HV1.out HE2.out.isb hs1 HE2.out.glob).mono ?_
                rintro e w3 ⟨rfl, hb⟩
                have HE3 := Seal.mk (HE2.out.below hb)
                have HC3 := Seal.mk (HC2.out.below hb)
                have HD3 := Seal.mk (HD2.out.below hb)
                have HB3 := Seal.mk (HB2.out.trans (hb.mono HB2.out.size))
                clear hb HE2 HB2 HC2 HD2
                have u0 := HE3.out.cell (g := w.heap.size) (i := 0) (cs := #[.int .i64 E1, .int .i64 S1]) (t := 24) (by simp) rfl
                have u1 := HE3.out.cell (g := w.heap.size) (i := 1) (cs := #[.int .i64 E1, .int .i64 S1]) (t := 24) (by simp) rfl
                have v0 := HE3.out.cell (g := w.heap.size + 1) (i := 0) (cs := #[.int .i64 E2, .int .i64 S2]) (t := 24) (by simp) rfl
                have v1 := HE3.out.cell (g := w.heap.size + 1) (i := 1) (cs := #[.int .i64 E2, .int .i64 S2]) (t := 24) (by simp) rfl
                go_wp2_with fail
                refine (ver_at key E2 S2 true a2 n2 c2 b2 _ HV2.out HC3.out hs2 HE3.out.glob).mono ?_
                rintro e w4 ⟨rfl, hb⟩
                have HE4 := Seal.mk (HE3.out.below hb)
                have HC4 := Seal.mk (HC3.out.below hb)
                have HD4 := Seal.mk (HD3.out.below hb)
                have HB4 := Seal.mk (HB3.out.trans (hb.mono HB3.out.size))
                clear hb HE3 HB3 HC3 HD3
                have u0 := HE4.out.cell (g := w.heap.size) (i := 0) (cs := #[.int .i64 E1, .int .i64 S1]) (t := 24) (by simp) rfl
                have u1 := HE4.out.cell (g := w.heap.size) (i := 1) (cs := #[.int .i64 E1, .int .i64 S1]) (t := 24) (by simp) rfl
                have v0 := HE4.out.cell (g := w.heap.size + 1) (i := 0) (cs := #[.int .i64 E2, .int .i64 S2]) (t := 24) (by simp) rfl
                have v1 := HE4.out.cell (g := w.heap.size + 1) (i := 1) (cs := #[.int .i64 E2, .int .i64 S2]) (t := 24) (by simp) rfl
                go_wp2_with fail
                refine (point_eq key E1 S1 r1 _ hr1 e1 e2 s1 s2 HKV.out).mono ?_
                rintro e w5 ⟨rfl, hb⟩
                have HE5 := Seal.mk (HE4.out.below hb)
                have HC5 := Seal.mk (HC4.out.below hb)
                have HD5 := Seal.mk (HD4.out.below hb)
                have HB5 := Seal.mk (HB4.out.trans (hb.mono HB4.out.size))
                clear hb HE4 HB4 HC4 HD4
                have u0 := HE5.out.cell (g := w.heap.size) (i := 0) (cs := #[.int .i64 E1, .int .i64 S1]) (t := 24) (by simp) rfl
                have u1 := HE5.out.cell (g := w.heap.size) (i := 1) (cs := #[.int .i64 E1, .int .i64 S1]) (t := 24) (by simp) rfl
                have v0 := HE5.out.cell (g := w.heap.size + 1) (i := 0) (cs := #[.int .i64 E2, .int .i64 S2]) (t := 24) (by simp) rfl
                have v1 := HE5.out.cell (g := w.heap.size + 1) (i := 1) (cs := #[.int .i64 E2, .int .i64 S2]) (t := 24) (by simp) rfl
                go_wp2_with fail
                refine (point_eq key E2 S2 r1 _ hr2 e3 e4 s3 s4 HKV.out).mono ?_
                rintro e w6 ⟨rfl, hb⟩
                have HE6 := Seal.mk (HE5.out.below hb)
                have HC6 := Seal.mk (HC5.out.below hb)
                have HD6 := Seal.mk (HD5.out.below hb)
                have HB6 := Seal.mk (HB5.out.trans (hb.mono HB5.out.size))
                clear hb HE5 HB5 HC5 HD5
                have u0 := HE6.out.cell (g := w.heap.size) (i := 0) (cs := #[.int .i64 E1, .int .i64 S1]) (t := 24) (by simp) rfl
                have u1 := HE6.out.cell (g := w.heap.size) (i := 1) (cs := #[.int .i64 E1, .int .i64 S1]) (t := 24) (by simp) rfl
                have v0 := HE6.out.cell (g := w.heap.size + 1) (i := 0) (cs := #[.int .i64 E2, .int .i64 S2]) (t := 24) (by simp) rfl
                have v1 := HE6.out.cell (g := w.heap.size + 1) (i := 1) (cs := #[.int .i64 E2, .int .i64 S2]) (t := 24) (by simp) rfl
                go_wp2_with fail
                refine (mod_eq _ m _ hm).mono ?_
                rintro e w7 ⟨rfl, rfl⟩
                go_wp2_with fail
                refine (quo_eq _ _ q _ hq).mono ?_
                rintro e w7 ⟨rfl, rfl⟩
                go_wp2_with fail
                refine (pow_eq4 q _ key HTK (by omega) (by omega)).mono ?_
                rintro e w7 ⟨rfl, hb⟩
                have HE7 := Seal.mk (HE6.out.below hb)
                have HC7 := Seal.mk (HC6.out.below hb)
                have HD7 := Seal.mk (HD6.out.below hb)
                have HB7 := Seal.mk (HB6.out.trans (hb.mono HB6.out.size))
                clear hb HE6 HB6 HC6 HD6
                have u0 := HE7.out.cell (g := w.heap.size) (i := 0) (cs := #[.int .i64 E1, .int .i64 S1]) (t := 24) (by simp) rfl
                have u1 := HE7.out.cell (g := w.heap.size) (i := 1) (cs := #[.int .i64 E1, .int .i64 S1]) (t := 24) (by simp) rfl
                have v0 := HE7.out.cell (g := w.heap.size + 1) (i := 0) (cs := #[.int .i64 E2, .int .i64 S2]) (t := 24) (by simp) rfl
                have v1 := HE7.out.cell (g := w.heap.size + 1) (i := 1) (cs := #[.int .i64 E2, .int .i64 S2]) (t := 24) (by simp) rfl
                go_wp2_with fail
                by_cases hqz : q = 0
                · subst hqz
                  refine (sign_no 0 _ _ (by omega)).mono ?_
                  rintro e w8 ⟨rfl, hb⟩
                  have HE8 := Seal.mk (HE7.out.below hb)
                  have HC8 := Seal.mk (HC7.out.below hb)
                  have HD8 := Seal.mk (HD7.out.below hb)
                  have HB8 := Seal.mk (HB7.out.trans (hb.mono HB7.out.size))
                  clear hb HE7 HB7 HC7 HD7
                  have u0 := HE8.out.cell (g := w.heap.size) (i := 0) (cs := #[.int .i64 E1, .int .i64 S1]) (t := 24) (by simp) rfl
                  have u1 := HE8.out.cell (g := w.heap.size) (i := 1) (cs := #[.int .i64 E1, .int .i64 S1]) (t := 24) (by simp) rfl
                  have v0 := HE8.out.cell (g := w.heap.size + 1) (i := 0) (cs := #[.int .i64 E2, .int .i64 S2]) (t := 24) (by simp) rfl
                  have v1 := HE8.out.cell (g := w.heap.size + 1) (i := 1) (cs := #[.int .i64 E2, .int .i64 S2]) (t := 24) (by simp) rfl
                  go_wp2_with fail
                  go_ret
                  exact ⟨rfl, HB8.out.alloc HB8.out.size _⟩
                · have hqz' : (q == 0) = false := by simpa using hqz
                  obtain ⟨E, hE⟩ : ∃ E : Int, ((sgE q b3 : Nat) : Int) = E := ⟨_, rfl⟩
                  obtain ⟨S, hS⟩ : ∃ S, sgS q b3 = S := ⟨_, rfl⟩
                  have HE := Seal.mk hE
                  have HS := Seal.mk hS
                  clear hE hS
                  refine (sign_eq q a3 n3 c3 b3 _ E S HE HS (by omega) (by omega) HD7.out hs3 HE7.out.glob).mono ?_
                  rintro e w8 ⟨rfl, hb⟩
                  have HE8 := Seal.mk (HE7.out.below hb)
                  have HC8 := Seal.mk (HC7.out.below hb)
                  have HD8 := Seal.mk (HD7.out.below hb)
                  have HB8 := Seal.mk (HB7.out.trans (hb.mono HB7.out.size))
                  clear hb HE7 HB7 HC7 HD7
                  have u0 := HE8.out.cell (g := w.heap.size) (i := 0) (cs := #[.int .i64 E1, .int .i64 S1]) (t := 24) (by simp) rfl
                  have u1 := HE8.out.cell (g := w.heap.size) (i := 1) (cs := #[.int .i64 E1, .int .i64 S1]) (t := 24) (by simp) rfl
                  have v0 := HE8.out.cell (g := w.heap.size + 1) (i := 0) (cs := #[.int .i64 E2, .int .i64 S2]) (t := 24) (by simp) rfl
                  have v1 := HE8.out.cell (g := w.heap.size + 1) (i := 1) (cs := #[.int .i64 E2, .int .i64 S2]) (t := 24) (by simp) rfl
                  have HE9 := Seal.mk (HE8.out.push (.cells #[.int .i64 E, .int .i64 S] 24))
                  have HD9 := Seal.mk (HD8.out.below (below_alloc w8 (.cells #[.int .i64 E, .int .i64 S] 24)))
                  have HB9 := Seal.mk (HB8.out.alloc HB8.out.size (.cells #[.int .i64 E, .int .i64 S] 24))
                  go_wp2_with fail
                  refine (ver_eq q a3 n3 c3 b3 _ E key S HE HS HTK HD9.out hs3 HE9.out.glob).mono ?_
                  rintro e w10 ⟨rfl, hb⟩
                  go_wp2_with fail
                  go_ret
                  exact ⟨rfl, HB9.out.trans (hb.mono HB9.out.size)⟩
            · have hrb : (r1 != r2) = true := by simpa using hrr
              clear hrr
              go_enter Tryd.func6, Tryd.ntmps6
              go_wp2_with fail
              refine (sane_any _ HE1.out.glob).mono ?_
              rintro e w2 ⟨rfl, hb⟩
              have HE2 := Seal.mk (HE1.out.below hb)
              have HC2 := Seal.mk (HC1.out.below hb)
              have HD2 := Seal.mk (HD1.out.below hb)
              have HB2 := Seal.mk (HB1.out.trans (hb.mono HB1.out.size))
              clear hb HE1 HB1 HC1 HD1
              have u0 := HE2.out.cell (g := w.heap.size) (i := 0) (cs := #[.int .i64 E1, .int .i64 S1]) (t := 24) (by simp) rfl
              have u1 := HE2.out.cell (g := w.heap.size) (i := 1) (cs := #[.int .i64 E1, .int .i64 S1]) (t := 24) (by simp) rfl
              have v0 := HE2.out.cell (g := w.heap.size + 1) (i := 0) (cs := #[.int .i64 E2, .int .i64 S2]) (t := 24) (by simp) rfl
              have v1 := HE2.out.cell (g := w.heap.size + 1) (i := 1) (cs := #[.int .i64 E2, .int .i64 S2]) (t := 24) (by simp) rfl
              go_wp2_with fail
              refine (ver_at key E1 S1 true a1 n1 c1 b1 _ HV1.out HE2.out.isb hs1 HE2.out.glob).mono ?_
              rintro e w3 ⟨rfl, hb⟩
              have HE3 := Seal.mk (HE2.out.below hb)
              have HC3 := Seal.mk (HC2.out.below hb)
              have HD3 := Seal.mk (HD2.out.below hb)
              have HB3 := Seal.mk (HB2.out.trans (hb.mono HB2.out.size))
              clear hb HE2 HB2 HC2 HD2
              have u0 := HE3.out.cell (g := w.heap.size) (i := 0) (cs := #[.int .i64 E1, .int .i64 S1]) (t := 24) (by simp) rfl
              have u1 := HE3.out.cell (g := w.heap.size) (i := 1) (cs := #[.int .i64 E1, .int .i64 S1]) (t := 24) (by simp) rfl
              have v0 := HE3.out.cell (g := w.heap.size + 1) (i := 0) (cs := #[.int .i64 E2, .int .i64 S2]) (t := 24) (by simp) rfl
              have v1 := HE3.out.cell (g := w.heap.size + 1) (i := 1) (cs := #[.int .i64 E2, .int .i64 S2]) (t := 24) (by simp) rfl
              go_wp2_with fail
              refine (ver_at key E2 S2 true a2 n2 c2 b2 _ HV2.out HC3.out hs2 HE3.out.glob).mono ?_
              rintro e w4 ⟨rfl, hb⟩
              have HE4 := Seal.mk (HE3.out.below hb)
              have HC4 := Seal.mk (HC3.out.below hb)
              have HD4 := Seal.mk (HD3.out.below hb)
              have HB4 := Seal.mk (HB3.out.trans (hb.mono HB3.out.size))
              clear hb HE3 HB3 HC3 HD3
              have u0 := HE4.out.cell (g := w.heap.size) (i := 0) (cs := #[.int .i64 E1, .int .i64 S1]) (t := 24) (by simp) rfl
              have u1 := HE4.out.cell (g := w.heap.size) (i := 1) (cs := #[.int .i64 E1, .int .i64 S1]) (t := 24) (by simp) rfl
              have v0 := HE4.out.cell (g := w.heap.size + 1) (i := 0) (cs := #[.int .i64 E2, .int .i64 S2]) (t := 24) (by simp) rfl
              have v1 := HE4.out.cell (g := w.heap.size + 1) (i := 1) (cs := #[.int .i64 E2, .int .i64 S2]) (t := 24) (by simp) rfl
              go_wp2_with fail
              refine (point_eq key E1 S1 r1 _ hr1 e1 e2 s1 s2 HKV.out).mono ?_
              rintro e w5 ⟨rfl, hb⟩
              have HE5 := Seal.mk (HE4.out.below hb)
              have HC5 := Seal.mk (HC4.out.below hb)
              have HD5 := Seal.mk (HD4.out.below hb)
              have HB5 := Seal.mk (HB4.out.trans (hb.mono HB4.out.size))
              clear hb HE4 HB4 HC4 HD4
              have u0 := HE5.out.cell (g := w.heap.size) (i := 0) (cs := #[.int .i64 E1, .int .i64 S1]) (t := 24) (by simp) rfl
              have u1 := HE5.out.cell (g := w.heap.size) (i := 1) (cs := #[.int .i64 E1, .int .i64 S1]) (t := 24) (by simp) rfl
              have v0 := HE5.out.cell (g := w.heap.size + 1) (i := 0) (cs := #[.int .i64 E2, .int .i64 S2]) (t := 24) (by simp) rfl
              have v1 := HE5.out.cell (g := w.heap.size + 1) (i := 1) (cs := #[.int .i64 E2, .int .i64 S2]) (t := 24) (by simp) rfl
              go_wp2_with fail
              refine (point_eq key E2 S2 r2 _ hr2 e3 e4 s3 s4 HKV.out).mono ?_
              rintro e w6 ⟨rfl, hb⟩
              have HE6 := Seal.mk (HE5.out.below hb)
              have HC6 := Seal.mk (HC5.out.below hb)
              have HD6 := Seal.mk (HD5.out.below hb)
              have HB6 := Seal.mk (HB5.out.trans (hb.mono HB5.out.size))
              clear hb HE5 HB5 HC5 HD5
              have u0 := HE6.out.cell (g := w.heap.size) (i := 0) (cs := #[.int .i64 E1, .int .i64 S1]) (t := 24) (by simp) rfl
              have u1 := HE6.out.cell (g := w.heap.size) (i := 1) (cs := #[.int .i64 E1, .int .i64 S1]) (t := 24) (by simp) rfl
              have v0 := HE6.out.cell (g := w.heap.size + 1) (i := 0) (cs := #[.int .i64 E2, .int .i64 S2]) (t := 24) (by simp) rfl
              have v1 := HE6.out.cell (g := w.heap.size + 1) (i := 1) (cs := #[.int .i64 E2, .int .i64 S2]) (t := 24) (by simp) rfl
              go_wp2_with fail
              go_ret
              exact ⟨rfl, HB6.out⟩
      · have hl1' : ¬ 600 < (n1 : Int) := by omega
        have hl2' : ¬ 600 < (n2 : Int) := by omega
        have hl3' : 600 < (n3 : Int) := by omega
        go_enter Tryd.func6, Tryd.ntmps6
        go_wp2_with fail
        refine (sane_any _ (hG.below HBB.out)).mono ?_
        rintro e w2 ⟨rfl, hb⟩
        go_wp2_with fail
        go_ret
        exact ⟨rfl, HBB.out.trans (hb.mono HBB.out.size)⟩
    · have hl1' : ¬ 600 < (n1 : Int) := by omega
      have hl2' : 600 < (n2 : Int) := by omega
      go_enter Tryd.func6, Tryd.ntmps6
      go_wp2_with fail
      refine (sane_any _ (hG.below HBB.out)).mono ?_
      rintro e w2 ⟨rfl, hb⟩
      go_wp2_with fail
      go_ret
      exact ⟨rfl, HBB.out.trans (hb.mono HBB.out.size)⟩
  · have hl1' : 600 < (n1 : Int) := by omega
    go_enter Tryd.func6, Tryd.ntmps6
    go_wp2_with fail
    refine (sane_any _ (hG.below HBB.out)).mono ?_
    rintro e w2 ⟨rfl, hb⟩
    go_wp2_with fail
    go_ret
    exact ⟨rfl, HBB.out.trans (hb.mono HBB.out.size)⟩
end Frk
