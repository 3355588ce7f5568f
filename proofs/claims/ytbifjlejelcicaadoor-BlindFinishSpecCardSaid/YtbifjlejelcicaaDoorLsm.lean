/- The law SignMeans, walked. -/
import Derived.Test.YtbifjlejelcicaaDoorPnt
namespace Frk
open Go Go.RowKit Go.Proofs
set_option maxRecDepth 100000

theorem boolne (a b : Bool) (h : a = b) : (a == b) = true := by simp [h]

set_option maxHeartbeats 2000000 in
theorem law_signMeans (key E S : Int) (a : Option Addr) (len cap : Nat) (b : Bytes) (w : World) (hk1 : -9223372036854775808 ≤ key) (hk2 : key ≤ 9223372036854775807) (hlm : (len : Int) ≤ 9223372036854775807) (hb : len ≤ 600 → IsB w a len cap b) (hG : Glob w) :
    Calls Tryd.prog 5 #[.int .i64 key, .slice a len cap, .agg #[.int .i64 E, .int .i64 S]] w fun e w' => e = .returned (.bool true) ∧ Below w.heap.size w w' := by
  by_cases hl : len ≤ 600
  · have HE1 : Seal (Env (w.alloc (.cells #[.int .i64 E, .int .i64 S] 24)) a len cap b [(w.heap.size, .cells #[.int .i64 E, .int .i64 S] 24)]) := ⟨(Env.mk hG (hb hl) (by intro p hp; cases hp) : Env w a len cap b []).push _⟩
    have HB1 := Seal.mk (below_alloc w (.cells #[.int .i64 E, .int .i64 S] 24))
    have hl6 : len ≤ 1099511627776 := by omega
    clear hb hG
    cases h : (inQ E && inQ S && vd key) with
    | false =>
      have HN : Seal ((inQ E && inQ S && vd key) = false) := ⟨h⟩
      have HH : Seal (E < 0 ∨ S < 0 ∨ 1073741789 ≤ E ∨ 1073741789 ≤ S ∨ (0 ≤ E ∧ E < 1073741789 ∧ 0 ≤ S ∧ S < 1073741789 ∧ vd key = false)) := ⟨by
        cases h1 : inQ E
        · rcases (inQ_false E).1 h1 with h | h <;> omega
        · cases h2 : inQ S
          · rcases (inQ_false S).1 h2 with h | h <;> omega
          · have a1 := (inQ_iff E).1 h1
            have a2 := (inQ_iff S).1 h2
            rw [h1, h2] at h
            exact .inr (.inr (.inr (.inr ⟨a1.1, a1.2, a2.1, a2.2, by simpa using h⟩)))⟩
      clear h
      rcases HH.out with h | h | h | h | ⟨h, h', h'', h3, h4⟩
      ·
        go_enter Tryd.func5, Tryd.ntmps5
        go_wp2_with fail
        refine (sane_any _ HE1.out.glob).mono ?_
        rintro e w2 ⟨rfl, hb⟩
        have HE2 := Seal.mk (HE1.out.below hb)
        have HB2 := Seal.mk (HB1.out.trans (hb.mono HB1.out.size))
        clear hb HE1 HB1
        have c0 := HE2.out.cell (g := w.heap.size) (i := 0) (cs := #[.int .i64 E, .int .i64 S]) (t := 24) (by simp) rfl
        have c1 := HE2.out.cell (g := w.heap.size) (i := 1) (cs := #[.int .i64 E, .int .i64 S]) (t := 24) (by simp) rfl
        go_wp2_with fail
        refine (verify_no key E S (.slice a len cap) _ HN.out).mono ?_
        rintro e w3 ⟨rfl, hb⟩
        have HE3 := Seal.mk (HE2.out.below hb)
        have HB3 := Seal.mk (HB2.out.trans (hb.mono HB2.out.size))
        clear hb HE2 HB2 c0 c1
        have c0 := HE3.out.cell (g := w.heap.size) (i := 0) (cs := #[.int .i64 E, .int .i64 S]) (t := 24) (by simp) rfl
        have c1 := HE3.out.cell (g := w.heap.size) (i := 1) (cs := #[.int .i64 E, .int .i64 S]) (t := 24) (by simp) rfl
        go_wp2_with (go_at_call 19; refine (valid_any _ _).mono ?_; rintro e w' ⟨rfl, rfl⟩)
        all_goals (go_ret; exact ⟨rfl, HB3.out⟩)
      ·
        go_enter Tryd.func5, Tryd.ntmps5
        go_wp2_with fail
        refine (sane_any _ HE1.out.glob).mono ?_
        rintro e w2 ⟨rfl, hb⟩
        have HE2 := Seal.mk (HE1.out.below hb)
        have HB2 := Seal.mk (HB1.out.trans (hb.mono HB1.out.size))
        clear hb HE1 HB1
        have c0 := HE2.out.cell (g := w.heap.size) (i := 0) (cs := #[.int .i64 E, .int .i64 S]) (t := 24) (by simp) rfl
        have c1 := HE2.out.cell (g := w.heap.size) (i := 1) (cs := #[.int .i64 E, .int .i64 S]) (t := 24) (by simp) rfl
        go_wp2_with fail
        refine (verify_no key E S (.slice a len cap) _ HN.out).mono ?_
        rintro e w3 ⟨rfl, hb⟩
        have HE3 := Seal.mk (HE2.out.below hb)
        have HB3 := Seal.mk (HB2.out.trans (hb.mono HB2.out.size))
        clear hb HE2 HB2 c0 c1
        have c0 := HE3.out.cell (g := w.heap.size) (i := 0) (cs := #[.int .i64 E, .int .i64 S]) (t := 24) (by simp) rfl
        have c1 := HE3.out.cell (g := w.heap.size) (i := 1) (cs := #[.int .i64 E, .int .i64 S]) (t := 24) (by simp) rfl
        go_wp2_with (go_at_call 19; refine (valid_any _ _).mono ?_; rintro e w' ⟨rfl, rfl⟩)
        all_goals (go_ret; exact ⟨rfl, HB3.out⟩)
      ·
        go_enter Tryd.func5, Tryd.ntmps5
        go_wp2_with fail
        refine (sane_any _ HE1.out.glob).mono ?_
        rintro e w2 ⟨rfl, hb⟩
        have HE2 := Seal.mk (HE1.out.below hb)
        have HB2 := Seal.mk (HB1.out.trans (hb.mono HB1.out.size))
        clear hb HE1 HB1
        have c0 := HE2.out.cell (g := w.heap.size) (i := 0) (cs := #[.int .i64 E, .int .i64 S]) (t := 24) (by simp) rfl
        have c1 := HE2.out.cell (g := w.heap.size) (i := 1) (cs := #[.int .i64 E, .int .i64 S]) (t := 24) (by simp) rfl
        go_wp2_with fail
        refine (verify_no key E S (.slice a len cap) _ HN.out).mono ?_
        rintro e w3 ⟨rfl, hb⟩
        have HE3 := Seal.mk (HE2.out.below hb)
        have HB3 := Seal.mk (HB2.out.trans (hb.mono HB2.out.size))
        clear hb HE2 HB2 c0 c1
        have c0 := HE3.out.cell (g := w.heap.size) (i := 0) (cs := #[.int .i64 E, .int .i64 S]) (t := 24) (by simp) rfl
        have c1 := HE3.out.cell (g := w.heap.size) (i := 1) (cs := #[.int .i64 E, .int .i64 S]) (t := 24) (by simp) rfl
        go_wp2_with (go_at_call 19; refine (valid_any _ _).mono ?_; rintro e w' ⟨rfl, rfl⟩)
        all_goals (go_ret; exact ⟨rfl, HB3.out⟩)
      ·
        go_enter Tryd.func5, Tryd.ntmps5
        go_wp2_with fail
        refine (sane_any _ HE1.out.glob).mono ?_
        rintro e w2 ⟨rfl, hb⟩
        have HE2 := Seal.mk (HE1.out.below hb)
        have HB2 := Seal.mk (HB1.out.trans (hb.mono HB1.out.size))
        clear hb HE1 HB1
        have c0 := HE2.out.cell (g := w.heap.size) (i := 0) (cs := #[.int .i64 E, .int .i64 S]) (t := 24) (by simp) rfl
        have c1 := HE2.out.cell (g := w.heap.size) (i := 1) (cs := #[.int .i64 E, .int .i64 S]) (t := 24) (by simp) rfl
        go_wp2_with fail
        refine (verify_no key E S (.slice a len cap) _ HN.out).mono ?_
        rintro e w3 ⟨rfl, hb⟩
        have HE3 := Seal.mk (HE2.out.below hb)
        have HB3 := Seal.mk (HB2.out.trans (hb.mono HB2.out.size))
        clear hb HE2 HB2 c0 c1
        have c0 := HE3.out.cell (g := w.heap.size) (i := 0) (cs := #[.int .i64 E, .int .i64 S]) (t := 24) (by simp) rfl
        have c1 := HE3.out.cell (g := w.heap.size) (i := 1) (cs := #[.int .i64 E, .int .i64 S]) (t := 24) (by simp) rfl
        go_wp2_with (go_at_call 19; refine (valid_any _ _).mono ?_; rintro e w' ⟨rfl, rfl⟩)
        all_goals (go_ret; exact ⟨rfl, HB3.out⟩)
      ·
        go_enter Tryd.func5, Tryd.ntmps5
        go_wp2_with fail
        refine (sane_any _ HE1.out.glob).mono ?_
        rintro e w2 ⟨rfl, hb⟩
        have HE2 := Seal.mk (HE1.out.below hb)
        have HB2 := Seal.mk (HB1.out.trans (hb.mono HB1.out.size))
        clear hb HE1 HB1
        have c0 := HE2.out.cell (g := w.heap.size) (i := 0) (cs := #[.int .i64 E, .int .i64 S]) (t := 24) (by simp) rfl
        have c1 := HE2.out.cell (g := w.heap.size) (i := 1) (cs := #[.int .i64 E, .int .i64 S]) (t := 24) (by simp) rfl
        go_wp2_with fail
        refine (verify_no key E S (.slice a len cap) _ HN.out).mono ?_
        rintro e w3 ⟨rfl, hb⟩
        have HE3 := Seal.mk (HE2.out.below hb)
        have HB3 := Seal.mk (HB2.out.trans (hb.mono HB2.out.size))
        clear hb HE2 HB2 c0 c1
        have c0 := HE3.out.cell (g := w.heap.size) (i := 0) (cs := #[.int .i64 E, .int .i64 S]) (t := 24) (by simp) rfl
        have c1 := HE3.out.cell (g := w.heap.size) (i := 1) (cs := #[.int .i64 E, .int .i64 S]) (t := 24) (by simp) rfl
        go_wp2_with (go_at_call 19; refine (valid_any _ _).mono ?_; rintro e w' ⟨rfl, rfl⟩)
        all_goals (go_ret; exact ⟨rfl, HB3.out⟩)
    | true =>
      simp only [Bool.and_eq_true] at h
      obtain ⟨⟨h1, h2⟩, h3⟩ := h
      have b1 := (inQ_iff E).1 h1
      have b2 := (inQ_iff S).1 h2
      obtain ⟨hE1, hE2⟩ := b1
      obtain ⟨hS1, hS2⟩ := b2
      have hv : vrB key b E S = (E == (sgHash (sgPoint key E S) key b : Nat)) := by unfold vrB; rw [h1, h2, h3]; rfl
      clear h1 h2
      obtain ⟨v, hvv⟩ : ∃ v, vrB key b E S = v := ⟨_, rfl⟩
      rw [hvv] at hv
      have HV := Seal.mk hvv
      have HVV := Seal.mk hv
      have HK3 := Seal.mk h3
      clear hvv hv
      go_enter Tryd.func5, Tryd.ntmps5
      go_wp2_with fail
      refine (sane_any _ HE1.out.glob).mono ?_
      rintro e w2 ⟨rfl, hb⟩
      have HE2 := Seal.mk (HE1.out.below hb)
      have HB2 := Seal.mk (HB1.out.trans (hb.mono HB1.out.size))
      clear hb HE1 HB1
      have c0 := HE2.out.cell (g := w.heap.size) (i := 0) (cs := #[.int .i64 E, .int .i64 S]) (t := 24) (by simp) rfl
      have c1 := HE2.out.cell (g := w.heap.size) (i := 1) (cs := #[.int .i64 E, .int .i64 S]) (t := 24) (by simp) rfl
      go_wp2_with fail
      refine (ver_at key E S v a len cap b _ HV.out HE2.out.isb hl6 HE2.out.glob).mono ?_
      rintro e w3 ⟨rfl, hb⟩
      have HE3 := Seal.mk (HE2.out.below hb)
      have HB3 := Seal.mk (HB2.out.trans (hb.mono HB2.out.size))
      clear hb HE2 HB2 c0 c1
      have c0 := HE3.out.cell (g := w.heap.size) (i := 0) (cs := #[.int .i64 E, .int .i64 S]) (t := 24) (by simp) rfl
      have c1 := HE3.out.cell (g := w.heap.size) (i := 1) (cs := #[.int .i64 E, .int .i64 S]) (t := 24) (by simp) rfl
      go_wp2_with (go_at_call 19; refine (valid_any _ _).mono ?_; rintro e w' ⟨rfl, rfl⟩)
      refine (point_yes key E S w3 hE1 hE2 hS1 hS2 HK3.out).mono ?_
      rintro e w4 ⟨rfl, hb⟩
      have HE4 := Seal.mk (HE3.out.below hb)
      have HB4 := Seal.mk (HB3.out.trans (hb.mono HB3.out.size))
      clear hb HE3 HB3 c0 c1
      have c0 := HE4.out.cell (g := w.heap.size) (i := 0) (cs := #[.int .i64 E, .int .i64 S]) (t := 24) (by simp) rfl
      have hz4 : w.heap.size < w4.heap.size := block_lt_of_cell c0
      have hcv := IsB.conv HE4.out.isb
      have hpl : sgPoint key E S < 2147483579 := mp_lt _ _
      have hll := HE4.out.isb.llen
      obtain ⟨r, hr⟩ : ∃ r : Int, ((sgPoint key E S : Nat) : Int) = r := ⟨_, rfl⟩
      have hr0 : 0 ≤ r := by omega
      have hr1 : r < 2147483579 := by omega
      rw [hr] at HVV ⊢
      have hk0 := vd_range HK3.out
      obtain ⟨hk0, hk9⟩ := hk0
      have HLL := Seal.mk hll
      clear hr hpl hll
      go_wp2_with fail
      refine (encode_new [.i r, .i key, .t b] 3 w4.heap.size w4 rfl rfl (by decide) (by
        intro y hy
        simp only [List.mem_cons, List.not_mem_nil, or_false] at hy
        rcases hy with rfl | rfl | rfl
        · exact ⟨by omega, by omega⟩
        · exact ⟨by omega, by omega⟩
        · show b.length < 2 ^ 63
          rw [HLL.out]; omega) (by
        have := HLL.out
        simp [wgts, Lf.wgt]; omega)).mono ?_
      rintro e w5 ⟨g5, n5, cap5, hn5, rfl, hf5⟩
      have hbb := hf5.out.2.2.2.2
      have HE5 := Seal.mk (HE4.out.below hbb)
      have HB5 := Seal.mk (HB4.out.trans (hbb.mono HB4.out.size))
      have hz5 : w.heap.size < w5.heap.size := Nat.lt_of_lt_of_le hz4 hbb.size
      have d0 : w5.cell? ⟨w.heap.size, 0, none⟩ = some (.int .i64 E) := (hbb.cell (p := ⟨w.heap.size, 0, none⟩) hz4).trans c0
      have hn5' := encL_length [.i r, .i key, .t b]
      rw [hn5.out, show wgts [.i r, .i key, .t b] = len + 33 from by have := HLL.out; simp [wgts, Lf.wgt]; omega] at hn5'
      obtain ⟨h, hh⟩ : ∃ h : Int, ((sgHash r key b : Nat) : Int) = h := ⟨_, rfl⟩
      have HQ : Seal (((ghash tSign (encL [.i r, .i key, .t b]) : Nat) : Int) = h) := ⟨hh⟩
      rw [hh] at HVV
      have hvv := HVV.out.symm
      clear hbb HE4 HB4 c0 hcv hh
      go_wp2_with fail
      go_region_held3 (fun w' => w'.cell? ⟨w.heap.size, 0, none⟩ = some (.int .i64 E)) (first | go_keep | exact (hbH.out.cell (p := ⟨w.heap.size, 0, none⟩) hz5).trans d0)
        (first | (go_at_call 22; refine (hash_new tSign _ g5 n5 cap5 _ (HE5.out.glob.below (Below.refl _ _).drew) (by decide) (by decide) hn5.out ⟨hf5.out.1, hf5.out.2.1, hf5.out.2.2.1, hf5.out.2.2.2.1⟩ (by omega)).mono ?_; rw [HQ.out]; rintro e w7 ⟨rfl, hbH'⟩; have hbH : Seal (Below w5.heap.size w5 w7) := ⟨((Below.refl w5.heap.size w5).drew).trans hbH'⟩; clear hbH'))
      go_wp2
      go_ret
      exact ⟨rfl, HB5.out.trans (hbH.out.mono HB5.out.size)⟩
  · have hl' : 600 < (len : Int) := by omega
    have hG' := hG.below (below_alloc w (.cells #[.int .i64 E, .int .i64 S] 24))
    clear hb
    go_enter Tryd.func5, Tryd.ntmps5
    go_wp2_with (go_at_call 13; refine (sane_any _ hG').mono ?_; rintro e w2 ⟨rfl, hb2⟩)
    go_ret
    exact ⟨rfl, (below_alloc w _).trans (hb2.mono (by rw [size_alloc]; omega))⟩
end Frk
