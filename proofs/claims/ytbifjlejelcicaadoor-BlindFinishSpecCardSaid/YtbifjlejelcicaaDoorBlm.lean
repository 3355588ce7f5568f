/- The program's blind: Link. -/
import Derived.Test.YtbifjlejelcicaaDoorBlk
import Derived.Test.YtbifjlejelcicaaDoorLst
namespace Frk
open Go Go.RowKit Go.Proofs
set_option maxRecDepth 100000

theorem link_no1 (key r c s E S : Int) (t : Value) (w : World) (h : (vd key && vd r) = false) :
    Calls Tryd.prog 34 #[.int .i64 key, .int .i64 r, .int .i64 c, .int .i64 s, t, .agg #[.int .i64 E, .int .i64 S]] w fun e w' => e = .returned (.tuple #[.int .i64 0, .int .i64 0, .bool false]) ∧ Below w.heap.size w w' := by
  have HS := Seal.mk h
  clear h
  go_enter Tryd.func34, Tryd.ntmps34
  go_wp2_with (go_at_call 60; refine (elements_new _ _ false _ _ (by simp) HS).mono ?_; rintro e w' ⟨rfl, rfl⟩)
  refine bodyPost_ret (v := .tuple #[.int .i64 0, .int .i64 0, .bool false]) (by simp [results, Tryd.f34, go_sem]) rfl ⟨rfl, ?_⟩
  exact ((Below.refl _ w).alloc (Nat.le_refl _) _).alloc (by simp) _

theorem link_no2 (key r c s E S : Int) (a : Option Addr) (len cap : Nat) (b : Bytes) (w : World) (hkr : (vd key && vd r) = true) (hver : Seal (vrB key b E S = false)) (hb : IsB w a len cap b) (hl : len ≤ 1099511627776) (hG : Glob w) :
    Calls Tryd.prog 34 #[.int .i64 key, .int .i64 r, .int .i64 c, .int .i64 s, .slice a len cap, .agg #[.int .i64 E, .int .i64 S]] w fun e w' => e = .returned (.tuple #[.int .i64 0, .int .i64 0, .bool false]) ∧ Below w.heap.size w w' := by
  have HS := Seal.mk hkr
  have hkr' : vd key = true ∧ vd r = true := by simpa using hkr
  have HK := Seal.mk hkr'
  have HE1 : Seal (Env ((w.alloc (.cells #[.int .i64 E, .int .i64 S] 24)).alloc (.cells #[.int .i64 key, .int .i64 r] 3)) a len cap b _) := ⟨((Env.mk hG hb (by intro p hp; cases hp) : Env w a len cap b []).push (.cells #[.int .i64 E, .int .i64 S] 24)).push (.cells #[.int .i64 key, .int .i64 r] 3)⟩
  have HB1 : Seal (Below w.heap.size w ((w.alloc (.cells #[.int .i64 E, .int .i64 S] 24)).alloc (.cells #[.int .i64 key, .int .i64 r] 3))) := ⟨((Below.refl _ w).alloc (Nat.le_refl _) _).alloc (by simp) _⟩
  have c0 := HE1.out.cell (g := w.heap.size) (i := 0) (cs := #[.int .i64 E, .int .i64 S]) (t := 24) (by simp) rfl
  have c1 := HE1.out.cell (g := w.heap.size) (i := 1) (cs := #[.int .i64 E, .int .i64 S]) (t := 24) (by simp) rfl
  clear hkr hkr' hb hG
  go_enter Tryd.func34, Tryd.ntmps34
  go_wp2_with fail
  refine (elements_new _ _ true _ _ (by simp) HS).mono ?_
  rintro e w' ⟨rfl, rfl⟩
  go_wp2_with fail
  refine (ver_at key E S false a len cap b _ hver.out HE1.out.isb hl HE1.out.glob).mono ?_
  rintro e w2 ⟨rfl, hb⟩
  have HE2 := Seal.mk (HE1.out.below hb)
  have HB2 := Seal.mk (HB1.out.trans (hb.mono HB1.out.size))
  clear hb HE1 HB1
  go_wp2_with fail
  refine bodyPost_ret (v := .tuple #[.int .i64 0, .int .i64 0, .bool false]) (by simp [results, Tryd.f34, go_sem]) rfl ⟨rfl, ?_⟩
  exact HB2.out

theorem link_no3 (key r c s E S p p2 : Int) (a : Option Addr) (len cap : Nat) (b : Bytes) (w : World) (hkr : (vd key && vd r) = true) (hver : Seal (vrB key b E S = true)) (hp : Seal (((pw 4 s : Nat) : Int) = p)) (hp2 : Seal (((blPoint key r 0 c : Nat) : Int) = p2)) (hne : p ≠ p2)
    (c1' : -9223372036854775808 ≤ c) (c2' : c ≤ 9223372036854775807) (s1 : -9223372036854775808 ≤ s) (s2 : s ≤ 9223372036854775807) (hb : IsB w a len cap b) (hl : len ≤ 1099511627776) (hG : Glob w) :
    Calls Tryd.prog 34 #[.int .i64 key, .int .i64 r, .int .i64 c, .int .i64 s, .slice a len cap, .agg #[.int .i64 E, .int .i64 S]] w fun e w' => e = .returned (.tuple #[.int .i64 0, .int .i64 0, .bool false]) ∧ Below w.heap.size w w' := by
  have HS := Seal.mk hkr
  have hkr' : vd key = true ∧ vd r = true := by simpa using hkr
  have HK := Seal.mk hkr'
  have HE1 : Seal (Env ((w.alloc (.cells #[.int .i64 E, .int .i64 S] 24)).alloc (.cells #[.int .i64 key, .int .i64 r] 3)) a len cap b _) := ⟨((Env.mk hG hb (by intro p hp; cases hp) : Env w a len cap b []).push (.cells #[.int .i64 E, .int .i64 S] 24)).push (.cells #[.int .i64 key, .int .i64 r] 3)⟩
  have HB1 : Seal (Below w.heap.size w ((w.alloc (.cells #[.int .i64 E, .int .i64 S] 24)).alloc (.cells #[.int .i64 key, .int .i64 r] 3))) := ⟨((Below.refl _ w).alloc (Nat.le_refl _) _).alloc (by simp) _⟩
  have c0 := HE1.out.cell (g := w.heap.size) (i := 0) (cs := #[.int .i64 E, .int .i64 S]) (t := 24) (by simp) rfl
  have c1 := HE1.out.cell (g := w.heap.size) (i := 1) (cs := #[.int .i64 E, .int .i64 S]) (t := 24) (by simp) rfl
  clear hkr hkr' hb hG
  go_enter Tryd.func34, Tryd.ntmps34
  go_wp2_with fail
  refine (elements_new _ _ true _ _ (by simp) HS).mono ?_
  rintro e w' ⟨rfl, rfl⟩
  go_wp2_with fail
  refine (ver_at key E S true a len cap b _ hver.out HE1.out.isb hl HE1.out.glob).mono ?_
  rintro e w2 ⟨rfl, hb⟩
  have HE2 := Seal.mk (HE1.out.below hb)
  have HB2 := Seal.mk (HB1.out.trans (hb.mono HB1.out.size))
  clear hb HE1 HB1
  go_wp2_with fail
  refine (pow_eq4 s _ p hp s1 s2).mono ?_
  rintro e w3 ⟨rfl, hb⟩
  have HE3 := Seal.mk (HE2.out.below hb)
  have HB3 := Seal.mk (HB2.out.trans (hb.mono HB2.out.size))
  clear hb HE2 HB2
  go_wp2_with fail
  refine (bpoint_eq key r 0 c p2 _ hp2 HK.out.1 HK.out.2 (by decide) (by decide) c1' c2').mono ?_
  rintro e w4 ⟨rfl, hb⟩
  have HE4 := Seal.mk (HE3.out.below hb)
  have HB4 := Seal.mk (HB3.out.trans (hb.mono HB3.out.size))
  clear hb HE3 HB3
  go_wp2_with fail
  refine bodyPost_ret (v := .tuple #[.int .i64 0, .int .i64 0, .bool false]) (by simp [results, Tryd.f34, go_sem]) rfl ⟨rfl, ?_⟩
  exact HB4.out

set_option maxHeartbeats 1000000 in
theorem link_yes (key r c s E S p u v : Int) (a : Option Addr) (len cap : Nat) (b : Bytes) (w : World) (hkr : (vd key && vd r) = true) (hver : Seal (vrB key b E S = true)) (hp : Seal (((pw 4 s : Nat) : Int) = p)) (hp2 : Seal (((blPoint key r 0 c : Nat) : Int) = p)) (hu : Seal (((lq (S - (lq s : Nat)) : Nat) : Int) = u)) (hv : Seal (((lq ((lq c : Nat) - E) : Nat) : Int) = v))
    (c1' : -9223372036854775808 ≤ c) (c2' : c ≤ 9223372036854775807) (s1 : -9223372036854775808 ≤ s) (s2 : s ≤ 9223372036854775807) (hb : IsB w a len cap b) (hl : len ≤ 1099511627776) (hG : Glob w) :
    Calls Tryd.prog 34 #[.int .i64 key, .int .i64 r, .int .i64 c, .int .i64 s, .slice a len cap, .agg #[.int .i64 E, .int .i64 S]] w fun e w' => e = .returned (.tuple #[.int .i64 u, .int .i64 v, .bool true]) ∧ Below w.heap.size w w' := by
  have hpa := vr_parts hver.out
  obtain ⟨⟨E1, E2⟩, ⟨S1, S2⟩, -⟩ := hpa
  obtain ⟨m, hm⟩ : ∃ m : Int, Seal (((lq s : Nat) : Int) = m) := ⟨_, ⟨rfl⟩⟩
  obtain ⟨n, hn⟩ : ∃ n : Int, Seal (((lq c : Nat) : Int) = n) := ⟨_, ⟨rfl⟩⟩
  rw [hm.out] at hu
  rw [hn.out] at hv
  have hm1 := lq_rng s
  rw [hm.out] at hm1
  obtain ⟨hm0, hm9⟩ := hm1
  have hn1 := lq_rng c
  rw [hn.out] at hn1
  obtain ⟨hn0, hn9⟩ := hn1
  have hu' : Seal (((lq (IntKind.i64.wrap (S - m)) : Nat) : Int) = u) := ⟨by rw [IntWalk.i64_in _ (by omega)]; exact hu.out⟩
  have hv' : Seal (((lq (IntKind.i64.wrap (n - E)) : Nat) : Int) = v) := ⟨by rw [IntWalk.i64_in _ (by omega)]; exact hv.out⟩
  have hpp : (p != p) = false := by simp
  have HS := Seal.mk hkr
  have hkr' : vd key = true ∧ vd r = true := by simpa using hkr
  have HK := Seal.mk hkr'
  have HE1 : Seal (Env ((w.alloc (.cells #[.int .i64 E, .int .i64 S] 24)).alloc (.cells #[.int .i64 key, .int .i64 r] 3)) a len cap b _) := ⟨((Env.mk hG hb (by intro p hp; cases hp) : Env w a len cap b []).push (.cells #[.int .i64 E, .int .i64 S] 24)).push (.cells #[.int .i64 key, .int .i64 r] 3)⟩
  have HB1 : Seal (Below w.heap.size w ((w.alloc (.cells #[.int .i64 E, .int .i64 S] 24)).alloc (.cells #[.int .i64 key, .int .i64 r] 3))) := ⟨((Below.refl _ w).alloc (Nat.le_refl _) _).alloc (by simp) _⟩
  have c0 := HE1.out.cell (g := w.heap.size) (i := 0) (cs := #[.int .i64 E, .int .i64 S]) (t := 24) (by simp) rfl
  have c1 := HE1.out.cell (g := w.heap.size) (i := 1) (cs := #[.int .i64 E, .int .i64 S]) (t := 24) (by simp) rfl
  clear hkr hkr' hb hG
  go_enter Tryd.func34, Tryd.ntmps34
  go_wp2_with fail
  refine (elements_new _ _ true _ _ (by simp) HS).mono ?_
  rintro e w' ⟨rfl, rfl⟩
  go_wp2_with fail
  refine (ver_at key E S true a len cap b _ hver.out HE1.out.isb hl HE1.out.glob).mono ?_
  rintro e w2 ⟨rfl, hb⟩
  have HE2 := Seal.mk (HE1.out.below hb)
  have HB2 := Seal.mk (HB1.out.trans (hb.mono HB1.out.size))
  clear hb HE1 HB1
  go_wp2_with fail
  refine (pow_eq4 s _ p hp s1 s2).mono ?_
  rintro e w3 ⟨rfl, hb⟩
  have HE3 := Seal.mk (HE2.out.below hb)
  have HB3 := Seal.mk (HB2.out.trans (hb.mono HB2.out.size))
  clear hb HE2 HB2
  go_wp2_with fail
  refine (bpoint_eq key r 0 c p _ hp2 HK.out.1 HK.out.2 (by decide) (by decide) c1' c2').mono ?_
  rintro e w4 ⟨rfl, hb⟩
  have HE4 := Seal.mk (HE3.out.below hb)
  have HB4 := Seal.mk (HB3.out.trans (hb.mono HB3.out.size))
  clear hb HE3 HB3
  have d0 := HE4.out.cell (g := w.heap.size) (i := 0) (cs := #[.int .i64 E, .int .i64 S]) (t := 24) (by simp) rfl
  have d1 := HE4.out.cell (g := w.heap.size) (i := 1) (cs := #[.int .i64 E, .int .i64 S]) (t := 24) (by simp) rfl
  go_wp2_with fail
  go_region_held3 (fun w' => w'.cell? ⟨w.heap.size, 0, none⟩ = some (.int .i64 E) ∧ w'.cell? ⟨w.heap.size, 1, none⟩ = some (.int .i64 S)) (first | (go_keep; done) | go_keep)
    (first
     | (go_at_call 61; refine (bmod_eq s m _ hm).mono ?_; rintro e w' ⟨rfl, rfl⟩)
     | (go_at_call 61; refine (bmod_eq c n _ hn).mono ?_; rintro e w' ⟨rfl, rfl⟩)
     | (go_at_call 61; refine (bmod_eq (IntKind.i64.wrap (S - m)) u _ hu').mono ?_; rintro e w' ⟨rfl, rfl⟩)
     | (go_at_call 61; refine (bmod_eq (IntKind.i64.wrap (n - E)) v _ hv').mono ?_; rintro e w' ⟨rfl, rfl⟩))
  go_wp2
  refine bodyPost_ret (v := .tuple #[.int .i64 u, .int .i64 v, .bool true]) (by simp [results, Tryd.f34, go_sem]) rfl ⟨rfl, ?_⟩
  exact HB4.out.drew
end Frk
