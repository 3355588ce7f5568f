/- The program's blind: Begin, Ask, Answer, Finish, Link. -/
import Derived.Test.YtbifjlejelcicaaDoorBld
namespace Frk
open Go Go.RowKit Go.Proofs
set_option maxRecDepth 100000

theorem elements_eq (g off cap : Nat) (a b : Int) (r : Bool) (w : World) (hr : Seal ((vd a && vd b) = r)) (ha : w.cell? ⟨g, off, none⟩ = some (.int .i64 a)) (hb : w.cell? ⟨g, off + 1, none⟩ = some (.int .i64 b)) :
    Calls Tryd.prog 60 #[.slice (some ⟨g, off, none⟩) 2 cap] w fun e w' => e = .returned (.bool r) ∧ w = w' := by
  rw [← hr.out]; exact elements_two g off cap a b w ha hb

theorem elements_new (a b : Int) (r : Bool) (H : Nat) (w : World) (hH : w.heap.size = H) (hr : Seal ((vd a && vd b) = r)) :
    Calls Tryd.prog 60 #[.slice (some ⟨H, 0, none⟩) 2 2] (w.alloc (.cells #[.int .i64 a, .int .i64 b] 3)) fun e w' => e = .returned (.bool r) ∧ w.alloc (.cells #[.int .i64 a, .int .i64 b] 3) = w' := by
  subst hH
  exact elements_eq _ _ _ a b r _ hr (by rw [cell_of_row _ _ _ _ _ _ (heap_alloc_new w _)]; rfl) (by rw [cell_of_row _ _ _ _ _ _ (heap_alloc_new w _)]; rfl)

theorem secret_eq (n : Int) (r : Bool) (w : World) (hr : Seal (secB n = r)) : Calls Tryd.prog 58 #[.int .i64 n] w fun e w' => e = .returned (.bool r) ∧ w = w' := by
  rw [← hr.out]; exact secret_any n w

theorem bmod_eq (n r : Int) (w : World) (hr : Seal (((lq n : Nat) : Int) = r)) : Calls Tryd.prog 61 #[.int .i64 n] w fun e w' => e = .returned (.int .i64 r) ∧ w = w' := by
  rw [← hr.out]; exact bmod_any n w

theorem bhash_eq (key r u v h : Int) (a : Option Addr) (len cap : Nat) (b : Bytes) (w : World) (hh : Seal (((blHash key r b u v : Nat) : Int) = h)) (hk : vd key = true) (hr : vd r = true) (u1 : -9223372036854775808 ≤ u) (u2 : u ≤ 9223372036854775807) (v1 : -9223372036854775808 ≤ v) (v2 : v ≤ 9223372036854775807)
    (hb : IsB w a len cap b) (hl : len ≤ 1099511627776) (hG : Glob w) :
    Calls Tryd.prog 62 #[.agg #[.int .i64 key, .int .i64 r, .slice a len cap, .int .i64 u, .int .i64 v]] w fun e w' => e = .returned (.int .i64 h) ∧ Below w.heap.size w w' := by
  rw [← hh.out]; exact bhash_yes key r u v a len cap b w hk hr u1 u2 v1 v2 hb hl hG

theorem lq_rng (n : Int) : 0 ≤ ((lq n : Nat) : Int) ∧ ((lq n : Nat) : Int) < 1073741789 := ⟨by omega, by have := lq_lt n; unfold Q at this; omega⟩
theorem blHash_rng (key r u v : Int) (b : Bytes) : 0 ≤ ((blHash key r b u v : Nat) : Int) ∧ ((blHash key r b u v : Nat) : Int) < 1073741789 := ⟨by omega, by have : blHash key r b u v < 1073741789 := ghash_lt _ _; omega⟩

theorem begin_no (n : Int) (w : World) (h : secB n = false) : Calls Tryd.prog 26 #[.int .i64 n] w fun e w' => e = .returned (.tuple #[.int .i64 0, .int .i64 110]) ∧ Below w.heap.size w w' := by
  have HS := Seal.mk h
  clear h
  go_enter Tryd.func26, Tryd.ntmps26
  go_wp2_with (go_at_call 58; refine (secret_eq _ _ _ HS).mono ?_; rintro e w' ⟨rfl, rfl⟩)
  go_ret2
  exact ⟨rfl, Below.refl _ _⟩

theorem begin_yes (n : Int) (w : World) (h : secB n = true) (h1 : -9223372036854775808 ≤ n) (h2 : n ≤ 9223372036854775807) : Calls Tryd.prog 26 #[.int .i64 n] w fun e w' => e = .returned (.tuple #[.int .i64 (pw 4 n : Nat), .int .i64 0]) ∧ Below w.heap.size w w' := by
  have HS := Seal.mk h
  have HP : Seal _ := ⟨pow_yes 4 n w (by decide +kernel) h1 h2⟩
  clear h h1 h2
  go_enter Tryd.func26, Tryd.ntmps26
  go_wp2_with (first | (go_at_call 58; refine (secret_eq _ _ _ HS).mono ?_; rintro e w' ⟨rfl, rfl⟩) | (go_at_call 18; refine HP.out.mono ?_; rintro e w' ⟨rfl, hb⟩))
  go_ret2
  exact ⟨rfl, hb⟩

theorem ask_no (key r u v : Int) (s : Value) (w : World) (h : (vd key && vd r) = false) :
    Calls Tryd.prog 28 #[.int .i64 key, .int .i64 r, s, .int .i64 u, .int .i64 v] w fun e w' => e = .returned (.tuple #[.int .i64 0, .int .i64 90]) ∧ Below w.heap.size w w' := by
  have HS := Seal.mk h
  clear h
  go_enter Tryd.func28, Tryd.ntmps28
  go_wp2_with (go_at_call 60; refine (elements_new _ _ false _ _ rfl HS).mono ?_; rintro e w' ⟨rfl, rfl⟩)
  go_ret2
  exact ⟨rfl, below_alloc _ _⟩

set_option maxHeartbeats 1000000 in
theorem ask_yes (key r u v h c : Int) (a : Option Addr) (len cap : Nat) (b : Bytes) (w : World) (hkr : (vd key && vd r) = true) (hh : Seal (((blHash key r b u v : Nat) : Int) = h)) (hc : Seal (((lq (h + (lq v : Nat)) : Nat) : Int) = c)) (u1 : -9223372036854775808 ≤ u) (u2 : u ≤ 9223372036854775807) (v1 : -9223372036854775808 ≤ v) (v2 : v ≤ 9223372036854775807)
    (hb : IsB w a len cap b) (hl : len ≤ 1099511627776) (hG : Glob w) :
    Calls Tryd.prog 28 #[.int .i64 key, .int .i64 r, .slice a len cap, .int .i64 u, .int .i64 v] w fun e w' => e = .returned (.tuple #[.int .i64 c, .int .i64 0]) ∧ Below w.heap.size w w' := by
  have HS := Seal.mk hkr
  have hkr' : vd key = true ∧ vd r = true := by simpa using hkr
  have HK := Seal.mk hkr'
  have hb1 : Below w.heap.size w ((w.alloc (.cells #[.int .i64 key, .int .i64 r] 3)).alloc (.cells #[.int .i64 key, .int .i64 r, .slice a len cap, .int .i64 u, .int .i64 v] 85)) := ((Below.refl _ w).alloc (Nat.le_refl _) _).alloc (by simp) _
  have HB1 := Seal.mk hb1
  have HI := Seal.mk (hb.below hb1)
  have HG1 := Seal.mk (hG.below hb1)
  obtain ⟨m, hm⟩ : ∃ m : Int, Seal (((lq v : Nat) : Int) = m) := ⟨_, ⟨rfl⟩⟩
  rw [hm.out] at hc
  have hm1 := lq_rng v
  rw [hm.out] at hm1
  obtain ⟨hm0, hm9⟩ := hm1
  have hh1 := blHash_rng key r u v b
  rw [hh.out] at hh1
  obtain ⟨hh0, hh9⟩ := hh1
  clear hkr hkr' hb1 hb hG
  go_enter Tryd.func28, Tryd.ntmps28
  go_wp2_with (go_at_call 60; refine (elements_new _ _ true _ _ rfl HS).mono ?_; rintro e w' ⟨rfl, rfl⟩)
  refine (bhash_eq key r u v h a len cap b _ hh HK.out.1 HK.out.2 u1 u2 v1 v2 HI.out hl HG1.out).mono ?_
  rintro e w2 ⟨rfl, hb2⟩
  have HB2 := Seal.mk (HB1.out.trans (hb2.mono HB1.out.size))
  clear hb2
  go_wp2_with fail
  refine (bmod_eq v m _ hm).mono ?_
  rintro e w3 ⟨rfl, rfl⟩
  go_wp2_with fail
  refine (bmod_eq (h + m) c _ hc).mono ?_
  rintro e w3 ⟨rfl, rfl⟩
  go_wp2_with fail
  go_ret2
  exact ⟨rfl, HB2.out⟩

theorem answer_no (key n c : Int) (w : World) (h : (secB key && secB n) = false) :
    Calls Tryd.prog 30 #[.int .i64 key, .int .i64 n, .int .i64 c] w fun e w' => e = .returned (.tuple #[.int .i64 0, .int .i64 110]) ∧ Below w.heap.size w w' := by
  cases h1 : secB key with
  | false =>
    have HS := Seal.mk h1
    clear h1 h
    go_enter Tryd.func30, Tryd.ntmps30
    go_wp2_with (go_at_call 58; refine (secret_eq _ _ _ HS).mono ?_; rintro e w' ⟨rfl, rfl⟩)
    go_ret2
    exact ⟨rfl, Below.refl _ _⟩
  | true =>
    have HS := Seal.mk h1
    have HN : Seal (secB n = false) := ⟨by rw [h1] at h; simpa using h⟩
    clear h1 h
    go_enter Tryd.func30, Tryd.ntmps30
    go_wp2_with fail
    refine (secret_eq key true _ HS).mono ?_
    rintro e w' ⟨rfl, rfl⟩
    go_wp2_with fail
    refine (secret_eq n false _ HN).mono ?_
    rintro e w' ⟨rfl, rfl⟩
    go_wp2_with fail
    go_ret2
    exact ⟨rfl, Below.refl _ _⟩

theorem secB_iff (n : Int) : secB n = true ↔ 0 < n ∧ n < 1073741789 := by unfold secB; simp

theorem answer_yes (key n c s : Int) (w : World) (h1 : secB key = true) (h2 : secB n = true) (hs : Seal (((lq (n + (lq c : Nat) * key) : Nat) : Int) = s)) :
    Calls Tryd.prog 30 #[.int .i64 key, .int .i64 n, .int .i64 c] w fun e w' => e = .returned (.tuple #[.int .i64 s, .int .i64 0]) ∧ Below w.heap.size w w' := by
  have HS := Seal.mk h1
  have HN := Seal.mk h2
  have k1 := (secB_iff key).1 h1
  have k2 := (secB_iff n).1 h2
  obtain ⟨k10, k19⟩ := k1
  obtain ⟨k20, k29⟩ := k2
  obtain ⟨m, hm⟩ : ∃ m : Int, Seal (((lq c : Nat) : Int) = m) := ⟨_, ⟨rfl⟩⟩
  rw [hm.out] at hs
  have hm1 := lq_rng c
  rw [hm.out] at hm1
  obtain ⟨hm0, hm9⟩ := hm1
  obtain ⟨b1, b2⟩ : 0 ≤ m * key ∧ m * key ≤ 1152921429444920521 := ⟨Int.mul_nonneg hm0 (by omega), by
    have := Int.mul_le_mul (show m ≤ 1073741789 by omega) (show key ≤ 1073741789 by omega) (by omega) (by decide)
    omega⟩
  clear h1 h2
  go_enter Tryd.func30, Tryd.ntmps30
  go_wp2_with fail
  refine (secret_eq key true _ HS).mono ?_
  rintro e w' ⟨rfl, rfl⟩
  go_wp2_with fail
  refine (secret_eq n true _ HN).mono ?_
  rintro e w' ⟨rfl, rfl⟩
  go_wp2_with fail
  refine (bmod_eq c m _ hm).mono ?_
  rintro e w' ⟨rfl, rfl⟩
  go_wp2_with fail
  refine (bmod_eq (n + m * key) s _ hs).mono ?_
  rintro e w' ⟨rfl, rfl⟩
  go_wp2_with fail
  go_ret2
  exact ⟨rfl, Below.refl _ _⟩
end Frk
