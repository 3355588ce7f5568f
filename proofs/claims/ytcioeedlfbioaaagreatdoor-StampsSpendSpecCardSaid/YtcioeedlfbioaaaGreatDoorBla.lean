/- The law SignRight, walked. -/
import Derived.Test.YtcioeedlfbioaaaGreatDoorLawA
import Derived.Test.YtcioeedlfbioaaaGreatDoorPnt
import Derived.Test.YtcioeedlfbioaaaGreatDoorRqm
import Derived.Test.YtcioeedlfbioaaaGreatDoorExs
import Derived.Test.YtcioeedlfbioaaaGreatDoorLsm
import Derived.Test.YtcioeedlfbioaaaGreatDoorRpw
namespace Frk
open Go Go.RowKit Go.Proofs
set_option maxRecDepth 100000

theorem ver_right (x : Int) (a : Option Addr) (len cap : Nat) (b : Bytes) (w : World) (hb : IsB w a len cap b) (hl : len ≤ 1099511627776) (hG : Glob w) :
    Calls Tryz.prog 29 #[.int .i64 (pw 4 x : Nat), .slice a len cap, .agg #[.int .i64 (sgE x b : Nat), .int .i64 (sgS x b)]] w fun e w' => e = .returned (.bool true) ∧ Below w.heap.size w w' :=
  ver_at _ _ _ true a len cap b w (sign_right x b) hb hl hG

theorem pow_four (n : Int) (w : World) (h1 : -9223372036854775808 ≤ n) (h2 : n ≤ 9223372036854775807) :
    Calls Tryz.prog 40 #[.int .i64 4, .int .i64 n] w fun e w' => e = .returned (.tuple #[.int .i64 (pw 4 n), .int .i64 0]) ∧ Below w.heap.size w w' :=
  pow_yes 4 n w (by decide +kernel) h1 h2

theorem ver_eq (x : Int) (a : Option Addr) (len cap : Nat) (b : Bytes) (w : World) (E p : Int) (S : Int) (hE : Seal (((sgE x b : Nat) : Int) = E)) (hS : Seal (sgS x b = S)) (hp : Seal (((pw 4 x : Nat) : Int) = p)) (hb : IsB w a len cap b) (hl : len ≤ 1099511627776) (hG : Glob w) :
    Calls Tryz.prog 29 #[.int .i64 p, .slice a len cap, .agg #[.int .i64 E, .int .i64 S]] w fun e w' => e = .returned (.bool true) ∧ Below w.heap.size w w' := by
  rw [← hE.out, ← hS.out, ← hp.out]; exact ver_right x a len cap b w hb hl hG

theorem pow_eq4 (n : Int) (w : World) (p : Int) (hp : Seal (((pw 4 n : Nat) : Int) = p)) (h1 : -9223372036854775808 ≤ n) (h2 : n ≤ 9223372036854775807) :
    Calls Tryz.prog 40 #[.int .i64 4, .int .i64 n] w fun e w' => e = .returned (.tuple #[.int .i64 p, .int .i64 0]) ∧ Below w.heap.size w w' := by
  rw [← hp.out]; exact pow_four n w h1 h2

/-- two signatures with one point give away the secret -/
theorem twice_key (key E1 S1 E2 S2 : Int) (hk : vd key = true) (hp : sgPoint key E1 S1 = sgPoint key E2 S2) (hne : lq (E1 - E2) ≠ 0) : ((pw 4 (quo (S1 - S2) (E1 - E2) : Nat) : Nat) : Int) = key := by
  obtain ⟨K, rfl, hK⟩ := vd_of_vd hk
  unfold sgPoint at hp
  rw [Int.toNat_natCast] at hp
  have v4 := vd4
  have e1 : pw 4 (S1 - S2) = pw K (E1 - E2) := by
    have h := congrArg (fun z => mp (mp z (pw K E1)) (pw 4 (-S2))) hp
    have l : mp (mp (mp (pw 4 S1) (pw K (-E1))) (pw K E1)) (pw 4 (-S2)) = pw 4 (S1 - S2) := by
      rw [mp_assoc (pw 4 S1), show mp (pw K (-E1)) (pw K E1) = 1 from by unfold mp; rw [← pw_add hK, show -E1 + E1 = 0 by omega, pw_zero], mp_one (pw_lt _ _)]
      unfold mp; rw [← pw_add v4]; rfl
    have r : mp (mp (mp (pw 4 S2) (pw K (-E2))) (pw K E1)) (pw 4 (-S2)) = pw K (E1 - E2) := by
      rw [mp_comm (pw 4 S2), mp_assoc, mp_assoc, mp_left_comm (pw 4 S2), show mp (pw 4 S2) (pw 4 (-S2)) = 1 from by unfold mp; rw [← pw_add v4, show S2 + -S2 = 0 by omega, pw_zero], mp_one (pw_lt _ _)]
      unfold mp; rw [← pw_add hK, show -E2 + E1 = E1 - E2 by omega]
    rw [← l, ← r]; exact h
  have e2 : pw (pw 4 (quo (S1 - S2) (E1 - E2) : Nat)) (E1 - E2) = pw K (E1 - E2) := by
    rw [pw_pw v4, ← e1]
    exact pw_congr 4 (lq_eq_iff.1 (quo_mul _ _ hne))
  have e3 := congrArg (fun z => pw z (quo 1 (E1 - E2) : Nat)) e2
  have hX : Vd (pw 4 (quo (S1 - S2) (E1 - E2) : Nat)) := v4.pw _
  have one : ∀ X : Nat, Vd X → pw (pw X (E1 - E2)) (quo 1 (E1 - E2) : Nat) = X := fun X hX => by
    rw [pw_pw hX, Int.mul_comm, pw_congr X (lq_eq_iff.1 (quo_mul 1 _ hne)), pw_one hX]
  simp only [one _ hX, one _ hK] at e3
  rw [e3]

theorem vr_parts {key E S : Int} {b : Bytes} (h : vrB key b E S = true) : (0 ≤ E ∧ E < 1073741789) ∧ (0 ≤ S ∧ S < 1073741789) ∧ vd key = true := by
  unfold vrB at h
  simp only [Bool.and_eq_true] at h
  exact ⟨(inQ_iff E).1 h.1.1.1, (inQ_iff S).1 h.1.1.2, h.1.2⟩

theorem mod_eq (n r : Int) (w : World) (hr : Seal (((lq n : Nat) : Int) = r)) : Calls Tryz.prog 50 #[.int .i64 n] w fun e w' => e = .returned (.int .i64 r) ∧ w = w' := by
  rw [← hr.out]; exact mod_any n w

def secB (n : Int) : Bool := decide (0 < n) && decide (n < 1073741789)

theorem secret_yes (n : Int) (w : World) (h : 0 < n) (h2 : n < 1073741789) : Calls Tryz.prog 68 #[.int .i64 n] w fun e w' => e = .returned (.bool true) ∧ w = w' := by
  go_enter Tryz.func68, Tryz.ntmps68
  go_wp2
  go_ret
  exact ⟨ret_bool (by first | (simp; done) | (simp; omega)), rfl⟩

theorem secret_no (n : Int) (w : World) (h : n ≤ 0 ∨ 1073741789 ≤ n) : Calls Tryz.prog 68 #[.int .i64 n] w fun e w' => e = .returned (.bool false) ∧ w = w' := by
  rcases h with h | h
  · go_enter Tryz.func68, Tryz.ntmps68
    go_wp2
    go_ret
    exact ⟨ret_bool (by first | (simp; done) | (simp; omega)), rfl⟩
  · have h' : 0 < n := by omega
    go_enter Tryz.func68, Tryz.ntmps68
    go_wp2
    go_ret
    exact ⟨ret_bool (by first | (simp; done) | (simp; omega)), rfl⟩

theorem secret_any (n : Int) (w : World) : Calls Tryz.prog 68 #[.int .i64 n] w fun e w' => e = .returned (.bool (secB n)) ∧ w = w' := by
  unfold secB
  by_cases h : 0 < n
  · by_cases h2 : n < 1073741789
    · rw [decide_eq_true h, decide_eq_true h2]; exact secret_yes n w h h2
    · rw [decide_eq_true h, decide_eq_false h2]; exact secret_no n w (by omega)
  · rw [decide_eq_false h]; exact secret_no n w (by omega)

theorem bmod_any (n : Int) (w : World) : Calls Tryz.prog 46 #[.int .i64 n] w fun e w' => e = .returned (.int .i64 (lq n)) ∧ w = w' := by
  have HL := Seal.mk (tmod_lq n)
  have hb1 : -1073741789 < n.tmod 1073741789 := Int.lt_tmod_of_pos n (by decide)
  have hb2 : n.tmod 1073741789 < 1073741789 := Int.tmod_lt_of_pos n (by decide)
  by_cases h : 0 ≤ n
  · have HL2 : Seal ((n % 1073741789 + 1073741789) % 1073741789 = ((lq n : Nat) : Int)) := ⟨by rw [lq_cast, Int.add_emod_right, Int.emod_emod_of_dvd _ (Int.dvd_refl _)]; rfl⟩
    have h3 : 0 ≤ n % 1073741789 := Int.emod_nonneg _ (by decide)
    have h4 : n % 1073741789 < 1073741789 := Int.emod_lt_of_pos _ (by decide)
    go_enter Tryz.func46, Tryz.ntmps46
    go_wp2
    go_ret
    exact ⟨ret_i64 HL2.out, rfl⟩
  · have h' : n < 0 := by omega
    go_enter Tryz.func46, Tryz.ntmps46
    go_wp2
    go_ret
    exact ⟨ret_i64 (by rw [← HL.out, Int.add_emod_right]), rfl⟩

set_option maxHeartbeats 400000 in
theorem elements_two (g off cap : Nat) (a b : Int) (w : World) (ha : w.cell? ⟨g, off, none⟩ = some (.int .i64 a)) (hb : w.cell? ⟨g, off + 1, none⟩ = some (.int .i64 b)) :
    Calls Tryz.prog 45 #[.slice (some ⟨g, off, none⟩) 2 cap] w fun e w' => e = .returned (.bool (vd a && vd b)) ∧ w = w' := by
  have ha0 : w.cell? ⟨g, off + 0, none⟩ = some (.int .i64 a) := ha
  cases h1 : vd a with
  | false =>
    go_enter Tryz.func45, Tryz.ntmps45
    go_wp2
    refine wp_loop_rounds 3 ?_
    rw [rounds_succ]
    go_wp2_with (go_at_call 55; refine (valid_any _ _).mono ?_; rintro e w' ⟨rfl, rfl⟩)
    go_ret
    exact ⟨ret_bool (by simp), rfl⟩
  | true =>
    cases h2 : vd b with
    | false =>
      go_enter Tryz.func45, Tryz.ntmps45
      go_wp2
      refine wp_loop_rounds 3 ?_
      rw [rounds_succ]
      go_wp2_with (go_at_call 55; refine (valid_any _ _).mono ?_; rintro e w' ⟨rfl, rfl⟩)
      rw [rounds_succ]
      go_wp2_with (go_at_call 55; refine (valid_any _ _).mono ?_; rintro e w' ⟨rfl, rfl⟩)
      go_ret
      exact ⟨ret_bool (by simp), rfl⟩
    | true =>
      go_enter Tryz.func45, Tryz.ntmps45
      go_wp2
      refine wp_loop_rounds 3 ?_
      rw [rounds_succ]
      go_wp2_with (go_at_call 55; refine (valid_any _ _).mono ?_; rintro e w' ⟨rfl, rfl⟩)
      rw [rounds_succ]
      go_wp2_with (go_at_call 55; refine (valid_any _ _).mono ?_; rintro e w' ⟨rfl, rfl⟩)
      rw [rounds_succ]
      go_wp2
      go_ret
      exact ⟨ret_bool (by simp), rfl⟩

/-- the blinded point -/
def blPoint (key r u v : Int) : Nat := mp r.toNat (mp (pw 4 u) (pw key.toNat v))
def blHash (key r : Int) (b : Bytes) (u v : Int) : Nat := sgHash (blPoint key r u v) key b

set_option maxHeartbeats 1000000 in
theorem bpoint_yes (key r u v : Int) (w : World) (hk : vd key = true) (hr : vd r = true) (u1 : -9223372036854775808 ≤ u) (u2 : u ≤ 9223372036854775807) (v1 : -9223372036854775808 ≤ v) (v2 : v ≤ 9223372036854775807) :
    Calls Tryz.prog 71 #[.agg #[.int .i64 key, .int .i64 r], .int .i64 u, .int .i64 v] w fun e w' => e = .returned (.int .i64 (blPoint key r u v : Nat)) ∧ Below w.heap.size w w' := by
  have h4 : vd 4 = true := by decide +kernel
  have H4S := Seal.mk (vd_pw h4 u)
  have HKE := Seal.mk (vd_pw hk v)
  have HK := Seal.mk hk
  have HRR := Seal.mk hr
  have HP : Seal (blPoint key r u v = mp r.toNat (mp (pw 4 u) (pw key.toNat v))) := ⟨rfl⟩
  have HM : Seal (vd (mp (pw 4 u) (pw key.toNat v) : Nat) = true) := ⟨by
    have a1 := (vd_iff _).1 H4S.out
    have a2 := (vd_iff _).1 HKE.out
    exact vd_of_nat (a1.mp a2)⟩
  have HR0 : Seal ((w.alloc (.cells #[.int .i64 key, .int .i64 r] 75)).heap[w.heap.size]? = some (.cells #[.int .i64 key, .int .i64 r] 75)) := ⟨heap_alloc_new w _⟩
  have HB0 := Seal.mk (below_alloc w (.cells #[.int .i64 key, .int .i64 r] 75))
  clear hk hr
  go_enter Tryz.func71, Tryz.ntmps71
  go_wp2_with fail
  refine (pow_yes 4 u _ (by decide +kernel) (by omega) (by omega)).mono ?_
  rintro e w2 ⟨rfl, hb⟩
  have HR2 := Seal.mk (blk hb (Array.getElem?_eq_some_iff.1 HR0.out).1 HR0.out)
  have HB2 := Seal.mk (HB0.out.trans (hb.mono HB0.out.size))
  clear hb HR0 HB0
  have c0 : w2.cell? ⟨w.heap.size, 0, none⟩ = some (.int .i64 key) := by rw [cell_of_row _ _ _ _ _ _ HR2.out]; rfl
  go_wp2_with fail
  refine (pow_yes key v _ HK.out (by omega) (by omega)).mono ?_
  rintro e w3 ⟨rfl, hb⟩
  have HR3 := Seal.mk (blk hb (Array.getElem?_eq_some_iff.1 HR2.out).1 HR2.out)
  have HB3 := Seal.mk (HB2.out.trans (hb.mono HB2.out.size))
  clear hb HR2 HB2 c0
  have c1 : w3.cell? ⟨w.heap.size, 1, none⟩ = some (.int .i64 r) := by rw [cell_of_row _ _ _ _ _ _ HR3.out]; rfl
  go_wp2_with fail
  refine (mul_yes _ _ _ H4S.out HKE.out).mono ?_
  rintro e w4 ⟨rfl, rfl⟩
  go_wp2_with fail
  refine (mul_yes _ _ _ HRR.out HM.out).mono ?_
  rintro e w4 ⟨rfl, rfl⟩
  go_wp2_with fail
  go_ret
  exact ⟨ret_i64 (by rw [HP.out]), HB3.out⟩

/-- in any world that has the text, it reads as a string -/
def Conv (w : World) (a : Option Addr) (len cap : Nat) (b : Bytes) : Prop := (convert 49 9 (.slice a len cap)).run Tryz.prog w = .ok (.string ⟨b.toArray⟩) w

theorem blPoint_lt (key r u v : Int) : blPoint key r u v < 2147483579 := mp_lt _ _

theorem bpoint_eq (key r u v p : Int) (w : World) (hp : Seal (((blPoint key r u v : Nat) : Int) = p)) (hk : vd key = true) (hr : vd r = true) (u1 : -9223372036854775808 ≤ u) (u2 : u ≤ 9223372036854775807) (v1 : -9223372036854775808 ≤ v) (v2 : v ≤ 9223372036854775807) :
    Calls Tryz.prog 71 #[.agg #[.int .i64 key, .int .i64 r], .int .i64 u, .int .i64 v] w fun e w' => e = .returned (.int .i64 p) ∧ Below w.heap.size w w' := by
  rw [← hp.out]; exact bpoint_yes key r u v w hk hr u1 u2 v1 v2

theorem askedS {w : World} {a : Option Addr} {len cap g : Nat} {b : Bytes} {key r u v : Int} (h : Env w a len cap b [(g, .cells #[.int .i64 key, .int .i64 r, .slice a len cap, .int .i64 u, .int .i64 v] 77)]) :
    (w.cell? ⟨g, 0, none⟩ = some (.int .i64 key) ∧ w.cell? ⟨g, 1, none⟩ = some (.int .i64 r) ∧ w.cell? ⟨g, 2, none⟩ = some (.slice a len cap) ∧ w.cell? ⟨g, 3, none⟩ = some (.int .i64 u) ∧ w.cell? ⟨g, 4, none⟩ = some (.int .i64 v)) ∧
      (convert 49 9 (.slice a len cap)).run Tryz.prog w = .ok (.string ⟨b.toArray⟩) w :=
  ⟨⟨h.cell (List.mem_singleton.2 rfl) rfl, h.cell (List.mem_singleton.2 rfl) rfl, h.cell (List.mem_singleton.2 rfl) rfl, h.cell (List.mem_singleton.2 rfl) rfl, h.cell (List.mem_singleton.2 rfl) rfl⟩, IsB.conv h.isb⟩

set_option maxHeartbeats 2000000 in
theorem bhash_yes (key r u v : Int) (a : Option Addr) (len cap : Nat) (b : Bytes) (w : World) (hk : vd key = true) (hr : vd r = true) (u1 : -9223372036854775808 ≤ u) (u2 : u ≤ 9223372036854775807) (v1 : -9223372036854775808 ≤ v) (v2 : v ≤ 9223372036854775807)
    (hb : IsB w a len cap b) (hl : len ≤ 1099511627776) (hG : Glob w) :
    Calls Tryz.prog 47 #[.agg #[.int .i64 key, .int .i64 r, .slice a len cap, .int .i64 u, .int .i64 v]] w fun e w' => e = .returned (.int .i64 (blHash key r b u v : Nat)) ∧ Below w.heap.size w w' := by
  have HK := Seal.mk hk
  have HRR := Seal.mk hr
  have HE1 : Seal (Env (w.alloc (.cells #[.int .i64 key, .int .i64 r, .slice a len cap, .int .i64 u, .int .i64 v] 77)) a len cap b [(w.heap.size, .cells #[.int .i64 key, .int .i64 r, .slice a len cap, .int .i64 u, .int .i64 v] 77)]) := ⟨(Env.mk hG hb (by intro p hp; cases hp) : Env w a len cap b []).push _⟩
  have HB1 := Seal.mk (below_alloc w (.cells #[.int .i64 key, .int .i64 r, .slice a len cap, .int .i64 u, .int .i64 v] 77))
  have HL := Seal.mk hb.llen
  obtain ⟨p, hp⟩ : ∃ p : Int, Seal (((blPoint key r u v : Nat) : Int) = p) := ⟨_, ⟨rfl⟩⟩
  have hp0 : 0 ≤ p := by have := hp.out; omega
  have hp9 : p < 2147483579 := by have := hp.out; have := blPoint_lt key r u v; omega
  have hkr := vd_range hk
  obtain ⟨hk0, hk9⟩ := hkr
  have hcv : (convert 49 9 (.slice a len cap)).run Tryz.prog (w.alloc (.cells #[.int .i64 key, .int .i64 r, .slice a len cap, .int .i64 u, .int .i64 v] 77)).drew = .ok (.string ⟨b.toArray⟩) (w.alloc (.cells #[.int .i64 key, .int .i64 r, .slice a len cap, .int .i64 u, .int .i64 v] 77)).drew :=
    IsB.conv (HE1.out.isb.below (Below.refl _ _).drew)
  clear hk hr hb hG
  go_enter Tryz.func47, Tryz.ntmps47
  go_wp2_with fail
  go_region_held3 (fun w' => (w'.cell? ⟨w.heap.size, 0, none⟩ = some (.int .i64 key) ∧ w'.cell? ⟨w.heap.size, 1, none⟩ = some (.int .i64 r) ∧ w'.cell? ⟨w.heap.size, 2, none⟩ = some (.slice a len cap) ∧ w'.cell? ⟨w.heap.size, 3, none⟩ = some (.int .i64 u) ∧ w'.cell? ⟨w.heap.size, 4, none⟩ = some (.int .i64 v)) ∧
      (convert 49 9 (.slice a len cap)).run Tryz.prog w' = .ok (.string ⟨b.toArray⟩) w')
    (first | (go_keep; done) | exact askedS HE6.out | exact askedS HE4.out | exact askedS (HE4.out.below (below_alloc w4 _)))
    (first
    | (go_at_call 71; refine (bpoint_eq key r u v p _ hp HK.out HRR.out (by omega) (by omega) (by omega) (by omega)).mono ?_; rintro e w4 ⟨rfl, hb⟩
       have hb4 : Below (w.alloc (.cells #[.int .i64 key, .int .i64 r, .slice a len cap, .int .i64 u, .int .i64 v] 77)).heap.size (w.alloc (.cells #[.int .i64 key, .int .i64 r, .slice a len cap, .int .i64 u, .int .i64 v] 77)) w4 := ((Below.refl _ _).drew).trans hb
       have HE4 := Seal.mk (HE1.out.below hb4)
       have HB4 := Seal.mk (HB1.out.trans (hb4.mono HB1.out.size))
       clear hb hb4)
    | (go_at_call 43; refine (encode_new [.i p, .i key, .t b] 3 w4.heap.size w4 rfl rfl (by decide) (by
        intro y hy
        simp only [List.mem_cons, List.not_mem_nil, or_false] at hy
        rcases hy with rfl | rfl | rfl
        · exact ⟨by omega, by omega⟩
        · exact ⟨by omega, by omega⟩
        · show b.length < 2 ^ 63
          rw [HL.out]; omega) (by
        have := HL.out
        simp [wgts, Lf.wgt]; omega)).mono ?_; rintro e w6 ⟨g6, n6, cap6, hn6, rfl, hf6⟩
       have HE6 := Seal.mk (HE4.out.below hf6.out.2.2.2.2)
       have HB6 := Seal.mk (HB4.out.trans (hf6.out.2.2.2.2.mono HB4.out.size))))
  have hn6' := encL_length [.i p, .i key, .t b]
  rw [hn6.out, show wgts [.i p, .i key, .t b] = len + 33 from by have := HL.out; simp [wgts, Lf.wgt]; omega] at hn6'
  have HQ : Seal (blHash key r b u v = ghash tSign (encL [.i p, .i key, .t b])) := ⟨by unfold blHash; rw [hp.out]; rfl⟩
  go_wp2_with fail
  refine (hash_new tSign _ g6 n6 cap6 _ HE6.out.glob (by decide) (by decide) hn6.out ⟨hf6.out.1, hf6.out.2.1, hf6.out.2.2.1, hf6.out.2.2.2.1⟩ (by omega)).mono ?_
  rintro e w7 ⟨rfl, hb7⟩
  have HB7 := Seal.mk (HB6.out.trans (hb7.mono HB6.out.size))
  clear hb7
  go_wp2
  go_ret
  exact ⟨ret_i64 (by rw [HQ.out]), HB7.out⟩

theorem elements_eq (g off cap : Nat) (a b : Int) (r : Bool) (w : World) (hr : Seal ((vd a && vd b) = r)) (ha : w.cell? ⟨g, off, none⟩ = some (.int .i64 a)) (hb : w.cell? ⟨g, off + 1, none⟩ = some (.int .i64 b)) :
    Calls Tryz.prog 45 #[.slice (some ⟨g, off, none⟩) 2 cap] w fun e w' => e = .returned (.bool r) ∧ w = w' := by
  rw [← hr.out]; exact elements_two g off cap a b w ha hb

theorem elements_new (a b : Int) (r : Bool) (H : Nat) (w : World) (hH : w.heap.size = H) (hr : Seal ((vd a && vd b) = r)) :
    Calls Tryz.prog 45 #[.slice (some ⟨H, 0, none⟩) 2 2] (w.alloc (.cells #[.int .i64 a, .int .i64 b] 3)) fun e w' => e = .returned (.bool r) ∧ w.alloc (.cells #[.int .i64 a, .int .i64 b] 3) = w' := by
  subst hH
  exact elements_eq _ _ _ a b r _ hr (by rw [cell_of_row _ _ _ _ _ _ (heap_alloc_new w _)]; rfl) (by rw [cell_of_row _ _ _ _ _ _ (heap_alloc_new w _)]; rfl)

theorem secret_eq (n : Int) (r : Bool) (w : World) (hr : Seal (secB n = r)) : Calls Tryz.prog 68 #[.int .i64 n] w fun e w' => e = .returned (.bool r) ∧ w = w' := by
  rw [← hr.out]; exact secret_any n w

theorem bmod_eq (n r : Int) (w : World) (hr : Seal (((lq n : Nat) : Int) = r)) : Calls Tryz.prog 46 #[.int .i64 n] w fun e w' => e = .returned (.int .i64 r) ∧ w = w' := by
  rw [← hr.out]; exact bmod_any n w

theorem bhash_eq (key r u v h : Int) (a : Option Addr) (len cap : Nat) (b : Bytes) (w : World) (hh : Seal (((blHash key r b u v : Nat) : Int) = h)) (hk : vd key = true) (hr : vd r = true) (u1 : -9223372036854775808 ≤ u) (u2 : u ≤ 9223372036854775807) (v1 : -9223372036854775808 ≤ v) (v2 : v ≤ 9223372036854775807)
    (hb : IsB w a len cap b) (hl : len ≤ 1099511627776) (hG : Glob w) :
    Calls Tryz.prog 47 #[.agg #[.int .i64 key, .int .i64 r, .slice a len cap, .int .i64 u, .int .i64 v]] w fun e w' => e = .returned (.int .i64 h) ∧ Below w.heap.size w w' := by
  rw [← hh.out]; exact bhash_yes key r u v a len cap b w hk hr u1 u2 v1 v2 hb hl hG

theorem lq_rng (n : Int) : 0 ≤ ((lq n : Nat) : Int) ∧ ((lq n : Nat) : Int) < 1073741789 := ⟨by omega, by have := lq_lt n; unfold Q at this; omega⟩
theorem blHash_rng (key r u v : Int) (b : Bytes) : 0 ≤ ((blHash key r b u v : Nat) : Int) ∧ ((blHash key r b u v : Nat) : Int) < 1073741789 := ⟨by omega, by have : blHash key r b u v < 1073741789 := ghash_lt _ _; omega⟩

theorem begin_no (n : Int) (w : World) (h : secB n = false) : Calls Tryz.prog 41 #[.int .i64 n] w fun e w' => e = .returned (.tuple #[.int .i64 0, .int .i64 110]) ∧ Below w.heap.size w w' := by
  have HS := Seal.mk h
  clear h
  go_enter Tryz.func41, Tryz.ntmps41
  go_wp2_with (go_at_call 68; refine (secret_eq _ _ _ HS).mono ?_; rintro e w' ⟨rfl, rfl⟩)
  go_ret2
  exact ⟨rfl, Below.refl _ _⟩

theorem begin_yes (n : Int) (w : World) (h : secB n = true) (h1 : -9223372036854775808 ≤ n) (h2 : n ≤ 9223372036854775807) : Calls Tryz.prog 41 #[.int .i64 n] w fun e w' => e = .returned (.tuple #[.int .i64 (pw 4 n : Nat), .int .i64 0]) ∧ Below w.heap.size w w' := by
  have HS := Seal.mk h
  have HP : Seal _ := ⟨pow_yes 4 n w (by decide +kernel) h1 h2⟩
  clear h h1 h2
  go_enter Tryz.func41, Tryz.ntmps41
  go_wp2_with (first | (go_at_call 68; refine (secret_eq _ _ _ HS).mono ?_; rintro e w' ⟨rfl, rfl⟩) | (go_at_call 40; refine HP.out.mono ?_; rintro e w' ⟨rfl, hb⟩))
  go_ret2
  exact ⟨rfl, hb⟩

theorem ask_no (key r u v : Int) (s : Value) (w : World) (h : (vd key && vd r) = false) :
    Calls Tryz.prog 22 #[.int .i64 key, .int .i64 r, s, .int .i64 u, .int .i64 v] w fun e w' => e = .returned (.tuple #[.int .i64 0, .int .i64 90]) ∧ Below w.heap.size w w' := by
  have HS := Seal.mk h
  clear h
  go_enter Tryz.func22, Tryz.ntmps22
  go_wp2_with (go_at_call 45; refine (elements_new _ _ false _ _ rfl HS).mono ?_; rintro e w' ⟨rfl, rfl⟩)
  go_ret2
  exact ⟨rfl, below_alloc _ _⟩

set_option maxHeartbeats 1000000 in
theorem ask_yes (key r u v h c : Int) (a : Option Addr) (len cap : Nat) (b : Bytes) (w : World) (hkr : (vd key && vd r) = true) (hh : Seal (((blHash key r b u v : Nat) : Int) = h)) (hc : Seal (((lq (h + (lq v : Nat)) : Nat) : Int) = c)) (u1 : -9223372036854775808 ≤ u) (u2 : u ≤ 9223372036854775807) (v1 : -9223372036854775808 ≤ v) (v2 : v ≤ 9223372036854775807)
    (hb : IsB w a len cap b) (hl : len ≤ 1099511627776) (hG : Glob w) :
    Calls Tryz.prog 22 #[.int .i64 key, .int .i64 r, .slice a len cap, .int .i64 u, .int .i64 v] w fun e w' => e = .returned (.tuple #[.int .i64 c, .int .i64 0]) ∧ Below w.heap.size w w' := by
  have HS := Seal.mk hkr
  have hkr' : vd key = true ∧ vd r = true := by simpa using hkr
  have HK := Seal.mk hkr'
  have hb1 : Below w.heap.size w ((w.alloc (.cells #[.int .i64 key, .int .i64 r] 3)).alloc (.cells #[.int .i64 key, .int .i64 r, .slice a len cap, .int .i64 u, .int .i64 v] 77)) := ((Below.refl _ w).alloc (Nat.le_refl _) _).alloc (by simp) _
  have HB1 := Seal.mk hb1
  have HI := Seal.mk (hb.below hb1)
  have HG1 := Seal.mk (hG.below hb1)
  obtain ⟨m, hm⟩ : ∃ m : Int, Seal (((lq v : Nat) : Int) = m) := ⟨_, ⟨rfl⟩⟩
  rw [hm.out] at hc
  have hm1 := lq_rng v
  rw [hm.out] at hm1
  obtain ⟨hm0, hm9⟩ := hm1
  have hh1 := blHash_rng key r u v b
  rw [hh.out] at hh1
  obtain ⟨hh0, hh9⟩ := hh1
  clear hkr hkr' hb1 hb hG
  go_enter Tryz.func22, Tryz.ntmps22
  go_wp2_with (go_at_call 45; refine (elements_new _ _ true _ _ rfl HS).mono ?_; rintro e w' ⟨rfl, rfl⟩)
  refine (bhash_eq key r u v h a len cap b _ hh HK.out.1 HK.out.2 u1 u2 v1 v2 HI.out hl HG1.out).mono ?_
  rintro e w2 ⟨rfl, hb2⟩
  have HB2 := Seal.mk (HB1.out.trans (hb2.mono HB1.out.size))
  clear hb2
  go_wp2_with fail
  refine (bmod_eq v m _ hm).mono ?_
  rintro e w3 ⟨rfl, rfl⟩
  go_wp2_with fail
  refine (bmod_eq (h + m) c _ hc).mono ?_
  rintro e w3 ⟨rfl, rfl⟩
  go_wp2_with fail
  go_ret2
  exact ⟨rfl, HB2.out⟩

theorem answer_no (key n c : Int) (w : World) (h : (secB key && secB n) = false) :
    Calls Tryz.prog 42 #[.int .i64 key, .int .i64 n, .int .i64 c] w fun e w' => e = .returned (.tuple #[.int .i64 0, .int .i64 110]) ∧ Below w.heap.size w w' := by
  cases h1 : secB key with
  | false =>
    have HS := Seal.mk h1
    clear h1 h
    go_enter Tryz.func42, Tryz.ntmps42
    go_wp2_with (go_at_call 68; refine (secret_eq _ _ _ HS).mono ?_; rintro e w' ⟨rfl, rfl⟩)
    go_ret2
    exact ⟨rfl, Below.refl _ _⟩
  | true =>
    have HS := Seal.mk h1
    have HN : Seal (secB n = false) := ⟨by rw [h1] at h; simpa using h⟩
    clear h1 h
    go_enter Tryz.func42, Tryz.ntmps42
    go_wp2_with fail
    refine (secret_eq key true _ HS).mono ?_
    rintro e w' ⟨rfl, rfl⟩
    go_wp2_with fail
    refine (secret_eq n false _ HN).mono ?_
    rintro e w' ⟨rfl, rfl⟩
    go_wp2_with fail
    go_ret2
    exact ⟨rfl, Below.refl _ _⟩

theorem secB_iff (n : Int) : secB n = true ↔ 0 < n ∧ n < 1073741789 := by unfold secB; simp

theorem answer_yes (key n c s : Int) (w : World) (h1 : secB key = true) (h2 : secB n = true) (hs : Seal (((lq (n + (lq c : Nat) * key) : Nat) : Int) = s)) :
    Calls Tryz.prog 42 #[.int .i64 key, .int .i64 n, .int .i64 c] w fun e w' => e = .returned (.tuple #[.int .i64 s, .int .i64 0]) ∧ Below w.heap.size w w' := by
  have HS := Seal.mk h1
  have HN := Seal.mk h2
  have k1 := (secB_iff key).1 h1
  have k2 := (secB_iff n).1 h2
  obtain ⟨k10, k19⟩ := k1
  obtain ⟨k20, k29⟩ := k2
  obtain ⟨m, hm⟩ : ∃ m : Int, Seal (((lq c : Nat) : Int) = m) := ⟨_, ⟨rfl⟩⟩
  rw [hm.out] at hs
  have hm1 := lq_rng c
  rw [hm.out] at hm1
  obtain ⟨hm0, hm9⟩ := hm1
  obtain ⟨b1, b2⟩ : 0 ≤ m * key ∧ m * key ≤ 1152921429444920521 := ⟨Int.mul_nonneg hm0 (by omega), by
    have := Int.mul_le_mul (show m ≤ 1073741789 by omega) (show key ≤ 1073741789 by omega) (by omega) (by decide)
    omega⟩
  clear h1 h2
  go_enter Tryz.func42, Tryz.ntmps42
  go_wp2_with fail
  refine (secret_eq key true _ HS).mono ?_
  rintro e w' ⟨rfl, rfl⟩
  go_wp2_with fail
  refine (secret_eq n true _ HN).mono ?_
  rintro e w' ⟨rfl, rfl⟩
  go_wp2_with fail
  refine (bmod_eq c m _ hm).mono ?_
  rintro e w' ⟨rfl, rfl⟩
  go_wp2_with fail
  refine (bmod_eq (n + m * key) s _ hs).mono ?_
  rintro e w' ⟨rfl, rfl⟩
  go_wp2_with fail
  go_ret2
  exact ⟨rfl, Below.refl _ _⟩

theorem finish_no (key r u v s : Int) (t : Value) (w : World) (h : (vd key && vd r) = false) :
    Calls Tryz.prog 27 #[.int .i64 key, .int .i64 r, t, .int .i64 u, .int .i64 v, .int .i64 s] w fun e w' => e = .returned (.tuple #[.agg #[.int .i64 0, .int .i64 0], .int .i64 90]) ∧ Below w.heap.size w w' := by
  have HS := Seal.mk h
  clear h
  go_enter Tryz.func27, Tryz.ntmps27
  go_wp2_with (go_at_call 45; refine (elements_new _ _ false _ _ (by simp) HS).mono ?_; rintro e w' ⟨rfl, rfl⟩)
  refine bodyPost_ret (v := .tuple #[.agg #[.int .i64 0, .int .i64 0], .int .i64 90]) (by simp [results, Tryz.f27, go_sem]) rfl ⟨rfl, ?_⟩
  exact ((Below.refl _ w).alloc (Nat.le_refl _) _).alloc (by simp) _

set_option maxHeartbeats 2000000 in
/-- what Finish has reckoned ahead of the check -/
theorem finish_any (key r u v s H S : Int) (ok : Bool) (a : Option Addr) (len cap : Nat) (b : Bytes) (w : World) (hkr : (vd key && vd r) = true) (hh : Seal (((blHash key r b u v : Nat) : Int) = H)) (hS : Seal (((lq ((lq s : Nat) + (lq u : Nat)) : Nat) : Int) = S)) (hok : Seal (vrB key b H S = ok))
    (u1 : -9223372036854775808 ≤ u) (u2 : u ≤ 9223372036854775807) (v1 : -9223372036854775808 ≤ v) (v2 : v ≤ 9223372036854775807)
    (hb : IsB w a len cap b) (hl : len ≤ 1099511627776) (hG : Glob w) :
    Calls Tryz.prog 27 #[.int .i64 key, .int .i64 r, .slice a len cap, .int .i64 u, .int .i64 v, .int .i64 s] w fun e w' =>
      e = .returned (if ok then .tuple #[.agg #[.int .i64 H, .int .i64 S], .int .i64 0] else .tuple #[.agg #[.int .i64 0, .int .i64 0], .int .i64 150]) ∧ Below w.heap.size w w' := by
  have HS := Seal.mk hkr
  have hkr' : vd key = true ∧ vd r = true := by simpa using hkr
  have HK := Seal.mk hkr'
  have HE1 : Seal (Env (((w.alloc (.cells #[.int .i64 0, .int .i64 0] 25)).alloc (.cells #[.int .i64 key, .int .i64 r] 3)).alloc (.cells #[.int .i64 key, .int .i64 r, .slice a len cap, .int .i64 u, .int .i64 v] 77)) a len cap b _) := ⟨(((Env.mk hG hb (by intro p hp; cases hp) : Env w a len cap b []).push (.cells #[.int .i64 0, .int .i64 0] 25)).push _).push _⟩
  have HB1 : Seal (Below w.heap.size w (((w.alloc (.cells #[.int .i64 0, .int .i64 0] 25)).alloc (.cells #[.int .i64 key, .int .i64 r] 3)).alloc (.cells #[.int .i64 key, .int .i64 r, .slice a len cap, .int .i64 u, .int .i64 v] 77))) := ⟨(((Below.refl _ w).alloc (Nat.le_refl _) _).alloc (by simp) _).alloc (by simp; omega) _⟩
  obtain ⟨m, hm⟩ : ∃ m : Int, Seal (((lq s : Nat) : Int) = m) := ⟨_, ⟨rfl⟩⟩
  obtain ⟨n, hn⟩ : ∃ n : Int, Seal (((lq u : Nat) : Int) = n) := ⟨_, ⟨rfl⟩⟩
  rw [hm.out, hn.out] at hS
  have hm1 := lq_rng s
  rw [hm.out] at hm1
  obtain ⟨hm0, hm9⟩ := hm1
  have hn1 := lq_rng u
  rw [hn.out] at hn1
  obtain ⟨hn0, hn9⟩ := hn1
  have HI := Seal.mk hb
  have HG := Seal.mk hG
  have HL := Seal.mk hl
  clear hkr hkr' hb hG
  go_enter Tryz.func27, Tryz.ntmps27
  go_wp2_with (go_at_call 45; refine (elements_new _ _ true _ _ (by simp) HS).mono ?_; rintro e w' ⟨rfl, rfl⟩)
  refine (bhash_eq key r u v H a len cap b _ hh HK.out.1 HK.out.2 u1 u2 v1 v2 HE1.out.isb hl HE1.out.glob).mono ?_
  rintro e w2 ⟨rfl, hb⟩
  have HE2 := Seal.mk (HE1.out.below hb)
  have HB2 := Seal.mk (HB1.out.trans (hb.mono HB1.out.size))
  have HR2 : Seal (w2.heap[w.heap.size]? = some (.cells #[.int .i64 0, .int .i64 0] 25)) := ⟨HE2.out.keep (w.heap.size, .cells #[.int .i64 0, .int .i64 0] 25) (by simp)⟩
  clear hb HE1 HB1
  have c0 : w2.cell? ⟨w.heap.size, 0, none⟩ = some (.int .i64 0) := by rw [cell_of_row _ _ _ _ _ _ HR2.out]; rfl
  have c1 : w2.cell? ⟨w.heap.size, 1, none⟩ = some (.int .i64 0) := by rw [cell_of_row _ _ _ _ _ _ HR2.out]; rfl
  have f0 : w2.frozen? ⟨w.heap.size, 0, none⟩ = false := frozen_of_row _ _ _ _ _ HR2.out
  have f1 : w2.frozen? ⟨w.heap.size, 1, none⟩ = false := frozen_of_row _ _ _ _ _ HR2.out
  go_wp2_with fail
  refine (bmod_eq s m _ hm).mono ?_
  rintro e w3 ⟨rfl, rfl⟩
  go_wp2_with fail
  refine (bmod_eq u n _ hn).mono ?_
  rintro e w3 ⟨rfl, rfl⟩
  go_wp2_with fail
  refine (bmod_eq (m + n) S _ hS).mono ?_
  rintro e w3 ⟨rfl, rfl⟩
  have HB3 := Seal.mk ((HB2.out.setCell (p := ⟨w.heap.size, 0, none⟩) (Nat.le_refl _) (.int .i64 H)).setCell (p := ⟨w.heap.size, 1, none⟩) (Nat.le_refl _) (.int .i64 S))
  have HR3 := Seal.mk (heap_setCell_row (cs := [.int .i64 H, .int .i64 0]) (i := 1) (.int .i64 S) (heap_setCell_row (cs := [.int .i64 0, .int .i64 0]) (i := 0) (.int .i64 H) HR2.out))
  simp only [List.set_cons_zero, List.set_cons_succ] at HR3
  go_wp2_with fail
  refine (ver_at key H S ok a len cap b _ hok.out (HI.out.below HB3.out) HL.out (HG.out.below HB3.out)).mono ?_
  rintro e w5 ⟨rfl, hb5⟩
  have HB5 := Seal.mk (HB3.out.trans (hb5.mono HB3.out.size))
  have HR5 := Seal.mk (blk hb5 (Array.getElem?_eq_some_iff.1 HR3.out).1 HR3.out)
  clear hb5 HB3 HR3
  have d0 := cell_of_row _ _ 0 _ _ _ HR5.out
  have d1 := cell_of_row _ _ 1 _ _ _ HR5.out
  have e0 : w5.frozen? ⟨w.heap.size, 0, none⟩ = false := frozen_of_row _ _ _ _ _ HR5.out
  have e1 : w5.frozen? ⟨w.heap.size, 1, none⟩ = false := frozen_of_row _ _ _ _ _ HR5.out
  cases ok with
  | true =>
    go_wp2_with fail
    have hr9 := heap_setCell_row (cs := [.int .i64 H, .int .i64 S]) (i := 1) (.int .i64 S) (heap_setCell_row (cs := [.int .i64 H, .int .i64 S]) (i := 0) (.int .i64 H) HR5.out)
    simp only [List.set_cons_zero, List.set_cons_succ] at hr9
    have hd0 := cell_of_row _ _ 0 _ _ _ hr9
    have hd1 := cell_of_row _ _ 1 _ _ _ hr9
    refine bodyPost_ret (v := .tuple #[.agg #[.int .i64 H, .int .i64 S], .int .i64 0]) (by simp [results, Tryz.f27, go_sem, hd0, hd1]) rfl ⟨rfl, ?_⟩
    exact (HB5.out.setCell (p := ⟨w.heap.size, 0, none⟩) (Nat.le_refl _) _).setCell (p := ⟨w.heap.size, 1, none⟩) (Nat.le_refl _) _
  | false =>
    go_wp2_with fail
    have hr9 := heap_setCell_row (cs := [.int .i64 0, .int .i64 S]) (i := 1) (.int .i64 0) (heap_setCell_row (cs := [.int .i64 H, .int .i64 S]) (i := 0) (.int .i64 0) HR5.out)
    simp only [List.set_cons_zero, List.set_cons_succ] at hr9
    have hd0 := cell_of_row _ _ 0 _ _ _ hr9
    have hd1 := cell_of_row _ _ 1 _ _ _ hr9
    refine bodyPost_ret (v := .tuple #[.agg #[.int .i64 0, .int .i64 0], .int .i64 150]) (by simp [results, Tryz.f27, go_sem, hd0, hd1]) rfl ⟨rfl, ?_⟩
    exact (HB5.out.setCell (p := ⟨w.heap.size, 0, none⟩) (Nat.le_refl _) _).setCell (p := ⟨w.heap.size, 1, none⟩) (Nat.le_refl _) _

def tSerial : Bytes := [115, 101, 114, 105, 97, 108]
def blPointQ (key r u v : Int) : Nat := mp r.toNat (mp (pwq 4 u) (pwq key.toNat v))
theorem blPoint_q (key r u v : Int) : blPoint key r u v = blPointQ key r u v := by unfold blPoint blPointQ; rw [pw_q, pw_q]
def blHashQ (key r : Int) (b : Bytes) (u v : Int) : Nat := sgHash (blPointQ key r u v) key b
theorem blHash_q (key r : Int) (b : Bytes) (u v : Int) : blHash key r b u v = blHashQ key r b u v := by unfold blHash blHashQ; rw [blPoint_q]
theorem bx1 : ((pw 4 5 : Nat) : Int) = 1024 := by rw [pw_q]; decide +kernel
theorem bx2 : ((pw 4 1 : Nat) : Int) = 4 := by rw [pw_q]; decide +kernel
theorem bx3 : ((blHash 64 1024 tSerial 11 (-13) : Nat) : Int) = 173695858 := by rw [blHash_q]; decide +kernel
theorem bx4 : ((lq (173695858 + (lq (-13) : Nat)) : Nat) : Int) = 173695845 := by decide +kernel
theorem bx5 : ((lq (5 + (lq 173695845 : Nat) * 3) : Nat) : Int) = 521087540 := by decide +kernel
theorem bx6 : ((lq ((lq 521087540 : Nat) + (lq 11 : Nat)) : Nat) : Int) = 521087551 := by decide +kernel
theorem bx7 : vrB 64 tSerial 173695858 521087551 = true := by rw [vr_q]; decide +kernel
theorem bx8 : ((lq (5 + (lq 7 : Nat) * 3) : Nat) : Int) = 26 := by decide +kernel
theorem bx9 : ((lq (5 + (lq (-1) : Nat) * 3) : Nat) : Int) = 2 := by decide +kernel
theorem bx10 : (vd 2 && vd 4) = false := by decide +kernel
theorem bx11 : (vd 64 && vd 1024) = true := by decide +kernel
theorem bx12 : (vd 64 && vd 4) = true := by decide +kernel
theorem bx13 : ((pw 4 521087540 : Nat) : Int) = ((pwq 4 521087540 : Nat) : Int) := by rw [pw_q]
theorem bx14 : ((blPoint 64 1024 0 173695845 : Nat) : Int) = ((pwq 4 521087540 : Nat) : Int) := by rw [blPoint_q]; decide +kernel
theorem bx15 : ((blPoint 64 4 0 173695845 : Nat) : Int) = ((blPointQ 64 4 0 173695845 : Nat) : Int) := by rw [blPoint_q]
theorem bx16 : ((pwq 4 521087540 : Nat) : Int) ≠ ((blPointQ 64 4 0 173695845 : Nat) : Int) := by decide +kernel
theorem bx17 : ((lq (521087551 - (lq 521087540 : Nat)) : Nat) : Int) = 11 := by decide +kernel
theorem bx18 : ((lq ((lq 173695845 : Nat) - 173695858) : Nat) : Int) = 1073741776 := by decide +kernel
theorem bx19 : secB 5 = true := by decide
theorem bx20 : secB 3 = true := by decide

theorem begin_eq (n p : Int) (w : World) (hp : Seal (((pw 4 n : Nat) : Int) = p)) (h : secB n = true) (h1 : -9223372036854775808 ≤ n) (h2 : n ≤ 9223372036854775807) : Calls Tryz.prog 41 #[.int .i64 n] w fun e w' => e = .returned (.tuple #[.int .i64 p, .int .i64 0]) ∧ Below w.heap.size w w' := by
  rw [← hp.out]; exact begin_yes n w h h1 h2

def askC (key r : Int) (b : Bytes) (u v : Int) : Int × Int := if (vd key && vd r) = true then (((lq ((blHash key r b u v : Nat) + (lq v : Nat)) : Nat) : Int), 0) else (0, 90)
def answerC (key n c : Int) : Int × Int := if (secB key && secB n) = true then (((lq (n + (lq c : Nat) * key) : Nat) : Int), 0) else (0, 110)
def finH (key r : Int) (b : Bytes) (u v s : Int) : Bool := vrB key b (blHash key r b u v : Nat) (lq ((lq s : Nat) + (lq u : Nat)) : Nat)
def finishC (key r : Int) (b : Bytes) (u v s : Int) : Int × Int × Int :=
  if (vd key && vd r) = true then (if finH key r b u v s = true then (((blHash key r b u v : Nat) : Int), ((lq ((lq s : Nat) + (lq u : Nat)) : Nat) : Int), 0) else (0, 0, 150)) else (0, 0, 90)
def linkT (key r c s : Int) (b : Bytes) (E S : Int) : Bool := vrB key b E S && decide (pw 4 s = blPoint key r 0 c)
def linkC (key r c s : Int) (b : Bytes) (E S : Int) : Int × Int × Bool :=
  if ((vd key && vd r) && linkT key r c s b E S) = true then (((lq (S - (lq s : Nat)) : Nat) : Int), ((lq ((lq c : Nat) - E) : Nat) : Int), true) else (0, 0, false)

theorem ask_at (key r u v d e0 : Int) (a : Option Addr) (len cap : Nat) (b : Bytes) (w : World) (h : Seal (askC key r b u v = (d, e0))) (u1 : -9223372036854775808 ≤ u) (u2 : u ≤ 9223372036854775807) (v1 : -9223372036854775808 ≤ v) (v2 : v ≤ 9223372036854775807)
    (hb : IsB w a len cap b) (hl : len ≤ 1099511627776) (hG : Glob w) :
    Calls Tryz.prog 22 #[.int .i64 key, .int .i64 r, .slice a len cap, .int .i64 u, .int .i64 v] w fun e w' => e = .returned (.tuple #[.int .i64 d, .int .i64 e0]) ∧ Below w.heap.size w w' := by
  have h' := h.out
  unfold askC at h'
  by_cases hkr : (vd key && vd r) = true
  · rw [if_pos hkr] at h'
    obtain ⟨rfl, rfl⟩ := Prod.mk.inj h'
    exact ask_yes key r u v _ _ a len cap b w hkr ⟨rfl⟩ ⟨rfl⟩ u1 u2 v1 v2 hb hl hG
  · rw [if_neg hkr] at h'
    obtain ⟨rfl, rfl⟩ := Prod.mk.inj h'
    exact ask_no key r u v _ w (by simpa using hkr)

theorem answer_at (key n c d e0 : Int) (w : World) (h : Seal (answerC key n c = (d, e0))) :
    Calls Tryz.prog 42 #[.int .i64 key, .int .i64 n, .int .i64 c] w fun e w' => e = .returned (.tuple #[.int .i64 d, .int .i64 e0]) ∧ Below w.heap.size w w' := by
  have h' := h.out
  unfold answerC at h'
  by_cases hkr : (secB key && secB n) = true
  · rw [if_pos hkr] at h'
    obtain ⟨rfl, rfl⟩ := Prod.mk.inj h'
    have h2 : secB key = true ∧ secB n = true := by simpa using hkr
    exact answer_yes key n c _ w h2.1 h2.2 ⟨rfl⟩
  · rw [if_neg hkr] at h'
    obtain ⟨rfl, rfl⟩ := Prod.mk.inj h'
    exact answer_no key n c w (by simpa using hkr)

theorem finish_at (key r u v s d0 d1 e0 : Int) (a : Option Addr) (len cap : Nat) (b : Bytes) (w : World) (h : Seal (finishC key r b u v s = (d0, d1, e0))) (u1 : -9223372036854775808 ≤ u) (u2 : u ≤ 9223372036854775807) (v1 : -9223372036854775808 ≤ v) (v2 : v ≤ 9223372036854775807)
    (hb : IsB w a len cap b) (hl : len ≤ 1099511627776) (hG : Glob w) :
    Calls Tryz.prog 27 #[.int .i64 key, .int .i64 r, .slice a len cap, .int .i64 u, .int .i64 v, .int .i64 s] w fun e w' => e = .returned (.tuple #[.agg #[.int .i64 d0, .int .i64 d1], .int .i64 e0]) ∧ Below w.heap.size w w' := by
  have h' := h.out
  unfold finishC at h'
  by_cases hkr : (vd key && vd r) = true
  · rw [if_pos hkr] at h'
    have hf := finish_any key r u v s _ _ _ a len cap b w hkr ⟨rfl⟩ ⟨rfl⟩ ⟨rfl⟩ u1 u2 v1 v2 hb hl hG
    by_cases ho : finH key r b u v s = true
    · rw [if_pos ho] at h'
      obtain ⟨rfl, h3⟩ := Prod.mk.inj h'
      obtain ⟨rfl, rfl⟩ := Prod.mk.inj h3
      unfold finH at ho
      rw [if_pos ho] at hf
      exact hf
    · rw [if_neg ho] at h'
      obtain ⟨rfl, h3⟩ := Prod.mk.inj h'
      obtain ⟨rfl, rfl⟩ := Prod.mk.inj h3
      unfold finH at ho
      rw [if_neg ho] at hf
      exact hf
  · rw [if_neg hkr] at h'
    obtain ⟨rfl, h3⟩ := Prod.mk.inj h'
    obtain ⟨rfl, rfl⟩ := Prod.mk.inj h3
    exact finish_no key r u v s _ w (by simpa using hkr)

theorem begin_at (n d e0 : Int) (w : World) (h : Seal ((if secB n = true then (((pw 4 n : Nat) : Int), (0 : Int)) else (0, 110)) = (d, e0))) (h1 : -9223372036854775808 ≤ n) (h2 : n ≤ 9223372036854775807) : Calls Tryz.prog 41 #[.int .i64 n] w fun e w' => e = .returned (.tuple #[.int .i64 d, .int .i64 e0]) ∧ Below w.heap.size w w' := by
  have h' := h.out
  by_cases hs : secB n = true
  · rw [if_pos hs] at h'
    obtain ⟨rfl, rfl⟩ := Prod.mk.inj h'
    exact begin_yes n w hs h1 h2
  · rw [if_neg hs] at h'
    obtain ⟨rfl, rfl⟩ := Prod.mk.inj h'
    exact begin_no n w (by simpa using hs)

/- modulo q -/
theorem blPoint_congr (key r : Int) {u v u' v' : Int} (hu : u % (Q : Int) = u' % (Q : Int)) (hv : v % (Q : Int) = v' % (Q : Int)) : blPoint key r u v = blPoint key r u' v' := by
  unfold blPoint; rw [pw_congr 4 hu, pw_congr key.toNat hv]
theorem blHash_congr (key r : Int) (b : Bytes) {u v u' v' : Int} (hu : u % (Q : Int) = u' % (Q : Int)) (hv : v % (Q : Int) = v' % (Q : Int)) : blHash key r b u v = blHash key r b u' v' := by
  unfold blHash; rw [blPoint_congr key r hu hv]
theorem askC_congr (key r : Int) (b : Bytes) {u v u' v' : Int} (hu : u % (Q : Int) = u' % (Q : Int)) (hv : v % (Q : Int) = v' % (Q : Int)) : askC key r b u v = askC key r b u' v' := by
  unfold askC; rw [blHash_congr key r b hu hv, lq_eq_iff.2 hv]
theorem answerC_congr (key n : Int) {c c' : Int} (hc : c % (Q : Int) = c' % (Q : Int)) : answerC key n c = answerC key n c' := by
  unfold answerC; rw [lq_eq_iff.2 hc]
theorem finishC_congr (key r : Int) (b : Bytes) {u v s u' v' s' : Int} (hu : u % (Q : Int) = u' % (Q : Int)) (hv : v % (Q : Int) = v' % (Q : Int)) (hs : s % (Q : Int) = s' % (Q : Int)) : finishC key r b u v s = finishC key r b u' v' s' := by
  unfold finishC finH; rw [blHash_congr key r b hu hv, lq_eq_iff.2 hs, lq_eq_iff.2 hu]

/-- a transcript -/
def trC (key r c s : Int) : Bool := vd key && vd r && decide (pw 4 s = mp r.toNat (pw key.toNat c))

instance : Std.Commutative mp := ⟨mp_comm⟩
instance : Std.Associative mp := ⟨mp_assoc⟩

theorem mp_pw {a : Nat} (ha : Vd a) (m n : Int) : mp (pw a m) (pw a n) = pw a (m + n) := by unfold mp; rw [← pw_add ha]

theorem blPoint_zero (key r c : Int) : blPoint key r 0 c = mp r.toNat (pw key.toNat c) := by
  unfold blPoint; rw [pw_zero, one_mp (pw_lt _ _)]

theorem link_tr (key r c s : Int) (b : Bytes) (E S : Int) : ((vd key && vd r) && linkT key r c s b E S) = (trC key r c s && vrB key b E S) := by
  unfold linkT trC
  rw [blPoint_zero]
  cases vd key <;> cases vd r <;> cases vrB key b E S <;> simp

theorem tr_point {key r c s : Int} (h : trC key r c s = true) (E S : Int) : blPoint key r (S - s) (c - E) = sgPoint key E S := by
  unfold trC at h
  have h' : (vd key = true ∧ vd r = true) ∧ pw 4 s = mp r.toNat (pw key.toNat c) := by simpa using h
  obtain ⟨⟨hk, hr⟩, hp⟩ := h'
  obtain ⟨K, rfl, hK⟩ := vd_of_vd hk
  obtain ⟨R, rfl, hR⟩ := vd_of_vd hr
  unfold blPoint sgPoint
  rw [Int.toNat_natCast, Int.toNat_natCast] at *
  rw [show S - s = S + -s from rfl, show c - E = c + -E from rfl, ← mp_pw vd4, ← mp_pw hK]
  have e : mp R (mp (mp (pw 4 S) (pw 4 (-s))) (mp (pw K c) (pw K (-E)))) = mp (mp (mp R (pw K c)) (pw 4 (-s))) (mp (pw 4 S) (pw K (-E))) := by ac_rfl
  rw [e, ← hp, mp_pw vd4, show s + -s = 0 by omega, pw_zero, one_mp (mp_lt _ _)]

theorem sgHash_lt (r key : Int) (b : Bytes) : sgHash r key b < 1073741789 := ghash_lt _ _

/-- Link leads to what Ask and Finish answer -/
theorem any_ask {key r c s E S : Int} {b : Bytes} (ht : trC key r c s = true) (hv : vrB key b E S = true) :
    blHash key r b (lq (S - (lq s : Nat)) : Nat) (lq ((lq c : Nat) - E) : Nat) = E.toNat := by
  have h1 : blPoint key r (lq (S - (lq s : Nat)) : Nat) (lq ((lq c : Nat) - E) : Nat) = sgPoint key E S := by
    rw [← tr_point ht E S]
    refine blPoint_congr key r ?_ ?_
    · rw [lq_cast, lq_cast, Int.emod_emod_of_dvd _ (Int.dvd_refl _), Int.sub_emod_emod]
    · rw [lq_cast, lq_cast, Int.emod_emod_of_dvd _ (Int.dvd_refl _), Int.emod_sub_emod]
  unfold blHash
  rw [h1]
  unfold vrB at hv
  have h2 : E = (sgHash (sgPoint key E S) key b : Nat) := by
    have h3 := (Bool.and_eq_true _ _ ▸ hv).2
    exact eq_of_beq h3
  omega

theorem any_askC {key r c s E S : Int} {b : Bytes} (ht : trC key r c s = true) (hv : vrB key b E S = true) :
    askC key r b (lq (S - (lq s : Nat)) : Nat) (lq ((lq c : Nat) - E) : Nat) = (((lq c : Nat) : Int), 0) := by
  have hpa := vr_parts hv
  obtain ⟨⟨E1, E2⟩, -, -⟩ := hpa
  have hkr : (vd key && vd r) = true := by
    unfold trC at ht
    exact (Bool.and_eq_true _ _ ▸ ht).1
  unfold askC
  rw [if_pos hkr, any_ask ht hv]
  have e : lq ((E.toNat : Int) + (lq (lq ((lq c : Nat) - E) : Nat) : Nat)) = lq c := by
    refine lq_eq_iff.2 ?_
    have hc := lq_cast c
    rw [lq_cast, lq_cast, lq_cast, show ((Q : Nat) : Int) = 1073741789 from rfl]
    omega
  rw [e]

theorem any_finC {key r c s E S : Int} {b : Bytes} (ht : trC key r c s = true) (hv : vrB key b E S = true) :
    finishC key r b (lq (S - (lq s : Nat)) : Nat) (lq ((lq c : Nat) - E) : Nat) s = (E, S, 0) := by
  have hpa := vr_parts hv
  obtain ⟨⟨E1, E2⟩, ⟨S1, S2⟩, -⟩ := hpa
  have hkr : (vd key && vd r) = true := by
    unfold trC at ht
    exact (Bool.and_eq_true _ _ ▸ ht).1
  have eE : ((E.toNat : Nat) : Int) = E := by omega
  have eS : (((lq ((lq s : Nat) + (lq (lq (S - (lq s : Nat)) : Nat) : Nat)) : Nat)) : Int) = S := by
    rw [lq_cast, lq_cast, lq_cast, lq_cast, show ((Q : Nat) : Int) = 1073741789 from rfl]
    omega
  unfold finishC finH
  rw [if_pos hkr, any_ask ht hv, eE, eS, if_pos hv]

/-- what the signer answers fits -/
theorem right_tr (x n c : Int) : trC (pw 4 x : Nat) (pw 4 n : Nat) c (lq (n + (lq c : Nat) * x) : Nat) = true := by
  unfold trC
  have v1 : vd ((pw 4 x : Nat) : Int) = true := vd_of_nat (vd4.pw x)
  have v2 : vd ((pw 4 n : Nat) : Int) = true := vd_of_nat (vd4.pw n)
  rw [v1, v2, Bool.true_and, Bool.true_and, decide_eq_true_iff, Int.toNat_natCast, Int.toNat_natCast, pw_pw vd4, mp_pw vd4, pw_lq]
  refine pw_congr 4 ?_
  rw [Int.add_emod, Int.mul_emod, lq_cast, Int.emod_emod_of_dvd _ (Int.dvd_refl _), ← Int.mul_emod, ← Int.add_emod, Int.mul_comm]

theorem right_fin (x n u v : Int) (b : Bytes) (c s : Int) (hc : c = (lq ((blHash (pw 4 x : Nat) (pw 4 n : Nat) b u v : Nat) + (lq v : Nat)) : Nat)) (hs : s = (lq (n + (lq c : Nat) * x) : Nat)) :
    finH (pw 4 x : Nat) (pw 4 n : Nat) b u v s = true := by
  have ht := right_tr x n c
  rw [← hs] at ht
  unfold finH vrB
  have v1 : vd ((pw 4 x : Nat) : Int) = true := vd_of_nat (vd4.pw x)
  have r1 := blHash_rng (pw 4 x : Nat) (pw 4 n : Nat) u v b
  have r2 := lq_rng ((lq s : Nat) + (lq u : Nat))
  rw [(inQ_iff _).2 r1, (inQ_iff _).2 r2, v1]
  show ((_ : Int) == _) = true
  refine beq_iff_eq.2 ?_
  have hp : blPoint (pw 4 x : Nat) (pw 4 n : Nat) u v = sgPoint (pw 4 x : Nat) (blHash (pw 4 x : Nat) (pw 4 n : Nat) b u v : Nat) (lq ((lq s : Nat) + (lq u : Nat)) : Nat) := by
    rw [← tr_point ht]
    refine blPoint_congr _ _ ?_ ?_
    · rw [lq_cast, lq_cast, lq_cast, show ((Q : Nat) : Int) = 1073741789 from rfl]
      omega
    · rw [hc, lq_cast, lq_cast, show ((Q : Nat) : Int) = 1073741789 from rfl]
      omega
  rw [← hp]
  rfl
end Frk
