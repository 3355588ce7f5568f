/- The program's blind: numbers, elements, the point and the hash. -/
import Derived.Test.YtbifjlejelcicaaDoorPnt
namespace Frk
open Go Go.RowKit Go.Proofs
set_option maxRecDepth 100000

def secB (n : Int) : Bool := decide (0 < n) && decide (n < 1073741789)

theorem secret_yes (n : Int) (w : World) (h : 0 < n) (h2 : n < 1073741789) : Calls Tryd.prog 58 #[.int .i64 n] w fun e w' => e = .returned (.bool true) ∧ w = w' := by
  go_enter Tryd.func58, Tryd.ntmps58
  go_wp2
  go_ret
  exact ⟨ret_bool (by first | (simp; done) | (simp; omega)), rfl⟩

theorem secret_no (n : Int) (w : World) (h : n ≤ 0 ∨ 1073741789 ≤ n) : Calls Tryd.prog 58 #[.int .i64 n] w fun e w' => e = .returned (.bool false) ∧ w = w' := by
  rcases h with h | h
  · go_enter Tryd.func58, Tryd.ntmps58
    go_wp2
    go_ret
    exact ⟨ret_bool (by first | (simp; done) | (simp; omega)), rfl⟩
  · have h' : 0 < n := by omega
    go_enter Tryd.func58, Tryd.ntmps58
    go_wp2
    go_ret
    exact ⟨ret_bool (by first | (simp; done) | (simp; omega)), rfl⟩

theorem secret_any (n : Int) (w : World) : Calls Tryd.prog 58 #[.int .i64 n] w fun e w' => e = .returned (.bool (secB n)) ∧ w = w' := by
  unfold secB
  by_cases h : 0 < n
  · by_cases h2 : n < 1073741789
    · rw [decide_eq_true h, decide_eq_true h2]; exact secret_yes n w h h2
    · rw [decide_eq_true h, decide_eq_false h2]; exact secret_no n w (by omega)
  · rw [decide_eq_false h]; exact secret_no n w (by omega)

theorem bmod_any (n : Int) (w : World) : Calls Tryd.prog 61 #[.int .i64 n] w fun e w' => e = .returned (.int .i64 (lq n)) ∧ w = w' := by
  have HL := Seal.mk (tmod_lq n)
  have hb1 : -1073741789 < n.tmod 1073741789 := Int.lt_tmod_of_pos n (by decide)
  have hb2 : n.tmod 1073741789 < 1073741789 := Int.tmod_lt_of_pos n (by decide)
  by_cases h : 0 ≤ n
  · have HL2 : Seal ((n % 1073741789 + 1073741789) % 1073741789 = ((lq n : Nat) : Int)) := ⟨by rw [lq_cast, Int.add_emod_right, Int.emod_emod_of_dvd _ (Int.dvd_refl _)]; rfl⟩
    have h3 : 0 ≤ n % 1073741789 := Int.emod_nonneg _ (by decide)
    have h4 : n % 1073741789 < 1073741789 := Int.emod_lt_of_pos _ (by decide)
    go_enter Tryd.func61, Tryd.ntmps61
    go_wp2
    go_ret
    exact ⟨ret_i64 HL2.out, rfl⟩
  · have h' : n < 0 := by omega
    go_enter Tryd.func61, Tryd.ntmps61
    go_wp2
    go_ret
    exact ⟨ret_i64 (by rw [← HL.out, Int.add_emod_right]), rfl⟩

set_option maxHeartbeats 400000 in
theorem elements_two (g off cap : Nat) (a b : Int) (w : World) (ha : w.cell? ⟨g, off, none⟩ = some (.int .i64 a)) (hb : w.cell? ⟨g, off + 1, none⟩ = some (.int .i64 b)) :
    Calls Tryd.prog 60 #[.slice (some ⟨g, off, none⟩) 2 cap] w fun e w' => e = .returned (.bool (vd a && vd b)) ∧ w = w' := by
  have ha0 : w.cell? ⟨g, off + 0, none⟩ = some (.int .i64 a) := ha
  cases h1 : vd a with
  | false =>
    go_enter Tryd.func60, Tryd.ntmps60
    go_wp2
    refine wp_loop_rounds 3 ?_
    rw [rounds_succ]
    go_wp2_with (go_at_call 19; refine (valid_any _ _).mono ?_; rintro e w' ⟨rfl, rfl⟩)
    go_ret
    exact ⟨ret_bool (by simp), rfl⟩
  | true =>
    cases h2 : vd b with
    | false =>
      go_enter Tryd.func60, Tryd.ntmps60
      go_wp2
      refine wp_loop_rounds 3 ?_
      rw [rounds_succ]
      go_wp2_with (go_at_call 19; refine (valid_any _ _).mono ?_; rintro e w' ⟨rfl, rfl⟩)
      rw [rounds_succ]
      go_wp2_with (go_at_call 19; refine (valid_any _ _).mono ?_; rintro e w' ⟨rfl, rfl⟩)
      go_ret
      exact ⟨ret_bool (by simp), rfl⟩
    | true =>
      go_enter Tryd.func60, Tryd.ntmps60
      go_wp2
      refine wp_loop_rounds 3 ?_
      rw [rounds_succ]
      go_wp2_with (go_at_call 19; refine (valid_any _ _).mono ?_; rintro e w' ⟨rfl, rfl⟩)
      rw [rounds_succ]
      go_wp2_with (go_at_call 19; refine (valid_any _ _).mono ?_; rintro e w' ⟨rfl, rfl⟩)
      rw [rounds_succ]
      go_wp2
      go_ret
      exact ⟨ret_bool (by simp), rfl⟩

/-- the blinded point -/
def blPoint (key r u v : Int) : Nat := mp r.toNat (mp (pw 4 u) (pw key.toNat v))
def blHash (key r : Int) (b : Bytes) (u v : Int) : Nat := sgHash (blPoint key r u v) key b

set_option maxHeartbeats 1000000 in
theorem bpoint_yes (key r u v : Int) (w : World) (hk : vd key = true) (hr : vd r = true) (u1 : -9223372036854775808 ≤ u) (u2 : u ≤ 9223372036854775807) (v1 : -9223372036854775808 ≤ v) (v2 : v ≤ 9223372036854775807) :
    Calls Tryd.prog 64 #[.agg #[.int .i64 key, .int .i64 r], .int .i64 u, .int .i64 v] w fun e w' => e = .returned (.int .i64 (blPoint key r u v : Nat)) ∧ Below w.heap.size w w' := by
  have h4 : vd 4 = true := by decide +kernel
  have H4S := Seal.mk (vd_pw h4 u)
  have HKE := Seal.mk (vd_pw hk v)
  have HK := Seal.mk hk
  have HRR := Seal.mk hr
  have HP : Seal (blPoint key r u v = mp r.toNat (mp (pw 4 u) (pw key.toNat v))) := ⟨rfl⟩
  have HM : Seal (vd (mp (pw 4 u) (pw key.toNat v) : Nat) = true) := ⟨by
    have a1 := (vd_iff _).1 H4S.out
    have a2 := (vd_iff _).1 HKE.out
    exact vd_of_nat (a1.mp a2)⟩
  have HR0 : Seal ((w.alloc (.cells #[.int .i64 key, .int .i64 r] 83)).heap[w.heap.size]? = some (.cells #[.int .i64 key, .int .i64 r] 83)) := ⟨heap_alloc_new w _⟩
  have HB0 := Seal.mk (below_alloc w (.cells #[.int .i64 key, .int .i64 r] 83))
  clear hk hr
  go_enter Tryd.func64, Tryd.ntmps64
  go_wp2_with fail
  refine (pow_yes 4 u _ (by decide +kernel) (by omega) (by omega)).mono ?_
  rintro e w2 ⟨rfl, hb⟩
  have HR2 := Seal.mk (blk hb (Array.getElem?_eq_some_iff.1 HR0.out).1 HR0.out)
  have HB2 := Seal.mk (HB0.out.trans (hb.mono HB0.out.size))
  clear hb HR0 HB0
  have c0 : w2.cell? ⟨w.heap.size, 0, none⟩ = some (.int .i64 key) := by rw [cell_of_row _ _ _ _ _ _ HR2.out]; rfl
  go_wp2_with fail
  refine (pow_yes key v _ HK.out (by omega) (by omega)).mono ?_
  rintro e w3 ⟨rfl, hb⟩
  have HR3 := Seal.mk (blk hb (Array.getElem?_eq_some_iff.1 HR2.out).1 HR2.out)
  have HB3 := Seal.mk (HB2.out.trans (hb.mono HB2.out.size))
  clear hb HR2 HB2 c0
  have c1 : w3.cell? ⟨w.heap.size, 1, none⟩ = some (.int .i64 r) := by rw [cell_of_row _ _ _ _ _ _ HR3.out]; rfl
  go_wp2_with fail
  refine (mul_yes _ _ _ H4S.out HKE.out).mono ?_
  rintro e w4 ⟨rfl, rfl⟩
  go_wp2_with fail
  refine (mul_yes _ _ _ HRR.out HM.out).mono ?_
  rintro e w4 ⟨rfl, rfl⟩
  go_wp2_with fail
  go_ret
  exact ⟨ret_i64 (by rw [HP.out]), HB3.out⟩

/-- in any world that has the text, it reads as a string -/
def Conv (w : World) (a : Option Addr) (len cap : Nat) (b : Bytes) : Prop := (convert 22 9 (.slice a len cap)).run Tryd.prog w = .ok (.string ⟨b.toArray⟩) w

theorem blPoint_lt (key r u v : Int) : blPoint key r u v < 2147483579 := mp_lt _ _

theorem bpoint_eq (key r u v p : Int) (w : World) (hp : Seal (((blPoint key r u v : Nat) : Int) = p)) (hk : vd key = true) (hr : vd r = true) (u1 : -9223372036854775808 ≤ u) (u2 : u ≤ 9223372036854775807) (v1 : -9223372036854775808 ≤ v) (v2 : v ≤ 9223372036854775807) :
    Calls Tryd.prog 64 #[.agg #[.int .i64 key, .int .i64 r], .int .i64 u, .int .i64 v] w fun e w' => e = .returned (.int .i64 p) ∧ Below w.heap.size w w' := by
  rw [← hp.out]; exact bpoint_yes key r u v w hk hr u1 u2 v1 v2

theorem askedS {w : World} {a : Option Addr} {len cap g : Nat} {b : Bytes} {key r u v : Int} (h : Env w a len cap b [(g, .cells #[.int .i64 key, .int .i64 r, .slice a len cap, .int .i64 u, .int .i64 v] 85)]) :
    (w.cell? ⟨g, 0, none⟩ = some (.int .i64 key) ∧ w.cell? ⟨g, 1, none⟩ = some (.int .i64 r) ∧ w.cell? ⟨g, 2, none⟩ = some (.slice a len cap) ∧ w.cell? ⟨g, 3, none⟩ = some (.int .i64 u) ∧ w.cell? ⟨g, 4, none⟩ = some (.int .i64 v)) ∧
      (convert 22 9 (.slice a len cap)).run Tryd.prog w = .ok (.string ⟨b.toArray⟩) w :=
  ⟨⟨h.cell (List.mem_singleton.2 rfl) rfl, h.cell (List.mem_singleton.2 rfl) rfl, h.cell (List.mem_singleton.2 rfl) rfl, h.cell (List.mem_singleton.2 rfl) rfl, h.cell (List.mem_singleton.2 rfl) rfl⟩, IsB.conv h.isb⟩

set_option maxHeartbeats 2000000 in
theorem bhash_yes (key r u v : Int) (a : Option Addr) (len cap : Nat) (b : Bytes) (w : World) (hk : vd key = true) (hr : vd r = true) (u1 : -9223372036854775808 ≤ u) (u2 : u ≤ 9223372036854775807) (v1 : -9223372036854775808 ≤ v) (v2 : v ≤ 9223372036854775807)
    (hb : IsB w a len cap b) (hl : len ≤ 1099511627776) (hG : Glob w) :
    Calls Tryd.prog 62 #[.agg #[.int .i64 key, .int .i64 r, .slice a len cap, .int .i64 u, .int .i64 v]] w fun e w' => e = .returned (.int .i64 (blHash key r b u v : Nat)) ∧ Below w.heap.size w w' := by
  have HK := Seal.mk hk
  have HRR := Seal.mk hr
  have HE1 : Seal (Env (w.alloc (.cells #[.int .i64 key, .int .i64 r, .slice a len cap, .int .i64 u, .int .i64 v] 85)) a len cap b [(w.heap.size, .cells #[.int .i64 key, .int .i64 r, .slice a len cap, .int .i64 u, .int .i64 v] 85)]) := ⟨(Env.mk hG hb (by intro p hp; cases hp) : Env w a len cap b []).push _⟩
  have HB1 := Seal.mk (below_alloc w (.cells #[.int .i64 key, .int .i64 r, .slice a len cap, .int .i64 u, .int .i64 v] 85))
  have HL := Seal.mk hb.llen
  obtain ⟨p, hp⟩ : ∃ p : Int, Seal (((blPoint key r u v : Nat) : Int) = p) := ⟨_, ⟨rfl⟩⟩
  have hp0 : 0 ≤ p := by have := hp.out; omega
  have hp9 : p < 2147483579 := by have := hp.out; have := blPoint_lt key r u v; omega
  have hkr := vd_range hk
  obtain ⟨hk0, hk9⟩ := hkr
  have hcv : (convert 22 9 (.slice a len cap)).run Tryd.prog (w.alloc (.cells #[.int .i64 key, .int .i64 r, .slice a len cap, .int .i64 u, .int .i64 v] 85)).drew = .ok (.string ⟨b.toArray⟩) (w.alloc (.cells #[.int .i64 key, .int .i64 r, .slice a len cap, .int .i64 u, .int .i64 v] 85)).drew :=
    IsB.conv (HE1.out.isb.below (Below.refl _ _).drew)
  clear hk hr hb hG
  go_enter Tryd.func62, Tryd.ntmps62
  go_wp2_with fail
  go_region_held3 (fun w' => (w'.cell? ⟨w.heap.size, 0, none⟩ = some (.int .i64 key) ∧ w'.cell? ⟨w.heap.size, 1, none⟩ = some (.int .i64 r) ∧ w'.cell? ⟨w.heap.size, 2, none⟩ = some (.slice a len cap) ∧ w'.cell? ⟨w.heap.size, 3, none⟩ = some (.int .i64 u) ∧ w'.cell? ⟨w.heap.size, 4, none⟩ = some (.int .i64 v)) ∧
      (convert 22 9 (.slice a len cap)).run Tryd.prog w' = .ok (.string ⟨b.toArray⟩) w')
    (first | (go_keep; done) | exact askedS HE6.out | exact askedS HE4.out | exact askedS (HE4.out.below (below_alloc w4 _)))
    (first
    | (go_at_call 64; refine (bpoint_eq key r u v p _ hp HK.out HRR.out (by omega) (by omega) (by omega) (by omega)).mono ?_; rintro e w4 ⟨rfl, hb⟩
       have hb4 : Below (w.alloc (.cells #[.int .i64 key, .int .i64 r, .slice a len cap, .int .i64 u, .int .i64 v] 85)).heap.size (w.alloc (.cells #[.int .i64 key, .int .i64 r, .slice a len cap, .int .i64 u, .int .i64 v] 85)) w4 := ((Below.refl _ _).drew).trans hb
       have HE4 := Seal.mk (HE1.out.below hb4)
       have HB4 := Seal.mk (HB1.out.trans (hb4.mono HB1.out.size))
       clear hb hb4)
    | (go_at_call 21; refine (encode_new [.i p, .i key, .t b] 3 w4.heap.size w4 rfl rfl (by decide) (by
        intro y hy
        simp only [List.mem_cons, List.not_mem_nil, or_false] at hy
        rcases hy with rfl | rfl | rfl
        · exact ⟨by omega, by omega⟩
        · exact ⟨by omega, by omega⟩
        · show b.length < 2 ^ 63
          rw [HL.out]; omega) (by
        have := HL.out
        simp [wgts, Lf.wgt]; omega)).mono ?_; rintro e w6 ⟨g6, n6, cap6, hn6, rfl, hf6⟩
       have HE6 := Seal.mk (HE4.out.below hf6.out.2.2.2.2)
       have HB6 := Seal.mk (HB4.out.trans (hf6.out.2.2.2.2.mono HB4.out.size))))
  have hn6' := encL_length [.i p, .i key, .t b]
  rw [hn6.out, show wgts [.i p, .i key, .t b] = len + 33 from by have := HL.out; simp [wgts, Lf.wgt]; omega] at hn6'
  have HQ : Seal (blHash key r b u v = ghash tSign (encL [.i p, .i key, .t b])) := ⟨by unfold blHash; rw [hp.out]; rfl⟩
  go_wp2_with fail
  refine (hash_new tSign _ g6 n6 cap6 _ HE6.out.glob (by decide) (by decide) hn6.out ⟨hf6.out.1, hf6.out.2.1, hf6.out.2.2.1, hf6.out.2.2.2.1⟩ (by omega)).mono ?_
  rintro e w7 ⟨rfl, hb7⟩
  have HB7 := Seal.mk (HB6.out.trans (hb7.mono HB6.out.size))
  clear hb7
  go_wp2
  go_ret
  exact ⟨ret_i64 (by rw [HQ.out]), HB7.out⟩
end Frk
