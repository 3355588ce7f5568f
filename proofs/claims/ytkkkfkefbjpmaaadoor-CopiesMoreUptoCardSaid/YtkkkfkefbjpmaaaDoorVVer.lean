/- The program's sign: Verify. -/
import Derived.Test.YtkkkfkefbjpmaaaDoorVSig
import Derived.Laws.BitsLemmas
namespace Frk
open Go Go.RowKit Go.Proofs
set_option maxRecDepth 100000

def inQ (x : Int) : Bool := decide (0 ≤ x) && decide (x < 1073741789)
/-- the point of a signature for a key -/
def sgPoint (key E S : Int) : Nat := mp (pw 4 S) (pw key.toNat (-E))
/-- is a signature right? -/
def vrB (key : Int) (b : Bytes) (E S : Int) : Bool := inQ E && inQ S && vd key && (E == (sgHash (sgPoint key E S) key b : Nat))

theorem inQ_iff (x : Int) : inQ x = true ↔ 0 ≤ x ∧ x < 1073741789 := by unfold inQ; simp
theorem inQ_false (x : Int) : inQ x = false ↔ x < 0 ∨ 1073741789 ≤ x := by unfold inQ; simp; omega

set_option maxHeartbeats 1000000 in
theorem verify_no (key E S : Int) (v : Value) (w : World) (h : (inQ E && inQ S && vd key) = false) :
    Calls Tryd.prog 50 #[.int .i64 key, v, .agg #[.int .i64 E, .int .i64 S]] w fun e w' => e = .returned (.bool false) ∧ Below w.heap.size w w' := by
  have HH : Seal (E < 0 ∨ S < 0 ∨ 1073741789 ≤ E ∨ 1073741789 ≤ S ∨ (0 ≤ E ∧ E < 1073741789 ∧ 0 ≤ S ∧ S < 1073741789 ∧ vd key = false)) := ⟨by
    cases h1 : inQ E
    · rcases (inQ_false E).1 h1 with h | h <;> omega
    · cases h2 : inQ S
      · rcases (inQ_false S).1 h2 with h | h <;> omega
      · have a1 := (inQ_iff E).1 h1
        have a2 := (inQ_iff S).1 h2
        rw [h1, h2] at h
        exact .inr (.inr (.inr (.inr ⟨a1.1, a1.2, a2.1, a2.2, by simpa using h⟩)))⟩
  clear h
  by_cases hES : E ≤ S
  · rcases HH.out with h | h | h | h | ⟨h, h', h'', h3, h4⟩
    ·
      go_enter Tryd.func50, Tryd.ntmps50
      go_wp2_with (go_at_call 84; refine (valid_any _ _).mono ?_; rintro e w' ⟨rfl, rfl⟩)
      all_goals (go_ret; exact ⟨rfl, below_alloc _ _⟩)
    ·
      go_enter Tryd.func50, Tryd.ntmps50
      go_wp2_with (go_at_call 84; refine (valid_any _ _).mono ?_; rintro e w' ⟨rfl, rfl⟩)
      all_goals (go_ret; exact ⟨rfl, below_alloc _ _⟩)
    ·
      go_enter Tryd.func50, Tryd.ntmps50
      go_wp2_with (go_at_call 84; refine (valid_any _ _).mono ?_; rintro e w' ⟨rfl, rfl⟩)
      all_goals (go_ret; exact ⟨rfl, below_alloc _ _⟩)
    ·
      go_enter Tryd.func50, Tryd.ntmps50
      go_wp2_with (go_at_call 84; refine (valid_any _ _).mono ?_; rintro e w' ⟨rfl, rfl⟩)
      all_goals (go_ret; exact ⟨rfl, below_alloc _ _⟩)
    ·
      go_enter Tryd.func50, Tryd.ntmps50
      go_wp2_with (go_at_call 84; refine (valid_any _ _).mono ?_; rintro e w' ⟨rfl, rfl⟩)
      all_goals (go_ret; exact ⟨rfl, below_alloc _ _⟩)
  · rcases HH.out with h | h | h | h | ⟨h, h', h'', h3, h4⟩
    ·
      go_enter Tryd.func50, Tryd.ntmps50
      go_wp2_with (go_at_call 84; refine (valid_any _ _).mono ?_; rintro e w' ⟨rfl, rfl⟩)
      all_goals (go_ret; exact ⟨rfl, below_alloc _ _⟩)
    ·
      go_enter Tryd.func50, Tryd.ntmps50
      go_wp2_with (go_at_call 84; refine (valid_any _ _).mono ?_; rintro e w' ⟨rfl, rfl⟩)
      all_goals (go_ret; exact ⟨rfl, below_alloc _ _⟩)
    ·
      go_enter Tryd.func50, Tryd.ntmps50
      go_wp2_with (go_at_call 84; refine (valid_any _ _).mono ?_; rintro e w' ⟨rfl, rfl⟩)
      all_goals (go_ret; exact ⟨rfl, below_alloc _ _⟩)
    ·
      go_enter Tryd.func50, Tryd.ntmps50
      go_wp2_with (go_at_call 84; refine (valid_any _ _).mono ?_; rintro e w' ⟨rfl, rfl⟩)
      all_goals (go_ret; exact ⟨rfl, below_alloc _ _⟩)
    ·
      go_enter Tryd.func50, Tryd.ntmps50
      go_wp2_with (go_at_call 84; refine (valid_any _ _).mono ?_; rintro e w' ⟨rfl, rfl⟩)
      all_goals (go_ret; exact ⟨rfl, below_alloc _ _⟩)

theorem vd_of_nat {n : Nat} (h : Vd n) : vd (n : Int) = true := (vd_iff n).2 h
theorem vd_pw {a : Int} (h : vd a = true) (n : Int) : vd (pw a.toNat n : Nat) = true := by
  obtain ⟨A, rfl, hA⟩ := vd_of_vd h
  exact vd_of_nat (hA.pw n)

attribute [local irreducible] vd in
set_option maxHeartbeats 2000000 in
theorem verify_yes (key E S : Int) (a : Option Addr) (len cap : Nat) (b : Bytes) (w : World) (hE : 0 ≤ E) (hE2 : E < 1073741789) (hS : 0 ≤ S) (hS2 : S < 1073741789) (hk : vd key = true) (hb : IsB w a len cap b) (hl : len ≤ 1099511627776) (hG : Glob w) :
    Calls Tryd.prog 50 #[.int .i64 key, .slice a len cap, .agg #[.int .i64 E, .int .i64 S]] w fun e w' => e = .returned (.bool (E == (sgHash (sgPoint key E S) key b : Nat))) ∧ Below w.heap.size w w' := by
  have HB := Seal.mk hb
  have HG := Seal.mk hG
  have HKV := Seal.mk hk
  have HL := Seal.mk hb.llen
  have hn1 : -9223372036854775808 ≤ -E := by omega
  have hn2 : -E ≤ 9223372036854775807 := by omega
  have hkr := vd_range hk
  have hk1 := hkr.1
  have hk2 := hkr.2
  clear hb hG hkr
  have h4 : vd 4 = true := by decide +kernel
  have hneg : IntKind.i64.wrap (-E) = -E := by rw [IntKind.wrap_i64]; omega
  have H4S := Seal.mk (vd_pw h4 S)
  have HKE := Seal.mk (vd_pw hk (-E))
  rcases Int.lt_trichotomy E S with hES | hES | hES
  ·
    go_enter Tryd.func50, Tryd.ntmps50
    go_wp2_with (go_at_call 84; refine (valid_any _ _).mono ?_; rintro e w' ⟨rfl, rfl⟩)
    have hB0 : Below w.heap.size w (w.alloc (.cells #[.int .i64 E, .int .i64 S] 27)).drew := (below_alloc w _).drew
    go_region_held3 (fun w' => w'.cell? ⟨w.heap.size, 0, none⟩ = some (.int .i64 E) ∧ w'.cell? ⟨w.heap.size, 1, none⟩ = some (.int .i64 S) ∧ w.heap.size < w'.heap.size ∧ Below w.heap.size w w')
      (first | go_keep | (go_split_ands; exact ⟨(hb4.cell (p := ⟨w.heap.size, 0, none⟩) (by assumption)).trans (by assumption), (hb4.cell (p := ⟨w.heap.size, 1, none⟩) (by assumption)).trans (by assumption), Nat.lt_of_lt_of_le (by assumption) hb4.size, Below.trans (by assumption) (hb4.mono (Nat.le_of_lt (by assumption)))⟩) | (refine ⟨by go_simp, by go_simp, by simp, hB0⟩))
      (first
      | (go_at_call 79; refine (power_yes _ _ _ (by assumption) (by omega) (by omega)).mono ?_; rintro e w4 ⟨rfl, hb4⟩)
      | (go_at_call 85; refine (mul_yes _ _ _ (by first | exact H4S.out | exact HKE.out) (by first | exact H4S.out | exact HKE.out)).mono ?_; rintro e w5 ⟨rfl, rfl⟩))
    go_split_ands
    have HB4 : Below w.heap.size w w4 := by assumption
    have d0 : w4.cell? ⟨w.heap.size, 0, none⟩ = some (.int .i64 E) := by assumption
    have z4 : w.heap.size < w4.heap.size := by assumption
    have hpp : mp (pw 4 S) (pw key.toNat (-E)) < 2147483579 := mp_lt _ _
    have HPT : Seal (sgPoint key E S = mp (pw 4 S) (pw key.toNat (-E))) := ⟨rfl⟩
    generalize mp (pw 4 S) (pw key.toNat (-E)) = p at *
    have HIB := Seal.mk (HB.out.below HB4)
    have HGB := Seal.mk (HG.out.below HB4)
    have HBB := Seal.mk HB4
    have HQ : Seal ((sgHash (p : Int) key b : Nat) = ghash tSign (encL ([Arg.i p, Arg.i key, Arg.s a len cap b].map Arg.lf))) := ⟨rfl⟩
    have hge := ghash_lt tSign (encL ([Arg.i p, Arg.i key, Arg.s a len cap b].map Arg.lf))
    go_wp2_with fail
    go_region_held3 (fun w' => w'.cell? ⟨w.heap.size, 0, none⟩ = some (.int .i64 E))
      (first | go_keep | exact (hbH.out.cell (p := ⟨w.heap.size, 0, none⟩) z6).trans d6 | exact d6)
      (first
      | (go_at_call 78; refine (list_new [.i p, .i key, .s a len cap b] 3 w4.heap.size w4.drew rfl rfl (by decide) (by decide) (by
          intro y hy
          simp only [List.mem_cons, List.not_mem_nil, or_false] at hy
          rcases hy with rfl | rfl | rfl
          · exact ⟨by omega, by omega⟩
          · exact ⟨by omega, by omega⟩
          · exact HIB.out.below ((Below.refl _ _).drew)) (by
          have := HL.out
          simp [wgts, Lf.wgt, Arg.lf]; omega)).mono ?_; rintro e w6 ⟨g6, n6, c6, hn6, rfl, hf6⟩
         have hbL : Seal (Below w4.heap.size w4 w6) := ⟨((Below.refl w4.heap.size w4).drew).trans hf6.out.2.2.2.2⟩
         have d6 := (hbL.out.cell (p := ⟨w.heap.size, 0, none⟩) z4).trans d0
         have z6 : w.heap.size < w6.heap.size := Nat.lt_of_lt_of_le z4 hbL.out.size
         have hn6' := encL_length ([Arg.i p, Arg.i key, Arg.s a len cap b].map Arg.lf)
         rw [hn6.out, show wgts ([Arg.i p, Arg.i key, Arg.s a len cap b].map Arg.lf) = len + 33 from by have := HL.out; simp [wgts, Lf.wgt, Arg.lf]; omega] at hn6')
      | (go_at_call 77; refine (hash_new tSign _ g6 n6 c6 w6 (HGB.out.below hbL.out) (by decide) (by decide) hn6.out ⟨hf6.out.1, hf6.out.2.1, hf6.out.2.2.1, hf6.out.2.2.2.1⟩ (by omega)).mono ?_; rintro e w7 ⟨rfl, hbH'⟩; have hbH := Seal.mk hbH'; clear hbH'))
    go_wp2
    go_ret
    exact ⟨ret_bool (by rw [HPT.out, HQ.out]; rfl), HBB.out.trans (hbL.out.trans (hbH.out.mono hbL.out.size) |>.mono HBB.out.size)⟩
  ·
    have hES1 : E ≤ S := by omega
    have hES2 : S ≤ E := by omega
    clear hES
    go_enter Tryd.func50, Tryd.ntmps50
    go_wp2_with (go_at_call 84; refine (valid_any _ _).mono ?_; rintro e w' ⟨rfl, rfl⟩)
    have hB0 : Below w.heap.size w (w.alloc (.cells #[.int .i64 E, .int .i64 S] 27)).drew := (below_alloc w _).drew
    go_region_held3 (fun w' => w'.cell? ⟨w.heap.size, 0, none⟩ = some (.int .i64 E) ∧ w'.cell? ⟨w.heap.size, 1, none⟩ = some (.int .i64 S) ∧ w.heap.size < w'.heap.size ∧ Below w.heap.size w w')
      (first | go_keep | (go_split_ands; exact ⟨(hb4.cell (p := ⟨w.heap.size, 0, none⟩) (by assumption)).trans (by assumption), (hb4.cell (p := ⟨w.heap.size, 1, none⟩) (by assumption)).trans (by assumption), Nat.lt_of_lt_of_le (by assumption) hb4.size, Below.trans (by assumption) (hb4.mono (Nat.le_of_lt (by assumption)))⟩) | (refine ⟨by go_simp, by go_simp, by simp, hB0⟩))
      (first
      | (go_at_call 79; refine (power_yes _ _ _ (by assumption) (by omega) (by omega)).mono ?_; rintro e w4 ⟨rfl, hb4⟩)
      | (go_at_call 85; refine (mul_yes _ _ _ (by first | exact H4S.out | exact HKE.out) (by first | exact H4S.out | exact HKE.out)).mono ?_; rintro e w5 ⟨rfl, rfl⟩))
    go_split_ands
    have HB4 : Below w.heap.size w w4 := by assumption
    have d0 : w4.cell? ⟨w.heap.size, 0, none⟩ = some (.int .i64 E) := by assumption
    have z4 : w.heap.size < w4.heap.size := by assumption
    have hpp : mp (pw 4 S) (pw key.toNat (-E)) < 2147483579 := mp_lt _ _
    have HPT : Seal (sgPoint key E S = mp (pw 4 S) (pw key.toNat (-E))) := ⟨rfl⟩
    generalize mp (pw 4 S) (pw key.toNat (-E)) = p at *
    have HIB := Seal.mk (HB.out.below HB4)
    have HGB := Seal.mk (HG.out.below HB4)
    have HBB := Seal.mk HB4
    have HQ : Seal ((sgHash (p : Int) key b : Nat) = ghash tSign (encL ([Arg.i p, Arg.i key, Arg.s a len cap b].map Arg.lf))) := ⟨rfl⟩
    have hge := ghash_lt tSign (encL ([Arg.i p, Arg.i key, Arg.s a len cap b].map Arg.lf))
    go_wp2_with fail
    go_region_held3 (fun w' => w'.cell? ⟨w.heap.size, 0, none⟩ = some (.int .i64 E))
      (first | go_keep | exact (hbH.out.cell (p := ⟨w.heap.size, 0, none⟩) z6).trans d6 | exact d6)
      (first
      | (go_at_call 78; refine (list_new [.i p, .i key, .s a len cap b] 3 w4.heap.size w4.drew rfl rfl (by decide) (by decide) (by
          intro y hy
          simp only [List.mem_cons, List.not_mem_nil, or_false] at hy
          rcases hy with rfl | rfl | rfl
          · exact ⟨by omega, by omega⟩
          · exact ⟨by omega, by omega⟩
          · exact HIB.out.below ((Below.refl _ _).drew)) (by
          have := HL.out
          simp [wgts, Lf.wgt, Arg.lf]; omega)).mono ?_; rintro e w6 ⟨g6, n6, c6, hn6, rfl, hf6⟩
         have hbL : Seal (Below w4.heap.size w4 w6) := ⟨((Below.refl w4.heap.size w4).drew).trans hf6.out.2.2.2.2⟩
         have d6 := (hbL.out.cell (p := ⟨w.heap.size, 0, none⟩) z4).trans d0
         have z6 : w.heap.size < w6.heap.size := Nat.lt_of_lt_of_le z4 hbL.out.size
         have hn6' := encL_length ([Arg.i p, Arg.i key, Arg.s a len cap b].map Arg.lf)
         rw [hn6.out, show wgts ([Arg.i p, Arg.i key, Arg.s a len cap b].map Arg.lf) = len + 33 from by have := HL.out; simp [wgts, Lf.wgt, Arg.lf]; omega] at hn6')
      | (go_at_call 77; refine (hash_new tSign _ g6 n6 c6 w6 (HGB.out.below hbL.out) (by decide) (by decide) hn6.out ⟨hf6.out.1, hf6.out.2.1, hf6.out.2.2.1, hf6.out.2.2.2.1⟩ (by omega)).mono ?_; rintro e w7 ⟨rfl, hbH'⟩; have hbH := Seal.mk hbH'; clear hbH'))
    go_wp2
    go_ret
    exact ⟨ret_bool (by rw [HPT.out, HQ.out]; rfl), HBB.out.trans (hbL.out.trans (hbH.out.mono hbL.out.size) |>.mono HBB.out.size)⟩
  ·
    go_enter Tryd.func50, Tryd.ntmps50
    go_wp2_with (go_at_call 84; refine (valid_any _ _).mono ?_; rintro e w' ⟨rfl, rfl⟩)
    have hB0 : Below w.heap.size w (w.alloc (.cells #[.int .i64 E, .int .i64 S] 27)).drew := (below_alloc w _).drew
    go_region_held3 (fun w' => w'.cell? ⟨w.heap.size, 0, none⟩ = some (.int .i64 E) ∧ w'.cell? ⟨w.heap.size, 1, none⟩ = some (.int .i64 S) ∧ w.heap.size < w'.heap.size ∧ Below w.heap.size w w')
      (first | go_keep | (go_split_ands; exact ⟨(hb4.cell (p := ⟨w.heap.size, 0, none⟩) (by assumption)).trans (by assumption), (hb4.cell (p := ⟨w.heap.size, 1, none⟩) (by assumption)).trans (by assumption), Nat.lt_of_lt_of_le (by assumption) hb4.size, Below.trans (by assumption) (hb4.mono (Nat.le_of_lt (by assumption)))⟩) | (refine ⟨by go_simp, by go_simp, by simp, hB0⟩))
      (first
      | (go_at_call 79; refine (power_yes _ _ _ (by assumption) (by omega) (by omega)).mono ?_; rintro e w4 ⟨rfl, hb4⟩)
      | (go_at_call 85; refine (mul_yes _ _ _ (by first | exact H4S.out | exact HKE.out) (by first | exact H4S.out | exact HKE.out)).mono ?_; rintro e w5 ⟨rfl, rfl⟩))
    go_split_ands
    have HB4 : Below w.heap.size w w4 := by assumption
    have d0 : w4.cell? ⟨w.heap.size, 0, none⟩ = some (.int .i64 E) := by assumption
    have z4 : w.heap.size < w4.heap.size := by assumption
    have hpp : mp (pw 4 S) (pw key.toNat (-E)) < 2147483579 := mp_lt _ _
    have HPT : Seal (sgPoint key E S = mp (pw 4 S) (pw key.toNat (-E))) := ⟨rfl⟩
    generalize mp (pw 4 S) (pw key.toNat (-E)) = p at *
    have HIB := Seal.mk (HB.out.below HB4)
    have HGB := Seal.mk (HG.out.below HB4)
    have HBB := Seal.mk HB4
    have HQ : Seal ((sgHash (p : Int) key b : Nat) = ghash tSign (encL ([Arg.i p, Arg.i key, Arg.s a len cap b].map Arg.lf))) := ⟨rfl⟩
    have hge := ghash_lt tSign (encL ([Arg.i p, Arg.i key, Arg.s a len cap b].map Arg.lf))
    go_wp2_with fail
    go_region_held3 (fun w' => w'.cell? ⟨w.heap.size, 0, none⟩ = some (.int .i64 E))
      (first | go_keep | exact (hbH.out.cell (p := ⟨w.heap.size, 0, none⟩) z6).trans d6 | exact d6)
      (first
      | (go_at_call 78; refine (list_new [.i p, .i key, .s a len cap b] 3 w4.heap.size w4.drew rfl rfl (by decide) (by decide) (by
          intro y hy
          simp only [List.mem_cons, List.not_mem_nil, or_false] at hy
          rcases hy with rfl | rfl | rfl
          · exact ⟨by omega, by omega⟩
          · exact ⟨by omega, by omega⟩
          · exact HIB.out.below ((Below.refl _ _).drew)) (by
          have := HL.out
          simp [wgts, Lf.wgt, Arg.lf]; omega)).mono ?_; rintro e w6 ⟨g6, n6, c6, hn6, rfl, hf6⟩
         have hbL : Seal (Below w4.heap.size w4 w6) := ⟨((Below.refl w4.heap.size w4).drew).trans hf6.out.2.2.2.2⟩
         have d6 := (hbL.out.cell (p := ⟨w.heap.size, 0, none⟩) z4).trans d0
         have z6 : w.heap.size < w6.heap.size := Nat.lt_of_lt_of_le z4 hbL.out.size
         have hn6' := encL_length ([Arg.i p, Arg.i key, Arg.s a len cap b].map Arg.lf)
         rw [hn6.out, show wgts ([Arg.i p, Arg.i key, Arg.s a len cap b].map Arg.lf) = len + 33 from by have := HL.out; simp [wgts, Lf.wgt, Arg.lf]; omega] at hn6')
      | (go_at_call 77; refine (hash_new tSign _ g6 n6 c6 w6 (HGB.out.below hbL.out) (by decide) (by decide) hn6.out ⟨hf6.out.1, hf6.out.2.1, hf6.out.2.2.1, hf6.out.2.2.2.1⟩ (by omega)).mono ?_; rintro e w7 ⟨rfl, hbH'⟩; have hbH := Seal.mk hbH'; clear hbH'))
    go_wp2
    go_ret
    exact ⟨ret_bool (by rw [HPT.out, HQ.out]; rfl), HBB.out.trans (hbL.out.trans (hbH.out.mono hbL.out.size) |>.mono HBB.out.size)⟩

/-- Verify, whatever it is called with -/
theorem verify_any (key E S : Int) (a : Option Addr) (len cap : Nat) (b : Bytes) (w : World) (hb : IsB w a len cap b) (hl : len ≤ 1099511627776) (hG : Glob w) :
    Calls Tryd.prog 50 #[.int .i64 key, .slice a len cap, .agg #[.int .i64 E, .int .i64 S]] w fun e w' => e = .returned (.bool (vrB key b E S)) ∧ Below w.heap.size w w' := by
  cases h : (inQ E && inQ S && vd key) with
  | false =>
    refine (verify_no key E S (.slice a len cap) w h).mono ?_
    rintro e w' ⟨rfl, hb⟩
    exact ⟨ret_bool (by unfold vrB; rw [h]; rfl), hb⟩
  | true =>
    simp only [Bool.and_eq_true] at h
    obtain ⟨⟨h1, h2⟩, h3⟩ := h
    have a1 := (inQ_iff E).1 h1
    have a2 := (inQ_iff S).1 h2
    refine (verify_yes key E S a len cap b w a1.1 a1.2 a2.1 a2.2 h3 hb hl hG).mono ?_
    rintro e w' ⟨rfl, hb⟩
    exact ⟨ret_bool (by unfold vrB; rw [h1, h2, h3]; rfl), hb⟩
end Frk
