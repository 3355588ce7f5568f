/- Hand-overs: between, formed, slotOf. -/
import Derived.Test.YtkkkfkefbjpmaaaDoorVGen
import Derived.Test.YtkkkfkefbjpmaaaDoorVEnv
import Derived.Test.YtkkkfkefbjpmaaaDoorVHaa
import Derived.Test.YtkkkfkefbjpmaaaDoorVRsg
import Derived.BigQuiet
import Derived.Test.YtkkkfkefbjpmaaaDoorVVer
import Derived.WalkSpells
namespace Frk
open Go Go.RowKit Go.Proofs
set_option maxRecDepth 100000

/-- a hand-over -/
structure Hd where
  (L A R leg fr to mn : Int)
  T : Bytes
  (tm E S : Int)

/-- its cells -/
def Hd.C (h : Hd) : List Value := ([.int .i64 h.L, .int .i64 h.A, .int .i64 h.R, .int .i64 h.leg, .int .i64 h.fr, .int .i64 h.to, .int .i64 h.mn] ++ h.T.map B) ++ [.int .i64 h.tm, .int .i64 h.E, .int .i64 h.S]
structure Hd.ok (h : Hd) : Prop where
  t32 : h.T.length = 32
  iL : I64 h.L
  iA : I64 h.A
  iR : I64 h.R
  ileg : I64 h.leg
  ifr : I64 h.fr
  ito : I64 h.to
  imn : I64 h.mn
  itm : I64 h.tm

theorem Hd.C_len {h : Hd} (k : h.T.length = 32) : h.C.length = 42 := by simp [Hd.C, k]
theorem Hd.C_one (h : Hd) : ∀ u ∈ h.C, u.oneCell' = true := by
  intro u hu
  unfold Hd.C at hu
  simp only [List.mem_append, List.mem_cons, List.not_mem_nil, or_false, List.mem_map] at hu
  rcases hu with ((rfl | rfl | rfl | rfl | rfl | rfl | rfl) | ⟨b, _, rfl⟩) | (rfl | rfl | rfl) <;> rfl
theorem Hd.C_info {h : Hd} (k : h.T.length = 32) : (Tryd.prog.info? 29).map (·.size) = some h.C.length := by rw [Hd.C_len k]; kernel_rfl
theorem Hd.C_lo (h : Hd) : h.C[0]? = some (.int .i64 h.L) ∧ h.C[1]? = some (.int .i64 h.A) ∧ h.C[2]? = some (.int .i64 h.R) ∧ h.C[3]? = some (.int .i64 h.leg) ∧ h.C[4]? = some (.int .i64 h.fr) ∧ h.C[5]? = some (.int .i64 h.to) ∧ h.C[6]? = some (.int .i64 h.mn) := ⟨rfl, rfl, rfl, rfl, rfl, rfl, rfl⟩
theorem Hd.C_hi {h : Hd} (k : h.T.length = 32) : h.C[39]? = some (.int .i64 h.tm) ∧ h.C[40]? = some (.int .i64 h.E) ∧ h.C[41]? = some (.int .i64 h.S) := by
  have hl : ([.int .i64 h.L, .int .i64 h.A, .int .i64 h.R, .int .i64 h.leg, .int .i64 h.fr, .int .i64 h.to, .int .i64 h.mn] ++ h.T.map B : List Value).length = 39 := by simp [k]
  unfold Hd.C
  refine ⟨?_, ?_, ?_⟩
  · rw [List.getElem?_append_right (by rw [hl]; decide), hl]; rfl
  · rw [List.getElem?_append_right (by rw [hl]; decide), hl]; rfl
  · rw [List.getElem?_append_right (by rw [hl]; decide), hl]; rfl
theorem Hd.C_text {h : Hd} (k : h.T.length = 32) : (h.C.drop 7).take 32 = h.T.map B := by
  unfold Hd.C
  rw [List.append_assoc, List.drop_append, List.drop_of_length_le (by simp)]
  simp only [List.length_cons, List.length_nil, Nat.sub_self, List.drop_zero, List.nil_append]
  rw [List.take_left' (by rw [List.length_map, k])]

/-- the cells of a hand-over that lies in a block -/
structure HdAt (w : World) (g : Nat) (h : Hd) : Prop where
  c0 : w.cell? ⟨g, 0, none⟩ = some (.int .i64 h.L)
  c1 : w.cell? ⟨g, 1, none⟩ = some (.int .i64 h.A)
  c2 : w.cell? ⟨g, 2, none⟩ = some (.int .i64 h.R)
  c3 : w.cell? ⟨g, 3, none⟩ = some (.int .i64 h.leg)
  c4 : w.cell? ⟨g, 4, none⟩ = some (.int .i64 h.fr)
  c5 : w.cell? ⟨g, 5, none⟩ = some (.int .i64 h.to)
  c6 : w.cell? ⟨g, 6, none⟩ = some (.int .i64 h.mn)
  c39 : w.cell? ⟨g, 39, none⟩ = some (.int .i64 h.tm)
  c40 : w.cell? ⟨g, 40, none⟩ = some (.int .i64 h.E)
  c41 : w.cell? ⟨g, 41, none⟩ = some (.int .i64 h.S)
  txt : w.rangeAt g 7 (h.T.map B)
theorem hdAt_of {w : World} {g : Nat} {h : Hd} (k : h.T.length = 32) {t : TypeId} {fr : Nat × Nat} (hg : w.heap[g]? = some (.cells h.C.toArray t fr)) : HdAt w g h := by
  have hc : ∀ i v, h.C[i]? = some v → w.cell? ⟨g, i, none⟩ = some v := fun i v hv => by rw [cell_of_row _ _ _ _ _ _ hg]; simpa using hv
  obtain ⟨a0, a1, a2, a3, a4, a5, a6⟩ := Hd.C_lo h
  obtain ⟨b0, b1, b2⟩ := Hd.C_hi k
  refine ⟨hc _ _ a0, hc _ _ a1, hc _ _ a2, hc _ _ a3, hc _ _ a4, hc _ _ a5, hc _ _ a6, hc _ _ b0, hc _ _ b1, hc _ _ b2, ?_⟩
  have := rangeAt_take (rangeAt_drop (rangeAt_row hg) 7) 32
  rw [Hd.C_text k] at this
  simpa using this

def btB (x lo hi : Int) : Bool := decide (lo ≤ x) && decide (x ≤ hi)
theorem bt_at (x lo hi : Int) (t : Bool) (w : World) (ht : btB x lo hi = t) : Calls Tryd.prog 45 #[.int .i64 x, .int .i64 lo, .int .i64 hi] w fun e w' => e = .returned (.bool t) ∧ w = w' := by
  unfold btB at ht
  have HT := Seal.mk ht
  clear ht
  by_cases h0 : lo ≤ x
  · by_cases h1 : x ≤ hi
    · have HF : Seal (t = true) := ⟨by rw [← HT.out, decide_eq_true h0, decide_eq_true h1]; rfl⟩
      go_enter Tryd.func45, Tryd.ntmps45
      go_wp2
      go_ret
      exact ⟨ret_bool HF.out.symm, rfl⟩
    · have HF : Seal (t = false) := ⟨by rw [← HT.out, decide_eq_false h1]; simp⟩
      go_enter Tryd.func45, Tryd.ntmps45
      go_wp2
      go_ret
      exact ⟨ret_bool HF.out.symm, rfl⟩
  · have HF : Seal (t = false) := ⟨by rw [← HT.out, decide_eq_false h0]; simp⟩
    go_enter Tryd.func45, Tryd.ntmps45
    go_wp2
    go_ret
    exact ⟨ret_bool HF.out.symm, rfl⟩

/-- is a hand-over in form? -/
def Hd.fm (h : Hd) : Bool := ((btB h.A 0 2097151 && btB h.R 0 2097151 && btB h.tm 0 2097151) && (btB h.fr 0 23 && btB h.to (-1) 23 && (h.fr != h.to))) && (btB h.L 0 63 && btB h.leg 0 8 && btB h.mn 0 64)

set_option maxHeartbeats 8000000 in
theorem hformed_any (h : Hd) (w : World) (k : h.T.length = 32) :
    Calls Tryd.prog 46 #[.agg h.C.toArray] w fun e w' => e = .returned (.bool h.fm) ∧ Below w.heap.size w w' := by
  have HF : ∀ a1 a2 a3 b1 b2 b3 d1 d2 d3 : Bool, btB h.A 0 2097151 = a1 → btB h.R 0 2097151 = a2 → btB h.tm 0 2097151 = a3 → btB h.fr 0 23 = b1 → btB h.to (-1) 23 = b2 → (h.fr != h.to) = b3 → btB h.L 0 63 = d1 → btB h.leg 0 8 = d2 → btB h.mn 0 64 = d3 → h.fm = (((a1 && a2 && a3) && (b1 && b2 && b3)) && (d1 && d2 && d3)) := by
    intros; subst_vars; rfl
  have HFs := Seal.mk HF
  clear HF
  obtain ⟨C, hC⟩ : ∃ C, C = h.C.toArray := ⟨_, rfl⟩
  obtain ⟨X, hX⟩ : ∃ X : World, X = w.alloc (.cells C 29) := ⟨_, rfl⟩
  have hXb : Seal (Below w.heap.size w X) := ⟨by rw [hX]; exact below_alloc _ _⟩
  have hXn : X.heap[w.heap.size]? = some (.cells h.C.toArray 29 (0, 0)) := by rw [hX, hC]; exact heap_alloc_new w _
  obtain ⟨c0, c1, c2, c3, c4, c5, c6, c39, c40, c41, ctx⟩ := hdAt_of k hXn
  rw [← hC]
  clear hXn hC k
  go_enter Tryd.func46, Tryd.ntmps46
  go_upto_region 1 with (fail)
  rw [← hX]
  clear hX
  cases hA : btB h.A 0 2097151 with
  | false =>
    go_wp2_with fail
    refine (bt_at h.A 0 2097151 _ X hA).mono ?_
    rintro e w1 ⟨rfl, rfl⟩
    cases hfr : btB h.fr 0 23 with
    | false =>
      go_wp2_with fail
      refine (bt_at h.fr 0 23 _ X hfr).mono ?_
      rintro e w1 ⟨rfl, rfl⟩
      go_wp2
      have HR : Seal (h.fm = false) := ⟨by
        rw [HFs.out _ _ _ _ _ _ _ _ _ hA rfl rfl hfr rfl rfl rfl rfl rfl]
        simp⟩
      go_ret
      exact ⟨ret_bool HR.out.symm, hXb.out⟩
    | true =>
      go_wp2_with fail
      refine (bt_at h.fr 0 23 _ X hfr).mono ?_
      rintro e w1 ⟨rfl, rfl⟩
      cases hto : btB h.to (-1) 23 with
      | false =>
        go_wp2_with fail
        refine (bt_at h.to (-1) 23 _ X hto).mono ?_
        rintro e w1 ⟨rfl, rfl⟩
        go_wp2
        have HR : Seal (h.fm = false) := ⟨by
          rw [HFs.out _ _ _ _ _ _ _ _ _ hA rfl rfl hfr hto rfl rfl rfl rfl]
          simp⟩
        go_ret
        exact ⟨ret_bool HR.out.symm, hXb.out⟩
      | true =>
        go_wp2_with fail
        refine (bt_at h.to (-1) 23 _ X hto).mono ?_
        rintro e w1 ⟨rfl, rfl⟩
        by_cases hq : h.fr = h.to
        · have hne : (h.fr != h.to) = false := by simp [hq]
          go_wp2
          have HR : Seal (h.fm = false) := ⟨by
            rw [HFs.out _ _ _ _ _ _ _ _ _ hA rfl rfl hfr hto hne rfl rfl rfl]
            simp⟩
          go_ret
          exact ⟨ret_bool HR.out.symm, hXb.out⟩
        · have hne : (h.fr != h.to) = true := by simp [hq]
          go_wp2
          have HR : Seal (h.fm = false) := ⟨by
            rw [HFs.out _ _ _ _ _ _ _ _ _ hA rfl rfl hfr hto hne rfl rfl rfl]
            simp⟩
          go_ret
          exact ⟨ret_bool HR.out.symm, hXb.out⟩
  | true =>
    go_wp2_with fail
    refine (bt_at h.A 0 2097151 _ X hA).mono ?_
    rintro e w1 ⟨rfl, rfl⟩
    cases hR : btB h.R 0 2097151 with
    | false =>
      go_wp2_with fail
      refine (bt_at h.R 0 2097151 _ X hR).mono ?_
      rintro e w1 ⟨rfl, rfl⟩
      cases hfr : btB h.fr 0 23 with
      | false =>
        go_wp2_with fail
        refine (bt_at h.fr 0 23 _ X hfr).mono ?_
        rintro e w1 ⟨rfl, rfl⟩
        go_wp2
        have HR : Seal (h.fm = false) := ⟨by
          rw [HFs.out _ _ _ _ _ _ _ _ _ hA hR rfl hfr rfl rfl rfl rfl rfl]
          simp⟩
        go_ret
        exact ⟨ret_bool HR.out.symm, hXb.out⟩
      | true =>
        go_wp2_with fail
        refine (bt_at h.fr 0 23 _ X hfr).mono ?_
        rintro e w1 ⟨rfl, rfl⟩
        cases hto : btB h.to (-1) 23 with
        | false =>
          go_wp2_with fail
          refine (bt_at h.to (-1) 23 _ X hto).mono ?_
          rintro e w1 ⟨rfl, rfl⟩
          go_wp2
          have HR : Seal (h.fm = false) := ⟨by
            rw [HFs.out _ _ _ _ _ _ _ _ _ hA hR rfl hfr hto rfl rfl rfl rfl]
            simp⟩
          go_ret
          exact ⟨ret_bool HR.out.symm, hXb.out⟩
        | true =>
          go_wp2_with fail
          refine (bt_at h.to (-1) 23 _ X hto).mono ?_
          rintro e w1 ⟨rfl, rfl⟩
          by_cases hq : h.fr = h.to
          · have hne : (h.fr != h.to) = false := by simp [hq]
            go_wp2
            have HR : Seal (h.fm = false) := ⟨by
              rw [HFs.out _ _ _ _ _ _ _ _ _ hA hR rfl hfr hto hne rfl rfl rfl]
              simp⟩
            go_ret
            exact ⟨ret_bool HR.out.symm, hXb.out⟩
          · have hne : (h.fr != h.to) = true := by simp [hq]
            go_wp2
            have HR : Seal (h.fm = false) := ⟨by
              rw [HFs.out _ _ _ _ _ _ _ _ _ hA hR rfl hfr hto hne rfl rfl rfl]
              simp⟩
            go_ret
            exact ⟨ret_bool HR.out.symm, hXb.out⟩
    | true =>
      go_wp2_with fail
      refine (bt_at h.R 0 2097151 _ X hR).mono ?_
      rintro e w1 ⟨rfl, rfl⟩
      cases htm : btB h.tm 0 2097151 with
      | false =>
        go_wp2_with fail
        refine (bt_at h.tm 0 2097151 _ X htm).mono ?_
        rintro e w1 ⟨rfl, rfl⟩
        cases hfr : btB h.fr 0 23 with
        | false =>
          go_wp2_with fail
          refine (bt_at h.fr 0 23 _ X hfr).mono ?_
          rintro e w1 ⟨rfl, rfl⟩
          go_wp2
          have HR : Seal (h.fm = false) := ⟨by
            rw [HFs.out _ _ _ _ _ _ _ _ _ hA hR htm hfr rfl rfl rfl rfl rfl]
            simp⟩
          go_ret
          exact ⟨ret_bool HR.out.symm, hXb.out⟩
        | true =>
          go_wp2_with fail
          refine (bt_at h.fr 0 23 _ X hfr).mono ?_
          rintro e w1 ⟨rfl, rfl⟩
          cases hto : btB h.to (-1) 23 with
          | false =>
            go_wp2_with fail
            refine (bt_at h.to (-1) 23 _ X hto).mono ?_
            rintro e w1 ⟨rfl, rfl⟩
            go_wp2
            have HR : Seal (h.fm = false) := ⟨by
              rw [HFs.out _ _ _ _ _ _ _ _ _ hA hR htm hfr hto rfl rfl rfl rfl]
              simp⟩
            go_ret
            exact ⟨ret_bool HR.out.symm, hXb.out⟩
          | true =>
            go_wp2_with fail
            refine (bt_at h.to (-1) 23 _ X hto).mono ?_
            rintro e w1 ⟨rfl, rfl⟩
            by_cases hq : h.fr = h.to
            · have hne : (h.fr != h.to) = false := by simp [hq]
              go_wp2
              have HR : Seal (h.fm = false) := ⟨by
                rw [HFs.out _ _ _ _ _ _ _ _ _ hA hR htm hfr hto hne rfl rfl rfl]
                simp⟩
              go_ret
              exact ⟨ret_bool HR.out.symm, hXb.out⟩
            · have hne : (h.fr != h.to) = true := by simp [hq]
              go_wp2
              have HR : Seal (h.fm = false) := ⟨by
                rw [HFs.out _ _ _ _ _ _ _ _ _ hA hR htm hfr hto hne rfl rfl rfl]
                simp⟩
              go_ret
              exact ⟨ret_bool HR.out.symm, hXb.out⟩
      | true =>
        go_wp2_with fail
        refine (bt_at h.tm 0 2097151 _ X htm).mono ?_
        rintro e w1 ⟨rfl, rfl⟩
        cases hfr : btB h.fr 0 23 with
        | false =>
          go_wp2_with fail
          refine (bt_at h.fr 0 23 _ X hfr).mono ?_
          rintro e w1 ⟨rfl, rfl⟩
          go_wp2
          have HR : Seal (h.fm = false) := ⟨by
            rw [HFs.out _ _ _ _ _ _ _ _ _ hA hR htm hfr rfl rfl rfl rfl rfl]
            simp⟩
          go_ret
          exact ⟨ret_bool HR.out.symm, hXb.out⟩
        | true =>
          go_wp2_with fail
          refine (bt_at h.fr 0 23 _ X hfr).mono ?_
          rintro e w1 ⟨rfl, rfl⟩
          cases hto : btB h.to (-1) 23 with
          | false =>
            go_wp2_with fail
            refine (bt_at h.to (-1) 23 _ X hto).mono ?_
            rintro e w1 ⟨rfl, rfl⟩
            go_wp2
            have HR : Seal (h.fm = false) := ⟨by
              rw [HFs.out _ _ _ _ _ _ _ _ _ hA hR htm hfr hto rfl rfl rfl rfl]
              simp⟩
            go_ret
            exact ⟨ret_bool HR.out.symm, hXb.out⟩
          | true =>
            go_wp2_with fail
            refine (bt_at h.to (-1) 23 _ X hto).mono ?_
            rintro e w1 ⟨rfl, rfl⟩
            by_cases hq : h.fr = h.to
            · have hne : (h.fr != h.to) = false := by simp [hq]
              go_wp2
              have HR : Seal (h.fm = false) := ⟨by
                rw [HFs.out _ _ _ _ _ _ _ _ _ hA hR htm hfr hto hne rfl rfl rfl]
                simp⟩
              go_ret
              exact ⟨ret_bool HR.out.symm, hXb.out⟩
            · have hne : (h.fr != h.to) = true := by simp [hq]
              cases hL : btB h.L 0 63 with
              | false =>
                go_wp2_with fail
                refine (bt_at h.L 0 63 _ X hL).mono ?_
                rintro e w1 ⟨rfl, rfl⟩
                go_wp2
                have HR : Seal (h.fm = false) := ⟨by
                  rw [HFs.out _ _ _ _ _ _ _ _ _ hA hR htm hfr hto hne hL rfl rfl]
                  simp⟩
                go_ret
                exact ⟨ret_bool HR.out.symm, hXb.out⟩
              | true =>
                go_wp2_with fail
                refine (bt_at h.L 0 63 _ X hL).mono ?_
                rintro e w1 ⟨rfl, rfl⟩
                cases hleg : btB h.leg 0 8 with
                | false =>
                  go_wp2_with fail
                  refine (bt_at h.leg 0 8 _ X hleg).mono ?_
                  rintro e w1 ⟨rfl, rfl⟩
                  go_wp2
                  have HR : Seal (h.fm = false) := ⟨by
                    rw [HFs.out _ _ _ _ _ _ _ _ _ hA hR htm hfr hto hne hL hleg rfl]
                    simp⟩
                  go_ret
                  exact ⟨ret_bool HR.out.symm, hXb.out⟩
                | true =>
                  go_wp2_with fail
                  refine (bt_at h.leg 0 8 _ X hleg).mono ?_
                  rintro e w1 ⟨rfl, rfl⟩
                  cases hmn : btB h.mn 0 64 with
                  | false =>
                    go_wp2_with fail
                    refine (bt_at h.mn 0 64 _ X hmn).mono ?_
                    rintro e w1 ⟨rfl, rfl⟩
                    go_wp2
                    have HR : Seal (h.fm = false) := ⟨by
                      rw [HFs.out _ _ _ _ _ _ _ _ _ hA hR htm hfr hto hne hL hleg hmn]
                      simp⟩
                    go_ret
                    exact ⟨ret_bool HR.out.symm, hXb.out⟩
                  | true =>
                    go_wp2_with fail
                    refine (bt_at h.mn 0 64 _ X hmn).mono ?_
                    rintro e w1 ⟨rfl, rfl⟩
                    go_wp2
                    have HR : Seal (h.fm = true) := ⟨by
                      rw [HFs.out _ _ _ _ _ _ _ _ _ hA hR htm hfr hto hne hL hleg hmn]
                      simp⟩
                    go_ret
                    exact ⟨ret_bool HR.out.symm, hXb.out⟩

theorem hslot_any (h : Hd) (w : World) (k : h.T.length = 32) :
    Calls Tryd.prog 55 #[.agg h.C.toArray] w fun e w' => e = .returned (.agg #[.int .i64 h.L, .int .i64 h.A, .int .i64 h.R, .int .i64 h.leg, .int .i64 h.fr]) ∧ Below w.heap.size w w' := by
  obtain ⟨C, hC⟩ : ∃ C, C = h.C.toArray := ⟨_, rfl⟩
  obtain ⟨X, hX⟩ : ∃ X : World, X = (w.alloc (.cells C 29)).alloc (.cells #[.int .i64 0, .int .i64 0, .int .i64 0, .int .i64 0, .int .i64 0] 92) := ⟨_, rfl⟩
  have hXb : Seal (Below w.heap.size w X) := ⟨by rw [hX]; exact ((Below.refl _ w).alloc (Nat.le_refl _) _).alloc (by simp) _⟩
  have hXn : X.heap[w.heap.size]? = some (.cells h.C.toArray 29 (0, 0)) := by rw [hX, hC]; exact heap_alloc2_old w _ _
  have hXz : Seal (X.heap[w.heap.size + 1]? = some (.cells #[.int .i64 0, .int .i64 0, .int .i64 0, .int .i64 0, .int .i64 0] 92 (0, 0))) := ⟨by rw [hX]; exact heap_alloc2_new w _ _⟩
  obtain ⟨c0, c1, c2, c3, c4, c5, c6, c39, c40, c41, ctx⟩ := hdAt_of k hXn
  have i4 : (Tryd.prog.info? 92).map (·.size) = some (#[Value.int .i64 h.L, .int .i64 h.A, .int .i64 h.R, .int .i64 h.leg, .int .i64 h.fr]).size := by kernel_rfl
  have a4 : (#[Value.int .i64 h.L, .int .i64 h.A, .int .i64 h.R, .int .i64 h.leg, .int .i64 h.fr]).all (·.oneCell') = true := by simp [Value.oneCell']
  rw [← hC]
  clear hXn hC k c5 c6 c39 c40 c41 ctx
  go_enter Tryd.func55, Tryd.ntmps55
  go_upto_region 1 with (fail)
  rw [← hX]
  clear hX
  go_wp2_with (refine wpList_store_row rfl 92 (.tmp 2) (.tmp 9) rfl (w.heap.size + 1) #[.int .i64 h.L, .int .i64 h.A, .int .i64 h.R, .int .i64 h.leg, .int .i64 h.fr] rfl rfl 92 #[.int .i64 0, .int .i64 0, .int .i64 0, .int .i64 0, .int .i64 0] hXz.out i4 rfl a4 ?_)
  refine bodyPost_ret (results_cell_row (fn := Tryd.f55) rfl _ _ (w.heap.size + 1) 92 #[.int .i64 h.L, .int .i64 h.A, .int .i64 h.R, .int .i64 h.leg, .int .i64 h.fr] (0, 0) _ rfl (setRow_heap _ _ _ _ _ _ hXz.out) Tryd.underlying92 rfl i4) rfl ⟨rfl, below_row hXb.out (Nat.le_add_right _ _) _⟩

set_option maxHeartbeats 1000000 in
theorem eqRun_at (d : Nat) (a b c a' b' c' : Int) (w : World) : (Op.equalIn (d + 1 + 1) 23 (.agg #[.int .i64 a, .int .i64 b, .int .i64 c]) (.agg #[.int .i64 a', .int .i64 b', .int .i64 c'])).run Tryd.prog w = .ok (a == a' && (b == b' && c == c')) w := by
  have u3 := Tryd.underlying3
  have a3 := Tryd.isAgg3
  have z3 := Tryd.sizeOf3
  have hS : Tryd.prog.underlying 23 = some (.struct (Tryd.prog.fieldsOf 23)) := by kernel_rfl
  have hp : Tryd.prog.stoodInHeld 23 = false := by kernel_rfl
  rw [run_equalIn_agg w (d + 1) 23 _ _ hS hp]
  simp only [Program.fieldsOf, Tryd.underlying23]
  go_simp
  by_cases h1 : a = a' <;> by_cases h2 : b = b' <;> by_cases h3 : c = c' <;> simp [h1, h2, h3]

theorem eqEnd_s {P : Program} (d : Nat) (xs ys : Array Value) (w : World) : (Op.eqFields d xs ys []).run P w = .ok true w := by rw [Op.eqFields]; rfl

theorem eqSlot (a b c d e a' b' c' d' e' : Int) (w : World) : (Op.equalIn 10000 92 (.agg #[.int .i64 a, .int .i64 b, .int .i64 c, .int .i64 d, .int .i64 e]) (.agg #[.int .i64 a', .int .i64 b', .int .i64 c', .int .i64 d', .int .i64 e'])).run Tryd.prog w = .ok ((a == a' && (b == b' && c == c')) && (d == d' && e == e')) w := by
  have a3 := Tryd.isAgg3
  have aR := Tryd.isAgg23
  have zR := Tryd.sizeOf23
  have hS : Tryd.prog.underlying 92 = some (.struct (Tryd.prog.fieldsOf 92)) := by kernel_rfl
  have hp : Tryd.prog.stoodInHeld 92 = false := by kernel_rfl
  have p0 : ∀ a b c d e : Int, (part 23 #[.int .i64 a, .int .i64 b, .int .i64 c, .int .i64 d, .int .i64 e] 0).run Tryd.prog w = .ok (.agg #[.int .i64 a, .int .i64 b, .int .i64 c]) w := fun a b c d e => by simp [part, aR, zR]
  have p1 : ∀ a b c d e : Int, (part 3 #[.int .i64 a, .int .i64 b, .int .i64 c, .int .i64 d, .int .i64 e] 3).run Tryd.prog w = .ok (.int .i64 d) w := fun a b c d e => by simp [part, a3]
  have p2 : ∀ a b c d e : Int, (part 3 #[.int .i64 a, .int .i64 b, .int .i64 c, .int .i64 d, .int .i64 e] 4).run Tryd.prog w = .ok (.int .i64 e) w := fun a b c d e => by simp [part, a3]
  rw [show (10000 : Nat) = 9999 + 1 from rfl, run_equalIn_agg w 9999 92 _ _ hS hp]
  simp only [Program.fieldsOf, Tryd.underlying92]
  rw [eqFields_s _ _ _ _ _ _ _ _ _ (by decide) (p0 a b c d e) (p0 a' b' c' d' e') (eqRun_at 9997 a b c a' b' c' w)]
  rw [eqFields_s _ _ _ _ _ _ _ _ _ (by decide) (p1 a b c d e) (p1 a' b' c' d' e') (eqInt_s 9998 d d' w)]
  rw [eqFields_s _ _ _ _ _ _ _ _ _ (by decide) (p2 a b c d e) (p2 a' b' c' d' e') (eqInt_s 9998 e e' w)]
  rw [eqEnd_s]
  cases (a == a' && (b == b' && c == c')) <;> cases d == d' <;> cases e == e' <;> rfl

/-- are two hand-overs equal? -/
def hdB (a b : Hd) : Bool := (a.L == b.L && (a.A == b.A && a.R == b.R)) && (a.leg == b.leg && (a.fr == b.fr && (a.to == b.to && (a.mn == b.mn && (a.T == b.T && (a.tm == b.tm && (a.E == b.E && a.S == b.S)))))))

theorem Hd.C_run {h : Hd} : h.C.take 3 = [.int .i64 h.L, .int .i64 h.A, .int .i64 h.R] := rfl
theorem Hd.C_sig {h : Hd} (k : h.T.length = 32) : h.C.drop 40 = [.int .i64 h.E, .int .i64 h.S] := by
  unfold Hd.C
  rw [List.drop_append, List.drop_of_length_le (by simp [k])]
  simp [k]

set_option maxHeartbeats 4000000 in
theorem eqHand (h g : Hd) (kh : h.T.length = 32) (kg : g.T.length = 32) (w : World) :
    (Op.equalIn 10000 29 (.agg h.C.toArray) (.agg g.C.toArray)).run Tryd.prog w = .ok (hdB h g) w := by
  have a3 := Tryd.isAgg3
  have aR := Tryd.isAgg23
  have zR := Tryd.sizeOf23
  have aC := Tryd.isAgg27
  have zC := Tryd.sizeOf27
  have aD := Tryd.isAgg25
  have zD := Tryd.sizeOf25
  have hS : Tryd.prog.underlying 29 = some (.struct (Tryd.prog.fieldsOf 29)) := by kernel_rfl
  have hp : Tryd.prog.stoodInHeld 29 = false := by kernel_rfl
  have p0 : ∀ h : Hd, (part 23 h.C.toArray 0).run Tryd.prog w = .ok (.agg #[.int .i64 h.L, .int .i64 h.A, .int .i64 h.R]) w := fun h => by simp [part, aR, zR, Hd.C_run]
  have pi : ∀ (h : Hd) (i : Nat) (x : Int), h.C[i]? = some (.int .i64 x) → (part 3 h.C.toArray i).run Tryd.prog w = .ok (.int .i64 x) w := fun h i x e => by simp [part, a3, e]
  have p5 : ∀ h : Hd, h.T.length = 32 → (part 25 h.C.toArray 7).run Tryd.prog w = .ok (.agg (h.T.map B).toArray) w := fun h k => by
    have := Hd.C_text k
    simp [part, aD, zD, this]
  have p7 : ∀ h : Hd, h.T.length = 32 → (part 27 h.C.toArray 40).run Tryd.prog w = .ok (.agg #[.int .i64 h.E, .int .i64 h.S]) w := fun h k => by
    have := Hd.C_sig k
    simp [part, aC, zC, this]
  obtain ⟨a0, a1, a2, a3', a4, a5, a6⟩ := Hd.C_lo h
  obtain ⟨b0, b1, b2, b3, b4, b5, b6⟩ := Hd.C_lo g
  obtain ⟨a39, _, _⟩ := Hd.C_hi kh
  obtain ⟨b39, _, _⟩ := Hd.C_hi kg
  have q0 := p0 h
  have q3 := pi h 3 _ a3'
  have q4 := pi h 4 _ a4
  have q5 := pi h 5 _ a5
  have q6 := pi h 6 _ a6
  have q7 := p5 h kh
  have q39 := pi h 39 _ a39
  have q40 := p7 h kh
  have r0 := p0 g
  have r3 := pi g 3 _ b3
  have r4 := pi g 4 _ b4
  have r5 := pi g 5 _ b5
  have r6 := pi g 6 _ b6
  have r7 := p5 g kg
  have r39 := pi g 39 _ b39
  have r40 := p7 g kg
  clear p0 pi p5 p7 a0 a1 a2 a3' a4 a5 a6 b0 b1 b2 b3 b4 b5 b6 a39 b39
  generalize h.C.toArray = C at *
  generalize g.C.toArray = D at *
  rw [show (10000 : Nat) = 9999 + 1 from rfl, run_equalIn_agg w 9999 29 _ _ hS hp]
  simp only [Program.fieldsOf, Tryd.underlying29]
  rw [eqFields_s _ _ _ _ _ _ _ _ _ (by decide) q0 r0 (eqRun_at 9997 _ _ _ _ _ _ w)]
  rw [eqFields_s _ _ _ _ _ _ _ _ _ (by decide) q3 r3 (eqInt_s 9998 _ _ w)]
  rw [eqFields_s _ _ _ _ _ _ _ _ _ (by decide) q4 r4 (eqInt_s 9998 _ _ w)]
  rw [eqFields_s _ _ _ _ _ _ _ _ _ (by decide) q5 r5 (eqInt_s 9998 _ _ w)]
  rw [eqFields_s _ _ _ _ _ _ _ _ _ (by decide) q6 r6 (eqInt_s 9998 _ _ w)]
  rw [eqFields_s _ _ _ _ _ _ _ _ _ (by decide) q7 r7 (eqDig_s 9997 _ _ kh kg w)]
  rw [eqFields_s _ _ _ _ _ _ _ _ _ (by decide) q39 r39 (eqInt_s 9998 _ _ w)]
  rw [eqFields_s _ _ _ _ _ _ _ _ _ (by decide) q40 r40 (eqSig_at 9997 _ _ _ _ w)]
  rw [eqEnd_s]
  unfold hdB
  generalize (h.L == g.L && (h.A == g.A && h.R == g.R)) = x0
  generalize (h.leg == g.leg) = x1
  generalize (h.fr == g.fr) = x2
  generalize (h.to == g.to) = x3
  generalize (h.mn == g.mn) = x4
  generalize (h.T == g.T) = x5
  generalize (h.tm == g.tm) = x6
  generalize (h.E == g.E && h.S == g.S) = x7
  cases x0 <;> cases x1 <;> cases x2 <;> cases x3 <;> cases x4 <;> cases x5 <;> cases x6 <;> cases x7 <;> rfl

theorem hdB_iff (a b : Hd) : hdB a b = true ↔ a = b := by
  unfold hdB
  simp only [Bool.and_eq_true, beq_iff_eq]
  constructor
  · rintro ⟨⟨h0, h1, h2⟩, h3, h4, h5, h6, h7, h8, h9, h10⟩
    cases a; cases b; simp_all
  · rintro rfl; simp

/-- what Ints returns: a list that bears these leaves -/
def IntsPost (xs : List Lf) (k : Nat) (w : World) (e : Ending) (w' : World) : Prop :=
  ∃ g c, e = .returned (.agg #[.int .i64 3, .int .i64 0, .string ByteArray.empty, .slice (some ⟨g, 0, none⟩) k c]) ∧ Seal (k ≤ c ∧ g < w'.heap.size ∧ LeavesAt w' g 0 xs ∧ w'.ownsRow w.heap.size 100 4 (.slice (some ⟨g, 0, none⟩) k c) k (xs.flatMap Lf.cells)) ∧ Below w.heap.size w w'

theorem htext_new (xs : List HA) (k H : Nat) (w : World) (hH : w.heap.size = H) (hk : xs.length = k) (hkm : k ≤ 1000) (hk0 : 0 < (xs.flatMap HA.lfs).length) (hk9 : (xs.flatMap HA.lfs).length ≤ 900) (hw : wgts (xs.flatMap HA.lfs) + 22 ≤ 140737488355328) (hok : ∀ x ∈ xs, x.ok) (hfit : ∀ y ∈ xs.flatMap HA.lfs, y.fits) (cs : Array Value) (hcs : cs.toList = xs.map HA.val) :
    Calls Tryd.prog 82 #[.slice (some ⟨H, 0, none⟩) k k] (w.alloc (.cells cs 20)) (ListPost (encL (xs.flatMap HA.lfs)) w) := by
  subst hH
  refine (htext_any w.heap.size 0 k k xs (w.alloc (.cells cs 20)) hk hkm hk0 hk9 hw (fun j x hx => ?_) hok hfit).mono ?_
  · rw [cell_of_row _ _ _ _ _ _ (heap_alloc_new w _), Nat.zero_add, ← Array.getElem?_toList, hcs, List.getElem?_map, hx]; rfl
  · rintro e w' ⟨g', n', cap', hn, rfl, hf⟩
    exact ⟨g', n', cap', hn, rfl, ⟨hf.out.1, hf.out.2.1, hf.out.2.2.1, hf.out.2.2.2.1, (below_alloc w _).trans (hf.out.2.2.2.2.mono (by rw [size_alloc]; omega))⟩⟩

/-- the text of a hand-over -/
def Hd.lf (h : Hd) : List Lf := [.i h.L, .i h.A, .i h.R, .i h.leg, .i h.fr, .i h.to, .i h.mn, .t h.T, .i h.tm]
def Hd.tx (h : Hd) : Bytes := encL h.lf
theorem Hd.lf_wgts {h : Hd} (k : h.T.length = 32) : wgts h.lf ≤ 160 := by simp [Hd.lf, wgts, Lf.wgt, k]
theorem Hd.tx_len {h : Hd} (k : h.T.length = 32) : h.tx.length ≤ 200 := by
  have := encL_length h.lf
  have := Hd.lf_wgts k
  unfold Hd.tx; omega
theorem Hd.lf_fits {h : Hd} (k : h.ok) : ∀ y ∈ h.lf, y.fits := by
  intro y hy
  simp only [Hd.lf, List.mem_cons, List.not_mem_nil, or_false] at hy
  rcases hy with rfl | rfl | rfl | rfl | rfl | rfl | rfl | rfl | rfl
  · exact k.iL
  · exact k.iA
  · exact k.iR
  · exact k.ileg
  · exact k.ifr
  · exact k.ito
  · exact k.imn
  · show h.T.length < 2 ^ 63; rw [k.t32]; decide
  · exact k.itm
def Hd.ha (h : Hd) : List HA := [.r h.L h.A h.R, .i h.leg, .i h.fr, .i h.to, .i h.mn, .t h.T, .i h.tm]
theorem Hd.ha_lf (h : Hd) : h.ha.flatMap HA.lfs = h.lf := rfl

set_option maxHeartbeats 2000000 in
theorem hhand_any (h : Hd) (w : World) (k : h.ok) :
    Calls Tryd.prog 48 #[.agg h.C.toArray] w (ListPost h.tx w) := by
  obtain ⟨C, hC⟩ : ∃ C, C = h.C.toArray := ⟨_, rfl⟩
  obtain ⟨TC, hTC⟩ : ∃ TC, TC = h.T.map B := ⟨_, rfl⟩
  obtain ⟨X, hX⟩ : ∃ X : World, X = w.alloc (.cells C 29) := ⟨_, rfl⟩
  have hXb : Seal (Below w.heap.size w X) := ⟨by rw [hX]; exact below_alloc _ _⟩
  have hXn : X.heap[w.heap.size]? = some (.cells h.C.toArray 29 (0, 0)) := by rw [hX, hC]; exact heap_alloc_new w _
  obtain ⟨c0, c1, c2, c3, c4, c5, c6, c39, c40, c41, ctx'⟩ := hdAt_of k.t32 hXn
  rw [← hTC] at ctx'
  have ctx := Seal.mk ctx'
  have iT : (Tryd.prog.info? 25).map (·.size) = some TC.length := by rw [hTC, List.length_map, k.t32]; kernel_rfl
  have IT := Seal.mk iT
  have HT : Seal (∀ cs : Array Value, cs = #[.iface 23 (.agg #[.int .i64 h.L, .int .i64 h.A, .int .i64 h.R]), .iface 3 (.int .i64 h.leg), .iface 3 (.int .i64 h.fr), .iface 3 (.int .i64 h.to), .iface 3 (.int .i64 h.mn), .iface 25 (.agg TC.toArray), .iface 3 (.int .i64 h.tm)] → Calls Tryd.prog 82 #[.slice (some ⟨X.heap.size, 0, none⟩) 7 7] (X.alloc (.cells cs 20)) (ListPost h.tx X)) := ⟨fun cs hcs => by
    have hw := Hd.lf_wgts k.t32
    exact htext_new h.ha 7 X.heap.size X rfl rfl (by decide) (by rw [Hd.ha_lf]; simp [Hd.lf]) (by rw [Hd.ha_lf]; simp [Hd.lf]) (by rw [Hd.ha_lf]; omega) (by
      intro x hx
      simp only [Hd.ha, List.mem_cons, List.not_mem_nil, or_false] at hx
      rcases hx with rfl | rfl | rfl | rfl | rfl | rfl | rfl <;> first | trivial | exact k.t32) (Hd.lf_fits k) cs (by rw [hcs, hTC]; rfl)⟩
  rw [← hC]
  clear hXn hC k hTC c40 c41 ctx' iT
  go_enter Tryd.func48, Tryd.ntmps48
  go_upto_region 1 with (fail)
  rw [← hX]
  clear hX
  go_wp2_with (refine wpList_load_mid rfl 25 (.tmp 18) rfl w.heap.size 7 rfl TC _ ctx.out Tryd.underlying25 rfl IT.out ?_)
  refine (HT.out _ rfl).mono ?_
  rintro e w2 ⟨g', n', cap', hn', rfl, hf⟩
  have HB : Seal (Below w.heap.size w w2) := ⟨hXb.out.trans (hf.out.2.2.2.2.mono hXb.out.size)⟩
  clear c0 c1 c2 c3 c4 c5 c6 c39
  go_wp2
  go_ret
  exact ⟨g', n', cap', hn', rfl, ⟨hf.out.1, hf.out.2.1, hf.out.2.2.1, hf.out.2.2.2.1, HB.out⟩⟩

theorem Hd.C_sig' {h : Hd} (k : h.T.length = 32) : h.C.drop 40 = [.int .i64 h.E, .int .i64 h.S] := by
  unfold Hd.C
  rw [List.drop_append, List.drop_of_length_le (by simp [k])]
  simp [k]

/-- is a hand-over signed? -/
def chB (key : Int) (h : Hd) : Bool := h.fm && vrB key h.tx h.E h.S
set_option maxHeartbeats 1000000 in
theorem hcheck_no (key : Int) (h : Hd) (t : Bool) (w : World) (k : h.ok) (ht : h.fm = t) (h0 : t = false) :
    Calls Tryd.prog 15 #[.int .i64 key, .agg h.C.toArray] w fun e w' => e = .returned (.bool false) ∧ Below w.heap.size w w' := by
  obtain ⟨C, hC⟩ : ∃ C, C = h.C := ⟨_, rfl⟩
  have uH := Tryd.underlying29
  have iH : (Tryd.prog.info? 29).map (·.size) = some C.length := by rw [hC]; exact Hd.C_info k.t32
  have iS : (Tryd.prog.info? 27).map (·.size) = some [Value.int .i64 h.E, .int .i64 h.S].length := by kernel_rfl
  have uS := Tryd.underlying27
  obtain ⟨X, hX⟩ : ∃ X : World, X = w.alloc (.cells C.toArray 29) := ⟨_, rfl⟩
  have hXb : Seal (Below w.heap.size w X) := ⟨by rw [hX]; exact below_alloc _ _⟩
  have hXn : X.heap[w.heap.size]? = some (.cells C.toArray 29 (0, 0)) := by rw [hX]; exact heap_alloc_new w _
  have rC : X.rangeAt w.heap.size 0 C := rangeAt_row hXn
  have rS : X.rangeAt w.heap.size 40 [.int .i64 h.E, .int .i64 h.S] := by
    have := rangeAt_drop rC 40
    rw [hC, Hd.C_sig' k.t32, Nat.zero_add] at this
    exact this
  have HF : Seal (∀ W, Calls Tryd.prog 46 #[.agg C.toArray] W fun e w' => e = .returned (.bool t) ∧ Below W.heap.size W w') := ⟨fun W => by rw [hC, ← ht]; exact hformed_any h W k.t32⟩
  have HX : Seal (∀ W, Calls Tryd.prog 48 #[.agg C.toArray] W (ListPost h.tx W)) := ⟨fun W => by rw [hC]; exact hhand_any h W k⟩
  have HL := Seal.mk (Hd.tx_len k.t32)
  rw [← hC]
  clear hXn hC k ht
  go_enter Tryd.func15, Tryd.ntmps15
  go_upto_region 1 with (fail)
  rw [← hX]
  clear hX
  refine wp_region_held_drew (S := fun w' => w'.rangeAt w.heap.size 0 C ∧ w'.rangeAt w.heap.size 40 [.int .i64 h.E, .int .i64 h.S]) (by kernel_rfl) ⟨rC, rS⟩ (fun hHeld => ?_)
  refine take_h 0 _ rfl (by kernel_rfl) (by kernel_rfl) (by kernel_rfl) (fun _ _ _ h => h) (yieldsIf_load_mid (by kernel_rfl) 29 (.tmp 3) rfl w.heap.size 0 rfl C _ (fun w hSw => hSw.1) uH rfl iH) (by assumption) ?_
  try simp only [Act.put, List.setIfInBounds_toArray, List.set_cons_zero, List.set_cons_succ]
  refine call_h 1 rfl (by kernel_rfl) 46 #[.agg C.toArray] (by kernel_rfl) (by go_simp) ?_
  refine (HF.out X.drew).mono ?_
  rintro e w1 ⟨rfl, hb1⟩
  have hb2 : Below X.heap.size X w1 := ⟨hb1.os, hb1.tape, hb1.output, hb1.size, hb1.block⟩
  have HB1 : Seal (Below w.heap.size w w1) := ⟨hXb.out.trans (hb2.mono hXb.out.size)⟩
  refine ⟨_, rfl, ⟨rangeAt_below' rC hb2, rangeAt_below' rS hb2⟩, fun hHeld2 => ?_⟩
  have rC1 := hHeld2.1
  have rS1 := hHeld2.2
  clear hHeld hb1 hb2 rC rS
  try simp only [Act.put, List.setIfInBounds_toArray, List.set_cons_zero, List.set_cons_succ]
  subst h0
  refine take_h 2 ?_ rfl (by kernel_rfl) (by kernel_rfl) (by kernel_rfl) (fun _ _ _ h => h) (Or.inl ⟨by kernel_rfl, ?_⟩) (by assumption) ?_
  rotate_left
  · (intro w hSw; (try dsimp only at hSw); go_simp; try (with_reducible rfl))
  try simp only [Act.put, List.setIfInBounds_toArray, List.set_cons_zero, List.set_cons_succ]
  refine take_h 3 undef rfl (by kernel_rfl) (by kernel_rfl) (by kernel_rfl) (fun _ _ _ h => h) (Or.inr ⟨by kernel_rfl, rfl⟩) (by assumption) ?_
  try simp only [Act.put, List.setIfInBounds_toArray, List.set_cons_zero, List.set_cons_succ]
  refine take_h 4 undef rfl (by kernel_rfl) (by kernel_rfl) (by kernel_rfl) (fun _ _ _ h => h) (Or.inr ⟨by kernel_rfl, rfl⟩) (by assumption) ?_
  try simp only [Act.put, List.setIfInBounds_toArray, List.set_cons_zero, List.set_cons_succ]
  refine take_h 5 undef rfl (by kernel_rfl) (by kernel_rfl) (by kernel_rfl) (fun _ _ _ h => h) (Or.inr ⟨by kernel_rfl, rfl⟩) (by assumption) ?_
  try simp only [Act.put, List.setIfInBounds_toArray, List.set_cons_zero, List.set_cons_succ]
  refine take_h 6 undef rfl (by kernel_rfl) (by kernel_rfl) (by kernel_rfl) (fun _ _ _ h => h) (Or.inr ⟨by kernel_rfl, rfl⟩) (by assumption) ?_
  try simp only [Act.put, List.setIfInBounds_toArray, List.set_cons_zero, List.set_cons_succ]
  refine take_h 7 undef rfl (by kernel_rfl) (by kernel_rfl) (by kernel_rfl) (fun _ _ _ h => h) (Or.inr ⟨by kernel_rfl, rfl⟩) (by assumption) ?_
  try simp only [Act.put, List.setIfInBounds_toArray, List.set_cons_zero, List.set_cons_succ]
  refine take_h 8 undef rfl (by kernel_rfl) (by kernel_rfl) (by kernel_rfl) (fun _ _ _ h => h) (Or.inr ⟨by kernel_rfl, rfl⟩) (by assumption) ?_
  try simp only [Act.put, List.setIfInBounds_toArray, List.set_cons_zero, List.set_cons_succ]
  refine take_h 9 ?_ rfl (by kernel_rfl) (by kernel_rfl) (by kernel_rfl) (fun _ _ _ h => h) (Or.inl ⟨by kernel_rfl, ?_⟩) (by assumption) ?_
  rotate_left
  · (intro w hSw; (try dsimp only at hSw); go_simp; try (with_reducible rfl))
  try simp only [Act.put, List.setIfInBounds_toArray, List.set_cons_zero, List.set_cons_succ]
  refine take_h 10 ?_ rfl (by kernel_rfl) (by kernel_rfl) (by kernel_rfl) (fun _ _ _ h => h) (Or.inl ⟨by kernel_rfl, ?_⟩) (by assumption) ?_
  rotate_left
  · (intro w hSw; (try dsimp only at hSw); go_simp; try (with_reducible rfl))
  try simp only [Act.put, List.setIfInBounds_toArray, List.set_cons_zero, List.set_cons_succ]
  refine wpAnyH_done (by kernel_rfl) ?_ _
  clear hHeld2 rC1 rS1
  go_wp2
  go_ret
  exact ⟨rfl, HB1.out⟩
set_option maxHeartbeats 2000000 in
theorem hcheck_yes (key : Int) (h : Hd) (t r : Bool) (w : World) (k : h.ok) (ht : h.fm = t) (h0 : t = true) (hG : Glob w) (hv : Seal (vrB key h.tx h.E h.S = r)) :
    Calls Tryd.prog 15 #[.int .i64 key, .agg h.C.toArray] w fun e w' => e = .returned (.bool r) ∧ Below w.heap.size w w' := by
  have HG := Seal.mk hG
  clear hG
  obtain ⟨C, hC⟩ : ∃ C, C = h.C := ⟨_, rfl⟩
  have uH := Tryd.underlying29
  have iH : (Tryd.prog.info? 29).map (·.size) = some C.length := by rw [hC]; exact Hd.C_info k.t32
  have iS : (Tryd.prog.info? 27).map (·.size) = some [Value.int .i64 h.E, .int .i64 h.S].length := by kernel_rfl
  have uS := Tryd.underlying27
  obtain ⟨X, hX⟩ : ∃ X : World, X = w.alloc (.cells C.toArray 29) := ⟨_, rfl⟩
  have hXb : Seal (Below w.heap.size w X) := ⟨by rw [hX]; exact below_alloc _ _⟩
  have hXn : X.heap[w.heap.size]? = some (.cells C.toArray 29 (0, 0)) := by rw [hX]; exact heap_alloc_new w _
  have rC : X.rangeAt w.heap.size 0 C := rangeAt_row hXn
  have rS : X.rangeAt w.heap.size 40 [.int .i64 h.E, .int .i64 h.S] := by
    have := rangeAt_drop rC 40
    rw [hC, Hd.C_sig' k.t32, Nat.zero_add] at this
    exact this
  have HF : Seal (∀ W, Calls Tryd.prog 46 #[.agg C.toArray] W fun e w' => e = .returned (.bool t) ∧ Below W.heap.size W w') := ⟨fun W => by rw [hC, ← ht]; exact hformed_any h W k.t32⟩
  have HX : Seal (∀ W, Calls Tryd.prog 48 #[.agg C.toArray] W (ListPost h.tx W)) := ⟨fun W => by rw [hC]; exact hhand_any h W k⟩
  have HL := Seal.mk (Hd.tx_len k.t32)
  rw [← hC]
  clear hXn hC k ht
  go_enter Tryd.func15, Tryd.ntmps15
  go_upto_region 1 with (fail)
  rw [← hX]
  clear hX
  refine wp_region_held_drew (S := fun w' => w'.rangeAt w.heap.size 0 C ∧ w'.rangeAt w.heap.size 40 [.int .i64 h.E, .int .i64 h.S]) (by kernel_rfl) ⟨rC, rS⟩ (fun hHeld => ?_)
  refine take_h 0 _ rfl (by kernel_rfl) (by kernel_rfl) (by kernel_rfl) (fun _ _ _ h => h) (yieldsIf_load_mid (by kernel_rfl) 29 (.tmp 3) rfl w.heap.size 0 rfl C _ (fun w hSw => hSw.1) uH rfl iH) (by assumption) ?_
  try simp only [Act.put, List.setIfInBounds_toArray, List.set_cons_zero, List.set_cons_succ]
  refine call_h 1 rfl (by kernel_rfl) 46 #[.agg C.toArray] (by kernel_rfl) (by go_simp) ?_
  refine (HF.out X.drew).mono ?_
  rintro e w1 ⟨rfl, hb1⟩
  have hb2 : Below X.heap.size X w1 := ⟨hb1.os, hb1.tape, hb1.output, hb1.size, hb1.block⟩
  have HB1 : Seal (Below w.heap.size w w1) := ⟨hXb.out.trans (hb2.mono hXb.out.size)⟩
  refine ⟨_, rfl, ⟨rangeAt_below' rC hb2, rangeAt_below' rS hb2⟩, fun hHeld2 => ?_⟩
  have rC1 := hHeld2.1
  have rS1 := hHeld2.2
  clear hHeld hb1 hb2 rC rS
  try simp only [Act.put, List.setIfInBounds_toArray, List.set_cons_zero, List.set_cons_succ]
  subst h0
  refine take_h 2 ?_ rfl (by kernel_rfl) (by kernel_rfl) (by kernel_rfl) (fun _ _ _ h => h) (Or.inl ⟨by kernel_rfl, ?_⟩) (by assumption) ?_
  rotate_left
  · (intro w hSw; (try dsimp only at hSw); go_simp; try (with_reducible rfl))
  try simp only [Act.put, List.setIfInBounds_toArray, List.set_cons_zero, List.set_cons_succ]
  refine take_h 3 ?_ rfl (by kernel_rfl) (by kernel_rfl) (by kernel_rfl) (fun _ _ _ h => h) (Or.inl ⟨by kernel_rfl, ?_⟩) (by assumption) ?_
  rotate_left
  · (intro w hSw; (try dsimp only at hSw); go_simp; try (with_reducible rfl))
  try simp only [Act.put, List.setIfInBounds_toArray, List.set_cons_zero, List.set_cons_succ]
  refine take_h 4 _ rfl (by kernel_rfl) (by kernel_rfl) (by kernel_rfl) (fun _ _ _ h => h) (yieldsIf_load_mid (by kernel_rfl) 29 (.tmp 3) rfl w.heap.size 0 rfl C _ (fun w hSw => hSw.1) uH rfl iH) (by assumption) ?_
  try simp only [Act.put, List.setIfInBounds_toArray, List.set_cons_zero, List.set_cons_succ]
  refine take_h 6 ?_ rfl (by kernel_rfl) (by kernel_rfl) (by kernel_rfl) (fun _ _ _ h => h) (Or.inl ⟨by kernel_rfl, ?_⟩) (by assumption) ?_
  rotate_left
  · (intro w hSw; (try dsimp only at hSw); go_simp; try (with_reducible rfl))
  try simp only [Act.put, List.setIfInBounds_toArray, List.set_cons_zero, List.set_cons_succ]
  refine take_h 7 _ rfl (by kernel_rfl) (by kernel_rfl) (by kernel_rfl) (fun _ _ _ h => h) (yieldsIf_load_mid (by kernel_rfl) 27 (.tmp 11) rfl w.heap.size 40 rfl [.int .i64 h.E, .int .i64 h.S] _ (fun w hSw => hSw.2) uS rfl iS) (by assumption) ?_
  try simp only [Act.put, List.setIfInBounds_toArray, List.set_cons_zero, List.set_cons_succ]
  refine call_h 5 rfl (by kernel_rfl) 48 #[.agg C.toArray] (by kernel_rfl) (by go_simp) ?_
  refine (HX.out w1).mono ?_
  rintro e w2 ⟨g', n', c', hn, rfl, hf⟩
  have hb2 := hf.out.2.2.2.2
  have HB2 : Seal (Below w.heap.size w w2) := ⟨HB1.out.trans (hb2.mono HB1.out.size)⟩
  refine ⟨_, rfl, ⟨rangeAt_below' rC1 hb2, rangeAt_below' rS1 hb2⟩, fun hHeld3 => ?_⟩
  have hIB : IsB w2 (some ⟨g', 0, none⟩) n' c' h.tx := ⟨hn.out, hf.out.1, by rw [← hn.out]; have := HL.out; omega, hf.out.2.1, .inr ⟨g', 0, rfl, hf.out.2.2.2.1, hf.out.2.2.1⟩⟩
  have HVC : Seal (Calls Tryd.prog 50 #[.int .i64 key, .slice (some ⟨g', 0, none⟩) n' c', .agg #[.int .i64 h.E, .int .i64 h.S]] w2 fun e w' => e = .returned (.bool (vrB key h.tx h.E h.S)) ∧ Below w2.heap.size w2 w') := ⟨verify_any key h.E h.S (some ⟨g', 0, none⟩) n' c' h.tx w2 hIB (by rw [← hn.out]; have := HL.out; omega) (HG.out.below HB2.out)⟩
  have rC2 := hHeld3.1
  have rS2 := hHeld3.2
  clear hHeld2 hb2 hIB rC1 rS1 hf
  try simp only [Act.put, List.setIfInBounds_toArray, List.set_cons_zero, List.set_cons_succ]
  refine call_h 8 rfl (by kernel_rfl) 50 #[.int .i64 key, .slice (some ⟨g', 0, none⟩) n' c', .agg #[.int .i64 h.E, .int .i64 h.S]] (by kernel_rfl) (by go_simp) ?_
  refine HVC.out.mono ?_
  rw [hv.out]
  rintro e w3 ⟨rfl, hb3⟩
  have HB3 : Seal (Below w.heap.size w w3) := ⟨HB2.out.trans (hb3.mono HB2.out.size)⟩
  refine ⟨_, rfl, ⟨rangeAt_below' rC2 hb3, rangeAt_below' rS2 hb3⟩, fun hHeld4 => ?_⟩
  clear hHeld3 hb3 rC2 rS2 HVC
  try simp only [Act.put, List.setIfInBounds_toArray, List.set_cons_zero, List.set_cons_succ]
  refine take_h 9 ?_ rfl (by kernel_rfl) (by kernel_rfl) (by kernel_rfl) (fun _ _ _ h => h) (Or.inl ⟨by kernel_rfl, ?_⟩) (by assumption) ?_
  rotate_left
  · (intro w hSw; (try dsimp only at hSw); go_simp; try (with_reducible rfl))
  try simp only [Act.put, List.setIfInBounds_toArray, List.set_cons_zero, List.set_cons_succ]
  refine take_h 10 ?_ rfl (by kernel_rfl) (by kernel_rfl) (by kernel_rfl) (fun _ _ _ h => h) (Or.inl ⟨by kernel_rfl, ?_⟩) (by assumption) ?_
  rotate_left
  · (intro w hSw; (try dsimp only at hSw); go_simp; try (with_reducible rfl))
  try simp only [Act.put, List.setIfInBounds_toArray, List.set_cons_zero, List.set_cons_succ]
  refine wpAnyH_done (by kernel_rfl) ?_ _
  clear hHeld4
  go_wp2
  go_ret
  exact ⟨rfl, HB3.out⟩

theorem hcheck_any (key : Int) (h : Hd) (w : World) (k : h.ok) (hG : Glob w) :
    Calls Tryd.prog 15 #[.int .i64 key, .agg h.C.toArray] w fun e w' => e = .returned (.bool (chB key h)) ∧ Below w.heap.size w w' := by
  unfold chB
  cases ht : h.fm with
  | false => exact hcheck_no key h false w k ht rfl
  | true =>
    rw [Bool.true_and]
    exact hcheck_yes key h true _ w k ht rfl hG ⟨rfl⟩

def Hd.sg (h : Hd) (E S : Int) : Hd := { h with E := E, S := S }
def hz : Hd := ⟨0, 0, 0, 0, 0, 0, 0, zb32, 0, 0, 0⟩
/-- what Make returns -/
def mkF (x : Int) (h : Hd) : Hd × Int := if btB x 1 1073741788 = true then (if h.fm = true then (h.sg (sgE x h.tx) (sgS x h.tx), 0) else (hz, 480)) else (hz, 110)

theorem hz_eq : ((List.toArray (.int .i64 0 :: .int .i64 0 :: .int .i64 0 :: .int .i64 0 :: .int .i64 0 :: .int .i64 0 :: .int .i64 0 :: .int .u8 0 :: .int .u8 0 :: .int .u8 0 :: .int .u8 0 :: .int .u8 0 :: .int .u8 0 :: .int .u8 0 :: .int .u8 0 :: .int .u8 0 :: .int .u8 0 :: .int .u8 0 :: .int .u8 0 :: .int .u8 0 :: .int .u8 0 :: .int .u8 0 :: .int .u8 0 :: .int .u8 0 :: .int .u8 0 :: .int .u8 0 :: .int .u8 0 :: .int .u8 0 :: .int .u8 0 :: .int .u8 0 :: .int .u8 0 :: .int .u8 0 :: .int .u8 0 :: .int .u8 0 :: .int .u8 0 :: .int .u8 0 :: .int .u8 0 :: .int .u8 0 :: .int .u8 0 :: .int .i64 0 :: .int .i64 0 :: .int .i64 0 :: [] : List Value) : Array Value) : Array Value) = hz.C.toArray := by kernel_rfl
theorem hz_info : (Tryd.prog.info? 29).map (·.size) = some ((List.toArray (.int .i64 0 :: .int .i64 0 :: .int .i64 0 :: .int .i64 0 :: .int .i64 0 :: .int .i64 0 :: .int .i64 0 :: .int .u8 0 :: .int .u8 0 :: .int .u8 0 :: .int .u8 0 :: .int .u8 0 :: .int .u8 0 :: .int .u8 0 :: .int .u8 0 :: .int .u8 0 :: .int .u8 0 :: .int .u8 0 :: .int .u8 0 :: .int .u8 0 :: .int .u8 0 :: .int .u8 0 :: .int .u8 0 :: .int .u8 0 :: .int .u8 0 :: .int .u8 0 :: .int .u8 0 :: .int .u8 0 :: .int .u8 0 :: .int .u8 0 :: .int .u8 0 :: .int .u8 0 :: .int .u8 0 :: .int .u8 0 :: .int .u8 0 :: .int .u8 0 :: .int .u8 0 :: .int .u8 0 :: .int .u8 0 :: .int .i64 0 :: .int .i64 0 :: .int .i64 0 :: [] : List Value) : Array Value) : Array Value).size := by kernel_rfl
theorem hz_one : ((List.toArray (.int .i64 0 :: .int .i64 0 :: .int .i64 0 :: .int .i64 0 :: .int .i64 0 :: .int .i64 0 :: .int .i64 0 :: .int .u8 0 :: .int .u8 0 :: .int .u8 0 :: .int .u8 0 :: .int .u8 0 :: .int .u8 0 :: .int .u8 0 :: .int .u8 0 :: .int .u8 0 :: .int .u8 0 :: .int .u8 0 :: .int .u8 0 :: .int .u8 0 :: .int .u8 0 :: .int .u8 0 :: .int .u8 0 :: .int .u8 0 :: .int .u8 0 :: .int .u8 0 :: .int .u8 0 :: .int .u8 0 :: .int .u8 0 :: .int .u8 0 :: .int .u8 0 :: .int .u8 0 :: .int .u8 0 :: .int .u8 0 :: .int .u8 0 :: .int .u8 0 :: .int .u8 0 :: .int .u8 0 :: .int .u8 0 :: .int .i64 0 :: .int .i64 0 :: .int .i64 0 :: [] : List Value) : Array Value) : Array Value).all (·.oneCell') = true := by rw [hz_eq]; exact all_oneCell_toArray (Hd.C_one _)
theorem Hd.C_set {h : Hd} (k : h.T.length = 32) (E S : Int) : (h.C.set 40 (.int .i64 E)).set 41 (.int .i64 S) = (h.sg E S).C := by
  have hl : ([.int .i64 h.L, .int .i64 h.A, .int .i64 h.R, .int .i64 h.leg, .int .i64 h.fr, .int .i64 h.to, .int .i64 h.mn] ++ h.T.map B : List Value).length = 39 := by simp [k]
  unfold Hd.C
  rw [List.set_append_right 40 _ (by omega), hl, List.set_append_right 41 _ (by omega), hl]
  rfl

set_option maxHeartbeats 2000000 in
theorem hmake_key (x : Int) (h : Hd) (w : World) (k : h.ok) (hx : btB x 1 1073741788 = false) :
    Calls Tryd.prog 13 #[.int .i64 x, .agg h.C.toArray] w fun e w' => e = .returned (.tuple #[.agg hz.C.toArray, .int .i64 110]) ∧ Below w.heap.size w w' := by
  obtain ⟨C, hC⟩ : ∃ C, C = h.C := ⟨_, rfl⟩
  have IC : Seal ((Tryd.prog.info? 29).map (·.size) = some C.toArray.size) := ⟨by rw [hC, List.size_toArray]; exact Hd.C_info k.t32⟩
  obtain ⟨X, hX⟩ : ∃ X : World, X = (w.alloc (.cells C.toArray 29)).alloc (.cells (List.toArray (.int .i64 0 :: .int .i64 0 :: .int .i64 0 :: .int .i64 0 :: .int .i64 0 :: .int .i64 0 :: .int .i64 0 :: .int .u8 0 :: .int .u8 0 :: .int .u8 0 :: .int .u8 0 :: .int .u8 0 :: .int .u8 0 :: .int .u8 0 :: .int .u8 0 :: .int .u8 0 :: .int .u8 0 :: .int .u8 0 :: .int .u8 0 :: .int .u8 0 :: .int .u8 0 :: .int .u8 0 :: .int .u8 0 :: .int .u8 0 :: .int .u8 0 :: .int .u8 0 :: .int .u8 0 :: .int .u8 0 :: .int .u8 0 :: .int .u8 0 :: .int .u8 0 :: .int .u8 0 :: .int .u8 0 :: .int .u8 0 :: .int .u8 0 :: .int .u8 0 :: .int .u8 0 :: .int .u8 0 :: .int .u8 0 :: .int .i64 0 :: .int .i64 0 :: .int .i64 0 :: [] : List Value) : Array Value) 29) := ⟨_, rfl⟩
  have hXb : Seal (Below w.heap.size w X) := ⟨by rw [hX]; exact ((Below.refl _ w).alloc (Nat.le_refl _) _).alloc (by simp) _⟩
  have hXn : Seal (X.heap[w.heap.size]? = some (.cells C.toArray 29 (0, 0))) := ⟨by rw [hX]; exact heap_alloc2_old w _ _⟩
  have hXz : Seal (X.heap[w.heap.size + 1]? = some (.cells (List.toArray (.int .i64 0 :: .int .i64 0 :: .int .i64 0 :: .int .i64 0 :: .int .i64 0 :: .int .i64 0 :: .int .i64 0 :: .int .u8 0 :: .int .u8 0 :: .int .u8 0 :: .int .u8 0 :: .int .u8 0 :: .int .u8 0 :: .int .u8 0 :: .int .u8 0 :: .int .u8 0 :: .int .u8 0 :: .int .u8 0 :: .int .u8 0 :: .int .u8 0 :: .int .u8 0 :: .int .u8 0 :: .int .u8 0 :: .int .u8 0 :: .int .u8 0 :: .int .u8 0 :: .int .u8 0 :: .int .u8 0 :: .int .u8 0 :: .int .u8 0 :: .int .u8 0 :: .int .u8 0 :: .int .u8 0 :: .int .u8 0 :: .int .u8 0 :: .int .u8 0 :: .int .u8 0 :: .int .u8 0 :: .int .u8 0 :: .int .i64 0 :: .int .i64 0 :: .int .i64 0 :: [] : List Value) : Array Value) 29 (0, 0))) := ⟨by rw [hX]; exact heap_alloc2_new w _ _⟩
  have hXs : Seal (w.heap.size + 1 < X.heap.size) := ⟨(Array.getElem?_eq_some_iff.1 hXz.out).1⟩
  have HF : Seal (∀ W, Calls Tryd.prog 46 #[.agg C.toArray] W fun e w' => e = .returned (.bool h.fm) ∧ Below W.heap.size W w') := ⟨fun W => by rw [hC]; exact hformed_any h W k.t32⟩
  have HX : Seal (∀ W, Calls Tryd.prog 48 #[.agg C.toArray] W (ListPost h.tx W)) := ⟨fun W => by rw [hC]; exact hhand_any h W k⟩
  have HL := Seal.mk (Hd.tx_len k.t32)
  have HCq := Seal.mk hC
  have HT := Seal.mk k.t32
  rw [← hC]
  clear hC k
  go_enter Tryd.func13, Tryd.ntmps13
  go_upto_region 1 with (fail)
  rw [← hX]
  clear hX
  go_wp2_with fail
  refine (bt_at x 1 1073741788 _ X hx).mono ?_
  rintro e w1 ⟨rfl, rfl⟩
  go_wp2_with (first | (refine wpList_load_row rfl 29 (.tmp 4) rfl (w.heap.size + 1) rfl 29 (List.toArray (.int .i64 0 :: .int .i64 0 :: .int .i64 0 :: .int .i64 0 :: .int .i64 0 :: .int .i64 0 :: .int .i64 0 :: .int .u8 0 :: .int .u8 0 :: .int .u8 0 :: .int .u8 0 :: .int .u8 0 :: .int .u8 0 :: .int .u8 0 :: .int .u8 0 :: .int .u8 0 :: .int .u8 0 :: .int .u8 0 :: .int .u8 0 :: .int .u8 0 :: .int .u8 0 :: .int .u8 0 :: .int .u8 0 :: .int .u8 0 :: .int .u8 0 :: .int .u8 0 :: .int .u8 0 :: .int .u8 0 :: .int .u8 0 :: .int .u8 0 :: .int .u8 0 :: .int .u8 0 :: .int .u8 0 :: .int .u8 0 :: .int .u8 0 :: .int .u8 0 :: .int .u8 0 :: .int .u8 0 :: .int .u8 0 :: .int .i64 0 :: .int .i64 0 :: .int .i64 0 :: [] : List Value) : Array Value) (0, 0) _ hXz.out Tryd.underlying29 rfl hz_info ?_) | (refine wpList_store_row rfl 29 (.tmp 4) (.tmp 9) rfl (w.heap.size + 1) (List.toArray (.int .i64 0 :: .int .i64 0 :: .int .i64 0 :: .int .i64 0 :: .int .i64 0 :: .int .i64 0 :: .int .i64 0 :: .int .u8 0 :: .int .u8 0 :: .int .u8 0 :: .int .u8 0 :: .int .u8 0 :: .int .u8 0 :: .int .u8 0 :: .int .u8 0 :: .int .u8 0 :: .int .u8 0 :: .int .u8 0 :: .int .u8 0 :: .int .u8 0 :: .int .u8 0 :: .int .u8 0 :: .int .u8 0 :: .int .u8 0 :: .int .u8 0 :: .int .u8 0 :: .int .u8 0 :: .int .u8 0 :: .int .u8 0 :: .int .u8 0 :: .int .u8 0 :: .int .u8 0 :: .int .u8 0 :: .int .u8 0 :: .int .u8 0 :: .int .u8 0 :: .int .u8 0 :: .int .u8 0 :: .int .u8 0 :: .int .i64 0 :: .int .i64 0 :: .int .i64 0 :: [] : List Value) : Array Value) rfl rfl 29 (List.toArray (.int .i64 0 :: .int .i64 0 :: .int .i64 0 :: .int .i64 0 :: .int .i64 0 :: .int .i64 0 :: .int .i64 0 :: .int .u8 0 :: .int .u8 0 :: .int .u8 0 :: .int .u8 0 :: .int .u8 0 :: .int .u8 0 :: .int .u8 0 :: .int .u8 0 :: .int .u8 0 :: .int .u8 0 :: .int .u8 0 :: .int .u8 0 :: .int .u8 0 :: .int .u8 0 :: .int .u8 0 :: .int .u8 0 :: .int .u8 0 :: .int .u8 0 :: .int .u8 0 :: .int .u8 0 :: .int .u8 0 :: .int .u8 0 :: .int .u8 0 :: .int .u8 0 :: .int .u8 0 :: .int .u8 0 :: .int .u8 0 :: .int .u8 0 :: .int .u8 0 :: .int .u8 0 :: .int .u8 0 :: .int .u8 0 :: .int .i64 0 :: .int .i64 0 :: .int .i64 0 :: [] : List Value) : Array Value) hXz.out hz_info rfl hz_one ?_))
  exact bodyPost_ret (results_row_tmp (fn := Tryd.f13) rfl _ _ (w.heap.size + 1) 29 (List.toArray (.int .i64 0 :: .int .i64 0 :: .int .i64 0 :: .int .i64 0 :: .int .i64 0 :: .int .i64 0 :: .int .i64 0 :: .int .u8 0 :: .int .u8 0 :: .int .u8 0 :: .int .u8 0 :: .int .u8 0 :: .int .u8 0 :: .int .u8 0 :: .int .u8 0 :: .int .u8 0 :: .int .u8 0 :: .int .u8 0 :: .int .u8 0 :: .int .u8 0 :: .int .u8 0 :: .int .u8 0 :: .int .u8 0 :: .int .u8 0 :: .int .u8 0 :: .int .u8 0 :: .int .u8 0 :: .int .u8 0 :: .int .u8 0 :: .int .u8 0 :: .int .u8 0 :: .int .u8 0 :: .int .u8 0 :: .int .u8 0 :: .int .u8 0 :: .int .u8 0 :: .int .u8 0 :: .int .u8 0 :: .int .u8 0 :: .int .i64 0 :: .int .i64 0 :: .int .i64 0 :: [] : List Value) : Array Value) (0, 0) _ _ rfl rfl (setRow_heap _ _ _ _ _ _ hXz.out) Tryd.underlying29 rfl hz_info) rfl ⟨by rw [hz_eq]; rfl, below_row hXb.out (Nat.le_add_right _ _) _⟩

set_option maxHeartbeats 2000000 in
theorem hmake_form (x : Int) (h : Hd) (w : World) (k : h.ok) (hx : btB x 1 1073741788 = true) (hf : h.fm = false) :
    Calls Tryd.prog 13 #[.int .i64 x, .agg h.C.toArray] w fun e w' => e = .returned (.tuple #[.agg hz.C.toArray, .int .i64 480]) ∧ Below w.heap.size w w' := by
  obtain ⟨C, hC⟩ : ∃ C, C = h.C := ⟨_, rfl⟩
  have IC : Seal ((Tryd.prog.info? 29).map (·.size) = some C.toArray.size) := ⟨by rw [hC, List.size_toArray]; exact Hd.C_info k.t32⟩
  obtain ⟨X, hX⟩ : ∃ X : World, X = (w.alloc (.cells C.toArray 29)).alloc (.cells (List.toArray (.int .i64 0 :: .int .i64 0 :: .int .i64 0 :: .int .i64 0 :: .int .i64 0 :: .int .i64 0 :: .int .i64 0 :: .int .u8 0 :: .int .u8 0 :: .int .u8 0 :: .int .u8 0 :: .int .u8 0 :: .int .u8 0 :: .int .u8 0 :: .int .u8 0 :: .int .u8 0 :: .int .u8 0 :: .int .u8 0 :: .int .u8 0 :: .int .u8 0 :: .int .u8 0 :: .int .u8 0 :: .int .u8 0 :: .int .u8 0 :: .int .u8 0 :: .int .u8 0 :: .int .u8 0 :: .int .u8 0 :: .int .u8 0 :: .int .u8 0 :: .int .u8 0 :: .int .u8 0 :: .int .u8 0 :: .int .u8 0 :: .int .u8 0 :: .int .u8 0 :: .int .u8 0 :: .int .u8 0 :: .int .u8 0 :: .int .i64 0 :: .int .i64 0 :: .int .i64 0 :: [] : List Value) : Array Value) 29) := ⟨_, rfl⟩
  have hXb : Seal (Below w.heap.size w X) := ⟨by rw [hX]; exact ((Below.refl _ w).alloc (Nat.le_refl _) _).alloc (by simp) _⟩
  have hXn : Seal (X.heap[w.heap.size]? = some (.cells C.toArray 29 (0, 0))) := ⟨by rw [hX]; exact heap_alloc2_old w _ _⟩
  have hXz : Seal (X.heap[w.heap.size + 1]? = some (.cells (List.toArray (.int .i64 0 :: .int .i64 0 :: .int .i64 0 :: .int .i64 0 :: .int .i64 0 :: .int .i64 0 :: .int .i64 0 :: .int .u8 0 :: .int .u8 0 :: .int .u8 0 :: .int .u8 0 :: .int .u8 0 :: .int .u8 0 :: .int .u8 0 :: .int .u8 0 :: .int .u8 0 :: .int .u8 0 :: .int .u8 0 :: .int .u8 0 :: .int .u8 0 :: .int .u8 0 :: .int .u8 0 :: .int .u8 0 :: .int .u8 0 :: .int .u8 0 :: .int .u8 0 :: .int .u8 0 :: .int .u8 0 :: .int .u8 0 :: .int .u8 0 :: .int .u8 0 :: .int .u8 0 :: .int .u8 0 :: .int .u8 0 :: .int .u8 0 :: .int .u8 0 :: .int .u8 0 :: .int .u8 0 :: .int .u8 0 :: .int .i64 0 :: .int .i64 0 :: .int .i64 0 :: [] : List Value) : Array Value) 29 (0, 0))) := ⟨by rw [hX]; exact heap_alloc2_new w _ _⟩
  have hXs : Seal (w.heap.size + 1 < X.heap.size) := ⟨(Array.getElem?_eq_some_iff.1 hXz.out).1⟩
  have HF : Seal (∀ W, Calls Tryd.prog 46 #[.agg C.toArray] W fun e w' => e = .returned (.bool h.fm) ∧ Below W.heap.size W w') := ⟨fun W => by rw [hC]; exact hformed_any h W k.t32⟩
  have HX : Seal (∀ W, Calls Tryd.prog 48 #[.agg C.toArray] W (ListPost h.tx W)) := ⟨fun W => by rw [hC]; exact hhand_any h W k⟩
  have HL := Seal.mk (Hd.tx_len k.t32)
  have HCq := Seal.mk hC
  have HT := Seal.mk k.t32
  rw [← hC]
  clear hC k
  go_enter Tryd.func13, Tryd.ntmps13
  go_upto_region 1 with (fail)
  rw [← hX]
  clear hX
  go_wp2_with fail
  refine (bt_at x 1 1073741788 _ X hx).mono ?_
  rintro e w1 ⟨rfl, rfl⟩
  go_wp2_with (refine wpList_load_row rfl 29 (.tmp 3) rfl w.heap.size rfl 29 C.toArray (0, 0) _ hXn.out Tryd.underlying29 rfl IC.out ?_)
  refine (HF.out X).mono ?_
  rw [hf]
  rintro e w1 ⟨rfl, hb1⟩
  have HB1 : Seal (Below w.heap.size w w1) := ⟨hXb.out.trans (hb1.mono hXb.out.size)⟩
  have RC1 := Seal.mk (blk hb1 (by have := hXs.out; omega) hXn.out)
  have RZ1 := Seal.mk (blk hb1 hXs.out hXz.out)
  clear hb1
  go_wp2_with (first | (refine wpList_load_row rfl 29 (.tmp 4) rfl (w.heap.size + 1) rfl 29 (List.toArray (.int .i64 0 :: .int .i64 0 :: .int .i64 0 :: .int .i64 0 :: .int .i64 0 :: .int .i64 0 :: .int .i64 0 :: .int .u8 0 :: .int .u8 0 :: .int .u8 0 :: .int .u8 0 :: .int .u8 0 :: .int .u8 0 :: .int .u8 0 :: .int .u8 0 :: .int .u8 0 :: .int .u8 0 :: .int .u8 0 :: .int .u8 0 :: .int .u8 0 :: .int .u8 0 :: .int .u8 0 :: .int .u8 0 :: .int .u8 0 :: .int .u8 0 :: .int .u8 0 :: .int .u8 0 :: .int .u8 0 :: .int .u8 0 :: .int .u8 0 :: .int .u8 0 :: .int .u8 0 :: .int .u8 0 :: .int .u8 0 :: .int .u8 0 :: .int .u8 0 :: .int .u8 0 :: .int .u8 0 :: .int .u8 0 :: .int .i64 0 :: .int .i64 0 :: .int .i64 0 :: [] : List Value) : Array Value) (0, 0) _ RZ1.out Tryd.underlying29 rfl hz_info ?_) | (refine wpList_store_row rfl 29 (.tmp 4) (.tmp 13) rfl (w.heap.size + 1) (List.toArray (.int .i64 0 :: .int .i64 0 :: .int .i64 0 :: .int .i64 0 :: .int .i64 0 :: .int .i64 0 :: .int .i64 0 :: .int .u8 0 :: .int .u8 0 :: .int .u8 0 :: .int .u8 0 :: .int .u8 0 :: .int .u8 0 :: .int .u8 0 :: .int .u8 0 :: .int .u8 0 :: .int .u8 0 :: .int .u8 0 :: .int .u8 0 :: .int .u8 0 :: .int .u8 0 :: .int .u8 0 :: .int .u8 0 :: .int .u8 0 :: .int .u8 0 :: .int .u8 0 :: .int .u8 0 :: .int .u8 0 :: .int .u8 0 :: .int .u8 0 :: .int .u8 0 :: .int .u8 0 :: .int .u8 0 :: .int .u8 0 :: .int .u8 0 :: .int .u8 0 :: .int .u8 0 :: .int .u8 0 :: .int .u8 0 :: .int .i64 0 :: .int .i64 0 :: .int .i64 0 :: [] : List Value) : Array Value) rfl rfl 29 (List.toArray (.int .i64 0 :: .int .i64 0 :: .int .i64 0 :: .int .i64 0 :: .int .i64 0 :: .int .i64 0 :: .int .i64 0 :: .int .u8 0 :: .int .u8 0 :: .int .u8 0 :: .int .u8 0 :: .int .u8 0 :: .int .u8 0 :: .int .u8 0 :: .int .u8 0 :: .int .u8 0 :: .int .u8 0 :: .int .u8 0 :: .int .u8 0 :: .int .u8 0 :: .int .u8 0 :: .int .u8 0 :: .int .u8 0 :: .int .u8 0 :: .int .u8 0 :: .int .u8 0 :: .int .u8 0 :: .int .u8 0 :: .int .u8 0 :: .int .u8 0 :: .int .u8 0 :: .int .u8 0 :: .int .u8 0 :: .int .u8 0 :: .int .u8 0 :: .int .u8 0 :: .int .u8 0 :: .int .u8 0 :: .int .u8 0 :: .int .i64 0 :: .int .i64 0 :: .int .i64 0 :: [] : List Value) : Array Value) RZ1.out hz_info rfl hz_one ?_))
  exact bodyPost_ret (results_row_tmp (fn := Tryd.f13) rfl _ _ (w.heap.size + 1) 29 (List.toArray (.int .i64 0 :: .int .i64 0 :: .int .i64 0 :: .int .i64 0 :: .int .i64 0 :: .int .i64 0 :: .int .i64 0 :: .int .u8 0 :: .int .u8 0 :: .int .u8 0 :: .int .u8 0 :: .int .u8 0 :: .int .u8 0 :: .int .u8 0 :: .int .u8 0 :: .int .u8 0 :: .int .u8 0 :: .int .u8 0 :: .int .u8 0 :: .int .u8 0 :: .int .u8 0 :: .int .u8 0 :: .int .u8 0 :: .int .u8 0 :: .int .u8 0 :: .int .u8 0 :: .int .u8 0 :: .int .u8 0 :: .int .u8 0 :: .int .u8 0 :: .int .u8 0 :: .int .u8 0 :: .int .u8 0 :: .int .u8 0 :: .int .u8 0 :: .int .u8 0 :: .int .u8 0 :: .int .u8 0 :: .int .u8 0 :: .int .i64 0 :: .int .i64 0 :: .int .i64 0 :: [] : List Value) : Array Value) (0, 0) _ _ rfl rfl (setRow_heap _ _ _ _ _ _ RZ1.out) Tryd.underlying29 rfl hz_info) rfl ⟨by rw [hz_eq]; rfl, below_row HB1.out (Nat.le_add_right _ _) _⟩

set_option maxHeartbeats 4000000 in
theorem hmake_ok (x : Int) (h : Hd) (w : World) (k : h.ok) (hx : btB x 1 1073741788 = true) (hf : h.fm = true) (hG : Glob w) :
    Calls Tryd.prog 13 #[.int .i64 x, .agg h.C.toArray] w fun e w' => e = .returned (.tuple #[.agg (h.sg (sgE x h.tx) (sgS x h.tx)).C.toArray, .int .i64 0]) ∧ Below w.heap.size w w' := by
  have HG := Seal.mk hG
  have HR : Seal (1 ≤ x ∧ x < 1073741789) := ⟨by unfold btB at hx; simp at hx; omega⟩
  clear hG
  obtain ⟨C, hC⟩ : ∃ C, C = h.C := ⟨_, rfl⟩
  have IC : Seal ((Tryd.prog.info? 29).map (·.size) = some C.toArray.size) := ⟨by rw [hC, List.size_toArray]; exact Hd.C_info k.t32⟩
  obtain ⟨X, hX⟩ : ∃ X : World, X = (w.alloc (.cells C.toArray 29)).alloc (.cells (List.toArray (.int .i64 0 :: .int .i64 0 :: .int .i64 0 :: .int .i64 0 :: .int .i64 0 :: .int .i64 0 :: .int .i64 0 :: .int .u8 0 :: .int .u8 0 :: .int .u8 0 :: .int .u8 0 :: .int .u8 0 :: .int .u8 0 :: .int .u8 0 :: .int .u8 0 :: .int .u8 0 :: .int .u8 0 :: .int .u8 0 :: .int .u8 0 :: .int .u8 0 :: .int .u8 0 :: .int .u8 0 :: .int .u8 0 :: .int .u8 0 :: .int .u8 0 :: .int .u8 0 :: .int .u8 0 :: .int .u8 0 :: .int .u8 0 :: .int .u8 0 :: .int .u8 0 :: .int .u8 0 :: .int .u8 0 :: .int .u8 0 :: .int .u8 0 :: .int .u8 0 :: .int .u8 0 :: .int .u8 0 :: .int .u8 0 :: .int .i64 0 :: .int .i64 0 :: .int .i64 0 :: [] : List Value) : Array Value) 29) := ⟨_, rfl⟩
  have hXb : Seal (Below w.heap.size w X) := ⟨by rw [hX]; exact ((Below.refl _ w).alloc (Nat.le_refl _) _).alloc (by simp) _⟩
  have hXn : Seal (X.heap[w.heap.size]? = some (.cells C.toArray 29 (0, 0))) := ⟨by rw [hX]; exact heap_alloc2_old w _ _⟩
  have hXz : Seal (X.heap[w.heap.size + 1]? = some (.cells (List.toArray (.int .i64 0 :: .int .i64 0 :: .int .i64 0 :: .int .i64 0 :: .int .i64 0 :: .int .i64 0 :: .int .i64 0 :: .int .u8 0 :: .int .u8 0 :: .int .u8 0 :: .int .u8 0 :: .int .u8 0 :: .int .u8 0 :: .int .u8 0 :: .int .u8 0 :: .int .u8 0 :: .int .u8 0 :: .int .u8 0 :: .int .u8 0 :: .int .u8 0 :: .int .u8 0 :: .int .u8 0 :: .int .u8 0 :: .int .u8 0 :: .int .u8 0 :: .int .u8 0 :: .int .u8 0 :: .int .u8 0 :: .int .u8 0 :: .int .u8 0 :: .int .u8 0 :: .int .u8 0 :: .int .u8 0 :: .int .u8 0 :: .int .u8 0 :: .int .u8 0 :: .int .u8 0 :: .int .u8 0 :: .int .u8 0 :: .int .i64 0 :: .int .i64 0 :: .int .i64 0 :: [] : List Value) : Array Value) 29 (0, 0))) := ⟨by rw [hX]; exact heap_alloc2_new w _ _⟩
  have hXs : Seal (w.heap.size + 1 < X.heap.size) := ⟨(Array.getElem?_eq_some_iff.1 hXz.out).1⟩
  have HF : Seal (∀ W, Calls Tryd.prog 46 #[.agg C.toArray] W fun e w' => e = .returned (.bool h.fm) ∧ Below W.heap.size W w') := ⟨fun W => by rw [hC]; exact hformed_any h W k.t32⟩
  have HX : Seal (∀ W, Calls Tryd.prog 48 #[.agg C.toArray] W (ListPost h.tx W)) := ⟨fun W => by rw [hC]; exact hhand_any h W k⟩
  have HL := Seal.mk (Hd.tx_len k.t32)
  have HCq := Seal.mk hC
  have HT := Seal.mk k.t32
  rw [← hC]
  clear hC k
  go_enter Tryd.func13, Tryd.ntmps13
  go_upto_region 1 with (fail)
  rw [← hX]
  clear hX
  go_wp2_with fail
  refine (bt_at x 1 1073741788 _ X hx).mono ?_
  rintro e w1 ⟨rfl, rfl⟩
  go_wp2_with (refine wpList_load_row rfl 29 (.tmp 3) rfl w.heap.size rfl 29 C.toArray (0, 0) _ hXn.out Tryd.underlying29 rfl IC.out ?_)
  refine (HF.out X).mono ?_
  rw [hf]
  rintro e w1 ⟨rfl, hb1⟩
  have HB1 : Seal (Below w.heap.size w w1) := ⟨hXb.out.trans (hb1.mono hXb.out.size)⟩
  have RC1 := Seal.mk (blk hb1 (by have := hXs.out; omega) hXn.out)
  have RZ1 := Seal.mk (blk hb1 hXs.out hXz.out)
  clear hb1
  go_wp2_with (refine wpList_load_row rfl 29 (.tmp 3) rfl w.heap.size rfl 29 C.toArray (0, 0) _ RC1.out Tryd.underlying29 rfl IC.out ?_)
  refine (HX.out w1).mono ?_
  rintro e w2 ⟨g', n', c', hn, rfl, hf2⟩
  have hb2 := hf2.out.2.2.2.2
  have HIB : Seal (IsB w2 (some ⟨g', 0, none⟩) n' c' h.tx ∧ n' ≤ 1099511627776) := ⟨⟨hn.out, hf2.out.1, by rw [← hn.out]; have := HL.out; omega, hf2.out.2.1, .inr ⟨g', 0, rfl, hf2.out.2.2.2.1, hf2.out.2.2.1⟩⟩, by rw [← hn.out]; have := HL.out; omega⟩
  have HB2 : Seal (Below w.heap.size w w2) := ⟨HB1.out.trans (hb2.mono HB1.out.size)⟩
  have RC2 := Seal.mk (blk hb2 (Array.getElem?_eq_some_iff.1 RC1.out).1 RC1.out)
  have RZ2 := Seal.mk (blk hb2 (Array.getElem?_eq_some_iff.1 RZ1.out).1 RZ1.out)
  clear hf2 hb2 RC1 RZ1
  obtain ⟨E, hE⟩ : ∃ E : Int, ((sgE x h.tx : Nat) : Int) = E := ⟨_, rfl⟩
  obtain ⟨S, hS⟩ : ∃ S : Int, sgS x h.tx = S := ⟨_, rfl⟩
  have HSg : Seal (Calls Tryd.prog 47 #[.int .i64 x, .slice (some ⟨g', 0, none⟩) n' c'] w2 fun e w' => e = .returned (.tuple #[.agg #[.int .i64 E, .int .i64 S], .int .i64 0]) ∧ Below w2.heap.size w2 w') := ⟨by rw [← hE, ← hS]; exact sign_yes x _ n' c' h.tx w2 HR.out.1 HR.out.2 HIB.out.1 HIB.out.2 (HG.out.below HB2.out)⟩
  have HES := Seal.mk (And.intro hE hS)
  clear hE hS
  go_wp2_with fail
  refine HSg.out.mono ?_
  rintro e w3 ⟨rfl, hb3⟩
  have HB3 : Seal (Below w.heap.size w w3) := ⟨HB2.out.trans (hb3.mono HB2.out.size)⟩
  have RC3 := blk hb3 (Array.getElem?_eq_some_iff.1 RC2.out).1 RC2.out
  have RZ3 := blk hb3 (Array.getElem?_eq_some_iff.1 RZ2.out).1 RZ2.out
  clear hb3 RC2 RZ2 HIB
  obtain ⟨F, hF⟩ : ∃ F, F = (h.sg E S).C := ⟨_, rfl⟩
  have hi := Hd.C_hi HT.out
  rw [← HCq.out] at hi
  have k40 : w3.cell? ⟨w.heap.size, 40, none⟩ = some (.int .i64 h.E) := by rw [cell_of_row _ _ _ _ _ _ RC3]; simpa using hi.2.1
  have k41 : w3.cell? ⟨w.heap.size, 41, none⟩ = some (.int .i64 h.S) := by rw [cell_of_row _ _ _ _ _ _ RC3]; simpa using hi.2.2
  have f40 : w3.frozen? ⟨w.heap.size, 40, none⟩ = false := frozen_of_row _ _ _ _ _ RC3
  have f41 : w3.frozen? ⟨w.heap.size, 41, none⟩ = false := frozen_of_row _ _ _ _ _ RC3
  have hr4 := heap_setCell_row (i := 41) (.int .i64 S) (heap_setCell_row (i := 40) (.int .i64 E) RC3)
  rw [HCq.out, Hd.C_set HT.out, ← hF] at hr4
  have RF : Seal (((w3.setCell ⟨w.heap.size, 40, none⟩ (.int .i64 E)).setCell ⟨w.heap.size, 41, none⟩ (.int .i64 S)).heap[w.heap.size]? = some (.cells F.toArray 29 (0, 0))) := ⟨hr4⟩
  have RZ : Seal (((w3.setCell ⟨w.heap.size, 40, none⟩ (.int .i64 E)).setCell ⟨w.heap.size, 41, none⟩ (.int .i64 S)).heap[w.heap.size + 1]? = some (.cells (List.toArray (.int .i64 0 :: .int .i64 0 :: .int .i64 0 :: .int .i64 0 :: .int .i64 0 :: .int .i64 0 :: .int .i64 0 :: .int .u8 0 :: .int .u8 0 :: .int .u8 0 :: .int .u8 0 :: .int .u8 0 :: .int .u8 0 :: .int .u8 0 :: .int .u8 0 :: .int .u8 0 :: .int .u8 0 :: .int .u8 0 :: .int .u8 0 :: .int .u8 0 :: .int .u8 0 :: .int .u8 0 :: .int .u8 0 :: .int .u8 0 :: .int .u8 0 :: .int .u8 0 :: .int .u8 0 :: .int .u8 0 :: .int .u8 0 :: .int .u8 0 :: .int .u8 0 :: .int .u8 0 :: .int .u8 0 :: .int .u8 0 :: .int .u8 0 :: .int .u8 0 :: .int .u8 0 :: .int .u8 0 :: .int .u8 0 :: .int .i64 0 :: .int .i64 0 :: .int .i64 0 :: [] : List Value) : Array Value) 29 (0, 0))) := ⟨(Below.heap_setCell _ _ _ _ (by simp)).trans ((Below.heap_setCell _ _ _ _ (by simp)).trans RZ3)⟩
  have HB4 : Seal (Below w.heap.size w ((w3.setCell ⟨w.heap.size, 40, none⟩ (.int .i64 E)).setCell ⟨w.heap.size, 41, none⟩ (.int .i64 S))) := ⟨(HB3.out.setCell (p := ⟨w.heap.size, 40, none⟩) (Nat.le_refl _) _).setCell (p := ⟨w.heap.size, 41, none⟩) (Nat.le_refl _) _⟩
  have IF : Seal ((Tryd.prog.info? 29).map (·.size) = some F.toArray.size) := ⟨by rw [hF, List.size_toArray]; exact Hd.C_info HT.out⟩
  have SF : Seal (((List.toArray (.int .i64 0 :: .int .i64 0 :: .int .i64 0 :: .int .i64 0 :: .int .i64 0 :: .int .i64 0 :: .int .i64 0 :: .int .u8 0 :: .int .u8 0 :: .int .u8 0 :: .int .u8 0 :: .int .u8 0 :: .int .u8 0 :: .int .u8 0 :: .int .u8 0 :: .int .u8 0 :: .int .u8 0 :: .int .u8 0 :: .int .u8 0 :: .int .u8 0 :: .int .u8 0 :: .int .u8 0 :: .int .u8 0 :: .int .u8 0 :: .int .u8 0 :: .int .u8 0 :: .int .u8 0 :: .int .u8 0 :: .int .u8 0 :: .int .u8 0 :: .int .u8 0 :: .int .u8 0 :: .int .u8 0 :: .int .u8 0 :: .int .u8 0 :: .int .u8 0 :: .int .u8 0 :: .int .u8 0 :: .int .u8 0 :: .int .i64 0 :: .int .i64 0 :: .int .i64 0 :: [] : List Value) : Array Value) : Array Value).size = F.toArray.size) := ⟨by show 42 = F.toArray.size; rw [hF, List.size_toArray, Hd.C_len (h := h.sg E S) HT.out]⟩
  have AF : Seal (F.toArray.all (·.oneCell') = true) := ⟨by rw [hF]; exact all_oneCell_toArray (Hd.C_one _)⟩
  have HFq := Seal.mk hF
  clear hF RC3 RZ3 hi hr4
  go_wp2_with (first | (refine wpList_load_row rfl 29 (.tmp 3) rfl w.heap.size rfl 29 F.toArray (0, 0) _ RF.out Tryd.underlying29 rfl IF.out ?_) | (refine wpList_store_row rfl 29 (.tmp 4) (.tmp 26) rfl (w.heap.size + 1) F.toArray rfl rfl 29 (List.toArray (.int .i64 0 :: .int .i64 0 :: .int .i64 0 :: .int .i64 0 :: .int .i64 0 :: .int .i64 0 :: .int .i64 0 :: .int .u8 0 :: .int .u8 0 :: .int .u8 0 :: .int .u8 0 :: .int .u8 0 :: .int .u8 0 :: .int .u8 0 :: .int .u8 0 :: .int .u8 0 :: .int .u8 0 :: .int .u8 0 :: .int .u8 0 :: .int .u8 0 :: .int .u8 0 :: .int .u8 0 :: .int .u8 0 :: .int .u8 0 :: .int .u8 0 :: .int .u8 0 :: .int .u8 0 :: .int .u8 0 :: .int .u8 0 :: .int .u8 0 :: .int .u8 0 :: .int .u8 0 :: .int .u8 0 :: .int .u8 0 :: .int .u8 0 :: .int .u8 0 :: .int .u8 0 :: .int .u8 0 :: .int .u8 0 :: .int .i64 0 :: .int .i64 0 :: .int .i64 0 :: [] : List Value) : Array Value) RZ.out IF.out SF.out AF.out ?_))
  exact bodyPost_ret (results_row_tmp (fn := Tryd.f13) rfl _ _ (w.heap.size + 1) 29 F.toArray (0, 0) _ _ rfl rfl (setRow_heap _ _ _ _ _ _ RZ.out) Tryd.underlying29 rfl IF.out) rfl ⟨by rw [HFq.out, ← HES.out.1, ← HES.out.2]; rfl, below_row HB4.out (Nat.le_add_right _ _) _⟩

theorem hmake_any (x : Int) (h : Hd) (w : World) (k : h.ok) (hG : Glob w) :
    Calls Tryd.prog 13 #[.int .i64 x, .agg h.C.toArray] w fun e w' => e = .returned (.tuple #[.agg (mkF x h).1.C.toArray, .int .i64 (mkF x h).2]) ∧ Below w.heap.size w w' := by
  unfold mkF
  cases hx : btB x 1 1073741788 with
  | false => exact hmake_key x h w k hx
  | true =>
    cases hf : h.fm with
    | false => exact hmake_form x h w k hx hf
    | true => exact hmake_ok x h w k hx hf hG

/-! ## the reference -/
/-- the same slot -/
def slB (a b : Hd) : Bool := (a.L == b.L && (a.A == b.A && a.R == b.R)) && (a.leg == b.leg && a.fr == b.fr)
/-- do hand-overs contradict each other? -/
def clB (a b : Hd) : Bool := a.fm && (b.fm && (slB a b && !(hdB (a.sg 0 0) (b.sg 0 0))))

set_option maxHeartbeats 2000000 in
theorem clash_a (a b : Hd) (ta tb ts : Bool) (w : World) (ka : a.T.length = 32) (kb : b.T.length = 32) (hta : a.fm = ta) (htb : b.fm = tb) (hts : slB a b = ts) (h0 : ta = false) :
    Calls Tryd.prog 20 #[.agg a.C.toArray, .agg b.C.toArray] w fun e w' => e = .returned (.bool false) ∧ Below w.heap.size w w' := by
  unfold slB at hts
  obtain ⟨CA, hCA⟩ : ∃ CA, CA = a.C := ⟨_, rfl⟩
  obtain ⟨CB, hCB⟩ : ∃ CB, CB = b.C := ⟨_, rfl⟩
  have uH := Tryd.underlying29
  have iA : (Tryd.prog.info? 29).map (·.size) = some CA.length := by rw [hCA]; exact Hd.C_info ka
  have iB : (Tryd.prog.info? 29).map (·.size) = some CB.length := by rw [hCB]; exact Hd.C_info kb
  obtain ⟨X, hX⟩ : ∃ X : World, X = (w.alloc (.cells CA.toArray 29)).alloc (.cells CB.toArray 29) := ⟨_, rfl⟩
  have hXb : Seal (Below w.heap.size w X) := ⟨by rw [hX]; exact ((Below.refl _ w).alloc (Nat.le_refl _) _).alloc (by simp) _⟩
  have hXa : X.heap[w.heap.size]? = some (.cells CA.toArray 29 (0, 0)) := by rw [hX]; exact heap_alloc2_old w _ _
  have hXc : X.heap[w.heap.size + 1]? = some (.cells CB.toArray 29 (0, 0)) := by rw [hX]; exact heap_alloc2_new w _ _
  have rA : X.rangeAt w.heap.size 0 CA := rangeAt_row hXa
  have rB : X.rangeAt (w.heap.size + 1) 0 CB := rangeAt_row hXc
  have HXs := Seal.mk (And.intro hXa hXc)
  have HFA : Seal (∀ W, Calls Tryd.prog 46 #[.agg CA.toArray] W fun e w' => e = .returned (.bool ta) ∧ Below W.heap.size W w') := ⟨fun W => by rw [hCA, ← hta]; exact hformed_any a W ka⟩
  have HFB : Seal (∀ W, Calls Tryd.prog 46 #[.agg CB.toArray] W fun e w' => e = .returned (.bool tb) ∧ Below W.heap.size W w') := ⟨fun W => by rw [hCB, ← htb]; exact hformed_any b W kb⟩
  have HSA : Seal (∀ W, Calls Tryd.prog 55 #[.agg CA.toArray] W fun e w' => e = .returned (.agg #[.int .i64 a.L, .int .i64 a.A, .int .i64 a.R, .int .i64 a.leg, .int .i64 a.fr]) ∧ Below W.heap.size W w') := ⟨fun W => by rw [hCA]; exact hslot_any a W ka⟩
  have HSB : Seal (∀ W, Calls Tryd.prog 55 #[.agg CB.toArray] W fun e w' => e = .returned (.agg #[.int .i64 b.L, .int .i64 b.A, .int .i64 b.R, .int .i64 b.leg, .int .i64 b.fr]) ∧ Below W.heap.size W w') := ⟨fun W => by rw [hCB]; exact hslot_any b W kb⟩
  have heq : ∀ W, (Op.equalIn 10000 92 (.agg #[.int .i64 a.L, .int .i64 a.A, .int .i64 a.R, .int .i64 a.leg, .int .i64 a.fr]) (.agg #[.int .i64 b.L, .int .i64 b.A, .int .i64 b.R, .int .i64 b.leg, .int .i64 b.fr])).run Tryd.prog W = .ok ts W := fun W => by rw [← hts]; exact eqSlot _ _ _ _ _ _ _ _ _ _ W
  have HC := Seal.mk (And.intro hCA hCB)
  have HK := Seal.mk (And.intro ka kb)
  rw [← hCA, ← hCB]
  clear hXa hXc hCA hCB ka kb hta htb hts
  go_enter Tryd.func20, Tryd.ntmps20
  go_upto_region 1 with (fail)
  rw [← hX]
  clear hX
  refine wp_region_held_drew (S := fun w' => w'.rangeAt w.heap.size 0 CA ∧ w'.rangeAt (w.heap.size + 1) 0 CB) (by kernel_rfl) ⟨rA, rB⟩ (fun hHeld => ?_)
  refine take_h 0 _ rfl (by kernel_rfl) (by kernel_rfl) (by kernel_rfl) (fun _ _ _ h => h) (yieldsIf_load_mid (by kernel_rfl) 29 (.tmp 2) rfl w.heap.size 0 rfl CA _ (fun w hSw => hSw.1) uH rfl iA) (by assumption) ?_
  try simp only [Act.put, List.setIfInBounds_toArray, List.set_cons_zero, List.set_cons_succ]
  refine call_h 1 rfl (by kernel_rfl) 46 #[.agg CA.toArray] (by kernel_rfl) (by go_simp) ?_
  refine (HFA.out X.drew).mono ?_
  rintro e w1 ⟨rfl, hb1⟩
  have hb2 : Below X.heap.size X w1 := ⟨hb1.os, hb1.tape, hb1.output, hb1.size, hb1.block⟩
  have HB1 : Seal (Below w.heap.size w w1) := ⟨hXb.out.trans (hb2.mono hXb.out.size)⟩
  have HX1 : Seal (Below X.heap.size X w1) := ⟨hb2⟩
  refine ⟨_, rfl, ⟨rangeAt_below' rA hb2, rangeAt_below' rB hb2⟩, fun hHeld2 => ?_⟩
  clear hHeld hb1 hb2 rA rB
  try simp only [Act.put, List.setIfInBounds_toArray, List.set_cons_zero, List.set_cons_succ]
  subst h0
  refine take_h 2 ?_ rfl (by kernel_rfl) (by kernel_rfl) (by kernel_rfl) (fun _ _ _ h => h) (Or.inl ⟨by kernel_rfl, ?_⟩) (by assumption) ?_
  rotate_left
  · (intro w hSw; (try dsimp only at hSw); go_simp; try (with_reducible rfl))
  try simp only [Act.put, List.setIfInBounds_toArray, List.set_cons_zero, List.set_cons_succ]
  refine take_h 3 ?_ rfl (by kernel_rfl) (by kernel_rfl) (by kernel_rfl) (fun _ _ _ h => h) (Or.inl ⟨by kernel_rfl, ?_⟩) (by assumption) ?_
  rotate_left
  · (intro w hSw; (try dsimp only at hSw); go_simp; try (with_reducible rfl))
  try simp only [Act.put, List.setIfInBounds_toArray, List.set_cons_zero, List.set_cons_succ]
  refine take_h 4 undef rfl (by kernel_rfl) (by kernel_rfl) (by kernel_rfl) (fun _ _ _ h => h) (Or.inr ⟨by kernel_rfl, rfl⟩) (by assumption) ?_
  try simp only [Act.put, List.setIfInBounds_toArray, List.set_cons_zero, List.set_cons_succ]
  refine take_h 5 undef rfl (by kernel_rfl) (by kernel_rfl) (by kernel_rfl) (fun _ _ _ h => h) (Or.inr ⟨by kernel_rfl, rfl⟩) (by assumption) ?_
  try simp only [Act.put, List.setIfInBounds_toArray, List.set_cons_zero, List.set_cons_succ]
  refine take_h 6 undef rfl (by kernel_rfl) (by kernel_rfl) (by kernel_rfl) (fun _ _ _ h => h) (Or.inr ⟨by kernel_rfl, rfl⟩) (by assumption) ?_
  try simp only [Act.put, List.setIfInBounds_toArray, List.set_cons_zero, List.set_cons_succ]
  refine take_h 7 ?_ rfl (by kernel_rfl) (by kernel_rfl) (by kernel_rfl) (fun _ _ _ h => h) (Or.inl ⟨by kernel_rfl, ?_⟩) (by assumption) ?_
  rotate_left
  · (intro w hSw; (try dsimp only at hSw); go_simp; try (with_reducible rfl))
  try simp only [Act.put, List.setIfInBounds_toArray, List.set_cons_zero, List.set_cons_succ]
  refine take_h 8 ?_ rfl (by kernel_rfl) (by kernel_rfl) (by kernel_rfl) (fun _ _ _ h => h) (Or.inl ⟨by kernel_rfl, ?_⟩) (by assumption) ?_
  rotate_left
  · (intro w hSw; (try dsimp only at hSw); go_simp; try (with_reducible rfl))
  try simp only [Act.put, List.setIfInBounds_toArray, List.set_cons_zero, List.set_cons_succ]
  refine take_h 9 undef rfl (by kernel_rfl) (by kernel_rfl) (by kernel_rfl) (fun _ _ _ h => h) (Or.inr ⟨by kernel_rfl, rfl⟩) (by assumption) ?_
  try simp only [Act.put, List.setIfInBounds_toArray, List.set_cons_zero, List.set_cons_succ]
  refine take_h 10 undef rfl (by kernel_rfl) (by kernel_rfl) (by kernel_rfl) (fun _ _ _ h => h) (Or.inr ⟨by kernel_rfl, rfl⟩) (by assumption) ?_
  try simp only [Act.put, List.setIfInBounds_toArray, List.set_cons_zero, List.set_cons_succ]
  refine take_h 11 undef rfl (by kernel_rfl) (by kernel_rfl) (by kernel_rfl) (fun _ _ _ h => h) (Or.inr ⟨by kernel_rfl, rfl⟩) (by assumption) ?_
  try simp only [Act.put, List.setIfInBounds_toArray, List.set_cons_zero, List.set_cons_succ]
  refine take_h 12 undef rfl (by kernel_rfl) (by kernel_rfl) (by kernel_rfl) (fun _ _ _ h => h) (Or.inr ⟨by kernel_rfl, rfl⟩) (by assumption) ?_
  try simp only [Act.put, List.setIfInBounds_toArray, List.set_cons_zero, List.set_cons_succ]
  refine take_h 13 undef rfl (by kernel_rfl) (by kernel_rfl) (by kernel_rfl) (fun _ _ _ h => h) (Or.inr ⟨by kernel_rfl, rfl⟩) (by assumption) ?_
  try simp only [Act.put, List.setIfInBounds_toArray, List.set_cons_zero, List.set_cons_succ]
  refine take_h 14 ?_ rfl (by kernel_rfl) (by kernel_rfl) (by kernel_rfl) (fun _ _ _ h => h) (Or.inl ⟨by kernel_rfl, ?_⟩) (by assumption) ?_
  rotate_left
  · (intro w hSw; (try dsimp only at hSw); go_simp; try (with_reducible rfl))
  try simp only [Act.put, List.setIfInBounds_toArray, List.set_cons_zero, List.set_cons_succ]
  refine wpAnyH_done (by kernel_rfl) ?_ _
  clear hHeld2
  go_wp2
  go_ret
  exact ⟨rfl, HB1.out⟩
set_option maxHeartbeats 2000000 in
theorem clash_b (a b : Hd) (ta tb ts : Bool) (w : World) (ka : a.T.length = 32) (kb : b.T.length = 32) (hta : a.fm = ta) (htb : b.fm = tb) (hts : slB a b = ts) (h0 : ta = true) (h1 : tb = false) :
    Calls Tryd.prog 20 #[.agg a.C.toArray, .agg b.C.toArray] w fun e w' => e = .returned (.bool false) ∧ Below w.heap.size w w' := by
  unfold slB at hts
  obtain ⟨CA, hCA⟩ : ∃ CA, CA = a.C := ⟨_, rfl⟩
  obtain ⟨CB, hCB⟩ : ∃ CB, CB = b.C := ⟨_, rfl⟩
  have uH := Tryd.underlying29
  have iA : (Tryd.prog.info? 29).map (·.size) = some CA.length := by rw [hCA]; exact Hd.C_info ka
  have iB : (Tryd.prog.info? 29).map (·.size) = some CB.length := by rw [hCB]; exact Hd.C_info kb
  obtain ⟨X, hX⟩ : ∃ X : World, X = (w.alloc (.cells CA.toArray 29)).alloc (.cells CB.toArray 29) := ⟨_, rfl⟩
  have hXb : Seal (Below w.heap.size w X) := ⟨by rw [hX]; exact ((Below.refl _ w).alloc (Nat.le_refl _) _).alloc (by simp) _⟩
  have hXa : X.heap[w.heap.size]? = some (.cells CA.toArray 29 (0, 0)) := by rw [hX]; exact heap_alloc2_old w _ _
  have hXc : X.heap[w.heap.size + 1]? = some (.cells CB.toArray 29 (0, 0)) := by rw [hX]; exact heap_alloc2_new w _ _
  have rA : X.rangeAt w.heap.size 0 CA := rangeAt_row hXa
  have rB : X.rangeAt (w.heap.size + 1) 0 CB := rangeAt_row hXc
  have HXs := Seal.mk (And.intro hXa hXc)
  have HFA : Seal (∀ W, Calls Tryd.prog 46 #[.agg CA.toArray] W fun e w' => e = .returned (.bool ta) ∧ Below W.heap.size W w') := ⟨fun W => by rw [hCA, ← hta]; exact hformed_any a W ka⟩
  have HFB : Seal (∀ W, Calls Tryd.prog 46 #[.agg CB.toArray] W fun e w' => e = .returned (.bool tb) ∧ Below W.heap.size W w') := ⟨fun W => by rw [hCB, ← htb]; exact hformed_any b W kb⟩
  have HSA : Seal (∀ W, Calls Tryd.prog 55 #[.agg CA.toArray] W fun e w' => e = .returned (.agg #[.int .i64 a.L, .int .i64 a.A, .int .i64 a.R, .int .i64 a.leg, .int .i64 a.fr]) ∧ Below W.heap.size W w') := ⟨fun W => by rw [hCA]; exact hslot_any a W ka⟩
  have HSB : Seal (∀ W, Calls Tryd.prog 55 #[.agg CB.toArray] W fun e w' => e = .returned (.agg #[.int .i64 b.L, .int .i64 b.A, .int .i64 b.R, .int .i64 b.leg, .int .i64 b.fr]) ∧ Below W.heap.size W w') := ⟨fun W => by rw [hCB]; exact hslot_any b W kb⟩
  have heq : ∀ W, (Op.equalIn 10000 92 (.agg #[.int .i64 a.L, .int .i64 a.A, .int .i64 a.R, .int .i64 a.leg, .int .i64 a.fr]) (.agg #[.int .i64 b.L, .int .i64 b.A, .int .i64 b.R, .int .i64 b.leg, .int .i64 b.fr])).run Tryd.prog W = .ok ts W := fun W => by rw [← hts]; exact eqSlot _ _ _ _ _ _ _ _ _ _ W
  have HC := Seal.mk (And.intro hCA hCB)
  have HK := Seal.mk (And.intro ka kb)
  rw [← hCA, ← hCB]
  clear hXa hXc hCA hCB ka kb hta htb hts
  go_enter Tryd.func20, Tryd.ntmps20
  go_upto_region 1 with (fail)
  rw [← hX]
  clear hX
  refine wp_region_held_drew (S := fun w' => w'.rangeAt w.heap.size 0 CA ∧ w'.rangeAt (w.heap.size + 1) 0 CB) (by kernel_rfl) ⟨rA, rB⟩ (fun hHeld => ?_)
  refine take_h 0 _ rfl (by kernel_rfl) (by kernel_rfl) (by kernel_rfl) (fun _ _ _ h => h) (yieldsIf_load_mid (by kernel_rfl) 29 (.tmp 2) rfl w.heap.size 0 rfl CA _ (fun w hSw => hSw.1) uH rfl iA) (by assumption) ?_
  try simp only [Act.put, List.setIfInBounds_toArray, List.set_cons_zero, List.set_cons_succ]
  refine call_h 1 rfl (by kernel_rfl) 46 #[.agg CA.toArray] (by kernel_rfl) (by go_simp) ?_
  refine (HFA.out X.drew).mono ?_
  rintro e w1 ⟨rfl, hb1⟩
  have hb2 : Below X.heap.size X w1 := ⟨hb1.os, hb1.tape, hb1.output, hb1.size, hb1.block⟩
  have HB1 : Seal (Below w.heap.size w w1) := ⟨hXb.out.trans (hb2.mono hXb.out.size)⟩
  have HX1 : Seal (Below X.heap.size X w1) := ⟨hb2⟩
  refine ⟨_, rfl, ⟨rangeAt_below' rA hb2, rangeAt_below' rB hb2⟩, fun hHeld2 => ?_⟩
  clear hHeld hb1 hb2 rA rB
  try simp only [Act.put, List.setIfInBounds_toArray, List.set_cons_zero, List.set_cons_succ]
  subst h0; subst h1
  refine take_h 2 ?_ rfl (by kernel_rfl) (by kernel_rfl) (by kernel_rfl) (fun _ _ _ h => h) (Or.inl ⟨by kernel_rfl, ?_⟩) (by assumption) ?_
  rotate_left
  · (intro w hSw; (try dsimp only at hSw); go_simp; try (with_reducible rfl))
  try simp only [Act.put, List.setIfInBounds_toArray, List.set_cons_zero, List.set_cons_succ]
  refine take_h 3 ?_ rfl (by kernel_rfl) (by kernel_rfl) (by kernel_rfl) (fun _ _ _ h => h) (Or.inl ⟨by kernel_rfl, ?_⟩) (by assumption) ?_
  rotate_left
  · (intro w hSw; (try dsimp only at hSw); go_simp; try (with_reducible rfl))
  try simp only [Act.put, List.setIfInBounds_toArray, List.set_cons_zero, List.set_cons_succ]
  refine take_h 4 _ rfl (by kernel_rfl) (by kernel_rfl) (by kernel_rfl) (fun _ _ _ h => h) (yieldsIf_load_mid (by kernel_rfl) 29 (.tmp 3) rfl (w.heap.size + 1) 0 rfl CB _ (fun w hSw => hSw.2) uH rfl iB) (by assumption) ?_
  try simp only [Act.put, List.setIfInBounds_toArray, List.set_cons_zero, List.set_cons_succ]
  refine call_h 5 rfl (by kernel_rfl) 46 #[.agg CB.toArray] (by kernel_rfl) (by go_simp) ?_
  refine (HFB.out w1).mono ?_
  rintro e w2 ⟨rfl, hb2⟩
  have HB2 : Seal (Below w.heap.size w w2) := ⟨HB1.out.trans (hb2.mono HB1.out.size)⟩
  have HX2 : Seal (Below X.heap.size X w2) := ⟨HX1.out.trans (hb2.mono HX1.out.size)⟩
  refine ⟨_, rfl, ⟨rangeAt_below' hHeld2.1 hb2, rangeAt_below' hHeld2.2 hb2⟩, fun hHeld3 => ?_⟩
  clear hHeld2 hb2
  try simp only [Act.put, List.setIfInBounds_toArray, List.set_cons_zero, List.set_cons_succ]
  refine take_h 6 ?_ rfl (by kernel_rfl) (by kernel_rfl) (by kernel_rfl) (fun _ _ _ h => h) (Or.inl ⟨by kernel_rfl, ?_⟩) (by assumption) ?_
  rotate_left
  · (intro w hSw; (try dsimp only at hSw); go_simp; try (with_reducible rfl))
  try simp only [Act.put, List.setIfInBounds_toArray, List.set_cons_zero, List.set_cons_succ]
  refine take_h 7 ?_ rfl (by kernel_rfl) (by kernel_rfl) (by kernel_rfl) (fun _ _ _ h => h) (Or.inl ⟨by kernel_rfl, ?_⟩) (by assumption) ?_
  rotate_left
  · (intro w hSw; (try dsimp only at hSw); go_simp; try (with_reducible rfl))
  try simp only [Act.put, List.setIfInBounds_toArray, List.set_cons_zero, List.set_cons_succ]
  refine take_h 8 ?_ rfl (by kernel_rfl) (by kernel_rfl) (by kernel_rfl) (fun _ _ _ h => h) (Or.inl ⟨by kernel_rfl, ?_⟩) (by assumption) ?_
  rotate_left
  · (intro w hSw; (try dsimp only at hSw); go_simp; try (with_reducible rfl))
  try simp only [Act.put, List.setIfInBounds_toArray, List.set_cons_zero, List.set_cons_succ]
  refine take_h 9 undef rfl (by kernel_rfl) (by kernel_rfl) (by kernel_rfl) (fun _ _ _ h => h) (Or.inr ⟨by kernel_rfl, rfl⟩) (by assumption) ?_
  try simp only [Act.put, List.setIfInBounds_toArray, List.set_cons_zero, List.set_cons_succ]
  refine take_h 10 undef rfl (by kernel_rfl) (by kernel_rfl) (by kernel_rfl) (fun _ _ _ h => h) (Or.inr ⟨by kernel_rfl, rfl⟩) (by assumption) ?_
  try simp only [Act.put, List.setIfInBounds_toArray, List.set_cons_zero, List.set_cons_succ]
  refine take_h 11 undef rfl (by kernel_rfl) (by kernel_rfl) (by kernel_rfl) (fun _ _ _ h => h) (Or.inr ⟨by kernel_rfl, rfl⟩) (by assumption) ?_
  try simp only [Act.put, List.setIfInBounds_toArray, List.set_cons_zero, List.set_cons_succ]
  refine take_h 12 undef rfl (by kernel_rfl) (by kernel_rfl) (by kernel_rfl) (fun _ _ _ h => h) (Or.inr ⟨by kernel_rfl, rfl⟩) (by assumption) ?_
  try simp only [Act.put, List.setIfInBounds_toArray, List.set_cons_zero, List.set_cons_succ]
  refine take_h 13 undef rfl (by kernel_rfl) (by kernel_rfl) (by kernel_rfl) (fun _ _ _ h => h) (Or.inr ⟨by kernel_rfl, rfl⟩) (by assumption) ?_
  try simp only [Act.put, List.setIfInBounds_toArray, List.set_cons_zero, List.set_cons_succ]
  refine take_h 14 ?_ rfl (by kernel_rfl) (by kernel_rfl) (by kernel_rfl) (fun _ _ _ h => h) (Or.inl ⟨by kernel_rfl, ?_⟩) (by assumption) ?_
  rotate_left
  · (intro w hSw; (try dsimp only at hSw); go_simp; try (with_reducible rfl))
  try simp only [Act.put, List.setIfInBounds_toArray, List.set_cons_zero, List.set_cons_succ]
  refine wpAnyH_done (by kernel_rfl) ?_ _
  clear hHeld3
  go_wp2
  go_ret
  exact ⟨rfl, HB2.out⟩
set_option maxHeartbeats 2000000 in
theorem clash_s (a b : Hd) (ta tb ts : Bool) (w : World) (ka : a.T.length = 32) (kb : b.T.length = 32) (hta : a.fm = ta) (htb : b.fm = tb) (hts : slB a b = ts) (h0 : ta = true) (h1 : tb = true) (h2 : ts = false) :
    Calls Tryd.prog 20 #[.agg a.C.toArray, .agg b.C.toArray] w fun e w' => e = .returned (.bool false) ∧ Below w.heap.size w w' := by
  unfold slB at hts
  obtain ⟨CA, hCA⟩ : ∃ CA, CA = a.C := ⟨_, rfl⟩
  obtain ⟨CB, hCB⟩ : ∃ CB, CB = b.C := ⟨_, rfl⟩
  have uH := Tryd.underlying29
  have iA : (Tryd.prog.info? 29).map (·.size) = some CA.length := by rw [hCA]; exact Hd.C_info ka
  have iB : (Tryd.prog.info? 29).map (·.size) = some CB.length := by rw [hCB]; exact Hd.C_info kb
  obtain ⟨X, hX⟩ : ∃ X : World, X = (w.alloc (.cells CA.toArray 29)).alloc (.cells CB.toArray 29) := ⟨_, rfl⟩
  have hXb : Seal (Below w.heap.size w X) := ⟨by rw [hX]; exact ((Below.refl _ w).alloc (Nat.le_refl _) _).alloc (by simp) _⟩
  have hXa : X.heap[w.heap.size]? = some (.cells CA.toArray 29 (0, 0)) := by rw [hX]; exact heap_alloc2_old w _ _
  have hXc : X.heap[w.heap.size + 1]? = some (.cells CB.toArray 29 (0, 0)) := by rw [hX]; exact heap_alloc2_new w _ _
  have rA : X.rangeAt w.heap.size 0 CA := rangeAt_row hXa
  have rB : X.rangeAt (w.heap.size + 1) 0 CB := rangeAt_row hXc
  have HXs := Seal.mk (And.intro hXa hXc)
  have HFA : Seal (∀ W, Calls Tryd.prog 46 #[.agg CA.toArray] W fun e w' => e = .returned (.bool ta) ∧ Below W.heap.size W w') := ⟨fun W => by rw [hCA, ← hta]; exact hformed_any a W ka⟩
  have HFB : Seal (∀ W, Calls Tryd.prog 46 #[.agg CB.toArray] W fun e w' => e = .returned (.bool tb) ∧ Below W.heap.size W w') := ⟨fun W => by rw [hCB, ← htb]; exact hformed_any b W kb⟩
  have HSA : Seal (∀ W, Calls Tryd.prog 55 #[.agg CA.toArray] W fun e w' => e = .returned (.agg #[.int .i64 a.L, .int .i64 a.A, .int .i64 a.R, .int .i64 a.leg, .int .i64 a.fr]) ∧ Below W.heap.size W w') := ⟨fun W => by rw [hCA]; exact hslot_any a W ka⟩
  have HSB : Seal (∀ W, Calls Tryd.prog 55 #[.agg CB.toArray] W fun e w' => e = .returned (.agg #[.int .i64 b.L, .int .i64 b.A, .int .i64 b.R, .int .i64 b.leg, .int .i64 b.fr]) ∧ Below W.heap.size W w') := ⟨fun W => by rw [hCB]; exact hslot_any b W kb⟩
  have heq : ∀ W, (Op.equalIn 10000 92 (.agg #[.int .i64 a.L, .int .i64 a.A, .int .i64 a.R, .int .i64 a.leg, .int .i64 a.fr]) (.agg #[.int .i64 b.L, .int .i64 b.A, .int .i64 b.R, .int .i64 b.leg, .int .i64 b.fr])).run Tryd.prog W = .ok ts W := fun W => by rw [← hts]; exact eqSlot _ _ _ _ _ _ _ _ _ _ W
  have HC := Seal.mk (And.intro hCA hCB)
  have HK := Seal.mk (And.intro ka kb)
  rw [← hCA, ← hCB]
  clear hXa hXc hCA hCB ka kb hta htb hts
  go_enter Tryd.func20, Tryd.ntmps20
  go_upto_region 1 with (fail)
  rw [← hX]
  clear hX
  refine wp_region_held_drew (S := fun w' => w'.rangeAt w.heap.size 0 CA ∧ w'.rangeAt (w.heap.size + 1) 0 CB) (by kernel_rfl) ⟨rA, rB⟩ (fun hHeld => ?_)
  refine take_h 0 _ rfl (by kernel_rfl) (by kernel_rfl) (by kernel_rfl) (fun _ _ _ h => h) (yieldsIf_load_mid (by kernel_rfl) 29 (.tmp 2) rfl w.heap.size 0 rfl CA _ (fun w hSw => hSw.1) uH rfl iA) (by assumption) ?_
  try simp only [Act.put, List.setIfInBounds_toArray, List.set_cons_zero, List.set_cons_succ]
  refine call_h 1 rfl (by kernel_rfl) 46 #[.agg CA.toArray] (by kernel_rfl) (by go_simp) ?_
  refine (HFA.out X.drew).mono ?_
  rintro e w1 ⟨rfl, hb1⟩
  have hb2 : Below X.heap.size X w1 := ⟨hb1.os, hb1.tape, hb1.output, hb1.size, hb1.block⟩
  have HB1 : Seal (Below w.heap.size w w1) := ⟨hXb.out.trans (hb2.mono hXb.out.size)⟩
  have HX1 : Seal (Below X.heap.size X w1) := ⟨hb2⟩
  refine ⟨_, rfl, ⟨rangeAt_below' rA hb2, rangeAt_below' rB hb2⟩, fun hHeld2 => ?_⟩
  clear hHeld hb1 hb2 rA rB
  try simp only [Act.put, List.setIfInBounds_toArray, List.set_cons_zero, List.set_cons_succ]
  subst h0; subst h1; subst h2
  refine take_h 2 ?_ rfl (by kernel_rfl) (by kernel_rfl) (by kernel_rfl) (fun _ _ _ h => h) (Or.inl ⟨by kernel_rfl, ?_⟩) (by assumption) ?_
  rotate_left
  · (intro w hSw; (try dsimp only at hSw); go_simp; try (with_reducible rfl))
  try simp only [Act.put, List.setIfInBounds_toArray, List.set_cons_zero, List.set_cons_succ]
  refine take_h 3 ?_ rfl (by kernel_rfl) (by kernel_rfl) (by kernel_rfl) (fun _ _ _ h => h) (Or.inl ⟨by kernel_rfl, ?_⟩) (by assumption) ?_
  rotate_left
  · (intro w hSw; (try dsimp only at hSw); go_simp; try (with_reducible rfl))
  try simp only [Act.put, List.setIfInBounds_toArray, List.set_cons_zero, List.set_cons_succ]
  refine take_h 4 _ rfl (by kernel_rfl) (by kernel_rfl) (by kernel_rfl) (fun _ _ _ h => h) (yieldsIf_load_mid (by kernel_rfl) 29 (.tmp 3) rfl (w.heap.size + 1) 0 rfl CB _ (fun w hSw => hSw.2) uH rfl iB) (by assumption) ?_
  try simp only [Act.put, List.setIfInBounds_toArray, List.set_cons_zero, List.set_cons_succ]
  refine call_h 5 rfl (by kernel_rfl) 46 #[.agg CB.toArray] (by kernel_rfl) (by go_simp) ?_
  refine (HFB.out w1).mono ?_
  rintro e w2 ⟨rfl, hb2⟩
  have HB2 : Seal (Below w.heap.size w w2) := ⟨HB1.out.trans (hb2.mono HB1.out.size)⟩
  have HX2 : Seal (Below X.heap.size X w2) := ⟨HX1.out.trans (hb2.mono HX1.out.size)⟩
  refine ⟨_, rfl, ⟨rangeAt_below' hHeld2.1 hb2, rangeAt_below' hHeld2.2 hb2⟩, fun hHeld3 => ?_⟩
  clear hHeld2 hb2
  try simp only [Act.put, List.setIfInBounds_toArray, List.set_cons_zero, List.set_cons_succ]
  refine take_h 6 ?_ rfl (by kernel_rfl) (by kernel_rfl) (by kernel_rfl) (fun _ _ _ h => h) (Or.inl ⟨by kernel_rfl, ?_⟩) (by assumption) ?_
  rotate_left
  · (intro w hSw; (try dsimp only at hSw); go_simp; try (with_reducible rfl))
  try simp only [Act.put, List.setIfInBounds_toArray, List.set_cons_zero, List.set_cons_succ]
  refine take_h 7 ?_ rfl (by kernel_rfl) (by kernel_rfl) (by kernel_rfl) (fun _ _ _ h => h) (Or.inl ⟨by kernel_rfl, ?_⟩) (by assumption) ?_
  rotate_left
  · (intro w hSw; (try dsimp only at hSw); go_simp; try (with_reducible rfl))
  try simp only [Act.put, List.setIfInBounds_toArray, List.set_cons_zero, List.set_cons_succ]
  refine take_h 8 ?_ rfl (by kernel_rfl) (by kernel_rfl) (by kernel_rfl) (fun _ _ _ h => h) (Or.inl ⟨by kernel_rfl, ?_⟩) (by assumption) ?_
  rotate_left
  · (intro w hSw; (try dsimp only at hSw); go_simp; try (with_reducible rfl))
  try simp only [Act.put, List.setIfInBounds_toArray, List.set_cons_zero, List.set_cons_succ]
  refine take_h 9 _ rfl (by kernel_rfl) (by kernel_rfl) (by kernel_rfl) (fun _ _ _ h => h) (yieldsIf_load_mid (by kernel_rfl) 29 (.tmp 2) rfl w.heap.size 0 rfl CA _ (fun w hSw => hSw.1) uH rfl iA) (by assumption) ?_
  try simp only [Act.put, List.setIfInBounds_toArray, List.set_cons_zero, List.set_cons_succ]
  refine take_h 11 _ rfl (by kernel_rfl) (by kernel_rfl) (by kernel_rfl) (fun _ _ _ h => h) (yieldsIf_load_mid (by kernel_rfl) 29 (.tmp 3) rfl (w.heap.size + 1) 0 rfl CB _ (fun w hSw => hSw.2) uH rfl iB) (by assumption) ?_
  try simp only [Act.put, List.setIfInBounds_toArray, List.set_cons_zero, List.set_cons_succ]
  refine call_h 10 rfl (by kernel_rfl) 55 #[.agg CA.toArray] (by kernel_rfl) (by go_simp) ?_
  refine (HSA.out w2).mono ?_
  rintro e w3 ⟨rfl, hb3⟩
  have HB3 : Seal (Below w.heap.size w w3) := ⟨HB2.out.trans (hb3.mono HB2.out.size)⟩
  have HX3 : Seal (Below X.heap.size X w3) := ⟨HX2.out.trans (hb3.mono HX2.out.size)⟩
  refine ⟨_, rfl, ⟨rangeAt_below' hHeld3.1 hb3, rangeAt_below' hHeld3.2 hb3⟩, fun hHeld4 => ?_⟩
  clear hHeld3 hb3
  try simp only [Act.put, List.setIfInBounds_toArray, List.set_cons_zero, List.set_cons_succ]
  refine call_h 12 rfl (by kernel_rfl) 55 #[.agg CB.toArray] (by kernel_rfl) (by go_simp) ?_
  refine (HSB.out w3).mono ?_
  rintro e w4 ⟨rfl, hb4⟩
  have HB4 : Seal (Below w.heap.size w w4) := ⟨HB3.out.trans (hb4.mono HB3.out.size)⟩
  have HX4 : Seal (Below X.heap.size X w4) := ⟨HX3.out.trans (hb4.mono HX3.out.size)⟩
  refine ⟨_, rfl, ⟨rangeAt_below' hHeld4.1 hb4, rangeAt_below' hHeld4.2 hb4⟩, fun hHeld5 => ?_⟩
  clear hHeld4 hb4
  try simp only [Act.put, List.setIfInBounds_toArray, List.set_cons_zero, List.set_cons_succ]
  refine take_h 13 ?_ rfl (by kernel_rfl) (by kernel_rfl) (by kernel_rfl) (fun _ _ _ h => h) (Or.inl ⟨by kernel_rfl, ?_⟩) (by assumption) ?_
  rotate_left
  · (intro w hSw; (try dsimp only at hSw); go_simp; try (with_reducible rfl))
  try simp only [Act.put, List.setIfInBounds_toArray, List.set_cons_zero, List.set_cons_succ]
  refine take_h 14 ?_ rfl (by kernel_rfl) (by kernel_rfl) (by kernel_rfl) (fun _ _ _ h => h) (Or.inl ⟨by kernel_rfl, ?_⟩) (by assumption) ?_
  rotate_left
  · (intro w hSw; (try dsimp only at hSw); go_simp; try (with_reducible rfl))
  try simp only [Act.put, List.setIfInBounds_toArray, List.set_cons_zero, List.set_cons_succ]
  refine wpAnyH_done (by kernel_rfl) ?_ _
  clear hHeld5
  go_wp2
  go_ret
  exact ⟨rfl, HB4.out⟩

set_option maxHeartbeats 4000000 in
theorem clash_y (a b : Hd) (ta tb ts : Bool) (w : World) (ka : a.T.length = 32) (kb : b.T.length = 32) (hta : a.fm = ta) (htb : b.fm = tb) (hts : slB a b = ts) (h0 : ta = true) (h1 : tb = true) (h2 : ts = true) (r : Bool) (hr : Seal (hdB (a.sg 0 0) (b.sg 0 0) = r)) :
    Calls Tryd.prog 20 #[.agg a.C.toArray, .agg b.C.toArray] w fun e w' => e = .returned (.bool (!r)) ∧ Below w.heap.size w w' := by
  unfold slB at hts
  obtain ⟨CA, hCA⟩ : ∃ CA, CA = a.C := ⟨_, rfl⟩
  obtain ⟨CB, hCB⟩ : ∃ CB, CB = b.C := ⟨_, rfl⟩
  have uH := Tryd.underlying29
  have iA : (Tryd.prog.info? 29).map (·.size) = some CA.length := by rw [hCA]; exact Hd.C_info ka
  have iB : (Tryd.prog.info? 29).map (·.size) = some CB.length := by rw [hCB]; exact Hd.C_info kb
  obtain ⟨X, hX⟩ : ∃ X : World, X = (w.alloc (.cells CA.toArray 29)).alloc (.cells CB.toArray 29) := ⟨_, rfl⟩
  have hXb : Seal (Below w.heap.size w X) := ⟨by rw [hX]; exact ((Below.refl _ w).alloc (Nat.le_refl _) _).alloc (by simp) _⟩
  have hXa : X.heap[w.heap.size]? = some (.cells CA.toArray 29 (0, 0)) := by rw [hX]; exact heap_alloc2_old w _ _
  have hXc : X.heap[w.heap.size + 1]? = some (.cells CB.toArray 29 (0, 0)) := by rw [hX]; exact heap_alloc2_new w _ _
  have rA : X.rangeAt w.heap.size 0 CA := rangeAt_row hXa
  have rB : X.rangeAt (w.heap.size + 1) 0 CB := rangeAt_row hXc
  have HXs := Seal.mk (And.intro hXa hXc)
  have HFA : Seal (∀ W, Calls Tryd.prog 46 #[.agg CA.toArray] W fun e w' => e = .returned (.bool ta) ∧ Below W.heap.size W w') := ⟨fun W => by rw [hCA, ← hta]; exact hformed_any a W ka⟩
  have HFB : Seal (∀ W, Calls Tryd.prog 46 #[.agg CB.toArray] W fun e w' => e = .returned (.bool tb) ∧ Below W.heap.size W w') := ⟨fun W => by rw [hCB, ← htb]; exact hformed_any b W kb⟩
  have HSA : Seal (∀ W, Calls Tryd.prog 55 #[.agg CA.toArray] W fun e w' => e = .returned (.agg #[.int .i64 a.L, .int .i64 a.A, .int .i64 a.R, .int .i64 a.leg, .int .i64 a.fr]) ∧ Below W.heap.size W w') := ⟨fun W => by rw [hCA]; exact hslot_any a W ka⟩
  have HSB : Seal (∀ W, Calls Tryd.prog 55 #[.agg CB.toArray] W fun e w' => e = .returned (.agg #[.int .i64 b.L, .int .i64 b.A, .int .i64 b.R, .int .i64 b.leg, .int .i64 b.fr]) ∧ Below W.heap.size W w') := ⟨fun W => by rw [hCB]; exact hslot_any b W kb⟩
  have heq : ∀ W, (Op.equalIn 10000 92 (.agg #[.int .i64 a.L, .int .i64 a.A, .int .i64 a.R, .int .i64 a.leg, .int .i64 a.fr]) (.agg #[.int .i64 b.L, .int .i64 b.A, .int .i64 b.R, .int .i64 b.leg, .int .i64 b.fr])).run Tryd.prog W = .ok ts W := fun W => by rw [← hts]; exact eqSlot _ _ _ _ _ _ _ _ _ _ W
  have HC := Seal.mk (And.intro hCA hCB)
  have HK := Seal.mk (And.intro ka kb)
  rw [← hCA, ← hCB]
  clear hXa hXc hCA hCB ka kb hta htb hts
  go_enter Tryd.func20, Tryd.ntmps20
  go_upto_region 1 with (fail)
  rw [← hX]
  clear hX
  refine wp_region_held_drew (S := fun w' => w'.rangeAt w.heap.size 0 CA ∧ w'.rangeAt (w.heap.size + 1) 0 CB) (by kernel_rfl) ⟨rA, rB⟩ (fun hHeld => ?_)
  refine take_h 0 _ rfl (by kernel_rfl) (by kernel_rfl) (by kernel_rfl) (fun _ _ _ h => h) (yieldsIf_load_mid (by kernel_rfl) 29 (.tmp 2) rfl w.heap.size 0 rfl CA _ (fun w hSw => hSw.1) uH rfl iA) (by assumption) ?_
  try simp only [Act.put, List.setIfInBounds_toArray, List.set_cons_zero, List.set_cons_succ]
  refine call_h 1 rfl (by kernel_rfl) 46 #[.agg CA.toArray] (by kernel_rfl) (by go_simp) ?_
  refine (HFA.out X.drew).mono ?_
  rintro e w1 ⟨rfl, hb1⟩
  have hb2 : Below X.heap.size X w1 := ⟨hb1.os, hb1.tape, hb1.output, hb1.size, hb1.block⟩
  have HB1 : Seal (Below w.heap.size w w1) := ⟨hXb.out.trans (hb2.mono hXb.out.size)⟩
  have HX1 : Seal (Below X.heap.size X w1) := ⟨hb2⟩
  refine ⟨_, rfl, ⟨rangeAt_below' rA hb2, rangeAt_below' rB hb2⟩, fun hHeld2 => ?_⟩
  clear hHeld hb1 hb2 rA rB
  try simp only [Act.put, List.setIfInBounds_toArray, List.set_cons_zero, List.set_cons_succ]
  subst h0; subst h1; subst h2
  refine take_h 2 ?_ rfl (by kernel_rfl) (by kernel_rfl) (by kernel_rfl) (fun _ _ _ h => h) (Or.inl ⟨by kernel_rfl, ?_⟩) (by assumption) ?_
  rotate_left
  · (intro w hSw; (try dsimp only at hSw); go_simp; try (with_reducible rfl))
  try simp only [Act.put, List.setIfInBounds_toArray, List.set_cons_zero, List.set_cons_succ]
  refine take_h 3 ?_ rfl (by kernel_rfl) (by kernel_rfl) (by kernel_rfl) (fun _ _ _ h => h) (Or.inl ⟨by kernel_rfl, ?_⟩) (by assumption) ?_
  rotate_left
  · (intro w hSw; (try dsimp only at hSw); go_simp; try (with_reducible rfl))
  try simp only [Act.put, List.setIfInBounds_toArray, List.set_cons_zero, List.set_cons_succ]
  refine take_h 4 _ rfl (by kernel_rfl) (by kernel_rfl) (by kernel_rfl) (fun _ _ _ h => h) (yieldsIf_load_mid (by kernel_rfl) 29 (.tmp 3) rfl (w.heap.size + 1) 0 rfl CB _ (fun w hSw => hSw.2) uH rfl iB) (by assumption) ?_
  try simp only [Act.put, List.setIfInBounds_toArray, List.set_cons_zero, List.set_cons_succ]
  refine call_h 5 rfl (by kernel_rfl) 46 #[.agg CB.toArray] (by kernel_rfl) (by go_simp) ?_
  refine (HFB.out w1).mono ?_
  rintro e w2 ⟨rfl, hb2⟩
  have HB2 : Seal (Below w.heap.size w w2) := ⟨HB1.out.trans (hb2.mono HB1.out.size)⟩
  have HX2 : Seal (Below X.heap.size X w2) := ⟨HX1.out.trans (hb2.mono HX1.out.size)⟩
  refine ⟨_, rfl, ⟨rangeAt_below' hHeld2.1 hb2, rangeAt_below' hHeld2.2 hb2⟩, fun hHeld3 => ?_⟩
  clear hHeld2 hb2
  try simp only [Act.put, List.setIfInBounds_toArray, List.set_cons_zero, List.set_cons_succ]
  refine take_h 6 ?_ rfl (by kernel_rfl) (by kernel_rfl) (by kernel_rfl) (fun _ _ _ h => h) (Or.inl ⟨by kernel_rfl, ?_⟩) (by assumption) ?_
  rotate_left
  · (intro w hSw; (try dsimp only at hSw); go_simp; try (with_reducible rfl))
  try simp only [Act.put, List.setIfInBounds_toArray, List.set_cons_zero, List.set_cons_succ]
  refine take_h 7 ?_ rfl (by kernel_rfl) (by kernel_rfl) (by kernel_rfl) (fun _ _ _ h => h) (Or.inl ⟨by kernel_rfl, ?_⟩) (by assumption) ?_
  rotate_left
  · (intro w hSw; (try dsimp only at hSw); go_simp; try (with_reducible rfl))
  try simp only [Act.put, List.setIfInBounds_toArray, List.set_cons_zero, List.set_cons_succ]
  refine take_h 8 ?_ rfl (by kernel_rfl) (by kernel_rfl) (by kernel_rfl) (fun _ _ _ h => h) (Or.inl ⟨by kernel_rfl, ?_⟩) (by assumption) ?_
  rotate_left
  · (intro w hSw; (try dsimp only at hSw); go_simp; try (with_reducible rfl))
  try simp only [Act.put, List.setIfInBounds_toArray, List.set_cons_zero, List.set_cons_succ]
  refine take_h 9 _ rfl (by kernel_rfl) (by kernel_rfl) (by kernel_rfl) (fun _ _ _ h => h) (yieldsIf_load_mid (by kernel_rfl) 29 (.tmp 2) rfl w.heap.size 0 rfl CA _ (fun w hSw => hSw.1) uH rfl iA) (by assumption) ?_
  try simp only [Act.put, List.setIfInBounds_toArray, List.set_cons_zero, List.set_cons_succ]
  refine take_h 11 _ rfl (by kernel_rfl) (by kernel_rfl) (by kernel_rfl) (fun _ _ _ h => h) (yieldsIf_load_mid (by kernel_rfl) 29 (.tmp 3) rfl (w.heap.size + 1) 0 rfl CB _ (fun w hSw => hSw.2) uH rfl iB) (by assumption) ?_
  try simp only [Act.put, List.setIfInBounds_toArray, List.set_cons_zero, List.set_cons_succ]
  refine call_h 10 rfl (by kernel_rfl) 55 #[.agg CA.toArray] (by kernel_rfl) (by go_simp) ?_
  refine (HSA.out w2).mono ?_
  rintro e w3 ⟨rfl, hb3⟩
  have HB3 : Seal (Below w.heap.size w w3) := ⟨HB2.out.trans (hb3.mono HB2.out.size)⟩
  have HX3 : Seal (Below X.heap.size X w3) := ⟨HX2.out.trans (hb3.mono HX2.out.size)⟩
  refine ⟨_, rfl, ⟨rangeAt_below' hHeld3.1 hb3, rangeAt_below' hHeld3.2 hb3⟩, fun hHeld4 => ?_⟩
  clear hHeld3 hb3
  try simp only [Act.put, List.setIfInBounds_toArray, List.set_cons_zero, List.set_cons_succ]
  refine call_h 12 rfl (by kernel_rfl) 55 #[.agg CB.toArray] (by kernel_rfl) (by go_simp) ?_
  refine (HSB.out w3).mono ?_
  rintro e w4 ⟨rfl, hb4⟩
  have HB4 : Seal (Below w.heap.size w w4) := ⟨HB3.out.trans (hb4.mono HB3.out.size)⟩
  have HX4 : Seal (Below X.heap.size X w4) := ⟨HX3.out.trans (hb4.mono HX3.out.size)⟩
  refine ⟨_, rfl, ⟨rangeAt_below' hHeld4.1 hb4, rangeAt_below' hHeld4.2 hb4⟩, fun hHeld5 => ?_⟩
  clear hHeld4 hb4
  try simp only [Act.put, List.setIfInBounds_toArray, List.set_cons_zero, List.set_cons_succ]
  refine take_h 13 ?_ rfl (by kernel_rfl) (by kernel_rfl) (by kernel_rfl) (fun _ _ _ h => h) (Or.inl ⟨by kernel_rfl, ?_⟩) (by assumption) ?_
  rotate_left
  · (intro w hSw; (try dsimp only at hSw); go_simp; try (with_reducible rfl))
  try simp only [Act.put, List.setIfInBounds_toArray, List.set_cons_zero, List.set_cons_succ]
  refine take_h 14 ?_ rfl (by kernel_rfl) (by kernel_rfl) (by kernel_rfl) (fun _ _ _ h => h) (Or.inl ⟨by kernel_rfl, ?_⟩) (by assumption) ?_
  rotate_left
  · (intro w hSw; (try dsimp only at hSw); go_simp; try (with_reducible rfl))
  try simp only [Act.put, List.setIfInBounds_toArray, List.set_cons_zero, List.set_cons_succ]
  refine wpAnyH_done (by kernel_rfl) ?_ _
  clear hHeld5 heq uH iA iB
  have RA4 := blk HX4.out (Array.getElem?_eq_some_iff.1 HXs.out.1).1 HXs.out.1
  have RB4 := blk HX4.out (Array.getElem?_eq_some_iff.1 HXs.out.2).1 HXs.out.2
  have hia := Hd.C_hi HK.out.1
  have hib := Hd.C_hi HK.out.2
  rw [← HC.out.1] at hia
  rw [← HC.out.2] at hib
  have k0 : w4.cell? ⟨w.heap.size, 40, none⟩ = some (.int .i64 a.E) := by rw [cell_of_row _ _ _ _ _ _ RA4]; simpa using hia.2.1
  have k1 : w4.cell? ⟨w.heap.size, 41, none⟩ = some (.int .i64 a.S) := by rw [cell_of_row _ _ _ _ _ _ RA4]; simpa using hia.2.2
  have k2 : w4.cell? ⟨w.heap.size + 1, 40, none⟩ = some (.int .i64 b.E) := by rw [cell_of_row _ _ _ _ _ _ RB4]; simpa using hib.2.1
  have k3 : w4.cell? ⟨w.heap.size + 1, 41, none⟩ = some (.int .i64 b.S) := by rw [cell_of_row _ _ _ _ _ _ RB4]; simpa using hib.2.2
  have f0 : w4.frozen? ⟨w.heap.size, 40, none⟩ = false := frozen_of_row _ _ _ _ _ RA4
  have f1 : w4.frozen? ⟨w.heap.size, 41, none⟩ = false := frozen_of_row _ _ _ _ _ RA4
  have f2 : w4.frozen? ⟨w.heap.size + 1, 40, none⟩ = false := frozen_of_row _ _ _ _ _ RB4
  have f3 : w4.frozen? ⟨w.heap.size + 1, 41, none⟩ = false := frozen_of_row _ _ _ _ _ RB4
  obtain ⟨FA, hFA⟩ : ∃ FA, FA = (a.sg 0 0).C := ⟨_, rfl⟩
  obtain ⟨FB, hFB⟩ : ∃ FB, FB = (b.sg 0 0).C := ⟨_, rfl⟩
  have hra := heap_setCell_row (i := 41) (.int .i64 0) (heap_setCell_row (i := 40) (.int .i64 0) RA4)
  rw [HC.out.1, Hd.C_set HK.out.1, ← hFA] at hra
  have hrb0 : ((w4.setCell ⟨w.heap.size, 40, none⟩ (.int .i64 0)).setCell ⟨w.heap.size, 41, none⟩ (.int .i64 0)).heap[w.heap.size + 1]? = some (.cells CB.toArray 29 (0, 0)) := (Below.heap_setCell _ _ _ _ (by simp)).trans ((Below.heap_setCell _ _ _ _ (by simp)).trans RB4)
  have hrb := heap_setCell_row (i := 41) (.int .i64 0) (heap_setCell_row (i := 40) (.int .i64 0) hrb0)
  rw [HC.out.2, Hd.C_set HK.out.2, ← hFB] at hrb
  obtain ⟨W, hW⟩ : ∃ W, W = ((((w4.setCell ⟨w.heap.size, 40, none⟩ (.int .i64 0)).setCell ⟨w.heap.size, 41, none⟩ (.int .i64 0)).setCell ⟨w.heap.size + 1, 40, none⟩ (.int .i64 0)).setCell ⟨w.heap.size + 1, 41, none⟩ (.int .i64 0)) := ⟨_, rfl⟩
  have RA : Seal (W.heap[w.heap.size]? = some (.cells FA.toArray 29 (0, 0))) := ⟨by rw [hW]; exact (Below.heap_setCell _ _ _ _ (by simp)).trans ((Below.heap_setCell _ _ _ _ (by simp)).trans hra)⟩
  have RB : Seal (W.heap[w.heap.size + 1]? = some (.cells FB.toArray 29 (0, 0))) := ⟨by rw [hW]; exact hrb⟩
  have HB5 : Seal (Below w.heap.size w W) := ⟨by rw [hW]; exact (((HB4.out.setCell (p := ⟨w.heap.size, 40, none⟩) (Nat.le_refl _) _).setCell (p := ⟨w.heap.size, 41, none⟩) (Nat.le_refl _) _).setCell (p := ⟨w.heap.size + 1, 40, none⟩) (Nat.le_add_right _ _) _).setCell (p := ⟨w.heap.size + 1, 41, none⟩) (Nat.le_add_right _ _) _⟩
  have IA : Seal ((Tryd.prog.info? 29).map (·.size) = some FA.toArray.size) := ⟨by rw [hFA, List.size_toArray]; exact Hd.C_info HK.out.1⟩
  have IB : Seal ((Tryd.prog.info? 29).map (·.size) = some FB.toArray.size) := ⟨by rw [hFB, List.size_toArray]; exact Hd.C_info HK.out.2⟩
  have heq : ∀ W, (Op.equalIn 10000 29 (.agg FA.toArray) (.agg FB.toArray)).run Tryd.prog W = .ok r W := fun W => by rw [hFA, hFB, ← hr.out]; exact eqHand (a.sg 0 0) (b.sg 0 0) HK.out.1 HK.out.2 W
  clear hFA hFB hra hrb0 hrb RA4 RB4 hia hib HX4 HB4
  go_upto_region 4 with (fail)
  rw [← hW]
  clear hW k0 k1 k2 k3 f0 f1 f2 f3
  go_wp2_with (first | (refine wpList_load_row rfl 29 (.tmp 2) rfl w.heap.size rfl 29 FA.toArray (0, 0) _ RA.out Tryd.underlying29 rfl IA.out ?_) | (refine wpList_load_row rfl 29 (.tmp 3) rfl (w.heap.size + 1) rfl 29 FB.toArray (0, 0) _ RB.out Tryd.underlying29 rfl IB.out ?_))
  go_ret
  exact ⟨rfl, HB5.out⟩

theorem hclash_any (a b : Hd) (w : World) (ka : a.T.length = 32) (kb : b.T.length = 32) :
    Calls Tryd.prog 20 #[.agg a.C.toArray, .agg b.C.toArray] w fun e w' => e = .returned (.bool (clB a b)) ∧ Below w.heap.size w w' := by
  unfold clB
  cases ha : a.fm with
  | false => exact clash_a a b false _ _ w ka kb ha rfl rfl rfl
  | true =>
    cases hb : b.fm with
    | false => exact clash_b a b true false _ w ka kb ha hb rfl rfl rfl
    | true =>
      cases hs : slB a b with
      | false => exact clash_s a b true true false w ka kb ha hb hs rfl rfl rfl
      | true =>
        simp only [Bool.true_and]
        exact clash_y a b true true true w ka kb ha hb hs rfl rfl rfl _ ⟨rfl⟩
end Frk
