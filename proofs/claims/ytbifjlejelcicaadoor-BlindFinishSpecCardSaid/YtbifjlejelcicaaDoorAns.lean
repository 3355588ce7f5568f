/- What Ask, Answer, Finish and Link answer, whatever the input. -/
import Derived.Test.YtbifjlejelcicaaDoorSab
import Derived.Test.YtbifjlejelcicaaDoorLsm
namespace Frk
open Go Go.RowKit Go.Proofs
set_option maxRecDepth 100000

def askC (key r : Int) (b : Bytes) (u v : Int) : Int × Int := if (vd key && vd r) = true then (((lq ((blHash key r b u v : Nat) + (lq v : Nat)) : Nat) : Int), 0) else (0, 90)
def answerC (key n c : Int) : Int × Int := if (secB key && secB n) = true then (((lq (n + (lq c : Nat) * key) : Nat) : Int), 0) else (0, 110)
def finH (key r : Int) (b : Bytes) (u v s : Int) : Bool := vrB key b (blHash key r b u v : Nat) (lq ((lq s : Nat) + (lq u : Nat)) : Nat)
def finishC (key r : Int) (b : Bytes) (u v s : Int) : Int × Int × Int :=
  if (vd key && vd r) = true then (if finH key r b u v s = true then (((blHash key r b u v : Nat) : Int), ((lq ((lq s : Nat) + (lq u : Nat)) : Nat) : Int), 0) else (0, 0, 150)) else (0, 0, 90)
def linkT (key r c s : Int) (b : Bytes) (E S : Int) : Bool := vrB key b E S && decide (pw 4 s = blPoint key r 0 c)
def linkC (key r c s : Int) (b : Bytes) (E S : Int) : Int × Int × Bool :=
  if ((vd key && vd r) && linkT key r c s b E S) = true then (((lq (S - (lq s : Nat)) : Nat) : Int), ((lq ((lq c : Nat) - E) : Nat) : Int), true) else (0, 0, false)

theorem ask_at (key r u v d e0 : Int) (a : Option Addr) (len cap : Nat) (b : Bytes) (w : World) (h : Seal (askC key r b u v = (d, e0))) (u1 : -9223372036854775808 ≤ u) (u2 : u ≤ 9223372036854775807) (v1 : -9223372036854775808 ≤ v) (v2 : v ≤ 9223372036854775807)
    (hb : IsB w a len cap b) (hl : len ≤ 1099511627776) (hG : Glob w) :
    Calls Tryd.prog 28 #[.int .i64 key, .int .i64 r, .slice a len cap, .int .i64 u, .int .i64 v] w fun e w' => e = .returned (.tuple #[.int .i64 d, .int .i64 e0]) ∧ Below w.heap.size w w' := by
  have h' := h.out
  unfold askC at h'
  by_cases hkr : (vd key && vd r) = true
  · rw [if_pos hkr] at h'
    obtain ⟨rfl, rfl⟩ := Prod.mk.inj h'
    exact ask_yes key r u v _ _ a len cap b w hkr ⟨rfl⟩ ⟨rfl⟩ u1 u2 v1 v2 hb hl hG
  · rw [if_neg hkr] at h'
    obtain ⟨rfl, rfl⟩ := Prod.mk.inj h'
    exact ask_no key r u v _ w (by simpa using hkr)

theorem answer_at (key n c d e0 : Int) (w : World) (h : Seal (answerC key n c = (d, e0))) :
    Calls Tryd.prog 30 #[.int .i64 key, .int .i64 n, .int .i64 c] w fun e w' => e = .returned (.tuple #[.int .i64 d, .int .i64 e0]) ∧ Below w.heap.size w w' := by
  have h' := h.out
  unfold answerC at h'
  by_cases hkr : (secB key && secB n) = true
  · rw [if_pos hkr] at h'
    obtain ⟨rfl, rfl⟩ := Prod.mk.inj h'
    have h2 : secB key = true ∧ secB n = true := by simpa using hkr
    exact answer_yes key n c _ w h2.1 h2.2 ⟨rfl⟩
  · rw [if_neg hkr] at h'
    obtain ⟨rfl, rfl⟩ := Prod.mk.inj h'
    exact answer_no key n c w (by simpa using hkr)

theorem finish_at (key r u v s d0 d1 e0 : Int) (a : Option Addr) (len cap : Nat) (b : Bytes) (w : World) (h : Seal (finishC key r b u v s = (d0, d1, e0))) (u1 : -9223372036854775808 ≤ u) (u2 : u ≤ 9223372036854775807) (v1 : -9223372036854775808 ≤ v) (v2 : v ≤ 9223372036854775807)
    (hb : IsB w a len cap b) (hl : len ≤ 1099511627776) (hG : Glob w) :
    Calls Tryd.prog 32 #[.int .i64 key, .int .i64 r, .slice a len cap, .int .i64 u, .int .i64 v, .int .i64 s] w fun e w' => e = .returned (.tuple #[.agg #[.int .i64 d0, .int .i64 d1], .int .i64 e0]) ∧ Below w.heap.size w w' := by
  have h' := h.out
  unfold finishC at h'
  by_cases hkr : (vd key && vd r) = true
  · rw [if_pos hkr] at h'
    have hf := finish_any key r u v s _ _ _ a len cap b w hkr ⟨rfl⟩ ⟨rfl⟩ ⟨rfl⟩ u1 u2 v1 v2 hb hl hG
    by_cases ho : finH key r b u v s = true
    · rw [if_pos ho] at h'
      obtain ⟨rfl, h3⟩ := Prod.mk.inj h'
      obtain ⟨rfl, rfl⟩ := Prod.mk.inj h3
      unfold finH at ho
      rw [if_pos ho] at hf
      exact hf
    · rw [if_neg ho] at h'
      obtain ⟨rfl, h3⟩ := Prod.mk.inj h'
      obtain ⟨rfl, rfl⟩ := Prod.mk.inj h3
      unfold finH at ho
      rw [if_neg ho] at hf
      exact hf
  · rw [if_neg hkr] at h'
    obtain ⟨rfl, h3⟩ := Prod.mk.inj h'
    obtain ⟨rfl, rfl⟩ := Prod.mk.inj h3
    exact finish_no key r u v s _ w (by simpa using hkr)

theorem link_at (key r c s E S d0 d1 : Int) (t : Bool) (a : Option Addr) (len cap : Nat) (b : Bytes) (w : World) (h : Seal (linkC key r c s b E S = (d0, d1, t))) (c1 : -9223372036854775808 ≤ c) (c2 : c ≤ 9223372036854775807) (s1 : -9223372036854775808 ≤ s) (s2 : s ≤ 9223372036854775807)
    (hb : IsB w a len cap b) (hl : len ≤ 1099511627776) (hG : Glob w) :
    Calls Tryd.prog 34 #[.int .i64 key, .int .i64 r, .int .i64 c, .int .i64 s, .slice a len cap, .agg #[.int .i64 E, .int .i64 S]] w fun e w' => e = .returned (.tuple #[.int .i64 d0, .int .i64 d1, .bool t]) ∧ Below w.heap.size w w' := by
  have h' := h.out
  unfold linkC at h'
  by_cases hkr : (vd key && vd r) = true
  · by_cases ho : linkT key r c s b E S = true
    · rw [if_pos (by rw [hkr, ho]; rfl)] at h'
      obtain ⟨rfl, h3⟩ := Prod.mk.inj h'
      obtain ⟨rfl, rfl⟩ := Prod.mk.inj h3
      unfold linkT at ho
      have h2 : vrB key b E S = true ∧ pw 4 s = blPoint key r 0 c := by simpa using ho
      exact link_yes key r c s E S _ _ _ a len cap b w hkr ⟨h2.1⟩ ⟨rfl⟩ ⟨by rw [h2.2]⟩ ⟨rfl⟩ ⟨rfl⟩ c1 c2 s1 s2 hb hl hG
    · rw [if_neg (by simp [ho])] at h'
      obtain ⟨rfl, h3⟩ := Prod.mk.inj h'
      obtain ⟨rfl, rfl⟩ := Prod.mk.inj h3
      unfold linkT at ho
      cases hv : vrB key b E S with
      | false => exact link_no2 key r c s E S a len cap b w hkr ⟨hv⟩ hb hl hG
      | true =>
        refine link_no3 key r c s E S _ _ a len cap b w hkr ⟨hv⟩ ⟨rfl⟩ ⟨rfl⟩ ?_ c1 c2 s1 s2 hb hl hG
        intro he
        rw [hv] at ho
        exact ho (by simpa using Int.ofNat.inj he)
  · rw [if_neg (by simp at hkr; simp; intro h1 h2; exact absurd h2 (by simp [hkr h1]))] at h'
    obtain ⟨rfl, h3⟩ := Prod.mk.inj h'
    obtain ⟨rfl, rfl⟩ := Prod.mk.inj h3
    exact link_no1 key r c s E S _ w (by simpa using hkr)

theorem begin_at (n d e0 : Int) (w : World) (h : Seal ((if secB n = true then (((pw 4 n : Nat) : Int), (0 : Int)) else (0, 110)) = (d, e0))) (h1 : -9223372036854775808 ≤ n) (h2 : n ≤ 9223372036854775807) : Calls Tryd.prog 26 #[.int .i64 n] w fun e w' => e = .returned (.tuple #[.int .i64 d, .int .i64 e0]) ∧ Below w.heap.size w w' := by
  have h' := h.out
  by_cases hs : secB n = true
  · rw [if_pos hs] at h'
    obtain ⟨rfl, rfl⟩ := Prod.mk.inj h'
    exact begin_yes n w hs h1 h2
  · rw [if_neg hs] at h'
    obtain ⟨rfl, rfl⟩ := Prod.mk.inj h'
    exact begin_no n w (by simpa using hs)

/- modulo q -/
theorem blPoint_congr (key r : Int) {u v u' v' : Int} (hu : u % (Q : Int) = u' % (Q : Int)) (hv : v % (Q : Int) = v' % (Q : Int)) : blPoint key r u v = blPoint key r u' v' := by
  unfold blPoint; rw [pw_congr 4 hu, pw_congr key.toNat hv]
theorem blHash_congr (key r : Int) (b : Bytes) {u v u' v' : Int} (hu : u % (Q : Int) = u' % (Q : Int)) (hv : v % (Q : Int) = v' % (Q : Int)) : blHash key r b u v = blHash key r b u' v' := by
  unfold blHash; rw [blPoint_congr key r hu hv]
theorem askC_congr (key r : Int) (b : Bytes) {u v u' v' : Int} (hu : u % (Q : Int) = u' % (Q : Int)) (hv : v % (Q : Int) = v' % (Q : Int)) : askC key r b u v = askC key r b u' v' := by
  unfold askC; rw [blHash_congr key r b hu hv, lq_eq_iff.2 hv]
theorem answerC_congr (key n : Int) {c c' : Int} (hc : c % (Q : Int) = c' % (Q : Int)) : answerC key n c = answerC key n c' := by
  unfold answerC; rw [lq_eq_iff.2 hc]
theorem finishC_congr (key r : Int) (b : Bytes) {u v s u' v' s' : Int} (hu : u % (Q : Int) = u' % (Q : Int)) (hv : v % (Q : Int) = v' % (Q : Int)) (hs : s % (Q : Int) = s' % (Q : Int)) : finishC key r b u v s = finishC key r b u' v' s' := by
  unfold finishC finH; rw [blHash_congr key r b hu hv, lq_eq_iff.2 hs, lq_eq_iff.2 hu]
end Frk
