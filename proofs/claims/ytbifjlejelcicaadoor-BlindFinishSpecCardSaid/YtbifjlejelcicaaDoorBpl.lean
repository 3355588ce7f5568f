/- Blind signatures: the plain law of BlindRight and BlindAny. -/
import Derived.Test.YtbifjlejelcicaaDoorTrn
import Derived.Test.YtbifjlejelcicaaDoorLst
namespace Frk

instance : Std.Commutative mp := ⟨mp_comm⟩
instance : Std.Associative mp := ⟨mp_assoc⟩

theorem mp_pw {a : Nat} (ha : Vd a) (m n : Int) : mp (pw a m) (pw a n) = pw a (m + n) := by unfold mp; rw [← pw_add ha]

theorem blPoint_zero (key r c : Int) : blPoint key r 0 c = mp r.toNat (pw key.toNat c) := by
  unfold blPoint; rw [pw_zero, one_mp (pw_lt _ _)]

theorem link_tr (key r c s : Int) (b : Bytes) (E S : Int) : ((vd key && vd r) && linkT key r c s b E S) = (trC key r c s && vrB key b E S) := by
  unfold linkT trC
  rw [blPoint_zero]
  cases vd key <;> cases vd r <;> cases vrB key b E S <;> simp

theorem tr_point {key r c s : Int} (h : trC key r c s = true) (E S : Int) : blPoint key r (S - s) (c - E) = sgPoint key E S := by
  unfold trC at h
  have h' : (vd key = true ∧ vd r = true) ∧ pw 4 s = mp r.toNat (pw key.toNat c) := by simpa using h
  obtain ⟨⟨hk, hr⟩, hp⟩ := h'
  obtain ⟨K, rfl, hK⟩ := vd_of_vd hk
  obtain ⟨R, rfl, hR⟩ := vd_of_vd hr
  unfold blPoint sgPoint
  rw [Int.toNat_natCast, Int.toNat_natCast] at *
  rw [show S - s = S + -s from rfl, show c - E = c + -E from rfl, ← mp_pw vd4, ← mp_pw hK]
  have e : mp R (mp (mp (pw 4 S) (pw 4 (-s))) (mp (pw K c) (pw K (-E)))) = mp (mp (mp R (pw K c)) (pw 4 (-s))) (mp (pw 4 S) (pw K (-E))) := by ac_rfl
  rw [e, ← hp, mp_pw vd4, show s + -s = 0 by omega, pw_zero, one_mp (mp_lt _ _)]

theorem sgHash_lt (r key : Int) (b : Bytes) : sgHash r key b < 1073741789 := ghash_lt _ _

/-- Link leads to what Ask and Finish answer -/
theorem any_ask {key r c s E S : Int} {b : Bytes} (ht : trC key r c s = true) (hv : vrB key b E S = true) :
    blHash key r b (lq (S - (lq s : Nat)) : Nat) (lq ((lq c : Nat) - E) : Nat) = E.toNat := by
  have h1 : blPoint key r (lq (S - (lq s : Nat)) : Nat) (lq ((lq c : Nat) - E) : Nat) = sgPoint key E S := by
    rw [← tr_point ht E S]
    refine blPoint_congr key r ?_ ?_
    · rw [lq_cast, lq_cast, Int.emod_emod_of_dvd _ (Int.dvd_refl _), Int.sub_emod_emod]
    · rw [lq_cast, lq_cast, Int.emod_emod_of_dvd _ (Int.dvd_refl _), Int.emod_sub_emod]
  unfold blHash
  rw [h1]
  unfold vrB at hv
  have h2 : E = (sgHash (sgPoint key E S) key b : Nat) := by
    have h3 := (Bool.and_eq_true _ _ ▸ hv).2
    exact eq_of_beq h3
  omega

theorem any_askC {key r c s E S : Int} {b : Bytes} (ht : trC key r c s = true) (hv : vrB key b E S = true) :
    askC key r b (lq (S - (lq s : Nat)) : Nat) (lq ((lq c : Nat) - E) : Nat) = (((lq c : Nat) : Int), 0) := by
  have hpa := vr_parts hv
  obtain ⟨⟨E1, E2⟩, -, -⟩ := hpa
  have hkr : (vd key && vd r) = true := by
    unfold trC at ht
    exact (Bool.and_eq_true _ _ ▸ ht).1
  unfold askC
  rw [if_pos hkr, any_ask ht hv]
  have e : lq ((E.toNat : Int) + (lq (lq ((lq c : Nat) - E) : Nat) : Nat)) = lq c := by
    refine lq_eq_iff.2 ?_
    have hc := lq_cast c
    rw [lq_cast, lq_cast, lq_cast, show ((Q : Nat) : Int) = 1073741789 from rfl]
    omega
  rw [e]

theorem any_finC {key r c s E S : Int} {b : Bytes} (ht : trC key r c s = true) (hv : vrB key b E S = true) :
    finishC key r b (lq (S - (lq s : Nat)) : Nat) (lq ((lq c : Nat) - E) : Nat) s = (E, S, 0) := by
  have hpa := vr_parts hv
  obtain ⟨⟨E1, E2⟩, ⟨S1, S2⟩, -⟩ := hpa
  have hkr : (vd key && vd r) = true := by
    unfold trC at ht
    exact (Bool.and_eq_true _ _ ▸ ht).1
  have eE : ((E.toNat : Nat) : Int) = E := by omega
  have eS : (((lq ((lq s : Nat) + (lq (lq (S - (lq s : Nat)) : Nat) : Nat)) : Nat)) : Int) = S := by
    rw [lq_cast, lq_cast, lq_cast, lq_cast, show ((Q : Nat) : Int) = 1073741789 from rfl]
    omega
  unfold finishC finH
  rw [if_pos hkr, any_ask ht hv, eE, eS, if_pos hv]

/-- what the signer answers fits -/
theorem right_tr (x n c : Int) : trC (pw 4 x : Nat) (pw 4 n : Nat) c (lq (n + (lq c : Nat) * x) : Nat) = true := by
  unfold trC
  have v1 : vd ((pw 4 x : Nat) : Int) = true := vd_of_nat (vd4.pw x)
  have v2 : vd ((pw 4 n : Nat) : Int) = true := vd_of_nat (vd4.pw n)
  rw [v1, v2, Bool.true_and, Bool.true_and, decide_eq_true_iff, Int.toNat_natCast, Int.toNat_natCast, pw_pw vd4, mp_pw vd4, pw_lq]
  refine pw_congr 4 ?_
  rw [Int.add_emod, Int.mul_emod, lq_cast, Int.emod_emod_of_dvd _ (Int.dvd_refl _), ← Int.mul_emod, ← Int.add_emod, Int.mul_comm]

theorem right_fin (x n u v : Int) (b : Bytes) (c s : Int) (hc : c = (lq ((blHash (pw 4 x : Nat) (pw 4 n : Nat) b u v : Nat) + (lq v : Nat)) : Nat)) (hs : s = (lq (n + (lq c : Nat) * x) : Nat)) :
    finH (pw 4 x : Nat) (pw 4 n : Nat) b u v s = true := by
  have ht := right_tr x n c
  rw [← hs] at ht
  unfold finH vrB
  have v1 : vd ((pw 4 x : Nat) : Int) = true := vd_of_nat (vd4.pw x)
  have r1 := blHash_rng (pw 4 x : Nat) (pw 4 n : Nat) u v b
  have r2 := lq_rng ((lq s : Nat) + (lq u : Nat))
  rw [(inQ_iff _).2 r1, (inQ_iff _).2 r2, v1]
  show ((_ : Int) == _) = true
  refine beq_iff_eq.2 ?_
  have hp : blPoint (pw 4 x : Nat) (pw 4 n : Nat) u v = sgPoint (pw 4 x : Nat) (blHash (pw 4 x : Nat) (pw 4 n : Nat) b u v : Nat) (lq ((lq s : Nat) + (lq u : Nat)) : Nat) := by
    rw [← tr_point ht]
    refine blPoint_congr _ _ ?_ ?_
    · rw [lq_cast, lq_cast, lq_cast, show ((Q : Nat) : Int) = 1073741789 from rfl]
      omega
    · rw [hc, lq_cast, lq_cast, show ((Q : Nat) : Int) = 1073741789 from rfl]
      omega
  rw [← hp]
  rfl
end Frk
