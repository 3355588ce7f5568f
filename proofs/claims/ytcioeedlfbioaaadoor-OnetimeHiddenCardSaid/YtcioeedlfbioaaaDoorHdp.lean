/- The number that hides an alias: what the law OnetimeHidden reckons with (plain). -/
import Derived.Test.YtcioeedlfbioaaaDoorGrp
import Derived.Test.YtcioeedlfbioaaaDoorInv
namespace Frk
set_option maxRecDepth 100000

theorem pw_of_one (n : Int) : pw 1 n = 1 := by unfold pw; rw [Nat.one_pow]; decide

theorem lq_zero_of_pw4 {d : Int} (h : pw 4 d = 1) : lq d = 0 := Classical.byContradiction fun hne => by
  obtain ⟨e, he⟩ : ∃ e : Nat, lq d * e % Q = 1 := ⟨_, inv_Q (by rw [Nat.mod_eq_of_lt (lq_lt d)]; exact hne)⟩
  have h1 := pw_pw vd4 d (e : Int)
  rw [h, pw_of_one] at h1
  have h2 : pw 4 (d * e) = pw 4 1 := pw_congr 4 (lq_eq_iff.1 (by
    rw [lq_mul, lq_nat e, Nat.mul_mod_mod, he]; decide))
  rw [h2, pw_one vd4] at h1
  exact absurd h1 (by decide)

theorem pw4_inj {r q : Int} (h : pw 4 r = pw 4 q) : lq (r - q) = 0 :=
  lq_zero_of_pw4 (by rw [Int.sub_eq_add_neg, pw_add vd4, h]; exact pw_neg vd4 q)

theorem hid_plain (S x y r d V q : Nat) (hx : x < Q) (hy : y < Q) (hr : r < Q) (hV : S * V % Q = 1) (hd : d = (x + Q - y) % Q) (hq : q = (r + d * V % Q) % Q) :
    mp (pw 4 x) (pw (pw 4 S) r) = mp (pw 4 y) (pw (pw 4 S) q) ∧ (pw 4 r = pw 4 q ↔ x = y) := by
  have hqQ : q < Q := by rw [hq]; exact Nat.mod_lt _ Q_pos
  have hdQ : d < Q := by rw [hd]; exact Nat.mod_lt _ Q_pos
  have e1 := Nat.div_add_mod (S * V) Q
  have e2 := Nat.div_add_mod (x + Q - y) Q
  have e3 := Nat.div_add_mod (d * V) Q
  have e4 := Nat.div_add_mod (r + d * V % Q) Q
  rw [hV] at e1
  rw [← hd] at e2
  rw [← hq] at e4
  obtain ⟨k1, hk1⟩ : ∃ k : Nat, S * V / Q = k := ⟨_, rfl⟩
  obtain ⟨k2, hk2⟩ : ∃ k : Nat, (x + Q - y) / Q = k := ⟨_, rfl⟩
  obtain ⟨k3, hk3⟩ : ∃ k : Nat, d * V / Q = k := ⟨_, rfl⟩
  obtain ⟨k4, hk4⟩ : ∃ k : Nat, (r + d * V % Q) / Q = k := ⟨_, rfl⟩
  obtain ⟨m, hm⟩ : ∃ m : Nat, d * V % Q = m := ⟨_, rfl⟩
  rw [hk1] at e1
  rw [hk2] at e2
  rw [hk3, hm] at e3
  rw [hk4, hm] at e4
  clear hk1 hk2 hk3 hk4 hq hd hV
  have f1 : (S : Int) * V = 1 + Q * k1 := by exact_mod_cast (by omega : S * V = 1 + Q * k1)
  have f2 : (d : Int) = x + Q - y - Q * k2 := by
    have : Q * k2 + d + y = x + Q := by omega
    have : (Q : Int) * k2 + d + y = x + Q := by exact_mod_cast this
    omega
  have f3 : (d : Int) * V = Q * k3 + m := by exact_mod_cast e3.symm
  have f4 : (r : Int) + m = Q * k4 + q := by exact_mod_cast e4.symm
  refine ⟨?_, fun h => ?_, fun h => ?_⟩
  · unfold mp
    rw [pw_pw vd4, pw_pw vd4, ← pw_add vd4, ← pw_add vd4]
    apply pw_congr
    have : (x : Int) + S * r = y + S * q + Q * (S * k4 + S * k3 + k2 - 1 - d * k1) := by grind
    rw [this, Int.add_mul_emod_self_left]
  · have h1 : lq (((q : Int)) - r) = 0 := pw4_inj h.symm
    have h2 : q = r := by
      have := lq_cast ((q : Int) - r)
      rw [h1] at this
      unfold Q at *
      omega
    subst h2
    have h3 : m = Q * k4 := by
      have : (m : Int) = Q * k4 := by omega
      exact_mod_cast this
    have hmQ : m < Q := by rw [← hm]; exact Nat.mod_lt _ Q_pos
    have hk : k4 = 0 := by
      rcases Nat.eq_zero_or_pos k4 with h | h
      · exact h
      · have : Q * 1 ≤ Q * k4 := Nat.mul_le_mul_left _ h
        omega
    rw [hk, Nat.mul_zero] at h3
    -- d is 0 then
    have h4 : lq (d : Int) = 0 := by
      have h5 : (d : Int) = Q * (S * k3 - d * k1) := by
        have f3' : (d : Int) * V = Q * k3 := by rw [f3, h3]; simp
        grind
      rw [← Int.natCast_inj, lq_cast, h5, Int.mul_emod_right]
      rfl
    rw [lq_nat, Nat.mod_eq_of_lt hdQ] at h4
    rw [h4] at f2
    have f5 : (x : Int) - y = Q * k2 - Q := by omega
    have : k2 = 1 := by
      have hb : Q * k2 < 2 * Q := by unfold Q at *; omega
      have hb2 : 0 < Q * k2 := by unfold Q at *; omega
      have h6 : k2 < 2 := by
        rcases Nat.lt_or_ge k2 2 with h | h
        · exact h
        · have : Q * 2 ≤ Q * k2 := Nat.mul_le_mul_left _ h
          omega
      have h7 : 0 < k2 := Nat.pos_of_ne_zero fun h => by rw [h] at hb2; simp at hb2
      omega
    subst this
    omega
  · subst h
    have h1 : d = 0 := by
      have : k2 = 1 ∨ k2 = 0 := by
        rcases Nat.lt_or_ge k2 2 with h | h
        · omega
        · have : Q * 2 ≤ Q * k2 := Nat.mul_le_mul_left _ h
          unfold Q at *; omega
      rcases this with rfl | rfl
      · omega
      · unfold Q at *; omega
    subst h1
    rw [Nat.zero_mul, Nat.zero_mod] at hm
    subst hm
    have h2 : q = r := by
      have : k4 = 0 := by
        rcases Nat.eq_zero_or_pos k4 with h | h
        · exact h
        · have : Q * 1 ≤ Q * k4 := Nat.mul_le_mul_left _ h
          omega
      subst this
      omega
    rw [h2]
end Frk
