import Derived.Test.YtkkkfkefbjpmaaaDoorGrp
namespace Frk

/-- Fermat: modulo a prime, for a number that it does not divide -/
theorem fermat {p a : Nat} (hp : Prime p) (ha : ¬ p ∣ a) : a ^ (p - 1) % p = 1 := by
  have h2 := hp.1
  have inj : ∀ i j, 1 ≤ i → i < j → j ≤ p - 1 → a * i % p ≠ a * j % p := by
    intro i j h1 h2 h3 e
    have h1 : i % p = j % p := hp.cancel ha (by rw [Nat.mul_comm i a, Nat.mul_comm j a]; exact e)
    rw [Nat.mod_eq_of_lt (by omega), Nat.mod_eq_of_lt (by omega)] at h1
    omega
  have h1 : prodTo (fun k => a * k % p) (p - 1) = prodTo (fun k => k) (p - 1) := by
    rw [← lprod_upTo, ← lprod_upTo]
    refine lprod_perm (perm_of_pigeon _ _ (nodup_upTo _ _ inj) ?_ (length_upTo _ _))
    intro x hx
    obtain ⟨k, a1, b1, rfl⟩ := (mem_upTo _ x _).1 hx
    have := Nat.mod_lt (a * k) (show 0 < p by omega)
    have h0 : a * k % p ≠ 0 := by
      intro e
      rcases hp.dvd_mul (Nat.dvd_of_mod_eq_zero e) with h | h
      · exact ha h
      · have := Nat.le_of_dvd a1 h; omega
    omega
  have h3 : prodTo (fun k => a * k) (p - 1) % p = prodTo (fun k => a * k % p) (p - 1) % p := prodTo_mod p _ (fun k _ _ => by rw [Nat.mod_mod])
  rw [h1, prodTo_mul, prodTo_const] at h3
  have h4 := hp.cancel (a := a ^ (p - 1)) (b := 1) (hp.not_dvd_prod _ (p - 1) (fun k a b hd => by have := Nat.le_of_dvd a hd; omega)) (by rw [h3, Nat.one_mul])
  rw [h4, Nat.mod_eq_of_lt (by omega)]

/-- the inverse modulo Q -/
theorem inv_Q {a : Nat} (h : a % Q ≠ 0) : a * (a ^ (Q - 2)) % Q = 1 := by
  have := fermat prime_Q (a := a) (fun hd => h (Nat.mod_eq_zero_of_dvd hd))
  rw [show Q - 1 = (Q - 2) + 1 from rfl, Nat.pow_succ'] at this
  exact this
end Frk
