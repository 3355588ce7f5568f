/- Plain number theory: sums over halves, the character of Eisenstein, its reciprocity. -/

namespace Frk

/-- sum of f over 1..m -/
def sumTo (f : Nat → Nat) : Nat → Nat
  | 0 => 0
  | m + 1 => sumTo f m + f (m + 1)

theorem sumTo_congr {f g : Nat → Nat} : ∀ m, (∀ k, 1 ≤ k → k ≤ m → f k = g k) → sumTo f m = sumTo g m
  | 0, _ => rfl
  | m + 1, h => by
    simp only [sumTo]
    rw [sumTo_congr m (fun k a b => h k a (by omega)), h (m + 1) (by omega) (by omega)]

theorem sumTo_add {f g : Nat → Nat} : ∀ m, sumTo (fun k => f k + g k) m = sumTo f m + sumTo g m
  | 0 => rfl
  | m + 1 => by simp only [sumTo]; rw [sumTo_add m]; omega

/-- congruence modulo 2 of sums -/
theorem sumTo_mod {f g : Nat → Nat} : ∀ m, (∀ k, 1 ≤ k → k ≤ m → f k % 2 = g k % 2) → sumTo f m % 2 = sumTo g m % 2
  | 0, _ => rfl
  | m + 1, h => by
    simp only [sumTo]
    have a := sumTo_mod m (fun k a b => h k a (by omega))
    have b := h (m + 1) (by omega) (by omega)
    omega

theorem sumTo_zero : ∀ m, sumTo (fun _ => 0) m = 0
  | 0 => rfl
  | m + 1 => by simp [sumTo, sumTo_zero m]

theorem sumTo_const (c : Nat) : ∀ m, sumTo (fun _ => c) m = m * c
  | 0 => by simp [sumTo]
  | m + 1 => by simp only [sumTo, sumTo_const c m]; rw [Nat.add_mul]; omega

/-- sums over the even and over the odd numbers -/
theorem sumTo_even_odd (f : Nat → Nat) : ∀ m, sumTo f m = sumTo (fun k => f (2 * k)) (m / 2) + sumTo (fun k => f (2 * k - 1)) ((m + 1) / 2)
  | 0 => rfl
  | 1 => by simp [sumTo]
  | m + 2 => by
    have e1 : (m + 2) / 2 = m / 2 + 1 := by omega
    have e2 : (m + 2 + 1) / 2 = (m + 1) / 2 + 1 := by omega
    rw [e1, e2]
    simp only [sumTo]
    rw [sumTo_even_odd f m]
    rcases Nat.mod_two_eq_zero_or_one m with h | h
    · rw [show 2 * (m / 2 + 1) = m + 1 + 1 from by omega, show 2 * ((m + 1) / 2 + 1) - 1 = m + 1 from by omega]; omega
    · rw [show 2 * (m / 2 + 1) = m + 1 from by omega, show 2 * ((m + 1) / 2 + 1) - 1 = m + 1 + 1 from by omega]; omega

/-- the sum of the first part and of the rest, turned round -/
theorem sumTo_split (f : Nat → Nat) (a : Nat) : ∀ b, sumTo f (a + b) = sumTo f a + sumTo (fun j => f (a + j)) b
  | 0 => by simp [sumTo]
  | b + 1 => by
    have := sumTo_split f a b
    rw [← Nat.add_assoc]
    simp only [sumTo]
    rw [this, Nat.add_assoc, Nat.add_assoc]

theorem sumTo_rev (f : Nat → Nat) : ∀ m, sumTo f m = sumTo (fun j => f (m + 1 - j)) m
  | 0 => rfl
  | m + 1 => by
    have h := sumTo_split (fun j => f (m + 2 - j)) 1 m
    rw [Nat.add_comm 1 m] at h
    rw [h]
    simp only [sumTo]
    rw [sumTo_rev f m, show m + 2 - (0 + 1) = m + 1 from by omega]
    rw [sumTo_congr (f := fun j => f (m + 2 - (1 + j))) (g := fun j => f (m + 1 - j)) m (fun k _ _ => by rw [show m + 2 - (1 + k) = m + 1 - k from by omega])]
    omega

/-- 2k for 2k at most m, else n - 2k, where n = 2m + 1: each number from 1 to m once -/
theorem sumTo_fold (f : Nat → Nat) (m : Nat) :
    sumTo f m = sumTo (fun k => if 2 * k ≤ m then f (2 * k) else f (2 * m + 1 - 2 * k)) m := by
  have hs := sumTo_split (fun k => if 2 * k ≤ m then f (2 * k) else f (2 * m + 1 - 2 * k)) (m / 2) ((m + 1) / 2)
  rw [show m / 2 + (m + 1) / 2 = m from by omega] at hs
  rw [hs, sumTo_even_odd f m]
  congr 1
  · exact sumTo_congr _ (fun k _ h => by rw [if_pos (by omega)])
  · rw [sumTo_rev]
    exact sumTo_congr _ (fun k h1 h2 => by rw [if_neg (by omega)]; congr 1; omega)

/-- how often multiples of a, reduced modulo n, lie in the upper half (modulo 2: the character) -/
def up (a n : Nat) : Nat := sumTo (fun k => 2 * a * k / n) (n / 2)

theorem up_mod (a n : Nat) (hn : 0 < n) : up (a % n) n % 2 = up a n % 2 := by
  unfold up
  refine sumTo_mod _ (fun k _ _ => ?_)
  have h : 2 * a * k = 2 * (a % n) * k + n * (2 * (a / n) * k) := by
    have := Nat.div_add_mod a n
    calc 2 * a * k = 2 * (n * (a / n) + a % n) * k := by rw [this]
      _ = _ := by simp only [Nat.mul_add, Nat.add_mul]; rw [Nat.add_comm]; congr 1; ac_rfl
  rw [h, Nat.add_mul_div_left _ _ hn]
  have : 2 * (a / n) * k = 2 * ((a / n) * k) := by rw [Nat.mul_assoc]
  omega

theorem up_one (n : Nat) (h : n % 2 = 1) : up 1 n = 0 := by
  unfold up
  rw [sumTo_congr (g := fun _ => 0) _ (fun k _ hk => by
    exact Nat.div_eq_of_lt (by omega))]
  exact sumTo_zero _

/-- q(n - t) = qn - qt; where n does not divide qt, the quotients add up to q - 1 -/
theorem div_compl (q t n : Nat) (ht : t ≤ n) (hn : 0 < n) (hd : ¬ n ∣ q * t) : q * (n - t) / n + q * t / n + 1 = q := by
  have h1 : q * (n - t) = q * n - q * t := Nat.mul_sub q n t
  have h2 : q * t ≤ q * n := Nat.mul_le_mul_left q ht
  have h3 := Nat.div_add_mod (q * t) n
  have h4 := Nat.mod_lt (q * t) hn
  have h5 : q * t % n ≠ 0 := fun e => hd (Nat.dvd_of_mod_eq_zero e)
  have h0 : q * t / n < q := by
    rw [Nat.div_lt_iff_lt_mul hn]
    rcases Nat.lt_or_ge (q * t) (q * n) with h | h
    · exact h
    · exfalso; apply hd; rw [Nat.le_antisymm h2 h]; exact Nat.dvd_mul_left n q
  have h6 : q * (n - t) / n = q - q * t / n - 1 := by
    rw [Nat.div_eq_iff hn]
    generalize q * t / n = c at *
    have e1 : (q - c - 1) * n = q * n - n * c - n := by
      rw [Nat.sub_mul, Nat.sub_mul, Nat.one_mul, Nat.mul_comm c n]
    have h8 : n * c + n ≤ q * n := by
      rw [show n * c + n = (c + 1) * n from by rw [Nat.add_mul, Nat.mul_comm c n, Nat.one_mul]]
      exact Nat.mul_le_mul_right n h0
    rw [e1, h1]
    constructor <;> omega
  omega

/-- the character at a double -/
theorem up_double (y n m : Nat) (hn : n = 2 * m + 1) (hc : Nat.gcd y n = 1) : up (2 * y) n % 2 = (up y n + (m + 1) / 2) % 2 := by
  have hm : n / 2 = m := by omega
  unfold up
  rw [hm, sumTo_fold (fun k => 2 * y * k / n) m]
  have hs := sumTo_split (fun k => 2 * (2 * y) * k / n) (m / 2) ((m + 1) / 2)
  have hs2 := sumTo_split (fun k => if 2 * k ≤ m then 2 * y * (2 * k) / n else 2 * y * (2 * m + 1 - 2 * k) / n) (m / 2) ((m + 1) / 2)
  rw [show m / 2 + (m + 1) / 2 = m from by omega] at hs hs2
  rw [hs, hs2]
  have h1 : sumTo (fun k => 2 * (2 * y) * k / n) (m / 2) = sumTo (fun k => if 2 * k ≤ m then 2 * y * (2 * k) / n else 2 * y * (2 * m + 1 - 2 * k) / n) (m / 2) :=
    sumTo_congr _ (fun k _ h => by rw [if_pos (by omega)]; congr 1; simp only [Nat.mul_assoc, Nat.mul_left_comm])
  rw [h1]
  have h2 : sumTo (fun j => 2 * (2 * y) * (m / 2 + j) / n) ((m + 1) / 2) % 2
      = sumTo (fun j => (if 2 * (m / 2 + j) ≤ m then 2 * y * (2 * (m / 2 + j)) / n else 2 * y * (2 * m + 1 - 2 * (m / 2 + j)) / n) + 1) ((m + 1) / 2) % 2 := by
    refine sumTo_mod _ (fun j h1 h2 => ?_)
    rw [if_neg (by omega)]
    generalize hk : m / 2 + j = k
    have hk1 : m < 2 * k := by omega
    have hk2 : k ≤ m := by omega
    have hd : ¬ n ∣ 2 * y * (2 * k) := by
      intro hd
      have h3 : n ∣ y * (4 * k) := by
        rw [show 2 * y * (2 * k) = y * (4 * k) from by
          rw [Nat.mul_comm 2 y, Nat.mul_assoc, ← Nat.mul_assoc 2 2 k]] at hd
        exact hd
      have h4 : n ∣ 4 * k := Nat.Coprime.dvd_of_dvd_mul_left (Nat.Coprime.symm hc) h3
      have h6 : Nat.Coprime n 4 := by
        have : n % 2 = 1 := by omega
        rw [show (4 : Nat) = 2 * 2 from rfl]
        have h7 : Nat.Coprime n 2 := by
          unfold Nat.Coprime
          rw [Nat.gcd_comm, Nat.gcd_rec, this]
          rfl
        exact Nat.Coprime.mul_right h7 h7
      have h5 : n ∣ k := Nat.Coprime.dvd_of_dvd_mul_left h6 h4
      have := Nat.le_of_dvd (by omega) h5
      omega
    have := div_compl (2 * y) (2 * k) n (by omega) (by omega) hd
    rw [← hn]
    have e : 2 * (2 * y) * k = 2 * y * (2 * k) := by simp only [Nat.mul_assoc, Nat.mul_left_comm]
    rw [e]
    omega
  rw [sumTo_add, sumTo_const] at h2
  omega

/-- Eisenstein: for an odd a, halves are enough -/
theorem up_odd (a n m : Nat) (hn : n = 2 * m + 1) (ha : a % 2 = 1) (hc : Nat.gcd a n = 1) : up a n % 2 = sumTo (fun k => a * k / n) m % 2 := by
  have hm : n / 2 = m := by omega
  unfold up
  rw [hm, sumTo_fold (fun k => a * k / n) m]
  refine sumTo_mod _ (fun k h1 h2 => ?_)
  split
  · rw [show 2 * a * k = a * (2 * k) from by simp only [Nat.mul_assoc, Nat.mul_left_comm]]
  · have hd : ¬ n ∣ a * (2 * k) := by
      intro hd
      have h4 : n ∣ 2 * k := Nat.Coprime.dvd_of_dvd_mul_left (Nat.Coprime.symm hc) hd
      have h7 : Nat.Coprime n 2 := by
        unfold Nat.Coprime
        rw [Nat.gcd_comm, Nat.gcd_rec, show n % 2 = 1 from by omega]
        rfl
      have h5 : n ∣ k := Nat.Coprime.dvd_of_dvd_mul_left h7 h4
      have := Nat.le_of_dvd (by omega) h5
      omega
    have := div_compl a (2 * k) n (by omega) (by omega) hd
    rw [show 2 * a * k = a * (2 * k) from by simp only [Nat.mul_assoc, Nat.mul_left_comm], ← hn]
    omega
theorem sumTo_swap (f : Nat → Nat → Nat) (m : Nat) : ∀ s, sumTo (fun k => sumTo (fun j => f k j) s) m = sumTo (fun j => sumTo (fun k => f k j) m) s
  | 0 => by simp only [sumTo]; exact sumTo_zero m
  | s + 1 => by
    simp only [sumTo]
    rw [sumTo_add (f := fun k => sumTo (fun j => f k j) s) (g := fun k => f k (s + 1)), sumTo_swap f m s]

theorem count_le (n x : Nat) (hn : 0 < n) : ∀ s, sumTo (fun j => if n * j ≤ x then 1 else 0) s = min s (x / n)
  | 0 => by simp [sumTo]
  | s + 1 => by
    simp only [sumTo]
    rw [count_le n x hn s]
    have h := Nat.le_div_iff_mul_le hn (x := s + 1) (y := x)
    rw [Nat.mul_comm] at h
    split
    · rename_i h1; have := h.2 h1; omega
    · rename_i h1; have : ¬ (s + 1 ≤ x / n) := fun h2 => h1 (h.1 h2); omega

theorem lattice (a n s m : Nat) (ha : a = 2 * s + 1) (hn : n = 2 * m + 1) (hc : Nat.gcd a n = 1) :
    sumTo (fun k => a * k / n) m + sumTo (fun j => n * j / a) s = m * s := by
  have e1 : sumTo (fun k => a * k / n) m = sumTo (fun k => sumTo (fun j => if n * j ≤ a * k then 1 else 0) s) m := by
    refine sumTo_congr _ (fun k _ h => ?_)
    rw [count_le n (a * k) (by omega) s]
    have : a * k / n ≤ s := by
      have h1 : a * k < n * (s + 1) := by
        have h2 : 2 * (a * k) ≤ a * (2 * m) := by rw [Nat.mul_left_comm]; exact Nat.mul_le_mul_left a (by omega)
        have h3 : a * (2 * m) + a = a * n := by rw [hn, Nat.mul_add]; omega
        have h4 : a * n + n = 2 * (n * (s + 1)) := by rw [ha, Nat.add_mul, Nat.mul_add, Nat.mul_one, Nat.mul_assoc 2 s n, Nat.mul_comm s n]; omega
        omega
      have := Nat.div_lt_of_lt_mul h1
      omega
    omega
  have e2 : sumTo (fun j => n * j / a) s = sumTo (fun j => sumTo (fun k => if a * k ≤ n * j then 1 else 0) m) s := by
    refine sumTo_congr _ (fun j _ h => ?_)
    rw [count_le a (n * j) (by omega) m]
    have : n * j / a ≤ m := by
      have h1 : n * j < a * (m + 1) := by
        have h2 : 2 * (n * j) ≤ n * (2 * s) := by rw [Nat.mul_left_comm]; exact Nat.mul_le_mul_left n (by omega)
        have h3 : n * (2 * s) + n = n * a := by rw [ha, Nat.mul_add]; omega
        have h4 : n * a + a = 2 * (a * (m + 1)) := by rw [hn, Nat.add_mul, Nat.mul_add, Nat.mul_one, Nat.mul_assoc 2 m a, Nat.mul_comm m a]; omega
        omega
      have := Nat.div_lt_of_lt_mul h1
      omega
    omega
  rw [e1, e2, sumTo_swap, ← sumTo_add]
  rw [sumTo_congr (g := fun _ => m) s (fun j h1 h2 => ?_), sumTo_const, Nat.mul_comm]
  rw [← sumTo_add, sumTo_congr (g := fun _ => 1) m (fun k h3 h4 => ?_), sumTo_const, Nat.mul_one]
  have hne : n * j ≠ a * k := by
    intro e
    have h5 : n ∣ a * k := ⟨j, e.symm⟩
    have h6 : n ∣ k := Nat.Coprime.dvd_of_dvd_mul_left (Nat.Coprime.symm hc) h5
    have := Nat.le_of_dvd (by omega) h6
    omega
  by_cases h : n * j ≤ a * k
  · rw [if_pos h, if_neg (by omega)]
  · rw [if_neg h, if_pos (by omega)]

/-- reciprocity, for all odd numbers that have no common divisor -/
theorem up_recip (a n s m : Nat) (ha : a = 2 * s + 1) (hn : n = 2 * m + 1) (hc : Nat.gcd a n = 1) : (up a n + up n a) % 2 = (m * s) % 2 := by
  have h1 := up_odd a n m hn (by omega) hc
  have h2 := up_odd n a s ha (by omega) (by rw [Nat.gcd_comm]; exact hc)
  have h3 := lattice a n s m ha hn hc
  omega

/-! ## products, and the lemma of Gauss -/

def prodTo (f : Nat → Nat) : Nat → Nat
  | 0 => 1
  | m + 1 => prodTo f m * f (m + 1)

theorem prodTo_mul (f g : Nat → Nat) : ∀ m, prodTo (fun k => f k * g k) m = prodTo f m * prodTo g m
  | 0 => rfl
  | m + 1 => by simp only [prodTo]; rw [prodTo_mul f g m]; ac_rfl

theorem prodTo_const (a : Nat) : ∀ m, prodTo (fun _ => a) m = a ^ m
  | 0 => rfl
  | m + 1 => by simp only [prodTo]; rw [prodTo_const a m, Nat.pow_succ]

theorem prodTo_mod (p : Nat) {f g : Nat → Nat} : ∀ m, (∀ k, 1 ≤ k → k ≤ m → f k % p = g k % p) → prodTo f m % p = prodTo g m % p
  | 0, _ => rfl
  | m + 1, h => by
    simp only [prodTo]
    rw [Nat.mul_mod, prodTo_mod p m (fun k a b => h k a (by omega)), h (m + 1) (by omega) (by omega), ← Nat.mul_mod]

def lprod : List Nat → Nat
  | [] => 1
  | x :: l => x * lprod l

theorem lprod_perm {l l' : List Nat} (h : l.Perm l') : lprod l = lprod l' := by
  induction h with
  | nil => rfl
  | cons x _ ih => simp only [lprod, ih]
  | swap x y l => simp only [lprod]; ac_rfl
  | trans _ _ h1 h2 => exact h1.trans h2

theorem lprod_append : ∀ l l', lprod (l ++ l') = lprod l * lprod l'
  | [], l' => by simp [lprod]
  | x :: l, l' => by simp only [List.cons_append, lprod, lprod_append l l', Nat.mul_assoc]

/-- the numbers from 1 to m -/
def upTo (f : Nat → Nat) : Nat → List Nat
  | 0 => []
  | m + 1 => upTo f m ++ [f (m + 1)]

theorem lprod_upTo (f : Nat → Nat) : ∀ m, lprod (upTo f m) = prodTo f m
  | 0 => rfl
  | m + 1 => by simp [upTo, prodTo, lprod_append, lprod, lprod_upTo f m]

theorem mem_upTo (f : Nat → Nat) (x : Nat) : ∀ m, x ∈ upTo f m ↔ ∃ k, 1 ≤ k ∧ k ≤ m ∧ x = f k
  | 0 => by simp [upTo]; intro k h1 h2; omega
  | m + 1 => by
    simp only [upTo, List.mem_append, List.mem_singleton, mem_upTo f x m]
    constructor
    · rintro (⟨k, a, b, c⟩ | h)
      · exact ⟨k, a, by omega, c⟩
      · exact ⟨m + 1, by omega, by omega, h⟩
    · rintro ⟨k, a, b, c⟩
      by_cases e : k = m + 1
      · right; rw [c, e]
      · left; exact ⟨k, a, by omega, c⟩

theorem length_upTo (f : Nat → Nat) : ∀ m, (upTo f m).length = m
  | 0 => rfl
  | m + 1 => by simp [upTo, length_upTo f m]

theorem nodup_upTo (f : Nat → Nat) : ∀ m, (∀ i j, 1 ≤ i → i < j → j ≤ m → f i ≠ f j) → (upTo f m).Nodup
  | 0, _ => by simp [upTo]
  | m + 1, h => by
    simp only [upTo]
    rw [List.nodup_append]
    refine ⟨nodup_upTo f m (fun i j a b c => h i j a b (by omega)), by simp, ?_⟩
    intro x hx y hy
    rw [List.mem_singleton] at hy
    obtain ⟨k, a, b, rfl⟩ := (mem_upTo f x m).1 hx
    rw [hy]
    exact h k (m + 1) a (by omega) (by omega)

theorem pigeon : ∀ (m : Nat) (l : List Nat), l.Nodup → (∀ x ∈ l, 1 ≤ x ∧ x ≤ m) → l.length ≤ m
  | 0, l, _, h => by
    cases l with
    | nil => simp
    | cons x l => have := h x (by simp); omega
  | m + 1, l, hn, h => by
    have hl : l.length ≤ (l.erase (m + 1)).length + 1 := by rw [List.length_erase]; split <;> omega
    have := pigeon m (l.erase (m + 1)) (hn.erase _) (fun x hx => by
      have h1 := h x (List.mem_of_mem_erase hx)
      have h2 : x ≠ m + 1 := fun e => by subst e; exact (List.Nodup.not_mem_erase hn) hx
      omega)
    omega

theorem perm_of_pigeon : ∀ (m : Nat) (l : List Nat), l.Nodup → (∀ x ∈ l, 1 ≤ x ∧ x ≤ m) → l.length = m → l.Perm (upTo (fun k => k) m)
  | 0, l, _, _, h => by
    rw [List.length_eq_zero_iff.1 h]; exact List.Perm.refl _
  | m + 1, l, hn, h, hl => by
    have hmem : m + 1 ∈ l := by
      apply Decidable.byContradiction
      intro hno
      have := pigeon m l hn (fun x hx => by
        have h1 := h x hx
        have h2 : x ≠ m + 1 := fun e => by subst e; exact hno hx
        omega)
      omega
    have h1 := List.perm_cons_erase hmem
    have h2 := perm_of_pigeon m (l.erase (m + 1)) (hn.erase _) (fun x hx => by
      have h1 := h x (List.mem_of_mem_erase hx)
      have h2 : x ≠ m + 1 := fun e => by subst e; exact (List.Nodup.not_mem_erase hn) hx
      omega) (by rw [List.length_erase_of_mem hmem]; omega)
    simp only [upTo]
    exact h1.trans ((List.Perm.cons _ h2).trans (List.perm_append_comm (l₁ := [m + 1])))

/-- a number of which no other one than 1 and itself is a divisor -/
def Prime (p : Nat) : Prop := 2 ≤ p ∧ ∀ d, d ∣ p → d = 1 ∨ d = p

theorem Prime.gcd {p a : Nat} (h : Prime p) (ha : ¬ p ∣ a) : Nat.gcd a p = 1 := by
  rcases h.2 _ (Nat.gcd_dvd_right a p) with e | e
  · exact e
  · exact absurd (e ▸ Nat.gcd_dvd_left a p) ha

theorem Prime.dvd_mul {p a b : Nat} (h : Prime p) (hd : p ∣ a * b) : p ∣ a ∨ p ∣ b := by
  by_cases ha : p ∣ a
  · exact .inl ha
  · exact .inr (Nat.Coprime.dvd_of_dvd_mul_left (Nat.Coprime.symm (h.gcd ha)) hd)

theorem Prime.not_dvd_prod {p : Nat} (h : Prime p) (f : Nat → Nat) : ∀ m, (∀ k, 1 ≤ k → k ≤ m → ¬ p ∣ f k) → ¬ p ∣ prodTo f m
  | 0, _, hd => by have h1 : p ∣ 1 := hd; have := Nat.le_of_dvd (by omega) h1; have := h.1; omega
  | m + 1, hf, hd => by
    rcases h.dvd_mul hd with e | e
    · exact Prime.not_dvd_prod h f m (fun k a b => hf k a (by omega)) e
    · exact hf (m + 1) (by omega) (by omega) e

theorem mod_eq_iff_dvd {p a b : Nat} (h : a ≤ b) : a % p = b % p ↔ p ∣ b - a := by
  constructor
  · intro e; exact Nat.dvd_of_mod_eq_zero (Nat.sub_mod_eq_zero_of_mod_eq e.symm)
  · rintro ⟨c, hc⟩
    obtain rfl : b = a + p * c := by omega
    rw [Nat.add_mul_mod_self_left]

/-- what is not divisible by p may be struck -/
theorem Prime.cancel {p a b c : Nat} (h : Prime p) (hc : ¬ p ∣ c) (e : a * c % p = b * c % p) : a % p = b % p := by
  rcases Nat.le_total a b with hab | hab
  · have h1 : p ∣ (b - a) * c := by
      rw [Nat.sub_mul]; exact (mod_eq_iff_dvd (Nat.mul_le_mul_right c hab)).1 e
    rcases h.dvd_mul h1 with h2 | h2
    · exact (mod_eq_iff_dvd hab).2 h2
    · exact absurd h2 hc
  · have h1 : p ∣ (a - b) * c := by
      rw [Nat.sub_mul]; exact (mod_eq_iff_dvd (Nat.mul_le_mul_right c hab)).1 e.symm
    rcases h.dvd_mul h1 with h2 | h2
    · exact ((mod_eq_iff_dvd hab).2 h2).symm
    · exact absurd h2 hc

/-- the distance of a k from the nearest multiple of p -/
def fold (a p k : Nat) : Nat := if a * k % p ≤ p / 2 then a * k % p else p - a * k % p

theorem fold_inj {p a m : Nat} (hp : Prime p) (hm : p = 2 * m + 1) (ha : ¬ p ∣ a) (i j : Nat) (hi : 1 ≤ i) (hij : i < j) (hj : j ≤ m) : fold a p i ≠ fold a p j := by
  intro e
  have ri := Nat.mod_lt (a * i) (show 0 < p by omega)
  have rj := Nat.mod_lt (a * j) (show 0 < p by omega)
  have same : a * i % p = a * j % p → False := by
    intro h
    have h1 : i % p = j % p := hp.cancel ha (by rw [Nat.mul_comm i a, Nat.mul_comm j a]; exact h)
    rw [Nat.mod_eq_of_lt (by omega), Nat.mod_eq_of_lt (by omega)] at h1
    omega
  have opp : a * i % p + a * j % p = p → False := by
    intro h
    have h1 : p ∣ a * (i + j) := by
      apply Nat.dvd_of_mod_eq_zero
      rw [Nat.mul_add, Nat.add_mod, h, Nat.mod_self]
    rcases hp.dvd_mul h1 with h2 | h2
    · exact ha h2
    · have := Nat.le_of_dvd (by omega) h2
      omega
  unfold fold at e
  split at e <;> split at e
  · exact same e
  · exact opp (by omega)
  · exact opp (by omega)
  · exact same (by omega)

theorem fold_range {p a m : Nat} (hp : Prime p) (hm : p = 2 * m + 1) (ha : ¬ p ∣ a) (k : Nat) (hk : 1 ≤ k) (hk' : k ≤ m) : 1 ≤ fold a p k ∧ fold a p k ≤ m := by
  have ri := Nat.mod_lt (a * k) (show 0 < p by omega)
  have : a * k % p ≠ 0 := by
    intro h
    rcases hp.dvd_mul (Nat.dvd_of_mod_eq_zero h) with h2 | h2
    · exact ha h2
    · have := Nat.le_of_dvd (by omega) h2
      omega
  unfold fold
  split <;> omega

theorem prod_fold {p a m : Nat} (hp : Prime p) (hm : p = 2 * m + 1) (ha : ¬ p ∣ a) : prodTo (fold a p) m = prodTo (fun k => k) m := by
  rw [← lprod_upTo, ← lprod_upTo]
  refine lprod_perm (perm_of_pigeon m _ (nodup_upTo _ m (fun i j => fold_inj hp hm ha i j)) ?_ (length_upTo _ m))
  intro x hx
  obtain ⟨k, a1, b1, rfl⟩ := (mem_upTo _ x m).1 hx
  exact fold_range hp hm ha k a1 b1

theorem prodTo_pow (c : Nat) (f : Nat → Nat) : ∀ m, prodTo (fun k => c ^ f k) m = c ^ sumTo f m
  | 0 => rfl
  | m + 1 => by simp only [prodTo, sumTo]; rw [prodTo_pow c f m, Nat.pow_add]

theorem sq_minus_one (p : Nat) (hp : 2 ≤ p) : (p - 1) * (p - 1) % p = 1 := by
  obtain ⟨q, rfl⟩ : ∃ q, p = q + 2 := ⟨p - 2, by omega⟩
  have : (q + 2 - 1) * (q + 2 - 1) = 1 + (q + 2) * q := by
    rw [show q + 2 - 1 = q + 1 from rfl]; simp only [Nat.add_mul, Nat.mul_add]; omega
  rw [this, Nat.add_mul_mod_self_left]
  exact Nat.mod_eq_of_lt (by omega)

theorem minus_pow (p : Nat) (hp : 3 ≤ p) : ∀ e, (p - 1) ^ e % p = if e % 2 = 0 then 1 else p - 1
  | 0 => by rw [Nat.pow_zero, Nat.mod_eq_of_lt (by omega)]; rfl
  | 1 => by rw [Nat.pow_one, Nat.mod_eq_of_lt (by omega)]; rfl
  | e + 2 => by
    rw [Nat.pow_add, show (p - 1) ^ 2 = (p - 1) * (p - 1) from by rw [Nat.pow_two], Nat.mul_mod, sq_minus_one p (by omega), Nat.mul_one, Nat.mod_mod, minus_pow p hp e, Nat.add_mod_right]

theorem fold_mod {p a m : Nat} (hm : p = 2 * m + 1) (hm0 : 1 ≤ m) (k : Nat) : a * k % p = (p - 1) ^ (2 * a * k / p) * fold a p k % p := by
  have r := Nat.mod_lt (a * k) (show 0 < p by omega)
  have d := Nat.div_add_mod (a * k) p
  have e : 2 * a * k / p = 2 * (a * k / p) + 2 * (a * k % p) / p := by
    have : 2 * a * k = 2 * (a * k % p) + p * (2 * (a * k / p)) := by
      rw [Nat.mul_left_comm p 2, Nat.mul_assoc 2 a k]; omega
    rw [this, Nat.add_mul_div_left _ _ (by omega)]; omega
  rw [Nat.mul_mod ((p - 1) ^ (2 * a * k / p)), minus_pow p (by omega), e]
  unfold fold
  by_cases h : a * k % p ≤ p / 2
  · rw [if_pos h, Nat.div_eq_of_lt (show 2 * (a * k % p) < p by omega), if_pos (by omega), Nat.one_mul, Nat.mod_mod, Nat.mod_mod]
  · have h1 : 2 * (a * k % p) / p = 1 := by rw [Nat.div_eq_iff (by omega)]; constructor <;> omega
    rw [if_neg h, h1, if_neg (by omega)]
    generalize a * k % p = x at *
    have h2 : (p - x) % p = p - x := Nat.mod_eq_of_lt (by omega)
    rw [h2]
    have h3 : (p - 1) * (p - x) = x + p * (p - x - 1) := by
      obtain ⟨y, hy⟩ : ∃ y, p - x = y + 1 := ⟨p - x - 1, by omega⟩
      rw [hy, show y + 1 - 1 = y from rfl, Nat.sub_mul, Nat.one_mul, Nat.mul_add, Nat.mul_one]; omega
    rw [h3, Nat.add_mul_mod_self_left, Nat.mod_eq_of_lt r]

/-- the lemma of Gauss -/
theorem euler {p a m : Nat} (hp : Prime p) (hm : p = 2 * m + 1) (hm0 : 1 ≤ m) (ha : ¬ p ∣ a) : a ^ m % p = if up a p % 2 = 0 then 1 else p - 1 := by
  have h1 : prodTo (fun k => a * k) m % p = prodTo (fun k => (p - 1) ^ (2 * a * k / p) * fold a p k) m % p :=
    prodTo_mod p m (fun k _ _ => fold_mod hm hm0 k)
  rw [prodTo_mul, prodTo_mul, prodTo_const, prodTo_pow, prod_fold hp hm ha] at h1
  have h2 := hp.cancel (hp.not_dvd_prod _ m (fun k a b hd => by have := Nat.le_of_dvd a hd; omega)) h1
  rw [h2, show sumTo (fun k => 2 * a * k / p) m = up a p from by unfold up; rw [show p / 2 = m from by omega], minus_pow p (by omega)]

/-! ## the steps of the reduction -/

theorem up_half (x n : Nat) (hn : n % 2 = 1) (hx : x % 2 = 0) (hc : Nat.gcd x n = 1) :
    up x n % 2 = (up (x / 2) n + (if n % 8 = 3 ∨ n % 8 = 5 then 1 else 0)) % 2 := by
  obtain ⟨y, rfl⟩ : ∃ y, x = 2 * y := ⟨x / 2, by omega⟩
  have hy : Nat.gcd y n = 1 := Nat.Coprime.coprime_mul_left hc
  rw [up_double y n (n / 2) (by omega) hy, show 2 * y / 2 = y from by omega]
  split <;> omega

theorem up_turn (x n : Nat) (hn : n % 2 = 1) (hx : x % 2 = 1) (hc : Nat.gcd x n = 1) :
    up x n % 2 = (up (n % x) x + (if x % 4 = 3 ∧ n % 4 = 3 then 1 else 0)) % 2 := by
  have h1 := up_recip x n (x / 2) (n / 2) (by omega) (by omega) hc
  have h2 := up_mod n x (by omega)
  have h3 : (n / 2 * (x / 2)) % 2 = if x % 4 = 3 ∧ n % 4 = 3 then 1 else 0 := by
    rw [Nat.mul_mod]
    split
    · rw [show n / 2 % 2 = 1 from by omega, show x / 2 % 2 = 1 from by omega]
    · rename_i h
      have : n / 2 % 2 = 0 ∨ x / 2 % 2 = 0 := by omega
      rcases this with e | e <;> simp [e]
  omega

/-! ## a check by division -/

/-- no number from 2 to n + 1 divides p -/
def free (p : Nat) : Nat → Bool
  | 0 => true
  | n + 1 => (p % (n + 2) != 0) && free p n

theorem free_spec (p : Nat) : ∀ n, free p n = true → ∀ d, 2 ≤ d → d ≤ n + 1 → ¬ d ∣ p
  | 0, _, d, h1, h2, _ => by omega
  | n + 1, h, d, h1, h2, hd => by
    simp only [free, Bool.and_eq_true, bne_iff_ne, ne_eq] at h
    by_cases e : d = n + 2
    · subst e; exact h.1 (Nat.mod_eq_zero_of_dvd hd)
    · exact free_spec p n h.2 d h1 (by omega) hd

theorem prime_of_free (p n : Nat) (hp : 2 ≤ p) (hn : p < (n + 2) * (n + 2)) (h : free p n = true) : Prime p := by
  refine ⟨hp, fun d hd => ?_⟩
  have hd0 : 0 < d := Nat.pos_of_dvd_of_pos hd (by omega)
  obtain ⟨c, hc⟩ := hd
  have hc0 : 0 < c := by rcases Nat.eq_zero_or_pos c with e | e; · subst e; simp at hc; omega
                         · exact e
  apply Decidable.byContradiction
  intro hno
  have h1 : d ≠ 1 := fun e => hno (.inl e)
  have h2 : c ≠ 1 := fun e => hno (.inr (by rw [hc, e, Nat.mul_one]))
  have g1 : n + 2 ≤ d := by
    apply Decidable.byContradiction; intro hl
    exact free_spec p n h d (by omega) (by omega) ⟨c, hc⟩
  have g2 : n + 2 ≤ c := by
    apply Decidable.byContradiction; intro hl
    exact free_spec p n h c (by omega) (by omega) ⟨d, by rw [hc, Nat.mul_comm]⟩
  have := Nat.mul_le_mul g1 g2
  omega

set_option maxRecDepth 100000 in
theorem primeP : Prime 2147483579 := prime_of_free _ 46340 (by omega) (by decide) (by decide +kernel)

end Frk
