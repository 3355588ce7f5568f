import Derived.Test.YtkkkfkefbjpmaaaDoorSha
/- The encoding of lists of numbers and texts. -/
namespace Frk

/-- the digits of a number, the least one first; f bounds their number -/
def numF : Nat → Nat → Bytes
  | 0, _ => []
  | f + 1, u => if u < 128 then [UInt8.ofNat u] else UInt8.ofNat (u % 128 + 128) :: numF f (u / 128)

def numeral (u : Nat) : Bytes := numF 10 u

/-- the unsigned form of a number -/
def zig (n : Int) : Nat := if 0 ≤ n then (2 * n).toNat else (2 * (-(n + 1)) + 1).toNat

inductive Lf where
  | i (n : Int)
  | t (b : Bytes)

def Lf.enc : Lf → Bytes
  | .i n => 1 :: numeral (zig n)
  | .t b => 2 :: (numeral b.length ++ b)

def encs : List Lf → Bytes
  | [] => []
  | x :: l => x.enc ++ encs l

/-- the encoding of a list -/
def encL (l : List Lf) : Bytes := 3 :: (numeral l.length ++ encs l)

theorem encs_append : ∀ l m, encs (l ++ m) = encs l ++ encs m
  | [], m => rfl
  | x :: l, m => by simp [encs, encs_append l m]

theorem numF_inj : ∀ f u v a b, u < 128 ^ f → v < 128 ^ f → numF f u ++ a = numF f v ++ b → u = v ∧ a = b
  | 0, u, v, a, b, hu, hv, h => by
    simp at hu hv; subst hu; subst hv; simpa [numF] using h
  | f + 1, u, v, a, b, hu, hv, h => by
    have byte : ∀ x y : Nat, x < 256 → y < 256 → UInt8.ofNat x = UInt8.ofNat y → x = y := by
      intro x y hx hy e
      have := congrArg UInt8.toNat e
      rw [UInt8.toNat_ofNat_of_lt' hx, UInt8.toNat_ofNat_of_lt' hy] at this
      exact this
    unfold numF at h
    split at h <;> split at h
    · simp only [List.cons_append, List.nil_append, List.cons.injEq] at h
      exact ⟨byte u v (by omega) (by omega) h.1, h.2⟩
    · simp only [List.cons_append, List.nil_append, List.cons.injEq] at h
      have := byte _ _ (by omega) (by omega) h.1
      omega
    · simp only [List.cons_append, List.nil_append, List.cons.injEq] at h
      have := byte _ _ (by omega) (by omega) h.1
      omega
    · simp only [List.cons_append, List.cons.injEq] at h
      have h1 := byte _ _ (by omega) (by omega) h.1
      have h2 := numF_inj f (u / 128) (v / 128) a b (by rw [Nat.pow_succ] at hu; omega) (by rw [Nat.pow_succ] at hv; omega) h.2
      exact ⟨by omega, h2.2⟩

theorem numeral_inj {u v : Nat} {a b : Bytes} (hu : u < 2 ^ 64) (hv : v < 2 ^ 64) (h : numeral u ++ a = numeral v ++ b) : u = v ∧ a = b :=
  numF_inj 10 u v a b (by have : (2 : Nat) ^ 64 < 128 ^ 10 := by decide
                          omega) (by have : (2 : Nat) ^ 64 < 128 ^ 10 := by decide
                                     omega) h

def Lf.fits : Lf → Prop
  | .i n => -9223372036854775808 ≤ n ∧ n ≤ 9223372036854775807
  | .t b => b.length < 2 ^ 63

theorem zig_lt {n : Int} (h : -9223372036854775808 ≤ n ∧ n ≤ 9223372036854775807) : zig n < 2 ^ 64 := by
  unfold zig; split <;> omega

theorem zig_inj {m n : Int} (h : zig m = zig n) : m = n := by
  unfold zig at h; split at h <;> split at h <;> omega

theorem Lf.enc_inj {x y : Lf} {a b : Bytes} (hx : x.fits) (hy : y.fits) (h : x.enc ++ a = y.enc ++ b) : x = y ∧ a = b := by
  cases x <;> cases y <;> simp only [Lf.enc, List.cons_append, List.cons.injEq] at h
  · obtain ⟨h1, h2⟩ := numeral_inj (zig_lt hx) (zig_lt hy) h.2
    exact ⟨by rw [zig_inj h1], h2⟩
  · exact absurd h.1 (by decide)
  · exact absurd h.1 (by decide)
  · have hx' : _ < 2 ^ 63 := hx
    have hy' : _ < 2 ^ 63 := hy
    rw [List.append_assoc, List.append_assoc] at h
    obtain ⟨h1, h2⟩ := numeral_inj (by omega) (by omega) h.2
    obtain ⟨h3, h4⟩ := List.append_inj h2 h1
    exact ⟨by rw [h3], h4⟩

theorem encs_inj : ∀ (l m : List Lf) (a b : Bytes), l.length = m.length → (∀ x ∈ l, x.fits) → (∀ x ∈ m, x.fits) → encs l ++ a = encs m ++ b → l = m ∧ a = b
  | [], [], a, b, _, _, _, h => ⟨rfl, by simpa [encs] using h⟩
  | [], _ :: _, _, _, hl, _, _, _ => by simp at hl
  | _ :: _, [], _, _, hl, _, _, _ => by simp at hl
  | x :: l, y :: m, a, b, hl, hx, hy, h => by
    simp only [encs, List.append_assoc] at h
    obtain ⟨h1, h2⟩ := Lf.enc_inj (hx x (by simp)) (hy y (by simp)) h
    obtain ⟨h3, h4⟩ := encs_inj l m a b (by simpa using hl) (fun z hz => hx z (by simp [hz])) (fun z hz => hy z (by simp [hz])) h2
    exact ⟨by rw [h1, h3], h4⟩

theorem encL_inj {l m : List Lf} (hl : l.length < 2 ^ 64) (hm : m.length < 2 ^ 64) (hx : ∀ x ∈ l, x.fits) (hy : ∀ x ∈ m, x.fits) (h : encL l = encL m) : l = m := by
  simp only [encL, List.cons.injEq, true_and] at h
  obtain ⟨h1, h2⟩ := numeral_inj hl hm h
  exact (encs_inj l m [] [] h1 hx hy (by simpa using h2)).1

/-- a number out of a hash -/
def hashN (d : Bytes) : Nat := ((((((((d.getD 0 0).toNat % 128 * 256 + (d.getD 1 0).toNat) * 256 + (d.getD 2 0).toNat) * 256 + (d.getD 3 0).toNat) * 256 + (d.getD 4 0).toNat) * 256 + (d.getD 5 0).toNat) * 256 + (d.getD 6 0).toNat) * 256 + (d.getD 7 0).toNat) % 1073741789

def ghash (tag b : Bytes) : Nat := hashN (tagged tag b)

theorem ghash_lt (tag b : Bytes) : ghash tag b < 1073741789 := Nat.mod_lt _ (by decide)
end Frk
