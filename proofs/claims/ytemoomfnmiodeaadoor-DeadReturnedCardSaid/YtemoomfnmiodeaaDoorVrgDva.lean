/- Parts of the proof, joined. -/

/- SHA-256 on lists of bytes, on natural numbers. -/
namespace Frk

abbrev Bytes := List UInt8

def rotr (x n : Nat) : Nat := (x >>> n) ||| ((x <<< (32 - n)) % 4294967296)
def add32 (x y : Nat) : Nat := (x + y) % 4294967296

structure St where
  a : Nat
  b : Nat
  c : Nat
  d : Nat
  e : Nat
  f : Nat
  g : Nat
  h : Nat

def Kt : List Nat := [
  0x428a2f98, 0x71374491, 0xb5c0fbcf, 0xe9b5dba5, 0x3956c25b, 0x59f111f1, 0x923f82a4, 0xab1c5ed5,
  0xd807aa98, 0x12835b01, 0x243185be, 0x550c7dc3, 0x72be5d74, 0x80deb1fe, 0x9bdc06a7, 0xc19bf174,
  0xe49b69c1, 0xefbe4786, 0x0fc19dc6, 0x240ca1cc, 0x2de92c6f, 0x4a7484aa, 0x5cb0a9dc, 0x76f988da,
  0x983e5152, 0xa831c66d, 0xb00327c8, 0xbf597fc7, 0xc6e00bf3, 0xd5a79147, 0x06ca6351, 0x14292967,
  0x27b70a85, 0x2e1b2138, 0x4d2c6dfc, 0x53380d13, 0x650a7354, 0x766a0abb, 0x81c2c92e, 0x92722c85,
  0xa2bfe8a1, 0xa81a664b, 0xc24b8b70, 0xc76c51a3, 0xd192e819, 0xd6990624, 0xf40e3585, 0x106aa070,
  0x19a4c116, 0x1e376c08, 0x2748774c, 0x34b0bcb5, 0x391c0cb3, 0x4ed8aa4a, 0x5b9cca4f, 0x682e6ff3,
  0x748f82ee, 0x78a5636f, 0x84c87814, 0x8cc70208, 0x90befffa, 0xa4506ceb, 0xbef9a3f7, 0xc67178f2]

def iv : St := ⟨0x6a09e667, 0xbb67ae85, 0x3c6ef372, 0xa54ff53a, 0x510e527f, 0x9b05688c, 0x1f83d9ab, 0x5be0cd19⟩

def s0 (x : Nat) : Nat := (rotr x 7 ^^^ rotr x 18) ^^^ (x >>> 3)
def s1 (x : Nat) : Nat := (rotr x 17 ^^^ rotr x 19) ^^^ (x >>> 10)
def S0 (x : Nat) : Nat := (rotr x 2 ^^^ rotr x 13) ^^^ rotr x 22
def S1 (x : Nat) : Nat := (rotr x 6 ^^^ rotr x 11) ^^^ rotr x 25

/-- the word behind the words w (from the sixteenth on) -/
def nextW (w : List Nat) : Nat :=
  let t := w.length
  add32 (add32 (add32 (w.getD (t - 16) 0) (s0 (w.getD (t - 15) 0))) (w.getD (t - 7) 0)) (s1 (w.getD (t - 2) 0))

def sched (w : List Nat) : Nat → List Nat
  | 0 => w
  | n + 1 => let v := sched w n; v ++ [nextW v]

def rnd (s : St) (k w : Nat) : St :=
  let p := add32 (add32 (add32 (add32 s.h (S1 s.e)) (s.g ^^^ (s.e &&& (s.f ^^^ s.g)))) k) w
  let q := add32 (S0 s.a) ((s.a &&& s.b) ||| (s.c &&& (s.a ||| s.b)))
  ⟨add32 p q, s.a, s.b, s.c, add32 s.d p, s.e, s.f, s.g⟩

def rounds (s : St) : List Nat → List Nat → St
  | k :: ks, w :: ws => rounds (rnd s k w) ks ws
  | _, _ => s

def St.plus (s v : St) : St := ⟨add32 s.a v.a, add32 s.b v.b, add32 s.c v.c, add32 s.d v.d, add32 s.e v.e, add32 s.f v.f, add32 s.g v.g, add32 s.h v.h⟩

/-- four bytes as a number, the most significant one first -/
def word4 (l : Bytes) : Nat := (((l.getD 0 0).toNat * 256 + (l.getD 1 0).toNat) * 256 + (l.getD 2 0).toNat) * 256 + (l.getD 3 0).toNat

def words (l : Bytes) : Nat → List Nat
  | 0 => []
  | n + 1 => word4 l :: words (l.drop 4) n

def block (s : St) (l : Bytes) : St := s.plus (rounds s Kt (sched (words l 16) 48))

def absorb (s : St) (l : Bytes) : Nat → St
  | 0 => s
  | n + 1 => absorb (block s (l.take 64)) (l.drop 64) n

/-- n as k bytes, the most significant one first -/
def be (n : Nat) : Nat → Bytes
  | 0 => []
  | k + 1 => be (n / 256) k ++ [UInt8.ofNat n]

def pad (l : Bytes) : Bytes := l ++ [0x80] ++ List.replicate ((119 - l.length % 64) % 64) 0 ++ be (l.length * 8) 8

def St.list (s : St) : List Nat := [s.a, s.b, s.c, s.d, s.e, s.f, s.g, s.h]
def St.bytes (s : St) : Bytes := be s.a 4 ++ be s.b 4 ++ be s.c 4 ++ be s.d 4 ++ be s.e 4 ++ be s.f 4 ++ be s.g 4 ++ be s.h 4

def sha (l : Bytes) : Bytes := (absorb iv (pad l) ((l.length + 72) / 64)).bytes

def tagged (tag b : Bytes) : Bytes := sha (sha tag ++ b)

example : sha [97, 98, 99] = [0xba, 0x78, 0x16, 0xbf, 0x8f, 0x01, 0xcf, 0xea, 0x41, 0x41, 0x40, 0xde, 0x5d, 0xae, 0x22, 0x23, 0xb0, 0x03, 0x61, 0xa3, 0x96, 0x17, 0x7a, 0x9c, 0xb4, 0x10, 0xff, 0x61, 0xf2, 0x00, 0x15, 0xad] := by decide +kernel
example : (pad (List.replicate 55 1)).length = 64 := by decide +kernel
example : (pad (List.replicate 56 1)).length = 128 := by decide +kernel
end Frk

/- Lists of digests: order, membership, place. Plain. -/
namespace Frk

/-- the order of texts -/
def blt : Bytes → Bytes → Bool
  | [], [] => false
  | [], _ :: _ => true
  | _ :: _, [] => false
  | a :: s, b :: t => if a = b then blt s t else decide (a.toNat < b.toNat)

theorem bytes_ext {a b : Bytes} (hl : a.length = b.length) (h : ∀ j, j < a.length → a.getD j 0 = b.getD j 0) : a = b := by
  apply List.ext_getElem hl
  intro i h1 h2
  have := h i h1
  simpa [List.getD_eq_getElem?_getD, List.getElem?_eq_getElem h1, List.getElem?_eq_getElem h2] using this

/-- strictly increasing -/
def usedB : List Bytes → Bool
  | a :: b :: l => blt a b && usedB (b :: l)
  | _ => true

def hasB (l : List Bytes) (d : Bytes) : Bool := l.contains d

/-- how many are less than d -/
def atB (l : List Bytes) (d : Bytes) : Nat := (l.takeWhile (fun x => blt x d)).length

/-- d put into its place -/
def putB (l : List Bytes) (d : Bytes) : List Bytes := l.take (atB l d) ++ d :: l.drop (atB l d)

/-- what is spent: the list behind, or none; and the error -/
inductive SpendR where
  | ok (l : List Bytes)
  | used
  | limit
  | wrong

def spendB (l : List Bytes) (d : Bytes) : SpendR := if usedB l = true then (if hasB l d = true then .used else if 4096 ≤ l.length then .limit else .ok (putB l d)) else .wrong

end Frk

/- Law 44, plain: lists that rise; what is put in its place; what two lists give together. -/
namespace Frk
set_option maxRecDepth 100000

section
variable {α : Type} (key : α → Int)

def RisK (l : List α) : Prop := l.Pairwise (fun a b => key a < key b)
instance (l : List α) : Decidable (RisK key l) := by unfold RisK; infer_instance
def risB (l : List α) : Bool := decide (RisK key l)
def atK (l : List α) (n : Int) : Nat := (l.takeWhile (fun a => decide (key a < n))).length
def hasK (l : List α) (n : Int) : Bool := l.any (fun a => key a == n)
def insK (l : List α) (a : α) : List α := l.take (atK key l (key a)) ++ a :: l.drop (atK key l (key a))
/-- two lists say the same of what is in both -/
def AgrK (a b : List α) : Prop := ∀ x ∈ a, ∀ y ∈ b, key x = key y → x = y
def mrgK : List α → List α → List α
  | [], b => b
  | x :: a, [] => x :: a
  | x :: a, y :: b => if key x < key y then x :: mrgK a (y :: b) else if key y < key x then y :: mrgK (x :: a) b else y :: mrgK a b
termination_by a b => a.length + b.length
end

section
variable {α : Type} {key : α → Int}

theorem risK_steps : ∀ l : List α, RisK key l ↔ ∀ (j : Nat) (x y : α), l[j]? = some x → l[j + 1]? = some y → key x < key y
  | [] => ⟨fun _ j x y h => by simp at h, fun _ => List.Pairwise.nil⟩
  | [z] => ⟨fun _ j x y _ h => by simp at h, fun _ => by simp [RisK]⟩
  | a :: b :: l => by
    have ih := risK_steps (b :: l)
    constructor
    · intro h j x y hx hy
      have h2 := List.pairwise_cons.1 h
      cases j with
      | zero =>
        cases hx
        exact h2.1 y (List.mem_of_getElem? hy)
      | succ j => exact ih.1 h2.2 j x y (by simpa using hx) (by simpa using hy)
    · intro h
      have h2 := ih.2 fun j x y hx hy => h (j + 1) x y (by simpa using hx) (by simpa using hy)
      have h1 : key a < key b := h 0 a b rfl rfl
      refine List.pairwise_cons.2 ⟨fun z hz => ?_, h2⟩
      rcases List.mem_cons.1 hz with e | e
      · rw [e]; exact h1
      · have := (List.pairwise_cons.1 h2).1 z e
        omega
theorem risB_iff {l : List α} : risB key l = true ↔ RisK key l := by unfold risB; simp
theorem RisK.lt {l : List α} (h : RisK key l) {i j : Nat} {x y : α} (hij : i < j) (hx : l[i]? = some x) (hy : l[j]? = some y) : key x < key y := by
  obtain ⟨hi, ex⟩ := List.getElem?_eq_some_iff.1 hx
  obtain ⟨hj, ey⟩ := List.getElem?_eq_some_iff.1 hy
  have := List.pairwise_iff_getElem.1 h i j hi hj hij
  rw [ex, ey] at this
  exact this
theorem RisK.inj {l : List α} (h : RisK key l) {x y : α} (hx : x ∈ l) (hy : y ∈ l) (e : key x = key y) : x = y := by
  obtain ⟨i, hi⟩ := List.mem_iff_getElem?.1 hx
  obtain ⟨j, hj⟩ := List.mem_iff_getElem?.1 hy
  rcases Nat.lt_trichotomy i j with h1 | h1 | h1
  · have := h.lt h1 hi hj; omega
  · subst h1; rw [hi] at hj; exact Option.some.inj hj
  · have := h.lt h1 hj hi; omega

theorem atK_le (l : List α) (n : Int) : atK key l n ≤ l.length := by
  unfold atK
  exact (List.takeWhile_prefix _).length_le
theorem atK_low {l : List α} {n : Int} {t : Nat} {x : α} (ht : t < atK key l n) (hx : l[t]? = some x) : key x < n := by
  unfold atK at ht
  have hp := List.takeWhile_prefix (fun a => decide (key a < n)) (l := l)
  have h1 := hp.getElem ht
  have h2 := (List.getElem?_eq_some_iff.1 hx).2
  have hm := List.getElem_mem ht
  have := List.all_takeWhile (p := fun a => decide (key a < n)) (l := l)
  have h3 := (List.all_eq_true.1 this) _ hm
  rw [h1, h2] at h3
  simpa using h3
theorem atK_not : ∀ {l : List α} {n : Int} {x : α}, l[atK key l n]? = some x → ¬ key x < n
  | [], n, x, h => by simp at h
  | a :: l, n, x, h => by
    unfold atK at h
    by_cases ha : key a < n
    · rw [List.takeWhile_cons_of_pos (by simpa using ha), List.length_cons, List.getElem?_cons_succ] at h
      exact atK_not h
    · rw [List.takeWhile_cons_of_neg (by simpa using ha)] at h
      simp at h
      rw [← h]; exact ha
theorem atK_unique {l : List α} {n : Int} {i : Nat} (hi : i ≤ l.length) (h1 : ∀ t x, t < i → l[t]? = some x → key x < n) (h2 : ∀ x, l[i]? = some x → ¬ key x < n) : i = atK key l n := by
  have hle := atK_le (key := key) l n
  rcases Nat.lt_trichotomy i (atK key l n) with h | h | h
  · have hx := List.getElem?_eq_getElem (show i < l.length by omega)
    exact absurd (atK_low h hx) (h2 _ hx)
  · exact h
  · have hx := List.getElem?_eq_getElem (show atK key l n < l.length by omega)
    exact absurd (h1 _ _ h hx) (atK_not hx)
theorem hasK_iff {l : List α} {n : Int} : hasK key l n = true ↔ ∃ x ∈ l, key x = n := by
  unfold hasK
  rw [List.any_eq_true]
  constructor
  · rintro ⟨x, hx, e⟩; exact ⟨x, hx, by simpa using e⟩
  · rintro ⟨x, hx, e⟩; exact ⟨x, hx, by simpa using e⟩
theorem hasK_not {l : List α} {n : Int} : hasK key l n = false ↔ ∀ x ∈ l, key x ≠ n := by
  rw [← Bool.not_eq_true, hasK_iff]
  constructor
  · intro h x hx e; exact h ⟨x, hx, e⟩
  · rintro h ⟨x, hx, e⟩; exact h x hx e
theorem hasK_at {l : List α} (h : RisK key l) {n : Int} : hasK key l n = true ↔ ∃ x, l[atK key l n]? = some x ∧ key x = n := by
  rw [hasK_iff]
  constructor
  · rintro ⟨x, hx, e⟩
    obtain ⟨i, hi⟩ := List.mem_iff_getElem?.1 hx
    have : i = atK key l n := atK_unique (by have := (List.getElem?_eq_some_iff.1 hi).1; omega) (fun t y ht hy => by have := h.lt ht hy hi; omega) (fun y hy => by rw [hi] at hy; cases hy; omega)
    rw [← this]
    exact ⟨x, hi, e⟩
  · rintro ⟨x, hx, e⟩
    exact ⟨x, List.mem_of_getElem? hx, e⟩

theorem mem_insK {l : List α} {a x : α} : x ∈ insK key l a ↔ x = a ∨ x ∈ l := by
  unfold insK
  rw [List.mem_append, List.mem_cons]
  have e : x ∈ l ↔ x ∈ l.take (atK key l (key a)) ∨ x ∈ l.drop (atK key l (key a)) := by
    rw [← List.mem_append, List.take_append_drop]
  rw [e]
  constructor
  · rintro (h | h | h)
    · exact .inr (.inl h)
    · exact .inl h
    · exact .inr (.inr h)
  · rintro (h | h | h)
    · exact .inr (.inl h)
    · exact .inl h
    · exact .inr (.inr h)
theorem insK_ris {l : List α} {a : α} (h : RisK key l) (hn : hasK key l (key a) = false) : RisK key (insK key l a) := by
  have hn := hasK_not.1 hn
  have lo : ∀ x ∈ l.take (atK key l (key a)), key x < key a := fun x hx => by
    obtain ⟨i, hi⟩ := List.mem_iff_getElem?.1 hx
    rw [List.getElem?_take] at hi
    split at hi
    · exact atK_low (by assumption) hi
    · cases hi
  have hi : ∀ x ∈ l.drop (atK key l (key a)), key a < key x := fun x hx => by
    obtain ⟨i, hi⟩ := List.mem_iff_getElem?.1 hx
    rw [List.getElem?_drop] at hi
    have hlt := (List.getElem?_eq_some_iff.1 hi).1
    have h0 := List.getElem?_eq_getElem (show atK key l (key a) < l.length by omega)
    have h1 := atK_not h0
    have h2 := hn _ (List.mem_of_getElem? h0)
    rcases Nat.eq_zero_or_pos i with e | e
    · subst e
      rw [Nat.add_zero, h0] at hi
      cases hi
      omega
    · have := h.lt (show atK key l (key a) < atK key l (key a) + i by omega) h0 hi
      omega
  unfold insK
  have hp : (l.take (atK key l (key a)) ++ l.drop (atK key l (key a))).Pairwise (fun a b => key a < key b) := by rw [List.take_append_drop]; exact h
  rw [List.pairwise_append] at hp
  refine List.pairwise_append.2 ⟨hp.1, List.pairwise_cons.2 ⟨hi, hp.2.1⟩, fun x hx y hy => ?_⟩
  rcases List.mem_cons.1 hy with e | e
  · rw [e]; exact lo x hx
  · exact hp.2.2 x hx y e
theorem insK_len (l : List α) (a : α) : (insK key l a).length = l.length + 1 := by
  unfold insK
  have := atK_le (key := key) l (key a)
  simp
  omega

/-- what rises is told by what is in it -/
theorem risK_ext : ∀ {l m : List α}, RisK key l → RisK key m → (∀ x, x ∈ l ↔ x ∈ m) → l = m
  | [], [], _, _, _ => rfl
  | [], y :: m, _, _, h => by have := (h y).2 List.mem_cons_self; cases this
  | x :: l, [], _, _, h => by have := (h x).1 List.mem_cons_self; cases this
  | x :: l, y :: m, hl, hm, h => by
    have hl' := List.pairwise_cons.1 hl
    have hm' := List.pairwise_cons.1 hm
    have e : x = y := by
      rcases List.mem_cons.1 ((h x).1 List.mem_cons_self) with e | e
      · exact e
      · rcases List.mem_cons.1 ((h y).2 List.mem_cons_self) with e' | e'
        · exact e'.symm
        · have h1 := hm'.1 x e
          have h2 := hl'.1 y e'
          omega
    subst e
    rw [risK_ext hl'.2 hm'.2 fun z => ?_]
    constructor
    · intro hz
      rcases List.mem_cons.1 ((h z).1 (List.mem_cons_of_mem _ hz)) with e | e
      · have := hl'.1 z hz; rw [e] at this; omega
      · exact e
    · intro hz
      rcases List.mem_cons.1 ((h z).2 (List.mem_cons_of_mem _ hz)) with e | e
      · have := hm'.1 z hz; rw [e] at this; omega
      · exact e

/-- the reference's way to merge: one after the other is put in -/
def foldP (a : List α) (b : List α) : List α := b.foldl (fun x p => if hasK key a (key p) then x else insK key x p) a
end

/-! ## numbers -/

def idI (n : Int) : Int := n
/-- a number is put in its place, once -/
def putI (l : List Int) (n : Int) : List Int := if hasK idI l n then l else insK idI l n
def foldG (a b : List Int) : List Int := b.foldl putI a
end Frk

