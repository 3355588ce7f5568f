/- Parts of the proof, joined. -/

/- SHA-256 on lists of bytes, on natural numbers. -/
namespace Frk

abbrev Bytes := List UInt8

def rotr (x n : Nat) : Nat := (x >>> n) ||| ((x <<< (32 - n)) % 4294967296)
def add32 (x y : Nat) : Nat := (x + y) % 4294967296

structure St where
  a : Nat
  b : Nat
  c : Nat
  d : Nat
  e : Nat
  f : Nat
  g : Nat
  h : Nat

def Kt : List Nat := [
  0x428a2f98, 0x71374491, 0xb5c0fbcf, 0xe9b5dba5, 0x3956c25b, 0x59f111f1, 0x923f82a4, 0xab1c5ed5,
  0xd807aa98, 0x12835b01, 0x243185be, 0x550c7dc3, 0x72be5d74, 0x80deb1fe, 0x9bdc06a7, 0xc19bf174,
  0xe49b69c1, 0xefbe4786, 0x0fc19dc6, 0x240ca1cc, 0x2de92c6f, 0x4a7484aa, 0x5cb0a9dc, 0x76f988da,
  0x983e5152, 0xa831c66d, 0xb00327c8, 0xbf597fc7, 0xc6e00bf3, 0xd5a79147, 0x06ca6351, 0x14292967,
  0x27b70a85, 0x2e1b2138, 0x4d2c6dfc, 0x53380d13, 0x650a7354, 0x766a0abb, 0x81c2c92e, 0x92722c85,
  0xa2bfe8a1, 0xa81a664b, 0xc24b8b70, 0xc76c51a3, 0xd192e819, 0xd6990624, 0xf40e3585, 0x106aa070,
  0x19a4c116, 0x1e376c08, 0x2748774c, 0x34b0bcb5, 0x391c0cb3, 0x4ed8aa4a, 0x5b9cca4f, 0x682e6ff3,
  0x748f82ee, 0x78a5636f, 0x84c87814, 0x8cc70208, 0x90befffa, 0xa4506ceb, 0xbef9a3f7, 0xc67178f2]

def iv : St := ⟨0x6a09e667, 0xbb67ae85, 0x3c6ef372, 0xa54ff53a, 0x510e527f, 0x9b05688c, 0x1f83d9ab, 0x5be0cd19⟩

def s0 (x : Nat) : Nat := (rotr x 7 ^^^ rotr x 18) ^^^ (x >>> 3)
def s1 (x : Nat) : Nat := (rotr x 17 ^^^ rotr x 19) ^^^ (x >>> 10)
def S0 (x : Nat) : Nat := (rotr x 2 ^^^ rotr x 13) ^^^ rotr x 22
def S1 (x : Nat) : Nat := (rotr x 6 ^^^ rotr x 11) ^^^ rotr x 25

/-- the word behind the words w (from the sixteenth on) -/
def nextW (w : List Nat) : Nat :=
  let t := w.length
  add32 (add32 (add32 (w.getD (t - 16) 0) (s0 (w.getD (t - 15) 0))) (w.getD (t - 7) 0)) (s1 (w.getD (t - 2) 0))

def sched (w : List Nat) : Nat → List Nat
  | 0 => w
  | n + 1 => let v := sched w n; v ++ [nextW v]

def rnd (s : St) (k w : Nat) : St :=
  let p := add32 (add32 (add32 (add32 s.h (S1 s.e)) (s.g ^^^ (s.e &&& (s.f ^^^ s.g)))) k) w
  let q := add32 (S0 s.a) ((s.a &&& s.b) ||| (s.c &&& (s.a ||| s.b)))
  ⟨add32 p q, s.a, s.b, s.c, add32 s.d p, s.e, s.f, s.g⟩

def rounds (s : St) : List Nat → List Nat → St
  | k :: ks, w :: ws => rounds (rnd s k w) ks ws
  | _, _ => s

def St.plus (s v : St) : St := ⟨add32 s.a v.a, add32 s.b v.b, add32 s.c v.c, add32 s.d v.d, add32 s.e v.e, add32 s.f v.f, add32 s.g v.g, add32 s.h v.h⟩

/-- four bytes as a number, the most significant one first -/
def word4 (l : Bytes) : Nat := (((l.getD 0 0).toNat * 256 + (l.getD 1 0).toNat) * 256 + (l.getD 2 0).toNat) * 256 + (l.getD 3 0).toNat

def words (l : Bytes) : Nat → List Nat
  | 0 => []
  | n + 1 => word4 l :: words (l.drop 4) n

def block (s : St) (l : Bytes) : St := s.plus (rounds s Kt (sched (words l 16) 48))

def absorb (s : St) (l : Bytes) : Nat → St
  | 0 => s
  | n + 1 => absorb (block s (l.take 64)) (l.drop 64) n

/-- n as k bytes, the most significant one first -/
def be (n : Nat) : Nat → Bytes
  | 0 => []
  | k + 1 => be (n / 256) k ++ [UInt8.ofNat n]

def pad (l : Bytes) : Bytes := l ++ [0x80] ++ List.replicate ((119 - l.length % 64) % 64) 0 ++ be (l.length * 8) 8

def St.list (s : St) : List Nat := [s.a, s.b, s.c, s.d, s.e, s.f, s.g, s.h]
def St.bytes (s : St) : Bytes := be s.a 4 ++ be s.b 4 ++ be s.c 4 ++ be s.d 4 ++ be s.e 4 ++ be s.f 4 ++ be s.g 4 ++ be s.h 4

def sha (l : Bytes) : Bytes := (absorb iv (pad l) ((l.length + 72) / 64)).bytes

def tagged (tag b : Bytes) : Bytes := sha (sha tag ++ b)

example : sha [97, 98, 99] = [0xba, 0x78, 0x16, 0xbf, 0x8f, 0x01, 0xcf, 0xea, 0x41, 0x41, 0x40, 0xde, 0x5d, 0xae, 0x22, 0x23, 0xb0, 0x03, 0x61, 0xa3, 0x96, 0x17, 0x7a, 0x9c, 0xb4, 0x10, 0xff, 0x61, 0xf2, 0x00, 0x15, 0xad] := by decide +kernel
example : (pad (List.replicate 55 1)).length = 64 := by decide +kernel
example : (pad (List.replicate 56 1)).length = 128 := by decide +kernel
end Frk

/- Lists of digests: order, membership, place. Plain. -/
namespace Frk

/-- the order of texts -/
def blt : Bytes → Bytes → Bool
  | [], [] => false
  | [], _ :: _ => true
  | _ :: _, [] => false
  | a :: s, b :: t => if a = b then blt s t else decide (a.toNat < b.toNat)

theorem u8_lt_of_ne {a b : UInt8} (h : a ≠ b) : a.toNat < b.toNat ∨ b.toNat < a.toNat := by
  rcases Nat.lt_trichotomy a.toNat b.toNat with h1 | h1 | h1
  · exact .inl h1
  · exact absurd (UInt8.toNat_inj.1 h1) h
  · exact .inr h1

theorem blt_irrefl : ∀ a, blt a a = false
  | [] => rfl
  | a :: s => by simp [blt, blt_irrefl s]

theorem blt_trans : ∀ {a b c}, blt a b = true → blt b c = true → blt a c = true
  | [], b, c, h1, h2 => by
    cases b <;> cases c <;> simp_all [blt]
  | x :: s, [], c, h1, h2 => by simp [blt] at h1
  | x :: s, y :: t, [], h1, h2 => by simp [blt] at h2
  | x :: s, y :: t, z :: u, h1, h2 => by
    unfold blt at h1 h2 ⊢
    by_cases e1 : x = y
    · subst e1
      rw [if_pos rfl] at h1
      by_cases e2 : x = z
      · subst e2
        rw [if_pos rfl] at h2 ⊢
        exact blt_trans h1 h2
      · rw [if_neg e2] at h2 ⊢; exact h2
    · rw [if_neg e1] at h1
      have h1' := of_decide_eq_true h1
      by_cases e2 : y = z
      · subst e2
        rw [if_neg e1]; exact h1
      · rw [if_neg e2] at h2
        have h2' := of_decide_eq_true h2
        have e3 : x ≠ z := by intro e; subst e; omega
        rw [if_neg e3]
        exact decide_eq_true (by omega)

theorem blt_tri : ∀ {a b}, blt a b = false → blt b a = false → a = b
  | [], [], _, _ => rfl
  | [], _ :: _, h, _ => by simp [blt] at h
  | _ :: _, [], _, h => by simp [blt] at h
  | x :: s, y :: t, h1, h2 => by
    unfold blt at h1 h2
    by_cases e : x = y
    · subst e
      rw [if_pos rfl] at h1 h2
      rw [blt_tri h1 h2]
    · rw [if_neg e] at h1
      rw [if_neg (fun h => e h.symm)] at h2
      have a1 := of_decide_eq_false h1
      have a2 := of_decide_eq_false h2
      rcases u8_lt_of_ne e with h | h <;> omega

/-- at the first byte that differs -/
theorem blt_first : ∀ (i : Nat) {a b : Bytes}, a.length = b.length → i < a.length → (∀ j, j < i → a.getD j 0 = b.getD j 0) → a.getD i 0 ≠ b.getD i 0 → blt a b = decide ((a.getD i 0).toNat < (b.getD i 0).toNat)
  | _, [], _, _, h, _, _ => by simp at h
  | _, _ :: _, [], h, _, _, _ => by simp at h
  | 0, x :: s, y :: t, _, _, _, hne => by
    simp only [List.getD_cons_zero] at hne ⊢
    unfold blt
    rw [if_neg hne]
  | i + 1, x :: s, y :: t, hl, hi, he, hne => by
    have e0 : x = y := he 0 (by omega)
    subst e0
    simp only [List.getD_cons_succ] at hne ⊢
    unfold blt
    rw [if_pos rfl]
    exact blt_first i (by simpa using hl) (by simpa using hi) (fun j hj => by simpa using he (j + 1) (by omega)) hne

theorem bytes_ext {a b : Bytes} (hl : a.length = b.length) (h : ∀ j, j < a.length → a.getD j 0 = b.getD j 0) : a = b := by
  apply List.ext_getElem hl
  intro i h1 h2
  have := h i h1
  simpa [List.getD_eq_getElem?_getD, List.getElem?_eq_getElem h1, List.getElem?_eq_getElem h2] using this

/-- strictly increasing -/
def usedB : List Bytes → Bool
  | a :: b :: l => blt a b && usedB (b :: l)
  | _ => true

theorem usedB_iff : ∀ l : List Bytes, usedB l = true ↔ ∀ i, i + 1 < l.length → blt (l.getD i []) (l.getD (i + 1) []) = true
  | [] => by simp [usedB]
  | [a] => by simp [usedB]
  | a :: b :: l => by
    unfold usedB
    rw [Bool.and_eq_true, usedB_iff (b :: l)]
    constructor
    · rintro ⟨h1, h2⟩ i hi
      cases i with
      | zero => exact h1
      | succ i => exact h2 i (by simpa using hi)
    · intro h
      exact ⟨h 0 (by simp), fun i hi => h (i + 1) (by simpa using hi)⟩

theorem used_lt {l : List Bytes} (h : usedB l = true) : ∀ j i, i < j → j < l.length → blt (l.getD i []) (l.getD j []) = true := by
  have h' := (usedB_iff l).1 h
  intro j
  induction j with
  | zero => intro i hi; omega
  | succ j ih =>
    intro i hi hj
    by_cases e : i = j
    · subst e; exact h' i hj
    · exact blt_trans (ih i (by omega) (by omega)) (h' j hj)

def hasB (l : List Bytes) (d : Bytes) : Bool := l.contains d

/-- how many are less than d -/
def atB (l : List Bytes) (d : Bytes) : Nat := (l.takeWhile (fun x => blt x d)).length

theorem atB_le (l : List Bytes) (d : Bytes) : atB l d ≤ l.length := by
  unfold atB
  exact List.Sublist.length_le (List.takeWhile_sublist _)

theorem atB_lt : ∀ (l : List Bytes) (d : Bytes) (i : Nat), i < atB l d → blt (l.getD i []) d = true
  | [], d, i, h => by simp [atB] at h
  | x :: l, d, i, h => by
    unfold atB at h
    rw [List.takeWhile_cons] at h
    by_cases hx : blt x d = true
    · rw [if_pos hx] at h
      cases i with
      | zero => exact hx
      | succ i => exact atB_lt l d i (by unfold atB; simpa using h)
    · rw [if_neg hx] at h; simp at h

theorem atB_end : ∀ (l : List Bytes) (d : Bytes), atB l d < l.length → blt (l.getD (atB l d) []) d = false
  | [], d, h => by simp at h
  | x :: l, d, h => by
    unfold atB at h ⊢
    rw [List.takeWhile_cons] at h ⊢
    by_cases hx : blt x d = true
    · rw [if_pos hx] at h ⊢
      simp only [List.length_cons, List.getD_cons_succ] at h ⊢
      exact atB_end l d (by unfold atB; omega)
    · rw [if_neg hx]
      simpa using hx

/-- the place is the only one with the two sides -/
theorem atB_unique {l : List Bytes} {d : Bytes} {k : Nat} (hk : k ≤ l.length) (h1 : ∀ i, i < k → blt (l.getD i []) d = true) (h2 : k < l.length → blt (l.getD k []) d = false) : k = atB l d := by
  rcases Nat.lt_trichotomy k (atB l d) with h | h | h
  · have a := atB_lt l d k h
    rw [h2 (Nat.lt_of_lt_of_le h (atB_le l d))] at a
    exact absurd a (by decide)
  · exact h
  · have a := atB_end l d (by omega)
    rw [h1 _ h] at a
    exact absurd a (by decide)

theorem has_iff_at {l : List Bytes} {d : Bytes} (hu : usedB l = true) : hasB l d = true ↔ atB l d < l.length ∧ l.getD (atB l d) [] = d := by
  unfold hasB
  constructor
  · intro h
    have hm : d ∈ l := by simpa using h
    obtain ⟨i, hi, e⟩ := List.getElem_of_mem hm
    have hd : l.getD i [] = d := by rw [List.getD_eq_getElem?_getD, List.getElem?_eq_getElem hi]; simpa using e
    have : i = atB l d := atB_unique (Nat.le_of_lt hi) (fun j hj => by rw [← hd]; exact used_lt hu i j hj hi) (fun _ => by rw [hd]; exact blt_irrefl d)
    rw [← this]
    exact ⟨hi, hd⟩
  · rintro ⟨h1, h2⟩
    have : d ∈ l := by
      rw [← h2, List.getD_eq_getElem?_getD, List.getElem?_eq_getElem h1]
      exact List.getElem_mem h1
    simpa using this

/-- d put into its place -/
def putB (l : List Bytes) (d : Bytes) : List Bytes := l.take (atB l d) ++ d :: l.drop (atB l d)

theorem putB_length (l : List Bytes) (d : Bytes) : (putB l d).length = l.length + 1 := by
  have := atB_le l d
  simp [putB]; omega

/-- what is spent: the list behind, or none; and the error -/
inductive SpendR where
  | ok (l : List Bytes)
  | used
  | limit
  | wrong

def spendB (l : List Bytes) (d : Bytes) : SpendR := if usedB l = true then (if hasB l d = true then .used else if 4096 ≤ l.length then .limit else .ok (putB l d)) else .wrong

theorem usedB_tail {a : Bytes} {l : List Bytes} (h : usedB (a :: l) = true) : usedB l = true := by
  cases l with
  | nil => rfl
  | cons b l => unfold usedB at h; rw [Bool.and_eq_true] at h; exact h.2

theorem usedB_head : ∀ {a : Bytes} {l : List Bytes}, usedB (a :: l) = true → ∀ x ∈ l, blt a x = true
  | _, [], _, _, hx => by simp at hx
  | a, b :: l, h, x, hx => by
    have h1 : blt a b = true := by unfold usedB at h; rw [Bool.and_eq_true] at h; exact h.1
    rcases List.mem_cons.1 hx with rfl | hx
    · exact h1
    · exact blt_trans h1 (usedB_head (usedB_tail h) x hx)

theorem usedB_cons {a : Bytes} {l : List Bytes} (h : usedB l = true) (h1 : ∀ x ∈ l, blt a x = true) : usedB (a :: l) = true := by
  cases l with
  | nil => rfl
  | cons b l => unfold usedB; rw [h1 b (by simp), h]; rfl

theorem mem_putB (l : List Bytes) (d x : Bytes) : x ∈ putB l d ↔ x = d ∨ x ∈ l := by
  unfold putB
  rw [List.mem_append, List.mem_cons]
  constructor
  · rintro (h | h | h)
    · exact .inr (List.mem_of_mem_take h)
    · exact .inl h
    · exact .inr (List.mem_of_mem_drop h)
  · rintro (h | h)
    · exact .inr (.inl h)
    · rw [← List.take_append_drop (atB l d) l, List.mem_append] at h
      rcases h with h | h
      · exact .inl h
      · exact .inr (.inr h)

theorem used_putB : ∀ (l : List Bytes) (d : Bytes), usedB l = true → d ∉ l → usedB (putB l d) = true
  | [], d, _, _ => rfl
  | x :: l, d, hu, hd => by
    by_cases hx : blt x d = true
    · have e : putB (x :: l) d = x :: putB l d := by
        unfold putB atB
        rw [List.takeWhile_cons, if_pos hx]
        simp
      rw [e]
      refine usedB_cons (used_putB l d (usedB_tail hu) (fun h => hd (by simp [h]))) ?_
      intro z hz
      rcases (mem_putB l d z).1 hz with rfl | hz
      · exact hx
      · exact usedB_head hu z hz
    · have e : putB (x :: l) d = d :: x :: l := by
        unfold putB atB
        rw [List.takeWhile_cons, if_neg hx]
        simp
      rw [e]
      have hdx : blt d x = true := by
        cases h : blt d x with
        | true => rfl
        | false => exact absurd (blt_tri (by simpa using hx) h) (fun e => hd (by simp [e]))
      refine usedB_cons hu ?_
      intro z hz
      rcases List.mem_cons.1 hz with rfl | hz
      · exact hdx
      · exact blt_trans hdx (usedB_head hu z hz)

theorem hasB_iff (l : List Bytes) (d : Bytes) : hasB l d = true ↔ d ∈ l := by unfold hasB; simp
end Frk

