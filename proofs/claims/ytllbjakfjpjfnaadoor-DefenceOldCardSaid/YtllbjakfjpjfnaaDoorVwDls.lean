/- Lists of digests: order, membership, place. Plain. -/
import Derived.Test.YtllbjakfjpjfnaaDoorVwSha
namespace Frk

/-- the order of texts -/
def blt : Bytes → Bytes → Bool
  | [], [] => false
  | [], _ :: _ => true
  | _ :: _, [] => false
  | a :: s, b :: t => if a = b then blt s t else decide (a.toNat < b.toNat)

theorem u8_lt_of_ne {a b : UInt8} (h : a ≠ b) : a.toNat < b.toNat ∨ b.toNat < a.toNat := by
  rcases Nat.lt_trichotomy a.toNat b.toNat with h1 | h1 | h1
  · exact .inl h1
  · exact absurd (UInt8.toNat_inj.1 h1) h
  · exact .inr h1

theorem blt_irrefl : ∀ a, blt a a = false
  | [] => rfl
  | a :: s => by simp [blt, blt_irrefl s]

theorem blt_trans : ∀ {a b c}, blt a b = true → blt b c = true → blt a c = true
  | [], b, c, h1, h2 => by
    cases b <;> cases c <;> simp_all [blt]
  | x :: s, [], c, h1, h2 => by simp [blt] at h1
  | x :: s, y :: t, [], h1, h2 => by simp [blt] at h2
  | x :: s, y :: t, z :: u, h1, h2 => by
    unfold blt at h1 h2 ⊢
    by_cases e1 : x = y
    · subst e1
      rw [if_pos rfl] at h1
      by_cases e2 : x = z
      · subst e2
        rw [if_pos rfl] at h2 ⊢
        exact blt_trans h1 h2
      · rw [if_neg e2] at h2 ⊢; exact h2
    · rw [if_neg e1] at h1
      have h1' := of_decide_eq_true h1
      by_cases e2 : y = z
      · subst e2
        rw [if_neg e1]; exact h1
      · rw [if_neg e2] at h2
        have h2' := of_decide_eq_true h2
        have e3 : x ≠ z := by intro e; subst e; omega
        rw [if_neg e3]
        exact decide_eq_true (by omega)

theorem blt_tri : ∀ {a b}, blt a b = false → blt b a = false → a = b
  | [], [], _, _ => rfl
  | [], _ :: _, h, _ => by simp [blt] at h
  | _ :: _, [], _, h => by simp [blt] at h
  | x :: s, y :: t, h1, h2 => by
    unfold blt at h1 h2
    by_cases e : x = y
    · subst e
      rw [if_pos rfl] at h1 h2
      rw [blt_tri h1 h2]
    · rw [if_neg e] at h1
      rw [if_neg (fun h => e h.symm)] at h2
      have a1 := of_decide_eq_false h1
      have a2 := of_decide_eq_false h2
      rcases u8_lt_of_ne e with h | h <;> omega

theorem blt_asymm {a b : Bytes} (h : blt a b = true) : blt b a = false := by
  cases e : blt b a with
  | false => rfl
  | true => have := blt_trans h e; rw [blt_irrefl] at this; exact absurd this (by decide)

/-- at the first byte that differs -/
theorem blt_first : ∀ (i : Nat) {a b : Bytes}, a.length = b.length → i < a.length → (∀ j, j < i → a.getD j 0 = b.getD j 0) → a.getD i 0 ≠ b.getD i 0 → blt a b = decide ((a.getD i 0).toNat < (b.getD i 0).toNat)
  | _, [], _, _, h, _, _ => by simp at h
  | _, _ :: _, [], h, _, _, _ => by simp at h
  | 0, x :: s, y :: t, _, _, _, hne => by
    simp only [List.getD_cons_zero] at hne ⊢
    unfold blt
    rw [if_neg hne]
  | i + 1, x :: s, y :: t, hl, hi, he, hne => by
    have e0 : x = y := he 0 (by omega)
    subst e0
    simp only [List.getD_cons_succ] at hne ⊢
    unfold blt
    rw [if_pos rfl]
    exact blt_first i (by simpa using hl) (by simpa using hi) (fun j hj => by simpa using he (j + 1) (by omega)) hne

theorem bytes_ext {a b : Bytes} (hl : a.length = b.length) (h : ∀ j, j < a.length → a.getD j 0 = b.getD j 0) : a = b := by
  apply List.ext_getElem hl
  intro i h1 h2
  have := h i h1
  simpa [List.getD_eq_getElem?_getD, List.getElem?_eq_getElem h1, List.getElem?_eq_getElem h2] using this

/-- strictly increasing -/
def usedB : List Bytes → Bool
  | a :: b :: l => blt a b && usedB (b :: l)
  | _ => true

theorem usedB_iff : ∀ l : List Bytes, usedB l = true ↔ ∀ i, i + 1 < l.length → blt (l.getD i []) (l.getD (i + 1) []) = true
  | [] => by simp [usedB]
  | [a] => by simp [usedB]
  | a :: b :: l => by
    unfold usedB
    rw [Bool.and_eq_true, usedB_iff (b :: l)]
    constructor
    · rintro ⟨h1, h2⟩ i hi
      cases i with
      | zero => exact h1
      | succ i => exact h2 i (by simpa using hi)
    · intro h
      exact ⟨h 0 (by simp), fun i hi => h (i + 1) (by simpa using hi)⟩

theorem used_lt {l : List Bytes} (h : usedB l = true) : ∀ j i, i < j → j < l.length → blt (l.getD i []) (l.getD j []) = true := by
  have h' := (usedB_iff l).1 h
  intro j
  induction j with
  | zero => intro i hi; omega
  | succ j ih =>
    intro i hi hj
    by_cases e : i = j
    · subst e; exact h' i hj
    · exact blt_trans (ih i (by omega) (by omega)) (h' j hj)

def hasB (l : List Bytes) (d : Bytes) : Bool := l.contains d

/-- how many are less than d -/
def atB (l : List Bytes) (d : Bytes) : Nat := (l.takeWhile (fun x => blt x d)).length

theorem atB_le (l : List Bytes) (d : Bytes) : atB l d ≤ l.length := by
  unfold atB
  exact List.Sublist.length_le (List.takeWhile_sublist _)

theorem atB_lt : ∀ (l : List Bytes) (d : Bytes) (i : Nat), i < atB l d → blt (l.getD i []) d = true
  | [], d, i, h => by simp [atB] at h
  | x :: l, d, i, h => by
    unfold atB at h
    rw [List.takeWhile_cons] at h
    by_cases hx : blt x d = true
    · rw [if_pos hx] at h
      cases i with
      | zero => exact hx
      | succ i => exact atB_lt l d i (by unfold atB; simpa using h)
    · rw [if_neg hx] at h; simp at h

theorem atB_end : ∀ (l : List Bytes) (d : Bytes), atB l d < l.length → blt (l.getD (atB l d) []) d = false
  | [], d, h => by simp at h
  | x :: l, d, h => by
    unfold atB at h ⊢
    rw [List.takeWhile_cons] at h ⊢
    by_cases hx : blt x d = true
    · rw [if_pos hx] at h ⊢
      simp only [List.length_cons, List.getD_cons_succ] at h ⊢
      exact atB_end l d (by unfold atB; omega)
    · rw [if_neg hx]
      simpa using hx

/-- the place is the only one with the two sides -/
theorem atB_unique {l : List Bytes} {d : Bytes} {k : Nat} (hk : k ≤ l.length) (h1 : ∀ i, i < k → blt (l.getD i []) d = true) (h2 : k < l.length → blt (l.getD k []) d = false) : k = atB l d := by
  rcases Nat.lt_trichotomy k (atB l d) with h | h | h
  · have a := atB_lt l d k h
    rw [h2 (Nat.lt_of_lt_of_le h (atB_le l d))] at a
    exact absurd a (by decide)
  · exact h
  · have a := atB_end l d (by omega)
    rw [h1 _ h] at a
    exact absurd a (by decide)

theorem has_iff_at {l : List Bytes} {d : Bytes} (hu : usedB l = true) : hasB l d = true ↔ atB l d < l.length ∧ l.getD (atB l d) [] = d := by
  unfold hasB
  constructor
  · intro h
    have hm : d ∈ l := by simpa using h
    obtain ⟨i, hi, e⟩ := List.getElem_of_mem hm
    have hd : l.getD i [] = d := by rw [List.getD_eq_getElem?_getD, List.getElem?_eq_getElem hi]; simpa using e
    have : i = atB l d := atB_unique (Nat.le_of_lt hi) (fun j hj => by rw [← hd]; exact used_lt hu i j hj hi) (fun _ => by rw [hd]; exact blt_irrefl d)
    rw [← this]
    exact ⟨hi, hd⟩
  · rintro ⟨h1, h2⟩
    have : d ∈ l := by
      rw [← h2, List.getD_eq_getElem?_getD, List.getElem?_eq_getElem h1]
      exact List.getElem_mem h1
    simpa using this

/-- d put into its place -/
def putB (l : List Bytes) (d : Bytes) : List Bytes := l.take (atB l d) ++ d :: l.drop (atB l d)

theorem putB_length (l : List Bytes) (d : Bytes) : (putB l d).length = l.length + 1 := by
  have := atB_le l d
  simp [putB]; omega

/-- what is spent: the list behind, or none; and the error -/
inductive SpendR where
  | ok (l : List Bytes)
  | used
  | limit
  | wrong

def spendB (l : List Bytes) (d : Bytes) : SpendR := if usedB l = true then (if hasB l d = true then .used else if 4096 ≤ l.length then .limit else .ok (putB l d)) else .wrong

theorem usedB_tail {a : Bytes} {l : List Bytes} (h : usedB (a :: l) = true) : usedB l = true := by
  cases l with
  | nil => rfl
  | cons b l => unfold usedB at h; rw [Bool.and_eq_true] at h; exact h.2

theorem usedB_head : ∀ {a : Bytes} {l : List Bytes}, usedB (a :: l) = true → ∀ x ∈ l, blt a x = true
  | _, [], _, _, hx => by simp at hx
  | a, b :: l, h, x, hx => by
    have h1 : blt a b = true := by unfold usedB at h; rw [Bool.and_eq_true] at h; exact h.1
    rcases List.mem_cons.1 hx with rfl | hx
    · exact h1
    · exact blt_trans h1 (usedB_head (usedB_tail h) x hx)

theorem usedB_cons {a : Bytes} {l : List Bytes} (h : usedB l = true) (h1 : ∀ x ∈ l, blt a x = true) : usedB (a :: l) = true := by
  cases l with
  | nil => rfl
  | cons b l => unfold usedB; rw [h1 b (by simp), h]; rfl

/-- increasing lists with the same members are one -/
theorem used_ext : ∀ {a b : List Bytes}, usedB a = true → usedB b = true → (∀ x, x ∈ a ↔ x ∈ b) → a = b
  | [], [], _, _, _ => rfl
  | [], y :: t, _, _, h => by have := (h y).2 (by simp); simp at this
  | x :: s, [], _, _, h => by have := (h x).1 (by simp); simp at this
  | x :: s, y :: t, h1, h2, h => by
    have e : x = y := by
      rcases List.mem_cons.1 ((h x).1 (by simp)) with e | hx
      · exact e
      · rcases List.mem_cons.1 ((h y).2 (by simp)) with e | hy
        · exact e.symm
        · have a1 := usedB_head h2 x hx
          rw [blt_asymm (usedB_head h1 y hy)] at a1
          exact absurd a1 (by decide)
    subst e
    have key : ∀ {l m : List Bytes}, usedB (x :: l) = true → (∀ z, z ∈ x :: l → z ∈ x :: m) → ∀ z, z ∈ l → z ∈ m := by
      intro l m hl hs z hz
      rcases List.mem_cons.1 (hs z (by simp [hz])) with e | hz'
      · subst e
        have := usedB_head hl z hz
        rw [blt_irrefl] at this
        exact absurd this (by decide)
      · exact hz'
    rw [used_ext (usedB_tail h1) (usedB_tail h2) (fun z => ⟨key h1 (fun z => (h z).1) z, key h2 (fun z => (h z).2) z⟩)]

theorem mem_putB (l : List Bytes) (d x : Bytes) : x ∈ putB l d ↔ x = d ∨ x ∈ l := by
  unfold putB
  rw [List.mem_append, List.mem_cons]
  constructor
  · rintro (h | h | h)
    · exact .inr (List.mem_of_mem_take h)
    · exact .inl h
    · exact .inr (List.mem_of_mem_drop h)
  · rintro (h | h)
    · exact .inr (.inl h)
    · rw [← List.take_append_drop (atB l d) l, List.mem_append] at h
      rcases h with h | h
      · exact .inl h
      · exact .inr (.inr h)

theorem used_putB : ∀ (l : List Bytes) (d : Bytes), usedB l = true → d ∉ l → usedB (putB l d) = true
  | [], d, _, _ => rfl
  | x :: l, d, hu, hd => by
    by_cases hx : blt x d = true
    · have e : putB (x :: l) d = x :: putB l d := by
        unfold putB atB
        rw [List.takeWhile_cons, if_pos hx]
        simp
      rw [e]
      refine usedB_cons (used_putB l d (usedB_tail hu) (fun h => hd (by simp [h]))) ?_
      intro z hz
      rcases (mem_putB l d z).1 hz with rfl | hz
      · exact hx
      · exact usedB_head hu z hz
    · have e : putB (x :: l) d = d :: x :: l := by
        unfold putB atB
        rw [List.takeWhile_cons, if_neg hx]
        simp
      rw [e]
      have hdx : blt d x = true := by
        cases h : blt d x with
        | true => rfl
        | false => exact absurd (blt_tri (by simpa using hx) h) (fun e => hd (by simp [e]))
      refine usedB_cons hu ?_
      intro z hz
      rcases List.mem_cons.1 hz with rfl | hz
      · exact hdx
      · exact blt_trans hdx (usedB_head hu z hz)

theorem putB_comm {l : List Bytes} {x y : Bytes} (hu : usedB l = true) (hx : x ∉ l) (hy : y ∉ l) (hxy : x ≠ y) : putB (putB l x) y = putB (putB l y) x := by
  have a1 : y ∉ putB l x := fun h => by
    rcases (mem_putB l x y).1 h with h | h
    · exact hxy h.symm
    · exact hy h
  have a2 : x ∉ putB l y := fun h => by
    rcases (mem_putB l y x).1 h with h | h
    · exact hxy h
    · exact hx h
  refine used_ext (used_putB _ _ (used_putB l x hu hx) a1) (used_putB _ _ (used_putB l y hu hy) a2) ?_
  intro z
  rw [mem_putB, mem_putB, mem_putB, mem_putB]
  constructor
  · rintro (h | h | h)
    · exact .inr (.inl h)
    · exact .inl h
    · exact .inr (.inr h)
  · rintro (h | h | h)
    · exact .inr (.inl h)
    · exact .inl h
    · exact .inr (.inr h)

theorem hasB_iff (l : List Bytes) (d : Bytes) : hasB l d = true ↔ d ∈ l := by unfold hasB; simp
end Frk
