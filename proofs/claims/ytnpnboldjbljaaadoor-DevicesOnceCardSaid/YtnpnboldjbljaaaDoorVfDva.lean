/- Law 44, plain: lists that rise; what is put in its place; what two lists give together. -/
import Derived.Test.YtnpnboldjbljaaaDoorVfgDls
namespace Frk
set_option maxRecDepth 100000

section
variable {α : Type} (key : α → Int)

def RisK (l : List α) : Prop := l.Pairwise (fun a b => key a < key b)
instance (l : List α) : Decidable (RisK key l) := by unfold RisK; infer_instance
def risB (l : List α) : Bool := decide (RisK key l)
def atK (l : List α) (n : Int) : Nat := (l.takeWhile (fun a => decide (key a < n))).length
def hasK (l : List α) (n : Int) : Bool := l.any (fun a => key a == n)
def insK (l : List α) (a : α) : List α := l.take (atK key l (key a)) ++ a :: l.drop (atK key l (key a))
/-- two lists say the same of what is in both -/
def AgrK (a b : List α) : Prop := ∀ x ∈ a, ∀ y ∈ b, key x = key y → x = y
def mrgK : List α → List α → List α
  | [], b => b
  | x :: a, [] => x :: a
  | x :: a, y :: b => if key x < key y then x :: mrgK a (y :: b) else if key y < key x then y :: mrgK (x :: a) b else y :: mrgK a b
termination_by a b => a.length + b.length
end

section
variable {α : Type} {key : α → Int}

theorem risK_steps : ∀ l : List α, RisK key l ↔ ∀ (j : Nat) (x y : α), l[j]? = some x → l[j + 1]? = some y → key x < key y
  | [] => ⟨fun _ j x y h => by simp at h, fun _ => List.Pairwise.nil⟩
  | [z] => ⟨fun _ j x y _ h => by simp at h, fun _ => by simp [RisK]⟩
  | a :: b :: l => by
    have ih := risK_steps (b :: l)
    constructor
    · intro h j x y hx hy
      have h2 := List.pairwise_cons.1 h
      cases j with
      | zero =>
        cases hx
        exact h2.1 y (List.mem_of_getElem? hy)
      | succ j => exact ih.1 h2.2 j x y (by simpa using hx) (by simpa using hy)
    · intro h
      have h2 := ih.2 fun j x y hx hy => h (j + 1) x y (by simpa using hx) (by simpa using hy)
      have h1 : key a < key b := h 0 a b rfl rfl
      refine List.pairwise_cons.2 ⟨fun z hz => ?_, h2⟩
      rcases List.mem_cons.1 hz with e | e
      · rw [e]; exact h1
      · have := (List.pairwise_cons.1 h2).1 z e
        omega
theorem risB_iff {l : List α} : risB key l = true ↔ RisK key l := by unfold risB; simp
theorem risB_steps {l : List α} : risB key l = true ↔ ∀ (j : Nat) (x y : α), l[j]? = some x → l[j + 1]? = some y → key x < key y := risB_iff.trans (risK_steps l)
theorem RisK.lt {l : List α} (h : RisK key l) {i j : Nat} {x y : α} (hij : i < j) (hx : l[i]? = some x) (hy : l[j]? = some y) : key x < key y := by
  obtain ⟨hi, ex⟩ := List.getElem?_eq_some_iff.1 hx
  obtain ⟨hj, ey⟩ := List.getElem?_eq_some_iff.1 hy
  have := List.pairwise_iff_getElem.1 h i j hi hj hij
  rw [ex, ey] at this
  exact this
theorem RisK.inj {l : List α} (h : RisK key l) {x y : α} (hx : x ∈ l) (hy : y ∈ l) (e : key x = key y) : x = y := by
  obtain ⟨i, hi⟩ := List.mem_iff_getElem?.1 hx
  obtain ⟨j, hj⟩ := List.mem_iff_getElem?.1 hy
  rcases Nat.lt_trichotomy i j with h1 | h1 | h1
  · have := h.lt h1 hi hj; omega
  · subst h1; rw [hi] at hj; exact Option.some.inj hj
  · have := h.lt h1 hj hi; omega

theorem atK_le (l : List α) (n : Int) : atK key l n ≤ l.length := by
  unfold atK
  exact (List.takeWhile_prefix _).length_le
theorem atK_low {l : List α} {n : Int} {t : Nat} {x : α} (ht : t < atK key l n) (hx : l[t]? = some x) : key x < n := by
  unfold atK at ht
  have hp := List.takeWhile_prefix (fun a => decide (key a < n)) (l := l)
  have h1 := hp.getElem ht
  have h2 := (List.getElem?_eq_some_iff.1 hx).2
  have hm := List.getElem_mem ht
  have := List.all_takeWhile (p := fun a => decide (key a < n)) (l := l)
  have h3 := (List.all_eq_true.1 this) _ hm
  rw [h1, h2] at h3
  simpa using h3
theorem atK_not : ∀ {l : List α} {n : Int} {x : α}, l[atK key l n]? = some x → ¬ key x < n
  | [], n, x, h => by simp at h
  | a :: l, n, x, h => by
    unfold atK at h
    by_cases ha : key a < n
    · rw [List.takeWhile_cons_of_pos (by simpa using ha), List.length_cons, List.getElem?_cons_succ] at h
      exact atK_not h
    · rw [List.takeWhile_cons_of_neg (by simpa using ha)] at h
      simp at h
      rw [← h]; exact ha
theorem atK_unique {l : List α} {n : Int} {i : Nat} (hi : i ≤ l.length) (h1 : ∀ t x, t < i → l[t]? = some x → key x < n) (h2 : ∀ x, l[i]? = some x → ¬ key x < n) : i = atK key l n := by
  have hle := atK_le (key := key) l n
  rcases Nat.lt_trichotomy i (atK key l n) with h | h | h
  · have hx := List.getElem?_eq_getElem (show i < l.length by omega)
    exact absurd (atK_low h hx) (h2 _ hx)
  · exact h
  · have hx := List.getElem?_eq_getElem (show atK key l n < l.length by omega)
    exact absurd (h1 _ _ h hx) (atK_not hx)
theorem hasK_iff {l : List α} {n : Int} : hasK key l n = true ↔ ∃ x ∈ l, key x = n := by
  unfold hasK
  rw [List.any_eq_true]
  constructor
  · rintro ⟨x, hx, e⟩; exact ⟨x, hx, by simpa using e⟩
  · rintro ⟨x, hx, e⟩; exact ⟨x, hx, by simpa using e⟩
theorem hasK_not {l : List α} {n : Int} : hasK key l n = false ↔ ∀ x ∈ l, key x ≠ n := by
  rw [← Bool.not_eq_true, hasK_iff]
  constructor
  · intro h x hx e; exact h ⟨x, hx, e⟩
  · rintro h ⟨x, hx, e⟩; exact h x hx e
theorem hasK_at {l : List α} (h : RisK key l) {n : Int} : hasK key l n = true ↔ ∃ x, l[atK key l n]? = some x ∧ key x = n := by
  rw [hasK_iff]
  constructor
  · rintro ⟨x, hx, e⟩
    obtain ⟨i, hi⟩ := List.mem_iff_getElem?.1 hx
    have : i = atK key l n := atK_unique (by have := (List.getElem?_eq_some_iff.1 hi).1; omega) (fun t y ht hy => by have := h.lt ht hy hi; omega) (fun y hy => by rw [hi] at hy; cases hy; omega)
    rw [← this]
    exact ⟨x, hi, e⟩
  · rintro ⟨x, hx, e⟩
    exact ⟨x, List.mem_of_getElem? hx, e⟩

theorem mem_insK {l : List α} {a x : α} : x ∈ insK key l a ↔ x = a ∨ x ∈ l := by
  unfold insK
  rw [List.mem_append, List.mem_cons]
  have e : x ∈ l ↔ x ∈ l.take (atK key l (key a)) ∨ x ∈ l.drop (atK key l (key a)) := by
    rw [← List.mem_append, List.take_append_drop]
  rw [e]
  constructor
  · rintro (h | h | h)
    · exact .inr (.inl h)
    · exact .inl h
    · exact .inr (.inr h)
  · rintro (h | h | h)
    · exact .inr (.inl h)
    · exact .inl h
    · exact .inr (.inr h)
theorem insK_ris {l : List α} {a : α} (h : RisK key l) (hn : hasK key l (key a) = false) : RisK key (insK key l a) := by
  have hn := hasK_not.1 hn
  have lo : ∀ x ∈ l.take (atK key l (key a)), key x < key a := fun x hx => by
    obtain ⟨i, hi⟩ := List.mem_iff_getElem?.1 hx
    rw [List.getElem?_take] at hi
    split at hi
    · exact atK_low (by assumption) hi
    · cases hi
  have hi : ∀ x ∈ l.drop (atK key l (key a)), key a < key x := fun x hx => by
    obtain ⟨i, hi⟩ := List.mem_iff_getElem?.1 hx
    rw [List.getElem?_drop] at hi
    have hlt := (List.getElem?_eq_some_iff.1 hi).1
    have h0 := List.getElem?_eq_getElem (show atK key l (key a) < l.length by omega)
    have h1 := atK_not h0
    have h2 := hn _ (List.mem_of_getElem? h0)
    rcases Nat.eq_zero_or_pos i with e | e
    · subst e
      rw [Nat.add_zero, h0] at hi
      cases hi
      omega
    · have := h.lt (show atK key l (key a) < atK key l (key a) + i by omega) h0 hi
      omega
  unfold insK
  have hp : (l.take (atK key l (key a)) ++ l.drop (atK key l (key a))).Pairwise (fun a b => key a < key b) := by rw [List.take_append_drop]; exact h
  rw [List.pairwise_append] at hp
  refine List.pairwise_append.2 ⟨hp.1, List.pairwise_cons.2 ⟨hi, hp.2.1⟩, fun x hx y hy => ?_⟩
  rcases List.mem_cons.1 hy with e | e
  · rw [e]; exact lo x hx
  · exact hp.2.2 x hx y e
theorem insK_len (l : List α) (a : α) : (insK key l a).length = l.length + 1 := by
  unfold insK
  have := atK_le (key := key) l (key a)
  simp
  omega

/-- what rises is told by what is in it -/
theorem risK_ext : ∀ {l m : List α}, RisK key l → RisK key m → (∀ x, x ∈ l ↔ x ∈ m) → l = m
  | [], [], _, _, _ => rfl
  | [], y :: m, _, _, h => by have := (h y).2 List.mem_cons_self; cases this
  | x :: l, [], _, _, h => by have := (h x).1 List.mem_cons_self; cases this
  | x :: l, y :: m, hl, hm, h => by
    have hl' := List.pairwise_cons.1 hl
    have hm' := List.pairwise_cons.1 hm
    have e : x = y := by
      rcases List.mem_cons.1 ((h x).1 List.mem_cons_self) with e | e
      · exact e
      · rcases List.mem_cons.1 ((h y).2 List.mem_cons_self) with e' | e'
        · exact e'.symm
        · have h1 := hm'.1 x e
          have h2 := hl'.1 y e'
          omega
    subst e
    rw [risK_ext hl'.2 hm'.2 fun z => ?_]
    constructor
    · intro hz
      rcases List.mem_cons.1 ((h z).1 (List.mem_cons_of_mem _ hz)) with e | e
      · have := hl'.1 z hz; rw [e] at this; omega
      · exact e
    · intro hz
      rcases List.mem_cons.1 ((h z).2 (List.mem_cons_of_mem _ hz)) with e | e
      · have := hm'.1 z hz; rw [e] at this; omega
      · exact e

theorem mem_mrgK : ∀ (a b : List α), AgrK key a b → ∀ x, x ∈ mrgK key a b ↔ x ∈ a ∨ x ∈ b
  | [], b, _, x => by unfold mrgK; simp
  | y :: a, [], _, x => by unfold mrgK; simp
  | y :: a, z :: b, h, x => by
    unfold mrgK
    split
    · rw [List.mem_cons, mem_mrgK a (z :: b) (fun u hu v hv => h u (List.mem_cons_of_mem _ hu) v hv) x, List.mem_cons (a := x) (b := y)]
      simp only [or_assoc]
    · split
      · rw [List.mem_cons, mem_mrgK (y :: a) b (fun u hu v hv => h u hu v (List.mem_cons_of_mem _ hv)) x, List.mem_cons (a := x) (b := z)]
        constructor
        · rintro (e | e | e)
          · exact .inr (.inl e)
          · exact .inl e
          · exact .inr (.inr e)
        · rintro (e | e | e)
          · exact .inr (.inl e)
          · exact .inl e
          · exact .inr (.inr e)
      · have e : y = z := h y List.mem_cons_self z List.mem_cons_self (by omega)
        subst e
        rw [List.mem_cons, mem_mrgK a b (fun u hu v hv => h u (List.mem_cons_of_mem _ hu) v (List.mem_cons_of_mem _ hv)) x, List.mem_cons, List.mem_cons]
        constructor
        · rintro (e | e | e)
          · exact .inl (.inl e)
          · exact .inl (.inr e)
          · exact .inr (.inr e)
        · rintro ((e | e) | (e | e))
          · exact .inl e
          · exact .inr (.inl e)
          · exact .inl e
          · exact .inr (.inr e)
termination_by a b => a.length + b.length
theorem mrgK_or : ∀ (a b : List α) (x : α), x ∈ mrgK key a b → x ∈ a ∨ x ∈ b
  | [], b, x, h => by unfold mrgK at h; exact .inr h
  | y :: a, [], x, h => by unfold mrgK at h; exact .inl h
  | y :: a, z :: b, x, h => by
    unfold mrgK at h
    split at h
    · rcases List.mem_cons.1 h with e | e
      · exact .inl (List.mem_cons.2 (.inl e))
      · rcases mrgK_or a (z :: b) x e with e | e
        · exact .inl (List.mem_cons_of_mem _ e)
        · exact .inr e
    · split at h
      · rcases List.mem_cons.1 h with e | e
        · exact .inr (List.mem_cons.2 (.inl e))
        · rcases mrgK_or (y :: a) b x e with e | e
          · exact .inl e
          · exact .inr (List.mem_cons_of_mem _ e)
      · rcases List.mem_cons.1 h with e | e
        · exact .inr (List.mem_cons.2 (.inl e))
        · rcases mrgK_or a b x e with e | e
          · exact .inl (List.mem_cons_of_mem _ e)
          · exact .inr (List.mem_cons_of_mem _ e)
termination_by a b => a.length + b.length
theorem mrgK_ris : ∀ (a b : List α), RisK key a → RisK key b → RisK key (mrgK key a b)
  | [], b, _, h => by unfold mrgK; exact h
  | y :: a, [], h, _ => by unfold mrgK; exact h
  | y :: a, z :: b, ha, hb => by
    have ha' := List.pairwise_cons.1 ha
    have hb' := List.pairwise_cons.1 hb
    unfold mrgK
    split
    · refine List.pairwise_cons.2 ⟨fun u hu => ?_, mrgK_ris a (z :: b) ha'.2 hb⟩
      rcases mrgK_or a (z :: b) u hu with e | e
      · exact ha'.1 u e
      · rcases List.mem_cons.1 e with e | e
        · rw [e]; assumption
        · have := hb'.1 u e; omega
    · split
      · refine List.pairwise_cons.2 ⟨fun u hu => ?_, mrgK_ris (y :: a) b ha hb'.2⟩
        rcases mrgK_or (y :: a) b u hu with e | e
        · rcases List.mem_cons.1 e with e | e
          · rw [e]; assumption
          · have := ha'.1 u e; omega
        · exact hb'.1 u e
      · refine List.pairwise_cons.2 ⟨fun u hu => ?_, mrgK_ris a b ha'.2 hb'.2⟩
        rcases mrgK_or a b u hu with e | e
        · have := ha'.1 u e; omega
        · exact hb'.1 u e
termination_by a b => a.length + b.length

/-- the reference's way to merge: one after the other is put in -/
def foldP (a : List α) (b : List α) : List α := b.foldl (fun x p => if hasK key a (key p) then x else insK key x p) a
end

/-! ## numbers -/

def idI (n : Int) : Int := n
theorem agr_id (a b : List Int) : AgrK idI a b := fun _ _ _ _ e => e
/-- a number is put in its place, once -/
def putI (l : List Int) (n : Int) : List Int := if hasK idI l n then l else insK idI l n
theorem putI_ris {l : List Int} (h : RisK idI l) (n : Int) : RisK idI (putI l n) := by
  unfold putI
  split
  · exact h
  · exact insK_ris h (show hasK idI l n = false by simpa using ‹¬ hasK idI l n = true›)
theorem mem_putI {l : List Int} {n x : Int} : x ∈ putI l n ↔ x = n ∨ x ∈ l := by
  unfold putI
  split
  · obtain ⟨y, hy, e⟩ := hasK_iff.1 ‹hasK idI l n = true›
    have e : y = n := e
    rw [e] at hy
    constructor
    · exact .inr
    · rintro (h | h)
      · rw [h]; exact hy
      · exact h
  · exact mem_insK
def foldG (a b : List Int) : List Int := b.foldl putI a
theorem foldG_eq {a b : List Int} (ha : RisK idI a) (hb : RisK idI b) : foldG a b = mrgK idI a b := by
  have key1 : ∀ (r x : List Int), RisK idI x → RisK idI (r.foldl putI x) ∧ ∀ y, y ∈ r.foldl putI x ↔ y ∈ x ∨ y ∈ r := by
    intro r
    induction r with
    | nil => intro x hx; rw [List.foldl_nil]; exact ⟨hx, fun y => by simp⟩
    | cons q r ih =>
      intro x hx
      rw [List.foldl_cons]
      have := ih (putI x q) (putI_ris hx q)
      refine ⟨this.1, fun y => ?_⟩
      rw [this.2, mem_putI, List.mem_cons]
      constructor
      · rintro ((h | h) | h)
        · exact .inr (.inl h)
        · exact .inl h
        · exact .inr (.inr h)
      · rintro (h | h | h)
        · exact .inl (.inr h)
        · exact .inl (.inl h)
        · exact .inr h
  obtain ⟨h1, h2⟩ := key1 b a ha
  exact risK_ext h1 (mrgK_ris a b ha hb) fun y => (h2 y).trans (mem_mrgK a b (agr_id a b) y).symm
theorem putI_mrg {l : List Int} (h : RisK idI l) (n : Int) : putI l n = mrgK idI l [n] := foldG_eq (b := [n]) h (List.pairwise_singleton _ _)
end Frk
