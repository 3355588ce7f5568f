/- Law 45, plain: kept letters. -/
import Derived.Test.YtemoomfnmiodeaaDoorVkgDvb
import Derived.Test.YtemoomfnmiodeaaDoorVkOuk
namespace Frk
open Go Go.RowKit Go.Proofs
set_option maxRecDepth 100000

structure Ltr where
  N : Int
  U : Int
  L : Int
  K : Int
  P : Int
  Q : Int
  T : Bytes
deriving DecidableEq

def Ltr.C (x : Ltr) : List Value := [.int .i64 x.N, .int .i64 x.U] ++ retC x.L x.K x.P x.Q x.T
structure Ltr.ok (x : Ltr) : Prop where
  n : I64 x.N
  u : I64 x.U
  l : I64 x.L
  k : I64 x.K
  p : I64 x.P
  q : I64 x.Q
  t32 : x.T.length = 32
theorem Ltr.C_len {x : Ltr} (h : x.T.length = 32) : x.C.length = 38 := by
  unfold Ltr.C
  rw [List.length_append, retC_len h]
  rfl
theorem Ltr.C_one (x : Ltr) : ∀ v ∈ x.C, v.oneCell' = true := by
  intro v hv
  unfold Ltr.C at hv
  rcases List.mem_append.1 hv with h | h
  · simp only [List.mem_cons, List.not_mem_nil, or_false] at h
    rcases h with rfl | rfl <;> rfl
  · exact retC_one _ _ _ _ _ v h
def okK (x : Ltr) : Bool := decide (0 ≤ x.N) && (decide (0 ≤ x.U) && (decide (x.N ≤ 1048576) && (decide (x.U < 2097152) && chkB x.L x.K x.P x.Q x.T)))
def goodL (l : List Ltr) : Bool := l.all okK && risB Ltr.N l
def chkL (l : List Ltr) : Int := if 1024 < l.length then 2 else if goodL l then 0 else 450
theorem goodL_iff {l : List Ltr} : goodL l = true ↔ (∀ x ∈ l, okK x = true) ∧ RisK Ltr.N l := by
  unfold goodL
  rw [Bool.and_eq_true, List.all_eq_true, risB_iff]
theorem chkL_zero {l : List Ltr} : chkL l = 0 ↔ l.length ≤ 1024 ∧ (∀ x ∈ l, okK x = true) ∧ RisK Ltr.N l := by
  rw [← goodL_iff]
  unfold chkL
  split
  · constructor
    · intro h; cases h
    · rintro ⟨h, _⟩; omega
  · split
    · exact ⟨fun _ => ⟨by omega, by assumption⟩, fun _ => rfl⟩
    · constructor
      · intro h; cases h
      · rintro ⟨_, h⟩; exact absurd h (by assumption)
theorem chkL_nil : chkL [] = 0 := chkL_zero.2 ⟨by decide, by simp, List.Pairwise.nil⟩
theorem chkL_sub {l m : List Ltr} (h : m.Sublist l) (hc : chkL l = 0) : chkL m = 0 := by
  obtain ⟨h1, h2, h3⟩ := chkL_zero.1 hc
  exact chkL_zero.2 ⟨Nat.le_trans h.length_le h1, fun x hx => h2 x (h.subset hx), List.Pairwise.sublist h h3⟩

/-! ## Keep -/
def keepE (l : List Ltr) (k : Ltr) : Int := if chkL l ≠ 0 then chkL l else if okK k = false then 450 else if hasK Ltr.N l k.N then 181 else if l.length = 1024 then 2 else 0
def keepL (l : List Ltr) (k : Ltr) : List Ltr := if keepE l k = 0 then insK Ltr.N l k else []
theorem keepE_zero {l : List Ltr} {k : Ltr} : keepE l k = 0 ↔ chkL l = 0 ∧ okK k = true ∧ hasK Ltr.N l k.N = false ∧ l.length ≠ 1024 := by
  unfold keepE
  by_cases h1 : chkL l = 0
  · rw [if_neg (by simp [h1])]
    cases h2 : okK k with
    | false => simp
    | true =>
      rw [if_neg (by simp)]
      cases h3 : hasK Ltr.N l k.N with
      | true => simp
      | false =>
        rw [if_neg (by simp)]
        by_cases h4 : l.length = 1024
        · simp [h4]
        · simp [h1, h4]
  · rw [if_pos h1]
    simp [h1]
/-- the reference's: what is less, the letter, what is greater -/
theorem insK_parts {l : List Ltr} (hr : RisK Ltr.N l) {k : Ltr} (_hn : hasK Ltr.N l k.N = false) : l.filter (fun x => decide (x.N < k.N)) ++ k :: l.filter (fun x => !decide (x.N < k.N)) = insK Ltr.N l k := by
  have hlt : ∀ i x, l[i]? = some x → (x.N < k.N ↔ i < atK Ltr.N l k.N) := fun i x hx => by
    constructor
    · intro h
      rcases Nat.lt_or_ge i (atK Ltr.N l k.N) with h1 | h1
      · exact h1
      · have hi := (List.getElem?_eq_some_iff.1 hx).1
        have h0 := List.getElem?_eq_getElem (show atK Ltr.N l k.N < l.length by omega)
        have h2 := atK_not h0
        rcases Nat.lt_or_ge (atK Ltr.N l k.N) i with h3 | h3
        · have := hr.lt h3 h0 hx; omega
        · have e : atK Ltr.N l k.N = i := by omega
          have h4 : ¬ x.N < k.N := atK_not (key := Ltr.N) (l := l) (n := k.N) (x := x) (by rw [e]; exact hx)
          exact absurd h h4
    · intro h
      exact atK_low h hx
  unfold insK
  congr 1
  · rw [← List.take_append_drop (atK Ltr.N l k.N) l, List.filter_append, List.take_append_drop]
    rw [List.filter_eq_self.2, List.filter_eq_nil_iff.2, List.append_nil]
    · intro x hx
      obtain ⟨i, hi⟩ := List.mem_iff_getElem?.1 hx
      rw [List.getElem?_drop] at hi
      have := hlt _ _ hi
      simp only [decide_eq_true_eq]
      omega
    · intro x hx
      obtain ⟨i, hi⟩ := List.mem_iff_getElem?.1 hx
      rw [List.getElem?_take] at hi
      split at hi
      · simp only [decide_eq_true_eq]
        exact (hlt _ _ hi).2 (by assumption)
      · cases hi
  · congr 1
    rw [← List.take_append_drop (atK Ltr.N l k.N) l, List.filter_append, List.take_append_drop]
    rw [List.filter_eq_nil_iff.2, List.filter_eq_self.2, List.nil_append]
    · intro x hx
      obtain ⟨i, hi⟩ := List.mem_iff_getElem?.1 hx
      rw [List.getElem?_drop] at hi
      have := hlt _ _ hi
      simp only [Bool.not_eq_true', decide_eq_false_iff_not]
      omega
    · intro x hx
      obtain ⟨i, hi⟩ := List.mem_iff_getElem?.1 hx
      rw [List.getElem?_take] at hi
      split at hi
      · have := (hlt _ _ hi).2 (by assumption)
        simp [this]
      · cases hi

/-! ## Send -/
def outK (l : List Ltr) (n : Int) : List Ltr := l.filter (fun x => !decide (x.N = n))
theorem outK_at {l : List Ltr} (hr : RisK Ltr.N l) {i : Nat} {x : Ltr} (hx : l[i]? = some x) : outK l x.N = l.take i ++ l.drop (i + 1) := by
  have hi := (List.getElem?_eq_some_iff.1 hx).1
  have ne : ∀ j y, l[j]? = some y → j ≠ i → y.N ≠ x.N := fun j y hy hne => by
    rcases Nat.lt_or_gt_of_ne hne with h | h
    · have := hr.lt h hy hx; omega
    · have := hr.lt h hx hy; omega
  unfold outK
  conv => lhs; rw [← List.take_append_drop i l, List.drop_eq_getElem_cons hi]
  rw [List.filter_append, List.filter_cons_of_neg (by have e := (List.getElem?_eq_some_iff.1 hx).2; simp [e])]
  congr 1
  · refine List.filter_eq_self.2 fun y hy => ?_
    obtain ⟨j, hj⟩ := List.mem_iff_getElem?.1 hy
    rw [List.getElem?_take] at hj
    split at hj
    · have := ne j y hj (by omega)
      simp [this]
    · cases hj
  · refine List.filter_eq_self.2 fun y hy => ?_
    obtain ⟨j, hj⟩ := List.mem_iff_getElem?.1 hy
    rw [List.getElem?_drop] at hj
    have := ne _ y hj (by omega)
    simp [this]
def fndK (l : List Ltr) (n : Int) : Option Ltr := l.find? (fun x => decide (x.N = n))
theorem fndK_some {l : List Ltr} {n : Int} {x : Ltr} (h : fndK l n = some x) : x ∈ l ∧ x.N = n := by
  unfold fndK at h
  exact ⟨List.mem_of_find?_eq_some h, by simpa using List.find?_some h⟩
theorem fndK_none {l : List Ltr} {n : Int} : fndK l n = none ↔ hasK Ltr.N l n = false := by
  unfold fndK
  rw [List.find?_eq_none, hasK_not]
  simp
abbrev Z6 := Int × Int × Int × Int × Int × Int
def sendF (l : List Ltr) (n a b r0 r1 r2 : Int) : List Ltr × Z6 × Int :=
  if chkL l ≠ 0 then ([], (0, 0, 0, 0, 0, 0), chkL l) else
  match fndK l n with
  | none => ([], (0, 0, 0, 0, 0, 0), 1)
  | some x =>
    match useF (chkB x.L x.K x.P x.Q x.T) x.K x.P x.Q a b r0 r1 r2 with
    | (c0, d0, c1, d1, c2, d2, e) => if e ≠ 0 then ([], (0, 0, 0, 0, 0, 0), e) else (outK l n, (c0, d0, c1, d1, c2, d2), 0)

/-! ## Burn -/
def stayK (l : List Ltr) (t : Int) : List Ltr := l.filter (fun x => !decide (x.U ≤ t))
def goneK (l : List Ltr) (t : Int) : List Int := (l.filter (fun x => decide (x.U ≤ t))).map Ltr.N
def burnE (l : List Ltr) (t : Int) : Int := if chkL l ≠ 0 then chkL l else if t < 0 ∨ 2097152 ≤ t then 1 else 0
theorem burnE_zero {l : List Ltr} {t : Int} : burnE l t = 0 ↔ chkL l = 0 ∧ 0 ≤ t ∧ t < 2097152 := by
  unfold burnE
  by_cases h1 : chkL l = 0
  · rw [if_neg (by simp [h1])]
    split
    · constructor
      · intro h; cases h
      · rintro ⟨_, _, _⟩; omega
    · exact ⟨fun _ => ⟨h1, by omega, by omega⟩, fun _ => rfl⟩
  · rw [if_pos h1]
    exact ⟨fun h => absurd h h1, fun h => absurd h.1 h1⟩
theorem stay_chk {l : List Ltr} (t : Int) (h : chkL l = 0) : chkL (stayK l t) = 0 := chkL_sub List.filter_sublist h
theorem stay_gone (l : List Ltr) (t : Int) : (stayK l t).length + (goneK l t).length = l.length := by
  unfold stayK goneK
  rw [List.length_map]
  have := filter_len (fun x : Ltr => decide (x.U ≤ t)) l
  omega
theorem stay_take_succ {l : List Ltr} {i : Nat} {x : Ltr} (hx : l[i]? = some x) (t : Int) : stayK (l.take (i + 1)) t = if x.U ≤ t then stayK (l.take i) t else stayK (l.take i) t ++ [x] := by
  unfold stayK
  rw [List.take_add_one, hx, List.filter_append]
  split
  · simp [*]
  · simp [*]
theorem gone_take_succ {l : List Ltr} {i : Nat} {x : Ltr} (hx : l[i]? = some x) (t : Int) : goneK (l.take (i + 1)) t = if x.U ≤ t then goneK (l.take i) t ++ [x.N] else goneK (l.take i) t := by
  unfold goneK
  rw [List.take_add_one, hx, List.filter_append, List.map_append]
  split
  · simp [*]
  · simp [*]
theorem stay_pre (l : List Ltr) (i : Nat) (t : Int) : stayK (l.take i) t ++ stayK (l.drop i) t = stayK l t := by
  unfold stayK
  rw [← List.filter_append, List.take_append_drop]
theorem gone_pre (l : List Ltr) (i : Nat) (t : Int) : goneK (l.take i) t ++ goneK (l.drop i) t = goneK l t := by
  unfold goneK
  rw [← List.map_append, ← List.filter_append, List.take_append_drop]

theorem stay_at {l : List Ltr} {i : Nat} {x : Ltr} {t : Int} (hx : l[i]? = some x) (h : ¬ x.U ≤ t) : (stayK l t)[(stayK (l.take i) t).length]? = some x := by
  obtain ⟨hi, ex⟩ := List.getElem?_eq_some_iff.1 hx
  rw [← stay_pre l i t, List.getElem?_append_right (Nat.le_refl _), Nat.sub_self, List.drop_eq_getElem_cons hi, ex]
  unfold stayK
  rw [List.filter_cons_of_pos (by simp [h])]
  rfl
theorem gone_at {l : List Ltr} {i : Nat} {x : Ltr} {t : Int} (hx : l[i]? = some x) (h : x.U ≤ t) : (goneK l t)[(goneK (l.take i) t).length]? = some x.N := by
  obtain ⟨hi, ex⟩ := List.getElem?_eq_some_iff.1 hx
  rw [← gone_pre l i t, List.getElem?_append_right (Nat.le_refl _), Nat.sub_self, List.drop_eq_getElem_cons hi, ex]
  unfold goneK
  rw [List.filter_cons_of_pos (by simp [h])]
  rfl

/-! ## letters kept one after the other -/
def colF : List Ltr → List Ltr → Option (List Ltr)
  | x, [] => some x
  | x, k :: r => if keepE x k = 0 then colF (keepL x k) r else none
end Frk
