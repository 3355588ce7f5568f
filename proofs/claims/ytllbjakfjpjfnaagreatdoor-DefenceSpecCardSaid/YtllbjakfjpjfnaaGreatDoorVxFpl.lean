/- Law 57, plain: epochs, cases, what is admitted. -/
import Derived.Test.YtllbjakfjpjfnaaGreatDoorVxMka
import Derived.Test.YtllbjakfjpjfnaaGreatDoorVxgEqd
namespace Frk
open Go Go.RowKit Go.Proofs
set_option maxRecDepth 100000

structure Ep where
  O : Int
  F : Int
  K : Int
deriving DecidableEq
def Ep.C (x : Ep) : List Value := [.int .i64 x.O, .int .i64 x.F, .int .i64 x.K]
def epOk (x : Ep) : Bool := decide (0 ≤ x.O) && (decide (0 ≤ x.F) && (decide (x.O < 24) && (decide (x.F < 2097152) && (decide (x.K ≠ 1) && vd x.K))))
def ltE (x y : Ep) : Bool := decide (x.O < y.O) || (decide (x.O = y.O) && decide (x.F < y.F))
def risE (l : List Ep) : Prop := l.Pairwise fun x y => ltE x y = true
theorem ltE_iff {x y : Ep} : ltE x y = true ↔ x.O < y.O ∨ (x.O = y.O ∧ x.F < y.F) := by unfold ltE; simp
theorem ltE_trans {x y z : Ep} (h : ltE x y = true) (g : ltE y z = true) : ltE x z = true := by
  rw [ltE_iff] at *
  omega
instance (l : List Ep) : Decidable (risE l) := by unfold risE; infer_instance
theorem risE_steps : ∀ (l : List Ep), risE l ↔ ∀ (j : Nat) (x y : Ep), l[j]? = some x → l[j + 1]? = some y → ltE x y = true
  | [] => ⟨fun _ j x y h => by simp at h, fun _ => List.Pairwise.nil⟩
  | [a] => ⟨fun _ j x y _ h => by simp at h, fun _ => by unfold risE; simp⟩
  | a :: b :: r => by
    have ih := risE_steps (b :: r)
    constructor
    · intro h j x y hx hy
      unfold risE at h
      obtain ⟨h1, h2⟩ := List.pairwise_cons.1 h
      cases j with
      | zero =>
        cases hx
        exact h1 y (List.mem_of_getElem? hy)
      | succ j => exact ih.1 h2 j x y (by simpa using hx) (by simpa using hy)
    · intro h
      have h2 : risE (b :: r) := ih.2 fun j x y hx hy => h (j + 1) x y (by simpa using hx) (by simpa using hy)
      have hab := h 0 a b rfl rfl
      unfold risE at h2 ⊢
      refine List.pairwise_cons.2 ⟨fun y hy => ?_, h2⟩
      rcases List.mem_cons.1 hy with rfl | hy
      · exact hab
      · exact ltE_trans hab ((List.pairwise_cons.1 h2).1 y hy)
def goodE (l : List Ep) : Bool := l.all epOk && decide (risE l)
theorem goodE_iff {l : List Ep} : goodE l = true ↔ (∀ x ∈ l, epOk x = true) ∧ risE l := by unfold goodE; rw [Bool.and_eq_true, List.all_eq_true, decide_eq_true_eq]
/-- Check -/
def epChk (l : List Ep) : Int := if 256 < l.length then 2 else if goodE l then 0 else 470
theorem epChk_zero {l : List Ep} : epChk l = 0 ↔ l.length ≤ 256 ∧ (∀ x ∈ l, epOk x = true) ∧ risE l := by
  rw [← goodE_iff]
  unfold epChk
  split
  · constructor
    · intro h; cases h
    · rintro ⟨h, _⟩; omega
  · split
    · exact ⟨fun _ => ⟨by omega, by assumption⟩, fun _ => rfl⟩
    · constructor
      · intro h; cases h
      · rintro ⟨_, h⟩; exact absurd h (by assumption)

/-! ## Key -/
def selE (o t : Int) (x : Ep) : Bool := decide (x.O = o) && decide (x.F ≤ t)
def keyF (l : List Ep) (o t : Int) : Option Ep := (l.filter (selE o t)).getLast?
theorem keyF_take_succ {l : List Ep} {i : Nat} {x : Ep} (hx : l[i]? = some x) (o t : Int) : keyF (l.take (i + 1)) o t = if selE o t x = true then some x else keyF (l.take i) o t := by
  unfold keyF
  rw [List.take_add_one, hx, List.filter_append]
  split
  · rename_i h
    rw [Option.toList_some, List.filter_cons_of_pos h]
    simp
  · rename_i h
    rw [Option.toList_some, List.filter_cons_of_neg h]
    simp
/-- behind an epoch of the office that begins later nothing counts -/
theorem keyF_stop {l : List Ep} (hr : risE l) {i : Nat} {x : Ep} (hx : l[i]? = some x) {o t : Int} (ho : x.O = o) (ht : t < x.F) : keyF l o t = keyF (l.take i) o t := by
  have h1 : (l.drop i).filter (selE o t) = [] := by
    rw [List.filter_eq_nil_iff]
    intro y hy
    obtain ⟨hi, ex⟩ := List.getElem?_eq_some_iff.1 hx
    rw [List.drop_eq_getElem_cons hi, ex] at hy
    have hp : risE (x :: l.drop (i + 1)) := by
      have h := List.Pairwise.sublist (List.drop_sublist i l) hr
      rwa [List.drop_eq_getElem_cons hi, ex] at h
    have h3 : x.O ≤ y.O ∧ (y.O = o → x.F ≤ y.F) := by
      rcases List.mem_cons.1 hy with rfl | hy
      · exact ⟨Int.le_refl _, fun _ => Int.le_refl _⟩
      · have := ltE_iff.1 ((List.pairwise_cons.1 hp).1 y hy)
        omega
    unfold selE
    simp only [Bool.and_eq_true, decide_eq_true_eq]
    omega
  unfold keyF
  conv => lhs; rw [← List.take_append_drop i l]
  rw [List.filter_append, h1, List.append_nil]
theorem keyF_some {l : List Ep} {o t : Int} {x : Ep} (h : keyF l o t = some x) : x ∈ l ∧ x.O = o ∧ x.F ≤ t := by
  unfold keyF at h
  have h1 := List.mem_of_getLast? h
  rw [List.mem_filter] at h1
  unfold selE at h1
  simpa using h1
def keyV (l : List Ep) (o t : Int) : Int := match keyF l o t with | some x => x.K | none => 0
def keyB (l : List Ep) (o t : Int) : Bool := (keyF l o t).isSome
def keyE (l : List Ep) (o t : Int) : Int := if epChk l ≠ 0 then epChk l else if o < 0 ∨ t < 0 ∨ 24 ≤ o ∨ 2097152 ≤ t then 1 else 0
/-- what Key answers -/
def keyR (l : List Ep) (o t : Int) : Int × Bool × Int := if keyE l o t ≠ 0 then (0, false, keyE l o t) else (keyV l o t, keyB l o t, 0)
theorem vd_pos {x : Int} (h : vd x = true) : 0 < x := by
  unfold vd at h
  simp only [Bool.and_eq_true, decide_eq_true_eq] at h
  exact h.1.1
/-- a key that is there is not 0 -/
theorem keyB_iff {l : List Ep} {o t : Int} (h : epChk l = 0) : keyB l o t = decide (keyV l o t ≠ 0) := by
  unfold keyB keyV
  cases hk : keyF l o t with
  | none => rfl
  | some x =>
    have h1 := (epChk_zero.1 h).2.1 x (keyF_some hk).1
    unfold epOk at h1
    simp only [Bool.and_eq_true] at h1
    have := vd_pos h1.2.2.2.2.2
    show true = decide (x.K ≠ 0)
    rw [decide_eq_true (show x.K ≠ 0 by omega)]

/-! ## cases -/
structure Cas where
  L : Int
  A : Int
  R : Int
  P : Int
  W1 : Int
  W2 : Int
  W3 : Int
  T : Int
  F : List (List Int)
  K : List Int
def lfC (c : Cas) (D : Bytes) : List Lf := [.i c.L, .i c.A, .i c.R, .i c.P, .i c.W1, .i c.W2, .i c.W3, .t D]
def tCase : Bytes := [99, 97, 115, 101]
/-- Digest -/
def caseD (c : Cas) : Bytes := tagged tCase (encL (lfC c (rootB (c.F.map txL))))
def betw (n m : Int) : Bool := decide (0 ≤ n) && decide (n < m)
theorem betw_iff {n m : Int} : betw n m = true ↔ 0 ≤ n ∧ n < m := by unfold betw; simp
def offB (off : List Int) : Bool := decide (∀ x ∈ off, betw x 24 = true) && decide off.Nodup
theorem offB_iff {off : List Int} : offB off = true ↔ (∀ x ∈ off, betw x 24 = true) ∧ off.Nodup := by unfold offB; simp
/-- is a case in form? -/
def formB (off : List Int) (c : Cas) : Bool := decide (2 ≤ off.length ∧ off.length ≤ 9 ∧ c.K.length = off.length) && (offB off && ((betw c.A c.R && (decide (c.R < 2097152) && betw c.T 2097152)) && (betw c.L 64 && (decide (c.F.length ≤ 64) && betw c.P c.F.length))))
theorem formB_iff {off : List Int} {c : Cas} : formB off c = true ↔ (2 ≤ off.length ∧ off.length ≤ 9 ∧ c.K.length = off.length) ∧ ((∀ x ∈ off, betw x 24 = true) ∧ off.Nodup) ∧ (betw c.A c.R = true ∧ c.R < 2097152 ∧ betw c.T 2097152 = true) ∧ betw c.L 64 = true ∧ c.F.length ≤ 64 ∧ betw c.P c.F.length = true := by
  unfold formB
  rw [Bool.and_eq_true, Bool.and_eq_true, offB_iff, decide_eq_true_eq]
  simp only [Bool.and_eq_true, decide_eq_true_eq]
def holdB (l : List Ep) (o t k : Int) : Bool := (keyR l o t).2.1 && (decide ((keyR l o t).2.2 = 0) && decide ((keyR l o t).1 = k))
/-- the keys hold, for the first offices -/
def keysB (l : List Ep) (off : List Int) (K : List Int) (a now : Int) (i : Nat) : Prop := ∀ j, j < i → holdB l (off.getD j 0) a (K.getD j 0) = true ∧ holdB l (off.getD j 0) now (K.getD j 0) = true
instance (l : List Ep) (off : List Int) (K : List Int) (a now : Int) (i : Nat) : Decidable (keysB l off K a now i) := by unfold keysB; infer_instance
theorem keysB_zero (l : List Ep) (off K : List Int) (a now : Int) : keysB l off K a now 0 := fun j hj => by omega
theorem keysB_succ {l : List Ep} {off K : List Int} {a now : Int} {i : Nat} : keysB l off K a now (i + 1) ↔ keysB l off K a now i ∧ holdB l (off.getD i 0) a (K.getD i 0) = true ∧ holdB l (off.getD i 0) now (K.getD i 0) = true := by
  constructor
  · intro h
    exact ⟨fun j hj => h j (by omega), h i (by omega)⟩
  · rintro ⟨h1, h2⟩ j hj
    rcases Nat.lt_or_ge j i with h | h
    · exact h1 j h
    · obtain rfl : j = i := by omega
      exact h2
/-- is a case timely? -/
def timeB (l : List Ep) (off : List Int) (c : Cas) (now term : Int) : Bool := decide (keysB l off c.K c.A now off.length) && (decide (c.T ≤ now) && decide (now - c.T ≤ term))
def argB (past : List Bytes) (now term : Int) : Bool := betw now 2097152 && (betw term 2097152 && (usedB past && decide (past.length ≤ 256)))
/-- Admit -/
def admE (l : List Ep) (off : List Int) (past : List Bytes) (c : Cas) (now term : Int) : Int :=
  if epChk l ≠ 0 then epChk l else if argB past now term = false then 1 else if formB off c = false then 560 else if hasB past (caseD c) = true then 181 else if timeB l off c now term = false then 570 else if 256 ≤ past.length then 2 else 0
def admL (l : List Ep) (off : List Int) (past : List Bytes) (c : Cas) (now term : Int) : List Bytes := if admE l off past c now term = 0 then putB past (caseD c) else []
theorem admE_zero {l : List Ep} {off : List Int} {past : List Bytes} {c : Cas} {now term : Int} : admE l off past c now term = 0 ↔ epChk l = 0 ∧ argB past now term = true ∧ formB off c = true ∧ hasB past (caseD c) = false ∧ timeB l off c now term = true ∧ past.length < 256 := by
  unfold admE
  by_cases h1 : epChk l = 0
  · rw [if_neg (by simp [h1])]
    cases h2 : argB past now term with
    | false => simp
    | true =>
      rw [if_neg (by simp)]
      cases h3 : formB off c with
      | false => simp
      | true =>
        rw [if_neg (by simp)]
        cases h4 : hasB past (caseD c) with
        | true => simp
        | false =>
          rw [if_neg (by simp)]
          cases h5 : timeB l off c now term with
          | false => simp
          | true =>
            rw [if_neg (by simp)]
            by_cases h6 : 256 ≤ past.length
            · rw [if_pos h6]; simp; omega
            · rw [if_neg h6]; simp [h1]; omega
  · rw [if_pos h1]
    simp [h1]
end Frk
