/- Law 45, plain: kept letters. -/
import Derived.Test.YtemoomfnmiodeaaDoorVogKit
import Derived.Test.YtemoomfnmiodeaaDoorVoOuk
namespace Frk
open Go Go.RowKit Go.Proofs
set_option maxRecDepth 100000

structure Ltr where
  N : Int
  U : Int
  L : Int
  K : Int
  P : Int
  Q : Int
  T : Bytes
deriving DecidableEq

def Ltr.C (x : Ltr) : List Value := [.int .i64 x.N, .int .i64 x.U] ++ retC x.L x.K x.P x.Q x.T
structure Ltr.ok (x : Ltr) : Prop where
  n : I64 x.N
  u : I64 x.U
  l : I64 x.L
  k : I64 x.K
  p : I64 x.P
  q : I64 x.Q
  t32 : x.T.length = 32
theorem Ltr.C_len {x : Ltr} (h : x.T.length = 32) : x.C.length = 38 := by
  unfold Ltr.C
  rw [List.length_append, retC_len h]
  rfl
theorem Ltr.C_one (x : Ltr) : ∀ v ∈ x.C, v.oneCell' = true := by
  intro v hv
  unfold Ltr.C at hv
  rcases List.mem_append.1 hv with h | h
  · simp only [List.mem_cons, List.not_mem_nil, or_false] at h
    rcases h with rfl | rfl <;> rfl
  · exact retC_one _ _ _ _ _ v h
def okK (x : Ltr) : Bool := decide (0 ≤ x.N) && (decide (0 ≤ x.U) && (decide (x.N ≤ 1048576) && (decide (x.U < 2097152) && chkB x.L x.K x.P x.Q x.T)))
def goodL (l : List Ltr) : Bool := l.all okK && risB Ltr.N l
def chkL (l : List Ltr) : Int := if 1024 < l.length then 2 else if goodL l then 0 else 450
theorem goodL_iff {l : List Ltr} : goodL l = true ↔ (∀ x ∈ l, okK x = true) ∧ RisK Ltr.N l := by
  unfold goodL
  rw [Bool.and_eq_true, List.all_eq_true, risB_iff]
theorem chkL_zero {l : List Ltr} : chkL l = 0 ↔ l.length ≤ 1024 ∧ (∀ x ∈ l, okK x = true) ∧ RisK Ltr.N l := by
  rw [← goodL_iff]
  unfold chkL
  split
  · constructor
    · intro h; cases h
    · rintro ⟨h, _⟩; omega
  · split
    · exact ⟨fun _ => ⟨by omega, by assumption⟩, fun _ => rfl⟩
    · constructor
      · intro h; cases h
      · rintro ⟨_, h⟩; exact absurd h (by assumption)
theorem chkL_nil : chkL [] = 0 := chkL_zero.2 ⟨by decide, by simp, List.Pairwise.nil⟩
theorem chkL_sub {l m : List Ltr} (h : m.Sublist l) (hc : chkL l = 0) : chkL m = 0 := by
  obtain ⟨h1, h2, h3⟩ := chkL_zero.1 hc
  exact chkL_zero.2 ⟨Nat.le_trans h.length_le h1, fun x hx => h2 x (h.subset hx), List.Pairwise.sublist h h3⟩

/-! ## Keep -/
def keepE (l : List Ltr) (k : Ltr) : Int := if chkL l ≠ 0 then chkL l else if okK k = false then 450 else if hasK Ltr.N l k.N then 181 else if l.length = 1024 then 2 else 0
def keepL (l : List Ltr) (k : Ltr) : List Ltr := if keepE l k = 0 then insK Ltr.N l k else []
theorem keepE_zero {l : List Ltr} {k : Ltr} : keepE l k = 0 ↔ chkL l = 0 ∧ okK k = true ∧ hasK Ltr.N l k.N = false ∧ l.length ≠ 1024 := by
  unfold keepE
  by_cases h1 : chkL l = 0
  · rw [if_neg (by simp [h1])]
    cases h2 : okK k with
    | false => simp
    | true =>
      rw [if_neg (by simp)]
      cases h3 : hasK Ltr.N l k.N with
      | true => simp
      | false =>
        rw [if_neg (by simp)]
        by_cases h4 : l.length = 1024
        · simp [h4]
        · simp [h1, h4]
  · rw [if_pos h1]
    simp [h1]
theorem keep_chk {l : List Ltr} {k : Ltr} (h : keepE l k = 0) : keepL l k = insK Ltr.N l k ∧ chkL (keepL l k) = 0 := by
  have e : keepL l k = insK Ltr.N l k := by unfold keepL; rw [if_pos h]
  obtain ⟨h1, h2, h3, h4⟩ := keepE_zero.1 h
  obtain ⟨c1, c2, c3⟩ := chkL_zero.1 h1
  refine ⟨e, ?_⟩
  rw [e]
  refine chkL_zero.2 ⟨by rw [insK_len]; omega, fun x hx => ?_, insK_ris c3 h3⟩
  rcases mem_insK.1 hx with rfl | hx
  · exact h2
  · exact c2 x hx
/-- the reference's: what is less, the letter, what is greater -/
theorem insK_parts {l : List Ltr} (hr : RisK Ltr.N l) {k : Ltr} (_hn : hasK Ltr.N l k.N = false) : l.filter (fun x => decide (x.N < k.N)) ++ k :: l.filter (fun x => !decide (x.N < k.N)) = insK Ltr.N l k := by
  have hlt : ∀ i x, l[i]? = some x → (x.N < k.N ↔ i < atK Ltr.N l k.N) := fun i x hx => by
    constructor
    · intro h
      rcases Nat.lt_or_ge i (atK Ltr.N l k.N) with h1 | h1
      · exact h1
      · have hi := (List.getElem?_eq_some_iff.1 hx).1
        have h0 := List.getElem?_eq_getElem (show atK Ltr.N l k.N < l.length by omega)
        have h2 := atK_not h0
        rcases Nat.lt_or_ge (atK Ltr.N l k.N) i with h3 | h3
        · have := hr.lt h3 h0 hx; omega
        · have e : atK Ltr.N l k.N = i := by omega
          have h4 : ¬ x.N < k.N := atK_not (key := Ltr.N) (l := l) (n := k.N) (x := x) (by rw [e]; exact hx)
          exact absurd h h4
    · intro h
      exact atK_low h hx
  unfold insK
  congr 1
  · rw [← List.take_append_drop (atK Ltr.N l k.N) l, List.filter_append, List.take_append_drop]
    rw [List.filter_eq_self.2, List.filter_eq_nil_iff.2, List.append_nil]
    · intro x hx
      obtain ⟨i, hi⟩ := List.mem_iff_getElem?.1 hx
      rw [List.getElem?_drop] at hi
      have := hlt _ _ hi
      simp only [decide_eq_true_eq]
      omega
    · intro x hx
      obtain ⟨i, hi⟩ := List.mem_iff_getElem?.1 hx
      rw [List.getElem?_take] at hi
      split at hi
      · simp only [decide_eq_true_eq]
        exact (hlt _ _ hi).2 (by assumption)
      · cases hi
  · congr 1
    rw [← List.take_append_drop (atK Ltr.N l k.N) l, List.filter_append, List.take_append_drop]
    rw [List.filter_eq_nil_iff.2, List.filter_eq_self.2, List.nil_append]
    · intro x hx
      obtain ⟨i, hi⟩ := List.mem_iff_getElem?.1 hx
      rw [List.getElem?_drop] at hi
      have := hlt _ _ hi
      simp only [Bool.not_eq_true', decide_eq_false_iff_not]
      omega
    · intro x hx
      obtain ⟨i, hi⟩ := List.mem_iff_getElem?.1 hx
      rw [List.getElem?_take] at hi
      split at hi
      · have := (hlt _ _ hi).2 (by assumption)
        simp [this]
      · cases hi

/-! ## Send -/
def outK (l : List Ltr) (n : Int) : List Ltr := l.filter (fun x => !decide (x.N = n))
theorem outK_at {l : List Ltr} (hr : RisK Ltr.N l) {i : Nat} {x : Ltr} (hx : l[i]? = some x) : outK l x.N = l.take i ++ l.drop (i + 1) := by
  have hi := (List.getElem?_eq_some_iff.1 hx).1
  have ne : ∀ j y, l[j]? = some y → j ≠ i → y.N ≠ x.N := fun j y hy hne => by
    rcases Nat.lt_or_gt_of_ne hne with h | h
    · have := hr.lt h hy hx; omega
    · have := hr.lt h hx hy; omega
  unfold outK
  conv => lhs; rw [← List.take_append_drop i l, List.drop_eq_getElem_cons hi]
  rw [List.filter_append, List.filter_cons_of_neg (by have e := (List.getElem?_eq_some_iff.1 hx).2; simp [e])]
  congr 1
  · refine List.filter_eq_self.2 fun y hy => ?_
    obtain ⟨j, hj⟩ := List.mem_iff_getElem?.1 hy
    rw [List.getElem?_take] at hj
    split at hj
    · have := ne j y hj (by omega)
      simp [this]
    · cases hj
  · refine List.filter_eq_self.2 fun y hy => ?_
    obtain ⟨j, hj⟩ := List.mem_iff_getElem?.1 hy
    rw [List.getElem?_drop] at hj
    have := ne _ y hj (by omega)
    simp [this]
def fndK (l : List Ltr) (n : Int) : Option Ltr := l.find? (fun x => decide (x.N = n))
theorem fndK_some {l : List Ltr} {n : Int} {x : Ltr} (h : fndK l n = some x) : x ∈ l ∧ x.N = n := by
  unfold fndK at h
  exact ⟨List.mem_of_find?_eq_some h, by simpa using List.find?_some h⟩
theorem fndK_none {l : List Ltr} {n : Int} : fndK l n = none ↔ hasK Ltr.N l n = false := by
  unfold fndK
  rw [List.find?_eq_none, hasK_not]
  simp
abbrev Z6 := Int × Int × Int × Int × Int × Int
def sendF (l : List Ltr) (n a b r0 r1 r2 : Int) : List Ltr × Z6 × Int :=
  if chkL l ≠ 0 then ([], (0, 0, 0, 0, 0, 0), chkL l) else
  match fndK l n with
  | none => ([], (0, 0, 0, 0, 0, 0), 1)
  | some x =>
    match useF (chkB x.L x.K x.P x.Q x.T) x.K x.P x.Q a b r0 r1 r2 with
    | (c0, d0, c1, d1, c2, d2, e) => if e ≠ 0 then ([], (0, 0, 0, 0, 0, 0), e) else (outK l n, (c0, d0, c1, d1, c2, d2), 0)

/-! ## Burn -/
def stayK (l : List Ltr) (t : Int) : List Ltr := l.filter (fun x => !decide (x.U ≤ t))
def goneK (l : List Ltr) (t : Int) : List Int := (l.filter (fun x => decide (x.U ≤ t))).map Ltr.N
def burnE (l : List Ltr) (t : Int) : Int := if chkL l ≠ 0 then chkL l else if t < 0 ∨ 2097152 ≤ t then 1 else 0
theorem burnE_zero {l : List Ltr} {t : Int} : burnE l t = 0 ↔ chkL l = 0 ∧ 0 ≤ t ∧ t < 2097152 := by
  unfold burnE
  by_cases h1 : chkL l = 0
  · rw [if_neg (by simp [h1])]
    split
    · constructor
      · intro h; cases h
      · rintro ⟨_, _, _⟩; omega
    · exact ⟨fun _ => ⟨h1, by omega, by omega⟩, fun _ => rfl⟩
  · rw [if_pos h1]
    exact ⟨fun h => absurd h h1, fun h => absurd h.1 h1⟩
theorem stay_chk {l : List Ltr} (t : Int) (h : chkL l = 0) : chkL (stayK l t) = 0 := chkL_sub List.filter_sublist h
theorem stay_stay (l : List Ltr) {t u : Int} (h : t ≤ u) : stayK (stayK l t) u = stayK l u := by
  unfold stayK
  rw [List.filter_filter]
  refine List.filter_congr fun x _ => ?_
  by_cases h1 : x.U ≤ u
  · simp [h1]
  · have h2 : ¬ x.U ≤ t := by omega
    simp [h1, h2]
theorem stay_gone (l : List Ltr) (t : Int) : (stayK l t).length + (goneK l t).length = l.length := by
  unfold stayK goneK
  rw [List.length_map]
  have := filter_len (fun x : Ltr => decide (x.U ≤ t)) l
  omega
theorem stay_take_succ {l : List Ltr} {i : Nat} {x : Ltr} (hx : l[i]? = some x) (t : Int) : stayK (l.take (i + 1)) t = if x.U ≤ t then stayK (l.take i) t else stayK (l.take i) t ++ [x] := by
  unfold stayK
  rw [List.take_add_one, hx, List.filter_append]
  split
  · simp [*]
  · simp [*]
theorem gone_take_succ {l : List Ltr} {i : Nat} {x : Ltr} (hx : l[i]? = some x) (t : Int) : goneK (l.take (i + 1)) t = if x.U ≤ t then goneK (l.take i) t ++ [x.N] else goneK (l.take i) t := by
  unfold goneK
  rw [List.take_add_one, hx, List.filter_append, List.map_append]
  split
  · simp [*]
  · simp [*]
/-! ## letters kept one after the other -/
def colF : List Ltr → List Ltr → Option (List Ltr)
  | x, [] => some x
  | x, k :: r => if keepE x k = 0 then colF (keepL x k) r else none
theorem insK_perm {α : Type} (key : α → Int) (l : List α) (a : α) : (insK key l a).Perm (a :: l) := by
  unfold insK
  refine List.perm_middle.trans ?_
  rw [List.take_append_drop]
theorem col_iff : ∀ (r x y : List Ltr), chkL x = 0 → x.length + r.length ≤ 1024 →
    (colF x r = some y ↔ (∀ k ∈ r, okK k = true) ∧ ((x ++ r).map Ltr.N).Nodup ∧ RisK Ltr.N y ∧ ∀ z, z ∈ y ↔ z ∈ x ∨ z ∈ r)
  | [], x, y, hc, hl => by
    obtain ⟨c1, c2, c3⟩ := chkL_zero.1 hc
    unfold colF
    constructor
    · intro h
      cases h
      refine ⟨by simp, ?_, c3, by simp⟩
      rw [List.append_nil, List.nodup_iff_pairwise_ne, List.pairwise_map]
      exact c3.imp fun h e => by omega
    · rintro ⟨_, _, h3, h4⟩
      rw [risK_ext c3 h3 fun z => by rw [h4]; simp]
  | k :: r, x, y, hc, hl => by
    obtain ⟨c1, c2, c3⟩ := chkL_zero.1 hc
    rw [List.length_cons] at hl
    unfold colF
    by_cases hk : keepE x k = 0
    · rw [if_pos hk]
      obtain ⟨e, hc'⟩ := keep_chk hk
      obtain ⟨_, h2, h3, _⟩ := keepE_zero.1 hk
      have ih := col_iff r (keepL x k) y hc' (by rw [e, insK_len]; omega)
      rw [ih, e]
      have hp : ((insK Ltr.N x k ++ r).map Ltr.N).Nodup ↔ ((x ++ k :: r).map Ltr.N).Nodup := by
        have p1 : (insK Ltr.N x k ++ r).Perm (x ++ k :: r) := ((insK_perm Ltr.N x k).append_right r).trans (List.perm_middle (l₁ := x) (l₂ := r) (a := k)).symm
        exact (p1.map Ltr.N).nodup_iff
      have hm : ∀ z, (z ∈ insK Ltr.N x k ∨ z ∈ r) ↔ (z ∈ x ∨ z ∈ k :: r) := fun z => by
        rw [mem_insK, List.mem_cons]
        constructor
        · rintro ((h | h) | h)
          · exact .inr (.inl h)
          · exact .inl h
          · exact .inr (.inr h)
        · rintro (h | h | h)
          · exact .inl (.inr h)
          · exact .inl (.inl h)
          · exact .inr h
      constructor
      · rintro ⟨a1, a2, a3, a4⟩
        refine ⟨fun z hz => ?_, hp.1 a2, a3, fun z => (a4 z).trans (hm z)⟩
        rcases List.mem_cons.1 hz with rfl | hz
        · exact h2
        · exact a1 z hz
      · rintro ⟨a1, a2, a3, a4⟩
        exact ⟨fun z hz => a1 z (List.mem_cons_of_mem _ hz), hp.2 a2, a3, fun z => (a4 z).trans (hm z).symm⟩
    · rw [if_neg hk]
      constructor
      · intro h; cases h
      · rintro ⟨a1, a2, _, _⟩
        refine absurd (keepE_zero.2 ⟨hc, a1 k List.mem_cons_self, ?_, by omega⟩) hk
        refine hasK_not.2 fun z hz e => ?_
        rw [List.map_append, List.nodup_append] at a2
        exact a2.2.2 z.N (List.mem_map.2 ⟨z, hz, rfl⟩) k.N (by simp) e
/-- the order does not matter -/
theorem col_perm {l m : List Ltr} (hp : l.Perm m) (hl : l.length ≤ 1024) : colF [] l = colF [] m := by
  have hm := hp.length_eq
  have key : ∀ {a b : List Ltr}, a.Perm b → a.length ≤ 1024 → b.length ≤ 1024 → ∀ y, colF [] a = some y → colF [] b = some y := fun {a b} hp ha hb y h => by
    obtain ⟨h1, h2, h3, h4⟩ := (col_iff a [] y chkL_nil (by simpa using ha)).1 h
    refine (col_iff b [] y chkL_nil (by simpa using hb)).2 ⟨fun k hk => h1 k (hp.mem_iff.2 hk), ?_, h3, fun z => ?_⟩
    · rw [List.nil_append] at h2 ⊢
      exact (hp.map Ltr.N).nodup_iff.1 h2
    · rw [h4, hp.mem_iff]
  cases h : colF [] l with
  | some y => exact (key hp hl (by omega) y h).symm
  | none =>
    cases h2 : colF [] m with
    | none => rfl
    | some y => rw [key hp.symm (by omega) hl y h2] at h; cases h
theorem col_chk {l y : List Ltr} (hl : l.length ≤ 1024) (h : colF [] l = some y) : chkL y = 0 ∧ y.length = l.length := by
  obtain ⟨h1, h2, h3, h4⟩ := (col_iff l [] y chkL_nil (by simpa using hl)).1 h
  rw [List.nil_append] at h2
  have e : y.length = l.length := by
    have n1 : (y.map Ltr.N).Nodup := by
      rw [List.nodup_iff_pairwise_ne, List.pairwise_map]
      exact h3.imp fun h e => by omega
    have nd : ∀ {a : List Ltr}, (a.map Ltr.N).Nodup → a.Nodup := fun {a} h => by
      rw [List.nodup_iff_pairwise_ne, List.pairwise_map] at h
      exact h.imp fun h e => h (by rw [e])
    have p : y.Perm l := (List.perm_ext_iff_of_nodup (nd n1) (nd h2)).2 fun z => by rw [h4]; simp
    exact p.length_eq
  exact ⟨chkL_zero.2 ⟨by omega, fun x hx => h1 x (by have := (h4 x).1 hx; simpa using this), h3⟩, e⟩
theorem swap_perm {α : Type} {t : List α} {j k : Nat} {x y : α} (hx : t[j]? = some x) (hy : t[k]? = some y) : ((t.set j y).set k x).Perm t := by
  obtain ⟨hj, ex⟩ := List.getElem?_eq_some_iff.1 hx
  obtain ⟨hk, ey⟩ := List.getElem?_eq_some_iff.1 hy
  rw [← ex, ← ey]
  exact List.set_set_perm hj hk
end Frk
