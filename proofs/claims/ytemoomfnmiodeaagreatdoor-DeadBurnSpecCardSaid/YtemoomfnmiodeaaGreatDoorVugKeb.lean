/- Parts of the proof, joined. -/
import Derived.Test.YtemoomfnmiodeaaGreatDoorVugKit
import Derived.Test.YtemoomfnmiodeaaGreatDoorVuOuk
import Derived.Test.YtemoomfnmiodeaaGreatDoorVugElm
import Derived.Deep.Cut
/- Law 45, plain: kept letters. -/
namespace Frk
open Go Go.RowKit Go.Proofs
set_option maxRecDepth 100000

structure Ltr where
  N : Int
  U : Int
  L : Int
  K : Int
  P : Int
  Q : Int
  T : Bytes
deriving DecidableEq

def Ltr.C (x : Ltr) : List Value := [.int .i64 x.N, .int .i64 x.U] ++ retC x.L x.K x.P x.Q x.T
structure Ltr.ok (x : Ltr) : Prop where
  n : I64 x.N
  u : I64 x.U
  l : I64 x.L
  k : I64 x.K
  p : I64 x.P
  q : I64 x.Q
  t32 : x.T.length = 32
theorem Ltr.C_len {x : Ltr} (h : x.T.length = 32) : x.C.length = 38 := by
  unfold Ltr.C
  rw [List.length_append, retC_len h]
  rfl
theorem Ltr.C_one (x : Ltr) : ∀ v ∈ x.C, v.oneCell' = true := by
  intro v hv
  unfold Ltr.C at hv
  rcases List.mem_append.1 hv with h | h
  · simp only [List.mem_cons, List.not_mem_nil, or_false] at h
    rcases h with rfl | rfl <;> rfl
  · exact retC_one _ _ _ _ _ v h
def okK (x : Ltr) : Bool := decide (0 ≤ x.N) && (decide (0 ≤ x.U) && (decide (x.N ≤ 1048576) && (decide (x.U < 2097152) && chkB x.L x.K x.P x.Q x.T)))
def goodL (l : List Ltr) : Bool := l.all okK && risB Ltr.N l
def chkL (l : List Ltr) : Int := if 1024 < l.length then 2 else if goodL l then 0 else 450
theorem goodL_iff {l : List Ltr} : goodL l = true ↔ (∀ x ∈ l, okK x = true) ∧ RisK Ltr.N l := by
  unfold goodL
  rw [Bool.and_eq_true, List.all_eq_true, risB_iff]
theorem chkL_zero {l : List Ltr} : chkL l = 0 ↔ l.length ≤ 1024 ∧ (∀ x ∈ l, okK x = true) ∧ RisK Ltr.N l := by
  rw [← goodL_iff]
  unfold chkL
  split
  · constructor
    · intro h; cases h
    · rintro ⟨h, _⟩; omega
  · split
    · exact ⟨fun _ => ⟨by omega, by assumption⟩, fun _ => rfl⟩
    · constructor
      · intro h; cases h
      · rintro ⟨_, h⟩; exact absurd h (by assumption)
theorem chkL_nil : chkL [] = 0 := chkL_zero.2 ⟨by decide, by simp, List.Pairwise.nil⟩
/-! ## Keep -/
def keepE (l : List Ltr) (k : Ltr) : Int := if chkL l ≠ 0 then chkL l else if okK k = false then 450 else if hasK Ltr.N l k.N then 181 else if l.length = 1024 then 2 else 0
def keepL (l : List Ltr) (k : Ltr) : List Ltr := if keepE l k = 0 then insK Ltr.N l k else []
theorem keepE_zero {l : List Ltr} {k : Ltr} : keepE l k = 0 ↔ chkL l = 0 ∧ okK k = true ∧ hasK Ltr.N l k.N = false ∧ l.length ≠ 1024 := by
  unfold keepE
  by_cases h1 : chkL l = 0
  · rw [if_neg (by simp [h1])]
    cases h2 : okK k with
    | false => simp
    | true =>
      rw [if_neg (by simp)]
      cases h3 : hasK Ltr.N l k.N with
      | true => simp
      | false =>
        rw [if_neg (by simp)]
        by_cases h4 : l.length = 1024
        · simp [h4]
        · simp [h1, h4]
  · rw [if_pos h1]
    simp [h1]
/-- the reference's: what is less, the letter, what is greater -/
theorem insK_parts {l : List Ltr} (hr : RisK Ltr.N l) {k : Ltr} (_hn : hasK Ltr.N l k.N = false) : l.filter (fun x => decide (x.N < k.N)) ++ k :: l.filter (fun x => !decide (x.N < k.N)) = insK Ltr.N l k := by
  have hlt : ∀ i x, l[i]? = some x → (x.N < k.N ↔ i < atK Ltr.N l k.N) := fun i x hx => by
    constructor
    · intro h
      rcases Nat.lt_or_ge i (atK Ltr.N l k.N) with h1 | h1
      · exact h1
      · have hi := (List.getElem?_eq_some_iff.1 hx).1
        have h0 := List.getElem?_eq_getElem (show atK Ltr.N l k.N < l.length by omega)
        have h2 := atK_not h0
        rcases Nat.lt_or_ge (atK Ltr.N l k.N) i with h3 | h3
        · have := hr.lt h3 h0 hx; omega
        · have e : atK Ltr.N l k.N = i := by omega
          have h4 : ¬ x.N < k.N := atK_not (key := Ltr.N) (l := l) (n := k.N) (x := x) (by rw [e]; exact hx)
          exact absurd h h4
    · intro h
      exact atK_low h hx
  unfold insK
  congr 1
  · rw [← List.take_append_drop (atK Ltr.N l k.N) l, List.filter_append, List.take_append_drop]
    rw [List.filter_eq_self.2, List.filter_eq_nil_iff.2, List.append_nil]
    · intro x hx
      obtain ⟨i, hi⟩ := List.mem_iff_getElem?.1 hx
      rw [List.getElem?_drop] at hi
      have := hlt _ _ hi
      simp only [decide_eq_true_eq]
      omega
    · intro x hx
      obtain ⟨i, hi⟩ := List.mem_iff_getElem?.1 hx
      rw [List.getElem?_take] at hi
      split at hi
      · simp only [decide_eq_true_eq]
        exact (hlt _ _ hi).2 (by assumption)
      · cases hi
  · congr 1
    rw [← List.take_append_drop (atK Ltr.N l k.N) l, List.filter_append, List.take_append_drop]
    rw [List.filter_eq_nil_iff.2, List.filter_eq_self.2, List.nil_append]
    · intro x hx
      obtain ⟨i, hi⟩ := List.mem_iff_getElem?.1 hx
      rw [List.getElem?_drop] at hi
      have := hlt _ _ hi
      simp only [Bool.not_eq_true', decide_eq_false_iff_not]
      omega
    · intro x hx
      obtain ⟨i, hi⟩ := List.mem_iff_getElem?.1 hx
      rw [List.getElem?_take] at hi
      split at hi
      · have := (hlt _ _ hi).2 (by assumption)
        simp [this]
      · cases hi

/-! ## Send -/
def outK (l : List Ltr) (n : Int) : List Ltr := l.filter (fun x => !decide (x.N = n))
theorem outK_at {l : List Ltr} (hr : RisK Ltr.N l) {i : Nat} {x : Ltr} (hx : l[i]? = some x) : outK l x.N = l.take i ++ l.drop (i + 1) := by
  have hi := (List.getElem?_eq_some_iff.1 hx).1
  have ne : ∀ j y, l[j]? = some y → j ≠ i → y.N ≠ x.N := fun j y hy hne => by
    rcases Nat.lt_or_gt_of_ne hne with h | h
    · have := hr.lt h hy hx; omega
    · have := hr.lt h hx hy; omega
  unfold outK
  conv => lhs; rw [← List.take_append_drop i l, List.drop_eq_getElem_cons hi]
  rw [List.filter_append, List.filter_cons_of_neg (by have e := (List.getElem?_eq_some_iff.1 hx).2; simp [e])]
  congr 1
  · refine List.filter_eq_self.2 fun y hy => ?_
    obtain ⟨j, hj⟩ := List.mem_iff_getElem?.1 hy
    rw [List.getElem?_take] at hj
    split at hj
    · have := ne j y hj (by omega)
      simp [this]
    · cases hj
  · refine List.filter_eq_self.2 fun y hy => ?_
    obtain ⟨j, hj⟩ := List.mem_iff_getElem?.1 hy
    rw [List.getElem?_drop] at hj
    have := ne _ y hj (by omega)
    simp [this]
def fndK (l : List Ltr) (n : Int) : Option Ltr := l.find? (fun x => decide (x.N = n))
theorem fndK_some {l : List Ltr} {n : Int} {x : Ltr} (h : fndK l n = some x) : x ∈ l ∧ x.N = n := by
  unfold fndK at h
  exact ⟨List.mem_of_find?_eq_some h, by simpa using List.find?_some h⟩
theorem fndK_none {l : List Ltr} {n : Int} : fndK l n = none ↔ hasK Ltr.N l n = false := by
  unfold fndK
  rw [List.find?_eq_none, hasK_not]
  simp
abbrev Z6 := Int × Int × Int × Int × Int × Int
def sendF (l : List Ltr) (n a b r0 r1 r2 : Int) : List Ltr × Z6 × Int :=
  if chkL l ≠ 0 then ([], (0, 0, 0, 0, 0, 0), chkL l) else
  match fndK l n with
  | none => ([], (0, 0, 0, 0, 0, 0), 1)
  | some x =>
    match useF (chkB x.L x.K x.P x.Q x.T) x.K x.P x.Q a b r0 r1 r2 with
    | (c0, d0, c1, d1, c2, d2, e) => if e ≠ 0 then ([], (0, 0, 0, 0, 0, 0), e) else (outK l n, (c0, d0, c1, d1, c2, d2), 0)

/-! ## Burn -/
def stayK (l : List Ltr) (t : Int) : List Ltr := l.filter (fun x => !decide (x.U ≤ t))
def goneK (l : List Ltr) (t : Int) : List Int := (l.filter (fun x => decide (x.U ≤ t))).map Ltr.N
def burnE (l : List Ltr) (t : Int) : Int := if chkL l ≠ 0 then chkL l else if t < 0 ∨ 2097152 ≤ t then 1 else 0
theorem burnE_zero {l : List Ltr} {t : Int} : burnE l t = 0 ↔ chkL l = 0 ∧ 0 ≤ t ∧ t < 2097152 := by
  unfold burnE
  by_cases h1 : chkL l = 0
  · rw [if_neg (by simp [h1])]
    split
    · constructor
      · intro h; cases h
      · rintro ⟨_, _, _⟩; omega
    · exact ⟨fun _ => ⟨h1, by omega, by omega⟩, fun _ => rfl⟩
  · rw [if_pos h1]
    exact ⟨fun h => absurd h h1, fun h => absurd h.1 h1⟩
theorem stay_gone (l : List Ltr) (t : Int) : (stayK l t).length + (goneK l t).length = l.length := by
  unfold stayK goneK
  rw [List.length_map]
  have := filter_len (fun x : Ltr => decide (x.U ≤ t)) l
  omega
theorem stay_take_succ {l : List Ltr} {i : Nat} {x : Ltr} (hx : l[i]? = some x) (t : Int) : stayK (l.take (i + 1)) t = if x.U ≤ t then stayK (l.take i) t else stayK (l.take i) t ++ [x] := by
  unfold stayK
  rw [List.take_add_one, hx, List.filter_append]
  split
  · simp [*]
  · simp [*]
theorem gone_take_succ {l : List Ltr} {i : Nat} {x : Ltr} (hx : l[i]? = some x) (t : Int) : goneK (l.take (i + 1)) t = if x.U ≤ t then goneK (l.take i) t ++ [x.N] else goneK (l.take i) t := by
  unfold goneK
  rw [List.take_add_one, hx, List.filter_append, List.map_append]
  split
  · simp [*]
  · simp [*]
/-! ## letters kept one after the other -/
def colF : List Ltr → List Ltr → Option (List Ltr)
  | x, [] => some x
  | x, k :: r => if keepE x k = 0 then colF (keepL x k) r else none
end Frk

/- Long loads under a guard. -/
namespace Frk
open Go Go.RowKit Go.Proofs
set_option maxRecDepth 100000

theorem wpList_wanted {P : Program} {ops : Array Oper} {rest : List Oper} {o : Oper} {a : Act} {w : World} {Q : Exit → Act → World → Prop} (hw : Region.wanted o (yielded ops a.tmps) = true)
    (h : ∀ K : Act → World → Prop, (∀ a w, wpList P ops Q rest a w → K a w) → o.wp P a w K Q) : wpList P ops Q (o :: rest) a w :=
  wpList_step fun K hK => by simp only [hw, if_true]; exact h K hK

/-- a long load out of the midst of a block under a guard that holds -/
theorem wpList_load_mid_g {P : Program} {ops : Array Oper} {rest : List Oper} {o : Oper} {a : Act} {w : World} {Q : Exit → Act → World → Prop} (hw : Region.wanted o (yielded ops a.tmps) = true) (ty : TypeId) (x : Operand) (ho : o.op = .load ty x)
    (b off : Nat) (hx : a.eval x = .pointer (some ⟨b, off, none⟩)) (cs : List Value) (d : TypeDesc) (hc : w.rangeAt b off cs)
    (hu : P.underlying ty = some d) (hd : d.isRow = true) (hi : (P.info? ty).map (·.size) = some cs.length)
    (h : wpList P ops Q rest (a.put o.dst (.agg cs.toArray)) w) : wpList P ops Q (o :: rest) a w :=
  wpList_wanted hw fun _ hK => wp_load_mid ty x ho b off hx cs d hc hu hd hi (hK _ _ h)
end Frk

/- Slices of rows of equal length, in general; law 44's postings. -/
namespace Frk
open Go Go.RowKit Go.Proofs
set_option maxRecDepth 100000

/-! ## a slice whose elements are told by their cells -/
section
variable {α : Type} (C : α → List Value) (z : Nat)

structure IsC (w : World) (a : Option Addr) (n c : Nat) (l : List α) : Prop where
  llen : l.length = n
  lcap : n ≤ c
  lmax : n ≤ 5000
  cmax : c ≤ 9223372036854775807
  each : ∀ x ∈ l, (C x).length = z
  at_ : n = 0 ∨ ∃ g o, a = some ⟨g, o, none⟩ ∧ w.rangeAt g o (l.flatMap C) ∧ g < w.heap.size
end
section
variable {α : Type} {C : α → List Value} {z : Nat}

theorem isC_flat_at : ∀ {l : List α} {i : Nat} {x : α} (_ : ∀ x ∈ l, (C x).length = z) (_ : l[i]? = some x) (j : Nat) (v : Value), (C x)[j]? = some v → (l.flatMap C)[i * z + j]? = some v
  | [], i, x, _, hx, _, _, _ => by simp at hx
  | y :: l, i, x, he, hx, j, v, hv => by
    rw [List.flatMap_cons]
    cases i with
    | zero =>
      cases hx
      rw [Nat.zero_mul, Nat.zero_add, List.getElem?_append_left (List.getElem?_eq_some_iff.1 hv).1]
      exact hv
    | succ i =>
      have hy := he y List.mem_cons_self
      rw [List.getElem?_append_right (by rw [hy, Nat.succ_mul]; omega), hy, show (i + 1) * z + j - z = i * z + j from by rw [Nat.succ_mul]; omega]
      exact isC_flat_at (fun x hx => he x (List.mem_cons_of_mem _ hx)) (by simpa using hx) j v hv
theorem isC_flat_len : ∀ {l : List α} (_ : ∀ x ∈ l, (C x).length = z), (l.flatMap C).length = l.length * z
  | [], _ => by simp
  | y :: l, he => by
    rw [List.flatMap_cons, List.length_append, he y List.mem_cons_self, isC_flat_len fun x hx => he x (List.mem_cons_of_mem _ hx), List.length_cons, Nat.succ_mul]
    omega
theorem IsC.below {w w' : World} {a : Option Addr} {n c : Nat} {l : List α} (h : IsC C z w a n c l) (hb : Below w.heap.size w w') : IsC C z w' a n c l :=
  ⟨h.llen, h.lcap, h.lmax, h.cmax, h.each, by
    rcases h.at_ with h0 | ⟨g, o, e, hr, hg⟩
    · exact .inl h0
    · exact .inr ⟨g, o, e, rangeAt_below' hr hb, Nat.lt_of_lt_of_le hg hb.size⟩⟩
theorem rangeC_row {w : World} {g o : Nat} {l : List α} (hr : w.rangeAt g o (l.flatMap C)) (he : ∀ x ∈ l, (C x).length = z) {i : Nat} {x : α} (hx : l[i]? = some x) : w.rangeAt g (o + i * z) (C x) := fun j v hv => by
  have := hr (i * z + j) v (isC_flat_at he hx j v hv)
  rwa [show o + i * z + j = o + (i * z + j) from by omega]
/-- one's own, as a slice -/
theorem isC_own {w : World} {base : Nat} {e : TypeId} {v : Value} {n : Nat} {l : List α} (h : w.ownsRow base e z v n (l.flatMap C)) (he : ∀ x ∈ l, (C x).length = z) (hl : l.length = n) (hm : n ≤ 5000) : ∃ a c, v = .slice a n c ∧ IsC C z w a n c l := by
  rcases h.2 with ⟨rfl, rfl⟩ | ⟨g, cap, cur, rfl, _, hg, hc, hcm, hs, ht⟩
  · exact ⟨none, 0, rfl, hl, Nat.le_refl _, hm, by decide, he, .inl rfl⟩
  · refine ⟨some ⟨g, 0, none⟩, cap, rfl, hl, hc, hm, by unfold maxLen at hcm; omega, he, .inr ⟨g, 0, rfl, ?_, (Array.getElem?_eq_some_iff.1 hg).1⟩⟩
    intro j u hu
    rw [cell_of_row _ _ _ _ _ _ hg]
    rw [← ht, List.getElem?_take] at hu
    split at hu
    · simpa using hu
    · cases hu
end

/-! ## postings -/
def Po.C (p : Po) : List Value := .int .i64 p.o :: p.S.map B
structure Po.ok (p : Po) : Prop where
  s32 : p.S.length = 32
  io : I64 p.o
theorem Po.C_len {p : Po} (h : p.S.length = 32) : p.C.length = 33 := by simp [Po.C, h]
theorem Po.C_one (p : Po) : ∀ u ∈ p.C, u.oneCell' = true := by
  intro u hu
  rcases List.mem_cons.1 hu with e | e
  · rw [e]; rfl
  · obtain ⟨b, _, rfl⟩ := List.mem_map.1 e
    rfl
def intC (n : Int) : List Value := [.int .i64 n]
theorem intC_flat (l : List Int) : l.flatMap intC = l.map (Value.int .i64) := by
  induction l with
  | nil => rfl
  | cons x l ih => rw [List.flatMap_cons, ih]; rfl
abbrev IsPs (w : World) (a : Option Addr) (n c : Nat) (l : List Po) : Prop := IsC Po.C 33 w a n c l
abbrev IsIs (w : World) (a : Option Addr) (n c : Nat) (l : List Int) : Prop := IsC intC 1 w a n c l
end Frk

/- Law 45: dead.check, Check. -/
namespace Frk
open Go Go.RowKit Go.Proofs
set_option maxRecDepth 100000

theorem Ltr.info {x : Ltr} (h : x.T.length = 32) : (Tryz.prog.info? 30).map (·.size) = some x.C.length := by rw [Ltr.C_len h]; kernel_rfl

set_option maxHeartbeats 2000000 in
theorem kcheck_any (x : Ltr) (w : World) (hG : Glob w) (ok : x.ok) :
    Calls Tryz.prog 29 #[.agg x.C.toArray] w fun e w' => e = .returned (.bool (okK x)) ∧ Below w.heap.size w w' := by
  obtain ⟨X, hX⟩ : ∃ X : World, X = w.alloc (.cells x.C.toArray 30) := ⟨_, rfl⟩
  have HB : Seal (Below w.heap.size w X) := ⟨by rw [hX]; exact below_alloc _ _⟩
  have hr : X.rangeAt w.heap.size 0 x.C := rangeAt_row (by rw [hX]; exact heap_alloc_new w _)
  have c0 : X.cell? ⟨w.heap.size, 0, none⟩ = some (.int .i64 x.N) := by have := hr 0 (.int .i64 x.N) rfl; simpa using this
  have c1 : X.cell? ⟨w.heap.size, 1, none⟩ = some (.int .i64 x.U) := by have := hr 1 (.int .i64 x.U) rfl; simpa using this
  have r2 : X.rangeAt w.heap.size 2 (retC x.L x.K x.P x.Q x.T) := by
    have := rangeAt_drop hr 2
    simpa [Ltr.C] using this
  obtain ⟨t, ht⟩ : ∃ t, t = chkB x.L x.K x.P x.Q x.T := ⟨_, rfl⟩
  have HC : Seal (Calls Tryz.prog 44 #[.agg (retC x.L x.K x.P x.Q x.T).toArray] X fun e w' => e = .returned (.int .i64 (if t = true then 0 else 160)) ∧ Below X.heap.size X w') := ⟨ocheck_any x.L x.K x.P x.Q x.T t X (hG.below HB.out) ok.l ok.k ok.p ok.q ok.t32 ht.symm⟩
  have HK : Seal (okK x = (decide (0 ≤ x.N) && (decide (0 ≤ x.U) && (decide (x.N ≤ 1048576) && (decide (x.U < 2097152) && t))))) := ⟨by rw [ht]; rfl⟩
  obtain ⟨RC, hRC⟩ : ∃ C, C = retC x.L x.K x.P x.Q x.T := ⟨_, rfl⟩
  have iR : (Tryz.prog.info? 28).map (·.size) = some RC.length := by rw [hRC]; exact retC_info ok.t32
  have ut := Tryz.underlying28
  rw [← hRC] at r2 HC
  obtain ⟨C, hC⟩ : ∃ C, C = x.C := ⟨_, rfl⟩
  rw [← hC] at hX ⊢
  obtain ⟨b, hb⟩ : ∃ b, b = okK x := ⟨_, rfl⟩
  rw [← hb] at HK ⊢
  obtain ⟨n, hn⟩ : ∃ n, n = x.N := ⟨_, rfl⟩
  obtain ⟨u, hu⟩ : ∃ n, n = x.U := ⟨_, rfl⟩
  rw [← hn] at c0 HK
  rw [← hu] at c1 HK
  clear hr ht hRC hC hb hn hu ok hG
  go_enter Tryz.func29, Tryz.ntmps29
  go_upto_region 1 with (fail)
  rw [← hX]
  clear hX
  by_cases h1 : 0 ≤ min n u
  · have k1 : 0 ≤ n ∧ 0 ≤ u := by omega
    by_cases h2 : n ≤ 1048576
    · by_cases h3 : u < 2097152
      · have HK2 : Seal (b = t) := ⟨by rw [HK.out]; simp [k1, h2, h3]⟩
        clear HK k1
        go_wp2_with (refine wpList_load_mid_g (by kernel_rfl) 28 (.tmp 20) rfl w.heap.size 2 rfl RC _ r2 ut rfl iR ?_; (try simp only [Act.put, List.setIfInBounds_toArray, List.set_cons_zero, List.set_cons_succ]))
        all_goals
          refine HC.out.mono ?_
          rintro e w1 ⟨rfl, hb⟩
          have HB1 := Seal.mk (HB.out.trans (hb.mono HB.out.size))
          clear hb HC
          cases t with
          | true =>
            go_wp2
            all_goals
              go_ret
              exact ⟨ret_bool HK2.out.symm, HB1.out⟩
          | false =>
            go_wp2
            all_goals
              go_ret
              exact ⟨ret_bool HK2.out.symm, HB1.out⟩
      · have HK2 : Seal (b = false) := ⟨by rw [HK.out]; simp [h3]⟩
        clear HK k1
        go_wp2
        all_goals
          go_ret
          exact ⟨ret_bool HK2.out.symm, HB.out⟩
    · have HK2 : Seal (b = false) := ⟨by rw [HK.out]; simp [h2]⟩
      clear HK k1
      go_wp2
      all_goals
        go_ret
        exact ⟨ret_bool HK2.out.symm, HB.out⟩
  · have HK2 : Seal (b = false) := ⟨by
      rw [HK.out]
      have : ¬ 0 ≤ n ∨ ¬ 0 ≤ u := by omega
      rcases this with h | h <;> simp [h]⟩
    clear HK
    go_wp2
    all_goals
      go_ret
      exact ⟨ret_bool HK2.out.symm, HB.out⟩
end Frk

