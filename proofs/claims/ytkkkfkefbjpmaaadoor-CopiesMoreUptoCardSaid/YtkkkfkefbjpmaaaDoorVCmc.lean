/- The statement CopiesMore of frankinglaw51, in its second form, holds: for every input of bulk at most 1048576 the law returns true, and each argument reads afterwards as it read before. Conditions: those of the row (the listed variables start as the program's text lays them; the card ties them). -/
import Derived.Test.YtkkkfkefbjpmaaaDoorVCxc
import Derived.Laws.AppendOwnNone
import Derived.Deep.CutBlock
import Derived.Test.YtkkkfkefbjpmaaaDoorVHop
import Derived.Test.YtkkkfkefbjpmaaaDoorVCxa
import Derived.Deep.Cut
import Derived.Test.YtkkkfkefbjpmaaaDoorVHol
import Derived.Deep.DeepHandedRow
namespace Frk
open Go Go.RowKit Go.Proofs
set_option maxRecDepth 100000

theorem fdF_lie (ks : List Int) (l : List Hd) (o : Int) : LieP (sgd ks l) o (fdF (sgd ks l) o) := fdF_spec _ _ rfl sgd_fm o
theorem fd_of {ks : List Int} {l : List Hd} {o : Int} {r : Option (Hd × Hd)} (h : LieP (sgd ks l) o r) : fdF (sgd ks l) o = r := (fdF_lie ks l o).unique h
theorem sgd_mem {ks : List Int} {l : List Hd} {h : Hd} : h ∈ sgd ks l ↔ h ∈ l ∧ sgn ks h = true := List.mem_filter
theorem sgn_iff (ks : List Int) (h : Hd) : sgn ks h = true ↔ 0 ≤ h.fr ∧ h.fr < (ks.length : Int) ∧ chB (ks.getD h.fr.toNat 0) h = true := by
  unfold sgn
  simp only [Bool.and_eq_true, decide_eq_true_eq]

/-- what is found, at one of its places -/
theorem fnd_mem {ks : List Int} {l : List Hd} (h24 : ks.length ≤ 24) {x : Hd × Hd} : x ∈ fnd ks l ↔ 0 ≤ x.1.fr ∧ x.1.fr < (ks.length : Int) ∧ fdF (sgd ks l) x.1.fr = some x := by
  unfold fnd fndP
  rw [if_neg (by omega), List.mem_filterMap]
  constructor
  · rintro ⟨o, ho, e⟩
    have hl := fdF_lie ks l (o : Int)
    rw [e] at hl
    obtain ⟨a, b⟩ := x
    have hf : a.fr = (o : Int) := hl.1
    rw [List.mem_range] at ho
    show 0 ≤ a.fr ∧ a.fr < _ ∧ fdF _ a.fr = _
    rw [hf]
    exact ⟨by omega, by omega, e⟩
  · rintro ⟨h1, h2, e⟩
    refine ⟨x.1.fr.toNat, List.mem_range.2 (by omega), ?_⟩
    rw [show ((x.1.fr.toNat : Nat) : Int) = x.1.fr from by omega]
    exact e

/-- an office is among those found when its hand-overs clash -/
theorem fnd_any {ks : List Int} {l : List Hd} (h24 : ks.length ≤ 24) {h : Hd} (hs : sgn ks h = true) : (fnd ks l).any (fun x => decide (x.1.fr = h.fr)) = !(fdF (sgd ks l) h.fr).isNone := by
  have hh := (sgn_iff ks h).1 hs
  cases e : fdF (sgd ks l) h.fr with
  | none =>
    rw [List.any_eq_false.2]
    · rfl
    · intro x hx hd
      have hd := of_decide_eq_true hd
      have := (fnd_mem h24).1 hx
      rw [hd, e] at this
      exact absurd this.2.2 (by simp)
  | some x =>
    rw [List.any_eq_true.2]
    · rfl
    · have hl := fdF_lie ks l h.fr
      rw [e] at hl
      obtain ⟨a, b⟩ := x
      have hf : a.fr = h.fr := hl.1
      exact ⟨(a, b), (fnd_mem h24).2 ⟨by show 0 ≤ a.fr; omega, by show a.fr < _; omega, by show fdF _ a.fr = _; rw [hf]; exact e⟩, decide_eq_true hf⟩

/-- who is trusted, told by what is found -/
def wnt (ks : List Int) (F : List (Hd × Hd)) (h : Hd) : Bool := sgn ks h && !(F.any (fun x => decide (x.1.fr = h.fr)))
theorem trs_wnt (ks : List Int) (l : List Hd) (h24 : ks.length ≤ 24) : trs ks l = l.filter (wnt ks (fnd ks l)) := by
  unfold trs trsP
  rw [if_neg (by omega)]
  have e1 : sgd ks l = l.filter (sgn ks) := rfl
  conv => lhs; arg 2; rw [e1]
  rw [List.filter_filter]
  refine List.filter_congr fun h _ => ?_
  unfold wnt
  cases hs : sgn ks h with
  | false => simp
  | true => rw [fnd_any h24 hs, Bool.and_true, Bool.not_not, Bool.true_and]

theorem trs_mem {ks : List Int} {l : List Hd} (h24 : ks.length ≤ 24) {h : Hd} : h ∈ trs ks l ↔ h ∈ sgd ks l ∧ fdF (sgd ks l) h.fr = none := by
  unfold trs trsP
  rw [if_neg (by omega), List.mem_filter, Option.isNone_iff_eq_none]
theorem trs_sgd (ks : List Int) (l : List Hd) (h24 : ks.length ≤ 24) : sgd ks (trs ks l) = trs ks l :=
  List.filter_eq_self.2 fun _ hh => (sgd_mem.1 ((trs_mem h24).1 hh).1).2
/-- what is trusted has no lies -/
theorem trs_clean (ks : List Int) (l : List Hd) (h24 : ks.length ≤ 24) (o : Int) : fdF (sgd ks (trs ks l)) o = none := by
  refine fd_of (r := none) ?_
  intro a ha b hb ho
  rw [trs_sgd ks l h24] at ha hb
  have h1 := (trs_mem h24).1 ha
  have h2 := (trs_mem h24).1 hb
  have hl := fdF_lie ks l a.fr
  rw [h1.2] at hl
  exact hl a h1.1 b h2.1 rfl
theorem fnd_trs (ks : List Int) (l : List Hd) (h24 : ks.length ≤ 24) : fnd ks (trs ks l) = [] := by
  refine List.eq_nil_iff_forall_not_mem.2 fun x hx => ?_
  have := (fnd_mem h24).1 hx
  rw [trs_clean ks l h24] at this
  exact absurd this.2.2 (by simp)
theorem trs_trs (ks : List Int) (l : List Hd) (h24 : ks.length ≤ 24) : trs ks (trs ks l) = trs ks l := by
  have e : ∀ m : List Hd, trs ks m = (sgd ks m).filter (fun h => (fdF (sgd ks m) h.fr).isNone) := fun m => by
    unfold trs trsP
    rw [if_neg (by omega)]
  rw [e (trs ks l), trs_sgd ks l h24]
  refine List.filter_eq_self.2 fun h _ => ?_
  have := trs_clean ks l h24 h.fr
  rw [trs_sgd ks l h24] at this
  rw [this]
  rfl

/-- what is found, told for the law CopiesCaught -/
theorem fnd_at {ks : List Int} {l : List Hd} (h24 : ks.length ≤ 24) {x : Hd × Hd} (hx : x ∈ fnd ks l) :
    x.1 ∈ l ∧ x.2 ∈ l ∧ 0 ≤ x.1.fr ∧ x.1.fr < (ks.length : Int) ∧ chL (ks.getD x.1.fr.toNat 0) x.1 x.2 = true := by
  have h := (fnd_mem h24).1 hx
  have hl := fdF_lie ks l x.1.fr
  rw [h.2.2] at hl
  obtain ⟨a, b⟩ := x
  have hm := hl.some_mem
  have ha := sgd_mem.1 hm.1
  have hb := sgd_mem.1 hm.2.1
  have hs := (cq_sl a b).1 (cq_cl hm.2.2).2.2
  refine ⟨ha.1, hb.1, h.1, h.2.1, ?_⟩
  show chL (ks.getD a.fr.toNat 0) a b = true
  unfold chL
  have h1 := ((sgn_iff ks a).1 ha.2).2.2
  have h2 := ((sgn_iff ks b).1 hb.2).2.2
  rw [← hs.2.2.2.2] at h2
  rw [hm.2.2, h1, h2]
  rfl
/-- offices come in order -/
theorem fnd_up {ks : List Int} {l : List Hd} (h24 : ks.length ≤ 24) : (fnd ks l).Pairwise (fun x y => x.1.fr < y.1.fr) := by
  unfold fnd fndP
  rw [if_neg (by omega), List.pairwise_filterMap]
  refine List.Pairwise.imp ?_ List.pairwise_lt_range
  intro i j hij x hx y hy
  have h1 := fdF_lie ks l (i : Int)
  have h2 := fdF_lie ks l (j : Int)
  rw [hx] at h1
  rw [hy] at h2
  have e1 : x.1.fr = (i : Int) := h1.1
  have e2 : y.1.fr = (j : Int) := h2.1
  omega
/-- two signed hand-overs that clash are found, with their slot or an earlier one -/
theorem fnd_hit {ks : List Int} {l : List Hd} (h24 : ks.length ≤ 24) {a b : Hd} (ha : a ∈ l) (hb : b ∈ l) (hc : clB a b = true) (h0 : 0 ≤ a.fr) (h1 : a.fr < (ks.length : Int)) (c1 : chB (ks.getD a.fr.toNat 0) a = true) (c2 : chB (ks.getD a.fr.toNat 0) b = true) :
    ∃ x ∈ fnd ks l, x.1.fr = a.fr ∧ befB a x.1 = false := by
  have hs := (cq_sl a b).1 (cq_cl hc).2.2
  have sa : a ∈ sgd ks l := sgd_mem.2 ⟨ha, (sgn_iff ks a).2 ⟨h0, h1, c1⟩⟩
  have sb : b ∈ sgd ks l := sgd_mem.2 ⟨hb, (sgn_iff ks b).2 ⟨by omega, by omega, by rw [← hs.2.2.2.2]; exact c2⟩⟩
  have hl := fdF_lie ks l a.fr
  cases e : fdF (sgd ks l) a.fr with
  | none =>
    rw [e] at hl
    have := hl a sa b sb rfl
    rw [hc] at this
    cases this
  | some x =>
    rw [e] at hl
    obtain ⟨A, B⟩ := x
    have hf : A.fr = a.fr := hl.1
    exact ⟨(A, B), (fnd_mem h24).2 ⟨by show 0 ≤ A.fr; omega, by show A.fr < _; omega, by show fdF _ A.fr = _; rw [hf]; exact e⟩, hf, hl.2.2.2 a sa b sb rfl hc⟩
end Frk

namespace Frk
open Go Go.RowKit Go.Proofs
set_option maxRecDepth 100000

def RelO (r r' : Option (Hd × Hd)) : Prop :=
  match r, r' with
  | none, none => True
  | some x, some y => slB x.1 y.1 = true
  | _, _ => False

theorem fm_rel {α : Type} {f g : α → Option (Hd × Hd)} : ∀ l : List α, (∀ o ∈ l, RelO (f o) (g o)) →
    (l.filterMap f).length = (l.filterMap g).length ∧ ∀ (i : Nat) (x y : Hd × Hd), (l.filterMap f)[i]? = some x → (l.filterMap g)[i]? = some y → slB x.1 y.1 = true
  | [], _ => ⟨rfl, fun i x y h => by simp at h⟩
  | o :: l, h => by
    have ih := fm_rel l (fun o ho => h o (List.mem_cons_of_mem _ ho))
    have h0 := h o List.mem_cons_self
    unfold RelO at h0
    cases ef : f o with
    | none =>
      cases eg : g o with
      | none =>
        rw [List.filterMap_cons_none ef, List.filterMap_cons_none eg]
        exact ih
      | some y => rw [ef, eg] at h0; exact h0.elim
    | some x =>
      cases eg : g o with
      | none => rw [ef, eg] at h0; exact h0.elim
      | some y =>
        rw [ef, eg] at h0
        rw [List.filterMap_cons_some ef, List.filterMap_cons_some eg]
        refine ⟨by rw [List.length_cons, List.length_cons, ih.1], fun i a b ha hb => ?_⟩
        cases i with
        | zero => cases ha; cases hb; exact h0
        | succ i => exact ih.2 i a b (by simpa using ha) (by simpa using hb)

theorem LieP.rel {s t : List Hd} (hm : ∀ x, x ∈ s ↔ x ∈ t) {o : Int} {r r' : Option (Hd × Hd)} (h : LieP s o r) (h' : LieP t o r') : RelO r r' := by
  unfold RelO
  cases r with
  | none =>
    cases r' with
    | none => trivial
    | some y =>
      obtain ⟨m1, m2, m3⟩ := LieP.some_mem (a := y.1) (b := y.2) h'
      have := h y.1 ((hm _).2 m1) y.2 ((hm _).2 m2) h'.1
      rw [this] at m3
      cases m3
  | some x =>
    obtain ⟨m1, m2, m3⟩ := LieP.some_mem (a := x.1) (b := x.2) h
    cases r' with
    | none =>
      have := h' x.1 ((hm _).1 m1) x.2 ((hm _).1 m2) h.1
      rw [this] at m3
      cases m3
    | some y =>
      obtain ⟨k1, k2, k3⟩ := LieP.some_mem (a := y.1) (b := y.2) h'
      obtain ⟨xa, xb⟩ := x
      obtain ⟨ya, yb⟩ := y
      have e1 := h.2.2.2 ya ((hm _).2 k1) yb ((hm _).2 k2) h'.1 k3
      have e2 := h'.2.2.2 xa ((hm _).1 m1) xb ((hm _).1 m2) h.1 m3
      exact befB_tie e2 e1 (h.1.trans h'.1.symm)

/-- lists of the same hand-overs lead to the same offices and slots -/
theorem fnd_same (ks : List Int) {l m : List Hd} (hm : ∀ x, x ∈ l ↔ x ∈ m) :
    (fnd ks l).length = (fnd ks m).length ∧ ∀ (i : Nat) (x y : Hd × Hd), (fnd ks l)[i]? = some x → (fnd ks m)[i]? = some y → slB x.1 y.1 = true := by
  unfold fnd fndP
  split
  · exact ⟨rfl, fun i x y h => by simp at h⟩
  · refine fm_rel _ fun o _ => (fdF_lie ks l _).rel (fun x => ?_) (fdF_lie ks m _)
    rw [sgd_mem, sgd_mem, hm]

/-- further hand-overs lead to no fewer offices and no later slots -/
theorem fnd_more {ks : List Int} {l m : List Hd} (h24 : ks.length ≤ 24) (hm : ∀ x ∈ l, x ∈ m) {x : Hd × Hd} (hx : x ∈ fnd ks l) :
    ∃ y ∈ fnd ks m, y.1.fr = x.1.fr ∧ befB x.1 y.1 = false := by
  obtain ⟨h1, h2, h3, h4, h5⟩ := fnd_at h24 hx
  unfold chL at h5
  simp only [Bool.and_eq_true] at h5
  exact fnd_hit h24 (hm _ h1) (hm _ h2) h5.1 h3 h4 h5.2.1 h5.2.2

/-- two places of a list exchanged -/
theorem swap_mem {t : List Hd} {i k : Nat} {a b : Hd} (ha : t[i]? = some a) (hb : t[k]? = some b) (h : Hd) : h ∈ (t.set i b).set k a ↔ h ∈ t := by
  have hi := (List.getElem?_eq_some_iff.1 ha).1
  have hk := (List.getElem?_eq_some_iff.1 hb).1
  rw [List.mem_iff_getElem?, List.mem_iff_getElem?]
  constructor
  · rintro ⟨j, hj⟩
    rw [List.getElem?_set, List.getElem?_set] at hj
    by_cases e1 : k = j
    · rw [if_pos e1, if_pos (by simpa using hk)] at hj
      exact ⟨i, by rw [ha]; exact hj⟩
    · rw [if_neg e1] at hj
      by_cases e2 : i = j
      · rw [if_pos e2, if_pos hi] at hj
        exact ⟨k, by rw [hb]; exact hj⟩
      · rw [if_neg e2] at hj
        exact ⟨j, hj⟩
  · rintro ⟨j, hj⟩
    by_cases e1 : i = j
    · refine ⟨k, ?_⟩
      rw [List.getElem?_set, if_pos rfl, if_pos (by simpa using hk), ← ha, e1]
      exact hj
    · by_cases e2 : k = j
      · refine ⟨i, ?_⟩
        rw [List.getElem?_set, if_neg (by omega), List.getElem?_set, if_pos rfl, if_pos hi, ← hb, e2]
        exact hj
      · refine ⟨j, ?_⟩
        rw [List.getElem?_set, if_neg e2, List.getElem?_set, if_neg e1]
        exact hj

theorem lay_hcells : ∀ (t : List Hd) (i : Nat) (h : Hd) (R : List Value), (∀ x ∈ t, x.ok) → h.ok → i < t.length → lay (hcells t ++ R) (i * 42) h.C = hcells (t.set i h) ++ R
  | [], i, h, R, _, _, hi => by simp at hi
  | x :: t, i, h, R, hx, hh, hi => by
    have lx : x.C.length = 42 := Hd.C_len (hx x List.mem_cons_self).t32
    have lh : h.C.length = 42 := Hd.C_len hh.t32
    cases i with
    | zero =>
      unfold lay hcells
      rw [List.set_cons_zero, List.flatMap_cons, List.flatMap_cons, Nat.zero_mul, List.take_zero, List.nil_append, Nat.zero_add, lh, List.append_assoc, List.drop_left' lx, List.append_assoc]
    | succ i =>
      have ih := lay_hcells t i h R (fun x hx' => hx x (List.mem_cons_of_mem _ hx')) hh (by simpa using hi)
      unfold lay hcells at *
      have e1 : ∀ Y : List Value, (x.C ++ Y).take (42 + i * 42) = x.C ++ Y.take (i * 42) := fun Y => by
        rw [List.take_append, List.take_of_length_le (by omega), lx, show 42 + i * 42 - 42 = i * 42 from by omega]
      have e2 : ∀ Y : List Value, (x.C ++ Y).drop (42 + i * 42 + h.C.length) = Y.drop (i * 42 + h.C.length) := fun Y => by
        rw [List.drop_append, List.drop_of_length_le (by omega), List.nil_append, lx, show 42 + i * 42 + h.C.length - 42 = i * 42 + h.C.length from by omega]
      rw [List.set_cons_succ, List.flatMap_cons, List.flatMap_cons, show (i + 1) * 42 = 42 + i * 42 from by omega, List.append_assoc x.C, List.append_assoc x.C, e1, e2, ← ih]
      simp only [List.append_assoc]
end Frk

namespace Frk
open Go Go.RowKit Go.Proofs
set_option maxRecDepth 100000

/-- where a slice of hand-overs lies, of any length -/
def SrcH (w : World) (a : Option Addr) (n c : Nat) (l : List Hd) : Prop :=
  l.length = n ∧ (∀ h ∈ l, h.ok) ∧ n ≤ c ∧ c ≤ 9223372036854775807 ∧ ((a = none ∧ n = 0 ∧ c = 0) ∨ ∃ ad, a = some ad ∧ ∀ j u, (hcells l)[j]? = some u → w.cell? (ad.add j) = some u)
theorem SrcH.below {w w' : World} {a : Option Addr} {n c : Nat} {l : List Hd} (h : SrcH w a n c l) (hb : Below w.heap.size w w') : SrcH w' a n c l :=
  ⟨h.1, h.2.1, h.2.2.1, h.2.2.2.1, by
    rcases h.2.2.2.2 with e | ⟨ad, e, hc⟩
    · exact .inl e
    · exact .inr ⟨ad, e, fun j u hu => (hb.cell (World.block_lt_of_cell? w _ (hc j u hu))).trans (hc j u hu)⟩⟩
theorem SrcH.hs {w : World} {a : Option Addr} {n c : Nat} {l : List Hd} (h : SrcH w a n c l) (hn : n ≤ 5000) : IsHs w a n c l :=
  ⟨h.1, h.2.2.1, hn, h.2.2.2.1, h.2.1, by
    rcases Nat.eq_zero_or_pos n with h0 | h0
    · exact .inl h0
    · rcases h.2.2.2.2 with ⟨_, e, _⟩ | ⟨ad, e, hc⟩
      · omega
      · right
        have hl := hcells_len h.2.1
        rw [h.1] at hl
        obtain ⟨ab, ao, sp⟩ := ad
        have hc0 := hc 0 _ (List.getElem?_eq_getElem (by omega))
        have hsp : sp = none := by simpa [Addr.add] using World.cell?_spot hc0
        subst hsp
        refine ⟨ab, ao, e, fun j u hu => ?_, ?_⟩
        · have := hc j u hu
          rw [Addr.add_mid] at this
          exact this
        · rw [Addr.add_mid] at hc0
          exact block_lt_of_cell hc0⟩
theorem src_of_own {w : World} {base : Nat} {v : Value} {L : List Hd} (h : w.ownsRow base 29 42 v L.length (hcells L)) (hok : ∀ x ∈ L, x.ok) : ∃ a c, v = .slice a L.length c ∧ SrcH w a L.length c L := by
  rcases h.2 with ⟨rfl, h0⟩ | ⟨g, cap, cur, rfl, _, hg, hc, hcm, hs, ht⟩
  · exact ⟨none, 0, by rw [h0], rfl, hok, by omega, by decide, .inl ⟨rfl, h0, rfl⟩⟩
  · exact ⟨some ⟨g, 0, none⟩, cap, rfl, rfl, hok, hc, by unfold maxLen at hcm; omega, .inr ⟨_, rfl, h.cells (g := g) rfl⟩⟩
theorem hcells_one {l : List Hd} : ∀ u ∈ hcells l, u.oneCell' = true := fun u hu => by
  unfold hcells at hu
  obtain ⟨h, _, hh⟩ := List.mem_flatMap.1 hu
  exact Hd.C_one h u hh

/-- 'append(x, l...)' -/
theorem wpList_append_h {ops : Array Oper} {rest : List Oper} {o : Oper} {a : Act} {w : World} {Q : Exit → Act → World → Prop} (hgd : o.guard = none) (s x : Operand)
    (ho : o.op = .call { callee := .builtin .append, args := #[s, x], argTypes := #[66, 66] })
    (base : Nat) (v : Value) (L : List Hd) (hs : a.eval s = v) (hown : w.ownsRow base 29 42 v L.length (hcells L)) (hne : v ≠ .slice none 0 0)
    (ad : Option Addr) (n c : Nat) (l : List Hd) (hx : a.eval x = .slice ad n c) (hsrc : SrcH w ad n c l) (hsz : L.length + n ≤ 4194304) (hbase : base ≤ w.heap.size)
    (h : ∀ v' w', w'.ownsRow base 29 42 v' (L ++ l).length (hcells (L ++ l)) → v' ≠ .slice none 0 0 → (∀ w0, Below base w0 w → Below base w0 w') → wpList Tryd.prog ops Q rest (a.put o.dst v') w') : wpList Tryd.prog ops Q (o :: rest) a w := by
  obtain ⟨i0, hi, hz0, hz1, hz2⟩ := info_parts info_hand
  have hln := hsrc.1
  have hlen := hcells_len hsrc.2.1
  rcases hsrc.2.2.2.2 with ⟨rfl, rfl, rfl⟩ | ⟨ad, rfl, hc⟩
  · obtain rfl : l = [] := List.length_eq_zero_iff.1 hln
    refine wpList_append_own_none hgd s x 66 ho base 29 i0 42 Tryd.underlying66 hi v L.length (hcells L) hs hown hx ?_
    exact h v w (by simpa using hown) hne (fun _ hb => hb)
  · refine wpList_append_own w hgd s x 66 ho base 29 i0 _ 42 112 Tryd.underlying66 hi hz0 hz1 hz2 rfl (by decide) v L.length (hcells L) hs hown ad n c (hcells l) hx (by rw [hlen, hln]) hc hcells_one (by unfold maxLen; omega) (by omega) hbase ?_
    intro v' w' h2 h3 h4
    refine h v' w' (by rw [List.length_append, hln, hcells_app]; exact h2) (fun e => hne (h4.1 e).1) (fun w0 hb => hb.grown h3 hbase (fun k e => (hown.lt k e).1))

theorem exec_load_mid {P : Program} {o : Oper} {a : Act} {w : World} (ty : TypeId) (x : Operand) (ho : o.op = .load ty x) (b off : Nat) (hx : a.eval x = .pointer (some ⟨b, off, none⟩)) (cs : List Value) (d : TypeDesc) (hc : w.rangeAt b off cs)
    (hu : P.underlying ty = some d) (hd : d.isRow = true) (hi : (P.info? ty).map (·.size) = some cs.length) : (execOp a.eval o).run P w = .ok (.value (.agg cs.toArray)) w := by
  unfold execOp
  simp only [ho, hx, Instr.loadAt, Instr.sureAddr, Sem.run_bind, Sem.run_pure, Result.andThen_ok, run_loadVar_mid w b off ty cs d hc hu hd hi]

theorem exec_store_mid {P : Program} {o : Oper} {a : Act} {w : World} (ty : TypeId) (x y : Operand) (ho : o.op = .store ty x y) (g off : Nat) (cs : List Value) (hx : a.eval x = .pointer (some ⟨g, off, none⟩)) (hy : a.eval y = .agg cs.toArray) (t : TypeId) (cur : List Value)
    (hg : w.heap[g]? = some (.cells cur.toArray t (0, 0))) (hi : (P.info? ty).map (·.size) = some cs.length) (hfit : off + cs.length ≤ cur.length) (h1 : ∀ v ∈ cs, v.oneCell' = true) :
    (execOp a.eval o).run P w = .ok .skip (w.setRow g (lay cur off cs).toArray) := by
  have ht : w.there g off cs.toArray.size := fun j hj => by
    have hj' : j < cs.length := by simpa using hj
    refine ⟨?_, frozen_of_row _ _ _ _ _ hg⟩
    rw [cell_of_row _ _ _ _ _ _ hg]
    simp; omega
  unfold execOp
  simp only [ho, hx, hy, Instr.storeAt, Instr.sureAddr, Sem.run_bind, Sem.run_pure, Result.andThen_ok, run_storeVar_mid w g off ty cs.toArray ht (by simpa using hi) (all_oneCell_toArray h1)]
  rw [setCells_row cs off cur w hg hfit]

/-- the slice in which hand-overs are exchanged: what it holds, and what lies behind -/
def TurnP (w : World) (g : Nat) (t : List Hd) (R : List Value) : Prop := w.heap[g]? = some (.cells (hcells t ++ R).toArray 29 (0, 0)) ∧ (∀ x ∈ t, x.ok)
theorem TurnP.below {w w' : World} {g : Nat} {t : List Hd} {R : List Value} (h : TurnP w g t R) (hb : Below w.heap.size w w') : TurnP w' g t R :=
  ⟨(hb.block g (Array.getElem?_eq_some_iff.1 h.1).1).trans h.1, h.2⟩
theorem TurnP.range {w : World} {g : Nat} {t : List Hd} {R : List Value} (h : TurnP w g t R) : w.rangeAt g 0 (hcells t) := by
  have := rangeAt_take (rangeAt_row h.1) (hcells t).length
  rwa [List.take_left' rfl] at this
theorem TurnP.row {w : World} {g : Nat} {t : List Hd} {R : List Value} (h : TurnP w g t R) {i : Nat} {x : Hd} (hx : t[i]? = some x) : w.rangeAt g (i * 42) x.C := by
  have := rangeC_at h.range (fun x hx => Hd.C_len (h.2 x hx).t32) hx
  rwa [Nat.zero_add] at this
theorem TurnP.set {w : World} {g : Nat} {t : List Hd} {R : List Value} (h : TurnP w g t R) {i : Nat} {x : Hd} (hi : i < t.length) (hx : x.ok) : TurnP (w.setRow g (lay (hcells t ++ R) (i * 42) x.C).toArray) g (t.set i x) R :=
  ⟨by
    have := heap_lay (i * 42) x.C h.1
    rw [lay_hcells t i x R h.2 hx hi] at this ⊢
    exact this, fun y hy => by
    rcases List.mem_or_eq_of_mem_set hy with e | e
    · exact h.2 y e
    · rw [e]; exact hx⟩
theorem TurnP.hs {w : World} {g : Nat} {t : List Hd} {R : List Value} (h : TurnP w g t R) {c : Nat} (hn : t.length ≤ 5000) (hc : t.length ≤ c) (hcm : c ≤ 9223372036854775807) : IsHs w (some ⟨g, 0, none⟩) t.length c t :=
  ⟨rfl, hc, hn, hcm, h.2, .inr ⟨g, 0, rfl, h.range, (Array.getElem?_eq_some_iff.1 h.1).1⟩⟩
theorem turn_of_own {w : World} {base : Nat} {v : Value} {L : List Hd} (h : w.ownsRow base 29 42 v L.length (hcells L)) (hne : v ≠ .slice none 0 0) (hok : ∀ x ∈ L, x.ok) :
    ∃ g c R, v = .slice (some ⟨g, 0, none⟩) L.length c ∧ base ≤ g ∧ L.length ≤ c ∧ c ≤ 9223372036854775807 ∧ TurnP w g L R := by
  rcases h.2 with ⟨e, _⟩ | ⟨g, cap, cur, rfl, hb, hg, hc, hcm, hs, ht⟩
  · exact (hne e).elim
  · refine ⟨g, cap, cur.toList.drop (L.length * 42), rfl, hb, hc, by unfold maxLen at hcm; omega, ?_, hok⟩
    rw [← ht, List.take_append_drop]
    exact hg
end Frk

namespace Frk
open Go Go.RowKit Go.Proofs
set_option maxRecDepth 100000

theorem own_lit (w : World) (base : Nat) (hb : base ≤ w.heap.size) : (w.alloc (.cells #[] 29)).ownsRow base 29 42 (.slice (some ⟨w.heap.size, 0, none⟩) 0 0) ([] : List Hd).length (hcells []) :=
  ⟨rfl, .inr ⟨w.heap.size, 0, #[], rfl, hb, heap_alloc_new w _, Nat.le_refl _, by decide, rfl, rfl⟩⟩
def pM (x y : Hd × Hd) : Bool := (y.1.fr == x.1.fr) && !befB x.1 y.1
def anyM (Y : List (Hd × Hd)) (x : Hd × Hd) : Bool := Y.any (pM x)
theorem anyM_take {Y : List (Hd × Hd)} {x y : Hd × Hd} {k : Nat} (e : Y[k]? = some y) : anyM (Y.take (k + 1)) x = (anyM (Y.take k) x || pM x y) := by
  unfold anyM
  rw [List.take_add_one, e, List.any_append]
  simp
theorem anyM_all {ks : List Int} {l m : List Hd} (h24 : ks.length ≤ 24) (hm : ∀ x ∈ l, x ∈ m) {x : Hd × Hd} (hx : x ∈ fnd ks l) : anyM (fnd ks m) x = true := by
  obtain ⟨y, hy, e1, e2⟩ := fnd_more h24 hm hx
  exact List.any_eq_true.2 ⟨y, hy, by unfold pM; rw [e1, e2]; simp⟩
theorem eqRunL (a b c : Int) (w : World) : (Op.equalIn 10000 23 (.agg [Value.int .i64 a, .int .i64 b, .int .i64 c].toArray) (.agg [Value.int .i64 a, .int .i64 b, .int .i64 c].toArray)).run Tryd.prog w = .ok true w := by
  have := eqRun_at 9998 a b c a b c w
  simpa using this

set_option maxHeartbeats 8000000 in
theorem more_many (n c m d kn kc on oc : Nat) (a b ka oa : Option Addr) (l r : List Hd) (ks : List Int) (ob : Bytes) (w : World) (hG : Glob w) (hl : SrcH w a n c l) (hr : SrcH w b m d r) (hk : kn ≤ 5000 → IsKs w ka kn kc ks) (ho : IsB w oa on oc ob) (hsz : n + m ≤ 1048576) (hon : on ≤ 1048576) (hn : ¬ (kn ≤ 30 ∧ n + m ≤ 16)) :
    Calls Tryd.prog 11 #[.slice ka kn kc, .slice a n c, .slice b m d, .slice oa on oc] w fun e w' => e = .returned (.bool true) ∧ Below w.heap.size w w' := by
  have HB : Seal (Below w.heap.size w w) := ⟨Below.refl _ _⟩
  have HG : Seal (∀ W, Below w.heap.size w W → Glob W) := ⟨fun W h => hG.below h⟩
  have HL : Seal (∀ W, Below w.heap.size w W → SrcH W a n c l) := ⟨fun W h => hl.below h⟩
  have HR : Seal (∀ W, Below w.heap.size w W → SrcH W b m d r) := ⟨fun W h => hr.below h⟩
  have HK : Seal (∀ W, Below w.heap.size w W → kn ≤ 5000 → IsKs W ka kn kc ks) := ⟨fun W h h2 => (hk h2).below h⟩
  have HO : Seal (∀ W, Below w.heap.size w W → IsB W oa on oc ob) := ⟨fun W h => ho.below h⟩
  have HSZ : Seal (n + m ≤ 1048576 ∧ on ≤ 1048576) := ⟨⟨hsz, hon⟩⟩
  have HLN : Seal (l.length = n ∧ r.length = m) := ⟨⟨hl.1, hr.1⟩⟩
  obtain ⟨N, hN⟩ : ∃ N, N = n + m := ⟨_, rfl⟩
  have HFew : Seal ((decide (kn ≤ 30) && decide (N ≤ 16)) = false) := ⟨by rw [Bool.and_eq_false_iff, decide_eq_false_iff_not, decide_eq_false_iff_not]; omega⟩
  have HALL : Seal ((l ++ r).length = N ∧ ∀ x ∈ l ++ r, x.ok) := ⟨by rw [List.length_append, hl.1, hr.1, hN], fun x hx => by
    rcases List.mem_append.1 hx with h | h
    · exact hl.2.1 x h
    · exact hr.2.1 x h⟩
  clear hG hl hr hk ho hsz hon hn hN
  go_enter Tryd.func11, Tryd.ntmps11
  go_wp2_with fail
  refine (sane51_any w (HG.out w HB.out)).mono ?_
  rintro e w1 ⟨rfl, hb⟩
  have HB2 := Seal.mk (HB.out.trans (hb.mono HB.out.size))
  clear HB
  have HB := HB2
  clear HB2
  clear hb
  go_wp2_with (first
    | (at_builtin; go_loud (refine wpList_append_h rfl (.tmp 26) (.tmp 27) rfl w1.heap.size (.slice (some ⟨w1.heap.size, 0, none⟩) 0 0) [] rfl (own_lit w1 w1.heap.size (Nat.le_refl _)) (by simp) a n c l rfl (HL.out _ (HB.out.trans (((Below.refl _ w1).alloc (Nat.le_refl _) _).mono HB.out.size))) (by have := HSZ.out; have := HLN.out; simp only [List.length_nil]; omega) (by simp) ?_; intro v2 w2 hown2 hne2 hb2; have HM2 : Seal (w2.ownsRow w1.heap.size 29 42 v2 l.length (hcells l) ∧ v2 ≠ .slice none 0 0 ∧ Below w1.heap.size w1 w2) := ⟨(by simpa using hown2), hne2, hb2 w1 ((Below.refl _ w1).alloc (Nat.le_refl _) _)⟩; clear hown2 hne2 hb2; have HN2 := HM2; clear HM2; obtain ⟨va2, vn2, vc2, rfl⟩ := slice_form HN2.out.1; (try simp only [Act.put, List.setIfInBounds_toArray, List.set_cons_zero, List.set_cons_succ])))
    | (at_builtin; go_loud (refine wpList_append_h rfl (.tmp 28) (.tmp 29) rfl w1.heap.size _ l rfl HN2.out.1 HN2.out.2.1 b m d r rfl (HR.out _ (HB.out.trans (HN2.out.2.2.mono HB.out.size))) (by have := HSZ.out; have := HLN.out; omega) (HN2.out.2.2.size) ?_; intro v2 w2 hown2 hne2 hb2; have HM2 : Seal (w2.ownsRow w1.heap.size 29 42 v2 (l ++ r).length (hcells (l ++ r)) ∧ v2 ≠ .slice none 0 0 ∧ Below w1.heap.size w1 w2) := ⟨(by simpa using hown2), hne2, hb2 w1 HN2.out.2.2⟩; clear hown2 hne2 hb2 HN2; have HN2 := HM2; clear HM2; obtain ⟨va2, vn2, vc2, rfl⟩ := slice_form HN2.out.1; (try simp only [Act.put, List.setIfInBounds_toArray, List.set_cons_zero, List.set_cons_succ]))))
  have HB2 := Seal.mk (HB.out.trans (HN2.out.2.2.mono HB.out.size))
  clear HB
  have HB := HB2
  clear HB2
  have hLN : (l ++ r).length = N := HALL.out.1
  obtain ⟨a2, c2, hv, _⟩ := src_of_own HN2.out.1 HALL.out.2
  rw [hLN] at hv
  cases hv
  clear HN2
  refine (rfew_any _ ka N _ kn kc _ w2 HFew.out).mono ?_
  rintro e w3 ⟨rfl, rfl⟩
  go_wp2
  go_ret
  exact ⟨rfl, HB.out⟩

set_option maxHeartbeats 16000000 in
theorem more_few (n c m d kn kc on oc : Nat) (a b ka oa : Option Addr) (l r : List Hd) (ks : List Int) (ob : Bytes) (w : World) (hG : Glob w) (hl : SrcH w a n c l) (hr : SrcH w b m d r) (hk : kn ≤ 5000 → IsKs w ka kn kc ks) (ho : IsB w oa on oc ob) (hsz : n + m ≤ 1048576) (hon : on ≤ 1048576) (hn : kn ≤ 30 ∧ n + m ≤ 16) :
    Calls Tryd.prog 11 #[.slice ka kn kc, .slice a n c, .slice b m d, .slice oa on oc] w fun e w' => e = .returned (.bool true) ∧ Below w.heap.size w w' := by
  have HB : Seal (Below w.heap.size w w) := ⟨Below.refl _ _⟩
  have HG : Seal (∀ W, Below w.heap.size w W → Glob W) := ⟨fun W h => hG.below h⟩
  have HL : Seal (∀ W, Below w.heap.size w W → SrcH W a n c l) := ⟨fun W h => hl.below h⟩
  have HR : Seal (∀ W, Below w.heap.size w W → SrcH W b m d r) := ⟨fun W h => hr.below h⟩
  have HK : Seal (∀ W, Below w.heap.size w W → kn ≤ 5000 → IsKs W ka kn kc ks) := ⟨fun W h h2 => (hk h2).below h⟩
  have HO : Seal (∀ W, Below w.heap.size w W → IsB W oa on oc ob) := ⟨fun W h => ho.below h⟩
  have HSZ : Seal (n + m ≤ 1048576 ∧ on ≤ 1048576) := ⟨⟨hsz, hon⟩⟩
  have HLN : Seal (l.length = n ∧ r.length = m) := ⟨⟨hl.1, hr.1⟩⟩
  obtain ⟨N, hN⟩ : ∃ N, N = n + m := ⟨_, rfl⟩
  obtain ⟨ALL, hALL⟩ : ∃ L, L = l ++ r := ⟨_, rfl⟩
  have HFew : Seal ((decide (kn ≤ 30) && decide (N ≤ 16)) = true) := ⟨by rw [Bool.and_eq_true, decide_eq_true_eq, decide_eq_true_eq]; omega⟩
  have HALL : Seal ((l ++ r).length = N ∧ ∀ x ∈ l ++ r, x.ok) := ⟨by rw [List.length_append, hl.1, hr.1, hN], fun x hx => by
    rcases List.mem_append.1 hx with h | h
    · exact hl.2.1 x h
    · exact hr.2.1 x h⟩
  have HAL := Seal.mk hALL
  have HNN : Seal (N ≤ 16 ∧ n ≤ 16 ∧ kn ≤ 30) := ⟨by omega⟩
  have hox : on ≤ 1048576 := hon
  have hnx : N ≤ 5000 := by omega
  have uH := Tryd.underlying29
  clear hG hl hr hk ho hsz hon hn hN hALL
  go_enter Tryd.func11, Tryd.ntmps11
  go_wp2_with fail
  refine (sane51_any w (HG.out w HB.out)).mono ?_
  rintro e w1 ⟨rfl, hb⟩
  have HB2 := Seal.mk (HB.out.trans (hb.mono HB.out.size))
  clear HB
  have HB := HB2
  clear HB2
  clear hb
  go_wp2_with (first
    | (at_builtin; go_loud (refine wpList_append_h rfl (.tmp 26) (.tmp 27) rfl w1.heap.size (.slice (some ⟨w1.heap.size, 0, none⟩) 0 0) [] rfl (own_lit w1 w1.heap.size (Nat.le_refl _)) (by simp) a n c l rfl (HL.out _ (HB.out.trans (((Below.refl _ w1).alloc (Nat.le_refl _) _).mono HB.out.size))) (by have := HSZ.out; have := HLN.out; simp only [List.length_nil]; omega) (by simp) ?_; intro v2 w2 hown2 hne2 hb2; have HM2 : Seal (w2.ownsRow w1.heap.size 29 42 v2 l.length (hcells l) ∧ v2 ≠ .slice none 0 0 ∧ Below w1.heap.size w1 w2) := ⟨(by simpa using hown2), hne2, hb2 w1 ((Below.refl _ w1).alloc (Nat.le_refl _) _)⟩; clear hown2 hne2 hb2; have HN2 := HM2; clear HM2; obtain ⟨va2, vn2, vc2, rfl⟩ := slice_form HN2.out.1; (try simp only [Act.put, List.setIfInBounds_toArray, List.set_cons_zero, List.set_cons_succ])))
    | (at_builtin; go_loud (refine wpList_append_h rfl (.tmp 28) (.tmp 29) rfl w1.heap.size _ l rfl HN2.out.1 HN2.out.2.1 b m d r rfl (HR.out _ (HB.out.trans (HN2.out.2.2.mono HB.out.size))) (by have := HSZ.out; have := HLN.out; omega) (HN2.out.2.2.size) ?_; intro v2 w2 hown2 hne2 hb2; have HM2 : Seal (w2.ownsRow w1.heap.size 29 42 v2 (l ++ r).length (hcells (l ++ r)) ∧ v2 ≠ .slice none 0 0 ∧ Below w1.heap.size w1 w2) := ⟨(by simpa using hown2), hne2, hb2 w1 HN2.out.2.2⟩; clear hown2 hne2 hb2 HN2; have HN2 := HM2; clear HM2; obtain ⟨va2, vn2, vc2, rfl⟩ := slice_form HN2.out.1; (try simp only [Act.put, List.setIfInBounds_toArray, List.set_cons_zero, List.set_cons_succ]))))
  have HB2 := Seal.mk (HB.out.trans (HN2.out.2.2.mono HB.out.size))
  clear HB
  have HB := HB2
  clear HB2
  have hLN : (l ++ r).length = N := HALL.out.1
  obtain ⟨a2, c2, hv, _⟩ := src_of_own HN2.out.1 HALL.out.2
  rw [hLN] at hv
  cases hv
  clear HN2
  refine (rfew_any _ ka N _ kn kc _ w2 HFew.out).mono ?_
  rintro e w3 ⟨rfl, rfl⟩
  go_upto_region 6 with (first
    | (at_builtin; go_loud (refine wpList_append_h rfl (.tmp 33) (.tmp 34) rfl w2.heap.size (.slice (some ⟨w2.heap.size, 0, none⟩) 0 0) [] rfl (own_lit w2 w2.heap.size (Nat.le_refl _)) (by simp) a n c l rfl (HL.out _ (HB.out.trans (((Below.refl _ w2).alloc (Nat.le_refl _) _).mono HB.out.size))) (by have := HSZ.out; have := HLN.out; simp only [List.length_nil]; omega) (by simp) ?_; intro v4 w4 hown4 hne4 hb4; have HM4 : Seal (w4.ownsRow w2.heap.size 29 42 v4 l.length (hcells l) ∧ v4 ≠ .slice none 0 0 ∧ Below w2.heap.size w2 w4) := ⟨(by simpa using hown4), hne4, hb4 w2 ((Below.refl _ w2).alloc (Nat.le_refl _) _)⟩; clear hown4 hne4 hb4; have HN4 := HM4; clear HM4; obtain ⟨va4, vn4, vc4, rfl⟩ := slice_form HN4.out.1; (try simp only [Act.put, List.setIfInBounds_toArray, List.set_cons_zero, List.set_cons_succ])))
    | (at_builtin; go_loud (refine wpList_append_h rfl (.tmp 35) (.tmp 36) rfl w2.heap.size _ l rfl HN4.out.1 HN4.out.2.1 b m d r rfl (HR.out _ (HB.out.trans (HN4.out.2.2.mono HB.out.size))) (by have := HSZ.out; have := HLN.out; omega) (HN4.out.2.2.size) ?_; intro v4 w4 hown4 hne4 hb4; have HM4 : Seal (w4.ownsRow w2.heap.size 29 42 v4 (l ++ r).length (hcells (l ++ r)) ∧ v4 ≠ .slice none 0 0 ∧ Below w2.heap.size w2 w4) := ⟨(by simpa using hown4), hne4, hb4 w2 HN4.out.2.2⟩; clear hown4 hne4 hb4 HN4; have HN4 := HM4; clear HM4; obtain ⟨va4, vn4, vc4, rfl⟩ := slice_form HN4.out.1; (try simp only [Act.put, List.setIfInBounds_toArray, List.set_cons_zero, List.set_cons_succ]))))
  have HB2 := Seal.mk (HB.out.trans (HN4.out.2.2.mono HB.out.size))
  clear HB
  have HB := HB2
  clear HB2
  obtain ⟨a40, c40, hv, hSrc4⟩ := src_of_own HN4.out.1 HALL.out.2
  rw [HALL.out.1] at hv hSrc4
  cases hv
  have HS4 := Seal.mk hSrc4
  clear HN4 hSrc4
  go_upto_block 0 with (first
    | (at_builtin; go_loud (refine wpList_append_h rfl (.tmp 38) (.tmp 39) rfl w4.heap.size (.slice (some ⟨w4.heap.size, 0, none⟩) 0 0) [] rfl (own_lit w4 w4.heap.size (Nat.le_refl _)) (by simp) _ _ _ (l ++ r) rfl (HS4.out.below (below_alloc _ _)) (by have := HALL.out.1; have := HNN.out.1; simp only [List.length_nil, List.length_append] at *; omega) (by simp) ?_; intro v8 w8 hown8 hne8 hb8; have HM8 : Seal (w8.ownsRow w4.heap.size 29 42 v8 (l ++ r).length (hcells (l ++ r)) ∧ v8 ≠ .slice none 0 0 ∧ Below w4.heap.size w4 w8) := ⟨(by simpa using hown8), hne8, hb8 w4 ((Below.refl _ w4).alloc (Nat.le_refl _) _)⟩; clear hown8 hne8 hb8; obtain ⟨va8, vn8, vc8, rfl⟩ := slice_form HM8.out.1; (try simp only [Act.put, List.setIfInBounds_toArray, List.set_cons_zero, List.set_cons_succ]))))
  obtain ⟨gT, cT0, R, hv, hgT, hcT, hcM, hTurn⟩ := turn_of_own HM8.out.1 HM8.out.2.1 HALL.out.2
  rw [HALL.out.1] at hv hcT
  cases hv
  rw [← HAL.out] at hTurn
  have HGT : Seal (w4.heap.size ≤ gT ∧ N ≤ vc8 ∧ vc8 ≤ 9223372036854775807) := ⟨⟨hgT, hcT, hcM⟩⟩
  have hlA : ALL.length = N := by rw [HAL.out]; exact HALL.out.1
  have H0 : Seal (TurnP w8 gT ALL R ∧ ALL.length = N ∧ (∀ h, h ∈ ALL ↔ h ∈ ALL) ∧ Below w4.heap.size w4 w8) := ⟨hTurn, hlA, fun _ => Iff.rfl, HM8.out.2.2⟩
  clear HM8 hgT hcT hcM hTurn hlA
  go_cut [] from 11 (fun wx => ∃ t, TurnP wx gT t R ∧ t.length = N ∧ (∀ h, h ∈ t ↔ h ∈ ALL) ∧ Below w4.heap.size w4 wx)
  case first =>
    go_wp2_with fail
    go_loopw [11] (fun i wr => ∃ (j : Nat) (t : List Hd), j ≤ N ∧ i = .int .i64 j ∧ Seal (TurnP wr gT t R ∧ t.length = N ∧ (∀ h, h ∈ t ↔ h ∈ ALL) ∧ Below w4.heap.size w4 wr)) (fun i _ => N - (intOf i).toNat)
    case atStart => exact ⟨0, ALL, by omega, rfl, ⟨H0.out.1, H0.out.2.1, fun _ => Iff.rfl, H0.out.2.2.2⟩⟩
    case round =>
      obtain ⟨wo, rfl⟩ : ∃ z, z = wr := ⟨_, rfl⟩
      obtain ⟨j, t, hj, rfl, hH⟩ := hrel
      clear H0
      by_cases hlo : j < on
      · have q1 : (j : Int) < (on : Int) := by omega
        by_cases hlt : j < N
        · have q2 : (j : Int) < (N : Int) := by omega
          have q3 : (0 : Int) ≤ (j : Int) := by omega
          have hIb := HO.out wo (HB.out.trans (hH.out.2.2.2.mono HB.out.size))
          rcases hIb.at_ with hz | ⟨go, oo, rfl, hro, hgo⟩
          · omega
          · obtain ⟨u, hu⟩ : ∃ u, ob[j]? = some u := ⟨_, List.getElem?_eq_getElem (by have := hIb.llen; omega)⟩
            have co : wo.cell? ⟨go, oo + j, none⟩ = some (.int .u8 (u.toNat : Int)) := hro j (B u) (by rw [List.getElem?_map, hu]; rfl)
            obtain ⟨un, hun⟩ : ∃ un, un = u.toNat := ⟨_, rfl⟩
            have hu8 : un < 256 := by rw [hun]; exact u.toNat_lt
            rw [← hun] at co
            obtain ⟨p, hpn, z6⟩ : ∃ p : Nat, p < N - j ∧ (un : Int).tmod ((N : Int) - (j : Int)) = (p : Int) := ⟨un % (N - j), Nat.mod_lt _ (by omega), by rw [show (N : Int) - (j : Int) = ((N - j : Nat) : Int) from by omega]; rfl⟩
            obtain ⟨k, hk⟩ : ∃ k, k = j + p := ⟨_, rfl⟩
            have z7 : (j : Int) + (p : Int) = (k : Int) := by omega
            have z5 : IntKind.i64.wrap ((N : Int) - (j : Int)) = (N : Int) - (j : Int) := IntWalk.i64_in _ (by omega)
            have z4 : ((N : Int) - (j : Int) == 0) = false := by simp; omega
            have z8 : IntKind.i64.wrap (un : Int) = (un : Int) := IntWalk.i64_in _ (by omega)
            have z9 : IntKind.i64.wrap (k : Int) = (k : Int) := IntWalk.i64_in _ (by omega)
            have hkN : k < N := by omega
            have q4 : (k : Int) < (N : Int) := by omega
            have q5 : (0 : Int) ≤ (k : Int) := by omega
            have htl := hH.out.2.1
            obtain ⟨x, hx⟩ : ∃ x, t[j]? = some x := ⟨_, List.getElem?_eq_getElem (by omega)⟩
            obtain ⟨y, hy⟩ : ∃ y, t[k]? = some y := ⟨_, List.getElem?_eq_getElem (by omega)⟩
            have okX := hH.out.1.2 x (List.mem_of_getElem? hx)
            have okY := hH.out.1.2 y (List.mem_of_getElem? hy)
            obtain ⟨CX, hCX⟩ : ∃ C, C = x.C := ⟨_, rfl⟩
            obtain ⟨CY, hCY⟩ : ∃ C, C = y.C := ⟨_, rfl⟩
            have iX : (Tryd.prog.info? 29).map (·.size) = some CX.length := by rw [hCX]; exact Hd.C_info okX.t32
            have iY : (Tryd.prog.info? 29).map (·.size) = some CY.length := by rw [hCY]; exact Hd.C_info okY.t32
            have HC : Seal (CX = x.C ∧ CY = y.C) := ⟨hCX, hCY⟩
            have HFT : Seal (j * 42 + CY.length ≤ (hcells t ++ R).length ∧ k * 42 + CX.length ≤ (hcells (t.set j y) ++ R).length ∧ (j < t.length ∧ k < t.length ∧ x.ok ∧ y.ok) ∧ (∀ v ∈ CY, v.oneCell' = true) ∧ (∀ v ∈ CX, v.oneCell' = true)) := ⟨by
              rw [hCX, hCY, Hd.C_len okX.t32, Hd.C_len okY.t32, List.length_append, List.length_append, hcells_len hH.out.1.2, hcells_len (fun z hz => (by
                rcases List.mem_or_eq_of_mem_set hz with e | e
                · exact hH.out.1.2 z e
                · rw [e]; exact okY)), List.length_set]
              exact ⟨by omega, by omega, ⟨by omega, by omega, okX, okY⟩, Hd.C_one y, Hd.C_one x⟩⟩
            have HTM : Seal (t.length = N ∧ (∀ h, h ∈ t ↔ h ∈ ALL) ∧ t[j]? = some x ∧ t[k]? = some y) := ⟨hH.out.2.1, hH.out.2.2.1, hx, hy⟩
            clear hIb hro hgo hu hun hk hpn htl hx hy okX okY hCX hCY
            go_wp2_with fail
            refine wp_region_held_drew (S := fun _ => True) (by kernel_rfl) trivial (fun hHeld => ?_)
            obtain ⟨V, hV⟩ : ∃ Z, Z = wo.drew := ⟨_, rfl⟩
            have HT : Seal (TurnP V gT t R ∧ Below w4.heap.size w4 V) := ⟨by rw [hV]; exact ⟨hH.out.1.below (below_drewn _), hH.out.2.2.2.trans ((below_drewn _).mono hH.out.2.2.2.size)⟩⟩
            have rX : V.rangeAt gT (j * 42) CX := by rw [HC.out.1]; exact HT.out.1.row HTM.out.2.2.1
            have rY : V.rangeAt gT (k * 42) CY := by rw [HC.out.2]; exact HT.out.1.row HTM.out.2.2.2
            clear hHeld
            have hHeld : True := trivial
            rw [← hV]
            clear hV hH co
            refine take_h 0 ?_ rfl (by kernel_rfl) (by kernel_rfl) (by kernel_rfl) (fun _ _ _ h => h) (Or.inl ⟨by kernel_rfl, ?_⟩) (by assumption) ?_
            rotate_left
            · (intro w hSw; (try dsimp only at hSw); go_simp; try (with_reducible rfl))
            try simp only [Act.put, List.setIfInBounds_toArray, List.set_cons_zero, List.set_cons_succ]
            refine take_h 1 ?_ rfl (by kernel_rfl) (by kernel_rfl) (by kernel_rfl) (fun _ _ _ h => h) (Or.inl ⟨by kernel_rfl, ?_⟩) (by assumption) ?_
            rotate_left
            · (intro w hSw; (try dsimp only at hSw); go_simp; try (with_reducible rfl))
            try simp only [Act.put, List.setIfInBounds_toArray, List.set_cons_zero, List.set_cons_succ]
            refine take_h 2 ?_ rfl (by kernel_rfl) (by kernel_rfl) (by kernel_rfl) (fun _ _ _ h => h) (Or.inl ⟨by kernel_rfl, ?_⟩) (by assumption) ?_
            rotate_left
            · (intro w hSw; (try dsimp only at hSw); go_simp; try (with_reducible rfl))
            try simp only [Act.put, List.setIfInBounds_toArray, List.set_cons_zero, List.set_cons_succ]
            refine take_h 3 ?_ rfl (by kernel_rfl) (by kernel_rfl) (by kernel_rfl) (fun _ _ _ h => h) (Or.inl ⟨by kernel_rfl, ?_⟩) (by assumption) ?_
            rotate_left
            · (intro w hSw; (try dsimp only at hSw); go_simp; try (with_reducible rfl))
            try simp only [Act.put, List.setIfInBounds_toArray, List.set_cons_zero, List.set_cons_succ]
            refine take_h 4 ?_ rfl (by kernel_rfl) (by kernel_rfl) (by kernel_rfl) (fun _ _ _ h => h) (Or.inl ⟨by kernel_rfl, ?_⟩) (by assumption) ?_
            rotate_left
            · (intro w hSw; (try dsimp only at hSw); go_simp; try (with_reducible rfl))
            try simp only [Act.put, List.setIfInBounds_toArray, List.set_cons_zero, List.set_cons_succ]
            refine take_h 5 ?_ rfl (by kernel_rfl) (by kernel_rfl) (by kernel_rfl) (fun _ _ _ h => h) (Or.inl ⟨by kernel_rfl, ?_⟩) (by assumption) ?_
            rotate_left
            · (intro w hSw; (try dsimp only at hSw); go_simp; try (with_reducible rfl))
            try simp only [Act.put, List.setIfInBounds_toArray, List.set_cons_zero, List.set_cons_succ]
            refine take_h 6 ?_ rfl (by kernel_rfl) (by kernel_rfl) (by kernel_rfl) (fun _ _ _ h => h) (Or.inl ⟨by kernel_rfl, ?_⟩) (by assumption) ?_
            rotate_left
            · (intro w hSw; (try dsimp only at hSw); go_simp; try (with_reducible rfl))
            try simp only [Act.put, List.setIfInBounds_toArray, List.set_cons_zero, List.set_cons_succ]
            refine take_h 8 ?_ rfl (by kernel_rfl) (by kernel_rfl) (by kernel_rfl) (fun _ _ _ h => h) (Or.inl ⟨by kernel_rfl, ?_⟩) (by assumption) ?_
            rotate_left
            · (intro w hSw; (try dsimp only at hSw); go_simp; try (with_reducible rfl))
            try simp only [Act.put, List.setIfInBounds_toArray, List.set_cons_zero, List.set_cons_succ]
            refine take_h 9 ?_ rfl (by kernel_rfl) (by kernel_rfl) (by kernel_rfl) (fun _ _ _ h => h) (Or.inl ⟨by kernel_rfl, ?_⟩) (by assumption) ?_
            rotate_left
            · (intro w hSw; (try dsimp only at hSw); go_simp; try (with_reducible rfl))
            try simp only [Act.put, List.setIfInBounds_toArray, List.set_cons_zero, List.set_cons_succ]
            refine take_h 10 ?_ rfl (by kernel_rfl) (by kernel_rfl) (by kernel_rfl) (fun _ _ _ h => h) (Or.inl ⟨by kernel_rfl, ?_⟩) (by assumption) ?_
            rotate_left
            · (intro w hSw; (try dsimp only at hSw); go_simp; try (with_reducible rfl))
            try simp only [Act.put, List.setIfInBounds_toArray, List.set_cons_zero, List.set_cons_succ]
            refine wpAnyH_ready (by kernel_rfl) (by simp) (oper_b 7 (.agg CY.toArray) V rfl (by kernel_rfl) (exec_load_mid 29 (.tmp 71) rfl gT (k * 42) rfl CY _ rY uH rfl iY) trivial (fun _ => ?_) (oper_b 11 (.agg CX.toArray) V rfl (by kernel_rfl) (exec_load_mid 29 (.tmp 75) rfl gT (j * 42) rfl CX _ rX uH rfl iX) trivial (fun _ => ?_) AllReadyH.nil))
            · try simp only [Act.put, List.setIfInBounds_toArray, List.set_cons_zero, List.set_cons_succ]
              refine oper_h 11 (.agg CX.toArray) V rfl (by kernel_rfl) (by kernel_rfl) (exec_load_mid 29 (.tmp 75) rfl gT (j * 42) rfl CX _ rX uH rfl iX) trivial (fun _ => ?_)
              try simp only [Act.put, List.setIfInBounds_toArray, List.set_cons_zero, List.set_cons_succ]
              clear rX rY
              refine take_h 12 ?_ rfl (by kernel_rfl) (by kernel_rfl) (by kernel_rfl) (fun _ _ _ h => h) (Or.inl ⟨by kernel_rfl, ?_⟩) (by assumption) ?_
              rotate_left
              · (intro w hSw; (try dsimp only at hSw); go_simp; try (with_reducible rfl))
              try simp only [Act.put, List.setIfInBounds_toArray, List.set_cons_zero, List.set_cons_succ]
              refine skip_h 13 (V.setRow gT (lay (hcells t ++ R) (j * 42) CY).toArray) rfl (by kernel_rfl) (by kernel_rfl) (exec_store_mid 29 (.tmp 77) (.tmp 72) rfl gT (j * 42) CY rfl rfl 29 (hcells t ++ R) HT.out.1.1 iY HFT.out.1 HFT.out.2.2.2.1) trivial (fun _ => ?_)
              try simp only [Act.put]
              obtain ⟨V1, hV1⟩ : ∃ Z, Z = V.setRow gT (lay (hcells t ++ R) (j * 42) CY).toArray := ⟨_, rfl⟩
              have HT1 : Seal (TurnP V1 gT (t.set j y) R ∧ Below w4.heap.size w4 V1) := ⟨by rw [hV1, HC.out.2]; exact ⟨HT.out.1.set HFT.out.2.2.1.1 HFT.out.2.2.1.2.2.2, below_row HT.out.2 HGT.out.1 _⟩⟩
              rw [← hV1]
              clear hV1
              refine take_h 14 ?_ rfl (by kernel_rfl) (by kernel_rfl) (by kernel_rfl) (fun _ _ _ h => h) (Or.inl ⟨by kernel_rfl, ?_⟩) (by assumption) ?_
              rotate_left
              · (intro w hSw; (try dsimp only at hSw); go_simp; try (with_reducible rfl))
              try simp only [Act.put, List.setIfInBounds_toArray, List.set_cons_zero, List.set_cons_succ]
              refine skip_h 15 (V1.setRow gT (lay (hcells (t.set j y) ++ R) (k * 42) CX).toArray) rfl (by kernel_rfl) (by kernel_rfl) (exec_store_mid 29 (.tmp 78) (.tmp 76) rfl gT (k * 42) CX rfl rfl 29 (hcells (t.set j y) ++ R) HT1.out.1.1 iX HFT.out.2.1 HFT.out.2.2.2.2) trivial (fun _ => ?_)
              try simp only [Act.put]
              obtain ⟨V2, hV2⟩ : ∃ Z, Z = V1.setRow gT (lay (hcells (t.set j y) ++ R) (k * 42) CX).toArray := ⟨_, rfl⟩
              have HT2 : Seal (TurnP V2 gT ((t.set j y).set k x) R ∧ ((t.set j y).set k x).length = N ∧ (∀ h, h ∈ (t.set j y).set k x ↔ h ∈ ALL) ∧ Below w4.heap.size w4 V2) := ⟨by
                rw [hV2, HC.out.1]
                exact ⟨HT1.out.1.set (by rw [List.length_set]; exact HFT.out.2.2.1.2.1) HFT.out.2.2.1.2.2.1, by rw [List.length_set, List.length_set]; exact HTM.out.1, fun h => (swap_mem HTM.out.2.2.1 HTM.out.2.2.2 h).trans (HTM.out.2.1 h), below_row HT1.out.2 HGT.out.1 _⟩⟩
              rw [← hV2]
              clear hV2
              refine wpAnyH_done (by kernel_rfl) ?_ _
              clear hHeld
              go_wp2
              go_roundw
              case rel => exact ⟨j + 1, (t.set j y).set k x, by omega, by go_num, HT2⟩
              case measure => simp [intOf]; omega
            · try simp only [Act.put, List.setIfInBounds_toArray, List.set_cons_zero, List.set_cons_succ]
              refine oper_h 7 (.agg CY.toArray) V rfl (by kernel_rfl) (by kernel_rfl) (exec_load_mid 29 (.tmp 71) rfl gT (k * 42) rfl CY _ rY uH rfl iY) trivial (fun _ => ?_)
              try simp only [Act.put, List.setIfInBounds_toArray, List.set_cons_zero, List.set_cons_succ]
              clear rX rY
              refine take_h 12 ?_ rfl (by kernel_rfl) (by kernel_rfl) (by kernel_rfl) (fun _ _ _ h => h) (Or.inl ⟨by kernel_rfl, ?_⟩) (by assumption) ?_
              rotate_left
              · (intro w hSw; (try dsimp only at hSw); go_simp; try (with_reducible rfl))
              try simp only [Act.put, List.setIfInBounds_toArray, List.set_cons_zero, List.set_cons_succ]
              refine skip_h 13 (V.setRow gT (lay (hcells t ++ R) (j * 42) CY).toArray) rfl (by kernel_rfl) (by kernel_rfl) (exec_store_mid 29 (.tmp 77) (.tmp 72) rfl gT (j * 42) CY rfl rfl 29 (hcells t ++ R) HT.out.1.1 iY HFT.out.1 HFT.out.2.2.2.1) trivial (fun _ => ?_)
              try simp only [Act.put]
              obtain ⟨V1, hV1⟩ : ∃ Z, Z = V.setRow gT (lay (hcells t ++ R) (j * 42) CY).toArray := ⟨_, rfl⟩
              have HT1 : Seal (TurnP V1 gT (t.set j y) R ∧ Below w4.heap.size w4 V1) := ⟨by rw [hV1, HC.out.2]; exact ⟨HT.out.1.set HFT.out.2.2.1.1 HFT.out.2.2.1.2.2.2, below_row HT.out.2 HGT.out.1 _⟩⟩
              rw [← hV1]
              clear hV1
              refine take_h 14 ?_ rfl (by kernel_rfl) (by kernel_rfl) (by kernel_rfl) (fun _ _ _ h => h) (Or.inl ⟨by kernel_rfl, ?_⟩) (by assumption) ?_
              rotate_left
              · (intro w hSw; (try dsimp only at hSw); go_simp; try (with_reducible rfl))
              try simp only [Act.put, List.setIfInBounds_toArray, List.set_cons_zero, List.set_cons_succ]
              refine skip_h 15 (V1.setRow gT (lay (hcells (t.set j y) ++ R) (k * 42) CX).toArray) rfl (by kernel_rfl) (by kernel_rfl) (exec_store_mid 29 (.tmp 78) (.tmp 76) rfl gT (k * 42) CX rfl rfl 29 (hcells (t.set j y) ++ R) HT1.out.1.1 iX HFT.out.2.1 HFT.out.2.2.2.2) trivial (fun _ => ?_)
              try simp only [Act.put]
              obtain ⟨V2, hV2⟩ : ∃ Z, Z = V1.setRow gT (lay (hcells (t.set j y) ++ R) (k * 42) CX).toArray := ⟨_, rfl⟩
              have HT2 : Seal (TurnP V2 gT ((t.set j y).set k x) R ∧ ((t.set j y).set k x).length = N ∧ (∀ h, h ∈ (t.set j y).set k x ↔ h ∈ ALL) ∧ Below w4.heap.size w4 V2) := ⟨by
                rw [hV2, HC.out.1]
                exact ⟨HT1.out.1.set (by rw [List.length_set]; exact HFT.out.2.2.1.2.1) HFT.out.2.2.1.2.2.1, by rw [List.length_set, List.length_set]; exact HTM.out.1, fun h => (swap_mem HTM.out.2.2.1 HTM.out.2.2.2 h).trans (HTM.out.2.1 h), below_row HT1.out.2 HGT.out.1 _⟩⟩
              rw [← hV2]
              clear hV2
              refine wpAnyH_done (by kernel_rfl) ?_ _
              clear hHeld
              go_wp2
              go_roundw
              case rel => exact ⟨j + 1, (t.set j y).set k x, by omega, by go_num, HT2⟩
              case measure => simp [intOf]; omega
        · have q2 : ¬ (j : Int) < (N : Int) := by omega
          go_wp2
          go_meet
          case rel => exact ⟨t, hH.out⟩
      · have q1 : ¬ (j : Int) < (on : Int) := by omega
        go_wp2
        go_meet
        case rel => exact ⟨t, hH.out⟩
  case rest =>
    obtain ⟨t, hT, htl, htm, hbT⟩ := hcut
    have HB2 := Seal.mk (HB.out.trans (hbT.mono HB.out.size))
    have HST := Seal.mk (show IsHs wc (some ⟨gT, 0, none⟩) N vc8 t from (by
      have h := hT.hs (c := vc8) (by omega) (by have := HGT.out; omega) HGT.out.2.2
      rwa [htl] at h))
    have HSA := Seal.mk (show IsHs wc va4 N vc4 ALL from by rw [HAL.out]; exact (HS4.out.hs hnx).below hbT)
    have HSL := Seal.mk (show IsHs wc a n c l from (HL.out wc HB2.out).hs (by have := HNN.out; omega))
    have HSK := Seal.mk (show IsKs wc ka kn kc ks from HK.out wc HB2.out (by have := HNN.out; omega))
    have HSG := Seal.mk (HG.out wc HB2.out)
    obtain ⟨FL, hFL⟩ : ∃ F, F = fnd ks l := ⟨_, rfl⟩
    obtain ⟨FA, hFA⟩ : ∃ F, F = fnd ks ALL := ⟨_, rfl⟩
    obtain ⟨FT, hFT⟩ : ∃ F, F = fnd ks t := ⟨_, rfl⟩
    obtain ⟨er, her⟩ : ∃ F, F = ler ks := ⟨_, rfl⟩
    obtain ⟨fx, hfx⟩ : ∃ F, F = FL.length := ⟨_, rfl⟩
    obtain ⟨fy, hfy⟩ : ∃ F, F = FA.length := ⟨_, rfl⟩
    have hsame := fnd_same ks htm
    rw [← hFT, ← hFA] at hsame
    have HFX : Seal ((∀ x ∈ FL, x.1.ok ∧ x.2.ok) ∧ FL.length ≤ 5000 ∧ FL.length = fx) := ⟨by rw [hfx, hFL]; exact ⟨fnd_ok HSL.out.each, Nat.le_trans (fnd_len _ _) (by decide), rfl⟩⟩
    have HFY : Seal ((∀ x ∈ FA, x.1.ok ∧ x.2.ok) ∧ FA.length ≤ 5000 ∧ FA.length = fy) := ⟨by rw [hfy, hFA]; exact ⟨fnd_ok HSA.out.each, Nat.le_trans (fnd_len _ _) (by decide), rfl⟩⟩
    have HFZ : Seal ((∀ x ∈ FT, x.1.ok ∧ x.2.ok) ∧ FT.length ≤ 5000 ∧ FT.length = fy) := ⟨by rw [hfy, ← hsame.1, hFT]; exact ⟨fnd_ok HST.out.each, Nat.le_trans (fnd_len _ _) (by decide), rfl⟩⟩
    have HSM := Seal.mk hsame.2
    have HMR : Seal (kn ≤ 24 → ∀ x ∈ FL, anyM FA x = true) := ⟨fun h24 x hx => by rw [hFA]; rw [hFL] at hx; exact anyM_all (by have := HSK.out.llen; omega) (fun h hh => by rw [HAL.out]; exact List.mem_append_left _ hh) hx⟩
    have HF1 : Seal (∀ W, Below wc.heap.size wc W → Calls Tryd.prog 34 #[.slice ka kn kc, .slice a n c] W (FindPost FL er W)) := ⟨fun W hW => by rw [hFL, her]; exact cfind_any n c kn kc a ka l ks W (HSG.out.below hW) (HSL.out.below hW) (HSK.out.below hW) (by have := HNN.out; omega)⟩
    have HF2 : Seal (∀ W, Below wc.heap.size wc W → Calls Tryd.prog 34 #[.slice ka kn kc, .slice va4 N vc4] W (FindPost FA er W)) := ⟨fun W hW => by rw [hFA, her]; exact cfind_any N vc4 kn kc va4 ka ALL ks W (HSG.out.below hW) (HSA.out.below hW) (HSK.out.below hW) (by have := HNN.out; omega)⟩
    have HF3 : Seal (∀ W, Below wc.heap.size wc W → Calls Tryd.prog 34 #[.slice ka kn kc, .slice (some ⟨gT, 0, none⟩) N vc8] W (FindPost FT er W)) := ⟨fun W hW => by rw [hFT, her]; exact cfind_any N vc8 kn kc _ ka t ks W (HSG.out.below hW) (HST.out.below hW) (HSK.out.below hW) (by have := HNN.out; omega)⟩
    have HER : Seal ((24 < kn → er = 2) ∧ (kn ≤ 24 → er = 0)) := ⟨by have := HSK.out.llen; rw [her]; unfold ler; exact ⟨fun h => if_pos (by omega), fun h => if_neg (by omega)⟩⟩
    have hfxx : fx ≤ 5000 := by have := HFX.out.2; omega
    have hfyx : fy ≤ 5000 := by have := HFY.out.2; omega
    clear hT htl htm hbT HB hFL hFA hFT her hfx hfy hsame HST HSA HSL HSK HSG HL HR HK HO HG HS4 HGT H0 HALL HAL HFew HSZ HLN hox hnx
    go_wp2_with fail
    refine (HF1.out wc (Below.refl _ _)).mono ?_
    rintro e w5 ⟨vx, rfl, hP⟩
    obtain ⟨ax, cx, hv, hX⟩ := isLs_own hP.out.1 HFX.out.1 HFX.out.2.1
    rw [HFX.out.2.2] at hv hX
    obtain rfl : vx = .slice ax fx cx := hv
    have HB5 := Seal.mk hP.out.2
    have HX5 := Seal.mk hX
    clear hP hX HF1
    go_wp2_with fail
    refine (HF2.out w5 HB5.out).mono ?_
    rintro e w6 ⟨vy, rfl, hP⟩
    obtain ⟨ay, cy, hv, hX⟩ := isLs_own hP.out.1 HFY.out.1 HFY.out.2.1
    rw [HFY.out.2.2] at hv hX
    obtain rfl : vy = .slice ay fy cy := hv
    have HB6 := Seal.mk (HB5.out.trans (hP.out.2.mono HB5.out.size))
    have HX6 := Seal.mk (HX5.out.below hP.out.2)
    have HY6 := Seal.mk hX
    clear hP hX HF2 HB5 HX5
    go_wp2_with fail
    refine (HF3.out w6 HB6.out).mono ?_
    rintro e w7 ⟨vz, rfl, hP⟩
    obtain ⟨az, cz, hv, hX⟩ := isLs_own hP.out.1 HFZ.out.1 HFZ.out.2.1
    rw [HFZ.out.2.2] at hv hX
    obtain rfl : vz = .slice az fy cz := hv
    have HB := Seal.mk (HB2.out.trans ((HB6.out.trans (hP.out.2.mono HB6.out.size)).mono HB2.out.size))
    have HX := Seal.mk (HX6.out.below hP.out.2)
    have HY := Seal.mk (HY6.out.below hP.out.2)
    have HZ := Seal.mk hX
    clear hP hX HF3 HB6 HX6 HY6 HB2
    by_cases h24 : 24 < kn
    · obtain rfl := HER.out.1 h24
      go_wp2
      go_ret
      exact ⟨rfl, HB.out⟩
    · obtain rfl := HER.out.2 (by omega)
      have HMA := Seal.mk (HMR.out (by omega))
      clear HER HMR h24
      have uR := Tryd.underlying23
      have H0 : Seal (Below w7.heap.size w7 w7) := ⟨Below.refl _ _⟩
      go_wp2
      go_loopw [19] (fun i wr => ∃ (j : Nat), j ≤ fy ∧ i = .int .i64 j ∧ Seal (Below w7.heap.size w7 wr)) (fun i _ => fy - (intOf i).toNat)
      case atStart => exact ⟨0, by omega, rfl, H0⟩
      case round =>
        obtain ⟨wo, rfl⟩ : ∃ z, z = wr := ⟨_, rfl⟩
        obtain ⟨j, hj, rfl, hH⟩ := hrel
        by_cases hlt : j < fy
        · have q1 : (j : Int) < (fy : Int) := by omega
          have q2 : (0 : Int) ≤ (j : Int) := by omega
          obtain ⟨y, hy⟩ : ∃ y, FA[j]? = some y := ⟨_, List.getElem?_eq_getElem (by have := HFY.out.2.2; omega)⟩
          obtain ⟨z, hz⟩ : ∃ z, FT[j]? = some z := ⟨_, List.getElem?_eq_getElem (by have := HFZ.out.2.2; omega)⟩
          have hsl := (cq_sl _ _).1 (HSM.out j z y hz hy)
          rcases (HY.out.below hH.out).at_ with h0 | ⟨g1, o1, rfl, hr1, _⟩
          · omega
          rcases (HZ.out.below hH.out).at_ with h0 | ⟨g2, o2, rfl, hr2, _⟩
          · omega
          have r1 := rangeC_at hr1 (fun x hx => lieC_len ((HFY.out.1 x hx).1.t32) ((HFY.out.1 x hx).2.t32)) hy
          have r2 := rangeC_at hr2 (fun x hx => lieC_len ((HFZ.out.1 x hx).1.t32) ((HFZ.out.1 x hx).2.t32)) hz
          obtain ⟨fr, hfr⟩ : ∃ i, i = y.1.fr := ⟨_, rfl⟩
          obtain ⟨lg, hlg⟩ : ∃ i, i = y.1.leg := ⟨_, rfl⟩
          have c14 : wo.cell? ⟨g1, o1 + j * 84 + 4, none⟩ = some (.int .i64 fr) := r1 4 _ (by rw [hfr]; rfl)
          have c13 : wo.cell? ⟨g1, o1 + j * 84 + 3, none⟩ = some (.int .i64 lg) := r1 3 _ (by rw [hlg]; rfl)
          have c24 : wo.cell? ⟨g2, o2 + j * 84 + 4, none⟩ = some (.int .i64 fr) := r2 4 _ (by rw [hfr, ← hsl.2.2.2.2]; rfl)
          have c23 : wo.cell? ⟨g2, o2 + j * 84 + 3, none⟩ = some (.int .i64 lg) := r2 3 _ (by rw [hlg, ← hsl.2.2.2.1]; rfl)
          obtain ⟨RL, hRL⟩ : ∃ C, C = [Value.int .i64 y.1.L, .int .i64 y.1.A, .int .i64 y.1.R] := ⟨_, rfl⟩
          have r13 := rangeAt_take r1 3
          have r23 := rangeAt_take r2 3
          rw [show (lieC y.1 y.2).take 3 = RL from by rw [hRL]; rfl] at r13
          rw [show (lieC z.1 z.2).take 3 = RL from by rw [hRL, ← hsl.1, ← hsl.2.1, ← hsl.2.2.1]; rfl] at r23
          have qeR : ∀ w, (Op.equalIn 10000 23 (.agg RL.toArray) (.agg RL.toArray)).run Tryd.prog w = .ok true w := fun w => by rw [hRL]; exact eqRunL _ _ _ w
          have iR : (Tryd.prog.info? 23).map (·.size) = some RL.length := by rw [hRL]; kernel_rfl
          clear hy hz hsl hr1 hr2 r1 r2 hfr hlg hRL
          go_wp2_with fail
          refine wp_region_held_drew (S := fun w' => (w'.cell? ⟨g1, o1 + j * 84 + 4, none⟩ = some (.int .i64 fr) ∧ w'.cell? ⟨g1, o1 + j * 84 + 3, none⟩ = some (.int .i64 lg) ∧ w'.cell? ⟨g2, o2 + j * 84 + 4, none⟩ = some (.int .i64 fr) ∧ w'.cell? ⟨g2, o2 + j * 84 + 3, none⟩ = some (.int .i64 lg)) ∧ w'.rangeAt g1 (o1 + j * 84) RL ∧ w'.rangeAt g2 (o2 + j * 84) RL) (by kernel_rfl) ⟨⟨c14, c13, c24, c23⟩, r13, r23⟩ (fun hHeld => ?_)
          obtain ⟨V, hV⟩ : ∃ Z, Z = wo.drew := ⟨_, rfl⟩
          have HV : Seal (Below w7.heap.size w7 V) := ⟨by rw [hV]; exact hH.out.trans ((below_drewn _).mono hH.out.size)⟩
          rw [← hV] at hHeld ⊢
          clear hV hH c14 c13 c24 c23 r13 r23
          refine take_h 0 ?_ rfl (by kernel_rfl) (by kernel_rfl) (by kernel_rfl) (fun _ _ _ h => h) (Or.inl ⟨by kernel_rfl, ?_⟩) (by assumption) ?_
          rotate_left
          · (intro w hSw; (try dsimp only at hSw); go_simp; try (with_reducible rfl))
          try simp only [Act.put, List.setIfInBounds_toArray, List.set_cons_zero, List.set_cons_succ]
          refine take_h 1 ?_ rfl (by kernel_rfl) (by kernel_rfl) (by kernel_rfl) (fun _ _ _ h => h) (Or.inl ⟨by kernel_rfl, ?_⟩) (by assumption) ?_
          rotate_left
          · (intro w hSw; (try dsimp only at hSw); go_simp; try (with_reducible rfl))
          try simp only [Act.put, List.setIfInBounds_toArray, List.set_cons_zero, List.set_cons_succ]
          refine take_h 2 ?_ rfl (by kernel_rfl) (by kernel_rfl) (by kernel_rfl) (fun _ _ _ h => h) (Or.inl ⟨by kernel_rfl, ?_⟩) (by assumption) ?_
          rotate_left
          · (intro w hSw; (try dsimp only at hSw); go_simp; try (with_reducible rfl))
          try simp only [Act.put, List.setIfInBounds_toArray, List.set_cons_zero, List.set_cons_succ]
          refine take_h 3 ?_ rfl (by kernel_rfl) (by kernel_rfl) (by kernel_rfl) (fun _ _ _ h => h) (Or.inl ⟨by kernel_rfl, ?_⟩) (by assumption) ?_
          rotate_left
          · (intro w hSw; (try dsimp only at hSw); go_simp; try (with_reducible rfl))
          try simp only [Act.put, List.setIfInBounds_toArray, List.set_cons_zero, List.set_cons_succ]
          refine take_h 4 ?_ rfl (by kernel_rfl) (by kernel_rfl) (by kernel_rfl) (fun _ _ _ h => h) (Or.inl ⟨by kernel_rfl, ?_⟩) (by assumption) ?_
          rotate_left
          · (intro w hSw; (try dsimp only at hSw); go_simp; try (with_reducible rfl))
          try simp only [Act.put, List.setIfInBounds_toArray, List.set_cons_zero, List.set_cons_succ]
          refine take_h 5 ?_ rfl (by kernel_rfl) (by kernel_rfl) (by kernel_rfl) (fun _ _ _ h => h) (Or.inl ⟨by kernel_rfl, ?_⟩) (by assumption) ?_
          rotate_left
          · (intro w hSw; (try dsimp only at hSw); go_simp; try (with_reducible rfl))
          try simp only [Act.put, List.setIfInBounds_toArray, List.set_cons_zero, List.set_cons_succ]
          refine take_h 6 ?_ rfl (by kernel_rfl) (by kernel_rfl) (by kernel_rfl) (fun _ _ _ h => h) (Or.inl ⟨by kernel_rfl, ?_⟩) (by assumption) ?_
          rotate_left
          · (intro w hSw; (try dsimp only at hSw); go_simp; try (with_reducible rfl))
          try simp only [Act.put, List.setIfInBounds_toArray, List.set_cons_zero, List.set_cons_succ]
          refine take_h 7 ?_ rfl (by kernel_rfl) (by kernel_rfl) (by kernel_rfl) (fun _ _ _ h => h) (Or.inl ⟨by kernel_rfl, ?_⟩) (by assumption) ?_
          rotate_left
          · (intro w hSw; (try dsimp only at hSw); go_simp; try (with_reducible rfl))
          try simp only [Act.put, List.setIfInBounds_toArray, List.set_cons_zero, List.set_cons_succ]
          refine take_h 8 ?_ rfl (by kernel_rfl) (by kernel_rfl) (by kernel_rfl) (fun _ _ _ h => h) (Or.inl ⟨by kernel_rfl, ?_⟩) (by assumption) ?_
          rotate_left
          · (intro w hSw; (try dsimp only at hSw); go_simp; try (with_reducible rfl))
          try simp only [Act.put, List.setIfInBounds_toArray, List.set_cons_zero, List.set_cons_succ]
          refine take_h 9 ?_ rfl (by kernel_rfl) (by kernel_rfl) (by kernel_rfl) (fun _ _ _ h => h) (Or.inl ⟨by kernel_rfl, ?_⟩) (by assumption) ?_
          rotate_left
          · (intro w hSw; (try dsimp only at hSw); go_simp; try (with_reducible rfl))
          try simp only [Act.put, List.setIfInBounds_toArray, List.set_cons_zero, List.set_cons_succ]
          refine take_h 10 ?_ rfl (by kernel_rfl) (by kernel_rfl) (by kernel_rfl) (fun _ _ _ h => h) (Or.inl ⟨by kernel_rfl, ?_⟩) (by assumption) ?_
          rotate_left
          · (intro w hSw; (try dsimp only at hSw); go_simp; try (with_reducible rfl))
          try simp only [Act.put, List.setIfInBounds_toArray, List.set_cons_zero, List.set_cons_succ]
          refine take_h 11 ?_ rfl (by kernel_rfl) (by kernel_rfl) (by kernel_rfl) (fun _ _ _ h => h) (Or.inl ⟨by kernel_rfl, ?_⟩) (by assumption) ?_
          rotate_left
          · (intro w hSw; (try dsimp only at hSw); go_simp; try (with_reducible rfl))
          try simp only [Act.put, List.setIfInBounds_toArray, List.set_cons_zero, List.set_cons_succ]
          refine take_h 12 ?_ rfl (by kernel_rfl) (by kernel_rfl) (by kernel_rfl) (fun _ _ _ h => h) (Or.inl ⟨by kernel_rfl, ?_⟩) (by assumption) ?_
          rotate_left
          · (intro w hSw; (try dsimp only at hSw); go_simp; try (with_reducible rfl))
          try simp only [Act.put, List.setIfInBounds_toArray, List.set_cons_zero, List.set_cons_succ]
          refine take_h 13 ?_ rfl (by kernel_rfl) (by kernel_rfl) (by kernel_rfl) (fun _ _ _ h => h) (Or.inl ⟨by kernel_rfl, ?_⟩) (by assumption) ?_
          rotate_left
          · (intro w hSw; (try dsimp only at hSw); go_simp; try (with_reducible rfl))
          try simp only [Act.put, List.setIfInBounds_toArray, List.set_cons_zero, List.set_cons_succ]
          refine take_h 14 ?_ rfl (by kernel_rfl) (by kernel_rfl) (by kernel_rfl) (fun _ _ _ h => h) (Or.inl ⟨by kernel_rfl, ?_⟩) (by assumption) ?_
          rotate_left
          · (intro w hSw; (try dsimp only at hSw); go_simp; try (with_reducible rfl))
          try simp only [Act.put, List.setIfInBounds_toArray, List.set_cons_zero, List.set_cons_succ]
          refine take_h 15 ?_ rfl (by kernel_rfl) (by kernel_rfl) (by kernel_rfl) (fun _ _ _ h => h) (Or.inl ⟨by kernel_rfl, ?_⟩) (by assumption) ?_
          rotate_left
          · (intro w hSw; (try dsimp only at hSw); go_simp; try (with_reducible rfl))
          try simp only [Act.put, List.setIfInBounds_toArray, List.set_cons_zero, List.set_cons_succ]
          refine take_h 16 ?_ rfl (by kernel_rfl) (by kernel_rfl) (by kernel_rfl) (fun _ _ _ h => h) (Or.inl ⟨by kernel_rfl, ?_⟩) (by assumption) ?_
          rotate_left
          · (intro w hSw; (try dsimp only at hSw); go_simp; try (with_reducible rfl))
          try simp only [Act.put, List.setIfInBounds_toArray, List.set_cons_zero, List.set_cons_succ]
          refine take_h 17 ?_ rfl (by kernel_rfl) (by kernel_rfl) (by kernel_rfl) (fun _ _ _ h => h) (Or.inl ⟨by kernel_rfl, ?_⟩) (by assumption) ?_
          rotate_left
          · (intro w hSw; (try dsimp only at hSw); go_simp; try (with_reducible rfl))
          try simp only [Act.put, List.setIfInBounds_toArray, List.set_cons_zero, List.set_cons_succ]
          refine take_h 18 ?_ rfl (by kernel_rfl) (by kernel_rfl) (by kernel_rfl) (fun _ _ _ h => h) (Or.inl ⟨by kernel_rfl, ?_⟩) (by assumption) ?_
          rotate_left
          · (intro w hSw; (try dsimp only at hSw); go_simp; try (with_reducible rfl))
          try simp only [Act.put, List.setIfInBounds_toArray, List.set_cons_zero, List.set_cons_succ]
          refine take_h 19 _ rfl (by kernel_rfl) (by kernel_rfl) (by kernel_rfl) (fun _ _ _ h => h) (yieldsIf_load_mid (by kernel_rfl) 23 (.tmp 144) rfl g1 (o1 + j * 84) rfl RL _ (fun w hSw => hSw.2.1) uR rfl iR) (by assumption) ?_
          try simp only [Act.put, List.setIfInBounds_toArray, List.set_cons_zero, List.set_cons_succ]
          refine take_h 20 ?_ rfl (by kernel_rfl) (by kernel_rfl) (by kernel_rfl) (fun _ _ _ h => h) (Or.inl ⟨by kernel_rfl, ?_⟩) (by assumption) ?_
          rotate_left
          · (intro w hSw; (try dsimp only at hSw); go_simp; try (with_reducible rfl))
          try simp only [Act.put, List.setIfInBounds_toArray, List.set_cons_zero, List.set_cons_succ]
          refine take_h 21 ?_ rfl (by kernel_rfl) (by kernel_rfl) (by kernel_rfl) (fun _ _ _ h => h) (Or.inl ⟨by kernel_rfl, ?_⟩) (by assumption) ?_
          rotate_left
          · (intro w hSw; (try dsimp only at hSw); go_simp; try (with_reducible rfl))
          try simp only [Act.put, List.setIfInBounds_toArray, List.set_cons_zero, List.set_cons_succ]
          refine take_h 22 ?_ rfl (by kernel_rfl) (by kernel_rfl) (by kernel_rfl) (fun _ _ _ h => h) (Or.inl ⟨by kernel_rfl, ?_⟩) (by assumption) ?_
          rotate_left
          · (intro w hSw; (try dsimp only at hSw); go_simp; try (with_reducible rfl))
          try simp only [Act.put, List.setIfInBounds_toArray, List.set_cons_zero, List.set_cons_succ]
          refine take_h 23 ?_ rfl (by kernel_rfl) (by kernel_rfl) (by kernel_rfl) (fun _ _ _ h => h) (Or.inl ⟨by kernel_rfl, ?_⟩) (by assumption) ?_
          rotate_left
          · (intro w hSw; (try dsimp only at hSw); go_simp; try (with_reducible rfl))
          try simp only [Act.put, List.setIfInBounds_toArray, List.set_cons_zero, List.set_cons_succ]
          refine take_h 24 ?_ rfl (by kernel_rfl) (by kernel_rfl) (by kernel_rfl) (fun _ _ _ h => h) (Or.inl ⟨by kernel_rfl, ?_⟩) (by assumption) ?_
          rotate_left
          · (intro w hSw; (try dsimp only at hSw); go_simp; try (with_reducible rfl))
          try simp only [Act.put, List.setIfInBounds_toArray, List.set_cons_zero, List.set_cons_succ]
          refine take_h 25 _ rfl (by kernel_rfl) (by kernel_rfl) (by kernel_rfl) (fun _ _ _ h => h) (yieldsIf_load_mid (by kernel_rfl) 23 (.tmp 150) rfl g2 (o2 + j * 84) rfl RL _ (fun w hSw => hSw.2.2) uR rfl iR) (by assumption) ?_
          try simp only [Act.put, List.setIfInBounds_toArray, List.set_cons_zero, List.set_cons_succ]
          refine take_h 26 ?_ rfl (by kernel_rfl) (by kernel_rfl) (by kernel_rfl) (fun _ _ _ h => h) (Or.inl ⟨by kernel_rfl, ?_⟩) (by assumption) ?_
          rotate_left
          · (intro w hSw; (try dsimp only at hSw); go_simp; try (with_reducible rfl))
          try simp only [Act.put, List.setIfInBounds_toArray, List.set_cons_zero, List.set_cons_succ]
          refine take_h 27 ?_ rfl (by kernel_rfl) (by kernel_rfl) (by kernel_rfl) (fun _ _ _ h => h) (Or.inl ⟨by kernel_rfl, ?_⟩) (by assumption) ?_
          rotate_left
          · (intro w hSw; (try dsimp only at hSw); go_simp; try (with_reducible rfl))
          try simp only [Act.put, List.setIfInBounds_toArray, List.set_cons_zero, List.set_cons_succ]
          refine take_h 28 ?_ rfl (by kernel_rfl) (by kernel_rfl) (by kernel_rfl) (fun _ _ _ h => h) (Or.inl ⟨by kernel_rfl, ?_⟩) (by assumption) ?_
          rotate_left
          · (intro w hSw; (try dsimp only at hSw); go_simp; try (with_reducible rfl))
          try simp only [Act.put, List.setIfInBounds_toArray, List.set_cons_zero, List.set_cons_succ]
          refine take_h 29 ?_ rfl (by kernel_rfl) (by kernel_rfl) (by kernel_rfl) (fun _ _ _ h => h) (Or.inl ⟨by kernel_rfl, ?_⟩) (by assumption) ?_
          rotate_left
          · (intro w hSw; (try dsimp only at hSw); go_simp; try (with_reducible rfl))
          try simp only [Act.put, List.setIfInBounds_toArray, List.set_cons_zero, List.set_cons_succ]
          refine take_h 30 ?_ rfl (by kernel_rfl) (by kernel_rfl) (by kernel_rfl) (fun _ _ _ h => h) (Or.inl ⟨by kernel_rfl, ?_⟩) (by assumption) ?_
          rotate_left
          · (intro w hSw; (try dsimp only at hSw); go_simp; try (with_reducible rfl))
          try simp only [Act.put, List.setIfInBounds_toArray, List.set_cons_zero, List.set_cons_succ]
          refine take_h 31 ?_ rfl (by kernel_rfl) (by kernel_rfl) (by kernel_rfl) (fun _ _ _ h => h) (Or.inl ⟨by kernel_rfl, ?_⟩) (by assumption) ?_
          rotate_left
          · (intro w hSw; (try dsimp only at hSw); go_simp; try (with_reducible rfl))
          try simp only [Act.put, List.setIfInBounds_toArray, List.set_cons_zero, List.set_cons_succ]
          refine take_h 32 ?_ rfl (by kernel_rfl) (by kernel_rfl) (by kernel_rfl) (fun _ _ _ h => h) (Or.inl ⟨by kernel_rfl, ?_⟩) (by assumption) ?_
          rotate_left
          · (intro w hSw; (try dsimp only at hSw); go_simp; try (with_reducible rfl))
          try simp only [Act.put, List.setIfInBounds_toArray, List.set_cons_zero, List.set_cons_succ]
          refine take_h 33 ?_ rfl (by kernel_rfl) (by kernel_rfl) (by kernel_rfl) (fun _ _ _ h => h) (Or.inl ⟨by kernel_rfl, ?_⟩) (by assumption) ?_
          rotate_left
          · (intro w hSw; (try dsimp only at hSw); go_simp; try (with_reducible rfl))
          try simp only [Act.put, List.setIfInBounds_toArray, List.set_cons_zero, List.set_cons_succ]
          refine take_h 34 ?_ rfl (by kernel_rfl) (by kernel_rfl) (by kernel_rfl) (fun _ _ _ h => h) (Or.inl ⟨by kernel_rfl, ?_⟩) (by assumption) ?_
          rotate_left
          · (intro w hSw; (try dsimp only at hSw); go_simp; try (with_reducible rfl))
          try simp only [Act.put, List.setIfInBounds_toArray, List.set_cons_zero, List.set_cons_succ]
          refine take_h 35 ?_ rfl (by kernel_rfl) (by kernel_rfl) (by kernel_rfl) (fun _ _ _ h => h) (Or.inl ⟨by kernel_rfl, ?_⟩) (by assumption) ?_
          rotate_left
          · (intro w hSw; (try dsimp only at hSw); go_simp; try (with_reducible rfl))
          try simp only [Act.put, List.setIfInBounds_toArray, List.set_cons_zero, List.set_cons_succ]
          refine take_h 36 ?_ rfl (by kernel_rfl) (by kernel_rfl) (by kernel_rfl) (fun _ _ _ h => h) (Or.inl ⟨by kernel_rfl, ?_⟩) (by assumption) ?_
          rotate_left
          · (intro w hSw; (try dsimp only at hSw); go_simp; try (with_reducible rfl))
          try simp only [Act.put, List.setIfInBounds_toArray, List.set_cons_zero, List.set_cons_succ]
          refine take_h 37 ?_ rfl (by kernel_rfl) (by kernel_rfl) (by kernel_rfl) (fun _ _ _ h => h) (Or.inl ⟨by kernel_rfl, ?_⟩) (by assumption) ?_
          rotate_left
          · (intro w hSw; (try dsimp only at hSw); go_simp; try (with_reducible rfl))
          try simp only [Act.put, List.setIfInBounds_toArray, List.set_cons_zero, List.set_cons_succ]
          refine take_h 38 ?_ rfl (by kernel_rfl) (by kernel_rfl) (by kernel_rfl) (fun _ _ _ h => h) (Or.inl ⟨by kernel_rfl, ?_⟩) (by assumption) ?_
          rotate_left
          · (intro w hSw; (try dsimp only at hSw); go_simp; try (with_reducible rfl))
          try simp only [Act.put, List.setIfInBounds_toArray, List.set_cons_zero, List.set_cons_succ]
          refine take_h 39 ?_ rfl (by kernel_rfl) (by kernel_rfl) (by kernel_rfl) (fun _ _ _ h => h) (Or.inl ⟨by kernel_rfl, ?_⟩) (by assumption) ?_
          rotate_left
          · (intro w hSw; (try dsimp only at hSw); go_simp; try (with_reducible rfl))
          try simp only [Act.put, List.setIfInBounds_toArray, List.set_cons_zero, List.set_cons_succ]
          refine take_h 40 ?_ rfl (by kernel_rfl) (by kernel_rfl) (by kernel_rfl) (fun _ _ _ h => h) (Or.inl ⟨by kernel_rfl, ?_⟩) (by assumption) ?_
          rotate_left
          · (intro w hSw; (try dsimp only at hSw); go_simp; try (with_reducible rfl))
          try simp only [Act.put, List.setIfInBounds_toArray, List.set_cons_zero, List.set_cons_succ]
          refine take_h 41 ?_ rfl (by kernel_rfl) (by kernel_rfl) (by kernel_rfl) (fun _ _ _ h => h) (Or.inl ⟨by kernel_rfl, ?_⟩) (by assumption) ?_
          rotate_left
          · (intro w hSw; (try dsimp only at hSw); go_simp; try (with_reducible rfl))
          try simp only [Act.put, List.setIfInBounds_toArray, List.set_cons_zero, List.set_cons_succ]
          refine take_h 42 ?_ rfl (by kernel_rfl) (by kernel_rfl) (by kernel_rfl) (fun _ _ _ h => h) (Or.inl ⟨by kernel_rfl, ?_⟩) (by assumption) ?_
          rotate_left
          · (intro w hSw; (try dsimp only at hSw); go_simp; try (with_reducible rfl))
          try simp only [Act.put, List.setIfInBounds_toArray, List.set_cons_zero, List.set_cons_succ]
          refine wpAnyH_done (by kernel_rfl) ?_ _
          clear hHeld
          go_wp2
          go_roundw
          case rel => exact ⟨j + 1, by omega, by go_num, HV⟩
          case measure => simp [intOf]; omega
        · obtain rfl : j = fy := by omega
          have q1 : ¬ (j : Int) < (j : Int) := by omega
          go_wp2
          go_loopw [20] (fun i wr => ∃ (q : Nat), q ≤ fx ∧ i = .int .i64 q ∧ Seal (Below w7.heap.size w7 wr)) (fun i _ => fx - (intOf i).toNat)
          case atStart => exact ⟨0, by omega, rfl, hH⟩
          case round =>
            obtain ⟨wi, rfl⟩ : ∃ z, z = wr := ⟨_, rfl⟩
            obtain ⟨q, hq, rfl, hI⟩ := hrel
            clear hH
            by_cases hlq : q < fx
            · have q3 : (q : Int) < (fx : Int) := by omega
              have q4 : (0 : Int) ≤ (q : Int) := by omega
              obtain ⟨x, hx⟩ : ∃ x, FL[q]? = some x := ⟨_, List.getElem?_eq_getElem (by have := HFX.out.2.2; omega)⟩
              have hxm := List.mem_of_getElem? hx
              have hall := HMA.out x hxm
              obtain ⟨g3, o3, rfl⟩ : ∃ g o, ax = some ⟨g, o, none⟩ := by
                rcases HX.out.at_ with h0 | ⟨g, o, e, _⟩
                · omega
                · exact ⟨g, o, e⟩
              have HRW : Seal (∀ W, Below w7.heap.size w7 W → W.rangeAt g3 (o3 + q * 84) (lieC x.1 x.2)) := ⟨fun W hW => by
                rcases (HX.out.below hW).at_ with h0 | ⟨g, o, e, hr, _⟩
                · omega
                · cases e
                  exact rangeC_at hr (fun x hx => lieC_len ((HFX.out.1 x hx).1.t32) ((HFX.out.1 x hx).2.t32)) hx⟩
              have HOX := Seal.mk (HFX.out.1 x hxm)
              have HALLM := Seal.mk hall
              clear hx hxm hall
              go_wp2
              go_loopw [21, 22] (fun u i wr => ∃ (s : Nat), s ≤ j ∧ u = .bool (anyM (FA.take s) x) ∧ i = .int .i64 s ∧ Seal (Below w7.heap.size w7 wr)) (fun _ i _ => j - (intOf i).toNat)
              case atStart => exact ⟨0, by omega, rfl, rfl, hI⟩
              case round =>
                obtain ⟨wn, rfl⟩ : ∃ z, z = wr := ⟨_, rfl⟩
                obtain ⟨s, hs, rfl, rfl, hN⟩ := hrel
                clear hI
                by_cases hls : s < j
                · have q5 : (s : Int) < (j : Int) := by omega
                  have q6 : (0 : Int) ≤ (s : Int) := by omega
                  obtain ⟨y, hy⟩ : ∃ y, FA[s]? = some y := ⟨_, List.getElem?_eq_getElem (by have := HFY.out.2.2; omega)⟩
                  have okY := HFY.out.1 y (List.mem_of_getElem? hy)
                  have okX := HOX.out
                  rcases (HY.out.below hN.out).at_ with h0 | ⟨g1, o1, rfl, hr1, _⟩
                  · omega
                  have rY := rangeC_at hr1 (fun x hx => lieC_len ((HFY.out.1 x hx).1.t32) ((HFY.out.1 x hx).2.t32)) hy
                  have rX := HRW.out wn hN.out
                  obtain ⟨xf, hxf⟩ : ∃ i, i = x.1.fr := ⟨_, rfl⟩
                  obtain ⟨yf, hyf⟩ : ∃ i, i = y.1.fr := ⟨_, rfl⟩
                  have cX : wn.cell? ⟨g3, o3 + q * 84 + 4, none⟩ = some (.int .i64 xf) := rX 4 _ (by rw [hxf]; rfl)
                  have cY : wn.cell? ⟨g1, o1 + s * 84 + 4, none⟩ = some (.int .i64 yf) := rY 4 _ (by rw [hyf]; rfl)
                  obtain ⟨CX, hCX⟩ : ∃ C, C = x.1.C := ⟨_, rfl⟩
                  obtain ⟨CY, hCY⟩ : ∃ C, C = y.1.C := ⟨_, rfl⟩
                  have rX1 := rangeAt_take rX 42
                  have rY1 := rangeAt_take rY 42
                  rw [show (lieC x.1 x.2).take 42 = CX from by rw [hCX]; exact List.take_left' (Hd.C_len okX.1.t32)] at rX1
                  rw [show (lieC y.1 y.2).take 42 = CY from by rw [hCY]; exact List.take_left' (Hd.C_len okY.1.t32)] at rY1
                  have iX : (Tryd.prog.info? 29).map (·.size) = some CX.length := by rw [hCX]; exact Hd.C_info okX.1.t32
                  have iY : (Tryd.prog.info? 29).map (·.size) = some CY.length := by rw [hCY]; exact Hd.C_info okY.1.t32
                  obtain ⟨bf, hbf⟩ : ∃ b, b = befB x.1 y.1 := ⟨_, rfl⟩
                  have HBf : Seal (∀ W, Calls Tryd.prog 42 #[.agg CX.toArray, .agg CY.toArray] W fun e w' => e = .returned (.bool bf) ∧ Below W.heap.size W w') := ⟨fun W => by rw [hCX, hCY, hbf]; exact rbefore_any x.1 y.1 W okX.1.t32 okY.1.t32⟩
                  obtain ⟨b1, hb1⟩ : ∃ b, b = anyM (FA.take s) x := ⟨_, rfl⟩
                  have HS : Seal (anyM (FA.take (s + 1)) x = (b1 || ((yf == xf) && !bf))) := ⟨by rw [anyM_take hy, hb1, hyf, hxf, hbf]; rfl⟩
                  rw [← hb1]
                  clear hy okY okX hr1 rY rX hxf hyf hCX hCY hbf hb1
                  go_wp2_with fail
                  cases b1 with
                  | true =>
                    refine wp_region_held_drew (S := fun _ => True) (by kernel_rfl) trivial (fun hHeld => ?_)
                    obtain ⟨V, hV⟩ : ∃ Z, Z = wn.drew := ⟨_, rfl⟩
                    have HV : Seal (Below w7.heap.size w7 V) := ⟨by rw [hV]; exact hN.out.trans ((below_drewn _).mono hN.out.size)⟩
                    rw [← hV]
                    clear hV hN cX cY rX1 rY1 hHeld
                    have hHeld : True := trivial
                    refine take_h 0 ?_ rfl (by kernel_rfl) (by kernel_rfl) (by kernel_rfl) (fun _ _ _ h => h) (Or.inl ⟨by kernel_rfl, ?_⟩) (by assumption) ?_
                    rotate_left
                    · (intro w hSw; (try dsimp only at hSw); go_simp; try (with_reducible rfl))
                    try simp only [Act.put, List.setIfInBounds_toArray, List.set_cons_zero, List.set_cons_succ]
                    refine take_h 1 ?_ rfl (by kernel_rfl) (by kernel_rfl) (by kernel_rfl) (fun _ _ _ h => h) (Or.inl ⟨by kernel_rfl, ?_⟩) (by assumption) ?_
                    rotate_left
                    · (intro w hSw; (try dsimp only at hSw); go_simp; try (with_reducible rfl))
                    try simp only [Act.put, List.setIfInBounds_toArray, List.set_cons_zero, List.set_cons_succ]
                    refine take_h 2 undef rfl (by kernel_rfl) (by kernel_rfl) (by kernel_rfl) (fun _ _ _ h => h) (Or.inr ⟨by kernel_rfl, rfl⟩) (by assumption) ?_
                    try simp only [Act.put, List.setIfInBounds_toArray, List.set_cons_zero, List.set_cons_succ]
                    refine take_h 3 undef rfl (by kernel_rfl) (by kernel_rfl) (by kernel_rfl) (fun _ _ _ h => h) (Or.inr ⟨by kernel_rfl, rfl⟩) (by assumption) ?_
                    try simp only [Act.put, List.setIfInBounds_toArray, List.set_cons_zero, List.set_cons_succ]
                    refine take_h 4 undef rfl (by kernel_rfl) (by kernel_rfl) (by kernel_rfl) (fun _ _ _ h => h) (Or.inr ⟨by kernel_rfl, rfl⟩) (by assumption) ?_
                    try simp only [Act.put, List.setIfInBounds_toArray, List.set_cons_zero, List.set_cons_succ]
                    refine take_h 5 undef rfl (by kernel_rfl) (by kernel_rfl) (by kernel_rfl) (fun _ _ _ h => h) (Or.inr ⟨by kernel_rfl, rfl⟩) (by assumption) ?_
                    try simp only [Act.put, List.setIfInBounds_toArray, List.set_cons_zero, List.set_cons_succ]
                    refine take_h 6 undef rfl (by kernel_rfl) (by kernel_rfl) (by kernel_rfl) (fun _ _ _ h => h) (Or.inr ⟨by kernel_rfl, rfl⟩) (by assumption) ?_
                    try simp only [Act.put, List.setIfInBounds_toArray, List.set_cons_zero, List.set_cons_succ]
                    refine take_h 7 undef rfl (by kernel_rfl) (by kernel_rfl) (by kernel_rfl) (fun _ _ _ h => h) (Or.inr ⟨by kernel_rfl, rfl⟩) (by assumption) ?_
                    try simp only [Act.put, List.setIfInBounds_toArray, List.set_cons_zero, List.set_cons_succ]
                    refine take_h 8 undef rfl (by kernel_rfl) (by kernel_rfl) (by kernel_rfl) (fun _ _ _ h => h) (Or.inr ⟨by kernel_rfl, rfl⟩) (by assumption) ?_
                    try simp only [Act.put, List.setIfInBounds_toArray, List.set_cons_zero, List.set_cons_succ]
                    refine take_h 9 undef rfl (by kernel_rfl) (by kernel_rfl) (by kernel_rfl) (fun _ _ _ h => h) (Or.inr ⟨by kernel_rfl, rfl⟩) (by assumption) ?_
                    try simp only [Act.put, List.setIfInBounds_toArray, List.set_cons_zero, List.set_cons_succ]
                    refine take_h 10 undef rfl (by kernel_rfl) (by kernel_rfl) (by kernel_rfl) (fun _ _ _ h => h) (Or.inr ⟨by kernel_rfl, rfl⟩) (by assumption) ?_
                    try simp only [Act.put, List.setIfInBounds_toArray, List.set_cons_zero, List.set_cons_succ]
                    refine take_h 11 undef rfl (by kernel_rfl) (by kernel_rfl) (by kernel_rfl) (fun _ _ _ h => h) (Or.inr ⟨by kernel_rfl, rfl⟩) (by assumption) ?_
                    try simp only [Act.put, List.setIfInBounds_toArray, List.set_cons_zero, List.set_cons_succ]
                    refine take_h 12 undef rfl (by kernel_rfl) (by kernel_rfl) (by kernel_rfl) (fun _ _ _ h => h) (Or.inr ⟨by kernel_rfl, rfl⟩) (by assumption) ?_
                    try simp only [Act.put, List.setIfInBounds_toArray, List.set_cons_zero, List.set_cons_succ]
                    refine take_h 13 undef rfl (by kernel_rfl) (by kernel_rfl) (by kernel_rfl) (fun _ _ _ h => h) (Or.inr ⟨by kernel_rfl, rfl⟩) (by assumption) ?_
                    try simp only [Act.put, List.setIfInBounds_toArray, List.set_cons_zero, List.set_cons_succ]
                    refine take_h 14 undef rfl (by kernel_rfl) (by kernel_rfl) (by kernel_rfl) (fun _ _ _ h => h) (Or.inr ⟨by kernel_rfl, rfl⟩) (by assumption) ?_
                    try simp only [Act.put, List.setIfInBounds_toArray, List.set_cons_zero, List.set_cons_succ]
                    refine take_h 15 undef rfl (by kernel_rfl) (by kernel_rfl) (by kernel_rfl) (fun _ _ _ h => h) (Or.inr ⟨by kernel_rfl, rfl⟩) (by assumption) ?_
                    try simp only [Act.put, List.setIfInBounds_toArray, List.set_cons_zero, List.set_cons_succ]
                    refine take_h 16 undef rfl (by kernel_rfl) (by kernel_rfl) (by kernel_rfl) (fun _ _ _ h => h) (Or.inr ⟨by kernel_rfl, rfl⟩) (by assumption) ?_
                    try simp only [Act.put, List.setIfInBounds_toArray, List.set_cons_zero, List.set_cons_succ]
                    refine take_h 17 undef rfl (by kernel_rfl) (by kernel_rfl) (by kernel_rfl) (fun _ _ _ h => h) (Or.inr ⟨by kernel_rfl, rfl⟩) (by assumption) ?_
                    try simp only [Act.put, List.setIfInBounds_toArray, List.set_cons_zero, List.set_cons_succ]
                    refine take_h 18 undef rfl (by kernel_rfl) (by kernel_rfl) (by kernel_rfl) (fun _ _ _ h => h) (Or.inr ⟨by kernel_rfl, rfl⟩) (by assumption) ?_
                    try simp only [Act.put, List.setIfInBounds_toArray, List.set_cons_zero, List.set_cons_succ]
                    refine take_h 19 undef rfl (by kernel_rfl) (by kernel_rfl) (by kernel_rfl) (fun _ _ _ h => h) (Or.inr ⟨by kernel_rfl, rfl⟩) (by assumption) ?_
                    try simp only [Act.put, List.setIfInBounds_toArray, List.set_cons_zero, List.set_cons_succ]
                    refine take_h 20 undef rfl (by kernel_rfl) (by kernel_rfl) (by kernel_rfl) (fun _ _ _ h => h) (Or.inr ⟨by kernel_rfl, rfl⟩) (by assumption) ?_
                    try simp only [Act.put, List.setIfInBounds_toArray, List.set_cons_zero, List.set_cons_succ]
                    refine take_h 21 undef rfl (by kernel_rfl) (by kernel_rfl) (by kernel_rfl) (fun _ _ _ h => h) (Or.inr ⟨by kernel_rfl, rfl⟩) (by assumption) ?_
                    try simp only [Act.put, List.setIfInBounds_toArray, List.set_cons_zero, List.set_cons_succ]
                    refine take_h 22 undef rfl (by kernel_rfl) (by kernel_rfl) (by kernel_rfl) (fun _ _ _ h => h) (Or.inr ⟨by kernel_rfl, rfl⟩) (by assumption) ?_
                    try simp only [Act.put, List.setIfInBounds_toArray, List.set_cons_zero, List.set_cons_succ]
                    refine take_h 23 undef rfl (by kernel_rfl) (by kernel_rfl) (by kernel_rfl) (fun _ _ _ h => h) (Or.inr ⟨by kernel_rfl, rfl⟩) (by assumption) ?_
                    try simp only [Act.put, List.setIfInBounds_toArray, List.set_cons_zero, List.set_cons_succ]
                    refine take_h 24 undef rfl (by kernel_rfl) (by kernel_rfl) (by kernel_rfl) (fun _ _ _ h => h) (Or.inr ⟨by kernel_rfl, rfl⟩) (by assumption) ?_
                    try simp only [Act.put, List.setIfInBounds_toArray, List.set_cons_zero, List.set_cons_succ]
                    refine take_h 25 undef rfl (by kernel_rfl) (by kernel_rfl) (by kernel_rfl) (fun _ _ _ h => h) (Or.inr ⟨by kernel_rfl, rfl⟩) (by assumption) ?_
                    try simp only [Act.put, List.setIfInBounds_toArray, List.set_cons_zero, List.set_cons_succ]
                    refine take_h 26 undef rfl (by kernel_rfl) (by kernel_rfl) (by kernel_rfl) (fun _ _ _ h => h) (Or.inr ⟨by kernel_rfl, rfl⟩) (by assumption) ?_
                    try simp only [Act.put, List.setIfInBounds_toArray, List.set_cons_zero, List.set_cons_succ]
                    refine take_h 27 undef rfl (by kernel_rfl) (by kernel_rfl) (by kernel_rfl) (fun _ _ _ h => h) (Or.inr ⟨by kernel_rfl, rfl⟩) (by assumption) ?_
                    try simp only [Act.put, List.setIfInBounds_toArray, List.set_cons_zero, List.set_cons_succ]
                    refine take_h 28 undef rfl (by kernel_rfl) (by kernel_rfl) (by kernel_rfl) (fun _ _ _ h => h) (Or.inr ⟨by kernel_rfl, rfl⟩) (by assumption) ?_
                    try simp only [Act.put, List.setIfInBounds_toArray, List.set_cons_zero, List.set_cons_succ]
                    refine take_h 29 ?_ rfl (by kernel_rfl) (by kernel_rfl) (by kernel_rfl) (fun _ _ _ h => h) (Or.inl ⟨by kernel_rfl, ?_⟩) (by assumption) ?_
                    rotate_left
                    · (intro w hSw; (try dsimp only at hSw); go_simp; try (with_reducible rfl))
                    try simp only [Act.put, List.setIfInBounds_toArray, List.set_cons_zero, List.set_cons_succ]
                    refine take_h 30 ?_ rfl (by kernel_rfl) (by kernel_rfl) (by kernel_rfl) (fun _ _ _ h => h) (Or.inl ⟨by kernel_rfl, ?_⟩) (by assumption) ?_
                    rotate_left
                    · (intro w hSw; (try dsimp only at hSw); go_simp; try (with_reducible rfl))
                    try simp only [Act.put, List.setIfInBounds_toArray, List.set_cons_zero, List.set_cons_succ]
                    refine wpAnyH_done (by kernel_rfl) ?_ _
                    clear hHeld
                    go_wp2
                    go_roundw
                    case rel => exact ⟨s + 1, by omega, by rw [HS.out]; simp, by go_num, HV⟩
                    case measure => simp [intOf]; omega
                  | false =>
                    by_cases hff : yf = xf
                    · subst hff
                      refine wp_region_held_drew (S := fun w' => (w'.cell? ⟨g3, o3 + q * 84 + 4, none⟩ = some (.int .i64 yf) ∧ w'.cell? ⟨g1, o1 + s * 84 + 4, none⟩ = some (.int .i64 yf)) ∧ w'.rangeAt g3 (o3 + q * 84) CX ∧ w'.rangeAt g1 (o1 + s * 84) CY) (by kernel_rfl) ⟨⟨cX, cY⟩, rX1, rY1⟩ (fun hHeld => ?_)
                      obtain ⟨V, hV⟩ : ∃ Z, Z = wn.drew := ⟨_, rfl⟩
                      have HV : Seal (Below w7.heap.size w7 V) := ⟨by rw [hV]; exact hN.out.trans ((below_drewn _).mono hN.out.size)⟩
                      rw [← hV] at hHeld ⊢
                      clear hV hN cX cY rX1 rY1
                      refine take_h 0 ?_ rfl (by kernel_rfl) (by kernel_rfl) (by kernel_rfl) (fun _ _ _ h => h) (Or.inl ⟨by kernel_rfl, ?_⟩) (by assumption) ?_
                      rotate_left
                      · (intro w hSw; (try dsimp only at hSw); go_simp; try (with_reducible rfl))
                      try simp only [Act.put, List.setIfInBounds_toArray, List.set_cons_zero, List.set_cons_succ]
                      refine take_h 1 ?_ rfl (by kernel_rfl) (by kernel_rfl) (by kernel_rfl) (fun _ _ _ h => h) (Or.inl ⟨by kernel_rfl, ?_⟩) (by assumption) ?_
                      rotate_left
                      · (intro w hSw; (try dsimp only at hSw); go_simp; try (with_reducible rfl))
                      try simp only [Act.put, List.setIfInBounds_toArray, List.set_cons_zero, List.set_cons_succ]
                      refine take_h 2 ?_ rfl (by kernel_rfl) (by kernel_rfl) (by kernel_rfl) (fun _ _ _ h => h) (Or.inl ⟨by kernel_rfl, ?_⟩) (by assumption) ?_
                      rotate_left
                      · (intro w hSw; (try dsimp only at hSw); go_simp; try (with_reducible rfl))
                      try simp only [Act.put, List.setIfInBounds_toArray, List.set_cons_zero, List.set_cons_succ]
                      refine take_h 3 ?_ rfl (by kernel_rfl) (by kernel_rfl) (by kernel_rfl) (fun _ _ _ h => h) (Or.inl ⟨by kernel_rfl, ?_⟩) (by assumption) ?_
                      rotate_left
                      · (intro w hSw; (try dsimp only at hSw); go_simp; try (with_reducible rfl))
                      try simp only [Act.put, List.setIfInBounds_toArray, List.set_cons_zero, List.set_cons_succ]
                      refine take_h 4 ?_ rfl (by kernel_rfl) (by kernel_rfl) (by kernel_rfl) (fun _ _ _ h => h) (Or.inl ⟨by kernel_rfl, ?_⟩) (by assumption) ?_
                      rotate_left
                      · (intro w hSw; (try dsimp only at hSw); go_simp; try (with_reducible rfl))
                      try simp only [Act.put, List.setIfInBounds_toArray, List.set_cons_zero, List.set_cons_succ]
                      refine take_h 5 ?_ rfl (by kernel_rfl) (by kernel_rfl) (by kernel_rfl) (fun _ _ _ h => h) (Or.inl ⟨by kernel_rfl, ?_⟩) (by assumption) ?_
                      rotate_left
                      · (intro w hSw; (try dsimp only at hSw); go_simp; try (with_reducible rfl))
                      try simp only [Act.put, List.setIfInBounds_toArray, List.set_cons_zero, List.set_cons_succ]
                      refine take_h 6 ?_ rfl (by kernel_rfl) (by kernel_rfl) (by kernel_rfl) (fun _ _ _ h => h) (Or.inl ⟨by kernel_rfl, ?_⟩) (by assumption) ?_
                      rotate_left
                      · (intro w hSw; (try dsimp only at hSw); go_simp; try (with_reducible rfl))
                      try simp only [Act.put, List.setIfInBounds_toArray, List.set_cons_zero, List.set_cons_succ]
                      refine take_h 7 ?_ rfl (by kernel_rfl) (by kernel_rfl) (by kernel_rfl) (fun _ _ _ h => h) (Or.inl ⟨by kernel_rfl, ?_⟩) (by assumption) ?_
                      rotate_left
                      · (intro w hSw; (try dsimp only at hSw); go_simp; try (with_reducible rfl))
                      try simp only [Act.put, List.setIfInBounds_toArray, List.set_cons_zero, List.set_cons_succ]
                      refine take_h 8 ?_ rfl (by kernel_rfl) (by kernel_rfl) (by kernel_rfl) (fun _ _ _ h => h) (Or.inl ⟨by kernel_rfl, ?_⟩) (by assumption) ?_
                      rotate_left
                      · (intro w hSw; (try dsimp only at hSw); go_simp; try (with_reducible rfl))
                      try simp only [Act.put, List.setIfInBounds_toArray, List.set_cons_zero, List.set_cons_succ]
                      refine take_h 9 ?_ rfl (by kernel_rfl) (by kernel_rfl) (by kernel_rfl) (fun _ _ _ h => h) (Or.inl ⟨by kernel_rfl, ?_⟩) (by assumption) ?_
                      rotate_left
                      · (intro w hSw; (try dsimp only at hSw); go_simp; try (with_reducible rfl))
                      try simp only [Act.put, List.setIfInBounds_toArray, List.set_cons_zero, List.set_cons_succ]
                      refine take_h 10 ?_ rfl (by kernel_rfl) (by kernel_rfl) (by kernel_rfl) (fun _ _ _ h => h) (Or.inl ⟨by kernel_rfl, ?_⟩) (by assumption) ?_
                      rotate_left
                      · (intro w hSw; (try dsimp only at hSw); go_simp; try (with_reducible rfl))
                      try simp only [Act.put, List.setIfInBounds_toArray, List.set_cons_zero, List.set_cons_succ]
                      refine take_h 11 ?_ rfl (by kernel_rfl) (by kernel_rfl) (by kernel_rfl) (fun _ _ _ h => h) (Or.inl ⟨by kernel_rfl, ?_⟩) (by assumption) ?_
                      rotate_left
                      · (intro w hSw; (try dsimp only at hSw); go_simp; try (with_reducible rfl))
                      try simp only [Act.put, List.setIfInBounds_toArray, List.set_cons_zero, List.set_cons_succ]
                      refine take_h 12 ?_ rfl (by kernel_rfl) (by kernel_rfl) (by kernel_rfl) (fun _ _ _ h => h) (Or.inl ⟨by kernel_rfl, ?_⟩) (by assumption) ?_
                      rotate_left
                      · (intro w hSw; (try dsimp only at hSw); go_simp; try (with_reducible rfl))
                      try simp only [Act.put, List.setIfInBounds_toArray, List.set_cons_zero, List.set_cons_succ]
                      refine take_h 13 ?_ rfl (by kernel_rfl) (by kernel_rfl) (by kernel_rfl) (fun _ _ _ h => h) (Or.inl ⟨by kernel_rfl, ?_⟩) (by assumption) ?_
                      rotate_left
                      · (intro w hSw; (try dsimp only at hSw); go_simp; try (with_reducible rfl))
                      try simp only [Act.put, List.setIfInBounds_toArray, List.set_cons_zero, List.set_cons_succ]
                      refine take_h 14 ?_ rfl (by kernel_rfl) (by kernel_rfl) (by kernel_rfl) (fun _ _ _ h => h) (Or.inl ⟨by kernel_rfl, ?_⟩) (by assumption) ?_
                      rotate_left
                      · (intro w hSw; (try dsimp only at hSw); go_simp; try (with_reducible rfl))
                      try simp only [Act.put, List.setIfInBounds_toArray, List.set_cons_zero, List.set_cons_succ]
                      refine take_h 15 ?_ rfl (by kernel_rfl) (by kernel_rfl) (by kernel_rfl) (fun _ _ _ h => h) (Or.inl ⟨by kernel_rfl, ?_⟩) (by assumption) ?_
                      rotate_left
                      · (intro w hSw; (try dsimp only at hSw); go_simp; try (with_reducible rfl))
                      try simp only [Act.put, List.setIfInBounds_toArray, List.set_cons_zero, List.set_cons_succ]
                      refine take_h 16 ?_ rfl (by kernel_rfl) (by kernel_rfl) (by kernel_rfl) (fun _ _ _ h => h) (Or.inl ⟨by kernel_rfl, ?_⟩) (by assumption) ?_
                      rotate_left
                      · (intro w hSw; (try dsimp only at hSw); go_simp; try (with_reducible rfl))
                      try simp only [Act.put, List.setIfInBounds_toArray, List.set_cons_zero, List.set_cons_succ]
                      refine take_h 17 ?_ rfl (by kernel_rfl) (by kernel_rfl) (by kernel_rfl) (fun _ _ _ h => h) (Or.inl ⟨by kernel_rfl, ?_⟩) (by assumption) ?_
                      rotate_left
                      · (intro w hSw; (try dsimp only at hSw); go_simp; try (with_reducible rfl))
                      try simp only [Act.put, List.setIfInBounds_toArray, List.set_cons_zero, List.set_cons_succ]
                      refine take_h 18 ?_ rfl (by kernel_rfl) (by kernel_rfl) (by kernel_rfl) (fun _ _ _ h => h) (Or.inl ⟨by kernel_rfl, ?_⟩) (by assumption) ?_
                      rotate_left
                      · (intro w hSw; (try dsimp only at hSw); go_simp; try (with_reducible rfl))
                      try simp only [Act.put, List.setIfInBounds_toArray, List.set_cons_zero, List.set_cons_succ]
                      refine take_h 19 ?_ rfl (by kernel_rfl) (by kernel_rfl) (by kernel_rfl) (fun _ _ _ h => h) (Or.inl ⟨by kernel_rfl, ?_⟩) (by assumption) ?_
                      rotate_left
                      · (intro w hSw; (try dsimp only at hSw); go_simp; try (with_reducible rfl))
                      try simp only [Act.put, List.setIfInBounds_toArray, List.set_cons_zero, List.set_cons_succ]
                      refine take_h 20 _ rfl (by kernel_rfl) (by kernel_rfl) (by kernel_rfl) (fun _ _ _ h => h) (yieldsIf_load_mid (by kernel_rfl) 29 (.tmp 200) rfl g3 (o3 + q * 84) rfl CX _ (fun w hSw => hSw.2.1) uH rfl iX) (by assumption) ?_
                      try simp only [Act.put, List.setIfInBounds_toArray, List.set_cons_zero, List.set_cons_succ]
                      refine take_h 21 ?_ rfl (by kernel_rfl) (by kernel_rfl) (by kernel_rfl) (fun _ _ _ h => h) (Or.inl ⟨by kernel_rfl, ?_⟩) (by assumption) ?_
                      rotate_left
                      · (intro w hSw; (try dsimp only at hSw); go_simp; try (with_reducible rfl))
                      try simp only [Act.put, List.setIfInBounds_toArray, List.set_cons_zero, List.set_cons_succ]
                      refine take_h 22 ?_ rfl (by kernel_rfl) (by kernel_rfl) (by kernel_rfl) (fun _ _ _ h => h) (Or.inl ⟨by kernel_rfl, ?_⟩) (by assumption) ?_
                      rotate_left
                      · (intro w hSw; (try dsimp only at hSw); go_simp; try (with_reducible rfl))
                      try simp only [Act.put, List.setIfInBounds_toArray, List.set_cons_zero, List.set_cons_succ]
                      refine take_h 23 ?_ rfl (by kernel_rfl) (by kernel_rfl) (by kernel_rfl) (fun _ _ _ h => h) (Or.inl ⟨by kernel_rfl, ?_⟩) (by assumption) ?_
                      rotate_left
                      · (intro w hSw; (try dsimp only at hSw); go_simp; try (with_reducible rfl))
                      try simp only [Act.put, List.setIfInBounds_toArray, List.set_cons_zero, List.set_cons_succ]
                      refine take_h 24 ?_ rfl (by kernel_rfl) (by kernel_rfl) (by kernel_rfl) (fun _ _ _ h => h) (Or.inl ⟨by kernel_rfl, ?_⟩) (by assumption) ?_
                      rotate_left
                      · (intro w hSw; (try dsimp only at hSw); go_simp; try (with_reducible rfl))
                      try simp only [Act.put, List.setIfInBounds_toArray, List.set_cons_zero, List.set_cons_succ]
                      refine take_h 25 _ rfl (by kernel_rfl) (by kernel_rfl) (by kernel_rfl) (fun _ _ _ h => h) (yieldsIf_load_mid (by kernel_rfl) 29 (.tmp 205) rfl g1 (o1 + s * 84) rfl CY _ (fun w hSw => hSw.2.2) uH rfl iY) (by assumption) ?_
                      try simp only [Act.put, List.setIfInBounds_toArray, List.set_cons_zero, List.set_cons_succ]
                      refine call_h 26 rfl (by kernel_rfl) 42 #[.agg CX.toArray, .agg CY.toArray] (by kernel_rfl) (by go_simp) ?_
                      refine (HBf.out V).mono ?_
                      rintro e V1 ⟨rfl, hb1⟩
                      refine ⟨_, rfl, ⟨⟨cell_below' hb1 hHeld.1.1, cell_below' hb1 hHeld.1.2⟩, rangeAt_below' hHeld.2.1 hb1, rangeAt_below' hHeld.2.2 hb1⟩, fun hHeld2 => ?_⟩
                      try simp only [Act.put, List.setIfInBounds_toArray, List.set_cons_zero, List.set_cons_succ]
                      have HV1 := Seal.mk (HV.out.trans (hb1.mono HV.out.size))
                      clear hb1 hHeld HV
                      cases bf with
                      | true =>
                        refine take_h 27 ?_ rfl (by kernel_rfl) (by kernel_rfl) (by kernel_rfl) (fun _ _ _ h => h) (Or.inl ⟨by kernel_rfl, ?_⟩) (by assumption) ?_
                        rotate_left
                        · (intro w hSw; (try dsimp only at hSw); go_simp; try (with_reducible rfl))
                        try simp only [Act.put, List.setIfInBounds_toArray, List.set_cons_zero, List.set_cons_succ]
                        refine take_h 28 ?_ rfl (by kernel_rfl) (by kernel_rfl) (by kernel_rfl) (fun _ _ _ h => h) (Or.inl ⟨by kernel_rfl, ?_⟩) (by assumption) ?_
                        rotate_left
                        · (intro w hSw; (try dsimp only at hSw); go_simp; try (with_reducible rfl))
                        try simp only [Act.put, List.setIfInBounds_toArray, List.set_cons_zero, List.set_cons_succ]
                        refine take_h 29 ?_ rfl (by kernel_rfl) (by kernel_rfl) (by kernel_rfl) (fun _ _ _ h => h) (Or.inl ⟨by kernel_rfl, ?_⟩) (by assumption) ?_
                        rotate_left
                        · (intro w hSw; (try dsimp only at hSw); go_simp; try (with_reducible rfl))
                        try simp only [Act.put, List.setIfInBounds_toArray, List.set_cons_zero, List.set_cons_succ]
                        refine take_h 30 ?_ rfl (by kernel_rfl) (by kernel_rfl) (by kernel_rfl) (fun _ _ _ h => h) (Or.inl ⟨by kernel_rfl, ?_⟩) (by assumption) ?_
                        rotate_left
                        · (intro w hSw; (try dsimp only at hSw); go_simp; try (with_reducible rfl))
                        try simp only [Act.put, List.setIfInBounds_toArray, List.set_cons_zero, List.set_cons_succ]
                        refine wpAnyH_done (by kernel_rfl) ?_ _
                        clear hHeld2
                        go_wp2
                        go_roundw
                        case rel => exact ⟨s + 1, by omega, by rw [HS.out]; simp, by go_num, HV1⟩
                        case measure => simp [intOf]; omega
                      | false =>
                        refine take_h 27 ?_ rfl (by kernel_rfl) (by kernel_rfl) (by kernel_rfl) (fun _ _ _ h => h) (Or.inl ⟨by kernel_rfl, ?_⟩) (by assumption) ?_
                        rotate_left
                        · (intro w hSw; (try dsimp only at hSw); go_simp; try (with_reducible rfl))
                        try simp only [Act.put, List.setIfInBounds_toArray, List.set_cons_zero, List.set_cons_succ]
                        refine take_h 28 ?_ rfl (by kernel_rfl) (by kernel_rfl) (by kernel_rfl) (fun _ _ _ h => h) (Or.inl ⟨by kernel_rfl, ?_⟩) (by assumption) ?_
                        rotate_left
                        · (intro w hSw; (try dsimp only at hSw); go_simp; try (with_reducible rfl))
                        try simp only [Act.put, List.setIfInBounds_toArray, List.set_cons_zero, List.set_cons_succ]
                        refine take_h 29 ?_ rfl (by kernel_rfl) (by kernel_rfl) (by kernel_rfl) (fun _ _ _ h => h) (Or.inl ⟨by kernel_rfl, ?_⟩) (by assumption) ?_
                        rotate_left
                        · (intro w hSw; (try dsimp only at hSw); go_simp; try (with_reducible rfl))
                        try simp only [Act.put, List.setIfInBounds_toArray, List.set_cons_zero, List.set_cons_succ]
                        refine take_h 30 ?_ rfl (by kernel_rfl) (by kernel_rfl) (by kernel_rfl) (fun _ _ _ h => h) (Or.inl ⟨by kernel_rfl, ?_⟩) (by assumption) ?_
                        rotate_left
                        · (intro w hSw; (try dsimp only at hSw); go_simp; try (with_reducible rfl))
                        try simp only [Act.put, List.setIfInBounds_toArray, List.set_cons_zero, List.set_cons_succ]
                        refine wpAnyH_done (by kernel_rfl) ?_ _
                        clear hHeld2
                        go_wp2
                        go_roundw
                        case rel => exact ⟨s + 1, by omega, by rw [HS.out]; simp, by go_num, HV1⟩
                        case measure => simp [intOf]; omega
                    · have z1 : (yf == xf) = false := by simp [hff]
                      have z2 : (yf = xf) = False := by simp [hff]
                      have HS2 : Seal (anyM (FA.take (s + 1)) x = false) := ⟨by rw [HS.out, z1]; rfl⟩
                      clear hff
                      refine wp_region_held_drew (S := fun w' => w'.cell? ⟨g3, o3 + q * 84 + 4, none⟩ = some (.int .i64 xf) ∧ w'.cell? ⟨g1, o1 + s * 84 + 4, none⟩ = some (.int .i64 yf)) (by kernel_rfl) ⟨cX, cY⟩ (fun hHeld => ?_)
                      obtain ⟨V, hV⟩ : ∃ Z, Z = wn.drew := ⟨_, rfl⟩
                      have HV : Seal (Below w7.heap.size w7 V) := ⟨by rw [hV]; exact hN.out.trans ((below_drewn _).mono hN.out.size)⟩
                      rw [← hV] at hHeld ⊢
                      clear hV hN cX cY rX1 rY1
                      refine take_h 0 ?_ rfl (by kernel_rfl) (by kernel_rfl) (by kernel_rfl) (fun _ _ _ h => h) (Or.inl ⟨by kernel_rfl, ?_⟩) (by assumption) ?_
                      rotate_left
                      · (intro w hSw; (try dsimp only at hSw); go_simp; try (with_reducible rfl))
                      try simp only [Act.put, List.setIfInBounds_toArray, List.set_cons_zero, List.set_cons_succ]
                      refine take_h 1 ?_ rfl (by kernel_rfl) (by kernel_rfl) (by kernel_rfl) (fun _ _ _ h => h) (Or.inl ⟨by kernel_rfl, ?_⟩) (by assumption) ?_
                      rotate_left
                      · (intro w hSw; (try dsimp only at hSw); go_simp; try (with_reducible rfl))
                      try simp only [Act.put, List.setIfInBounds_toArray, List.set_cons_zero, List.set_cons_succ]
                      refine take_h 2 ?_ rfl (by kernel_rfl) (by kernel_rfl) (by kernel_rfl) (fun _ _ _ h => h) (Or.inl ⟨by kernel_rfl, ?_⟩) (by assumption) ?_
                      rotate_left
                      · (intro w hSw; (try dsimp only at hSw); go_simp; try (with_reducible rfl))
                      try simp only [Act.put, List.setIfInBounds_toArray, List.set_cons_zero, List.set_cons_succ]
                      refine take_h 3 ?_ rfl (by kernel_rfl) (by kernel_rfl) (by kernel_rfl) (fun _ _ _ h => h) (Or.inl ⟨by kernel_rfl, ?_⟩) (by assumption) ?_
                      rotate_left
                      · (intro w hSw; (try dsimp only at hSw); go_simp; try (with_reducible rfl))
                      try simp only [Act.put, List.setIfInBounds_toArray, List.set_cons_zero, List.set_cons_succ]
                      refine take_h 4 ?_ rfl (by kernel_rfl) (by kernel_rfl) (by kernel_rfl) (fun _ _ _ h => h) (Or.inl ⟨by kernel_rfl, ?_⟩) (by assumption) ?_
                      rotate_left
                      · (intro w hSw; (try dsimp only at hSw); go_simp; try (with_reducible rfl))
                      try simp only [Act.put, List.setIfInBounds_toArray, List.set_cons_zero, List.set_cons_succ]
                      refine take_h 5 ?_ rfl (by kernel_rfl) (by kernel_rfl) (by kernel_rfl) (fun _ _ _ h => h) (Or.inl ⟨by kernel_rfl, ?_⟩) (by assumption) ?_
                      rotate_left
                      · (intro w hSw; (try dsimp only at hSw); go_simp; try (with_reducible rfl))
                      try simp only [Act.put, List.setIfInBounds_toArray, List.set_cons_zero, List.set_cons_succ]
                      refine take_h 6 ?_ rfl (by kernel_rfl) (by kernel_rfl) (by kernel_rfl) (fun _ _ _ h => h) (Or.inl ⟨by kernel_rfl, ?_⟩) (by assumption) ?_
                      rotate_left
                      · (intro w hSw; (try dsimp only at hSw); go_simp; try (with_reducible rfl))
                      try simp only [Act.put, List.setIfInBounds_toArray, List.set_cons_zero, List.set_cons_succ]
                      refine take_h 7 ?_ rfl (by kernel_rfl) (by kernel_rfl) (by kernel_rfl) (fun _ _ _ h => h) (Or.inl ⟨by kernel_rfl, ?_⟩) (by assumption) ?_
                      rotate_left
                      · (intro w hSw; (try dsimp only at hSw); go_simp; try (with_reducible rfl))
                      try simp only [Act.put, List.setIfInBounds_toArray, List.set_cons_zero, List.set_cons_succ]
                      refine take_h 8 ?_ rfl (by kernel_rfl) (by kernel_rfl) (by kernel_rfl) (fun _ _ _ h => h) (Or.inl ⟨by kernel_rfl, ?_⟩) (by assumption) ?_
                      rotate_left
                      · (intro w hSw; (try dsimp only at hSw); go_simp; try (with_reducible rfl))
                      try simp only [Act.put, List.setIfInBounds_toArray, List.set_cons_zero, List.set_cons_succ]
                      refine take_h 9 ?_ rfl (by kernel_rfl) (by kernel_rfl) (by kernel_rfl) (fun _ _ _ h => h) (Or.inl ⟨by kernel_rfl, ?_⟩) (by assumption) ?_
                      rotate_left
                      · (intro w hSw; (try dsimp only at hSw); go_simp; try (with_reducible rfl))
                      try simp only [Act.put, List.setIfInBounds_toArray, List.set_cons_zero, List.set_cons_succ]
                      refine take_h 10 ?_ rfl (by kernel_rfl) (by kernel_rfl) (by kernel_rfl) (fun _ _ _ h => h) (Or.inl ⟨by kernel_rfl, ?_⟩) (by assumption) ?_
                      rotate_left
                      · (intro w hSw; (try dsimp only at hSw); go_simp; try (with_reducible rfl))
                      try simp only [Act.put, List.setIfInBounds_toArray, List.set_cons_zero, List.set_cons_succ]
                      refine take_h 11 ?_ rfl (by kernel_rfl) (by kernel_rfl) (by kernel_rfl) (fun _ _ _ h => h) (Or.inl ⟨by kernel_rfl, ?_⟩) (by assumption) ?_
                      rotate_left
                      · (intro w hSw; (try dsimp only at hSw); go_simp; try (with_reducible rfl))
                      try simp only [Act.put, List.setIfInBounds_toArray, List.set_cons_zero, List.set_cons_succ]
                      refine take_h 12 ?_ rfl (by kernel_rfl) (by kernel_rfl) (by kernel_rfl) (fun _ _ _ h => h) (Or.inl ⟨by kernel_rfl, ?_⟩) (by assumption) ?_
                      rotate_left
                      · (intro w hSw; (try dsimp only at hSw); go_simp; try (with_reducible rfl))
                      try simp only [Act.put, List.setIfInBounds_toArray, List.set_cons_zero, List.set_cons_succ]
                      refine take_h 13 ?_ rfl (by kernel_rfl) (by kernel_rfl) (by kernel_rfl) (fun _ _ _ h => h) (Or.inl ⟨by kernel_rfl, ?_⟩) (by assumption) ?_
                      rotate_left
                      · (intro w hSw; (try dsimp only at hSw); go_simp; try (with_reducible rfl))
                      try simp only [Act.put, List.setIfInBounds_toArray, List.set_cons_zero, List.set_cons_succ]
                      refine take_h 14 ?_ rfl (by kernel_rfl) (by kernel_rfl) (by kernel_rfl) (fun _ _ _ h => h) (Or.inl ⟨by kernel_rfl, ?_⟩) (by assumption) ?_
                      rotate_left
                      · (intro w hSw; (try dsimp only at hSw); go_simp; try (with_reducible rfl))
                      try simp only [Act.put, List.setIfInBounds_toArray, List.set_cons_zero, List.set_cons_succ]
                      refine take_h 15 ?_ rfl (by kernel_rfl) (by kernel_rfl) (by kernel_rfl) (fun _ _ _ h => h) (Or.inl ⟨by kernel_rfl, ?_⟩) (by assumption) ?_
                      rotate_left
                      · (intro w hSw; (try dsimp only at hSw); go_simp; try (with_reducible rfl))
                      try simp only [Act.put, List.setIfInBounds_toArray, List.set_cons_zero, List.set_cons_succ]
                      refine take_h 16 undef rfl (by kernel_rfl) (by kernel_rfl) (by kernel_rfl) (fun _ _ _ h => h) (Or.inr ⟨by kernel_rfl, rfl⟩) (by assumption) ?_
                      try simp only [Act.put, List.setIfInBounds_toArray, List.set_cons_zero, List.set_cons_succ]
                      refine take_h 17 undef rfl (by kernel_rfl) (by kernel_rfl) (by kernel_rfl) (fun _ _ _ h => h) (Or.inr ⟨by kernel_rfl, rfl⟩) (by assumption) ?_
                      try simp only [Act.put, List.setIfInBounds_toArray, List.set_cons_zero, List.set_cons_succ]
                      refine take_h 18 undef rfl (by kernel_rfl) (by kernel_rfl) (by kernel_rfl) (fun _ _ _ h => h) (Or.inr ⟨by kernel_rfl, rfl⟩) (by assumption) ?_
                      try simp only [Act.put, List.setIfInBounds_toArray, List.set_cons_zero, List.set_cons_succ]
                      refine take_h 19 undef rfl (by kernel_rfl) (by kernel_rfl) (by kernel_rfl) (fun _ _ _ h => h) (Or.inr ⟨by kernel_rfl, rfl⟩) (by assumption) ?_
                      try simp only [Act.put, List.setIfInBounds_toArray, List.set_cons_zero, List.set_cons_succ]
                      refine take_h 20 undef rfl (by kernel_rfl) (by kernel_rfl) (by kernel_rfl) (fun _ _ _ h => h) (Or.inr ⟨by kernel_rfl, rfl⟩) (by assumption) ?_
                      try simp only [Act.put, List.setIfInBounds_toArray, List.set_cons_zero, List.set_cons_succ]
                      refine take_h 21 undef rfl (by kernel_rfl) (by kernel_rfl) (by kernel_rfl) (fun _ _ _ h => h) (Or.inr ⟨by kernel_rfl, rfl⟩) (by assumption) ?_
                      try simp only [Act.put, List.setIfInBounds_toArray, List.set_cons_zero, List.set_cons_succ]
                      refine take_h 22 undef rfl (by kernel_rfl) (by kernel_rfl) (by kernel_rfl) (fun _ _ _ h => h) (Or.inr ⟨by kernel_rfl, rfl⟩) (by assumption) ?_
                      try simp only [Act.put, List.setIfInBounds_toArray, List.set_cons_zero, List.set_cons_succ]
                      refine take_h 23 undef rfl (by kernel_rfl) (by kernel_rfl) (by kernel_rfl) (fun _ _ _ h => h) (Or.inr ⟨by kernel_rfl, rfl⟩) (by assumption) ?_
                      try simp only [Act.put, List.setIfInBounds_toArray, List.set_cons_zero, List.set_cons_succ]
                      refine take_h 24 undef rfl (by kernel_rfl) (by kernel_rfl) (by kernel_rfl) (fun _ _ _ h => h) (Or.inr ⟨by kernel_rfl, rfl⟩) (by assumption) ?_
                      try simp only [Act.put, List.setIfInBounds_toArray, List.set_cons_zero, List.set_cons_succ]
                      refine take_h 25 undef rfl (by kernel_rfl) (by kernel_rfl) (by kernel_rfl) (fun _ _ _ h => h) (Or.inr ⟨by kernel_rfl, rfl⟩) (by assumption) ?_
                      try simp only [Act.put, List.setIfInBounds_toArray, List.set_cons_zero, List.set_cons_succ]
                      refine take_h 26 undef rfl (by kernel_rfl) (by kernel_rfl) (by kernel_rfl) (fun _ _ _ h => h) (Or.inr ⟨by kernel_rfl, rfl⟩) (by assumption) ?_
                      try simp only [Act.put, List.setIfInBounds_toArray, List.set_cons_zero, List.set_cons_succ]
                      refine take_h 27 undef rfl (by kernel_rfl) (by kernel_rfl) (by kernel_rfl) (fun _ _ _ h => h) (Or.inr ⟨by kernel_rfl, rfl⟩) (by assumption) ?_
                      try simp only [Act.put, List.setIfInBounds_toArray, List.set_cons_zero, List.set_cons_succ]
                      refine take_h 28 ?_ rfl (by kernel_rfl) (by kernel_rfl) (by kernel_rfl) (fun _ _ _ h => h) (Or.inl ⟨by kernel_rfl, ?_⟩) (by assumption) ?_
                      rotate_left
                      · (intro w hSw; (try dsimp only at hSw); go_simp; try (with_reducible rfl))
                      try simp only [Act.put, List.setIfInBounds_toArray, List.set_cons_zero, List.set_cons_succ]
                      refine take_h 29 ?_ rfl (by kernel_rfl) (by kernel_rfl) (by kernel_rfl) (fun _ _ _ h => h) (Or.inl ⟨by kernel_rfl, ?_⟩) (by assumption) ?_
                      rotate_left
                      · (intro w hSw; (try dsimp only at hSw); go_simp; try (with_reducible rfl))
                      try simp only [Act.put, List.setIfInBounds_toArray, List.set_cons_zero, List.set_cons_succ]
                      refine take_h 30 ?_ rfl (by kernel_rfl) (by kernel_rfl) (by kernel_rfl) (fun _ _ _ h => h) (Or.inl ⟨by kernel_rfl, ?_⟩) (by assumption) ?_
                      rotate_left
                      · (intro w hSw; (try dsimp only at hSw); go_simp; try (with_reducible rfl))
                      try simp only [Act.put, List.setIfInBounds_toArray, List.set_cons_zero, List.set_cons_succ]
                      refine wpAnyH_done (by kernel_rfl) ?_ _
                      clear hHeld
                      go_wp2
                      go_roundw
                      case rel => exact ⟨s + 1, by omega, by rw [HS2.out], by go_num, HV⟩
                      case measure => simp [intOf]; omega
                · obtain rfl : s = j := by omega
                  have q5 : ¬ (s : Int) < (s : Int) := by omega
                  have e : anyM (FA.take s) x = true := by rw [List.take_of_length_le (by have := HFY.out.2.2; omega)]; exact HALLM.out
                  rw [e]
                  clear e
                  go_wp2
                  go_roundw
                  case rel => exact ⟨q + 1, by omega, by go_num, hN⟩
                  case measure => simp [intOf]; omega
            · obtain rfl : q = fx := by omega
              have q3 : ¬ (q : Int) < (q : Int) := by omega
              go_wp2
              go_ret
              exact ⟨rfl, HB.out.trans (hI.out.mono HB.out.size)⟩

theorem law_copiesMore (n c m d kn kc on oc : Nat) (a b ka oa : Option Addr) (l r : List Hd) (ks : List Int) (ob : Bytes) (w : World) (hG : Glob w) (hk : kn ≤ 5000 → IsKs w ka kn kc ks) (hl : SrcH w a n c l) (hr : SrcH w b m d r) (hsz : n + m ≤ 1048576) (hon : on ≤ 1048576) (ho : on ≤ 140737488355328 → IsB w oa on oc ob) :
    Calls Tryd.prog 11 #[.slice ka kn kc, .slice a n c, .slice b m d, .slice oa on oc] w fun e w' => e = .returned (.bool true) ∧ Below w.heap.size w w' := by
  by_cases h : kn ≤ 30 ∧ n + m ≤ 16
  · exact more_few n c m d kn kc on oc a b ka oa l r ks ob w hG hl hr hk (ho (by omega)) hsz hon h
  · exact more_many n c m d kn kc on oc a b ka oa l r ks ob w hG hl hr hk (ho (by omega)) hsz hon h
end Frk

namespace Frk
open Go Go.RowKit Go.Proofs Go.ChangeShapes Go.WideShapes Go.ChangeAt
set_option maxRecDepth 100000

theorem keys_open {H : Type} {enc : TypeId × Value → H} {W : World} {base : Nat} {v : Value} {d : DataW H} {p : List MemPlace} (hval : Value.okWide Tryd.prog W .any base 65 v) (h1 : DataW.Trod enc Tryd.prog W 0 (fun _ => true) true 65 v d p) :
    ∃ a len cap l, v = .slice a len cap ∧ (len : Int) ≤ 9223372036854775807 ∧ (len ≤ 5000 → IsKs W a len cap l) := by
  obtain ⟨a1, len, cap, rfl⟩ := okWide_slice Tryd.underlying65 hval
  obtain ⟨fuel, hf⟩ := h1
  have c1 : Tryd.prog.cellsOf 3 = 1 := by kernel_rfl
  rcases open_ints Tryd.underlying65 Tryd.underlying3 c1 hf with ⟨hcs, hx⟩ | ⟨a, len', cap', zs, hcs, _, hl, hm, hz, hx, hcell, hwz⟩
  · simp [Value.cells] at hcs
    obtain ⟨rfl, rfl, rfl⟩ := hcs
    exact ⟨none, 0, 0, [], rfl, by decide, fun _ => ⟨rfl, Nat.le_refl _, by decide, by decide, .inl rfl⟩⟩
  · simp [Value.cells] at hcs
    obtain ⟨rfl, rfl, rfl⟩ := hcs
    simp only [if_true] at hz
    unfold maxLen at hm
    have hlen : (zs.take len).length = len := by simp; omega
    refine ⟨some a, len, cap, zs.take len, rfl, by omega, fun h40 => ⟨hlen, hl, h40, by omega, ?_⟩⟩
    rcases Nat.eq_zero_or_pos len with h0 | h0
    · exact .inl h0
    · right
      obtain ⟨ab, ao, spot⟩ := a
      have hspot : spot = none := by simpa [Addr.add] using World.cell?_spot (hcell 0 (by omega))
      subst hspot
      refine ⟨ab, ao, rfl, fun j u hu => ?_, ?_⟩
      · have hj : j < len := by have := (List.getElem?_eq_some_iff.1 hu).1; rw [List.length_map, hlen] at this; exact this
        have hcj := hcell j (by omega)
        rw [Addr.add_lit] at hcj
        rw [hcj, ← hu, List.getElem?_map, List.getElem?_take, if_pos hj, List.getElem?_eq_getElem (show j < zs.length by omega)]
        have e : zs.getD j 0 = zs[j]'(by omega) := by simp [List.getD_eq_getElem?_getD, List.getElem?_eq_getElem (show j < zs.length by omega)]
        rw [e]
        rfl
      · have hc0 := hcell 0 (by omega)
        rw [Addr.add_lit] at hc0
        exact block_lt_of_cell hc0

theorem u8_open {H : Type} {enc : TypeId × Value → H} {W : World} {base : Nat} {v : Value} {d : DataW H} {p : List MemPlace} (hval : Value.okWide Tryd.prog W .any base 5 v) (h1 : DataW.Trod enc Tryd.prog W 0 (fun _ => true) true 5 v d p) :
    ∃ x, v = .int .u8 x ∧ 0 ≤ x ∧ x < 256 := by
  obtain ⟨x, rfl, _, _, hw⟩ := open_int Tryd.underlying5 hval h1
  refine ⟨x, rfl, ?_⟩
  simp [Lit.wf] at hw
  have h1 : IntKind.u8.min = 0 := by decide
  have h2 : IntKind.u8.max = 255 := by decide
  omega

theorem hflat_len : ∀ (l : List Hd), (∀ h ∈ l, h.ok) → (l.flatMap Hd.C).length = l.length * 42
  | [], _ => rfl
  | s :: l, h => by
    have h1 := Hd.C_len (h s (by simp)).t32
    have h2 := hflat_len l (fun s hs => h s (by simp [hs]))
    rw [List.flatMap_cons, List.length_append, h1, h2, List.length_cons]
    omega

theorem hands_open {H : Type} {enc : TypeId × Value → H} {W : World} {base : Nat} {v : Value} {d : DataW H} {p : List MemPlace} (hval : Value.okWide Tryd.prog W .any base 66 v) (h1 : DataW.Trod enc Tryd.prog W 0 (fun _ => true) true 66 v d p) :
    ∃ a len cap l, v = .slice a len cap ∧ (len : Int) ≤ 9223372036854775807 ∧ (len ≤ 5000 → IsHs W a len cap l) := by
  obtain ⟨a1, len, cap, rfl⟩ := okWide_slice Tryd.underlying66 hval
  obtain ⟨fuel, hf⟩ := h1
  have c1 : Tryd.prog.cellsOf 29 = 42 := by kernel_rfl
  rcases DataW.trod_slice Tryd.underlying66 hf with ⟨hcs, hx⟩ | ⟨a, len', cap', elems, rest, n, hn, hcs, hx, hb, hl, hm, hel, hat, hsp, _⟩
  · simp [Value.cells] at hcs
    obtain ⟨rfl, rfl, rfl⟩ := hcs
    exact ⟨none, 0, 0, [], rfl, by decide, fun _ => ⟨rfl, Nat.le_refl _, by decide, by decide, by simp, .inl rfl⟩⟩
  · simp [Value.cells] at hcs
    obtain ⟨rfl, rfl, rfl⟩ := hcs
    rw [c1] at hat hsp
    obtain ⟨hrl, hrest⟩ := hsp rfl
    unfold maxLen at hm
    have hall : ∀ i, i < cap → ∃ T : Hd, T.ok ∧ W.cells? 0 (a.add (i * 42)) 42 = some T.C := fun i hi => by
      have key : ∃ e, (W.cells? 0 (a.add (i * 42)) 42).bind (DataW.trod enc Tryd.prog W 0 (fun _ => true) true n 29) = some e := by
        by_cases h : i < len
        · exact ⟨_, (hat i h).trans (List.getElem?_eq_getElem (by omega))⟩
        · have := hrest (i - len) (by omega)
          rw [show len + (i - len) = i from by omega] at this
          exact ⟨_, this.trans (List.getElem?_eq_getElem (by omega))⟩
      obtain ⟨e, he⟩ := key
      obtain ⟨cs, h1, h2⟩ := Option.bind_eq_some_iff.1 he
      obtain ⟨T, rfl, hT⟩ := cells_hand h2
      exact ⟨T, hT, h1⟩
    have hrow : ∀ m, m ≤ len → ∃ l : List Hd, l.length = m ∧ (∀ d ∈ l, d.ok) ∧ ∀ j u, (l.flatMap Hd.C)[j]? = some u → W.cell? (a.add j) = some u := by
      intro m
      induction m with
      | zero => exact fun _ => ⟨[], rfl, by simp, fun j u h => by simp at h⟩
      | succ m ih =>
        intro hm'
        obtain ⟨l, h1, h2, h3⟩ := ih (by omega)
        obtain ⟨T, hT, hc⟩ := hall m (by omega)
        refine ⟨l ++ [T], by simp [h1], ?_, fun j u hj => ?_⟩
        · intro d hd
          rcases List.mem_append.1 hd with h | h
          · exact h2 d h
          · rw [List.mem_singleton.1 h]; exact hT
        · rw [List.flatMap_append, show [T].flatMap Hd.C = T.C from by simp] at hj
          have hdl := hflat_len l h2
          by_cases hjl : j < m * 42
          · rw [List.getElem?_append_left (by omega)] at hj
            exact h3 j u hj
          · rw [List.getElem?_append_right (by omega), hdl, h1] at hj
            have hj32 : j - m * 42 < 42 := by have := (List.getElem?_eq_some_iff.1 hj).1; rwa [Hd.C_len hT.t32] at this
            have := (World.cells?_some hc).2.2 (j - m * 42) hj32
            rw [hj] at this
            rw [Addr.add_add, show m * 42 + (j - m * 42) = j from by omega] at this
            exact this
    obtain ⟨l, hl1, hl2, hl3⟩ := hrow len (Nat.le_refl _)
    have hspot : 0 < cap → a = ⟨a.block, a.off, none⟩ := fun h => by
      obtain ⟨T, hT, hc⟩ := hall 0 h
      have h0 := (World.cells?_some hc).2.2 0 (by decide)
      rw [List.getElem?_eq_getElem (show 0 < T.C.length by rw [Hd.C_len hT.t32]; decide)] at h0
      obtain ⟨ab, ao, spot⟩ := a
      have hspot : spot = none := by simpa [Addr.add] using World.cell?_spot h0
      rw [hspot]
    refine ⟨some a, len, cap, l, rfl, by omega, fun h40 => ⟨hl1, hl, h40, by omega, hl2, ?_⟩⟩
    rcases Nat.eq_zero_or_pos len with h0 | h0
    · exact .inl h0
    · right
      have ea := hspot (by omega)
      obtain ⟨T, hT, hc⟩ := hall 0 (by omega)
      refine ⟨a.block, a.off, by rw [← ea], fun j u hu => ?_, ?_⟩
      · have := hl3 j u hu
        rw [ea, Addr.add_mid] at this
        exact this
      · have h0 := (World.cells?_some hc).2.2 0 (by decide)
        rw [List.getElem?_eq_getElem (show 0 < T.C.length by rw [Hd.C_len hT.t32]; decide), ea, Addr.add_add, Addr.add_mid] at h0
        have := block_lt_of_cell h0
        exact this
end Frk

namespace Frk
open Go Go.RowKit Go.Proofs Go.ChangeShapes Go.WideShapes Go.ChangeAt
set_option maxRecDepth 100000

theorem hands_src {H : Type} {enc : TypeId × Value → H} {W : World} {base : Nat} {v : Value} {d : DataW H} {p : List MemPlace} (hval : Value.okWide Tryd.prog W .any base 66 v) (h1 : DataW.Trod enc Tryd.prog W 0 (fun _ => true) true 66 v d p) :
    ∃ a len cap l, v = .slice a len cap ∧ SrcH W a len cap l := by
  obtain ⟨a1, len, cap, rfl⟩ := okWide_slice Tryd.underlying66 hval
  obtain ⟨fuel, hf⟩ := h1
  have c1 : Tryd.prog.cellsOf 29 = 42 := by kernel_rfl
  rcases DataW.trod_slice Tryd.underlying66 hf with ⟨hcs, hx⟩ | ⟨a, len', cap', elems, rest, n, hn, hcs, hx, hb, hl, hm, hel, hat, hsp, _⟩
  · simp [Value.cells] at hcs
    obtain ⟨rfl, rfl, rfl⟩ := hcs
    exact ⟨none, 0, 0, [], rfl, rfl, by simp, Nat.le_refl _, by decide, .inl ⟨rfl, rfl, rfl⟩⟩
  · simp [Value.cells] at hcs
    obtain ⟨rfl, rfl, rfl⟩ := hcs
    rw [c1] at hat hsp
    obtain ⟨hrl, hrest⟩ := hsp rfl
    unfold maxLen at hm
    have hall : ∀ i, i < cap → ∃ T : Hd, T.ok ∧ W.cells? 0 (a.add (i * 42)) 42 = some T.C := fun i hi => by
      have key : ∃ e, (W.cells? 0 (a.add (i * 42)) 42).bind (DataW.trod enc Tryd.prog W 0 (fun _ => true) true n 29) = some e := by
        by_cases h : i < len
        · exact ⟨_, (hat i h).trans (List.getElem?_eq_getElem (by omega))⟩
        · have := hrest (i - len) (by omega)
          rw [show len + (i - len) = i from by omega] at this
          exact ⟨_, this.trans (List.getElem?_eq_getElem (by omega))⟩
      obtain ⟨e, he⟩ := key
      obtain ⟨cs, h1, h2⟩ := Option.bind_eq_some_iff.1 he
      obtain ⟨T, rfl, hT⟩ := cells_hand h2
      exact ⟨T, hT, h1⟩
    have hrow : ∀ m, m ≤ len → ∃ l : List Hd, l.length = m ∧ (∀ d ∈ l, d.ok) ∧ ∀ j u, (l.flatMap Hd.C)[j]? = some u → W.cell? (a.add j) = some u := by
      intro m
      induction m with
      | zero => exact fun _ => ⟨[], rfl, by simp, fun j u h => by simp at h⟩
      | succ m ih =>
        intro hm'
        obtain ⟨l, h1, h2, h3⟩ := ih (by omega)
        obtain ⟨T, hT, hc⟩ := hall m (by omega)
        refine ⟨l ++ [T], by simp [h1], ?_, fun j u hj => ?_⟩
        · intro d hd
          rcases List.mem_append.1 hd with h | h
          · exact h2 d h
          · rw [List.mem_singleton.1 h]; exact hT
        · rw [List.flatMap_append, show [T].flatMap Hd.C = T.C from by simp] at hj
          have hdl := hflat_len l h2
          by_cases hjl : j < m * 42
          · rw [List.getElem?_append_left (by omega)] at hj
            exact h3 j u hj
          · rw [List.getElem?_append_right (by omega), hdl, h1] at hj
            have hj32 : j - m * 42 < 42 := by have := (List.getElem?_eq_some_iff.1 hj).1; rwa [Hd.C_len hT.t32] at this
            have := (World.cells?_some hc).2.2 (j - m * 42) hj32
            rw [hj] at this
            rw [Addr.add_add, show m * 42 + (j - m * 42) = j from by omega] at this
            exact this
    obtain ⟨l, hl1, hl2, hl3⟩ := hrow len (Nat.le_refl _)
    exact ⟨some a, len, cap, l, rfl, hl1, hl2, hl, by omega, .inr ⟨a, rfl, hl3⟩⟩
end Frk

namespace Go.Proofs.YtkkkfkefbjpmaaaDoor
open Go Go.RowKit Go.Proofs Go.ChangeShapes Go.WideShapes Go.ChangeAt Frk
set_option maxRecDepth 100000

theorem bulk_one_le {H : Type} (d : DataW H) : 1 ≤ Rows.uptoBulk d := by
  cases d with
  | lit l => cases l <;> simp [Rows.uptoBulk]
  | nil => simp [Rows.uptoBulk]
  | ptr d => simp [Rows.uptoBulk]
  | slice elems spare => simp [Rows.uptoBulk]
  | agg parts => simp [Rows.uptoBulk]
  | iface t d => simp [Rows.uptoBulk]
  | map entries => simp [Rows.uptoBulk]
  | held h => simp [Rows.uptoBulk]
theorem bulk_len {H : Type} : ∀ l : List (DataW H), l.length ≤ Rows.uptoBulkAll l
  | [] => Nat.zero_le _
  | x :: l => by
    have h1 := bulk_one_le x
    have h2 := bulk_len l
    simp only [Rows.uptoBulkAll, List.length_cons]
    omega
theorem slice_bulk {H : Type} {enc : TypeId × Value → H} {W : World} {t e : TypeId} {a : Option Addr} {len cap : Nat} {d : DataW H} {p : List MemPlace} (ht : Tryd.prog.underlying t = some (.slice e)) (h1 : DataW.Trod enc Tryd.prog W 0 (fun _ => true) true t (.slice a len cap) d p) :
    len ≤ Rows.uptoBulk d := by
  obtain ⟨fuel, hf⟩ := h1
  rcases DataW.trod_slice ht hf with ⟨hcs, hx⟩ | ⟨_, _, _, elems, rest, _, _, hcs, hx, _, _, _, hel, _, _, _⟩
  · simp [Value.cells] at hcs
    omega
  · simp [Value.cells] at hcs
    obtain ⟨rfl, rfl, rfl⟩ := hcs
    have e : d = .slice (elems.map (·.1)) (rest.map (·.1)) := (Prod.mk.inj hx).1
    rw [e]
    have := bulk_len (elems.map (·.1))
    rw [List.length_map] at this
    simp only [Rows.uptoBulk]
    omega
theorem met_laid (os : Os) : laidMet Tryd.prog Rows.copiesMoreUptoRow.laid ((World.doorLaid Tryd.prog 400 os).forCall (fun _ _ => 0) ⟨#[], #[.slice none 0 0, .slice none 0 0, .slice none 0 0, .slice none 0 0], []⟩).memory :=
  laidMet_of_run' 8 (by kernel_rfl) (by kernel_rfl)
theorem reads (os : Os) {H : Type} (enc : TypeId × Value → H) : ∃ places, DataW.whole enc Tryd.prog ((World.doorLaid Tryd.prog 400 os).forCall (fun _ _ => 0) ⟨#[], #[.slice none 0 0, .slice none 0 0, .slice none 0 0, .slice none 0 0], []⟩).memory Tryd.f11.params.toList Rows.copiesMoreSpec.vars false (#[.slice none 0 0, .slice none 0 0, .slice none 0 0, .slice none 0 0] : Array Value).toList 8 = some ([.nil, .nil, .nil, .nil], [], places) :=
  ⟨[], by kernel_rfl⟩

theorem lifted (os : Os) (started : os.Started) (H : Type) (enc : TypeId × Value → H) (F : Stop.Interp) :
    ReturnsInHanded {} Tryd.checked os 11 .any ((Rows.OpenSpec.upto Rows.copiesMoreSpec).preRow enc Tryd.prog Tryd.f11 Rows.copiesMoreUptoRow.domain false Rows.copiesMoreUptoRow.laid) (((Rows.OpenSpec.upto Rows.copiesMoreSpec).at F).post enc Tryd.prog Tryd.f11 false true false false) := by
  obtain ⟨places, hx⟩ := reads os enc
  refine returnsInHanded_of_row (C := Tryd.checked) (s := Rows.OpenSpec.upto Rows.copiesMoreSpec) own started (by kernel_rfl) Tryd.func11
    (witness_row_at (enc := enc) (C := Tryd.checked) false (World.doorLaid Tryd.prog 400 os) #[.slice none 0 0, .slice none 0 0, .slice none 0 0, .slice none 0 0] rfl (by kernel_rfl) (by kernel_rfl) (by kernel_rfl)
      (OpenSpec.preRow_of_cond 8 hx (by kernel_rfl) (fun k hk => by cases hk; kernel_rfl) (by kernel_rfl) (met_laid os))) ?_
  intro W base args ds gs before hval0 hW _ hcond _ hL _ _
  have hsm0 := hcond _ rfl
  have hval : ∀ (j : Nat) t v, Tryd.f11.params[j]? = some t → args[j]? = some v → Value.okWide Tryd.prog W .any base t v := hval0
  have hW' : DataW.Whole enc Tryd.prog Tryd.f11.params.toList Rows.copiesMoreSpec.vars false W args.toList ds gs before := hW
  obtain ⟨p, q, hA0, hV, rfl, hfz, hnd⟩ := hW
  have hA : DataW.TrodAll enc Tryd.prog W 0 (fun _ => true) true Tryd.f11.params.toList args.toList ds p := hA0
  rw [Tryd.params11] at hA hval
  obtain ⟨args⟩ := args
  obtain ⟨v0, vs0, d0, ds0, p0, q0, e0, rfl, rfl, h0, hr0⟩ := trodAll_cons hA
  obtain ⟨v1, vs1, d1, ds1, p1, q1, e1, rfl, rfl, h1, hr1⟩ := trodAll_cons hr0
  obtain ⟨v2, vs2, d2, ds2, p2, q2, e2, rfl, rfl, h2, hr2⟩ := trodAll_cons hr1
  obtain ⟨v3, vs3, d3, ds3, p3, q3, e3, rfl, rfl, h3, hr3⟩ := trodAll_cons hr2
  obtain ⟨rfl, rfl, rfl⟩ := trodAll_nil hr3
  obtain rfl : args = [v0, v1, v2, v3] := by simpa [e1, e2, e3] using e0
  obtain ⟨a0, n0, c0, l0, rfl, m0, wx0⟩ := keys_open (hval 0 65 v0 rfl rfl) h0
  have bk0 := slice_bulk Tryd.underlying65 h0
  obtain ⟨a1, n1, c1, l1, rfl, wx1⟩ := hands_src (hval 1 66 v1 rfl rfl) h1
  have bk1 := slice_bulk Tryd.underlying66 h1
  obtain ⟨a2, n2, c2, l2, rfl, wx2⟩ := hands_src (hval 2 66 v2 rfl rfl) h2
  have bk2 := slice_bulk Tryd.underlying66 h2
  obtain ⟨a3, n3, c3, l3, rfl, m3, wx3⟩ := bytes_open (hval 3 47 v3 rfl rfl) h3
  have bk3 := slice_bulk Tryd.underlying47 h3
  obtain ⟨rfl, rfl⟩ := trodVars_none hV
  have hsm1 : Rows.uptoBulkAll ([d0, d1, d2, d3] ++ []) ≤ 1048576 := of_decide_eq_true hsm0
  have hsm : Rows.uptoBulk d0 + Rows.uptoBulk d1 + Rows.uptoBulk d2 + Rows.uptoBulk d3 ≤ 1048576 := by
    simp only [List.append_nil, Rows.uptoBulkAll] at hsm1
    omega
  have hG := glob_of_laid hL
  refine (law_copiesMore n1 c1 n2 c2 n0 c0 n3 c3 a1 a2 a0 a3 l1 l2 l0 l3 W hG wx0 wx1 wx2 (by omega) (by omega) wx3).mono fun e W' ⟨he, hb⟩ => ?_
  subst he
  exact ⟨_, rfl, law_fin (s := Rows.copiesMoreSpec) (by rw [Tryd.params11]; simp only [List.mem_cons, List.not_mem_nil, or_false]; intro t ht; rcases ht with rfl | rfl | rfl | rfl <;> exact ⟨by kernel_rfl, of_decide_eq_true (by kernel_rfl)⟩) (by kernel_rfl) rfl rfl hW' hb⟩

theorem copiesMoreUpto_row : Rows.CopiesMoreUptoSaid :=
  OpenClaim.holds_of_cond 11 Tryd.f11 rfl rfl rfl rfl rfl rfl rfl ⟨rfl, rfl, rfl, rfl, rfl⟩ rfl rfl rfl rfl rfl (by kernel_rfl) Tryd.func11 (by kernel_rfl)
    (of_decide_eq_true (by kernel_rfl)) (by unfold Func.isWrapper; first | (rw [if_pos (by decide +kernel)]; kernel_rfl) | (rw [if_neg (by decide +kernel)]; exact ⟨rfl, rfl⟩))
    (fun os started H enc _ F => by rw [OpenClaim.pre_eq_preRow]; exact lifted os started H enc F)

theorem copiesMoreUpto_holds : Rows.CopiesMoreUptoCardSaid :=
  Claim7.holds_tied_plain_at .later [] [.data, .data] true Rows.copiesMoreUptoCard.stood.harness true
    copiesMoreUpto_row (fun _ h => by cases h) (by kernel_rfl) (fun _ h => by cases h) copiesMoreUpto_row_tie rfl ⟨rfl, rfl⟩ (by kernel_rfl) rfl
    (fun f fn hf hfn => by
      obtain rfl : f = 11 := Option.some.inj ((show Tryd.prog.funcNamed "franking/frankinglaw51.CopiesMore" = some 11 by kernel_rfl).symm.trans hf) |>.symm
      obtain rfl : fn = Tryd.f11 := (Option.some.inj (Tryd.func11.symm.trans hfn)).symm
      exact ⟨by kernel_rfl, fun j t ht => by
        rw [Tryd.params11] at ht
        have hm : t ∈ [65, 66, 66, 47] := by simpa using Array.mem_of_getElem? ht
        have hall : ([65, 66, 66, 47].all fun u => !Tryd.prog.wantsStandIn u) = true := by kernel_rfl
        exact (show Tryd.prog.wantsStandIn t = false by simpa using List.all_eq_true.1 hall t hm)⟩)
    (by kernel_rfl)
#print axioms copiesMoreUpto_holds
end Go.Proofs.YtkkkfkefbjpmaaaDoor
