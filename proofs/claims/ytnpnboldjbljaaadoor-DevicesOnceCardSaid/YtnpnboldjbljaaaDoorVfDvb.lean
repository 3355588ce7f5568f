/- Law 44, plain: devices. -/
import Derived.Test.YtnpnboldjbljaaaDoorVfDva
namespace Frk
set_option maxRecDepth 100000

structure Po where
  o : Int
  S : Bytes
deriving DecidableEq
structure Dv where
  P : List Po
  G : List Int
def Dv.z : Dv := ⟨[], []⟩

def okP (p : Po) : Bool := decide (0 ≤ p.o) && decide (p.o ≤ 1048576)
def rightD (d : Dv) : Bool := d.P.all okP && (risB Po.o d.P && (risB idI d.G && d.G.all (fun n => hasK Po.o d.P n)))
def chkD (d : Dv) : Int := if 4096 < d.P.length then 2 else if rightD d then 0 else 440
theorem chkD_zero {d : Dv} : chkD d = 0 ↔ d.P.length ≤ 4096 ∧ rightD d = true := by
  unfold chkD
  split
  · constructor
    · intro h; cases h
    · rintro ⟨h, _⟩; omega
  · split
    · constructor
      · intro _; exact ⟨by omega, by assumption⟩
      · intro _; rfl
    · constructor
      · intro h; cases h
      · rintro ⟨_, h⟩; exact absurd h (by assumption)
theorem rightD_iff {d : Dv} : rightD d = true ↔ (∀ p ∈ d.P, okP p = true) ∧ RisK Po.o d.P ∧ RisK idI d.G ∧ ∀ n ∈ d.G, hasK Po.o d.P n = true := by
  unfold rightD
  rw [Bool.and_eq_true, Bool.and_eq_true, Bool.and_eq_true, List.all_eq_true, List.all_eq_true, risB_iff, risB_iff]

/-- a posting of b that a knows otherwise -/
def confD (a b : List Po) : Bool := b.any (fun p => a.any (fun q => (q.o == p.o) && !decide (q = p)))
theorem confD_iff {a b : List Po} : confD a b = false ↔ AgrK Po.o a b := by
  unfold confD AgrK
  rw [List.any_eq_false]
  constructor
  · intro h x hx y hy e
    have h1 := h y hy
    rw [List.any_eq_true] at h1
    rcases Decidable.em (x = y) with e2 | e2
    · exact e2
    · exact absurd ⟨x, hx, by simp [e, e2]⟩ h1
  · intro h p hp h1
    obtain ⟨q, hq, e⟩ := List.any_eq_true.1 h1
    simp only [Bool.and_eq_true, beq_iff_eq, Bool.not_eq_true', decide_eq_false_iff_not] at e
    exact e.2 (h q hq p hp e.1)
theorem AgrK.symm {α : Type} {key : α → Int} {a b : List α} (h : AgrK key a b) : AgrK key b a := fun x hx y hy e => (h y hy x hx e.symm).symm
def mrgD (a b : Dv) : Dv := ⟨mrgK Po.o a.P b.P, mrgK idI a.G b.G⟩
def mergeE (a b : Dv) : Int := if chkD a ≠ 0 then chkD a else if chkD b ≠ 0 then chkD b else if confD a.P b.P then 440 else if 4096 < (mrgK Po.o a.P b.P).length then 2 else 0
def mergeD (a b : Dv) : Dv := if mergeE a b = 0 then mrgD a b else Dv.z
theorem mergeE_zero {a b : Dv} : mergeE a b = 0 ↔ chkD a = 0 ∧ chkD b = 0 ∧ AgrK Po.o a.P b.P ∧ (mrgK Po.o a.P b.P).length ≤ 4096 := by
  unfold mergeE
  by_cases h1 : chkD a = 0
  · rw [if_neg (by simp [h1])]
    by_cases h2 : chkD b = 0
    · rw [if_neg (by simp [h2])]
      cases h3 : confD a.P b.P with
      | true =>
        rw [if_pos rfl]
        constructor
        · intro h; cases h
        · rintro ⟨_, _, h, _⟩; rw [confD_iff.2 h] at h3; cases h3
      | false =>
        rw [if_neg (by simp)]
        by_cases h4 : 4096 < (mrgK Po.o a.P b.P).length
        · rw [if_pos h4]
          constructor
          · intro h; cases h
          · rintro ⟨_, _, _, h⟩; omega
        · rw [if_neg h4]
          exact ⟨fun _ => ⟨h1, h2, confD_iff.1 h3, by omega⟩, fun _ => rfl⟩
    · rw [if_pos h2]
      exact ⟨fun h => absurd h h2, fun h => absurd h.2.1 h2⟩
  · rw [if_pos h1]
    exact ⟨fun h => absurd h h1, fun h => absurd h.1 h1⟩

theorem hasK_mrg {α : Type} {key : α → Int} {a b : List α} (hg : AgrK key a b) (n : Int) : hasK key (mrgK key a b) n = (hasK key a n || hasK key b n) := by
  rw [Bool.eq_iff_iff, Bool.or_eq_true, hasK_iff, hasK_iff, hasK_iff]
  constructor
  · rintro ⟨x, hx, e⟩
    rcases (mem_mrgK a b hg x).1 hx with h | h
    · exact .inl ⟨x, h, e⟩
    · exact .inr ⟨x, h, e⟩
  · rintro (⟨x, hx, e⟩ | ⟨x, hx, e⟩)
    · exact ⟨x, (mem_mrgK a b hg x).2 (.inl hx), e⟩
    · exact ⟨x, (mem_mrgK a b hg x).2 (.inr hx), e⟩
theorem mrgK_len {α : Type} {key : α → Int} : ∀ a b : List α, (mrgK key a b).length ≤ a.length + b.length
  | [], b => by unfold mrgK; simp
  | y :: a, [] => by unfold mrgK; simp
  | y :: a, z :: b => by
    unfold mrgK
    split
    · have := mrgK_len (key := key) a (z :: b); simp at this ⊢; omega
    · split
      · have := mrgK_len (key := key) (y :: a) b; simp at this ⊢; omega
      · have := mrgK_len (key := key) a b; simp at this ⊢; omega
termination_by a b => a.length + b.length

/-- what is merged is right -/
theorem mrgD_right {a b : Dv} (ha : rightD a = true) (hb : rightD b = true) (hg : AgrK Po.o a.P b.P) : rightD (mrgD a b) = true := by
  have ha := rightD_iff.1 ha
  have hb := rightD_iff.1 hb
  refine rightD_iff.2 ⟨fun p hp => ?_, mrgK_ris _ _ ha.2.1 hb.2.1, mrgK_ris _ _ ha.2.2.1 hb.2.2.1, fun n hn => ?_⟩
  · rcases (mem_mrgK _ _ hg p).1 hp with h | h
    · exact ha.1 p h
    · exact hb.1 p h
  · show hasK Po.o (mrgK Po.o a.P b.P) n = true
    rw [hasK_mrg hg, Bool.or_eq_true]
    rcases mrgK_or _ _ n hn with h | h
    · exact .inl (ha.2.2.2 n h)
    · exact .inr (hb.2.2.2 n h)
theorem merge_chk {a b : Dv} (h : mergeE a b = 0) : chkD (mergeD a b) = 0 := by
  unfold mergeD
  rw [if_pos h]
  have h := mergeE_zero.1 h
  exact chkD_zero.2 ⟨h.2.2.2, mrgD_right (chkD_zero.1 h.1).2 (chkD_zero.1 h.2.1).2 h.2.2.1⟩
theorem mergeE_right {a b : Dv} (ha : chkD a = 0) (hb : chkD b = 0) : mergeE a b = if confD a.P b.P then 440 else if 4096 < (mrgK Po.o a.P b.P).length then 2 else 0 := by
  unfold mergeE
  rw [if_neg (show ¬ chkD a ≠ 0 by simp [ha]), if_neg (show ¬ chkD b ≠ 0 by simp [hb])]
/-! ## receipts -/

def gotE (d : Dv) (n : Int) : Int := if chkD d ≠ 0 then chkD d else if hasK Po.o d.P n then 0 else 1
def gotD (d : Dv) (n : Int) : Dv := if gotE d n = 0 then ⟨d.P, putI d.G n⟩ else Dv.z
def owedL (d : Dv) : List Int := (d.P.map Po.o).filter (fun n => !hasK idI d.G n)
theorem got_right {d : Dv} {n : Int} (h : chkD d = 0) (hn : hasK Po.o d.P n = true) : chkD ⟨d.P, putI d.G n⟩ = 0 := by
  have h0 := chkD_zero.1 h
  have hr := rightD_iff.1 h0.2
  refine chkD_zero.2 ⟨h0.1, rightD_iff.2 ⟨hr.1, hr.2.1, putI_ris hr.2.2.1 n, fun m hm => ?_⟩⟩
  rcases mem_putI.1 hm with e | e
  · rw [e]; exact hn
  · exact hr.2.2.2 m e
theorem has_id {l : List Int} {n : Int} : hasK idI l n = true ↔ n ∈ l := by
  rw [hasK_iff]
  constructor
  · rintro ⟨x, hx, e⟩
    have e : x = n := e
    rw [← e]; exact hx
  · intro h; exact ⟨n, h, rfl⟩
theorem filter_len {α : Type} (p : α → Bool) : ∀ l : List α, (l.filter p).length + (l.filter (fun x => !p x)).length = l.length
  | [] => rfl
  | x :: l => by
    have ih := filter_len p l
    cases h : p x with
    | true => rw [List.filter_cons_of_pos h, List.filter_cons_of_neg (by simp [h])]; simp; omega
    | false => rw [List.filter_cons_of_neg (by simp [h]), List.filter_cons_of_pos (by simp [h])]; simp; omega
/-- what is owed, and what is not, is all that is posted -/
theorem owed_len {d : Dv} (h : rightD d = true) : (owedL d).length + d.G.length = d.P.length := by
  have hr := rightD_iff.1 h
  have hm : RisK idI (d.P.map Po.o) := by
    unfold RisK
    rw [List.pairwise_map]
    exact hr.2.1
  have e : (d.P.map Po.o).filter (fun n => hasK idI d.G n) = d.G := by
    refine risK_ext (key := idI) (List.Pairwise.sublist List.filter_sublist hm) hr.2.2.1 fun x => ?_
    rw [List.mem_filter, has_id]
    constructor
    · exact fun h => h.2
    · intro hx
      obtain ⟨p, hp, e⟩ := hasK_iff.1 (hr.2.2.2 x hx)
      exact ⟨List.mem_map.2 ⟨p, hp, e⟩, hx⟩
  have := filter_len (fun n => hasK idI d.G n) (d.P.map Po.o)
  rw [e, List.length_map] at this
  unfold owedL
  omega
end Frk
