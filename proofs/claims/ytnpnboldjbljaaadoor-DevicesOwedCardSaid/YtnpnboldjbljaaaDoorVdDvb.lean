/- Law 44, plain: devices. -/
import Derived.Test.YtnpnboldjbljaaaDoorVdDva
namespace Frk
set_option maxRecDepth 100000

structure Po where
  o : Int
  S : Bytes
deriving DecidableEq
structure Dv where
  P : List Po
  G : List Int
def Dv.z : Dv := ⟨[], []⟩

def okP (p : Po) : Bool := decide (0 ≤ p.o) && decide (p.o ≤ 1048576)
def rightD (d : Dv) : Bool := d.P.all okP && (risB Po.o d.P && (risB idI d.G && d.G.all (fun n => hasK Po.o d.P n)))
def chkD (d : Dv) : Int := if 4096 < d.P.length then 2 else if rightD d then 0 else 440
theorem chkD_zero {d : Dv} : chkD d = 0 ↔ d.P.length ≤ 4096 ∧ rightD d = true := by
  unfold chkD
  split
  · constructor
    · intro h; cases h
    · rintro ⟨h, _⟩; omega
  · split
    · constructor
      · intro _; exact ⟨by omega, by assumption⟩
      · intro _; rfl
    · constructor
      · intro h; cases h
      · rintro ⟨_, h⟩; exact absurd h (by assumption)
theorem rightD_iff {d : Dv} : rightD d = true ↔ (∀ p ∈ d.P, okP p = true) ∧ RisK Po.o d.P ∧ RisK idI d.G ∧ ∀ n ∈ d.G, hasK Po.o d.P n = true := by
  unfold rightD
  rw [Bool.and_eq_true, Bool.and_eq_true, Bool.and_eq_true, List.all_eq_true, List.all_eq_true, risB_iff, risB_iff]

/-- a posting of b that a knows otherwise -/
def confD (a b : List Po) : Bool := b.any (fun p => a.any (fun q => (q.o == p.o) && !decide (q = p)))
theorem confD_iff {a b : List Po} : confD a b = false ↔ AgrK Po.o a b := by
  unfold confD AgrK
  rw [List.any_eq_false]
  constructor
  · intro h x hx y hy e
    have h1 := h y hy
    rw [List.any_eq_true] at h1
    rcases Decidable.em (x = y) with e2 | e2
    · exact e2
    · exact absurd ⟨x, hx, by simp [e, e2]⟩ h1
  · intro h p hp h1
    obtain ⟨q, hq, e⟩ := List.any_eq_true.1 h1
    simp only [Bool.and_eq_true, beq_iff_eq, Bool.not_eq_true', decide_eq_false_iff_not] at e
    exact e.2 (h q hq p hp e.1)
theorem AgrK.symm {α : Type} {key : α → Int} {a b : List α} (h : AgrK key a b) : AgrK key b a := fun x hx y hy e => (h y hy x hx e.symm).symm
theorem confD_comm (a b : List Po) : confD a b = confD b a := by
  cases h : confD a b with
  | false => exact (confD_iff.2 (confD_iff.1 h).symm).symm
  | true =>
    cases h2 : confD b a with
    | true => rfl
    | false => rw [confD_iff.2 (confD_iff.1 h2).symm] at h; cases h

def mrgD (a b : Dv) : Dv := ⟨mrgK Po.o a.P b.P, mrgK idI a.G b.G⟩
def mergeE (a b : Dv) : Int := if chkD a ≠ 0 then chkD a else if chkD b ≠ 0 then chkD b else if confD a.P b.P then 440 else if 4096 < (mrgK Po.o a.P b.P).length then 2 else 0
def mergeD (a b : Dv) : Dv := if mergeE a b = 0 then mrgD a b else Dv.z
theorem mergeE_zero {a b : Dv} : mergeE a b = 0 ↔ chkD a = 0 ∧ chkD b = 0 ∧ AgrK Po.o a.P b.P ∧ (mrgK Po.o a.P b.P).length ≤ 4096 := by
  unfold mergeE
  by_cases h1 : chkD a = 0
  · rw [if_neg (by simp [h1])]
    by_cases h2 : chkD b = 0
    · rw [if_neg (by simp [h2])]
      cases h3 : confD a.P b.P with
      | true =>
        rw [if_pos rfl]
        constructor
        · intro h; cases h
        · rintro ⟨_, _, h, _⟩; rw [confD_iff.2 h] at h3; cases h3
      | false =>
        rw [if_neg (by simp)]
        by_cases h4 : 4096 < (mrgK Po.o a.P b.P).length
        · rw [if_pos h4]
          constructor
          · intro h; cases h
          · rintro ⟨_, _, _, h⟩; omega
        · rw [if_neg h4]
          exact ⟨fun _ => ⟨h1, h2, confD_iff.1 h3, by omega⟩, fun _ => rfl⟩
    · rw [if_pos h2]
      exact ⟨fun h => absurd h h2, fun h => absurd h.2.1 h2⟩
  · rw [if_pos h1]
    exact ⟨fun h => absurd h h1, fun h => absurd h.1 h1⟩

/-- the same list on both sides -/
theorem mrgK_self {α : Type} {key : α → Int} {a : List α} (h : RisK key a) : mrgK key a a = a :=
  risK_ext (mrgK_ris a a h h) h fun x => (mem_mrgK a a (fun x hx y hy e => h.inj hx hy e) x).trans (by simp)
theorem mrgK_comm {α : Type} {key : α → Int} {a b : List α} (ha : RisK key a) (hb : RisK key b) (hg : AgrK key a b) : mrgK key a b = mrgK key b a :=
  risK_ext (mrgK_ris a b ha hb) (mrgK_ris b a hb ha) fun x => by rw [mem_mrgK a b hg, mem_mrgK b a hg.symm, or_comm]
theorem agr_mrg {α : Type} {key : α → Int} {a b c : List α} (hg : AgrK key a b) : AgrK key (mrgK key a b) c ↔ AgrK key a c ∧ AgrK key b c := by
  unfold AgrK
  constructor
  · intro h
    exact ⟨fun x hx y hy e => h x ((mem_mrgK a b hg x).2 (.inl hx)) y hy e, fun x hx y hy e => h x ((mem_mrgK a b hg x).2 (.inr hx)) y hy e⟩
  · rintro ⟨h1, h2⟩ x hx y hy e
    rcases (mem_mrgK a b hg x).1 hx with h | h
    · exact h1 x h y hy e
    · exact h2 x h y hy e
theorem mrgK_assoc {α : Type} {key : α → Int} {a b c : List α} (ha : RisK key a) (hb : RisK key b) (hc : RisK key c) (h1 : AgrK key a b) (h2 : AgrK key a c) (h3 : AgrK key b c) :
    mrgK key (mrgK key a b) c = mrgK key a (mrgK key b c) := by
  have g1 : AgrK key (mrgK key a b) c := (agr_mrg h1).2 ⟨h2, h3⟩
  have g2 : AgrK key a (mrgK key b c) := AgrK.symm ((agr_mrg h3).2 ⟨h1.symm, h2.symm⟩)
  refine risK_ext (mrgK_ris _ _ (mrgK_ris a b ha hb) hc) (mrgK_ris _ _ ha (mrgK_ris b c hb hc)) fun x => ?_
  rw [mem_mrgK _ _ g1, mem_mrgK _ _ g2, mem_mrgK _ _ h1, mem_mrgK _ _ h3, or_assoc]
theorem hasK_mrg {α : Type} {key : α → Int} {a b : List α} (hg : AgrK key a b) (n : Int) : hasK key (mrgK key a b) n = (hasK key a n || hasK key b n) := by
  rw [Bool.eq_iff_iff, Bool.or_eq_true, hasK_iff, hasK_iff, hasK_iff]
  constructor
  · rintro ⟨x, hx, e⟩
    rcases (mem_mrgK a b hg x).1 hx with h | h
    · exact .inl ⟨x, h, e⟩
    · exact .inr ⟨x, h, e⟩
  · rintro (⟨x, hx, e⟩ | ⟨x, hx, e⟩)
    · exact ⟨x, (mem_mrgK a b hg x).2 (.inl hx), e⟩
    · exact ⟨x, (mem_mrgK a b hg x).2 (.inr hx), e⟩
theorem mrgK_len {α : Type} {key : α → Int} : ∀ a b : List α, (mrgK key a b).length ≤ a.length + b.length
  | [], b => by unfold mrgK; simp
  | y :: a, [] => by unfold mrgK; simp
  | y :: a, z :: b => by
    unfold mrgK
    split
    · have := mrgK_len (key := key) a (z :: b); simp at this ⊢; omega
    · split
      · have := mrgK_len (key := key) (y :: a) b; simp at this ⊢; omega
      · have := mrgK_len (key := key) a b; simp at this ⊢; omega
termination_by a b => a.length + b.length

/-- what is merged is right -/
theorem mrgD_right {a b : Dv} (ha : rightD a = true) (hb : rightD b = true) (hg : AgrK Po.o a.P b.P) : rightD (mrgD a b) = true := by
  have ha := rightD_iff.1 ha
  have hb := rightD_iff.1 hb
  refine rightD_iff.2 ⟨fun p hp => ?_, mrgK_ris _ _ ha.2.1 hb.2.1, mrgK_ris _ _ ha.2.2.1 hb.2.2.1, fun n hn => ?_⟩
  · rcases (mem_mrgK _ _ hg p).1 hp with h | h
    · exact ha.1 p h
    · exact hb.1 p h
  · show hasK Po.o (mrgK Po.o a.P b.P) n = true
    rw [hasK_mrg hg, Bool.or_eq_true]
    rcases mrgK_or _ _ n hn with h | h
    · exact .inl (ha.2.2.2 n h)
    · exact .inr (hb.2.2.2 n h)
theorem merge_chk {a b : Dv} (h : mergeE a b = 0) : chkD (mergeD a b) = 0 := by
  unfold mergeD
  rw [if_pos h]
  have h := mergeE_zero.1 h
  exact chkD_zero.2 ⟨h.2.2.2, mrgD_right (chkD_zero.1 h.1).2 (chkD_zero.1 h.2.1).2 h.2.2.1⟩
theorem merge_self {a : Dv} (h : chkD a = 0) : mergeE a a = 0 ∧ mergeD a a = a := by
  have hr := rightD_iff.1 (chkD_zero.1 h).2
  have e1 := mrgK_self hr.2.1
  have e : mergeE a a = 0 := mergeE_zero.2 ⟨h, h, fun x hx y hy e => hr.2.1.inj hx hy e, by rw [e1]; exact (chkD_zero.1 h).1⟩
  refine ⟨e, ?_⟩
  unfold mergeD mrgD
  rw [if_pos e, e1, mrgK_self hr.2.2.1]
theorem mergeE_right {a b : Dv} (ha : chkD a = 0) (hb : chkD b = 0) : mergeE a b = if confD a.P b.P then 440 else if 4096 < (mrgK Po.o a.P b.P).length then 2 else 0 := by
  unfold mergeE
  rw [if_neg (show ¬ chkD a ≠ 0 by simp [ha]), if_neg (show ¬ chkD b ≠ 0 by simp [hb])]
theorem mergeE_comm {a b : Dv} (ha : chkD a = 0) (hb : chkD b = 0) : mergeE a b = mergeE b a := by
  rw [mergeE_right ha hb, mergeE_right hb ha, confD_comm a.P b.P]
  split
  · rfl
  · have hg : AgrK Po.o b.P a.P := confD_iff.1 (by simpa using ‹¬ confD b.P a.P = true›)
    rw [mrgK_comm (rightD_iff.1 (chkD_zero.1 hb).2).2.1 (rightD_iff.1 (chkD_zero.1 ha).2).2.1 hg]
theorem mergeD_comm {a b : Dv} (ha : chkD a = 0) (hb : chkD b = 0) : mergeD a b = mergeD b a := by
  unfold mergeD
  rw [mergeE_comm ha hb]
  split
  · have h := mergeE_zero.1 (by assumption)
    have h1 := rightD_iff.1 (chkD_zero.1 ha).2
    have h2 := rightD_iff.1 (chkD_zero.1 hb).2
    unfold mrgD
    rw [mrgK_comm h1.2.1 h2.2.1 h.2.2.1.symm, mrgK_comm h1.2.2.1 h2.2.2.1 (agr_id _ _)]
  · rfl
/-- what merging can answer of devices that are right and know little -/
theorem mergeE_or {a b : Dv} (ha : chkD a = 0) (hb : chkD b = 0) (hn : a.P.length + b.P.length ≤ 4096) : mergeE a b = if confD a.P b.P then 440 else 0 := by
  rw [mergeE_right ha hb]
  split
  · rfl
  · rw [if_neg]
    have := mrgK_len (key := Po.o) a.P b.P
    omega
theorem merge_assoc {a b c : Dv} (ha : chkD a = 0) (hb : chkD b = 0) (hc : chkD c = 0) (hn : a.P.length + b.P.length + c.P.length ≤ 4096) (h1 : mergeE a b = 0) (h2 : mergeE b c = 0) :
    mergeE (mergeD a b) c = mergeE a (mergeD b c) ∧ mergeD (mergeD a b) c = mergeD a (mergeD b c) := by
  have k1 := mergeE_zero.1 h1
  have k2 := mergeE_zero.1 h2
  have ra := rightD_iff.1 (chkD_zero.1 ha).2
  have rb := rightD_iff.1 (chkD_zero.1 hb).2
  have rc := rightD_iff.1 (chkD_zero.1 hc).2
  have e1 : mergeD a b = mrgD a b := by unfold mergeD; rw [if_pos h1]
  have e2 : mergeD b c = mrgD b c := by unfold mergeD; rw [if_pos h2]
  have c1 := merge_chk h1
  have c2 := merge_chk h2
  have n1 : (mergeD a b).P.length ≤ a.P.length + b.P.length := by rw [e1]; exact mrgK_len _ _
  have n2 : (mergeD b c).P.length ≤ b.P.length + c.P.length := by rw [e2]; exact mrgK_len _ _
  have g1 : confD (mergeD a b).P c.P = false ↔ AgrK Po.o a.P c.P := by
    rw [confD_iff, e1]
    show AgrK Po.o (mrgK Po.o a.P b.P) c.P ↔ _
    rw [agr_mrg k1.2.2.1]
    exact ⟨fun h => h.1, fun h => ⟨h, k2.2.2.1⟩⟩
  have g2 : confD a.P (mergeD b c).P = false ↔ AgrK Po.o a.P c.P := by
    rw [confD_iff, e2]
    show AgrK Po.o a.P (mrgK Po.o b.P c.P) ↔ _
    constructor
    · intro h; exact ((agr_mrg k2.2.2.1).1 h.symm).2.symm
    · intro h; exact AgrK.symm ((agr_mrg k2.2.2.1).2 ⟨k1.2.2.1.symm, h.symm⟩)
  have e3 : mergeE (mergeD a b) c = mergeE a (mergeD b c) := by
    rw [mergeE_or c1 hc (by omega), mergeE_or ha c2 (by omega)]
    have : confD (mergeD a b).P c.P = confD a.P (mergeD b c).P := by
      cases h : confD (mergeD a b).P c.P with
      | false => exact (g2.2 (g1.1 h)).symm
      | true =>
        cases h' : confD a.P (mergeD b c).P with
        | true => rfl
        | false => rw [g1.2 (g2.1 h')] at h; cases h
    rw [this]
  refine ⟨e3, ?_⟩
  by_cases h : mergeE (mergeD a b) c = 0
  · have hac : AgrK Po.o a.P c.P := g1.1 (confD_iff.2 (mergeE_zero.1 h).2.2.1)
    have f1 : mergeD (mergeD a b) c = mrgD (mergeD a b) c := by
      show (if mergeE (mergeD a b) c = 0 then _ else _) = _
      rw [if_pos h]
    have f2 : mergeD a (mergeD b c) = mrgD a (mergeD b c) := by
      show (if mergeE a (mergeD b c) = 0 then _ else _) = _
      rw [if_pos (by rw [← e3]; exact h)]
    rw [f1, f2, e1, e2]
    unfold mrgD
    simp only
    rw [mrgK_assoc ra.2.1 rb.2.1 rc.2.1 k1.2.2.1 hac k2.2.2.1, mrgK_assoc ra.2.2.1 rb.2.2.1 rc.2.2.1 (agr_id _ _) (agr_id _ _) (agr_id _ _)]
  · have f1 : mergeD (mergeD a b) c = Dv.z := by
      show (if mergeE (mergeD a b) c = 0 then _ else _) = _
      rw [if_neg h]
    have f2 : mergeD a (mergeD b c) = Dv.z := by
      show (if mergeE a (mergeD b c) = 0 then _ else _) = _
      rw [if_neg (by rw [← e3]; exact h)]
    rw [f1, f2]

/-! ## receipts -/

def gotE (d : Dv) (n : Int) : Int := if chkD d ≠ 0 then chkD d else if hasK Po.o d.P n then 0 else 1
def gotD (d : Dv) (n : Int) : Dv := if gotE d n = 0 then ⟨d.P, putI d.G n⟩ else Dv.z
def owedL (d : Dv) : List Int := (d.P.map Po.o).filter (fun n => !hasK idI d.G n)
theorem got_right {d : Dv} {n : Int} (h : chkD d = 0) (hn : hasK Po.o d.P n = true) : chkD ⟨d.P, putI d.G n⟩ = 0 := by
  have h0 := chkD_zero.1 h
  have hr := rightD_iff.1 h0.2
  refine chkD_zero.2 ⟨h0.1, rightD_iff.2 ⟨hr.1, hr.2.1, putI_ris hr.2.2.1 n, fun m hm => ?_⟩⟩
  rcases mem_putI.1 hm with e | e
  · rw [e]; exact hn
  · exact hr.2.2.2 m e
theorem has_id {l : List Int} {n : Int} : hasK idI l n = true ↔ n ∈ l := by
  rw [hasK_iff]
  constructor
  · rintro ⟨x, hx, e⟩
    have e : x = n := e
    rw [← e]; exact hx
  · intro h; exact ⟨n, h, rfl⟩
theorem filter_len {α : Type} (p : α → Bool) : ∀ l : List α, (l.filter p).length + (l.filter (fun x => !p x)).length = l.length
  | [] => rfl
  | x :: l => by
    have ih := filter_len p l
    cases h : p x with
    | true => rw [List.filter_cons_of_pos h, List.filter_cons_of_neg (by simp [h])]; simp; omega
    | false => rw [List.filter_cons_of_neg (by simp [h]), List.filter_cons_of_pos (by simp [h])]; simp; omega
/-- what is owed, and what is not, is all that is posted -/
theorem owed_len {d : Dv} (h : rightD d = true) : (owedL d).length + d.G.length = d.P.length := by
  have hr := rightD_iff.1 h
  have hm : RisK idI (d.P.map Po.o) := by
    unfold RisK
    rw [List.pairwise_map]
    exact hr.2.1
  have e : (d.P.map Po.o).filter (fun n => hasK idI d.G n) = d.G := by
    refine risK_ext (key := idI) (List.Pairwise.sublist List.filter_sublist hm) hr.2.2.1 fun x => ?_
    rw [List.mem_filter, has_id]
    constructor
    · exact fun h => h.2
    · intro hx
      obtain ⟨p, hp, e⟩ := hasK_iff.1 (hr.2.2.2 x hx)
      exact ⟨List.mem_map.2 ⟨p, hp, e⟩, hx⟩
  have := filter_len (fun n => hasK idI d.G n) (d.P.map Po.o)
  rw [e, List.length_map] at this
  unfold owedL
  omega
theorem owed_has {d : Dv} {p : Po} (hp : p ∈ d.P) : hasK idI (owedL d) p.o = !hasK idI d.G p.o := by
  rw [Bool.eq_iff_iff, has_id]
  unfold owedL
  rw [List.mem_filter]
  constructor
  · exact fun h => h.2
  · exact fun h => ⟨List.mem_map.2 ⟨p, hp, rfl⟩, h⟩
theorem owed_not {d : Dv} {n : Int} (h : n ∈ d.G) : hasK idI (owedL d) n = false := by
  cases e : hasK idI (owedL d) n with
  | false => rfl
  | true =>
    have := (List.mem_filter.1 (has_id.1 e)).2
    rw [has_id.2 h] at this
    cases this
end Frk
