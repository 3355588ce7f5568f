/- Law 44, plain: what an office has taken; devices whose postings are those of a secret. -/
import Derived.Test.YtnpnboldjbljaaaDoorVfMpn
namespace Frk
open Go
set_option maxRecDepth 100000

/-- the orders given, and the serials used -/
structure Off (s : Int) (gs : List Int) (u : List Bytes) : Prop where
  nd : gs.Nodup
  rng : ∀ o ∈ gs, 0 ≤ o ∧ o < 8
  used : usedB u = true
  mem : ∀ b, b ∈ u ↔ ∃ o ∈ gs, serB s o = b
  len : u.length = gs.length
  inj : ∀ o ∈ gs, ∀ o' ∈ gs, serB s o = serB s o' → o = o'
theorem Off.nil (s : Int) : Off s [] [] := ⟨List.nodup_nil, by simp, rfl, by simp, rfl, by simp⟩
theorem nodup_small : ∀ (n : Nat) (l : List Int), l.Nodup → (∀ o ∈ l, 0 ≤ o ∧ o < (n : Int)) → l.length ≤ n
  | 0, [], _, _ => Nat.le_refl _
  | 0, x :: l, _, h => by have := h x List.mem_cons_self; omega
  | n + 1, l, hn, h => by
    have ih := nodup_small n (l.filter (fun o => decide (o ≠ (n : Int)))) (hn.sublist List.filter_sublist) (fun o ho => by
      rw [List.mem_filter] at ho
      have h1 := h o ho.1
      have h2 := ho.2
      simp only [ne_eq, decide_not, Bool.not_eq_true', decide_eq_false_iff_not] at h2
      omega)
    have hc : (l.filter (fun o => !decide (o ≠ (n : Int)))).length ≤ 1 := by
      have hs : (l.filter (fun o => !decide (o ≠ (n : Int)))).Nodup := hn.sublist List.filter_sublist
      have he : ∀ o ∈ l.filter (fun o => !decide (o ≠ (n : Int))), o = (n : Int) := fun o ho => by
        rw [List.mem_filter] at ho
        have h2 := ho.2
        simpa using h2
      match hl : l.filter (fun o => !decide (o ≠ (n : Int))), hs, he with
      | [], _, _ => simp
      | [x], _, _ => simp
      | x :: y :: r, hs, he =>
        have e1 := he x (by simp)
        have e2 := he y (by simp)
        rw [e1, e2] at hs
        simp at hs
    have := filter_len (fun o => decide (o ≠ (n : Int))) l
    omega
theorem Off.small {s : Int} {gs : List Int} {u : List Bytes} (h : Off s gs u) : gs.length ≤ 8 := nodup_small 8 gs h.nd h.rng
theorem Off.cons {s : Int} {gs : List Int} {u : List Bytes} (h : Off s gs u) {o : Int} (h0 : 0 ≤ o) (h8 : o < 8) (hn : ∀ o' ∈ gs, serB s o' ≠ serB s o) : Off s (o :: gs) (putB u (serB s o)) := by
  have hou : serB s o ∉ u := fun hm => by
    obtain ⟨o', ho', e⟩ := (h.mem _).1 hm
    exact hn o' ho' e
  refine ⟨List.nodup_cons.2 ⟨fun hm => hn o hm rfl, h.nd⟩, fun x hx => ?_, used_putB u _ h.used hou, fun b => ?_, by rw [putB_length, h.len]; rfl, fun x hx y hy e => ?_⟩
  · rcases List.mem_cons.1 hx with rfl | hx
    · exact ⟨h0, h8⟩
    · exact h.rng x hx
  · rw [mem_putB, h.mem]
    constructor
    · rintro (rfl | ⟨x, hx, e⟩)
      · exact ⟨o, List.mem_cons_self, rfl⟩
      · exact ⟨x, List.mem_cons_of_mem _ hx, e⟩
    · rintro ⟨x, hx, e⟩
      rcases List.mem_cons.1 hx with rfl | hx
      · exact .inl e.symm
      · exact .inr ⟨x, hx, e⟩
  · rcases List.mem_cons.1 hx with e1 | hx'
    · rcases List.mem_cons.1 hy with e2 | hy'
      · rw [e1, e2]
      · rw [e1] at e; exact absurd e.symm (hn y hy')
    · rcases List.mem_cons.1 hy with e2 | hy'
      · rw [e2] at e; exact absurd e (hn x hx')
      · exact h.inj x hx' y hy' e
theorem Off.take_old {s : Int} {gs : List Int} {u : List Bytes} (h : Off s gs u) {o : Int} (ho : o ∈ gs) : takeF u (serB s o) = (u, false) := by
  unfold takeF
  rw [if_pos h.used, if_pos ((hasB_iff _ _).2 ((h.mem _).2 ⟨o, ho, rfl⟩))]
theorem Off.take_new {s : Int} {gs : List Int} {u : List Bytes} (h : Off s gs u) {o : Int} (hn : ∀ o' ∈ gs, serB s o' ≠ serB s o) : takeF u (serB s o) = (putB u (serB s o), true) := by
  unfold takeF
  have h1 : hasB u (serB s o) ≠ true := fun e => by
    obtain ⟨o', ho', e⟩ := (h.mem _).1 ((hasB_iff _ _).1 e)
    exact hn o' ho' e
  have h2 := h.small
  have h3 := h.len
  rw [if_pos h.used, if_neg h1, if_neg (by omega)]

/-! ## the maps -/
def dv (T : Bytes) : Value := .agg (T.map B).toArray
theorem dv_inj {S T : Bytes} (h : dv S = dv T) : S = T := by
  have h1 : S.map B = T.map B := by unfold dv at h; simpa using h
  have hB : ∀ a b : UInt8, B a = B b → a = b := fun a b e => by
    unfold B at e
    have e : (a.toNat : Int) = (b.toNat : Int) := by simpa using e
    exact UInt8.toNat_inj.1 (by omega)
  clear h
  induction S generalizing T with
  | nil => cases T with
    | nil => rfl
    | cons b T => cases h1
  | cons a S ih => cases T with
    | nil => cases h1
    | cons b T =>
      rw [List.map_cons, List.map_cons] at h1
      rw [hB a b (List.cons.inj h1).1, ih (List.cons.inj h1).2]
def SerF (s : Int) (gs : List Int) (f : Value → Option Value) : Prop := (∀ o ∈ gs, f (dv (serB s o)) = some (.int .i64 o)) ∧ ∀ T : Bytes, (∀ o ∈ gs, serB s o ≠ T) → f (dv T) = none
def AccF (gs : List Int) (x : Value) (f : Value → Option Value) : Prop := ∀ o : Int, (o ∈ gs → f (.int .i64 o) = some x) ∧ (o ∉ gs → f (.int .i64 o) = none)
theorem SerF.nil (s : Int) : SerF s [] (fun _ => none) := ⟨by simp, fun _ _ => rfl⟩
theorem AccF.nil (x : Value) : AccF [] x (fun _ => none) := fun o => ⟨by simp, fun _ => rfl⟩
theorem SerF.old {s : Int} {gs : List Int} {f : Value → Option Value} {u : List Bytes} (h : SerF s gs f) (hO : Off s gs u) {o : Int} (ho : o ∈ gs) : SerF s gs (upd f (dv (serB s o)) (.int .i64 o)) := by
  refine ⟨fun x hx => ?_, fun T hT => ?_⟩
  · by_cases e : serB s x = serB s o
    · rw [e, upd_same, hO.inj x hx o ho e]
    · rw [upd_other _ _ (fun h => e (dv_inj h))]
      exact h.1 x hx
  · rw [upd_other _ _ (fun e => hT o ho (dv_inj e).symm)]
    exact h.2 T hT
theorem SerF.new {s : Int} {gs : List Int} {f : Value → Option Value} (h : SerF s gs f) {o : Int} (hn : ∀ o' ∈ gs, serB s o' ≠ serB s o) : SerF s (o :: gs) (upd f (dv (serB s o)) (.int .i64 o)) := by
  refine ⟨fun x hx => ?_, fun T hT => ?_⟩
  · rcases List.mem_cons.1 hx with rfl | hx
    · exact upd_same _ _ _
    · rw [upd_other _ _ (fun e => hn x hx (dv_inj e))]
      exact h.1 x hx
  · rw [upd_other _ _ (fun e => hT o List.mem_cons_self (dv_inj e).symm)]
    exact h.2 T fun x hx => hT x (List.mem_cons_of_mem _ hx)
theorem AccF.old {gs : List Int} {x : Value} {f : Value → Option Value} (h : AccF gs x f) {o : Int} (ho : o ∈ gs) : AccF gs x (upd f (.int .i64 o) x) := fun y => by
  by_cases e : y = o
  · subst e
    exact ⟨fun _ => upd_same _ _ _, fun hn => absurd ho hn⟩
  · rw [upd_other _ _ (fun h => e (by cases h; rfl))]
    exact h y
theorem AccF.new {gs : List Int} {x : Value} {f : Value → Option Value} (h : AccF gs x f) (o : Int) : AccF (o :: gs) x (upd f (.int .i64 o) x) := fun y => by
  by_cases e : y = o
  · subst e
    exact ⟨fun _ => upd_same _ _ _, fun hn => absurd List.mem_cons_self hn⟩
  · rw [upd_other _ _ (fun h => e (by cases h; rfl))]
    refine ⟨fun hm => (h y).1 ?_, fun hm => (h y).2 fun h2 => hm (List.mem_cons_of_mem _ h2)⟩
    rcases List.mem_cons.1 hm with h2 | h2
    · exact absurd h2 e
    · exact h2

/-! ## devices of one secret -/
structure Gd (s : Int) (D : Dv) : Prop where
  chk : chkD D = 0
  ser : ∀ p ∈ D.P, p.S = serB s p.o ∧ 0 ≤ p.o ∧ p.o < 8
theorem Gd.z (s : Int) : Gd s Dv.z := ⟨rfl, by simp [Dv.z]⟩
theorem Gd.small {s : Int} {D : Dv} (h : Gd s D) : D.P.length ≤ 8 := by
  have hr := (rightD_iff.1 (chkD_zero.1 h.chk).2).2.1
  have hn : (D.P.map Po.o).Nodup := by
    rw [List.nodup_iff_pairwise_ne, List.pairwise_map]
    exact hr.imp fun h e => by omega
  have := nodup_small 8 (D.P.map Po.o) hn (fun o ho => by
    obtain ⟨p, hp, rfl⟩ := List.mem_map.1 ho
    exact (h.ser p hp).2)
  rwa [List.length_map] at this
theorem Gd.got_small {s : Int} {D : Dv} (h : Gd s D) : D.G.length ≤ 8 := by
  have := owed_len (chkD_zero.1 h.chk).2
  have := h.small
  omega
theorem Gd.agr {s : Int} {D E : Dv} (hD : Gd s D) (hE : Gd s E) : AgrK Po.o D.P E.P := fun x hx y hy e => by
  have h1 := (hD.ser x hx).1
  have h2 := (hE.ser y hy).1
  cases x; cases y
  simp only at h1 h2 e
  subst e
  rw [h1, h2]
theorem Gd.merge {s : Int} {D E : Dv} (hD : Gd s D) (hE : Gd s E) : mergeE D E = 0 ∧ Gd s (mergeD D E) := by
  have hl := mrgK_len (key := Po.o) D.P E.P
  have h1 := hD.small
  have h2 := hE.small
  have e : mergeE D E = 0 := mergeE_zero.2 ⟨hD.chk, hE.chk, hD.agr hE, by omega⟩
  refine ⟨e, merge_chk e, fun p hp => ?_⟩
  unfold mergeD at hp
  rw [if_pos e] at hp
  rcases (mem_mrgK _ _ (hD.agr hE) p).1 hp with h | h
  · exact hD.ser p h
  · exact hE.ser p h
theorem Gd.post {s : Int} {D : Dv} (hD : Gd s D) {o : Int} (h0 : 0 ≤ o) (h8 : o < 8) : (postE D o = 181 ∧ postD D s o = Dv.z ∧ postP D s o = zPo 0) ∨ (postE D o = 0 ∧ Gd s (postD D s o) ∧ postP D s o = ⟨o, serB s o⟩) := by
  have hs := hD.small
  cases hh : hasK Po.o D.P o with
  | true =>
    have e : postE D o = 181 := by unfold postE; rw [if_neg (by simp [hD.chk]), if_neg (by omega), if_pos hh]
    exact .inl ⟨e, by unfold postD; rw [e]; rfl, by unfold postP; rw [e]; rfl⟩
  | false =>
    have e : postE D o = 0 := by unfold postE; rw [if_neg (by simp [hD.chk]), if_neg (by omega), hh, if_neg (by simp), if_neg (by omega)]
    have e2 : postD D s o = ⟨insK Po.o D.P ⟨o, serB s o⟩, D.G⟩ := by unfold postD; rw [if_pos e]
    refine .inr ⟨e, ⟨?_, fun p hp => ?_⟩, by unfold postP; rw [if_pos e]⟩
    · rw [e2]
      have hr := rightD_iff.1 (chkD_zero.1 hD.chk).2
      refine chkD_zero.2 ⟨by show (insK Po.o D.P ⟨o, serB s o⟩).length ≤ 4096; rw [insK_len]; omega, rightD_iff.2 ⟨fun p hp => ?_, insK_ris hr.2.1 hh, hr.2.2.1, fun n hn => ?_⟩⟩
      · rcases mem_insK.1 hp with rfl | hp
        · simp [okP]; omega
        · exact hr.1 p hp
      · obtain ⟨x, hx, e⟩ := hasK_iff.1 (hr.2.2.2 n hn)
        exact hasK_iff.2 ⟨x, mem_insK.2 (.inr hx), e⟩
    · rw [e2] at hp
      rcases mem_insK.1 hp with rfl | hp
      · exact ⟨rfl, h0, h8⟩
      · exact hD.ser p hp
theorem Gd.got {s : Int} {D : Dv} (hD : Gd s D) (o : Int) : (gotE D o = 1 ∧ gotD D o = Dv.z) ∨ (gotE D o = 0 ∧ Gd s (gotD D o)) := by
  cases hh : hasK Po.o D.P o with
  | false =>
    have e : gotE D o = 1 := by unfold gotE; rw [if_neg (by simp [hD.chk]), hh, if_neg (by simp)]
    exact .inl ⟨e, by unfold gotD; rw [e]; rfl⟩
  | true =>
    have e : gotE D o = 0 := by unfold gotE; rw [if_neg (by simp [hD.chk]), if_pos hh]
    have e2 : gotD D o = ⟨D.P, putI D.G o⟩ := by unfold gotD; rw [if_pos e]
    exact .inr ⟨e, by rw [e2]; exact ⟨got_right hD.chk hh, hD.ser⟩⟩
theorem Gd.p32 {s : Int} {D : Dv} (hD : Gd s D) : ∀ x ∈ D.P, x.S.length = 32 := fun x hx => by rw [(hD.ser x hx).1]; exact serB_len s x.o
end Frk
