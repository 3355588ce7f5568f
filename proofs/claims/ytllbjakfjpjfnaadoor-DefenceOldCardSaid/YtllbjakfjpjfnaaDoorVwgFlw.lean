/- Parts of the proof, joined. -/
import Derived.Test.YtllbjakfjpjfnaaDoorVwFad
import Derived.Test.YtllbjakfjpjfnaaDoorVwFsv
/- Law 57, plain: order, once, old. -/
namespace Frk
open Go Go.RowKit Go.Proofs
set_option maxRecDepth 100000

theorem argB_iff {past : List Bytes} {now term : Int} : argB past now term = true ↔ betw now 2097152 = true ∧ betw term 2097152 = true ∧ usedB past = true ∧ past.length ≤ 256 := by unfold argB; simp
theorem hasB_no {l : List Bytes} {d : Bytes} : hasB l d = false ↔ d ∉ l := by
  rw [← hasB_iff]
  simp
theorem order_plain {l : List Ep} {off : List Int} {past : List Bytes} {c d : Cas} {now term : Int} (h1 : admE l off past c now term = 0) (h2 : admE l off (admL l off past c now term) d now term = 0) :
    admE l off past d now term = 0 ∧ admE l off (admL l off past d now term) c now term = 0 ∧ admL l off (admL l off past c now term) d now term = admL l off (admL l off past d now term) c now term := by
  have e1 := adm_yes h1
  rw [adm_yes h2]
  rw [e1] at h2 ⊢
  obtain ⟨a1, a2, a3, a4, a5, a6⟩ := admE_zero.1 h1
  obtain ⟨b1, b2, b3, b4, b5, b6⟩ := admE_zero.1 h2
  obtain ⟨u1, u2, u3, u4⟩ := argB_iff.1 a2
  have n1 := hasB_no.1 a4
  have n2 := hasB_no.1 b4
  rw [mem_putB] at n2
  rw [putB_length] at b6
  have n3 : caseD d ∉ past := fun h => n2 (.inr h)
  have n4 : caseD d ≠ caseD c := fun h => n2 (.inl h)
  have h3 : admE l off past d now term = 0 := admE_zero.2 ⟨a1, a2, b3, hasB_no.2 n3, b5, a6⟩
  rw [adm_yes h3]
  have h4 : admE l off (putB past (caseD d)) c now term = 0 := admE_zero.2 ⟨a1, argB_iff.2 ⟨u1, u2, used_putB _ _ u3 n3, by rw [putB_length]; omega⟩, a3, hasB_no.2 (fun h => by
    rcases (mem_putB _ _ _).1 h with h | h
    · exact n4 h.symm
    · exact n1 h), a5, by rw [putB_length]; omega⟩
  exact ⟨h3, h4, by rw [adm_yes h4]; exact putB_comm u3 n1 n3 (fun h => n4 h.symm)⟩
theorem once_plain {l : List Ep} {off : List Int} {past : List Bytes} {c c' : Cas} {now term : Int} (hd : caseD c' = caseD c) : admE l off (putB past (caseD c)) c' now term ≠ 0 := fun h => by
  have := (admE_zero.1 h).2.2.2.1
  rw [hd, hasB_no, mem_putB] at this
  exact this (.inl rfl)
theorem once_facts {l : List Ep} {off : List Int} {past : List Bytes} {c : Cas} {now term : Int} (h : admE l off past c now term = 0) : usedB (putB past (caseD c)) = true ∧ hasB (putB past (caseD c)) (caseD c) = true := by
  obtain ⟨a1, a2, a3, a4, a5, a6⟩ := admE_zero.1 h
  exact ⟨used_putB _ _ (argB_iff.1 a2).2.2.1 (hasB_no.1 a4), (hasB_iff _ _).2 ((mem_putB _ _ _).2 (.inl rfl))⟩
theorem timeB_iff {l : List Ep} {off : List Int} {c : Cas} {now term : Int} : timeB l off c now term = true ↔ keysB l off c.K c.A now off.length ∧ c.T ≤ now ∧ now - c.T ≤ term := by unfold timeB; simp
theorem holdB_iff {l : List Ep} {o t k : Int} : holdB l o t k = true ↔ (keyR l o t).2.1 = true ∧ (keyR l o t).2.2 = 0 ∧ (keyR l o t).1 = k := by unfold holdB; simp
/-- what is known of an admitted case -/
theorem old_facts {l : List Ep} {off : List Int} {past : List Bytes} {c : Cas} {now term : Int} (h : admE l off past c now term = 0) :
    0 < off.length ∧ c.K.length = off.length ∧ c.T ≤ now ∧ now - c.T ≤ term ∧ ∀ j, j < off.length → ((keyR l (off.getD j 0) c.A) = (c.K.getD j 0, true, 0) ∧ (keyR l (off.getD j 0) now) = (c.K.getD j 0, true, 0)) := by
  obtain ⟨a1, a2, a3, a4, a5, a6⟩ := admE_zero.1 h
  obtain ⟨t1, t2, t3⟩ := timeB_iff.1 a5
  obtain ⟨⟨f1, f2, f3⟩, _⟩ := formB_iff.1 a3
  refine ⟨by omega, f3, t2, t3, fun j hj => ?_⟩
  obtain ⟨k1, k2⟩ := t1 j hj
  obtain ⟨p1, p2, p3⟩ := holdB_iff.1 k1
  obtain ⟨q1, q2, q3⟩ := holdB_iff.1 k2
  exact ⟨Prod.ext p3 (Prod.ext p1 p2), Prod.ext q3 (Prod.ext q1 q2)⟩
/-- after the term -/
theorem old_term {l : List Ep} {off : List Int} {past : List Bytes} {c : Cas} {now term : Int} (h : admE l off past c now term = 0) (hT : c.T + term + 1 < 2097152) : admE l off past c (c.T + term + 1) term = 570 := by
  obtain ⟨a1, a2, a3, a4, a5, a6⟩ := admE_zero.1 h
  obtain ⟨u1, u2, u3, u4⟩ := argB_iff.1 a2
  obtain ⟨t1, t2, t3⟩ := timeB_iff.1 a5
  have w1 := betw_iff.1 u1
  refine adm_4 a1 (argB_iff.2 ⟨betw_iff.2 ⟨by omega, hT⟩, u2, u3, u4⟩) a3 a4 ?_
  cases ht : timeB l off c (c.T + term + 1) term with
  | false => rfl
  | true => have := (timeB_iff.1 ht).2.2; omega
/-- with another key -/
theorem old_key {l : List Ep} {off : List Int} {past : List Bytes} {c c' : Cas} {now term : Int} (h : admE l off past c now term = 0) {j : Nat} {key : Int} (hj : j < off.length) (hk : c.K.getD j 0 ≠ key) (hc : c' = { c with K := c.K.set j key }) : admE l off past c' now term = 570 := by
  obtain ⟨a1, a2, a3, a4, a5, a6⟩ := admE_zero.1 h
  obtain ⟨t1, t2, t3⟩ := timeB_iff.1 a5
  obtain ⟨⟨f1, f2, f3⟩, fr⟩ := formB_iff.1 a3
  have e : caseD c' = caseD c := by rw [hc]; rfl
  have hf : formB off c' = true := formB_iff.2 ⟨⟨f1, f2, by rw [hc]; show (c.K.set j key).length = _; rw [List.length_set]; exact f3⟩, by rw [hc]; exact fr⟩
  refine adm_4 a1 a2 hf (by rw [e]; exact a4) ?_
  cases ht : timeB l off c' now term with
  | false => rfl
  | true =>
    have h1 := (timeB_iff.1 ht).1 j hj
    have h2 := (t1 j hj).2
    have k1 := (holdB_iff.1 h1.2).2.2
    have k2 := (holdB_iff.1 h2).2.2
    have hg : c'.K.getD j 0 = key := by
      rw [hc]
      show (c.K.set j key).getD j 0 = key
      rw [List.getD_eq_getElem?_getD, List.getElem?_set_self (by omega)]
      rfl
    rw [hg] at k1
    exact absurd (k2.symm.trans k1) hk
end Frk

/- Law 57: what a law of it stands on. -/
namespace Frk
open Go Go.RowKit Go.Proofs
set_option maxRecDepth 100000

/-- what lies while a law runs, once few has said yes -/
structure LwS (w0 : World) (aE : Option Addr) (nE cE : Nat) (l : List Ep) (aO : Option Addr) (nO cO : Nat) (off : List Int) (aP : Option Addr) (nP cP : Nat) (past : List Bytes) (x y : CaX) (gx gy : Nat) (W : World) : Prop where
  bel : Below w0.heap.size w0 W
  G : Glob W
  E : IsE W aE nE cE l
  O : IsIs W aO nO cO off
  P : IsD W aP nP cP past
  p4 : nP ≤ 40
  xF : IsL W x.aF x.nF x.cF x.c.F
  xK : IsIs W x.aK x.nK x.cK x.c.K
  x1 : x.nF ≤ 100
  xo : x.ok
  yF : IsL W y.aF y.nF y.cF y.c.F
  yK : IsIs W y.aK y.nK y.cK y.c.K
  y1 : y.nF ≤ 100
  yo : y.ok
  rx : W.rangeAt gx 0 x.C
  ry : W.rangeAt gy 0 y.C
section
variable {w0 : World} {aE : Option Addr} {nE cE : Nat} {l : List Ep} {aO : Option Addr} {nO cO : Nat} {off : List Int} {aP : Option Addr} {nP cP : Nat} {past : List Bytes} {x y : CaX} {gx gy : Nat} {W W' : World}
theorem LwS.step (h : LwS w0 aE nE cE l aO nO cO off aP nP cP past x y gx gy W) (hb : Below W.heap.size W W') : LwS w0 aE nE cE l aO nO cO off aP nP cP past x y gx gy W' :=
  ⟨h.bel.trans (hb.mono h.bel.size), h.G.below hb, h.E.below hb, h.O.below hb, h.P.of_heap hb, h.p4, h.xF.of_heap hb, h.xK.below hb, h.x1, h.xo, h.yF.of_heap hb, h.yK.below hb, h.y1, h.yo, rangeAt_below' h.rx hb, rangeAt_below' h.ry hb⟩
theorem LwS.admx (h : LwS w0 aE nE cE l aO nO cO off aP nP cP past x y gx gy W) {bP : Option Addr} {mP dP : Nat} {past' : List Bytes} (hP : IsD W bP mP dP past') (h4 : mP ≤ 4000) (now term : Int) :
    Calls Tryd.prog 8 #[.slice aE nE cE, .slice aO nO cO, .slice bP mP dP, .agg x.C.toArray, .int .i64 now, .int .i64 term] W (FdPost (admL l off past' x.c now term) (admE l off past' x.c now term) W) :=
  fadmit_any { aE := aE, nE := nE, cE := cE, l := l, aO := aO, nO := nO, cO := cO, off := off, aP := bP, nP := mP, cP := dP, past := past', x := x, now := now, term := term } W ⟨h.G, h.E, h.O, hP, h.xF, h.xK, h.x1, h4, h.xo⟩
theorem LwS.admy (h : LwS w0 aE nE cE l aO nO cO off aP nP cP past x y gx gy W) {bP : Option Addr} {mP dP : Nat} {past' : List Bytes} (hP : IsD W bP mP dP past') (h4 : mP ≤ 4000) (now term : Int) :
    Calls Tryd.prog 8 #[.slice aE nE cE, .slice aO nO cO, .slice bP mP dP, .agg y.C.toArray, .int .i64 now, .int .i64 term] W (FdPost (admL l off past' y.c now term) (admE l off past' y.c now term) W) :=
  fadmit_any { aE := aE, nE := nE, cE := cE, l := l, aO := aO, nO := nO, cO := cO, off := off, aP := bP, nP := mP, cP := dP, past := past', x := y, now := now, term := term } W ⟨h.G, h.E, h.O, hP, h.yF, h.yK, h.y1, h4, h.yo⟩
end
/-- what the openers say of a case -/
structure CaIn (w : World) (x : CaX) : Prop where
  F : x.nF ≤ 1000 → IsL w x.aF x.nF x.cF x.c.F
  K : x.nK ≤ 5000 → IsIs w x.aK x.nK x.cK x.c.K
  ok : x.ok
theorem CaIn.below {w W : World} {x : CaX} (h : CaIn w x) (hb : Below w.heap.size w W) : CaIn W x := ⟨fun hn => (h.F hn).of_heap hb, fun hn => (h.K hn).below hb, h.ok⟩
end Frk

