/- Law 44: three devices in an array; what stays while the office takes. -/
import Derived.Test.YtnpnboldjbljaaaDoorVfgHol
import Derived.Test.YtnpnboldjbljaaaDoorVfgDap
namespace Frk
open Go Go.RowKit Go.Proofs
set_option maxRecDepth 100000

structure Sl where
  pa : Option Addr
  pn : Nat
  pc : Nat
  ga : Option Addr
  gn : Nat
  gc : Nat
  D : Dv
def Sl.C (x : Sl) : List Value := [.slice x.pa x.pn x.pc, .slice x.ga x.gn x.gc]
def Sl.z : Sl := ⟨none, 0, 0, none, 0, 0, Dv.z⟩
def SlOk (s : Int) (W : World) (x : Sl) : Prop := IsPs W x.pa x.pn x.pc x.D.P ∧ IsIs W x.ga x.gn x.gc x.D.G ∧ Gd s x.D
def ArrOk (s : Int) (W : World) (g : Nat) (L : List Sl) : Prop := W.heap[g]? = some (.cells (L.flatMap Sl.C).toArray 52 (0, 0)) ∧ L.length = 3 ∧ ∀ x ∈ L, SlOk s W x
theorem Sl.len (L : List Sl) : ∀ x ∈ L, (Sl.C x).length = 2 := fun _ _ => rfl
theorem SlOk.z (s : Int) (W : World) : SlOk s W Sl.z := ⟨isC_z _ _ _, isC_z _ _ _, Gd.z s⟩
theorem SlOk.below {s : Int} {W W' : World} {x : Sl} (h : SlOk s W x) (hb : Below W.heap.size W W') : SlOk s W' x := ⟨h.1.below hb, h.2.1.below hb, h.2.2⟩
theorem ArrOk.below {s : Int} {W W' : World} {g : Nat} {L : List Sl} (h : ArrOk s W g L) (hb : Below W.heap.size W W') : ArrOk s W' g L :=
  ⟨(hb.block g (Array.getElem?_eq_some_iff.1 h.1).1).trans h.1, h.2.1, fun x hx => (h.2.2 x hx).below hb⟩
theorem ArrOk.at {s : Int} {W : World} {g : Nat} {L : List Sl} (h : ArrOk s W g L) {a : Nat} (ha : a < 3) : ∃ x, L[a]? = some x ∧ W.rangeAt g (a * 2) x.C ∧ SlOk s W x := by
  have hl := h.2.1
  refine ⟨L[a]'(by omega), List.getElem?_eq_getElem (by omega), ?_, h.2.2 _ (List.getElem_mem _)⟩
  have := rangeC_row (rangeAt_row h.1) (Sl.len L) (List.getElem?_eq_getElem (show a < L.length by omega))
  rwa [Nat.zero_add] at this
theorem lay_flat (L : List Sl) {a : Nat} (ha : a < L.length) (y : Sl) : lay (L.flatMap Sl.C) (a * 2) y.C = (L.set a y).flatMap Sl.C := by
  unfold lay
  rw [← flatC_take (C := Sl.C) L a (Sl.len L), show a * 2 + y.C.length = (a + 1) * 2 from by show a * 2 + 2 = _; omega, ← flatC_drop (C := Sl.C) L (a + 1) (Sl.len L), List.set_eq_take_append_cons_drop, if_pos ha, List.flatMap_append, List.flatMap_cons, List.append_assoc]
theorem flat_len {L : List Sl} (h : L.length = 3) : (L.flatMap Sl.C).length = 6 := by rw [isC_flat_len (Sl.len L), h]
/-- rows of bytes or numbers stay where another row is written whole -/
theorem IsC.setRow' {α : Type} {C : α → List Value} {z : Nat} {w : World} {a : Option Addr} {n c : Nat} {l : List α} (h : IsC C z w a n c l) (k : Nat) (R : Array Value) {xa : Option Addr} {xn xc : Nat} {r : List Value} {t : TypeId} (hk : w.heap[k]? = some (.cells (.slice xa xn xc :: r).toArray t (0, 0)))
    (hs : ∀ v ∈ r, ∃ a n c, v = Value.slice a n c) (h1 : ∀ x, ∃ q v, (C x)[0]? = some (.int q v)) : IsC C z (w.setRow k R) a n c l := by
  refine ⟨h.llen, h.lcap, h.lmax, h.cmax, h.each, ?_⟩
  rcases Nat.eq_zero_or_pos n with h0 | h0
  · exact .inl h0
  rcases h.at_ with h0' | ⟨g, o, e, hr, hg⟩
  · exact .inl h0'
  refine .inr ⟨g, o, e, rangeAt_setRow hr ?_, by simpa [World.setRow] using hg⟩
  rintro rfl
  match l, h.llen, hr with
  | [], hl, _ => simp at hl; omega
  | x :: l, _, hr =>
    obtain ⟨q, v, hv⟩ := h1 x
    have h2 := hr 0 (.int q v) (by rw [List.flatMap_cons, List.getElem?_append_left (List.getElem?_eq_some_iff.1 hv).1]; exact hv)
    rw [Nat.add_zero, cell_of_row _ _ _ _ _ _ hk] at h2
    match o with
    | 0 => simp at h2
    | o + 1 =>
      have h3 : r[o]? = some (.int q v) := by simpa using h2
      obtain ⟨a', n', c', e'⟩ := hs _ (List.mem_of_getElem? h3)
      cases e'
theorem po_int (x : Po) : ∃ q v, x.C[0]? = some (.int q v) := ⟨.i64, x.o, rfl⟩
theorem in_int (x : Int) : ∃ q v, (intC x)[0]? = some (.int q v) := ⟨.i64, x, rfl⟩
theorem flat_slices {L : List Sl} {x : Sl} {r : List Sl} (_ : L = x :: r) : ∀ v ∈ (.slice x.ga x.gn x.gc :: r.flatMap Sl.C : List Value), ∃ a n c, v = Value.slice a n c := fun v hv => by
  rcases List.mem_cons.1 hv with rfl | hv
  · exact ⟨_, _, _, rfl⟩
  · obtain ⟨y, _, hy⟩ := List.mem_flatMap.1 hv
    simp only [Sl.C, List.mem_cons, List.not_mem_nil, or_false] at hy
    rcases hy with rfl | rfl
    · exact ⟨_, _, _, rfl⟩
    · exact ⟨_, _, _, rfl⟩
theorem SlOk.setRow {s : Int} {W : World} {x : Sl} (h : SlOk s W x) {g : Nat} {L : List Sl} (hg : ArrOk s W g L) (R : Array Value) : SlOk s (W.setRow g R) x := by
  match L, hg with
  | [], hg => exact absurd hg.2.1 (by decide)
  | y :: r, hg =>
    have hk : W.heap[g]? = some (.cells (.slice y.pa y.pn y.pc :: (.slice y.ga y.gn y.gc :: r.flatMap Sl.C)).toArray 52 (0, 0)) := hg.1
    exact ⟨h.1.setRow' g R hk (flat_slices rfl) po_int, h.2.1.setRow' g R hk (flat_slices rfl) in_int, h.2.2⟩
/-- a device is put into the array -/
theorem ArrOk.put {s : Int} {W : World} {g : Nat} {L : List Sl} (h : ArrOk s W g L) {a : Nat} (ha : a < 3) {y : Sl} (hy : SlOk s W y) : ArrOk s (W.setRow g (lay (L.flatMap Sl.C) (a * 2) y.C).toArray) g (L.set a y) := by
  have hl := h.2.1
  refine ⟨by rw [setRow_heap _ _ _ _ _ _ h.1, lay_flat L (by omega) y], by rw [List.length_set]; exact hl, fun x hx => ?_⟩
  rcases List.mem_or_eq_of_mem_set hx with hx | rfl
  · exact (h.2.2 x hx).setRow h _
  · exact hy.setRow h _
theorem ArrOk.putOther {s : Int} {W : World} {g k : Nat} {L M : List Sl} (h : ArrOk s W g L) (hk : ArrOk s W k M) (hne : g ≠ k) (R : Array Value) : ArrOk s (W.setRow k R) g L :=
  ⟨(heap_setRow_ne hne).trans h.1, h.2.1, fun x hx => (h.2.2 x hx).setRow hk R⟩
/-- what the office leaves -/
theorem OfSt.isC {s : Int} {c10 c7 c8 c9 m10 m8 m9 : Nat} {gs : List Int} {W W' : World} (hS : OfSt s c10 c7 c8 c9 m10 m8 m9 gs W) (hT : Tn (Tx c7 m10 m8 m9) W W') {α : Type} {C : α → List Value} {z : Nat} {a : Option Addr} {n c : Nat} {l : List α} (h : IsC C z W a n c l) (h1 : ∀ x, ∃ q v, (C x)[0]? = some (.int q v)) : IsC C z W' a n c l := by
  refine ⟨h.llen, h.lcap, h.lmax, h.cmax, h.each, ?_⟩
  rcases Nat.eq_zero_or_pos n with h0 | h0
  · exact .inl h0
  rcases h.at_ with h0' | ⟨g, o, e, hr, hg⟩
  · exact .inl h0'
  have hx : ¬ Tx c7 m10 m8 m9 g := by
    obtain ⟨u, ua, un, uc, fs, fa, fg, _, hR, _, hms, _, hma, _, hmg, _⟩ := hS
    match l, h.llen, hr with
    | [], hl, _ => simp at hl; omega
    | x :: l, _, hr =>
      obtain ⟨q, v, hv⟩ := h1 x
      have h2 := hr 0 (.int q v) (by rw [List.flatMap_cons, List.getElem?_append_left (List.getElem?_eq_some_iff.1 hv).1]; exact hv)
      have nm : ∀ {m n : Nat} {k : TypeId} {f : Value → Option Value}, MapN W Tryd.prog k m n f → g ≠ m := fun hm e => by
        subst e
        obtain ⟨es, cl, hb⟩ := hm.obj
        obtain ⟨cs, t, zz, hc⟩ := cell_cells h2
        rw [hb] at hc
        cases hc
      rintro (rfl | rfl | rfl | rfl)
      · rw [cell_of_row _ _ _ _ _ _ hR.r7] at h2
        match o with
        | 0 => simp at h2
        | o + 1 => simp at h2
      · exact nm hms rfl
      · exact nm hma rfl
      · exact nm hmg rfl
  refine .inr ⟨g, o, e, fun j v hv => (World.cell?_of_block (w := W) (hT.block g hg hx)).trans (hr j v hv), Nat.lt_of_lt_of_le hg hT.size⟩
theorem OfSt.arr {s : Int} {c10 c7 c8 c9 m10 m8 m9 : Nat} {gs : List Int} {W W' : World} (hS : OfSt s c10 c7 c8 c9 m10 m8 m9 gs W) (hT : Tn (Tx c7 m10 m8 m9) W W') {g : Nat} {L : List Sl} (h : ArrOk s W g L) (hg : ¬ Tx c7 m10 m8 m9 g) : ArrOk s W' g L :=
  ⟨(hT.block g (Array.getElem?_eq_some_iff.1 h.1).1 hg).trans h.1, h.2.1, fun x hx => ⟨hS.isC hT (h.2.2 x hx).1 po_int, hS.isC hT (h.2.2 x hx).2.1 in_int, (h.2.2 x hx).2.2⟩⟩
/-- where the law stands -/
structure Nm (w : World) (N S c10 c7 c8 c9 m10 m8 m9 : Nat) : Prop where
  hN : w.heap.size ≤ N
  hS : N < S
  h7 : S < c7
  h8 : S < m8
  h9 : S < m9
  h10 : S < m10
  d1 : m10 ≠ m8
  d2 : m10 ≠ m9
  d3 : m8 ≠ m9
def Inv (s : Int) (w : World) (N S c10 c7 c8 c9 m10 m8 m9 : Nat) (W : World) : Prop :=
  ∃ gs A E, Below w.heap.size w W ∧ OfSt s c10 c7 c8 c9 m10 m8 m9 gs W ∧ ArrOk s W N A ∧ ArrOk s W S E
theorem Inv.below {s : Int} {w : World} {N S c10 c7 c8 c9 m10 m8 m9 : Nat} {W W' : World} (h : Inv s w N S c10 c7 c8 c9 m10 m8 m9 W) (hb : Below W.heap.size W W') : Inv s w N S c10 c7 c8 c9 m10 m8 m9 W' := by
  obtain ⟨gs, A, E, h1, h2, h3, h4⟩ := h
  exact ⟨gs, A, E, h1.trans (hb.mono h1.size), h2.below hb, h3.below hb, h4.below hb⟩
theorem Nm.below {w : World} {N S c10 c7 c8 c9 m10 m8 m9 : Nat} (hn : Nm w N S c10 c7 c8 c9 m10 m8 m9) {W W' : World} (hs : w.heap.size ≤ W.heap.size) (hT : Tn (Tx c7 m10 m8 m9) W W') : Below w.heap.size W W' :=
  ⟨hT.os, hT.tape, hT.output, hT.size, fun k hk => hT.block k (by omega) (by
    have := hn.hN; have := hn.hS; have := hn.h7; have := hn.h8; have := hn.h9; have := hn.h10
    rintro (h | h | h | h) <;> omega)⟩
theorem Inv.setRowOf {s : Int} {c10 c7 c8 c9 m10 m8 m9 : Nat} {gs : List Int} {W : World} (hS : OfSt s c10 c7 c8 c9 m10 m8 m9 gs W) {g : Nat} {L : List Sl} (hg : ArrOk s W g L) (R : Array Value) : OfSt s c10 c7 c8 c9 m10 m8 m9 gs (W.setRow g R) := by
  obtain ⟨u, ua, un, uc, fs, fa, fg, h1, hR, hD, h4, h5, h6, h7, h8, h9⟩ := hS
  have hlen : (L.flatMap Sl.C).length = 6 := flat_len hg.2.1
  have ne1 : ∀ {c : Nat} {v : Value} {t : TypeId}, W.heap[c]? = some (.cells #[v] t (0, 0)) → c ≠ g := fun hc e => by
    subst e
    rw [hg.1] at hc
    have := congrArg (fun o : Option Obj => match o with | some (.cells cs _ _) => cs.size | _ => 0) hc
    simp [hlen] at this
  have nm : ∀ {m n : Nat} {k : TypeId} {f : Value → Option Value}, MapN W Tryd.prog k m n f → m ≠ g := fun hm e => by
    subst e
    obtain ⟨es, cl, hb⟩ := hm.obj
    rw [hg.1] at hb
    cases hb
  have row : ∀ {c : Nat}, c ≠ g → (W.setRow g R).heap[c]? = W.heap[c]? := fun h => heap_setRow_ne h
  refine ⟨u, ua, un, uc, fs, fa, fg, h1, ⟨(row (ne1 hR.r10)).trans hR.r10, (row (ne1 hR.r7)).trans hR.r7, (row (ne1 hR.r8)).trans hR.r8, (row (ne1 hR.r9)).trans hR.r9⟩, ?_, h4.of_block (row (nm h4)), h5, h6.of_block (row (nm h6)), h7, h8.of_block (row (nm h8)), h9⟩
  refine ⟨hD.llen, hD.lcap, hD.lmax, hD.cmax, hD.each, ?_⟩
  rcases Nat.eq_zero_or_pos un with h0 | h0
  · exact .inl h0
  rcases hD.at_ with h0' | ⟨gu, o, e, hr, hgu⟩
  · exact .inl h0'
  refine .inr ⟨gu, o, e, rangeAt_setRow hr ?_, by simpa [World.setRow] using hgu⟩
  rintro rfl
  match u, hD.llen, hD.each, hr with
  | [], hl, _, _ => simp at hl; omega
  | T :: u, _, he, hr =>
    match T, he T List.mem_cons_self with
    | x :: T, _ =>
      have h2 := hr 0 (B x) (by simp [dcells])
      rw [cell_of_row _ _ _ _ _ _ hg.1] at h2
      have h3 : (L.flatMap Sl.C)[o]? = some (B x) := by simpa using h2
      obtain ⟨y, _, hy⟩ := List.mem_flatMap.1 (List.mem_of_getElem? h3)
      simp [Sl.C, B] at hy
theorem Inv.putS {s : Int} {w : World} {N S c10 c7 c8 c9 m10 m8 m9 : Nat} (hn : Nm w N S c10 c7 c8 c9 m10 m8 m9) {W : World} {gs : List Int} {A E : List Sl} (hb : Below w.heap.size w W) (hO : OfSt s c10 c7 c8 c9 m10 m8 m9 gs W) (hA : ArrOk s W N A) (hE : ArrOk s W S E) {a : Nat} (ha : a < 3) {y : Sl} (hy : SlOk s W y) :
    Inv s w N S c10 c7 c8 c9 m10 m8 m9 (W.setRow S (lay (E.flatMap Sl.C) (a * 2) y.C).toArray) :=
  ⟨gs, A, E.set a y, below_row hb (by have := hn.hN; have := hn.hS; omega) _, Inv.setRowOf hO hE _, hA.putOther hE (by have := hn.hS; omega) _, hE.put ha hy⟩
theorem Inv.putN {s : Int} {w : World} {N S c10 c7 c8 c9 m10 m8 m9 : Nat} (hn : Nm w N S c10 c7 c8 c9 m10 m8 m9) {W : World} {gs : List Int} {A E : List Sl} (hb : Below w.heap.size w W) (hO : OfSt s c10 c7 c8 c9 m10 m8 m9 gs W) (hA : ArrOk s W N A) (hE : ArrOk s W S E) {a : Nat} (ha : a < 3) {y : Sl} (hy : SlOk s W y) :
    Inv s w N S c10 c7 c8 c9 m10 m8 m9 (W.setRow N (lay (A.flatMap Sl.C) (a * 2) y.C).toArray) :=
  ⟨gs, A.set a y, E, below_row hb hn.hN _, Inv.setRowOf hO hA _, hA.put ha hy, hE.putOther hA (by have := hn.hS; omega) _⟩
theorem Sl.one (y : Sl) : ∀ v ∈ y.C, v.oneCell' = true := by
  intro v hv
  simp only [Sl.C, List.mem_cons, List.not_mem_nil, or_false] at hv
  rcases hv with rfl | rfl <;> rfl
theorem OfSt.tx_lt {s : Int} {c10 c7 c8 c9 m10 m8 m9 : Nat} {gs : List Int} {W : World} (h : OfSt s c10 c7 c8 c9 m10 m8 m9 gs W) {k : Nat} (hk : Tx c7 m10 m8 m9 k) : k < W.heap.size := by
  obtain ⟨u, ua, un, uc, fs, fa, fg, _, hR, _, h4, _, h6, _, h8, _⟩ := h
  rcases hk with rfl | rfl | rfl | rfl
  · exact (Array.getElem?_eq_some_iff.1 hR.r7).1
  · exact h4.lt
  · exact h6.lt
  · exact h8.lt
theorem Inv.give {s : Int} {w : World} {N S c10 c7 c8 c9 m10 m8 m9 : Nat} (hn : Nm w N S c10 c7 c8 c9 m10 m8 m9) {W W' : World} {gs gs' : List Int} {A E : List Sl} (hb : Below w.heap.size w W) (hO : OfSt s c10 c7 c8 c9 m10 m8 m9 gs W) (hA : ArrOk s W N A) (hE : ArrOk s W S E) (hT : Tn (Tx c7 m10 m8 m9) W W') (hS' : OfSt s c10 c7 c8 c9 m10 m8 m9 gs' W') : Inv s w N S c10 c7 c8 c9 m10 m8 m9 W' := by
  have := hn.hN; have := hn.hS; have := hn.h7; have := hn.h8; have := hn.h9; have := hn.h10
  exact ⟨gs', A, E, hb.trans ((hn.below hb.size hT).mono (Nat.le_refl _)), hS', hO.arr hT hA (by rintro (h | h | h | h) <;> omega), hO.arr hT hE (by rintro (h | h | h | h) <;> omega)⟩
theorem Inv.ltN {s : Int} {w : World} {N S c10 c7 c8 c9 m10 m8 m9 : Nat} {W : World} (h : Inv s w N S c10 c7 c8 c9 m10 m8 m9 W) : N < W.heap.size := by
  obtain ⟨_, _, _, _, _, h1, _⟩ := h
  exact (Array.getElem?_eq_some_iff.1 h1.1).1
end Frk
