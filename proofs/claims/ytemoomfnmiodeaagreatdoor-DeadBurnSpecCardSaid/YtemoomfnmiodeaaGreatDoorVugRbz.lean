/- Parts of the proof, joined. -/
import Derived.Test.YtemoomfnmiodeaaGreatDoorVuRva
import Derived.Test.YtemoomfnmiodeaaGreatDoorVugKsh
import Derived.Laws.AppendOwnNone
import Derived.Test.YtemoomfnmiodeaaGreatDoorVuRlf
/- Law 45's reference: Send. -/
namespace Frk
open Go Go.RowKit Go.Proofs
set_option maxRecDepth 100000

/-- where the letter stands, among the first k -/
def AtK (l : List Ltr) (no : Int) (k : Nat) (A : Int) : Prop := (A = -1 ∧ ∀ j x, j < k → l[j]? = some x → x.N ≠ no) ∨ ∃ j x, j < k ∧ A = (j : Int) ∧ l[j]? = some x ∧ x.N = no
/-- what Send keeps in its variables -/
structure SrK (w : World) (a b r0 r1 r2 : Int) (W : World) : Prop where
  bel : Below w.heap.size w W
  rw_ : W.rangeAt w.heap.size 0 [.int .i64 a, .int .i64 b]
  rr : W.rangeAt (w.heap.size + 1) 0 [.int .i64 r0, .int .i64 r1, .int .i64 r2]
  rs : W.heap[w.heap.size + 1 + 1]? = some (.cells #[.int .i64 0, .int .i64 0, .int .i64 0, .int .i64 0, .int .i64 0, .int .i64 0] 44 (0, 0))
theorem SrK.step {w W W' : World} {a b r0 r1 r2 : Int} (h : SrK w a b r0 r1 r2 W) (hb : Below W.heap.size W W') : SrK w a b r0 r1 r2 W' :=
  ⟨h.bel.trans (hb.mono h.bel.size), rangeAt_below' h.rw_ hb, rangeAt_below' h.rr hb, (hb.block _ (Array.getElem?_eq_some_iff.1 h.rs).1).trans h.rs⟩
end Frk

/- Law 45's reference: Burn. -/
namespace Frk
open Go Go.RowKit Go.Proofs
set_option maxRecDepth 100000

theorem own_type {w : World} {base : Nat} {e : TypeId} {size : Nat} {v : Value} {n : Nat} {xs : List Value} {k : Nat} (h : w.ownsRow base e size v n xs) (hk : v.ownBlock = some k) : ∃ cur, w.heap[k]? = some (.cells cur e (0, 0)) := by
  rcases h.2 with ⟨rfl, _⟩ | ⟨g, cap, cur, rfl, _, hg, _⟩
  · cases hk
  · cases hk; exact ⟨cur, hg⟩
/-- rows of different types are different blocks -/
theorem own_apart {w : World} {base : Nat} {e : TypeId} {size : Nat} {v : Value} {n : Nat} {xs : List Value} {k g : Nat} {cs : Array Value} {t : TypeId} (h : w.ownsRow base e size v n xs) (hk : v.ownBlock = some k) (hg : w.heap[g]? = some (.cells cs t (0, 0))) (ht : t ≠ e) : k ≠ g := by
  rintro rfl
  obtain ⟨cur, hc⟩ := own_type h hk
  rw [hc] at hg
  injection hg with hg
  injection hg with _ h2
  exact ht h2.symm
/-- 'append(x, l...)', of one row; what else lies in other blocks stays -/
theorem wpList_append_rg {ops : Array Oper} {rest : List Oper} {o : Oper} {a : Act} {w : World} {Q : Exit → Act → World → Prop} (hgd : o.guard = none) (s x : Operand)
    (ho : o.op = .call { callee := .builtin .append, args := #[s, x], argTypes := #[22, 22] })
    (base : Nat) (v : Value) (L : List Ltr) (hs : a.eval s = v) (hown : OwnK w base v L.length L)
    (g n c : Nat) (l : List Ltr) (hx : a.eval x = .slice (some ⟨g, 0, none⟩) n c) (hsrc : IsC Ltr.C 38 w (some ⟨g, 0, none⟩) n c l) (hsz : L.length + n ≤ 4194304) (hbase : base ≤ w.heap.size)
    (h : ∀ v' w', OwnK w' base v' (L ++ l).length (L ++ l) → w.grownBy w' v.ownBlock → wpList Tryz.prog ops Q rest (a.put o.dst v') w') : wpList Tryz.prog ops Q (o :: rest) a w := by
  obtain ⟨i0, hi, hz0, hz1, hz2⟩ := info_parts info_kt
  have hln := hsrc.llen
  have hlen := kcells_length l hsrc.each
  have hc : ∀ j u, (kcells l)[j]? = some u → w.cell? ((⟨g, 0, none⟩ : Addr).add j) = some u := fun j u hu => by
    rcases hsrc.at_ with h0 | ⟨g', off, e, hr, hg⟩
    · obtain rfl : l = [] := List.length_eq_zero_iff.1 (hln.trans h0)
      simp [kcells] at hu
    · cases e
      rw [Addr.add_mid]
      exact hr j u hu
  refine wpList_append_own w hgd s x 22 ho base 30 i0 _ 38 80 Tryz.underlying22 hi hz0 hz1 hz2 rfl (by decide) v L.length (kcells L) hs hown ⟨g, 0, none⟩ n c (kcells l) hx (by rw [hlen, hln]) hc (kcells_one l) (by unfold maxLen; omega) (by omega) hbase ?_
  intro v' w' h2 h3 h4
  refine h v' w' (by
    have e : kcells (L ++ l) = kcells L ++ kcells l := by unfold kcells; rw [List.flatMap_append]
    unfold OwnK
    rw [List.length_append, hln, e]
    exact h2) h3

/-- what the loop has gathered -/
structure RbI (w : World) (l : List Ltr) (t : Int) (g k : Nat) (v u : Value) (W : World) : Prop where
  r5 : W.heap[w.heap.size]? = some (.cells Tryz.zeroCells50 50 (0, 0))
  r9 : W.heap[g]? = some (.cells (zs 64 ++ [u]).toArray 50 (0, 0))
  out : OwnK W (w.heap.size + 1) v (stayK (l.take k) t).length (stayK (l.take k) t)
  gone : W.ownsRow (w.heap.size + 1) 3 1 u (goneK (l.take k) t).length ((goneK (l.take k) t).map (Value.int .i64))
  bel : Below w.heap.size w W
  lt : w.heap.size < g
theorem RbI.glt {w : World} {l : List Ltr} {t : Int} {g k : Nat} {v u : Value} {W : World} (h : RbI w l t g k v u W) : g < W.heap.size := (Array.getElem?_eq_some_iff.1 h.r9).1
theorem RbI.later {w : World} {l : List Ltr} {t : Int} {g k : Nat} {v u : Value} {W W' : World} (h : RbI w l t g k v u W) (hb : Below W.heap.size W W') : RbI w l t g k v u W' :=
  ⟨(hb.block _ (by have := h.glt; have := h.lt; omega)).trans h.r5, (hb.block _ h.glt).trans h.r9, ownsRow_below h.out hb, ownsRow_below h.gone hb, h.bel.trans (hb.mono h.bel.size), h.lt⟩
theorem RbI.stay {w : World} {l : List Ltr} {t : Int} {g k : Nat} {v u : Value} {W V w5 : World} {v5 : Value} (h : RbI w l t g k v u W) {x : Ltr} (hx : l[k]? = some x) (hu : ¬ x.U ≤ t) (hV : Below W.heap.size W V)
    (hown : OwnK w5 (w.heap.size + 1) v5 (stayK (l.take k) t ++ [x]).length (stayK (l.take k) t ++ [x])) (hg : V.grownBy w5 v.ownBlock) : RbI w l t g (k + 1) v5 u w5 := by
  have e1 := stay_take_succ hx t
  have e2 := gone_take_succ hx t
  rw [if_neg hu] at e1 e2
  have hv := h.later hV
  have hz := hv.glt
  have hl := hv.lt
  refine ⟨(hg.block _ (by omega) (fun e => by have := (hv.out.lt _ e.symm).1; omega)).trans hv.r5, (hg.block _ hz (fun e => own_apart hv.out e.symm hv.r9 (by decide) rfl)).trans hv.r9, by rw [e1]; exact hown, ?_, hv.bel.grown hg (by omega) (fun k e => by have := (hv.out.lt k e).1; omega), hl⟩
  rw [e2]
  refine hv.gone.kept hg ?_
  cases hb : u.ownBlock with
  | none => exact .inl rfl
  | some b =>
    refine .inr (fun e => ?_)
    obtain ⟨cur, hc⟩ := own_type hv.gone hb
    exact own_apart hv.out e.symm hc (by decide) rfl
theorem RbI.goes {w : World} {l : List Ltr} {t : Int} {g k : Nat} {v u u5 : Value} {W w5 : World} {o : Obj} (h : RbI w l t g k v u W) {x : Ltr} (hx : l[k]? = some x) (hu : x.U ≤ t)
    (hown : w5.ownsRow (w.heap.size + 1) 3 1 u5 ((goneK (l.take k) t).length + 1) ((goneK (l.take k) t).map (Value.int .i64) ++ [.int .i64 x.N])) (hg : (W.alloc o).grownBy w5 u.ownBlock) :
    RbI w l t g (k + 1) v u5 (w5.setCell ⟨g, 64, none⟩ u5) ∧ w5.heap[g]? = some (.cells (zs 64 ++ [u]).toArray 50 (0, 0)) := by
  have e1 := stay_take_succ hx t
  have e2 := gone_take_succ hx t
  rw [if_pos hu] at e1 e2
  have hv := h.later (below_alloc W o)
  have hz := hv.glt
  have hl := hv.lt
  have q5 : w5.heap[w.heap.size]? = _ := (hg.block _ (by omega) (fun e => by have := (hv.gone.lt _ e.symm).1; omega)).trans hv.r5
  have q9 : w5.heap[g]? = _ := (hg.block _ hz (fun e => own_apart hv.gone e.symm hv.r9 (by decide) rfl)).trans hv.r9
  have hset := grown_setC w5 g 64 u5
  have bel5 : Below w.heap.size w w5 := hv.bel.grown hg (by omega) (fun k e => by have := (hv.gone.lt k e).1; omega)
  have qo : OwnK w5 (w.heap.size + 1) v (stayK (l.take k) t).length (stayK (l.take k) t) := World.ownsRow.kept hv.out hg (by
    cases hb : v.ownBlock with
    | none => exact .inl rfl
    | some b =>
      refine .inr (fun e => ?_)
      obtain ⟨cur, hc⟩ := own_type hv.out hb
      exact own_apart hv.gone e.symm hc (by decide) rfl)
  refine ⟨⟨(hset.block _ (Array.getElem?_eq_some_iff.1 q5).1 (fun e => by have := Option.some.inj e; omega)).trans q5, ?_, ?_, ?_, bel5.setCell (p := ⟨g, 64, none⟩) (by simp; omega) _, hl⟩, q9⟩
  · have := heap_setCell_row (i := 64) u5 q9
    rwa [zs64_set] at this
  · rw [e1]
    refine World.ownsRow.kept qo hset ?_
    cases hb : v.ownBlock with
    | none => exact .inl rfl
    | some b => exact .inr (fun e => own_apart qo hb q9 (by decide) (Option.some.inj e))
  · have := hown.kept hset (by
      cases hb : u5.ownBlock with
      | none => exact .inl rfl
      | some b => exact .inr (fun e => own_apart hown hb q9 (by decide) (Option.some.inj e)))
    rw [e2, List.length_append, List.map_append]
    exact this
theorem RbI.end_ {w : World} {l : List Ltr} {t : Int} {g k : Nat} {v u : Value} {W : World} (h : RbI w l t g k v u W) (hk : l.length ≤ k) (hm : l.length ≤ 5000) (hc : ∀ z ∈ l, z.C.length = 38) :
    (∃ a c, u = .slice a (goneK l t).length c ∧ IsIs W a (goneK l t).length c (goneK l t) ∧ ∀ b o, a = some ⟨b, o, none⟩ → w.heap.size < b ∧ b ≠ g) ∧
    ∃ a c, v = .slice a (stayK l t).length c ∧ IsC Ltr.C 38 W a (stayK l t).length c (stayK l t) ∧ ∀ b o, a = some ⟨b, o, none⟩ → w.heap.size < b ∧ b ≠ g := by
  have e : l.take k = l := List.take_of_length_le hk
  have hs := stay_gone l t
  have ho := h.gone
  have hv := h.out
  rw [e] at ho hv
  constructor
  · have ho' := ho
    rw [← intC_flat] at ho'
    obtain ⟨a, c, ev, hi⟩ := isC_own (C := intC) ho' (fun _ _ => rfl) rfl (by omega)
    refine ⟨a, c, ev, hi, fun b o ea => ?_⟩
    subst ea
    subst ev
    have := (ho.lt b rfl).1
    exact ⟨by omega, own_apart ho rfl h.r9 (by decide)⟩
  · obtain ⟨a, c, ev, hi⟩ := isC_own (C := Ltr.C) hv (fun z hz => hc z (List.mem_filter.1 hz).1) rfl (by omega)
    refine ⟨a, c, ev, hi, fun b o ea => ?_⟩
    subst ea
    subst ev
    have := (World.ownsRow.lt hv b rfl).1
    exact ⟨by omega, own_apart hv rfl h.r9 (by decide)⟩
/-- what lies when the loop has ended -/
structure RbE (w : World) (l : List Ltr) (t : Int) (g : Nat) (row : List Value) (a1 : Option Addr) (c1 : Nat) (a2 : Option Addr) (c2 : Nat) (W : World) : Prop where
  r5 : W.heap[w.heap.size]? = some (.cells Tryz.zeroCells50 50 (0, 0))
  r9 : W.heap[g]? = some (.cells row.toArray 50 (0, 0))
  kk : IsC Ltr.C 38 W a1 (stayK l t).length c1 (stayK l t)
  k1 : ∀ b o, a1 = some ⟨b, o, none⟩ → w.heap.size < b ∧ b ≠ g
  gg : IsIs W a2 (goneK l t).length c2 (goneK l t)
  g1 : ∀ b o, a2 = some ⟨b, o, none⟩ → w.heap.size < b ∧ b ≠ g
  bel : Below w.heap.size w W
  lt : w.heap.size < g
theorem RbE.later {w : World} {l : List Ltr} {t : Int} {g : Nat} {row : List Value} {a1 : Option Addr} {c1 : Nat} {a2 : Option Addr} {c2 : Nat} {W W' : World} (h : RbE w l t g row a1 c1 a2 c2 W) (hb : Below W.heap.size W W') : RbE w l t g row a1 c1 a2 c2 W' :=
  ⟨(hb.block _ (Array.getElem?_eq_some_iff.1 h.r5).1).trans h.r5, (hb.block _ (Array.getElem?_eq_some_iff.1 h.r9).1).trans h.r9, h.kk.below hb, h.k1, h.gg.below hb, h.g1, h.bel.trans (hb.mono h.bel.size), h.lt⟩
theorem RbE.put {w : World} {l : List Ltr} {t : Int} {g : Nat} {row : List Value} {a1 : Option Addr} {c1 : Nat} {a2 : Option Addr} {c2 : Nat} {W : World} (h : RbE w l t g row a1 c1 a2 c2 W) (row' : List Value) : RbE w l t g row' a1 c1 a2 c2 (W.setRow g row'.toArray) :=
  ⟨(setRow_other _ _ _ _ (by have := h.lt; omega)).trans h.r5, setRow_heap _ _ _ _ _ _ h.r9, h.kk.other _ (fun b o e => (h.k1 b o e).2), h.k1, h.gg.other _ (fun b o e => (h.g1 b o e).2), h.g1, below_row h.bel (by have := h.lt; omega) _, h.lt⟩
end Frk

