/- Parts of the proof, joined. -/
import Derived.Test.YtemoomfnmiodeaaDoorVogDbs
import Derived.Deep.Cut
import Derived.Test.YtemoomfnmiodeaaDoorVogKit
import Derived.Test.YtemoomfnmiodeaaDoorVogElm
import Derived.Test.YtemoomfnmiodeaaDoorVoKea
/- Long loads under a guard. -/
namespace Frk
open Go Go.RowKit Go.Proofs
set_option maxRecDepth 100000

theorem wpList_wanted {P : Program} {ops : Array Oper} {rest : List Oper} {o : Oper} {a : Act} {w : World} {Q : Exit → Act → World → Prop} (hw : Region.wanted o (yielded ops a.tmps) = true)
    (h : ∀ K : Act → World → Prop, (∀ a w, wpList P ops Q rest a w → K a w) → o.wp P a w K Q) : wpList P ops Q (o :: rest) a w :=
  wpList_step fun K hK => by simp only [hw, if_true]; exact h K hK

/-- a long load out of the midst of a block under a guard that holds -/
theorem wpList_load_mid_g {P : Program} {ops : Array Oper} {rest : List Oper} {o : Oper} {a : Act} {w : World} {Q : Exit → Act → World → Prop} (hw : Region.wanted o (yielded ops a.tmps) = true) (ty : TypeId) (x : Operand) (ho : o.op = .load ty x)
    (b off : Nat) (hx : a.eval x = .pointer (some ⟨b, off, none⟩)) (cs : List Value) (d : TypeDesc) (hc : w.rangeAt b off cs)
    (hu : P.underlying ty = some d) (hd : d.isRow = true) (hi : (P.info? ty).map (·.size) = some cs.length)
    (h : wpList P ops Q rest (a.put o.dst (.agg cs.toArray)) w) : wpList P ops Q (o :: rest) a w :=
  wpList_wanted hw fun _ hK => wp_load_mid ty x ho b off hx cs d hc hu hd hi (hK _ _ h)
end Frk

/- Slices of rows of equal length, in general; law 44's postings. -/
namespace Frk
open Go Go.RowKit Go.Proofs
set_option maxRecDepth 100000

/-! ## a slice whose elements are told by their cells -/
section
variable {α : Type} (C : α → List Value) (z : Nat)

structure IsC (w : World) (a : Option Addr) (n c : Nat) (l : List α) : Prop where
  llen : l.length = n
  lcap : n ≤ c
  lmax : n ≤ 5000
  cmax : c ≤ 9223372036854775807
  each : ∀ x ∈ l, (C x).length = z
  at_ : n = 0 ∨ ∃ g o, a = some ⟨g, o, none⟩ ∧ w.rangeAt g o (l.flatMap C) ∧ g < w.heap.size
end
section
variable {α : Type} {C : α → List Value} {z : Nat}

theorem isC_flat_at : ∀ {l : List α} {i : Nat} {x : α} (_ : ∀ x ∈ l, (C x).length = z) (_ : l[i]? = some x) (j : Nat) (v : Value), (C x)[j]? = some v → (l.flatMap C)[i * z + j]? = some v
  | [], i, x, _, hx, _, _, _ => by simp at hx
  | y :: l, i, x, he, hx, j, v, hv => by
    rw [List.flatMap_cons]
    cases i with
    | zero =>
      cases hx
      rw [Nat.zero_mul, Nat.zero_add, List.getElem?_append_left (List.getElem?_eq_some_iff.1 hv).1]
      exact hv
    | succ i =>
      have hy := he y List.mem_cons_self
      rw [List.getElem?_append_right (by rw [hy, Nat.succ_mul]; omega), hy, show (i + 1) * z + j - z = i * z + j from by rw [Nat.succ_mul]; omega]
      exact isC_flat_at (fun x hx => he x (List.mem_cons_of_mem _ hx)) (by simpa using hx) j v hv
theorem isC_flat_len : ∀ {l : List α} (_ : ∀ x ∈ l, (C x).length = z), (l.flatMap C).length = l.length * z
  | [], _ => by simp
  | y :: l, he => by
    rw [List.flatMap_cons, List.length_append, he y List.mem_cons_self, isC_flat_len fun x hx => he x (List.mem_cons_of_mem _ hx), List.length_cons, Nat.succ_mul]
    omega
theorem IsC.below {w w' : World} {a : Option Addr} {n c : Nat} {l : List α} (h : IsC C z w a n c l) (hb : Below w.heap.size w w') : IsC C z w' a n c l :=
  ⟨h.llen, h.lcap, h.lmax, h.cmax, h.each, by
    rcases h.at_ with h0 | ⟨g, o, e, hr, hg⟩
    · exact .inl h0
    · exact .inr ⟨g, o, e, rangeAt_below' hr hb, Nat.lt_of_lt_of_le hg hb.size⟩⟩
theorem rangeC_row {w : World} {g o : Nat} {l : List α} (hr : w.rangeAt g o (l.flatMap C)) (he : ∀ x ∈ l, (C x).length = z) {i : Nat} {x : α} (hx : l[i]? = some x) : w.rangeAt g (o + i * z) (C x) := fun j v hv => by
  have := hr (i * z + j) v (isC_flat_at he hx j v hv)
  rwa [show o + i * z + j = o + (i * z + j) from by omega]
/-- one's own, as a slice -/
theorem isC_own {w : World} {base : Nat} {e : TypeId} {v : Value} {n : Nat} {l : List α} (h : w.ownsRow base e z v n (l.flatMap C)) (he : ∀ x ∈ l, (C x).length = z) (hl : l.length = n) (hm : n ≤ 5000) : ∃ a c, v = .slice a n c ∧ IsC C z w a n c l := by
  rcases h.2 with ⟨rfl, rfl⟩ | ⟨g, cap, cur, rfl, _, hg, hc, hcm, hs, ht⟩
  · exact ⟨none, 0, rfl, hl, Nat.le_refl _, hm, by decide, he, .inl rfl⟩
  · refine ⟨some ⟨g, 0, none⟩, cap, rfl, hl, hc, hm, by unfold maxLen at hcm; omega, he, .inr ⟨g, 0, rfl, ?_, (Array.getElem?_eq_some_iff.1 hg).1⟩⟩
    intro j u hu
    rw [cell_of_row _ _ _ _ _ _ hg]
    rw [← ht, List.getElem?_take] at hu
    split at hu
    · simpa using hu
    · cases hu
end

/-! ## postings -/
def Po.C (p : Po) : List Value := .int .i64 p.o :: p.S.map B
structure Po.ok (p : Po) : Prop where
  s32 : p.S.length = 32
  io : I64 p.o
theorem Po.C_len {p : Po} (h : p.S.length = 32) : p.C.length = 33 := by simp [Po.C, h]
theorem Po.C_one (p : Po) : ∀ u ∈ p.C, u.oneCell' = true := by
  intro u hu
  rcases List.mem_cons.1 hu with e | e
  · rw [e]; rfl
  · obtain ⟨b, _, rfl⟩ := List.mem_map.1 e
    rfl
def intC (n : Int) : List Value := [.int .i64 n]
theorem intC_flat (l : List Int) : l.flatMap intC = l.map (Value.int .i64) := by
  induction l with
  | nil => rfl
  | cons x l ih => rw [List.flatMap_cons, ih]; rfl
abbrev IsPs (w : World) (a : Option Addr) (n c : Nat) (l : List Po) : Prop := IsC Po.C 33 w a n c l
abbrev IsIs (w : World) (a : Option Addr) (n c : Nat) (l : List Int) : Prop := IsC intC 1 w a n c l
end Frk

/- Law 45: dead.check, Check. -/
namespace Frk
open Go Go.RowKit Go.Proofs
set_option maxRecDepth 100000

theorem Ltr.info {x : Ltr} (h : x.T.length = 32) : (Tryd.prog.info? 45).map (·.size) = some x.C.length := by rw [Ltr.C_len h]; kernel_rfl

set_option maxHeartbeats 2000000 in
theorem kcheck_any (x : Ltr) (w : World) (hG : Glob w) (ok : x.ok) :
    Calls Tryd.prog 25 #[.agg x.C.toArray] w fun e w' => e = .returned (.bool (okK x)) ∧ Below w.heap.size w w' := by
  obtain ⟨X, hX⟩ : ∃ X : World, X = w.alloc (.cells x.C.toArray 45) := ⟨_, rfl⟩
  have HB : Seal (Below w.heap.size w X) := ⟨by rw [hX]; exact below_alloc _ _⟩
  have hr : X.rangeAt w.heap.size 0 x.C := rangeAt_row (by rw [hX]; exact heap_alloc_new w _)
  have c0 : X.cell? ⟨w.heap.size, 0, none⟩ = some (.int .i64 x.N) := by have := hr 0 (.int .i64 x.N) rfl; simpa using this
  have c1 : X.cell? ⟨w.heap.size, 1, none⟩ = some (.int .i64 x.U) := by have := hr 1 (.int .i64 x.U) rfl; simpa using this
  have r2 : X.rangeAt w.heap.size 2 (retC x.L x.K x.P x.Q x.T) := by
    have := rangeAt_drop hr 2
    simpa [Ltr.C] using this
  obtain ⟨t, ht⟩ : ∃ t, t = chkB x.L x.K x.P x.Q x.T := ⟨_, rfl⟩
  have HC : Seal (Calls Tryd.prog 51 #[.agg (retC x.L x.K x.P x.Q x.T).toArray] X fun e w' => e = .returned (.int .i64 (if t = true then 0 else 160)) ∧ Below X.heap.size X w') := ⟨ocheck_any x.L x.K x.P x.Q x.T t X (hG.below HB.out) ok.l ok.k ok.p ok.q ok.t32 ht.symm⟩
  have HK : Seal (okK x = (decide (0 ≤ x.N) && (decide (0 ≤ x.U) && (decide (x.N ≤ 1048576) && (decide (x.U < 2097152) && t))))) := ⟨by rw [ht]; rfl⟩
  obtain ⟨RC, hRC⟩ : ∃ C, C = retC x.L x.K x.P x.Q x.T := ⟨_, rfl⟩
  have iR : (Tryd.prog.info? 39).map (·.size) = some RC.length := by rw [hRC]; exact retC_info ok.t32
  have ut := Tryd.underlying39
  rw [← hRC] at r2 HC
  obtain ⟨C, hC⟩ : ∃ C, C = x.C := ⟨_, rfl⟩
  rw [← hC] at hX ⊢
  obtain ⟨b, hb⟩ : ∃ b, b = okK x := ⟨_, rfl⟩
  rw [← hb] at HK ⊢
  obtain ⟨n, hn⟩ : ∃ n, n = x.N := ⟨_, rfl⟩
  obtain ⟨u, hu⟩ : ∃ n, n = x.U := ⟨_, rfl⟩
  rw [← hn] at c0 HK
  rw [← hu] at c1 HK
  clear hr ht hRC hC hb hn hu ok hG
  go_enter Tryd.func25, Tryd.ntmps25
  go_upto_region 1 with (fail)
  rw [← hX]
  clear hX
  by_cases h1 : 0 ≤ min n u
  · have k1 : 0 ≤ n ∧ 0 ≤ u := by omega
    by_cases h2 : n ≤ 1048576
    · by_cases h3 : u < 2097152
      · have HK2 : Seal (b = t) := ⟨by rw [HK.out]; simp [k1, h2, h3]⟩
        clear HK k1
        go_wp2_with (refine wpList_load_mid_g (by kernel_rfl) 39 (.tmp 20) rfl w.heap.size 2 rfl RC _ r2 ut rfl iR ?_; (try simp only [Act.put, List.setIfInBounds_toArray, List.set_cons_zero, List.set_cons_succ]))
        all_goals
          refine HC.out.mono ?_
          rintro e w1 ⟨rfl, hb⟩
          have HB1 := Seal.mk (HB.out.trans (hb.mono HB.out.size))
          clear hb HC
          cases t with
          | true =>
            go_wp2
            all_goals
              go_ret
              exact ⟨ret_bool HK2.out.symm, HB1.out⟩
          | false =>
            go_wp2
            all_goals
              go_ret
              exact ⟨ret_bool HK2.out.symm, HB1.out⟩
      · have HK2 : Seal (b = false) := ⟨by rw [HK.out]; simp [h3]⟩
        clear HK k1
        go_wp2
        all_goals
          go_ret
          exact ⟨ret_bool HK2.out.symm, HB.out⟩
    · have HK2 : Seal (b = false) := ⟨by rw [HK.out]; simp [h2]⟩
      clear HK k1
      go_wp2
      all_goals
        go_ret
        exact ⟨ret_bool HK2.out.symm, HB.out⟩
  · have HK2 : Seal (b = false) := ⟨by
      rw [HK.out]
      have : ¬ 0 ≤ n ∨ ¬ 0 ≤ u := by omega
      rcases this with h | h <;> simp [h]⟩
    clear HK
    go_wp2
    all_goals
      go_ret
      exact ⟨ret_bool HK2.out.symm, HB.out⟩
end Frk

