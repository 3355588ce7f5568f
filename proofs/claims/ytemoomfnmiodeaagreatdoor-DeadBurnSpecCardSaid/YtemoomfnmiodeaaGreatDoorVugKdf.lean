/- Parts of the proof, joined. -/
import Derived.Test.YtemoomfnmiodeaaGreatDoorVuKsn
/- Law 45: a slice in which kept letters are stored in place. -/
namespace Frk
open Go Go.RowKit Go.Proofs
set_option maxRecDepth 100000

theorem exec_store_mid {P : Program} {o : Oper} {a : Act} {w : World} (ty : TypeId) (x y : Operand) (ho : o.op = .store ty x y) (g off : Nat) (cs : List Value) (hx : a.eval x = .pointer (some ⟨g, off, none⟩)) (hy : a.eval y = .agg cs.toArray) (t : TypeId) (cur : List Value)
    (hg : w.heap[g]? = some (.cells cur.toArray t (0, 0))) (hi : (P.info? ty).map (·.size) = some cs.length) (hfit : off + cs.length ≤ cur.length) (h1 : ∀ v ∈ cs, v.oneCell' = true) :
    (execOp a.eval o).run P w = .ok .skip (w.setRow g (lay cur off cs).toArray) := by
  have ht : w.there g off cs.toArray.size := fun j hj => by
    have hj' : j < cs.length := by simpa using hj
    refine ⟨?_, frozen_of_row _ _ _ _ _ hg⟩
    rw [cell_of_row _ _ _ _ _ _ hg]
    simp; omega
  unfold execOp
  simp only [ho, hx, hy, Instr.storeAt, Instr.sureAddr, Sem.run_bind, Sem.run_pure, Result.andThen_ok, run_storeVar_mid w g off ty cs.toArray ht (by simpa using hi) (all_oneCell_toArray h1)]
  rw [setCells_row cs off cur w hg hfit]

section
variable {P : Program} {ops : Array Oper} {rest : List Oper} {o : Oper} {a : Act} {w : World} {Q : Exit → Act → World → Prop}
theorem wpList_store_mid (hw : Region.wanted o (yielded ops a.tmps) = true) (ty : TypeId) (x y : Operand) (ho : o.op = .store ty x y) (g off : Nat) (cs : List Value) (hx : a.eval x = .pointer (some ⟨g, off, none⟩)) (hy : a.eval y = .agg cs.toArray) (t : TypeId) (cur : List Value)
    (hg : w.heap[g]? = some (.cells cur.toArray t (0, 0))) (hi : (P.info? ty).map (·.size) = some cs.length) (hfit : off + cs.length ≤ cur.length) (h1 : ∀ v ∈ cs, v.oneCell' = true)
    (h : wpList P ops Q rest (a.put o.dst undef) (w.setRow g (lay cur off cs).toArray)) : wpList P ops Q (o :: rest) a w :=
  wpList_wanted hw fun K hK => by unfold Oper.wp; rw [exec_store_mid ty x y ho g off cs hx hy t cur hg hi hfit h1]; exact hK _ _ h
end

theorem lay_kcells : ∀ (t : List Ltr) (i : Nat) (h : Ltr) (R : List Value), (∀ x ∈ t, x.C.length = 38) → h.C.length = 38 → i < t.length → lay (kcells t ++ R) (i * 38) h.C = kcells (t.set i h) ++ R
  | [], i, h, R, _, _, hi => by simp at hi
  | x :: t, i, h, R, hx, lh, hi => by
    have lx : x.C.length = 38 := hx x List.mem_cons_self
    cases i with
    | zero =>
      unfold lay kcells
      rw [List.set_cons_zero, List.flatMap_cons, List.flatMap_cons, Nat.zero_mul, List.take_zero, List.nil_append, Nat.zero_add, lh, List.append_assoc, List.drop_left' lx, List.append_assoc]
    | succ i =>
      have ih := lay_kcells t i h R (fun x hx' => hx x (List.mem_cons_of_mem _ hx')) lh (by simpa using hi)
      unfold lay kcells at *
      have e1 : ∀ Y : List Value, (x.C ++ Y).take (38 + i * 38) = x.C ++ Y.take (i * 38) := fun Y => by
        rw [List.take_append, List.take_of_length_le (by omega), lx, show 38 + i * 38 - 38 = i * 38 from by omega]
      have e2 : ∀ Y : List Value, (x.C ++ Y).drop (38 + i * 38 + h.C.length) = Y.drop (i * 38 + h.C.length) := fun Y => by
        rw [List.drop_append, List.drop_of_length_le (by omega), List.nil_append, lx, show 38 + i * 38 + h.C.length - 38 = i * 38 + h.C.length from by omega]
      rw [List.set_cons_succ, List.flatMap_cons, List.flatMap_cons, show (i + 1) * 38 = 38 + i * 38 from by omega, List.append_assoc x.C, List.append_assoc x.C, e1, e2, ← ih]
      simp only [List.append_assoc]

/-- the slice that is changed in place: what it holds, and what lies behind -/
def TurnK (w : World) (g : Nat) (t : List Ltr) (R : List Value) : Prop := w.heap[g]? = some (.cells (kcells t ++ R).toArray 30 (0, 0)) ∧ ∀ x ∈ t, x.C.length = 38
theorem TurnK.block {w w' : World} {g : Nat} {t : List Ltr} {R : List Value} (h : TurnK w g t R) (hb : w'.heap[g]? = w.heap[g]?) : TurnK w' g t R := ⟨hb.trans h.1, h.2⟩
theorem TurnK.below {w w' : World} {g : Nat} {t : List Ltr} {R : List Value} (h : TurnK w g t R) (hb : Below w.heap.size w w') : TurnK w' g t R :=
  h.block (hb.block g (Array.getElem?_eq_some_iff.1 h.1).1)
theorem TurnK.range {w : World} {g : Nat} {t : List Ltr} {R : List Value} (h : TurnK w g t R) : w.rangeAt g 0 (kcells t) := by
  have := rangeAt_take (rangeAt_row h.1) (kcells t).length
  rwa [List.take_left' rfl] at this
theorem TurnK.row {w : World} {g : Nat} {t : List Ltr} {R : List Value} (h : TurnK w g t R) {i : Nat} {x : Ltr} (hx : t[i]? = some x) : w.rangeAt g (i * 38) x.C := by
  have := rangeC_row h.range h.2 hx
  rwa [Nat.zero_add] at this
theorem TurnK.set {w : World} {g : Nat} {t : List Ltr} {R : List Value} (h : TurnK w g t R) {i : Nat} {x : Ltr} (hi : i < t.length) (hx : x.C.length = 38) : TurnK (w.setRow g (lay (kcells t ++ R) (i * 38) x.C).toArray) g (t.set i x) R :=
  ⟨by
    have := heap_lay (i * 38) x.C h.1
    rw [lay_kcells t i x R h.2 hx hi] at this ⊢
    exact this, fun y hy => by
    rcases List.mem_or_eq_of_mem_set hy with e | e
    · exact h.2 y e
    · rw [e]; exact hx⟩
theorem TurnK.fit {w : World} {g : Nat} {t : List Ltr} {R : List Value} (h : TurnK w g t R) {i : Nat} (hi : i < t.length) : i * 38 + 38 ≤ (kcells t ++ R).length := by
  rw [List.length_append, kcells_length t h.2]
  omega
theorem turnK_own {w : World} {base : Nat} {n : Nat} {v : Value} {l : List Ltr} (h : OwnK w base v n l) (_hl : l.length = n) (hn : 0 < n) (he : ∀ x ∈ l, x.C.length = 38) :
    ∃ g c R, v = .slice (some ⟨g, 0, none⟩) n c ∧ base ≤ g ∧ n ≤ c ∧ c ≤ 9223372036854775807 ∧ TurnK w g l R ∧ (kcells l ++ R).length = c * 38 := by
  rcases h.2 with ⟨_, h0⟩ | ⟨g, cap, cur, rfl, hb, hg, hc, hcm, hs, ht⟩
  · omega
  · refine ⟨g, cap, cur.toList.drop (n * 38), rfl, hb, hc, by unfold maxLen at hcm; omega, ⟨?_, he⟩, ?_⟩
    · rw [show kcells l = cur.toList.take (n * 38) from ht.symm, List.take_append_drop]
      exact hg
    · rw [show kcells l = cur.toList.take (n * 38) from ht.symm, List.take_append_drop]
      simpa using hs
end Frk

/- Law 45: slices.DeleteFunc at kept letters whose term is over. -/
namespace Frk
open Go Go.RowKit Go.Proofs
set_option maxRecDepth 100000

/-- how far DeleteFunc has come -/
structure DfI (l : List Ltr) (t : Int) (n j i : Nat) (T : List Ltr) : Prop where
  len : T.length = n
  ij : i < j
  ii : i = (stayK (l.take j) t).length
  tk : T.take i = stayK (l.take j) t
  rest : ∀ m, j ≤ m → T[m]? = l[m]?
theorem DfI.out {l : List Ltr} {t : Int} {n j i : Nat} {T : List Ltr} (h : DfI l t n j i T) {x : Ltr} (hx : l[j]? = some x) (hu : x.U ≤ t) : DfI l t n (j + 1) i T := by
  have e := stay_take_succ hx t
  rw [if_pos hu] at e
  exact ⟨h.len, by have := h.ij; omega, by rw [e]; exact h.ii, by rw [e]; exact h.tk, fun m hm => h.rest m (by omega)⟩
theorem DfI.keep {l : List Ltr} {t : Int} {n j i : Nat} {T : List Ltr} (h : DfI l t n j i T) (hl : l.length = n) {x : Ltr} (hx : l[j]? = some x) (hu : ¬ x.U ≤ t) : DfI l t n (j + 1) (i + 1) (T.set i x) := by
  have e := stay_take_succ hx t
  rw [if_neg hu] at e
  have hj := (List.getElem?_eq_some_iff.1 hx).1
  have hi : i < T.length := by have := h.ij; have := h.len; omega
  refine ⟨by rw [List.length_set]; exact h.len, by have := h.ij; omega, by rw [e, List.length_append, ← h.ii]; rfl, ?_, fun m hm => ?_⟩
  · rw [e, ← h.tk, List.take_add_one, List.getElem?_set_self hi, List.take_set_of_le (Nat.le_refl i)]
    rfl
  · rw [List.getElem?_set_ne (by have := h.ij; omega)]
    exact h.rest m (by omega)
theorem DfI.start {l : List Ltr} {t : Int} {k : Nat} {x : Ltr} (hx : l[k]? = some x) (hu : x.U ≤ t) (hb : ∀ j y, j < k → l[j]? = some y → ¬ y.U ≤ t) : DfI l t l.length (k + 1) k l := by
  have hk := (List.getElem?_eq_some_iff.1 hx).1
  have e := stay_take_succ hx t
  rw [if_pos hu] at e
  have e2 : stayK (l.take k) t = l.take k := List.filter_eq_self.2 fun y hy => by
    obtain ⟨j, hj⟩ := List.mem_iff_getElem?.1 hy
    rw [List.getElem?_take] at hj
    split at hj
    · have := hb j y (by assumption) hj
      simp [this]
    · cases hj
  exact ⟨rfl, by omega, by rw [e, e2, List.length_take]; omega, by rw [e, e2], fun m _ => rfl⟩
theorem DfI.done {l : List Ltr} {t : Int} {n i : Nat} {T : List Ltr} (h : DfI l t n n i T) (hl : l.length = n) : T.take i = stayK l t ∧ i = (stayK l t).length := by
  have h1 := h.tk
  have h2 := h.ii
  have e : l.take n = l := List.take_of_length_le (by omega)
  rw [e] at h1 h2
  exact ⟨h1, h2⟩
theorem fst_over {l : List Ltr} {t : Int} : (stayK l t = l ∧ fstI (fun x => decide (x.U ≤ t)) l = -1) ∨ ∃ k x, k < l.length ∧ l[k]? = some x ∧ x.U ≤ t ∧ (∀ j y, j < k → l[j]? = some y → ¬ y.U ≤ t) ∧ fstI (fun x => decide (x.U ≤ t)) l = (k : Nat) := by
  by_cases h : ∀ x ∈ l, ¬ x.U ≤ t
  · exact .inl ⟨List.filter_eq_self.2 fun x hx => by simp [h x hx], fstI_miss fun x hx => by simp [h x hx]⟩
  · right
    have hi : l.findIdx (fun x => decide (x.U ≤ t)) < l.length := by
      rw [List.findIdx_lt_length]
      apply Classical.byContradiction
      intro hn
      exact h fun x hx hu => hn ⟨x, hx, by simp [hu]⟩
    have h1 := List.findIdx_getElem (w := hi)
    have hb : ∀ j y, j < l.findIdx (fun x => decide (x.U ≤ t)) → l[j]? = some y → ¬ y.U ≤ t := fun j y hj hy => by
      have := List.not_of_lt_findIdx hj
      obtain ⟨hjl, ey⟩ := List.getElem?_eq_some_iff.1 hy
      rw [ey] at this
      simpa using this
    exact ⟨_, _, hi, List.getElem?_eq_getElem hi, by simpa using h1, hb, fstI_hit (List.getElem?_eq_getElem hi) h1 fun j y hj hy => by simpa using hb j y hj hy⟩

theorem kcells_take' (T : List Ltr) (i : Nat) (he : ∀ x ∈ T, x.C.length = 38) (R : List Value) (hi : i ≤ T.length) : kcells (T.take i) = (kcells T ++ R).take (i * 38) := by
  rw [kcells_take T i he, List.take_append_of_le_length (by rw [kcells_length T he]; omega)]

set_option maxHeartbeats 8000000 in
theorem kdelfun_any (base n : Nat) (v : Value) (l : List Ltr) (t : Int) (w : World) (hown : OwnK w base v n l) (hl : l.length = n) (h32 : ∀ x ∈ l, x.T.length = 32) (hn : n ≤ 5000) (hbase : base ≤ w.heap.size) :
    Calls Tryz.prog 40 #[v, .func (.func 39) #[.int .i64 t] #[]] w (KRes base (stayK l t) w) := by
  have he : ∀ x ∈ l, x.C.length = 38 := fun x hx => Ltr.C_len (h32 x hx)
  obtain ⟨a, c, rfl, hd⟩ := isC_own (C := Ltr.C) hown he hl hn
  have HIx := Seal.mk (kindex_over a n c l t w hd h32)
  rcases fst_over (l := l) (t := t) with ⟨hs, hi⟩ | ⟨k, x0, hk, hx, hu, hb, hi⟩
  · rw [hi] at HIx
    have hbd : ∀ g o, a = some ⟨g, o, none⟩ → base ≤ g := fun g o e => by
      rcases hown.2 with ⟨e2, _⟩ | ⟨g', cap, cur, e2, hb', _⟩
      · cases e2; cases e
      · cases e2; cases e; exact hb'
    have HR : Seal (∀ w', Below w.heap.size w w' → KRes base (stayK l t) w (.returned (.slice a n c)) w') := ⟨fun w' h => ⟨a, c, by rw [hs, hl], ⟨by rw [hs, hl]; exact ⟨hd.below h, hbd⟩⟩, h.mono hbase⟩⟩
    clear hown hd hs hi he h32 hbd
    go_enter Tryz.func40, Tryz.ntmps40
    go_wp2_with fail
    refine HIx.out.mono ?_
    rintro e w1 ⟨rfl, hb⟩
    have HR := Seal.mk (HR.out w1 hb)
    clear hb HIx
    go_wp2
    go_ret
    exact HR.out
  · obtain ⟨g, c', R, e', hbg, hnc, hcm, hT, hRl⟩ := turnK_own hown hl (by omega) he
    cases e'
    rw [hi] at HIx
    have HS : Seal (DfI l t n (k + 1) k l) := ⟨by rw [← hl]; exact DfI.start hx hu hb⟩
    have HT := Seal.mk hT
    have HN : Seal (base ≤ g ∧ n ≤ c ∧ c ≤ 9223372036854775807 ∧ (kcells l ++ R).length = c * 38 ∧ (kcells l).length = n * 38) := ⟨hbg, hnc, hcm, hRl, by rw [kcells_length l he, hl]⟩
    have H32 := Seal.mk h32
    have HLn := Seal.mk hl
    have ut := Tryz.underlying30
    have p0 : ¬ (k : Int) = -1 := by omega
    have p1 : ((k : Int) == -1) = false := by rw [beq_eq_false_iff_ne]; omega
    have p2 : IntKind.i64.wrap ((k : Int) + 1) = (k : Int) + 1 := IntWalk.i64_in _ (by omega)
    have HKn : Seal (k < n) := ⟨by omega⟩
    clear hown hd hx hu hb hi he h32 hT hRl hk hl
    go_enter Tryz.func40, Tryz.ntmps40
    go_wp2_with fail
    refine HIx.out.mono ?_
    rintro e w1 ⟨rfl, hb⟩
    have HT1 : Seal (Below base w w1 ∧ TurnK w1 g l R ∧ w.heap.size ≤ w1.heap.size) := ⟨hb.mono hbase, HT.out.below hb, hb.size⟩
    clear hb HIx HT
    go_wp2
    go_loopw [5, 6] (fun iv jv wr => ∃ (i j : Nat) (T : List Ltr), j ≤ n ∧ iv = .int .i64 i ∧ jv = .int .i64 j ∧ Seal (DfI l t n j i T ∧ TurnK wr g T R ∧ Below base w wr ∧ w.heap.size ≤ wr.heap.size)) (fun _ j _ => n - (intOf j).toNat)
    case atStart => exact ⟨k, k + 1, l, by have := HKn.out; omega, rfl, by go_num, ⟨HS.out, HT1.out.2.1, HT1.out.1, HT1.out.2.2⟩⟩
    case round =>
      obtain ⟨wo, rfl⟩ : ∃ z, z = wr := ⟨_, rfl⟩
      obtain ⟨i, j, T, hj, rfl, rfl, hH⟩ := hrel
      clear HS HT1
      by_cases hlt : j < n
      · obtain ⟨x, hx⟩ : ∃ x, l[j]? = some x := ⟨_, List.getElem?_eq_getElem (by have := HLn.out; omega)⟩
        have hxT : T[j]? = some x := (hH.out.1.rest j (Nat.le_refl _)).trans hx
        have rX := hH.out.2.1.row hxT
        have x32 := H32.out x (List.mem_of_getElem? hx)
        have q5 : (j : Int) < (n : Int) := by omega
        have q6 : (0 : Int) ≤ (j : Int) := by omega
        have q7 : IntKind.i64.wrap ((j : Int) + 1) = (j : Int) + 1 := IntWalk.i64_in _ (by omega)
        obtain ⟨C, hC⟩ : ∃ C, C = x.C := ⟨_, rfl⟩
        have HX := Seal.mk hx
        have IC : Seal ((Tryz.prog.info? 30).map (·.size) = some C.length ∧ ((List.toArray (.int .i64 0 :: .int .i64 0 :: .int .i64 0 :: .int .i64 0 :: .int .i64 0 :: .int .i64 0 :: .int .u8 0 :: .int .u8 0 :: .int .u8 0 :: .int .u8 0 :: .int .u8 0 :: .int .u8 0 :: .int .u8 0 :: .int .u8 0 :: .int .u8 0 :: .int .u8 0 :: .int .u8 0 :: .int .u8 0 :: .int .u8 0 :: .int .u8 0 :: .int .u8 0 :: .int .u8 0 :: .int .u8 0 :: .int .u8 0 :: .int .u8 0 :: .int .u8 0 :: .int .u8 0 :: .int .u8 0 :: .int .u8 0 :: .int .u8 0 :: .int .u8 0 :: .int .u8 0 :: .int .u8 0 :: .int .u8 0 :: .int .u8 0 :: .int .u8 0 :: .int .u8 0 :: .int .u8 0 :: [] : List Value) : Array Value) : Array Value).size = C.toArray.size ∧ C.toArray.all (·.oneCell') = true ∧ C.length = 38 ∧ ∀ v ∈ C, v.oneCell' = true) := ⟨by rw [hC]; exact Ltr.info x32, by rw [hC, ktzz_len, List.size_toArray, Ltr.C_len x32], by rw [hC]; exact all_oneCell_toArray (Ltr.C_one _), by rw [hC]; exact Ltr.C_len x32, by rw [hC]; exact Ltr.C_one _⟩
        obtain ⟨b, hb⟩ : ∃ b, b = decide (x.U ≤ t) := ⟨_, rfl⟩
        have HBb := Seal.mk hb
        have HCk : Seal (∀ W, Calls Tryz.prog 39 #[.int .i64 t, .agg C.toArray] W fun e w' => e = .returned (.bool b) ∧ Below W.heap.size W w') := ⟨fun W => by rw [hC, hb]; exact kover_any x t W⟩
        rw [← hC] at rX
        have HCC := Seal.mk hC
        have hn5 := heap_alloc_new wo (.cells (List.toArray (.int .i64 0 :: .int .i64 0 :: .int .i64 0 :: .int .i64 0 :: .int .i64 0 :: .int .i64 0 :: .int .u8 0 :: .int .u8 0 :: .int .u8 0 :: .int .u8 0 :: .int .u8 0 :: .int .u8 0 :: .int .u8 0 :: .int .u8 0 :: .int .u8 0 :: .int .u8 0 :: .int .u8 0 :: .int .u8 0 :: .int .u8 0 :: .int .u8 0 :: .int .u8 0 :: .int .u8 0 :: .int .u8 0 :: .int .u8 0 :: .int .u8 0 :: .int .u8 0 :: .int .u8 0 :: .int .u8 0 :: .int .u8 0 :: .int .u8 0 :: .int .u8 0 :: .int .u8 0 :: .int .u8 0 :: .int .u8 0 :: .int .u8 0 :: .int .u8 0 :: .int .u8 0 :: .int .u8 0 :: [] : List Value) : Array Value) 30)
        obtain ⟨gd, hgd⟩ : ∃ z, z = wo.heap.size := ⟨_, rfl⟩
        obtain ⟨V, hV⟩ : ∃ V, V = wo.alloc (.cells C.toArray 30) := ⟨_, rfl⟩
        have hVz : (wo.alloc (.cells (List.toArray (.int .i64 0 :: .int .i64 0 :: .int .i64 0 :: .int .i64 0 :: .int .i64 0 :: .int .i64 0 :: .int .u8 0 :: .int .u8 0 :: .int .u8 0 :: .int .u8 0 :: .int .u8 0 :: .int .u8 0 :: .int .u8 0 :: .int .u8 0 :: .int .u8 0 :: .int .u8 0 :: .int .u8 0 :: .int .u8 0 :: .int .u8 0 :: .int .u8 0 :: .int .u8 0 :: .int .u8 0 :: .int .u8 0 :: .int .u8 0 :: .int .u8 0 :: .int .u8 0 :: .int .u8 0 :: .int .u8 0 :: .int .u8 0 :: .int .u8 0 :: .int .u8 0 :: .int .u8 0 :: .int .u8 0 :: .int .u8 0 :: .int .u8 0 :: .int .u8 0 :: .int .u8 0 :: .int .u8 0 :: [] : List Value) : Array Value) 30)).setRow wo.heap.size C.toArray = V := by rw [hV]; exact setRow_new wo (.int .i64 0 :: .int .i64 0 :: .int .i64 0 :: .int .i64 0 :: .int .i64 0 :: .int .i64 0 :: .int .u8 0 :: .int .u8 0 :: .int .u8 0 :: .int .u8 0 :: .int .u8 0 :: .int .u8 0 :: .int .u8 0 :: .int .u8 0 :: .int .u8 0 :: .int .u8 0 :: .int .u8 0 :: .int .u8 0 :: .int .u8 0 :: .int .u8 0 :: .int .u8 0 :: .int .u8 0 :: .int .u8 0 :: .int .u8 0 :: .int .u8 0 :: .int .u8 0 :: .int .u8 0 :: .int .u8 0 :: .int .u8 0 :: .int .u8 0 :: .int .u8 0 :: .int .u8 0 :: .int .u8 0 :: .int .u8 0 :: .int .u8 0 :: .int .u8 0 :: .int .u8 0 :: .int .u8 0 :: [] : List Value) C _
        have hbv : Below wo.heap.size wo V := by rw [hV]; exact below_alloc _ _
        have rV : V.rangeAt gd 0 C := rangeAt_row (by rw [hV, hgd]; exact heap_alloc_new wo _)
        have HV : Seal (DfI l t n j i T ∧ TurnK V g T R ∧ Below base w V ∧ w.heap.size ≤ V.heap.size ∧ g ≠ gd) := ⟨hH.out.1, hH.out.2.1.below hbv, hH.out.2.2.1.trans (hbv.mono (Nat.le_trans hbase hH.out.2.2.2)), by have := hbv.size; have := hH.out.2.2.2; omega, by have := (Array.getElem?_eq_some_iff.1 hH.out.2.1.1).1; omega⟩
        have hgdn := hgd.symm
        rw [hgdn] at hVz hn5
        clear hx hxT hC hb hgd hV hbv hH x32
        go_wp2_with (first
          | (refine wpList_load_mid rfl 30 (.tmp 24) rfl g (j * 38) rfl C _ rX ut rfl IC.out.1 ?_; (try simp only [Act.put, List.setIfInBounds_toArray, List.set_cons_zero, List.set_cons_succ]))
          | ((try rw [hgdn]); refine wpList_store_row rfl 30 (.tmp 7) (.tmp 25) rfl gd C.toArray rfl rfl 30 _ hn5 (by simpa using IC.out.1) IC.out.2.1 IC.out.2.2.1 ?_; rw [hVz]; clear hVz hn5 hgdn rX; (try simp only [Act.put]))
          | (refine wpList_load_mid rfl 30 (.tmp 7) rfl gd 0 rfl C _ rV ut rfl IC.out.1 ?_; (try simp only [Act.put, List.setIfInBounds_toArray, List.set_cons_zero, List.set_cons_succ])))
        refine (HCk.out V).mono ?_
        rintro e V1 ⟨rfl, hb⟩
        have HV1 : Seal (DfI l t n j i T ∧ TurnK V1 g T R ∧ Below base w V1 ∧ w.heap.size ≤ V1.heap.size ∧ g ≠ gd) := ⟨HV.out.1, HV.out.2.1.below hb, HV.out.2.2.1.trans (hb.mono (Nat.le_trans hbase HV.out.2.2.2.1)), by have := hb.size; have := HV.out.2.2.2.1; omega, HV.out.2.2.2.2⟩
        have rV := rangeAt_below' rV hb
        clear hb HV HCk
        cases b with
        | true =>
          have HNx : Seal (DfI l t n (j + 1) i T ∧ TurnK V1 g T R ∧ Below base w V1 ∧ w.heap.size ≤ V1.heap.size) := ⟨HV1.out.1.out HX.out (by have := HBb.out; simpa using this.symm), HV1.out.2.1, HV1.out.2.2.1, HV1.out.2.2.2.1⟩
          clear rV HV1
          go_wp2
          go_roundw
          case rel => exact ⟨i, j + 1, T, by omega, rfl, by go_num, HNx⟩
          case measure => simp [intOf]; omega
        | false =>
          have hu : ¬ x.U ≤ t := by have := HBb.out; simpa using this.symm
          have hij := HV1.out.1.ij
          have hiT : i < T.length := by have := HV1.out.1.len; omega
          have HF := Seal.mk (HV1.out.2.1.fit hiT)
          have p5 : (i : Int) < (n : Int) := by omega
          have p6 : (0 : Int) ≤ (i : Int) := by omega
          have p7 : IntKind.i64.wrap ((i : Int) + 1) = (i : Int) + 1 := IntWalk.i64_in _ (by omega)
          have hgT := HV1.out.2.1.1
          have HNx : Seal (DfI l t n (j + 1) (i + 1) (T.set i x) ∧ TurnK (V1.setRow g (lay (kcells T ++ R) (i * 38) C).toArray) g (T.set i x) R ∧ Below base w (V1.setRow g (lay (kcells T ++ R) (i * 38) C).toArray) ∧ w.heap.size ≤ (V1.setRow g (lay (kcells T ++ R) (i * 38) C).toArray).heap.size) := ⟨HV1.out.1.keep HLn.out HX.out hu, by rw [HCC.out]; exact HV1.out.2.1.set hiT (by rw [← HCC.out]; exact IC.out.2.2.2.1), below_row HV1.out.2.2.1 HN.out.1 _, by simpa [World.setRow] using HV1.out.2.2.2.1⟩
          clear hu hiT HV1
          go_wp2_with (first
            | (refine wpList_load_mid rfl 30 (.tmp 7) rfl gd 0 rfl C _ rV ut rfl IC.out.1 ?_; clear rV; (try simp only [Act.put, List.setIfInBounds_toArray, List.set_cons_zero, List.set_cons_succ]))
            | (refine wpList_store_mid rfl 30 (.tmp 33) (.tmp 32) rfl g (i * 38) C rfl rfl 30 (kcells T ++ R) hgT IC.out.1 (by rw [IC.out.2.2.2.1]; exact HF.out) IC.out.2.2.2.2 ?_; clear hgT; (try simp only [Act.put])))
          go_roundw
          case rel => exact ⟨i + 1, j + 1, T.set i x, by omega, by go_num, by go_num, HNx⟩
          case measure => simp [intOf]; omega
      · obtain rfl : j = n := by omega
        have q5 : ¬ (j : Int) < (j : Int) := by omega
        obtain ⟨hf1, hf2⟩ := hH.out.1.done HLn.out
        have hij := hH.out.1.ij
        have hTl := hH.out.1.len
        have lT : (kcells T ++ R).length = c * 38 := by
          have h1 := HN.out.2.2.2.1
          rw [List.length_append] at h1 ⊢
          rw [kcells_length T hH.out.2.1.2, hTl]
          have := HN.out.2.2.2.2
          omega
        obtain ⟨r2, h1, h2, h3⟩ := run_clear_row wo 22 30 _ 38 Tryz.underlying22 (zero_kt) rfl (by decide) ktzv_one g (i * 38) (j - i) (c - i) (kcells T ++ R) _ hH.out.2.1.1 (by rw [lT]; have := HN.out.2.1; omega)
        have h4 := fun ty => h3 ⟨g, i * 38, none⟩ ty (.inl rfl)
        have p5 : (i : Int) ≤ (j : Int) := by omega
        have p6 : (0 : Int) ≤ (i : Int) := by omega
        have p7 : (i : Int) ≤ (c : Int) := by have := HN.out.2.1; omega
        have p8 : ¬ c = i := by have := HN.out.2.1; omega
        have HR : Seal (KRes base (stayK l t) w (.returned (.slice (some ⟨g, 0, none⟩) i c)) (wo.setRow g r2.toArray)) := ⟨by
          obtain ⟨a1, c1, e1, i1⟩ := isC_own (C := Ltr.C) (ownP_of_row (l := stayK l t) (n := i) (base := base) (cap := c) (setRow_heap _ _ _ _ _ _ hH.out.2.1.1) HN.out.1 (by have := HN.out.2.1; omega) HN.out.2.2.1 (by rw [h1]; exact lT) (by
            rw [h2, ← kcells_take' T i hH.out.2.1.2 R (by omega), hf1])) (fun x hx => Ltr.C_len (H32.out x (List.mem_filter.1 hx).1)) hf2.symm (by omega)
          cases e1
          exact ⟨_, _, by rw [← hf2], ⟨by rw [← hf2]; exact ⟨i1, fun g o e => by cases e; exact HN.out.1⟩⟩, below_row hH.out.2.2.1 HN.out.1 _⟩⟩
        clear hH hf1 hf2 h1 h2 h3 lT hTl
        go_wp2
        go_ret
        exact HR.out
end Frk

