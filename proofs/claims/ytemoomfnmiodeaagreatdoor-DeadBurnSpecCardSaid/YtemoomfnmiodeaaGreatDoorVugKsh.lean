/- Parts of the proof, joined. -/
import Derived.Test.YtemoomfnmiodeaaGreatDoorVuKsx
/- Law 45: what the examples say, plain. -/
namespace Frk
open Go Go.RowKit Go.Proofs
set_option maxRecDepth 100000

/-- two letters, as in the examples -/
structure Two (a b : Ltr) : Prop where
  an : a.N = 3
  au : a.U = 9
  bn : b.N = 5
  bu : b.U = 10
  ag : okK a = true
  bg : okK b = true
  ac : chkB a.L a.K a.P a.Q a.T = true
theorem two_ex : Two (exK 3 9) (exK 5 10) :=
  ⟨rfl, rfl, rfl, rfl, exK_okK (by decide) (by decide) (by decide) (by decide), exK_okK (by decide) (by decide) (by decide) (by decide), k_make_chk (exK_make 3 9)⟩
theorem chk_of {l : List Ltr} (h1 : l.length ≤ 1024) (h2 : ∀ x ∈ l, okK x = true) (h3 : RisK Ltr.N l) : chkL l = 0 := chkL_zero.2 ⟨h1, h2, h3⟩
def zLtr : Ltr := ⟨0, 0, 0, 0, 0, 0, zb32⟩
theorem zLtr_ok : zLtr.ok := ⟨⟨by decide, by decide⟩, ⟨by decide, by decide⟩, ⟨by decide, by decide⟩, ⟨by decide, by decide⟩, ⟨by decide, by decide⟩, ⟨by decide, by decide⟩, rfl⟩
theorem zLtr_C : ((List.toArray (.int .i64 0 :: .int .i64 0 :: .int .i64 0 :: .int .i64 0 :: .int .i64 0 :: .int .i64 0 :: .int .u8 0 :: .int .u8 0 :: .int .u8 0 :: .int .u8 0 :: .int .u8 0 :: .int .u8 0 :: .int .u8 0 :: .int .u8 0 :: .int .u8 0 :: .int .u8 0 :: .int .u8 0 :: .int .u8 0 :: .int .u8 0 :: .int .u8 0 :: .int .u8 0 :: .int .u8 0 :: .int .u8 0 :: .int .u8 0 :: .int .u8 0 :: .int .u8 0 :: .int .u8 0 :: .int .u8 0 :: .int .u8 0 :: .int .u8 0 :: .int .u8 0 :: .int .u8 0 :: .int .u8 0 :: .int .u8 0 :: .int .u8 0 :: .int .u8 0 :: .int .u8 0 :: .int .u8 0 :: [] : List Value) : Array Value) : Array Value) = zLtr.C.toArray := by kernel_rfl
theorem vd0 : vd 0 = false := by decide +kernel
theorem zLtr_no : okK zLtr = false := by
  have h : chkB zLtr.L zLtr.K zLtr.P zLtr.Q zLtr.T = false := by
    show chkB 0 0 0 0 zb32 = false
    unfold chkB
    rw [vd0]
    simp
  unfold okK
  rw [h]
  simp
section
variable {a b : Ltr} (h : Two a b)
include h
theorem Two.ris : RisK Ltr.N [a, b] := by
  have := h.an
  have := h.bn
  refine List.Pairwise.cons (fun x hx => ?_) (List.Pairwise.cons (fun x hx => ?_) List.Pairwise.nil)
  · rw [List.mem_singleton.1 hx]; omega
  · cases hx
theorem Two.chk : chkL [a, b] = 0 := chk_of (by simp) (fun x hx => by
  simp only [List.mem_cons, List.not_mem_nil, or_false] at hx
  rcases hx with rfl | rfl
  · exact h.ag
  · exact h.bg) h.ris
theorem Two.chkb : chkL [b] = 0 := chk_of (by simp) (fun x hx => by rw [List.mem_singleton.1 hx]; exact h.bg) (List.Pairwise.cons (fun x hx => by cases hx) List.Pairwise.nil)
theorem Two.chkaa : chkL [a, a] = 450 := by
  have _h := h.ag
  unfold chkL
  rw [if_neg (by simp)]
  have : goodL [a, a] = false := by
    cases hg : goodL [a, a] with
    | false => rfl
    | true =>
      have := (goodL_iff.1 hg).2
      have := (List.pairwise_cons.1 this).1 a (by simp)
      omega
  rw [this]
  rfl
theorem Two.keep1 : keepE [b] a = 0 ∧ keepL [b] a = [a, b] := by
  have e : keepE [b] a = 0 := keepE_zero.2 ⟨h.chkb, h.ag, hasK_not.2 fun x hx => by rw [List.mem_singleton.1 hx, h.an, h.bn]; decide, by simp⟩
  refine ⟨e, ?_⟩
  have hr : RisK Ltr.N [b] := (chkL_zero.1 h.chkb).2.2
  have hn : hasK Ltr.N [b] a.N = false := (keepE_zero.1 e).2.2.1
  unfold keepL
  rw [if_pos e, ← insK_parts hr hn]
  have h1 : decide (b.N < a.N) = false := decide_eq_false (by rw [h.an, h.bn]; decide)
  simp [h1]
theorem Two.keep2 : keepE [a, b] b = 181 ∧ keepL [a, b] b = [] := by
  have e : keepE [a, b] b = 181 := by
    unfold keepE
    have h1 : hasK Ltr.N [a, b] b.N = true := by
      cases hh : hasK Ltr.N [a, b] b.N with
      | true => rfl
      | false => exact absurd rfl (hasK_not.1 hh b (by simp))
    rw [if_neg (by rw [h.chk]; simp), if_neg (by rw [h.bg]; simp), if_pos h1]
  exact ⟨e, by unfold keepL; rw [if_neg (by rw [e]; decide)]⟩
theorem Two.fnd : fndK [a, b] 3 = some a ∧ fndK [b] 3 = none := by
  have h1 := h.an
  have h2 := h.bn
  refine ⟨?_, ?_⟩
  · unfold fndK
    rw [List.find?_cons_of_pos (by simp [h1])]
  · unfold fndK
    rw [List.find?_cons_of_neg (by simp [h2])]
    rfl
theorem Two.out : outK [a, b] 3 = [b] := by
  have h1 := h.an
  have h2 := h.bn
  unfold outK
  rw [List.filter_cons_of_neg (by simp [h1]), List.filter_cons_of_pos (by simp [h2])]
  rfl
theorem Two.use : ∃ c0 d0 c1 d1 c2 d2, useF (chkB a.L a.K a.P a.Q a.T) a.K a.P a.Q 4 5 1 2 3 = (c0, d0, c1, d1, c2, d2, 0) := by
  unfold useF
  rw [if_pos h.ac, if_pos (by decide), if_pos (by decide)]
  exact ⟨_, _, _, _, _, _, rfl⟩
theorem Two.send1 {c0 d0 c1 d1 c2 d2 : Int} (hU : useF (chkB a.L a.K a.P a.Q a.T) a.K a.P a.Q 4 5 1 2 3 = (c0, d0, c1, d1, c2, d2, 0)) : sendF [a, b] 3 4 5 1 2 3 = ([b], (c0, d0, c1, d1, c2, d2), 0) := by
  unfold sendF
  rw [if_neg (by rw [h.chk]; simp), h.fnd.1]
  dsimp only
  rw [hU]
  dsimp only
  rw [if_neg (by decide), h.out]
theorem Two.send2 : sendF [b] 3 4 5 1 2 3 = ([], (0, 0, 0, 0, 0, 0), 1) := by
  unfold sendF
  rw [if_neg (by rw [h.chkb]; simp), h.fnd.2]
theorem Two.burn1 : burnE [a, b] 9 = 0 ∧ burnL [a, b] 9 = [b] ∧ burnB [a, b] 9 = ⟨rootB [txK a, txK b], rootB [txK b], [3]⟩ := by
  have e : burnE [a, b] 9 = 0 := burnE_zero.2 ⟨h.chk, by decide, by decide⟩
  have h1 := h.au
  have h2 := h.bu
  have s : stayK [a, b] 9 = [b] := by
    unfold stayK
    rw [List.filter_cons_of_neg (by simp [h1]), List.filter_cons_of_pos (by simp [h2])]
    rfl
  have g : goneK [a, b] 9 = [3] := by
    unfold goneK
    rw [List.filter_cons_of_pos (by simp [h1]), List.filter_cons_of_neg (by simp [h2]), List.filter_nil, List.map_cons, List.map_nil, h.an]
  refine ⟨e, ?_, ?_⟩
  · unfold burnL; rw [if_pos e, s]
  · unfold burnB; rw [if_pos e, s, g]; rfl
theorem Two.burn2 : burnE [a, b] (-1) = 1 ∧ burnL [a, b] (-1) = [] ∧ burnB [a, b] (-1) = noBrn := by
  have e : burnE [a, b] (-1) = 1 := by
    unfold burnE
    rw [if_neg (by rw [h.chk]; simp), if_pos (by decide)]
  refine ⟨e, ?_, ?_⟩
  · unfold burnL; rw [if_neg (by rw [e]; decide)]
  · unfold burnB; rw [if_neg (by rw [e]; decide)]
theorem Two.root : rootF45 [a, b] = rootB [txK a, txK b] ∧ rootF45 [b] = rootB [txK b] ∧ rootF45 [] = rootB [] := by
  refine ⟨?_, ?_, ?_⟩
  · unfold rootF45; rw [if_pos h.chk]; rfl
  · unfold rootF45; rw [if_pos h.chkb]; rfl
  · unfold rootF45; rw [if_pos chkL_nil]; rfl
theorem Two.ver1 : verB [a, b] [b] 9 ⟨rootB [txK a, txK b], rootB [txK b], [3]⟩ = true := by
  unfold verB brnB
  rw [h.burn1.1, h.burn1.2.1, h.burn1.2.2, h.chkb]
  simp
theorem Two.ver2 (x : Brn) : verB [a, b] [a, b] 9 x = false := by
  unfold verB
  rw [h.burn1.1, h.burn1.2.1, h.chk, decide_eq_false (show ¬ [b] = [a, b] from by simp)]
  simp
theorem Two.ver3 (x : Brn) : verB [a, b] [b] 10 x = false := by
  have e : burnE [a, b] 10 = 0 := burnE_zero.2 ⟨h.chk, by decide, by decide⟩
  have s : stayK [a, b] 10 = [] := by
    have h1 := h.au
    have h2 := h.bu
    unfold stayK
    rw [List.filter_cons_of_neg (by simp [h1]), List.filter_cons_of_neg (by simp [h2])]
    rfl
  have e2 : burnL [a, b] 10 = [] := by unfold burnL; rw [if_pos e, s]
  unfold verB
  rw [e, e2, h.chkb, decide_eq_false (show ¬ ([] : List Ltr) = [b] from by simp)]
  simp
end
theorem keep0 : keepE [] zLtr = 450 ∧ keepL [] zLtr = [] := by
  have e : keepE [] zLtr = 450 := by
    unfold keepE
    rw [if_neg (by rw [chkL_nil]; simp), if_pos zLtr_no]
  exact ⟨e, by unfold keepL; rw [if_neg (by rw [e]; decide)]⟩
end Frk

/- Law 45: steps for the walk of the examples and of the laws. -/
namespace Frk
open Go Go.RowKit Go.Proofs
set_option maxRecDepth 100000

theorem eqItems_k {P : Program} (d : Nat) (e : TypeId) (c : Nat) (xs ys : Array Value) (i : Nat) (is : List Nat) (w : World) (a b : Value) (ha : (part e xs (i * c)).run P w = .ok a w) (hb : (part e ys (i * c)).run P w = .ok b w) (hr : (Op.equalIn d e a b).run P w = .ok true w) :
    (Op.eqItems d e c xs ys (i :: is)).run P w = (Op.eqItems d e c xs ys is).run P w := by
  rw [Op.eqItems]
  simp only [Sem.run_bind, ha, hb, hr, Result.andThen_ok]
  rfl
theorem eqSe_k (x0 x1 x2 x3 x4 x5 : Int) (w : World) : (Op.equalIn 10000 44 (.agg #[.int .i64 x0, .int .i64 x1, .int .i64 x2, .int .i64 x3, .int .i64 x4, .int .i64 x5]) (.agg #[.int .i64 x0, .int .i64 x1, .int .i64 x2, .int .i64 x3, .int .i64 x4, .int .i64 x5])).run Tryz.prog w = .ok true w := by
  have aC := Tryz.isAgg24
  have zC := Tryz.sizeOf24
  have c2 : Tryz.prog.cellsOf 24 = 2 := by kernel_rfl
  obtain ⟨i0, hi⟩ : ∃ i, Tryz.prog.info? 24 = some i := by
    cases h : Tryz.prog.info? 24 with
    | none => have : (Tryz.prog.info? 24).isSome = true := by kernel_rfl
              rw [h] at this; cases this
    | some i => exact ⟨i, rfl⟩
  have e : ∀ a b : Int, (Op.equalIn 9999 24 (.agg #[.int .i64 a, .int .i64 b]) (.agg #[.int .i64 a, .int .i64 b])).run Tryz.prog w = .ok true w := fun a b => by
    rw [show (9999 : Nat) = 9997 + 1 + 1 from rfl, eqCi_k 9997 a b a b w]; simp
  have p0 : (part 24 #[.int .i64 x0, .int .i64 x1, .int .i64 x2, .int .i64 x3, .int .i64 x4, .int .i64 x5] (0 * 2)).run Tryz.prog w = .ok (.agg #[.int .i64 x0, .int .i64 x1]) w := by simp [part, aC, zC]
  have p1 : (part 24 #[.int .i64 x0, .int .i64 x1, .int .i64 x2, .int .i64 x3, .int .i64 x4, .int .i64 x5] (1 * 2)).run Tryz.prog w = .ok (.agg #[.int .i64 x2, .int .i64 x3]) w := by simp [part, aC, zC]
  have p2 : (part 24 #[.int .i64 x0, .int .i64 x1, .int .i64 x2, .int .i64 x3, .int .i64 x4, .int .i64 x5] (2 * 2)).run Tryz.prog w = .ok (.agg #[.int .i64 x4, .int .i64 x5]) w := by simp [part, aC, zC]
  rw [show (10000 : Nat) = 9999 + 1 from rfl, run_equalIn_array w 9999 _ _ Tryz.underlying44 hi, show List.range 3 = [0, 1, 2] from rfl, c2,
    eqItems_k _ _ _ _ _ _ _ _ _ _ p0 p0 (e _ _), eqItems_k _ _ _ _ _ _ _ _ _ _ p1 p1 (e _ _), eqItems_k _ _ _ _ _ _ _ _ _ _ p2 p2 (e _ _)]
  rw [Op.eqItems]
  rfl

/-- two new variables, written one after the other -/
theorem newv2 (w : World) (Z1 Z2 : Array Value) (D1 D2 : List Value) (t1 t2 : TypeId) : ∃ V, Below w.heap.size w V ∧ ((w.alloc (.cells Z1 t1)).alloc (.cells Z2 t2)).heap[w.heap.size]? = some (.cells Z1 t1 (0, 0)) ∧ (((w.alloc (.cells Z1 t1)).alloc (.cells Z2 t2)).setRow w.heap.size D1.toArray).heap[w.heap.size + 1]? = some (.cells Z2 t2 (0, 0)) ∧
    (((w.alloc (.cells Z1 t1)).alloc (.cells Z2 t2)).setRow w.heap.size D1.toArray).setRow (w.heap.size + 1) D2.toArray = V ∧ Ko V (fun W => W.rangeAt w.heap.size 0 D1) ∧ Ko V (fun W => W.rangeAt (w.heap.size + 1) 0 D2) := by
  obtain ⟨A, hA⟩ : ∃ A, A = (w.alloc (.cells Z1 t1)).alloc (.cells Z2 t2) := ⟨_, rfl⟩
  have h1 : A.heap[w.heap.size]? = some (.cells Z1 t1 (0, 0)) := by rw [hA]; exact heap_alloc2_old w _ _
  have h2 : A.heap[w.heap.size + 1]? = some (.cells Z2 t2 (0, 0)) := by rw [hA]; exact heap_alloc2_new w _ _
  have hb : Below w.heap.size w A := by rw [hA]; exact ((Below.refl _ w).alloc (Nat.le_refl _) _).alloc (by simp) _
  rw [← hA]
  have h3 : (A.setRow w.heap.size D1.toArray).heap[w.heap.size + 1]? = some (.cells Z2 t2 (0, 0)) := (setRow_other A w.heap.size (w.heap.size + 1) _ (by omega)).trans h2
  have h4 : (A.setRow w.heap.size D1.toArray).heap[w.heap.size]? = some (.cells D1.toArray t1 (0, 0)) := setRow_heap _ _ _ _ _ _ h1
  have h5 : ((A.setRow w.heap.size D1.toArray).setRow (w.heap.size + 1) D2.toArray).heap[w.heap.size]? = some (.cells D1.toArray t1 (0, 0)) := (setRow_other (A.setRow w.heap.size D1.toArray) (w.heap.size + 1) w.heap.size _ (by omega)).trans h4
  exact ⟨_, below_row (below_row hb (Nat.le_refl _) _) (by omega) _, h1, h3, rfl, fun W hW => rangeAt_below' (rangeAt_row h5) hW, fun W hW => rangeAt_below' (rangeAt_row (setRow_heap _ _ _ _ _ _ h3)) hW⟩
/-- a literal slice of kept letters -/
theorem litk (w : World) (l : List Ltr) (Cs : List (List Value)) (hCs : Cs = l.map Ltr.C) (hl : ∀ x ∈ l, x.C.length = 38) (hn : l.length ≤ 5000) : ∃ V g, g = w.heap.size ∧ w.alloc (.cells Cs.flatten.toArray 30) = V ∧ Below w.heap.size w V ∧ Ko V (fun W => IsC Ltr.C 38 W (some ⟨g, 0, none⟩) l.length l.length l) :=
  ⟨_, _, rfl, rfl, below_alloc _ _, fun W hW => by
    have e : Cs.flatten = l.flatMap Ltr.C := by rw [hCs, List.flatMap_def]
    have h := heap_alloc_new w (.cells Cs.flatten.toArray 30)
    exact IsC.below ⟨rfl, Nat.le_refl _, hn, by omega, hl, .inr ⟨_, 0, rfl, by rw [← e]; exact rangeAt_row h, (Array.getElem?_eq_some_iff.1 h).1⟩⟩ hW⟩
theorem sendPost_c {L : List Ltr} {S : Z6} {x : Int} {w w' : World} {e : Ending} (h : SendPost (L, S, x) w e w') : ∃ a n c, e = .returned (.tuple #[.slice a n c, .agg (six S).toArray, .int .i64 x]) ∧ Seal (IsC Ltr.C 38 w' a n c L) ∧ Below w.heap.size w w' := by
  obtain ⟨a, c, e1, h1, h2⟩ := h
  exact ⟨a, _, c, e1, h1, h2⟩
theorem burnPost_c {L : List Ltr} {b : Brn} {x : Int} {w w' : World} {e : Ending} (h : BurnPost L b x w e w') : ∃ a n c v, e = .returned (.tuple #[.slice a n c, .agg (brC b v).toArray, .int .i64 x]) ∧ Seal (IsC Ltr.C 38 w' a n c L ∧ GoneAt w' v b.G) ∧ Below w.heap.size w w' := by
  obtain ⟨a, c, v, e1, h1, h2⟩ := h
  exact ⟨a, _, c, v, e1, h1, h2⟩
theorem brAt_range {W : World} {g : Nat} {b : Brn} {v : Value} (h1 : b.B.length = 32) (h2 : b.A.length = 32) (hr : W.rangeAt g 0 (brC b v)) : BrAt W g b v := by
  have e0 : (brC b v).take 32 = b.B.map B := by unfold brC; exact List.take_left' (by rw [List.length_map, h1])
  have e1 : (brC b v).drop 32 = b.A.map B ++ [v] := by unfold brC; exact List.drop_left' (by rw [List.length_map, h1])
  have r0 := rangeAt_take hr 32
  rw [e0] at r0
  have r1 := rangeAt_drop hr 32
  rw [e1, Nat.zero_add] at r1
  have r2 := rangeAt_take r1 32
  rw [List.take_left' (by rw [List.length_map, h2])] at r2
  refine ⟨r0, r2, ?_, hr⟩
  have := r1 32 v (by rw [List.getElem?_append_right (by rw [List.length_map, h2]; exact Nat.le_refl _), List.length_map, h2]; rfl)
  simpa using this
theorem zero_intK (w : World) : (zeroValue 3).run Tryz.prog w = .ok (.int .i64 0) w := by kernel_rfl
theorem size_intK (w : World) : (Go.sizeOf 3).run Tryz.prog w = .ok 1 w := by kernel_rfl
theorem isBs_nil (w : World) : IsBs w none 0 0 [] := ⟨rfl, Nat.le_refl _, by decide, by decide, .inl rfl⟩
/-- a literal slice of one number -/
theorem lit1 (w : World) (x : Int) : ∃ V g, g = w.heap.size ∧ w.alloc (.cells #[Value.int .i64 x] 3) = V ∧ Below w.heap.size w V ∧ IsIs V (some ⟨g, 0, none⟩) 1 1 [x] :=
  ⟨_, _, rfl, rfl, below_alloc _ _, ⟨rfl, Nat.le_refl _, by decide, by decide, fun _ _ => rfl, .inr ⟨_, 0, rfl, rangeAt_row (cs := [Value.int .i64 x]) (heap_alloc_new w _), (Array.getElem?_eq_some_iff.1 (heap_alloc_new w _)).1⟩⟩⟩
theorem exec_lit1 {ρ : Operand → Value} {op : Oper} {y : Operand} (ho : op.op = .buildSlice 48 1 #[(0, y)]) (x : Int) (hy : ρ y = .int .i64 x) (w : World) :
    (execOp ρ op).run Tryz.prog w = .ok (.value (.slice (some ⟨w.heap.size, 0, none⟩) 1 1)) (w.alloc (.cells #[.int .i64 x] 3)) := by
  have u := Tryz.underlying48
  have z := zero_intK w
  have s := size_intK w
  unfold execOp
  rw [ho]
  simp only
  go_simp
theorem ko_isC {α : Type} {C : α → List Value} {z : Nat} {w : World} {a : Option Addr} {n c : Nat} {l : List α} (h : IsC C z w a n c l) : Ko w (fun W => IsC C z W a n c l) := fun _ hW => h.below hW
theorem ko_gone {w : World} {v : Value} {G : List Int} (h : GoneAt w v G) : Ko w (fun W => GoneAt W v G) := fun _ hW => h.below hW
theorem brn_all {b : Brn} {v : Value} (h : ∃ a c, v = .slice a b.G.length c) : (brC b v).toArray.all (·.oneCell') = true := all_oneCell_toArray (brC_one _ (by obtain ⟨a, c, e⟩ := h; rw [e]; rfl))
theorem GoneAt.form {w : World} {v : Value} {G : List Int} (h : GoneAt w v G) : ∃ a c, v = .slice a G.length c := by
  obtain ⟨a, c, e, _⟩ := h
  exact ⟨a, c, e⟩
end Frk

