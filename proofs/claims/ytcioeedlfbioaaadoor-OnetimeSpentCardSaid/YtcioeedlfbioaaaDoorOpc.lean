/- The statement OnetimeSpent of frankinglaw16 holds: for every input the law returns true, and each argument reads afterwards as it read before. Conditions: those of the row (the listed variables start as the program's text lays them; the card ties them). -/
import Derived.Test.YtcioeedlfbioaaaDoorLou
import Derived.Test.YtcioeedlfbioaaaDoorHol
namespace Frk
open Go Go.RowKit Go.Proofs
set_option maxRecDepth 100000

theorem wpList_wanted {P : Program} {ops : Array Oper} {rest : List Oper} {o : Oper} {a : Act} {w : World} {Q : Exit → Act → World → Prop} (hw : Region.wanted o (yielded ops a.tmps) = true)
    (h : ∀ K : Act → World → Prop, (∀ a w, wpList P ops Q rest a w → K a w) → o.wp P a w K Q) : wpList P ops Q (o :: rest) a w :=
  wpList_step fun K hK => by simp only [hw, if_true]; exact h K hK

/-- a long load under a guard that holds -/
theorem wpList_load_row_g {P : Program} {ops : Array Oper} {rest : List Oper} {o : Oper} {a : Act} {w : World} {Q : Exit → Act → World → Prop} (hw : Region.wanted o (yielded ops a.tmps) = true) (ty : TypeId) (x : Operand) (ho : o.op = .load ty x)
    (g : Nat) (hx : a.eval x = .pointer (some ⟨g, 0, none⟩)) (t : TypeId) (cs : Array Value) (fr : Nat × Nat) (d : TypeDesc) (hg : w.heap[g]? = some (.cells cs t fr))
    (hu : P.underlying ty = some d) (hd : (match d with | .struct _ | .array _ _ => true | _ => false) = true) (hi : (P.info? ty).map (·.size) = some cs.size)
    (h : wpList P ops Q rest (a.put o.dst (.agg cs)) w) : wpList P ops Q (o :: rest) a w :=
  wpList_wanted hw fun _ hK => wp_load_row ty x ho g hx t cs fr d hg hu hd hi (hK _ _ h)

/-- a long load out of the midst of a block under a guard that holds -/
theorem wpList_load_mid_g {P : Program} {ops : Array Oper} {rest : List Oper} {o : Oper} {a : Act} {w : World} {Q : Exit → Act → World → Prop} (hw : Region.wanted o (yielded ops a.tmps) = true) (ty : TypeId) (x : Operand) (ho : o.op = .load ty x)
    (b off : Nat) (hx : a.eval x = .pointer (some ⟨b, off, none⟩)) (cs : List Value) (d : TypeDesc) (hc : w.rangeAt b off cs)
    (hu : P.underlying ty = some d) (hd : d.isRow = true) (hi : (P.info? ty).map (·.size) = some cs.length)
    (h : wpList P ops Q rest (a.put o.dst (.agg cs.toArray)) w) : wpList P ops Q (o :: rest) a w :=
  wpList_wanted hw fun _ hK => wp_load_mid ty x ho b off hx cs d hc hu hd hi (hK _ _ h)

theorem spent_many (A B2 : Array Value) (s : Option Addr) (len cap : Nat) (l : List Bytes) (w : World) (hG : Glob w) (hm : (len : Int) ≤ 9223372036854775807) (hx : ¬ (len : Int) ≤ 40) :
    Calls Tryd.prog 6 #[.slice s len cap, .agg A, .agg B2] w fun e w' => e = .returned (.bool true) ∧ Below w.heap.size w w' := by
  obtain ⟨X, hX⟩ : ∃ X : World, X = (w.alloc (.cells A 27)).alloc (.cells B2 27) := ⟨_, rfl⟩
  have HB1 : Seal (Below w.heap.size w X) := ⟨by rw [hX]; exact ((Below.refl _ w).alloc (Nat.le_refl _) _).alloc (by simp) _⟩
  have HG : Seal (Glob X) := ⟨hG.below HB1.out⟩
  have _ := l
  have ht : decide ((len : Int) ≤ 40) = false := decide_eq_false hx
  go_enter Tryd.func6, Tryd.ntmps6
  go_wp2_with fail
  rw [← hX]
  clear hX
  refine (osane_any _ HG.out).mono ?_
  rintro e w2 ⟨rfl, hb⟩
  have HB2 := Seal.mk (HB1.out.trans (hb.mono HB1.out.size))
  clear hb
  go_wp2_with fail
  refine (rfew_any s len cap false w2 hm ht).mono ?_
  rintro e w3 ⟨rfl, rfl⟩
  go_wp2
  go_ret
  exact ⟨rfl, HB2.out⟩
theorem spent_mess (A B2 : Array Value) (s : Option Addr) (len cap : Nat) (l : List Bytes) (w : World) (hG : Glob w) (hm : (len : Int) ≤ 9223372036854775807) (hd : IsD w s len cap l) (hx : (len : Int) ≤ 40) (hu : usedB l = false) :
    Calls Tryd.prog 6 #[.slice s len cap, .agg A, .agg B2] w fun e w' => e = .returned (.bool true) ∧ Below w.heap.size w w' := by
  obtain ⟨X, hX⟩ : ∃ X : World, X = (w.alloc (.cells A 27)).alloc (.cells B2 27) := ⟨_, rfl⟩
  have HB1 : Seal (Below w.heap.size w X) := ⟨by rw [hX]; exact ((Below.refl _ w).alloc (Nat.le_refl _) _).alloc (by simp) _⟩
  have HG : Seal (Glob X) := ⟨hG.below HB1.out⟩
  have ht : decide ((len : Int) ≤ 40) = true := decide_eq_true hx
  have HD := Seal.mk hd
  clear hd
  go_enter Tryd.func6, Tryd.ntmps6
  go_wp2_with fail
  rw [← hX]
  clear hX
  refine (osane_any _ HG.out).mono ?_
  rintro e w2 ⟨rfl, hb⟩
  have HB2 := Seal.mk (HB1.out.trans (hb.mono HB1.out.size))
  clear hb
  go_wp2_with fail
  refine (rfew_any s len cap true w2 hm ht).mono ?_
  rintro e w3 ⟨rfl, rfl⟩
  go_wp2_with fail
  refine (rused_any s len cap l _ (HD.out.of_heap HB2.out)).mono ?_
  rintro e w4 ⟨rfl, hb⟩
  have HB3 := Seal.mk (HB2.out.trans (hb.mono HB2.out.size))
  clear hb
  rw [hu]
  go_wp2
  go_ret
  exact ⟨rfl, HB3.out⟩

set_option maxHeartbeats 1000000 in
theorem spent_one (C D : List Value) (T U : Bytes) (s : Option Addr) (len cap : Nat) (l : List Bytes) (w : World) (hG : Glob w) (hd : IsD w s len cap l) (hx : (len : Int) ≤ 40) (hu : usedB l = true)
    (IC : Seal ((Tryd.prog.info? 27).map (·.size) = some C.toArray.size)) (ID : Seal ((Tryd.prog.info? 27).map (·.size) = some D.toArray.size))
    (HC : Seal (∀ W, Glob W → Calls Tryd.prog 16 #[.agg C.toArray] W fun e' w' => e' = .returned (.int .i64 160) ∧ Below W.heap.size W w'))  :
    Calls Tryd.prog 6 #[.slice s len cap, .agg C.toArray, .agg D.toArray] w fun e w' => e = .returned (.bool true) ∧ Below w.heap.size w w' := by
  have HE0 : Seal (Env ((w.alloc (.cells C.toArray 27)).alloc (.cells D.toArray 27)) none 0 0 [] [(w.heap.size + 1, .cells D.toArray 27), (w.heap.size, .cells C.toArray 27)]) := ⟨by
    have h := Env.push (Env.push (bs := []) ⟨hG, isB_nil w, by intro p hp; cases hp⟩ (.cells C.toArray 27)) (.cells D.toArray 27)
    simp only [size_alloc] at h
    exact h⟩
  have HB1 : Seal (Below w.heap.size w ((w.alloc (.cells C.toArray 27)).alloc (.cells D.toArray 27))) := ⟨((Below.refl _ w).alloc (Nat.le_refl _) _).alloc (by simp) _⟩
  have ht : decide ((len : Int) ≤ 40) = true := decide_eq_true hx
  have HD := Seal.mk hd
  have _ := ID
  have _ := T
  have _ := U
  clear hG hd
  go_enter Tryd.func6, Tryd.ntmps6
  go_wp2_with fail
  refine (osane_any _ HE0.out.glob).mono ?_
  rintro e1 w2 ⟨rfl, hb⟩
  have HE2 := Seal.mk (HE0.out.below hb)
  have HB2 := Seal.mk (HB1.out.trans (hb.mono HB1.out.size))
  clear hb HE0 HB1
  go_wp2_with fail
  refine (rfew_any s len cap true w2 (by omega) ht).mono ?_
  rintro e1 w3 ⟨rfl, rfl⟩
  go_wp2_with fail
  refine (rused_any s len cap l _ (HD.out.of_heap HB2.out)).mono ?_
  rintro e1 w3 ⟨rfl, hb⟩
  rw [hu]
  have HE3 := Seal.mk (HE2.out.below hb)
  have HB3 := Seal.mk (HB2.out.trans (hb.mono HB2.out.size))
  clear hb HE2 HB2
  have R1 := Seal.mk (HE3.out.keep (w.heap.size, .cells C.toArray 27) (by simp))
  go_wp2_with (refine wpList_load_row_g (by rfl) 27 (.tmp 4) rfl (w.heap.size) rfl 27 C.toArray (0, 0) _ R1.out Tryd.underlying27 rfl IC.out ?_)
  refine (HC.out _ HE3.out.glob).mono ?_
  rintro e1 w4 ⟨rfl, hb⟩
  have HE4 := Seal.mk (HE3.out.below hb)
  have HB4 := Seal.mk (HB3.out.trans (hb.mono HB3.out.size))
  clear hb HE3 HB3 R1
  go_wp2
  go_ret
  exact ⟨rfl, HB4.out⟩

set_option maxHeartbeats 1000000 in
theorem spent_two (C D : List Value) (T U : Bytes) (s : Option Addr) (len cap : Nat) (l : List Bytes) (w : World) (hG : Glob w) (hd : IsD w s len cap l) (hx : (len : Int) ≤ 40) (hu : usedB l = true)
    (IC : Seal ((Tryd.prog.info? 27).map (·.size) = some C.toArray.size)) (ID : Seal ((Tryd.prog.info? 27).map (·.size) = some D.toArray.size))
    (HC : Seal (∀ W, Glob W → Calls Tryd.prog 16 #[.agg C.toArray] W fun e' w' => e' = .returned (.int .i64 0) ∧ Below W.heap.size W w')) (HC2 : Seal (∀ W, Glob W → Calls Tryd.prog 16 #[.agg D.toArray] W fun e' w' => e' = .returned (.int .i64 160) ∧ Below W.heap.size W w')) :
    Calls Tryd.prog 6 #[.slice s len cap, .agg C.toArray, .agg D.toArray] w fun e w' => e = .returned (.bool true) ∧ Below w.heap.size w w' := by
  have HE0 : Seal (Env ((w.alloc (.cells C.toArray 27)).alloc (.cells D.toArray 27)) none 0 0 [] [(w.heap.size + 1, .cells D.toArray 27), (w.heap.size, .cells C.toArray 27)]) := ⟨by
    have h := Env.push (Env.push (bs := []) ⟨hG, isB_nil w, by intro p hp; cases hp⟩ (.cells C.toArray 27)) (.cells D.toArray 27)
    simp only [size_alloc] at h
    exact h⟩
  have HB1 : Seal (Below w.heap.size w ((w.alloc (.cells C.toArray 27)).alloc (.cells D.toArray 27))) := ⟨((Below.refl _ w).alloc (Nat.le_refl _) _).alloc (by simp) _⟩
  have ht : decide ((len : Int) ≤ 40) = true := decide_eq_true hx
  have HD := Seal.mk hd
  have _ := ID
  have _ := T
  have _ := U
  clear hG hd
  go_enter Tryd.func6, Tryd.ntmps6
  go_wp2_with fail
  refine (osane_any _ HE0.out.glob).mono ?_
  rintro e1 w2 ⟨rfl, hb⟩
  have HE2 := Seal.mk (HE0.out.below hb)
  have HB2 := Seal.mk (HB1.out.trans (hb.mono HB1.out.size))
  clear hb HE0 HB1
  go_wp2_with fail
  refine (rfew_any s len cap true w2 (by omega) ht).mono ?_
  rintro e1 w3 ⟨rfl, rfl⟩
  go_wp2_with fail
  refine (rused_any s len cap l _ (HD.out.of_heap HB2.out)).mono ?_
  rintro e1 w3 ⟨rfl, hb⟩
  rw [hu]
  have HE3 := Seal.mk (HE2.out.below hb)
  have HB3 := Seal.mk (HB2.out.trans (hb.mono HB2.out.size))
  clear hb HE2 HB2
  have R1 := Seal.mk (HE3.out.keep (w.heap.size, .cells C.toArray 27) (by simp))
  go_wp2_with (refine wpList_load_row_g (by rfl) 27 (.tmp 4) rfl (w.heap.size) rfl 27 C.toArray (0, 0) _ R1.out Tryd.underlying27 rfl IC.out ?_)
  refine (HC.out _ HE3.out.glob).mono ?_
  rintro e1 w4 ⟨rfl, hb⟩
  have HE4 := Seal.mk (HE3.out.below hb)
  have HB4 := Seal.mk (HB3.out.trans (hb.mono HB3.out.size))
  clear hb HE3 HB3 R1
  have R1 := Seal.mk (HE4.out.keep (w.heap.size + 1, .cells D.toArray 27) (by simp))
  go_wp2_with (refine wpList_load_row_g (by rfl) 27 (.tmp 5) rfl (w.heap.size + 1) rfl 27 D.toArray (0, 0) _ R1.out Tryd.underlying27 rfl ID.out ?_)
  refine (HC2.out _ HE4.out.glob).mono ?_
  rintro e1 w5 ⟨rfl, hb⟩
  have HB5 := Seal.mk (HB4.out.trans (hb.mono HB4.out.size))
  clear hb HE4 HB4 R1
  go_wp2
  go_ret
  exact ⟨rfl, HB5.out⟩

set_option maxHeartbeats 2000000 in
theorem spent_used (C D : List Value) (T U : Bytes) (s : Option Addr) (len cap : Nat) (l : List Bytes) (w : World) (hG : Glob w) (hd : IsD w s len cap l) (hx : (len : Int) ≤ 40) (hu : usedB l = true)
    (IC : Seal ((Tryd.prog.info? 27).map (·.size) = some C.toArray.size)) (ID : Seal ((Tryd.prog.info? 27).map (·.size) = some D.toArray.size))
    (HC : Seal (∀ W, Glob W → Calls Tryd.prog 16 #[.agg C.toArray] W fun e' w' => e' = .returned (.int .i64 0) ∧ Below W.heap.size W w')) (HC2 : Seal (∀ W, Glob W → Calls Tryd.prog 16 #[.agg D.toArray] W fun e' w' => e' = .returned (.int .i64 0) ∧ Below W.heap.size W w')) (RC : Seal (C.drop 4 = T.map B)) (RD : Seal (D.drop 4 = U.map B)) (HT : Seal (T.length = 32)) (HU : Seal (U.length = 32)) (HS : Seal (∀ (W : World) (a : Option Addr) (n c : Nat) (l' r : List Bytes) (x : Int), Glob W → IsD W a n c l' → Seal (spendF true l' T 160 = (r, x)) → Calls Tryd.prog 20 #[.slice a n c, .agg C.toArray] W (DigPost r x W))) (HS2 : Seal (∀ (W : World) (a : Option Addr) (n c : Nat) (l' r : List Bytes) (x : Int), Glob W → IsD W a n c l' → Seal (spendF true l' U 160 = (r, x)) → Calls Tryd.prog 20 #[.slice a n c, .agg D.toArray] W (DigPost r x W))) (r2 : List Bytes) (x2 : Int) (HR2 : Seal (spendF true l U 160 = (r2, x2))) (hh : hasB l T = true) (HR1 : Seal (spendF true l T 160 = ([], 161))) :
    Calls Tryd.prog 6 #[.slice s len cap, .agg C.toArray, .agg D.toArray] w fun e w' => e = .returned (.bool true) ∧ Below w.heap.size w w' := by
  have HE0 : Seal (Env ((w.alloc (.cells C.toArray 27)).alloc (.cells D.toArray 27)) none 0 0 [] [(w.heap.size + 1, .cells D.toArray 27), (w.heap.size, .cells C.toArray 27)]) := ⟨by
    have h := Env.push (Env.push (bs := []) ⟨hG, isB_nil w, by intro p hp; cases hp⟩ (.cells C.toArray 27)) (.cells D.toArray 27)
    simp only [size_alloc] at h
    exact h⟩
  have HB1 : Seal (Below w.heap.size w ((w.alloc (.cells C.toArray 27)).alloc (.cells D.toArray 27))) := ⟨((Below.refl _ w).alloc (Nat.le_refl _) _).alloc (by simp) _⟩
  have ht : decide ((len : Int) ≤ 40) = true := decide_eq_true hx
  have HD := Seal.mk hd
  have _ := ID
  have _ := T
  have _ := U
  clear hG hd
  go_enter Tryd.func6, Tryd.ntmps6
  go_wp2_with fail
  refine (osane_any _ HE0.out.glob).mono ?_
  rintro e1 w2 ⟨rfl, hb⟩
  have HE2 := Seal.mk (HE0.out.below hb)
  have HB2 := Seal.mk (HB1.out.trans (hb.mono HB1.out.size))
  clear hb HE0 HB1
  go_wp2_with fail
  refine (rfew_any s len cap true w2 (by omega) ht).mono ?_
  rintro e1 w3 ⟨rfl, rfl⟩
  go_wp2_with fail
  refine (rused_any s len cap l _ (HD.out.of_heap HB2.out)).mono ?_
  rintro e1 w3 ⟨rfl, hb⟩
  rw [hu]
  have HE3 := Seal.mk (HE2.out.below hb)
  have HB3 := Seal.mk (HB2.out.trans (hb.mono HB2.out.size))
  clear hb HE2 HB2
  have R1 := Seal.mk (HE3.out.keep (w.heap.size, .cells C.toArray 27) (by simp))
  go_wp2_with (refine wpList_load_row_g (by rfl) 27 (.tmp 4) rfl (w.heap.size) rfl 27 C.toArray (0, 0) _ R1.out Tryd.underlying27 rfl IC.out ?_)
  refine (HC.out _ HE3.out.glob).mono ?_
  rintro e1 w4 ⟨rfl, hb⟩
  have HE4 := Seal.mk (HE3.out.below hb)
  have HB4 := Seal.mk (HB3.out.trans (hb.mono HB3.out.size))
  clear hb HE3 HB3 R1
  have _ := RD
  have _ := HU
  obtain ⟨r1, hr1⟩ : ∃ r1 : List Bytes, r1 = [] := ⟨_, rfl⟩
  obtain ⟨x1, hx1⟩ : ∃ x1 : Int, x1 = 161 := ⟨_, rfl⟩
  rw [← hr1, ← hx1] at HR1
  have R1 := Seal.mk (HE4.out.keep (w.heap.size + 1, .cells D.toArray 27) (by simp))
  go_wp2_with (refine wpList_load_row_g (by rfl) 27 (.tmp 5) rfl (w.heap.size + 1) rfl 27 D.toArray (0, 0) _ R1.out Tryd.underlying27 rfl ID.out ?_)
  refine (HC2.out _ HE4.out.glob).mono ?_
  rintro e1 w5 ⟨rfl, hb⟩
  have HE5 := Seal.mk (HE4.out.below hb)
  have HB5 := Seal.mk (HB4.out.trans (hb.mono HB4.out.size))
  clear hb HE4 HB4 R1
  have R1 := Seal.mk (HE5.out.keep (w.heap.size, .cells C.toArray 27) (by simp))
  go_wp2_with (refine wpList_load_row rfl 27 (.tmp 4) rfl (w.heap.size) rfl 27 C.toArray (0, 0) _ R1.out Tryd.underlying27 rfl IC.out ?_)
  refine (HS.out _ s len cap l r1 x1 HE5.out.glob (HD.out.of_heap HB5.out) HR1).mono ?_
  rintro e1 w6 ⟨a1, n1, c1, rfl, D1, hb⟩
  have HE6 := Seal.mk (HE5.out.below hb)
  have HB6 := Seal.mk (HB5.out.trans (hb.mono HB5.out.size))
  clear hb HE5 HB5 R1
  have R1 := Seal.mk (HE6.out.keep (w.heap.size + 1, .cells D.toArray 27) (by simp))
  go_wp2_with (refine wpList_load_row rfl 27 (.tmp 5) rfl (w.heap.size + 1) rfl 27 D.toArray (0, 0) _ R1.out Tryd.underlying27 rfl ID.out ?_)
  refine (HS2.out _ s len cap l r2 x2 HE6.out.glob (HD.out.of_heap HB6.out) HR2).mono ?_
  rintro e1 w7 ⟨a2, n2, c2, rfl, D2, hb⟩
  have HE7 := Seal.mk (HE6.out.below hb)
  have HB7 := Seal.mk (HB6.out.trans (hb.mono HB6.out.size))
  have D1 := Seal.mk (D1.out.of_heap hb)
  clear hb HE6 HB6 R1
  subst hr1
  obtain rfl : n1 = 0 := D1.out.llen.symm
  clear D1 D2 HS HS2 HR1 HR2 HC HC2
  have rc : w7.rangeAt w.heap.size 4 (T.map B) := by
    have := rangeAt_drop (rangeAt_row (HE7.out.keep (w.heap.size, .cells C.toArray 27) (by simp))) 4
    rw [RC.out] at this
    simpa using this
  have i1 := dg_info T HT.out
  go_wp2_with (refine wpList_load_mid_g (by rfl) 25 (.tmp 62) rfl w.heap.size 4 rfl (T.map B) _ rc Tryd.underlying25 rfl i1 ?_)
  refine (rhas_any s len cap l T w7 (HD.out.of_heap HB7.out) HT.out).mono ?_
  rintro e1 w8 ⟨rfl, hb⟩
  rw [hh]
  have HB8 := Seal.mk (HB7.out.trans (hb.mono HB7.out.size))
  clear hb rc
  go_wp2
  go_ret
  exact ⟨rfl, HB8.out⟩

set_option maxHeartbeats 4000000 in
theorem spent_free (C D : List Value) (T U : Bytes) (s : Option Addr) (len cap : Nat) (l : List Bytes) (w : World) (hG : Glob w) (hd : IsD w s len cap l) (hx : (len : Int) ≤ 40) (hu : usedB l = true)
    (IC : Seal ((Tryd.prog.info? 27).map (·.size) = some C.toArray.size)) (ID : Seal ((Tryd.prog.info? 27).map (·.size) = some D.toArray.size))
    (HC : Seal (∀ W, Glob W → Calls Tryd.prog 16 #[.agg C.toArray] W fun e' w' => e' = .returned (.int .i64 0) ∧ Below W.heap.size W w')) (HC2 : Seal (∀ W, Glob W → Calls Tryd.prog 16 #[.agg D.toArray] W fun e' w' => e' = .returned (.int .i64 0) ∧ Below W.heap.size W w')) (RC : Seal (C.drop 4 = T.map B)) (RD : Seal (D.drop 4 = U.map B)) (HT : Seal (T.length = 32)) (HU : Seal (U.length = 32)) (HS : Seal (∀ (W : World) (a : Option Addr) (n c : Nat) (l' r : List Bytes) (x : Int), Glob W → IsD W a n c l' → Seal (spendF true l' T 160 = (r, x)) → Calls Tryd.prog 20 #[.slice a n c, .agg C.toArray] W (DigPost r x W))) (HS2 : Seal (∀ (W : World) (a : Option Addr) (n c : Nat) (l' r : List Bytes) (x : Int), Glob W → IsD W a n c l' → Seal (spendF true l' U 160 = (r, x)) → Calls Tryd.prog 20 #[.slice a n c, .agg D.toArray] W (DigPost r x W))) (r2 : List Bytes) (x2 : Int) (HR2 : Seal (spendF true l U 160 = (r2, x2))) (tu : Bool) (htu : (T == U) = tu) (hh : hasB l T = false) (HR1 : Seal (spendF true l T 160 = (putB l T, 0))) (r4 : List Bytes) (x4 : Int) (HR4 : Seal (spendF true (putB l T) U 160 = (r4, x4))) (HR3 : Seal (spendF true (putB l T) T 160 = ([], 161))) (r5 : List Bytes) (HF : Seal ((tu = true ∧ x4 = 161) ∨ (tu = false ∧ x2 = 161 ∧ x4 = 161) ∨ (tu = false ∧ x2 = 0 ∧ x4 = 0 ∧ spendF true r2 T 160 = (r5, 0) ∧ r4 = r5))) (HL : Seal ((putB l T).length = l.length + 1)) (HUs : usedB (putB l T) = true) (HHs : hasB (putB l T) T = true) (HHa : Seal (∀ x ∈ l, hasB (putB l T) x = true)) :
    Calls Tryd.prog 6 #[.slice s len cap, .agg C.toArray, .agg D.toArray] w fun e w' => e = .returned (.bool true) ∧ Below w.heap.size w w' := by
  have HE0 : Seal (Env ((w.alloc (.cells C.toArray 27)).alloc (.cells D.toArray 27)) none 0 0 [] [(w.heap.size + 1, .cells D.toArray 27), (w.heap.size, .cells C.toArray 27)]) := ⟨by
    have h := Env.push (Env.push (bs := []) ⟨hG, isB_nil w, by intro p hp; cases hp⟩ (.cells C.toArray 27)) (.cells D.toArray 27)
    simp only [size_alloc] at h
    exact h⟩
  have HB1 : Seal (Below w.heap.size w ((w.alloc (.cells C.toArray 27)).alloc (.cells D.toArray 27))) := ⟨((Below.refl _ w).alloc (Nat.le_refl _) _).alloc (by simp) _⟩
  have ht : decide ((len : Int) ≤ 40) = true := decide_eq_true hx
  have HD := Seal.mk hd
  have _ := ID
  have _ := T
  have _ := U
  clear hG hd
  go_enter Tryd.func6, Tryd.ntmps6
  go_wp2_with fail
  refine (osane_any _ HE0.out.glob).mono ?_
  rintro e1 w2 ⟨rfl, hb⟩
  have HE2 := Seal.mk (HE0.out.below hb)
  have HB2 := Seal.mk (HB1.out.trans (hb.mono HB1.out.size))
  clear hb HE0 HB1
  go_wp2_with fail
  refine (rfew_any s len cap true w2 (by omega) ht).mono ?_
  rintro e1 w3 ⟨rfl, rfl⟩
  go_wp2_with fail
  refine (rused_any s len cap l _ (HD.out.of_heap HB2.out)).mono ?_
  rintro e1 w3 ⟨rfl, hb⟩
  rw [hu]
  have HE3 := Seal.mk (HE2.out.below hb)
  have HB3 := Seal.mk (HB2.out.trans (hb.mono HB2.out.size))
  clear hb HE2 HB2
  have R1 := Seal.mk (HE3.out.keep (w.heap.size, .cells C.toArray 27) (by simp))
  go_wp2_with (refine wpList_load_row_g (by rfl) 27 (.tmp 4) rfl (w.heap.size) rfl 27 C.toArray (0, 0) _ R1.out Tryd.underlying27 rfl IC.out ?_)
  refine (HC.out _ HE3.out.glob).mono ?_
  rintro e1 w4 ⟨rfl, hb⟩
  have HE4 := Seal.mk (HE3.out.below hb)
  have HB4 := Seal.mk (HB3.out.trans (hb.mono HB3.out.size))
  clear hb HE3 HB3 R1
  obtain ⟨x1, hx1⟩ : ∃ x1 : Int, x1 = 0 := ⟨_, rfl⟩
  rw [← hx1] at HR1
  obtain ⟨r1, hr1⟩ : ∃ r1 : List Bytes, r1 = putB l T := ⟨_, rfl⟩
  rw [← hr1] at HR1 HR3 HR4 HL HUs HHs HHa
  clear hr1
  have R1 := Seal.mk (HE4.out.keep (w.heap.size + 1, .cells D.toArray 27) (by simp))
  go_wp2_with (refine wpList_load_row_g (by rfl) 27 (.tmp 5) rfl (w.heap.size + 1) rfl 27 D.toArray (0, 0) _ R1.out Tryd.underlying27 rfl ID.out ?_)
  refine (HC2.out _ HE4.out.glob).mono ?_
  rintro e1 w5 ⟨rfl, hb⟩
  have HE5 := Seal.mk (HE4.out.below hb)
  have HB5 := Seal.mk (HB4.out.trans (hb.mono HB4.out.size))
  clear hb HE4 HB4 R1
  have R1 := Seal.mk (HE5.out.keep (w.heap.size, .cells C.toArray 27) (by simp))
  go_wp2_with (refine wpList_load_row rfl 27 (.tmp 4) rfl (w.heap.size) rfl 27 C.toArray (0, 0) _ R1.out Tryd.underlying27 rfl IC.out ?_)
  refine (HS.out _ s len cap l r1 x1 HE5.out.glob (HD.out.of_heap HB5.out) HR1).mono ?_
  rintro e1 w6 ⟨a1, n1, c1, rfl, D1, hb⟩
  have HE6 := Seal.mk (HE5.out.below hb)
  have HB6 := Seal.mk (HB5.out.trans (hb.mono HB5.out.size))
  clear hb HE5 HB5 R1
  have R1 := Seal.mk (HE6.out.keep (w.heap.size + 1, .cells D.toArray 27) (by simp))
  go_wp2_with (refine wpList_load_row rfl 27 (.tmp 5) rfl (w.heap.size + 1) rfl 27 D.toArray (0, 0) _ R1.out Tryd.underlying27 rfl ID.out ?_)
  refine (HS2.out _ s len cap l r2 x2 HE6.out.glob (HD.out.of_heap HB6.out) HR2).mono ?_
  rintro e1 w7 ⟨a2, n2, c2, rfl, D2, hb⟩
  have HE7 := Seal.mk (HE6.out.below hb)
  have HB7 := Seal.mk (HB6.out.trans (hb.mono HB6.out.size))
  have D1 := Seal.mk (D1.out.of_heap hb)
  clear hb HE6 HB6 R1
  have hn1 : (n1 : Int) = (len : Int) + 1 := by rw [← D1.out.llen, HL.out, HD.out.llen]; omega
  have hwr : IntKind.i64.wrap ((len : Int) + 1) = (len : Int) + 1 := IntWalk.i64_in _ (by omega)
  have rc : w7.rangeAt w.heap.size 4 (T.map B) := by
    have := rangeAt_drop (rangeAt_row (HE7.out.keep (w.heap.size, .cells C.toArray 27) (by simp))) 4
    rw [RC.out] at this
    simpa using this
  have i1 := dg_info T HT.out
  go_wp2_with (refine wpList_load_mid rfl 25 (.tmp 67) rfl w.heap.size 4 rfl (T.map B) _ rc Tryd.underlying25 rfl i1 ?_)
  refine (rhas_any s len cap l T w7 (HD.out.of_heap HB7.out) HT.out).mono ?_
  rintro e1 w8 ⟨rfl, hb⟩
  rw [hh]
  have HE8 := Seal.mk (HE7.out.below hb)
  have HB8 := Seal.mk (HB7.out.trans (hb.mono HB7.out.size))
  have D1 := Seal.mk (D1.out.of_heap hb)
  have D2 := Seal.mk (D2.out.of_heap hb)
  clear hb HE7 HB7 rc
  go_wp2_with fail
  refine (rused_any a1 n1 c1 r1 w8 D1.out).mono ?_
  rintro e1 w9 ⟨rfl, hb⟩
  rw [HUs]
  have HE9 := Seal.mk (HE8.out.below hb)
  have HB9 := Seal.mk (HB8.out.trans (hb.mono HB8.out.size))
  have D1 := Seal.mk (D1.out.of_heap hb)
  have D2 := Seal.mk (D2.out.of_heap hb)
  clear hb HE8 HB8
  have rc : w9.rangeAt w.heap.size 4 (T.map B) := by
    have := rangeAt_drop (rangeAt_row (HE9.out.keep (w.heap.size, .cells C.toArray 27) (by simp))) 4
    rw [RC.out] at this
    simpa using this
  go_wp2_with (refine wpList_load_mid_g (by rfl) 25 (.tmp 85) rfl w.heap.size 4 rfl (T.map B) _ rc Tryd.underlying25 rfl i1 ?_)
  refine (rhas_any a1 n1 c1 r1 T w9 D1.out HT.out).mono ?_
  rintro e1 v0 ⟨rfl, hb⟩
  rw [HHs]
  have HE0 := Seal.mk (HE9.out.below hb)
  have HB0 := Seal.mk (HB9.out.trans (hb.mono HB9.out.size))
  have D1 := Seal.mk (D1.out.of_heap hb)
  have D2 := Seal.mk (D2.out.of_heap hb)
  clear hb HE9 HB9 rc HC HC2 hwr
  go_wp2_with fail
  go_loopw [92] (fun i wr => ∃ k : Nat, k ≤ len ∧ i = .int .i64 k ∧ Seal (Below v0.heap.size v0 wr)) (fun i _ => len - (intOf i).toNat)
  case atStart => exact ⟨0, by omega, rfl, ⟨Below.refl _ _⟩⟩
  case round =>
    obtain ⟨k, hk, rfl, hH⟩ := hrel
    have HB := Seal.mk (HB0.out.trans (hH.out.mono HB0.out.size))
    by_cases hlt : k < len
    · have HDr := HD.out.of_heap HB.out
      rcases HDr.at_ with h0 | ⟨g, off, rfl, hr, hg⟩
      · omega
      · obtain ⟨x, hx⟩ : ∃ x, x = l.getD k [] := ⟨_, rfl⟩
        have r1k := range_dg hr HDr.each (i := k) (by rw [HDr.llen]; exact hlt)
        have x32 := getD_len HDr.each (i := k) (by rw [HDr.llen]; exact hlt)
        have hxm : x ∈ l := by rw [hx, List.getD_eq_getElem?_getD, List.getElem?_eq_getElem (by rw [HDr.llen]; exact hlt)]; exact List.getElem_mem _
        rw [← hx] at r1k x32
        have hhx := HHa.out x hxm
        have i2 := dg_info x x32
        have i3 : (Tryd.prog.info? 25).map (·.size) = some (x.map B).toArray.size := by rw [List.size_toArray]; exact i2
        have l3 : ([.int .u8 0, .int .u8 0, .int .u8 0, .int .u8 0, .int .u8 0, .int .u8 0, .int .u8 0, .int .u8 0, .int .u8 0, .int .u8 0, .int .u8 0, .int .u8 0, .int .u8 0, .int .u8 0, .int .u8 0, .int .u8 0, .int .u8 0, .int .u8 0, .int .u8 0, .int .u8 0, .int .u8 0, .int .u8 0, .int .u8 0, .int .u8 0, .int .u8 0, .int .u8 0, .int .u8 0, .int .u8 0, .int .u8 0, .int .u8 0, .int .u8 0, .int .u8 0] : List Value).length = (x.map B).length := by rw [List.length_map, x32]; rfl
        have q5 : (k : Int) < (len : Int) := by omega
        have q6 : (0 : Int) ≤ (k : Int) := by omega
        have X32 := Seal.mk x32
        clear hr HDr hx x32 hxm HS HS2 HF
        go_wp2_with (first | (refine wpList_load_mid rfl 25 (.tmp 94) rfl g (off + k * 32) rfl (x.map B) _ r1k Tryd.underlying25 rfl i2 ?_) | (refine wpList_store_new rfl 25 (.tmp 12) (.tmp 95) rfl [.int .u8 0, .int .u8 0, .int .u8 0, .int .u8 0, .int .u8 0, .int .u8 0, .int .u8 0, .int .u8 0, .int .u8 0, .int .u8 0, .int .u8 0, .int .u8 0, .int .u8 0, .int .u8 0, .int .u8 0, .int .u8 0, .int .u8 0, .int .u8 0, .int .u8 0, .int .u8 0, .int .u8 0, .int .u8 0, .int .u8 0, .int .u8 0, .int .u8 0, .int .u8 0, .int .u8 0, .int .u8 0, .int .u8 0, .int .u8 0, .int .u8 0, .int .u8 0] (x.map B) 25 rfl rfl i2 l3 (digest_one x) ?_) | (refine wpList_load_row rfl 25 (.tmp 12) rfl wr.heap.size rfl 25 (x.map B).toArray (0, 0) _ (heap_alloc_new wr _) Tryd.underlying25 rfl i3 ?_))
        have HB2 : Seal (Below v0.heap.size v0 (wr.alloc (.cells (x.map B).toArray 25))) := ⟨hH.out.alloc hH.out.size _⟩
        refine (rhas_any a1 n1 c1 r1 x _ (D1.out.of_heap HB2.out) X32.out).mono ?_
        rintro e1 w3 ⟨rfl, hb⟩
        rw [hhx]
        have HB3 := Seal.mk (HB2.out.trans (hb.mono HB2.out.size))
        clear hb HB2
        go_wp2
        go_roundw
        case rel => exact ⟨k + 1, by omega, by go_num, ⟨HB3.out⟩⟩
        case measure => simp [intOf]; omega
    · have hlt' : ¬ (k : Int) < (len : Int) := by omega
      have HE := Seal.mk (HE0.out.below hH.out)
      have D1 := Seal.mk (D1.out.of_heap hH.out)
      have D2 := Seal.mk (D2.out.of_heap hH.out)
      clear hH HE0 HB0 HHa
      have R1 := Seal.mk (HE.out.keep (w.heap.size, .cells C.toArray 27) (by simp))
      go_wp2_with (refine wpList_load_row rfl 27 (.tmp 4) rfl (w.heap.size) rfl 27 C.toArray (0, 0) _ R1.out Tryd.underlying27 rfl IC.out ?_)
      refine (HS.out _ a1 n1 c1 r1 [] 161 HE.out.glob D1.out HR3).mono ?_
      rintro e1 v1 ⟨a3, n3, c3, rfl, D3, hb⟩
      have HE1 := Seal.mk (HE.out.below hb)
      have HB1 := Seal.mk (HB.out.trans (hb.mono HB.out.size))
      have D1 := Seal.mk (D1.out.of_heap hb)
      have D2 := Seal.mk (D2.out.of_heap hb)
      clear hb HE HB R1 D3
      have R1 := Seal.mk (HE1.out.keep (w.heap.size + 1, .cells D.toArray 27) (by simp))
      go_wp2_with (refine wpList_load_row rfl 27 (.tmp 5) rfl (w.heap.size + 1) rfl 27 D.toArray (0, 0) _ R1.out Tryd.underlying27 rfl ID.out ?_)
      refine (HS2.out _ a1 n1 c1 r1 r4 x4 HE1.out.glob D1.out HR4).mono ?_
      rintro e1 v2 ⟨a4, n4, c4, rfl, D4, hb⟩
      have HE2 := Seal.mk (HE1.out.below hb)
      have HB2 := Seal.mk (HB1.out.trans (hb.mono HB1.out.size))
      have D2 := Seal.mk (D2.out.of_heap hb)
      clear hb HE1 HB1 R1 D1
      have rc : v2.rangeAt w.heap.size 4 (T.map B) := by
        have := rangeAt_drop (rangeAt_row (HE2.out.keep (w.heap.size, .cells C.toArray 27) (by simp))) 4
        rw [RC.out] at this
        simpa using this
      have rd : v2.rangeAt (w.heap.size + 1) 4 (U.map B) := by
        have := rangeAt_drop (rangeAt_row (HE2.out.keep (w.heap.size + 1, .cells D.toArray 27) (by simp))) 4
        rw [RD.out] at this
        simpa using this
      have i2 := dg_info U HU.out
      have heq : ∀ W, (Op.equalIn 10000 25 (.agg (T.map B).toArray) (.agg (U.map B).toArray)).run Tryd.prog W = .ok tu W := fun W => by rw [← htu]; exact eqDig _ _ HT.out HU.out W
      have R1 := Seal.mk (HE2.out.keep (w.heap.size, .cells C.toArray 27) (by simp))
      clear htu HS2 HR4 HR3
      rcases HF.out with ⟨rfl, rfl⟩ | ⟨rfl, rfl, rfl⟩ | ⟨rfl, rfl, rfl, hs5, rfl⟩
      · clear HF HS
        go_wp2_with (first | (refine wpList_load_mid rfl 25 (.tmp 115) rfl w.heap.size 4 rfl (T.map B) _ rc Tryd.underlying25 rfl i1 ?_) | (refine wpList_load_mid rfl 25 (.tmp 117) rfl (w.heap.size + 1) 4 rfl (U.map B) _ rd Tryd.underlying25 rfl i2 ?_))
        go_ret
        exact ⟨rfl, HB2.out⟩
      · clear HF HS
        go_wp2_with (first | (refine wpList_load_mid rfl 25 (.tmp 115) rfl w.heap.size 4 rfl (T.map B) _ rc Tryd.underlying25 rfl i1 ?_) | (refine wpList_load_mid rfl 25 (.tmp 117) rfl (w.heap.size + 1) 4 rfl (U.map B) _ rd Tryd.underlying25 rfl i2 ?_))
        go_ret
        exact ⟨rfl, HB2.out⟩
      · have HR5 := Seal.mk hs5
        clear HF hs5
        go_wp2_with (first | (refine wpList_load_mid rfl 25 (.tmp 115) rfl w.heap.size 4 rfl (T.map B) _ rc Tryd.underlying25 rfl i1 ?_) | (refine wpList_load_mid rfl 25 (.tmp 117) rfl (w.heap.size + 1) 4 rfl (U.map B) _ rd Tryd.underlying25 rfl i2 ?_) | (refine wpList_load_row rfl 27 (.tmp 4) rfl (w.heap.size) rfl 27 C.toArray (0, 0) _ R1.out Tryd.underlying27 rfl IC.out ?_))
        refine (HS.out _ a2 n2 c2 r2 r4 0 HE2.out.glob D2.out HR5).mono ?_
        rintro e1 v3 ⟨a5, n5, c5, rfl, D5, hb⟩
        have HB3 := Seal.mk (HB2.out.trans (hb.mono HB2.out.size))
        have D4 := Seal.mk (D4.out.of_heap hb)
        clear hb HE2 HB2 R1 rc rd HS
        go_wp2_with fail
        refine (rsame_any a4 a5 n4 c4 n5 c5 r4 r4 v3 D4.out D5.out).mono ?_
        rintro e1 v4 ⟨rfl, hb⟩
        have HB4 := Seal.mk (HB3.out.trans (hb.mono HB3.out.size))
        rw [show (r4 == r4) = true from by simp]
        clear hb
        go_wp2
        go_ret
        exact ⟨rfl, HB4.out⟩

theorem spendF_used {l : List Bytes} {d : Bytes} (hu : usedB l = true) (h : hasB l d = true) : spendF true l d 160 = ([], 161) := by
  unfold spendF; rw [if_pos rfl, if_pos hu, if_pos h]
theorem spendF_ok {l : List Bytes} {d : Bytes} (hu : usedB l = true) (h : hasB l d = false) (hl : l.length < 4096) : spendF true l d 160 = (putB l d, 0) := by
  unfold spendF; rw [if_pos rfl, if_pos hu, if_neg (by rw [h]; decide), if_neg (by omega)]
theorem not_mem_of_has {l : List Bytes} {d : Bytes} (h : hasB l d = false) : d ∉ l := fun hm => by
  rw [(hasB_iff l d).2 hm] at h; cases h
theorem has_false {l : List Bytes} {d : Bytes} (h : d ∉ l) : hasB l d = false := by
  cases e : hasB l d with
  | false => rfl
  | true => exact absurd ((hasB_iff l d).1 e) h

theorem law_onetimeSpent (L K P Q L' K' P' Q' : Int) (T U : Bytes) (s : Option Addr) (len cap : Nat) (l : List Bytes) (w : World) (hG : Glob w) (hL : I64 L) (hK : I64 K) (hP : I64 P) (hQ : I64 Q) (hT : T.length = 32)
    (hL' : I64 L') (hK' : I64 K') (hP' : I64 P') (hQ' : I64 Q') (hU : U.length = 32) (hm : (len : Int) ≤ 9223372036854775807) (hd : len ≤ 1099511627776 → IsD w s len cap l) :
    Calls Tryd.prog 6 #[.slice s len cap, .agg (retC L K P Q T).toArray, .agg (retC L' K' P' Q' U).toArray] w fun e w' => e = .returned (.bool true) ∧ Below w.heap.size w w' := by
  by_cases hx : (len : Int) ≤ 40
  · have hD := hd (by omega)
    cases hu : usedB l with
    | false => exact spent_mess _ _ s len cap l w hG hm hD hx hu
    | true =>
      have IC : Seal ((Tryd.prog.info? 27).map (·.size) = some (retC L K P Q T).toArray.size) := ⟨by rw [List.size_toArray]; exact retC_info hT⟩
      have ID : Seal ((Tryd.prog.info? 27).map (·.size) = some (retC L' K' P' Q' U).toArray.size) := ⟨by rw [List.size_toArray]; exact retC_info hU⟩
      cases h1 : chkB L K P Q T with
      | false => exact spent_one (retC L K P Q T) (retC L' K' P' Q' U) T U s len cap l w hG hD hx hu IC ID ⟨fun W h => rocheck_any L K P Q T false W h hL hK hP hQ hT h1⟩
      | true =>
        have HC : Seal (∀ W, Glob W → Calls Tryd.prog 16 #[.agg (retC L K P Q T).toArray] W fun e' w' => e' = .returned (.int .i64 0) ∧ Below W.heap.size W w') := ⟨fun W h => rocheck_any L K P Q T true W h hL hK hP hQ hT h1⟩
        cases h2 : chkB L' K' P' Q' U with
        | false => exact spent_two (retC L K P Q T) (retC L' K' P' Q' U) T U s len cap l w hG hD hx hu IC ID HC ⟨fun W h => rocheck_any L' K' P' Q' U false W h hL' hK' hP' hQ' hU h2⟩
        | true =>
          have HC2 : Seal (∀ W, Glob W → Calls Tryd.prog 16 #[.agg (retC L' K' P' Q' U).toArray] W fun e' w' => e' = .returned (.int .i64 0) ∧ Below W.heap.size W w') := ⟨fun W h => rocheck_any L' K' P' Q' U true W h hL' hK' hP' hQ' hU h2⟩
          have HS : Seal (∀ (W : World) (a : Option Addr) (n c : Nat) (l' r : List Bytes) (x : Int), Glob W → IsD W a n c l' → Seal (spendF true l' T 160 = (r, x)) → Calls Tryd.prog 20 #[.slice a n c, .agg (retC L K P Q T).toArray] W (DigPost r x W)) :=
            ⟨fun W a n c l' r x h hi hs => ospend_any a n c l' r L K P Q x T W h hi hL hK hP hQ hT (by rw [h1]; exact hs)⟩
          have HS2 : Seal (∀ (W : World) (a : Option Addr) (n c : Nat) (l' r : List Bytes) (x : Int), Glob W → IsD W a n c l' → Seal (spendF true l' U 160 = (r, x)) → Calls Tryd.prog 20 #[.slice a n c, .agg (retC L' K' P' Q' U).toArray] W (DigPost r x W)) :=
            ⟨fun W a n c l' r x h hi hs => ospend_any a n c l' r L' K' P' Q' x U W h hi hL' hK' hP' hQ' hU (by rw [h2]; exact hs)⟩
          have RC : Seal ((retC L K P Q T).drop 4 = T.map B) := ⟨rfl⟩
          have RD : Seal ((retC L' K' P' Q' U).drop 4 = U.map B) := ⟨rfl⟩
          have hll := hD.llen
          obtain ⟨r2, x2, hR2⟩ : ∃ r2 x2, spendF true l U 160 = (r2, x2) := ⟨_, _, rfl⟩
          cases hh : hasB l T with
          | true => exact spent_used (retC L K P Q T) (retC L' K' P' Q' U) T U s len cap l w hG hD hx hu IC ID HC HC2 RC RD ⟨hT⟩ ⟨hU⟩ HS HS2 r2 x2 ⟨hR2⟩ hh ⟨spendF_used hu hh⟩
          | false =>
            have hTl := not_mem_of_has hh
            have huT := used_putB l T hu hTl
            have hhT : hasB (putB l T) T = true := (hasB_iff _ _).2 ((mem_putB l T T).2 (.inl rfl))
            have hlT : (putB l T).length = l.length + 1 := putB_length l T
            obtain ⟨r4, x4, hR4⟩ : ∃ r4 x4, spendF true (putB l T) U 160 = (r4, x4) := ⟨_, _, rfl⟩
            have key : ∃ r5, ((T == U) = true ∧ x4 = 161) ∨ ((T == U) = false ∧ x2 = 161 ∧ x4 = 161) ∨ ((T == U) = false ∧ x2 = 0 ∧ x4 = 0 ∧ spendF true r2 T 160 = (r5, 0) ∧ r4 = r5) := by
              by_cases hTU : T = U
              · subst hTU
                refine ⟨[], .inl ⟨by simp, ?_⟩⟩
                rw [spendF_used huT hhT] at hR4
                exact (Prod.mk.inj hR4).2.symm
              · have hb : (T == U) = false := by simpa using hTU
                cases hhU : hasB l U with
                | true =>
                  refine ⟨[], .inr (.inl ⟨hb, ?_, ?_⟩)⟩
                  · rw [spendF_used hu hhU] at hR2
                    exact (Prod.mk.inj hR2).2.symm
                  · rw [spendF_used huT ((hasB_iff _ _).2 ((mem_putB l T U).2 (.inr ((hasB_iff _ _).1 hhU))))] at hR4
                    exact (Prod.mk.inj hR4).2.symm
                | false =>
                  have hUl := not_mem_of_has hhU
                  rw [spendF_ok hu hhU (by omega)] at hR2
                  obtain ⟨e1, e2⟩ := Prod.mk.inj hR2
                  have hUT : U ∉ putB l T := fun h => by
                    rcases (mem_putB l T U).1 h with h | h
                    · exact hTU h.symm
                    · exact hUl h
                  have hTU' : T ∉ putB l U := fun h => by
                    rcases (mem_putB l U T).1 h with h | h
                    · exact hTU h
                    · exact hTl h
                  rw [spendF_ok huT (has_false hUT) (by omega)] at hR4
                  obtain ⟨e3, e4⟩ := Prod.mk.inj hR4
                  refine ⟨putB (putB l U) T, .inr (.inr ⟨hb, e2.symm, e4.symm, ?_, ?_⟩)⟩
                  · rw [← e1]
                    exact spendF_ok (used_putB l U hu hUl) (has_false hTU') (by rw [putB_length]; omega)
                  · rw [← e3]
                    exact putB_comm hu hTl hUl hTU
            obtain ⟨r5, key⟩ := key
            exact spent_free (retC L K P Q T) (retC L' K' P' Q' U) T U s len cap l w hG hD hx hu IC ID HC HC2 RC RD ⟨hT⟩ ⟨hU⟩ HS HS2 r2 x2 ⟨hR2⟩ _ rfl hh ⟨spendF_ok hu hh (by omega)⟩ r4 x4 ⟨hR4⟩ ⟨spendF_used huT hhT⟩ r5 ⟨key⟩ ⟨hlT⟩ huT hhT ⟨fun x hx => (hasB_iff _ _).2 ((mem_putB l T x).2 (.inr hx))⟩
  · exact spent_many _ _ s len cap l w hG hm hx
end Frk
namespace Go.Proofs.YtcioeedlfbioaaaDoor
open Go Go.RowKit Go.Proofs Go.ChangeShapes Go.WideShapes Go.ChangeAt Frk
set_option maxRecDepth 100000

theorem lifted (os : Os) (started : os.Started) (H : Type) (enc : TypeId × Value → H) :
    ReturnsInHanded {} Tryd.checked os 6 .any (fun w args => (Rows.onetimeSpentSpec.pre enc Tryd.prog Tryd.f6 [] false w args ∧ laidMetH Tryd.prog laid w) ∧ sizedMet enc Tryd.prog Tryd.f6 (OpenSpec.ofChange Rows.onetimeSpentSpec) false w args)
      (Rows.onetimeSpentSpec.post enc Tryd.prog Tryd.f6 false true false false) := by
  refine returnsInHanded_of_change_and (C := Tryd.checked) (X := fun w _ => laidMetH Tryd.prog laid w) (fun _ _ _ hh h => h.of_heap hh) own started (by kernel_rfl) Tryd.func6
    (ChangeSpec.witness_shaped (enc := enc) (C := Tryd.checked) (os := os) (X := fun w _ => laidMetH Tryd.prog laid w) false (World.doorLaid Tryd.prog 400 os) #[.slice none 0 0, .agg (List.toArray (.int .i64 0 :: .int .i64 0 :: .int .i64 0 :: .int .i64 0 :: .int .u8 0 :: .int .u8 0 :: .int .u8 0 :: .int .u8 0 :: .int .u8 0 :: .int .u8 0 :: .int .u8 0 :: .int .u8 0 :: .int .u8 0 :: .int .u8 0 :: .int .u8 0 :: .int .u8 0 :: .int .u8 0 :: .int .u8 0 :: .int .u8 0 :: .int .u8 0 :: .int .u8 0 :: .int .u8 0 :: .int .u8 0 :: .int .u8 0 :: .int .u8 0 :: .int .u8 0 :: .int .u8 0 :: .int .u8 0 :: .int .u8 0 :: .int .u8 0 :: .int .u8 0 :: .int .u8 0 :: .int .u8 0 :: .int .u8 0 :: .int .u8 0 :: .int .u8 0 :: []) : Array Value), .agg (List.toArray (.int .i64 0 :: .int .i64 0 :: .int .i64 0 :: .int .i64 0 :: .int .u8 0 :: .int .u8 0 :: .int .u8 0 :: .int .u8 0 :: .int .u8 0 :: .int .u8 0 :: .int .u8 0 :: .int .u8 0 :: .int .u8 0 :: .int .u8 0 :: .int .u8 0 :: .int .u8 0 :: .int .u8 0 :: .int .u8 0 :: .int .u8 0 :: .int .u8 0 :: .int .u8 0 :: .int .u8 0 :: .int .u8 0 :: .int .u8 0 :: .int .u8 0 :: .int .u8 0 :: .int .u8 0 :: .int .u8 0 :: .int .u8 0 :: .int .u8 0 :: .int .u8 0 :: .int .u8 0 :: .int .u8 0 :: .int .u8 0 :: .int .u8 0 :: .int .u8 0 :: []) : Array Value)] 8 rfl (World.shaped_of_RefB (by kernel_rfl) (by kernel_rfl)) (by kernel_rfl) (by kernel_rfl) (by kernel_rfl) (door_met os _)) ?_
  intro W base args ds gs before hval0 hW _ _ hL _
  have hval : ∀ (j : Nat) t v, Tryd.f6.params[j]? = some t → args[j]? = some v → Value.okWide Tryd.prog W .any base t v := hval0
  have hW' := hW
  obtain ⟨p, q, hA0, hV, rfl, hfz, hnd⟩ := hW
  have hA : DataW.TrodAll enc Tryd.prog W 0 (fun _ => true) true Tryd.f6.params.toList args.toList ds p := hA0
  rw [Tryd.params6] at hA hval
  obtain ⟨args⟩ := args
  obtain ⟨v0, vs0, d0, ds0, p0, q0, e0, rfl, rfl, h0, hr0⟩ := trodAll_cons hA
  obtain ⟨v1, vs1, d1, ds1, p1, q1, e1, rfl, rfl, h1, hr1⟩ := trodAll_cons hr0
  obtain ⟨v2, vs2, d2, ds2, p2, q2, e2, rfl, rfl, h2, hr2⟩ := trodAll_cons hr1
  obtain ⟨rfl, rfl, rfl⟩ := trodAll_nil hr2
  obtain rfl : args = [v0, v1, v2] := by simpa [e1, e2] using e0
  obtain ⟨a0, n0, c0, l0, rfl, m0, wx0, ha0⟩ := digests_open (hval 0 36 v0 rfl rfl) h0
  obtain ⟨L1, K1, P1, Q1, T1, rfl, rL1, rK1, rP1, rQ1, rT1⟩ := ret_open (hval 1 27 v1 rfl rfl) h1
  obtain ⟨L2, K2, P2, Q2, T2, rfl, rL2, rK2, rP2, rQ2, rT2⟩ := ret_open (hval 2 27 v2 rfl rfl) h2
  obtain ⟨rfl, rfl⟩ := trodVars_none hV
  have hG := glob_of_laid hL
  refine (law_onetimeSpent L1 K1 P1 Q1 L2 K2 P2 Q2 T1 T2 a0 n0 c0 l0 W hG rL1 rK1 rP1 rQ1 rT1 rL2 rK2 rP2 rQ2 rT2 m0 wx0).mono fun e W' ⟨he, hb⟩ => ?_
  subst he
  exact ⟨_, rfl, law_fin (by rw [Tryd.params6]; simp only [List.mem_cons, List.not_mem_nil, or_false]; intro t ht; rcases ht with rfl | rfl | rfl <;> exact ⟨by kernel_rfl, of_decide_eq_true (by kernel_rfl)⟩) (by kernel_rfl) rfl rfl hW' hb⟩

theorem onetimeSpent_row : Rows.OnetimeSpentSaid :=
  OpenClaim.holds_of_wide 6 Tryd.f6 rfl rfl rfl rfl rfl rfl rfl ⟨rfl, rfl, rfl, rfl, rfl⟩ rfl rfl rfl rfl rfl (by kernel_rfl) Tryd.func6 (by kernel_rfl)
    (of_decide_eq_true (by kernel_rfl)) (by unfold Func.isWrapper; first | (rw [if_pos (by decide +kernel)]; kernel_rfl) | (rw [if_neg (by decide +kernel)]; exact ⟨rfl, rfl⟩))
    (fun os started H enc _ => lifted os started H enc)

theorem onetimeSpent_holds : Rows.OnetimeSpentCardSaid :=
  Claim7.holds_tied_plain_at .later [] [.data, .data] true Rows.onetimeSpentCard.stood.harness true
    onetimeSpent_row (fun _ h => by cases h) (by kernel_rfl) (fun _ h => by cases h) onetimeSpent_row_tie rfl ⟨rfl, rfl⟩ (by kernel_rfl) rfl
    (fun f fn hf hfn => by
      obtain rfl : f = 6 := Option.some.inj ((show Tryd.prog.funcNamed "franking/frankinglaw16.OnetimeSpent" = some 6 by kernel_rfl).symm.trans hf) |>.symm
      obtain rfl : fn = Tryd.f6 := (Option.some.inj (Tryd.func6.symm.trans hfn)).symm
      exact ⟨by kernel_rfl, fun j t ht => by
        rw [Tryd.params6] at ht
        have hm : t ∈ [36, 27, 27] := by simpa using Array.mem_of_getElem? ht
        have hall : ([36, 27, 27].all fun u => !Tryd.prog.wantsStandIn u) = true := by kernel_rfl
        exact (show Tryd.prog.wantsStandIn t = false by simpa using List.all_eq_true.1 hall t hm)⟩)
    (by kernel_rfl)
#print axioms onetimeSpent_holds
end Go.Proofs.YtcioeedlfbioaaaDoor
