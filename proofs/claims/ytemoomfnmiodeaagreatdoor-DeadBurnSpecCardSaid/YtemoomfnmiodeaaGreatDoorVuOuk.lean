/- onetime.plain: its three ciphers. -/
import Derived.Test.YtemoomfnmiodeaaGreatDoorVuOsk
import Derived.Test.YtemoomfnmiodeaaGreatDoorVugSig
import Derived.Test.YtemoomfnmiodeaaGreatDoorVuRnb
namespace Frk
open Go Go.RowKit Go.Proofs
set_option maxRecDepth 100000
attribute [local go_sem] Oper.semAt_some

/-- what plain yields -/
def encPl (P Q a b : Int) : Fin 3 → Array Value
  | 0 => #[.int .i64 0, .agg #[.int .i64 P, .int .i64 Q]]
  | 1 => #[.int .i64 1, .agg #[.int .i64 1, .int .i64 a]]
  | 2 => #[.int .i64 2, .agg #[.int .i64 1, .int .i64 b]]
theorem encPl_size (P Q a b : Int) : ∀ k, (encPl P Q a b k).size = 2
  | 0 => rfl
  | 1 => rfl
  | 2 => rfl

theorem plain_any (C : List Value) (a b : Int) (w : World) :
    Calls Tryz.prog 46 #[.agg C.toArray, .agg #[.int .i64 a, .int .i64 b]] w fun e w' => e = .returned (.func (.func 65) #[] #[.pointer (some ⟨w.heap.size, 0, none⟩), .pointer (some ⟨w.heap.size + 1, 0, none⟩)]) ∧
      (w.alloc (.cells C.toArray 28)).alloc (.cells #[.int .i64 a, .int .i64 b] 41) = w' := by
  go_enter Tryz.func46, Tryz.ntmps46
  go_wp2
  go_ret
  exact ⟨rfl, rfl⟩

set_option maxHeartbeats 2000000 in
theorem plain_seq (m : Nat) (P Q a b : Int) (bx bl : Nat) (w : World)
    (h2 : w.cell? ⟨bx, 2, none⟩ = some (.int .i64 P)) (h3 : w.cell? ⟨bx, 3, none⟩ = some (.int .i64 Q)) (l0 : w.cell? ⟨bl, 0, none⟩ = some (.int .i64 a)) (l1 : w.cell? ⟨bl, 1, none⟩ = some (.int .i64 b)) :
    SeqCells Fence.wide m Tryz.prog 65 #[.pointer (some ⟨bx, 0, none⟩), .pointer (some ⟨bl, 0, none⟩)] (encPl P Q a b) (fun r => r = bx ∨ r = bl) (fun xs => xs = [0, 1, 2]) 3 w := by
  intro l J W hW hJ hY h0
  refine callsIn_of_wp Tryz.func65 rfl trivial ?_ rfl
  simp only [Tryz.ntmps65, List.size_toArray, List.length_cons, List.length_nil, Nat.reduceAdd, Nat.reduceSub, Array.replicate_succ, Array.replicate_zero, List.push_toArray, List.append_toArray, List.nil_append, List.cons_append]
  have hx := block_lt_of_cell h2
  have hl := block_lt_of_cell l0
  have c2 : W.cell? ⟨bx, 2, none⟩ = some (.int .i64 P) := (hW.cell (p := ⟨bx, 2, none⟩) hx).trans h2
  have c3 : W.cell? ⟨bx, 3, none⟩ = some (.int .i64 Q) := (hW.cell (p := ⟨bx, 3, none⟩) hx).trans h3
  have d0 : W.cell? ⟨bl, 0, none⟩ = some (.int .i64 a) := (hW.cell (p := ⟨bl, 0, none⟩) hl).trans l0
  have d1 : W.cell? ⟨bl, 1, none⟩ = some (.int .i64 b) := (hW.cell (p := ⟨bl, 1, none⟩) hl).trans l1
  have i0 : ∀ w, (Instr.index 41 (.agg #[.int .i64 a, .int .i64 b]) (.int .i64 0)).run Tryz.prog w = .ok (.int .i64 a) w := fun _ => by kernel_rfl
  have i1 : ∀ w, (Instr.index 41 (.agg #[.int .i64 a, .int .i64 b]) (.int .i64 1)).run Tryz.prog w = .ok (.int .i64 b) w := fun _ => by kernel_rfl
  have HY := Seal.mk hY
  clear hY hJ hW hx hl h2 h3 l0 l1
  obtain ⟨fn1, tmps1, as1, body1, hy, hR⟩ := HY.out [] (0 : Fin 3) W h0 (by decide)
  have hR := Seal.mk hR
  dsimp only [encPl] at hy
  gi_wp2
  refine ⟨fun h => (by cases h), ?_⟩
  refine hR.out.mono ?_
  rintro e W1 ⟨rfl, hJ1, hk⟩
  have e0 : W1.cell? ⟨bl, 0, none⟩ = some (.int .i64 a) := (World.cell?_of_block (w := W) (hk bl (.inr rfl))).trans d0
  have e1 : W1.cell? ⟨bl, 1, none⟩ = some (.int .i64 b) := (World.cell?_of_block (w := W) (hk bl (.inr rfl))).trans d1
  clear hk hy hR h0 c2 c3 d0 d1
  gi_wp2
  refine wpIn_loop_rounds 3 ?_
  rw [roundsIn_succ]
  obtain ⟨fn2, tmps2, as2, body2, hy, hR⟩ := HY.out ([] ++ [0]) (1 : Fin 3) W1 hJ1 (by decide)
  have hR := Seal.mk hR
  dsimp only [encPl] at hy
  gi_wp2
  refine ⟨fun h => (by cases h), ?_⟩
  refine hR.out.mono ?_
  rintro e W2 ⟨rfl, hJ2, hk⟩
  clear hk hy hR hJ1 e0 e1
  gi_wp2
  rw [roundsIn_succ]
  obtain ⟨fn3, tmps3, as3, body3, hy, hR⟩ := HY.out ([] ++ [0] ++ [1]) (2 : Fin 3) W2 hJ2 (by decide)
  have hR := Seal.mk hR
  dsimp only [encPl] at hy
  gi_wp2
  refine ⟨fun h => (by cases h), ?_⟩
  refine hR.out.mono ?_
  rintro e W3 ⟨rfl, hJ3, hk⟩
  clear hk hy hR hJ2
  gi_wp2
  rw [roundsIn_succ]
  gi_wp2
  go_end0
  exact ⟨⟨_, rfl⟩, _, rfl, hJ3⟩

attribute [local go_sem] Oper.semAt_some

/-- the cells of a letter, as far as it is made -/
def rowU (p q : Fin 3 → Int) (pre : List (Fin 3)) : List Value := pre.foldl (fun r k => lay r (2 * k.val) [.int .i64 (p k), .int .i64 (q k)]) [.int .i64 0, .int .i64 0, .int .i64 0, .int .i64 0, .int .i64 0, .int .i64 0]
theorem rowU_snoc (p q : Fin 3 → Int) (pre : List (Fin 3)) (k : Fin 3) : rowU p q (pre ++ [k]) = lay (rowU p q pre) (2 * k.val) [.int .i64 (p k), .int .i64 (q k)] := by simp [rowU]
theorem rowU_len' (p q : Fin 3 → Int) : ∀ (pre : List (Fin 3)) (r : List Value), r.length = 6 → (pre.foldl (fun r k => lay r (2 * k.val) [.int .i64 (p k), .int .i64 (q k)]) r).length = 6
  | [], _, h => h
  | k :: pre, r, h => rowU_len' p q pre _ (by rw [length_lay (by rw [h]; have := k.isLt; simp; omega), h])
theorem rowU_len (p q : Fin 3 → Int) (pre : List (Fin 3)) : (rowU p q pre).length = 6 := rowU_len' p q pre _ rfl
theorem rowU_done (p q : Fin 3 → Int) : rowU p q [0, 1, 2] = [.int .i64 (p 0), .int .i64 (q 0), .int .i64 (p 1), .int .i64 (q 1), .int .i64 (p 2), .int .i64 (q 2)] := rfl

/-- one step of a region: a store into a block known whole -/
theorem run_store_at {P : Program} {o : Oper} {a : Act} {w : World} (ty : TypeId) (x y : Operand) (ho : o.op = .store ty x y) (g off : Nat) (cs : List Value) (hx : a.eval x = .pointer (some ⟨g, off, none⟩)) (hy : a.eval y = .agg cs.toArray) (t : TypeId) (cur : List Value)
    (hg : w.heap[g]? = some (.cells cur.toArray t (0, 0))) (hi : (P.info? ty).map (·.size) = some cs.length) (hfit : off + cs.length ≤ cur.length) (h1 : ∀ v ∈ cs, v.oneCell' = true) :
    (execOp a.eval o).run P w = .ok .skip (w.setRow g (lay cur off cs).toArray) := by
  have ht : w.there g off cs.toArray.size := fun j hj => by
    have hj' : j < cs.length := by simpa using hj
    refine ⟨?_, frozen_of_row _ _ _ _ _ hg⟩
    rw [cell_of_row _ _ _ _ _ _ hg]
    simp; omega
  unfold execOp
  simp only [ho, hx, hy, Instr.storeAt, Instr.sureAddr, Sem.run_bind, Sem.run_pure, Result.andThen_ok, run_storeVar_mid w g off ty cs.toArray ht (by simpa using hi) (all_oneCell_toArray h1)]
  rw [setCells_row cs off cur w hg hfit]

theorem fin3 : ∀ x : Fin 3, x = 0 ∨ x = 1 ∨ x = 2 := by decide

theorem keeps_setRow {w : World} {g : Nat} {cs : Array Value} {t : TypeId} {fr : Nat × Nat} (h : w.heap[g]? = some (.cells cs t fr)) (ds : Array Value) : KeepsOthers w (w.setRow g ds) :=
  ⟨by rw [size_setRow]; exact Nat.le_refl _, fun k o hk ho => by
    by_cases e : k = g
    · subst e
      rw [h] at hk
      cases hk
      cases ho
    · rw [setRow_other _ _ _ _ e]; exact hk⟩

set_option maxHeartbeats 4000000 in
theorem ouse_yes (L K P Q a b c d r0 r1 r2 : Int) (T : Bytes) (p q : Fin 3 → Int) (w : World) (hG : Glob w) (hL : I64 L) (hK : I64 K) (hP : I64 P) (hQ : I64 Q) (hT : T.length = 32) (ht : chkB L K P Q T = true)
    (ha : 1 ≤ a ∧ a ≤ 1073741789) (hb : 1 ≤ b ∧ b ≤ 1073741789) (hc : Seal (elB a = c)) (hd : Seal (elB b = d)) (hr0 : I64 r0) (hr1 : I64 r1) (hr2 : I64 r2)
    (hp0 : Seal (((mp P.toNat (pw 4 r0) : Nat) : Int) = p 0)) (hq0 : Seal (((mp Q.toNat (pw K.toNat r0) : Nat) : Int) = q 0))
    (hp1 : Seal (((mp (1 : Int).toNat (pw 4 r1) : Nat) : Int) = p 1)) (hq1 : Seal (((mp c.toNat (pw K.toNat r1) : Nat) : Int) = q 1))
    (hp2 : Seal (((mp (1 : Int).toNat (pw 4 r2) : Nat) : Int) = p 2)) (hq2 : Seal (((mp d.toNat (pw K.toNat r2) : Nat) : Int) = q 2)) :
    Calls Tryz.prog 23 #[.agg (retC L K P Q T).toArray, .agg #[.int .i64 a, .int .i64 b], .agg #[.int .i64 r0, .int .i64 r1, .int .i64 r2]] w fun e w' =>
      e = .returned (.tuple #[.agg #[.int .i64 (p 0), .int .i64 (q 0), .int .i64 (p 1), .int .i64 (q 1), .int .i64 (p 2), .int .i64 (q 2)], .int .i64 0]) ∧ Below w.heap.size w w' := by
  have ht' := ht
  unfold chkB at ht'
  simp only [Bool.and_eq_true] at ht'
  obtain ⟨⟨⟨⟨_, vK⟩, vP⟩, vQ⟩, _⟩ := ht'
  have vc : vd c = true := by rw [← hc.out]; exact elB_vd ha.1 ha.2
  have vdd : vd d = true := by rw [← hd.out]; exact elB_vd hb.1 hb.2
  have v1 : vd 1 = true := by decide +kernel
  have HS0 : Seal (∀ W, Calls Tryz.prog 47 #[.int .i64 K, .agg #[.int .i64 P, .int .i64 Q], .int .i64 r0] W fun e w' => e = .returned (.agg #[.int .i64 (p 0), .int .i64 (q 0)]) ∧ Below W.heap.size W w') := ⟨fun W => oseal_yes K P Q r0 _ _ W vK vP vQ hr0.1 hr0.2 hp0 hq0⟩
  have HS1 : Seal (∀ W, Calls Tryz.prog 47 #[.int .i64 K, .agg #[.int .i64 1, .int .i64 c], .int .i64 r1] W fun e w' => e = .returned (.agg #[.int .i64 (p 1), .int .i64 (q 1)]) ∧ Below W.heap.size W w') := ⟨fun W => oseal_yes K 1 c r1 _ _ W vK v1 vc hr1.1 hr1.2 hp1 hq1⟩
  have HS2 : Seal (∀ W, Calls Tryz.prog 47 #[.int .i64 K, .agg #[.int .i64 1, .int .i64 d], .int .i64 r2] W fun e w' => e = .returned (.agg #[.int .i64 (p 2), .int .i64 (q 2)]) ∧ Below W.heap.size W w') := ⟨fun W => oseal_yes K 1 d r2 _ _ W vK v1 vdd hr2.1 hr2.2 hp2 hq2⟩
  have HEa : Seal (∀ W, Calls Tryz.prog 45 #[.int .i64 a] W fun e w' => e = .returned (.tuple #[.int .i64 c, .int .i64 0]) ∧ W = w') := ⟨fun W => element_yes a c W ha.1 ha.2 hc⟩
  have HEb : Seal (∀ W, Calls Tryz.prog 45 #[.int .i64 b] W fun e w' => e = .returned (.tuple #[.int .i64 d, .int .i64 0]) ∧ W = w') := ⟨fun W => element_yes b d W hb.1 hb.2 hd⟩
  obtain ⟨C, hC⟩ : ∃ C, C = retC L K P Q T := ⟨_, rfl⟩
  have I1 : Seal ((Tryz.prog.info? 28).map (·.size) = some C.toArray.size) := ⟨by rw [hC, List.size_toArray]; exact retC_info hT⟩
  obtain ⟨X, hX⟩ : ∃ X : World, X = (((w.alloc (.cells C.toArray 28)).alloc (.cells #[.int .i64 a, .int .i64 b] 41)).alloc (.cells #[.int .i64 r0, .int .i64 r1, .int .i64 r2] 42)).alloc (.cells #[.int .i64 0, .int .i64 0, .int .i64 0, .int .i64 0, .int .i64 0, .int .i64 0] 44) := ⟨_, rfl⟩
  have hXb : Seal (Below w.heap.size w X) := ⟨by rw [hX]; exact ((((Below.refl _ w).alloc (Nat.le_refl _) _).alloc (by simp) _).alloc (by simp <;> omega) _).alloc (by simp <;> omega) _⟩
  have hXs : Seal (X.heap.size = w.heap.size + 4) := ⟨by rw [hX]; simp⟩
  have hX0 : Seal (X.heap[w.heap.size]? = some (.cells C.toArray 28 (0, 0))) := ⟨by rw [hX, Below.heap_alloc _ _ _ (by simp <;> omega), Below.heap_alloc _ _ _ (by simp <;> omega), Below.heap_alloc _ _ _ (by simp)]; exact heap_alloc_new w _⟩
  have hX1 : Seal (X.heap[w.heap.size + 1]? = some (.cells #[.int .i64 a, .int .i64 b] 41 (0, 0))) := ⟨by rw [hX, Below.heap_alloc _ _ _ (by simp <;> omega), Below.heap_alloc _ _ _ (by simp)]; have := heap_alloc_new (w.alloc (.cells C.toArray 28)) (.cells #[.int .i64 a, .int .i64 b] 41); rwa [size_alloc] at this⟩
  have hX2 : Seal (X.heap[w.heap.size + 1 + 1]? = some (.cells #[.int .i64 r0, .int .i64 r1, .int .i64 r2] 42 (0, 0))) := ⟨by rw [hX, Below.heap_alloc _ _ _ (by simp)]; have := heap_alloc_new ((w.alloc (.cells C.toArray 28)).alloc (.cells #[.int .i64 a, .int .i64 b] 41)) (.cells #[.int .i64 r0, .int .i64 r1, .int .i64 r2] 42); rwa [size_alloc, size_alloc] at this⟩
  have hX3 : Seal (X.heap[w.heap.size + 1 + 1 + 1]? = some (.cells (rowU p q []).toArray 44 (0, 0))) := ⟨by rw [hX]; have := heap_alloc_new (((w.alloc (.cells C.toArray 28)).alloc (.cells #[.int .i64 a, .int .i64 b] 41)).alloc (.cells #[.int .i64 r0, .int .i64 r1, .int .i64 r2] 42)) (.cells #[.int .i64 0, .int .i64 0, .int .i64 0, .int .i64 0, .int .i64 0, .int .i64 0] 44); rwa [size_alloc, size_alloc, size_alloc] at this⟩
  have HK0 : Seal (Calls Tryz.prog 44 #[.agg C.toArray] X fun e w' => e = .returned (.int .i64 0) ∧ Below X.heap.size X w') := ⟨by rw [hC]; exact ocheck_any L K P Q T true X (hG.below hXb.out) hL hK hP hQ hT ht⟩
  have HCC : Seal (C[1]? = some (.int .i64 K) ∧ C[2]? = some (.int .i64 P) ∧ C[3]? = some (.int .i64 Q)) := ⟨by rw [hC]; exact ⟨rfl, rfl, rfl⟩⟩
  rw [← hC]
  clear hG hT ht hC vK vP vQ vc vdd v1 hp0 hp1 hp2 hq0 hq1 hq2
  have i0 : ∀ w, (Instr.index 41 (.agg #[.int .i64 a, .int .i64 b]) (.int .i64 0)).run Tryz.prog w = .ok (.int .i64 a) w := fun _ => by kernel_rfl
  have i1 : ∀ w, (Instr.index 41 (.agg #[.int .i64 a, .int .i64 b]) (.int .i64 1)).run Tryz.prog w = .ok (.int .i64 b) w := fun _ => by kernel_rfl
  refine (callsIn_wide (n := 3)).1 ?_
  refine callsIn_of_wp_marks Tryz.func23 rfl trivial ?_ rfl
  simp only [Tryz.ntmps23, List.size_toArray, List.length_cons, List.length_nil, Nat.reduceAdd, Nat.reduceSub, Array.replicate_succ, Array.replicate_zero, List.push_toArray, List.append_toArray, List.nil_append, List.cons_append]
  refine wpIn_wide.2 ?_
  go_upto_region 1 with (fail)
  rw [← hX]
  clear hX
  go_wp2_with (first | (refine wpList_load_row rfl 28 (.tmp 3) rfl w.heap.size rfl 28 C.toArray (0, 0) _ hX0.out Tryz.underlying28 rfl I1.out ?_))
  refine HK0.out.mono ?_
  rintro e wc ⟨rfl, hbc⟩
  have hsz := hXs.out
  have HBc : Seal (Below w.heap.size w wc) := ⟨hXb.out.trans (hbc.mono hXb.out.size)⟩
  have R0 : Seal (wc.heap[w.heap.size]? = some (.cells C.toArray 28 (0, 0))) := ⟨blk hbc (by omega) hX0.out⟩
  have R1 : Seal (wc.heap[w.heap.size + 1]? = some (.cells #[.int .i64 a, .int .i64 b] 41 (0, 0))) := ⟨blk hbc (by omega) hX1.out⟩
  have R2 : Seal (wc.heap[w.heap.size + 1 + 1]? = some (.cells #[.int .i64 r0, .int .i64 r1, .int .i64 r2] 42 (0, 0))) := ⟨blk hbc (by omega) hX2.out⟩
  have R3 : Seal (wc.heap[w.heap.size + 1 + 1 + 1]? = some (.cells (rowU p q []).toArray 44 (0, 0))) := ⟨blk hbc (by omega) hX3.out⟩
  have k10 : wc.cell? ⟨w.heap.size + 1, 0, none⟩ = some (.int .i64 a) := by rw [cell_of_row _ _ _ _ _ _ R1.out]; rfl
  have k11 : wc.cell? ⟨w.heap.size + 1, 1, none⟩ = some (.int .i64 b) := by rw [cell_of_row _ _ _ _ _ _ R1.out]; rfl
  have f10 : wc.frozen? ⟨w.heap.size + 1, 0, none⟩ = false := frozen_of_row _ _ _ _ _ R1.out
  have f11 : wc.frozen? ⟨w.heap.size + 1, 1, none⟩ = false := frozen_of_row _ _ _ _ _ R1.out
  clear hbc hsz
  go_wp2
  refine wp_loop_rounds 3 ?_
  rw [rounds_succ]
  go_wp2_with (go_at_call 45; refine (HEa.out _).mono ?_; rintro e w' ⟨rfl, rfl⟩)
  rw [rounds_succ]
  go_wp2_with (go_at_call 45; refine (HEb.out _).mono ?_; rintro e w' ⟨rfl, rfl⟩)
  rw [rounds_succ]
  go_upto_region 12 with (fail)
  obtain ⟨Wn, hWn⟩ : ∃ Wn, Wn = (wc.setCell ⟨w.heap.size + 1, 0, none⟩ (.int .i64 c)).setCell ⟨w.heap.size + 1, 1, none⟩ (.int .i64 d) := ⟨_, rfl⟩
  have hot : ∀ k, k ≠ w.heap.size + 1 → Wn.heap[k]? = wc.heap[k]? := fun k hk => by
    rw [hWn]
    exact (Below.heap_setCell _ _ _ k hk).trans (Below.heap_setCell _ _ _ k hk)
  have N0 : Seal (Wn.heap[w.heap.size]? = some (.cells C.toArray 28 (0, 0))) := ⟨(hot _ (by omega)).trans R0.out⟩
  have N1 : Seal (Wn.heap[w.heap.size + 1]? = some (.cells #[.int .i64 c, .int .i64 d] 41 (0, 0))) := ⟨by
    rw [hWn]
    exact heap_setCell_row (cs := [.int .i64 c, .int .i64 b]) (i := 1) _ (heap_setCell_row (cs := [.int .i64 a, .int .i64 b]) (i := 0) _ R1.out)⟩
  have N2 : Seal (Wn.heap[w.heap.size + 1 + 1]? = some (.cells #[.int .i64 r0, .int .i64 r1, .int .i64 r2] 42 (0, 0))) := ⟨(hot _ (by omega)).trans R2.out⟩
  have N3 : Seal (Wn.heap[w.heap.size + 1 + 1 + 1]? = some (.cells (rowU p q []).toArray 44 (0, 0))) := ⟨(hot _ (by omega)).trans R3.out⟩
  have HBn : Seal (Below w.heap.size w Wn) := ⟨by rw [hWn]; exact (HBc.out.setCell (p := ⟨w.heap.size + 1, 0, none⟩) (by simp) _).setCell (p := ⟨w.heap.size + 1, 1, none⟩) (by simp) _⟩
  rw [← hWn]
  clear hWn hot k10 k11 f10 f11 i0 i1 R0 R1 R2 R3 HBc HEa HEb
  have n10 : Wn.cell? ⟨w.heap.size + 1, 0, none⟩ = some (.int .i64 c) := by rw [cell_of_row _ _ _ _ _ _ N1.out]; rfl
  have n11 : Wn.cell? ⟨w.heap.size + 1, 1, none⟩ = some (.int .i64 d) := by rw [cell_of_row _ _ _ _ _ _ N1.out]; rfl
  go_wp2_with (first | (refine wpList_load_row rfl 28 (.tmp 3) rfl w.heap.size rfl 28 C.toArray (0, 0) _ N0.out Tryz.underlying28 rfl I1.out ?_))
  refine (plain_any C c d _).mono ?_
  rintro e Wp ⟨rfl, hWp⟩
  have hns := (Array.getElem?_eq_some_iff.1 N3.out).1
  have hps : Wp.heap.size = Wn.heap.size + 2 := by rw [← hWp]; simp
  have hpb : Below Wn.heap.size Wn Wp := by rw [← hWp]; exact ((Below.refl _ _).alloc (Nat.le_refl _) _).alloc (by simp) _
  have P0 : Seal (Wp.heap[w.heap.size]? = some (.cells C.toArray 28 (0, 0))) := ⟨(hpb.block _ (by omega)).trans N0.out⟩
  have P2 : Seal (Wp.heap[w.heap.size + 1 + 1]? = some (.cells #[.int .i64 r0, .int .i64 r1, .int .i64 r2] 42 (0, 0))) := ⟨(hpb.block _ (by omega)).trans N2.out⟩
  have P3 : Seal (Wp.heap[w.heap.size + 1 + 1 + 1]? = some (.cells (rowU p q []).toArray 44 (0, 0))) := ⟨(hpb.block _ hns).trans N3.out⟩
  have hrx : Wp.heap[Wn.heap.size]? = some (.cells C.toArray 28 (0, 0)) := by rw [← hWp]; exact heap_alloc2_old Wn _ _
  have hrl : Wp.heap[Wn.heap.size + 1]? = some (.cells #[.int .i64 c, .int .i64 d] 41 (0, 0)) := by rw [← hWp]; exact heap_alloc2_new Wn _ _
  have HBp : Seal (Below w.heap.size w Wp) := ⟨HBn.out.trans (hpb.mono HBn.out.size)⟩
  obtain ⟨s, hs⟩ : ∃ s, s = Wn.heap.size := ⟨_, rfl⟩
  rw [← hs] at hrx hrl hps hns ⊢
  clear hWp hpb N0 N1 N2 N3 n10 n11 HBn hs
  go_wp2_with fail
  refine (wpIn_wide (n := 3)).1 ?_
  refine wpIn_rangeFunc_round rfl (by decide) (gf := 65) (lb := #[.pointer (some ⟨s, 0, none⟩), .pointer (some ⟨s + 1, 0, none⟩)]) rfl trivial (enters_of Tryz.func65 (by kernel_rfl) rfl)
    (plain_seq 2 P Q c d s (s + 1) Wp (by rw [cell_of_row _ _ _ _ _ _ hrx]; simpa using HCC.out.2.1) (by rw [cell_of_row _ _ _ _ _ _ hrx]; simpa using HCC.out.2.2) (by rw [cell_of_row _ _ _ _ _ _ hrl]; rfl) (by rw [cell_of_row _ _ _ _ _ _ hrl]; rfl))
    (by rintro r (rfl | rfl) <;> omega) (encPl_size P Q c d)
    (fun pre W => W.heap[w.heap.size]? = some (.cells C.toArray 28 (0, 0)) ∧ W.heap[w.heap.size + 1 + 1]? = some (.cells #[.int .i64 r0, .int .i64 r1, .int .i64 r2] 42 (0, 0)) ∧
      W.heap[w.heap.size + 1 + 1 + 1]? = some (.cells (rowU p q pre).toArray 44 (0, 0)) ∧ Below w.heap.size w W ∧ Wp.heap.size ≤ W.heap.size)
    ?own ⟨P0.out, P2.out, P3.out, HBp.out, Nat.le_refl _⟩ ?round ?done
  case own =>
    rintro t A B row ⟨h0, h2, h3, hb, hz⟩ hg hr
    have hrow : ∀ r, row = some r → s ≤ r := by
      intro r e
      rcases hr r e with (rfl | rfl) | ⟨h, _⟩
      · exact Nat.le_refl _
      · omega
      · omega
    have keep : ∀ k o, k < s → A.heap[k]? = some o → B.heap[k]? = some o := fun k o hk h => (hg.block k (Array.getElem?_eq_some_iff.1 h).1 (fun e => by have := hrow _ e.symm; omega)).trans h
    exact ⟨keep _ _ (by omega) h0, keep _ _ (by omega) h2, keep _ _ hns h3, hb.grown hg hb.size (fun k e => by have := hrow k e; omega), Nat.le_trans hz hg.size⟩
  case round =>
    rintro l pre x W ⟨h0, h2, h3, hb, hz⟩ _ hzl
    rcases fin3 x with rfl | rfl | rfl
    · skip
      dsimp only [encPl]
      gi_wp2
      refine ⟨KeepsOthers.alloc _ _, fun r hr => Below.heap_alloc _ _ _ (by rcases hr with rfl | rfl <;> omega), fun Wb hg hsz => ?_⟩
      have keep : ∀ k o, k < s → W.heap[k]? = some o → Wb.heap[k]? = some o := fun k o hk h => (hg.block k (by rw [size_alloc]; have := (Array.getElem?_eq_some_iff.1 h).1; omega) (fun e => by have := Option.some.inj e; omega)).trans ((Below.heap_alloc _ _ _ (Array.getElem?_eq_some_iff.1 h).1).trans h)
      have b0 := Seal.mk (keep _ _ (by omega) h0)
      have b2 := Seal.mk (keep _ _ (by omega) h2)
      have b3 := Seal.mk (keep _ _ hns h3)
      have bx : Seal (Wb.heap[W.heap.size]? = some (.cells #[.int .i64 P, .int .i64 Q] 24 (0, 0))) := ⟨(hg.block _ (by rw [size_alloc]; omega) (fun e => by have := Option.some.inj e; omega)).trans (heap_alloc_new W _)⟩
      have HBb : Seal (Below w.heap.size w Wb) := ⟨(hb.alloc hb.size _).grown hg (by rw [size_alloc]; have := hb.size; omega) (fun k e => by have := Option.some.inj e; omega)⟩
      have hzb : Seal (W.heap.size + 1 = Wb.heap.size) := ⟨by rw [hsz, size_alloc]⟩
      have k1 : Wb.cell? ⟨w.heap.size, 1, none⟩ = some (.int .i64 K) := by rw [cell_of_row _ _ _ _ _ _ b0.out]; simpa using HCC.out.1
      have k2 : Wb.cell? ⟨W.heap.size, 0, none⟩ = some (.int .i64 P) := by rw [cell_of_row _ _ _ _ _ _ bx.out]; rfl
      have k3 : Wb.cell? ⟨W.heap.size, 1, none⟩ = some (.int .i64 Q) := by rw [cell_of_row _ _ _ _ _ _ bx.out]; rfl
      have k4 : Wb.cell? ⟨w.heap.size + 1 + 1, 0, none⟩ = some (.int .i64 r0) := by rw [cell_of_row _ _ _ _ _ _ b2.out]; rfl
      clear keep hg hsz h0 h2 h3 hb
      gi_wp2
      refine wpIn_region_held (S := fun w' => w'.cell? ⟨w.heap.size, 1, none⟩ = some (.int .i64 K) ∧ w'.cell? ⟨W.heap.size, 0, none⟩ = some (.int .i64 P) ∧ w'.cell? ⟨W.heap.size, 1, none⟩ = some (.int .i64 Q) ∧ w'.cell? ⟨w.heap.size + 1 + 1, 0, none⟩ = some (.int .i64 r0)) (by kernel_rfl) (by rintro ⟨_, _, h⟩; exact h) (by kernel_rfl) ⟨k1, k2, k3, k4⟩ (fun hHeld => ?_)
      refine take_h 0 ?_ rfl (by kernel_rfl) (by kernel_rfl) (by kernel_rfl) (fun _ _ _ h => h) (Or.inl ⟨by kernel_rfl, ?_⟩) (by assumption) ?_
      rotate_left
      · (intro w hSw; (try dsimp only at hSw); go_simp; try (with_reducible rfl))
      try simp only [Act.put, List.setIfInBounds_toArray, List.set_cons_zero, List.set_cons_succ]
      refine take_h 1 ?_ rfl (by kernel_rfl) (by kernel_rfl) (by kernel_rfl) (fun _ _ _ h => h) (Or.inl ⟨by kernel_rfl, ?_⟩) (by assumption) ?_
      rotate_left
      · (intro w hSw; (try dsimp only at hSw); go_simp; try (with_reducible rfl))
      try simp only [Act.put, List.setIfInBounds_toArray, List.set_cons_zero, List.set_cons_succ]
      refine take_h 2 ?_ rfl (by kernel_rfl) (by kernel_rfl) (by kernel_rfl) (fun _ _ _ h => h) (Or.inl ⟨by kernel_rfl, ?_⟩) (by assumption) ?_
      rotate_left
      · (intro w hSw; (try dsimp only at hSw); go_simp; try (with_reducible rfl))
      try simp only [Act.put, List.setIfInBounds_toArray, List.set_cons_zero, List.set_cons_succ]
      refine take_h 3 ?_ rfl (by kernel_rfl) (by kernel_rfl) (by kernel_rfl) (fun _ _ _ h => h) (Or.inl ⟨by kernel_rfl, ?_⟩) (by assumption) ?_
      rotate_left
      · (intro w hSw; (try dsimp only at hSw); go_simp; try (with_reducible rfl))
      try simp only [Act.put, List.setIfInBounds_toArray, List.set_cons_zero, List.set_cons_succ]
      refine take_h 4 ?_ rfl (by kernel_rfl) (by kernel_rfl) (by kernel_rfl) (fun _ _ _ h => h) (Or.inl ⟨by kernel_rfl, ?_⟩) (by assumption) ?_
      rotate_left
      · (intro w hSw; (try dsimp only at hSw); go_simp; try (with_reducible rfl))
      try simp only [Act.put, List.setIfInBounds_toArray, List.set_cons_zero, List.set_cons_succ]
      refine take_h 5 ?_ rfl (by kernel_rfl) (by kernel_rfl) (by kernel_rfl) (fun _ _ _ h => h) (Or.inl ⟨by kernel_rfl, ?_⟩) (by assumption) ?_
      rotate_left
      · (intro w hSw; (try dsimp only at hSw); go_simp; try (with_reducible rfl))
      try simp only [Act.put, List.setIfInBounds_toArray, List.set_cons_zero, List.set_cons_succ]
      refine take_h 6 ?_ rfl (by kernel_rfl) (by kernel_rfl) (by kernel_rfl) (fun _ _ _ h => h) (Or.inl ⟨by kernel_rfl, ?_⟩) (by assumption) ?_
      rotate_left
      · (intro w hSw; (try dsimp only at hSw); go_simp; try (with_reducible rfl))
      try simp only [Act.put, List.setIfInBounds_toArray, List.set_cons_zero, List.set_cons_succ]
      refine call_h 7 rfl (by kernel_rfl) 47 #[.int .i64 K, .agg #[.int .i64 P, .int .i64 Q], .int .i64 r0] (by kernel_rfl) (by go_simp) ?_
      refine (HS0.out Wb.drew).mono ?_
      rintro e w1 ⟨rfl, hb1⟩
      have hb2 : Below Wb.heap.size Wb w1 := ⟨hb1.os, hb1.tape, hb1.output, hb1.size, hb1.block⟩
      refine ⟨_, rfl, ⟨cell_later hb2 k1, cell_later hb2 k2, cell_later hb2 k3, cell_later hb2 k4⟩, fun hHeld2 => ?_⟩
      clear hHeld hb1
      try simp only [Act.put, List.setIfInBounds_toArray, List.set_cons_zero, List.set_cons_succ]
      refine take_h 8 ?_ rfl (by kernel_rfl) (by kernel_rfl) (by kernel_rfl) (fun _ _ _ h => h) (Or.inl ⟨by kernel_rfl, ?_⟩) (by assumption) ?_
      rotate_left
      · (intro w hSw; (try dsimp only at hSw); go_simp; try (with_reducible rfl))
      try simp only [Act.put, List.setIfInBounds_toArray, List.set_cons_zero, List.set_cons_succ]
      have c3 := blk hb2 (Array.getElem?_eq_some_iff.1 b3.out).1 b3.out
      have hlay : lay (rowU p q pre) (2 * (0 : Fin 3).val) [.int .i64 (p 0), .int .i64 (q 0)] = rowU p q (pre ++ [0]) := (rowU_snoc p q pre 0).symm
      refine skip_h 9 (w1.setRow (w.heap.size + 1 + 1 + 1) (rowU p q (pre ++ [0])).toArray) rfl (by kernel_rfl) (by kernel_rfl) (by rw [← hlay]; exact run_store_at 24 (.tmp 50) (.tmp 49) rfl (w.heap.size + 1 + 1 + 1) (2 * (0 : Fin 3).val) [.int .i64 (p 0), .int .i64 (q 0)] rfl rfl 44 (rowU p q pre) c3 (by kernel_rfl) (by rw [rowU_len]; simp) (by simp [Value.oneCell'])) ?_ (fun hHeld3 => ?_)
      · exact ⟨(cell_setRow_other _ _ _ _ (show w.heap.size ≠ _ by omega)).trans hHeld2.1, (cell_setRow_other _ _ _ _ (show W.heap.size ≠ _ by omega)).trans hHeld2.2.1, (cell_setRow_other _ _ _ _ (show W.heap.size ≠ _ by omega)).trans hHeld2.2.2.1, (cell_setRow_other _ _ _ _ (show w.heap.size + 1 + 1 ≠ _ by omega)).trans hHeld2.2.2.2⟩
      refine wpAnyH_done (by kernel_rfl) ?_ _
      clear hHeld2 hHeld3
      have hk1 : KeepsOthers Wb w1 := KeepsOthers.of_grownBy (grown_of_below hb2 none) (fun j o e => by cases e)
      have hk2 : KeepsOthers w1 (w1.setRow (w.heap.size + 1 + 1 + 1) (rowU p q (pre ++ [0])).toArray) := keeps_setRow c3 _
      refine ⟨hk1.trans hk2, fun r hr => (setRow_other _ _ _ _ (by rcases hr with rfl | rfl <;> omega)).trans (hb2.block r (by have := hzb.out; rcases hr with rfl | rfl <;> omega)), ?_, ?_, ?_, ?_, ?_⟩
      · exact (setRow_other _ _ _ _ (by omega)).trans (blk hb2 (Array.getElem?_eq_some_iff.1 b0.out).1 b0.out)
      · exact (setRow_other _ _ _ _ (by omega)).trans (blk hb2 (Array.getElem?_eq_some_iff.1 b2.out).1 b2.out)
      · exact setRow_heap _ _ _ _ _ _ c3
      · exact below_row (HBb.out.trans (hb2.mono HBb.out.size)) (by omega) _
      · have := hb2.size; have := hzb.out; rw [size_setRow]; omega
    · skip
      dsimp only [encPl]
      gi_wp2
      refine ⟨KeepsOthers.alloc _ _, fun r hr => Below.heap_alloc _ _ _ (by rcases hr with rfl | rfl <;> omega), fun Wb hg hsz => ?_⟩
      have keep : ∀ k o, k < s → W.heap[k]? = some o → Wb.heap[k]? = some o := fun k o hk h => (hg.block k (by rw [size_alloc]; have := (Array.getElem?_eq_some_iff.1 h).1; omega) (fun e => by have := Option.some.inj e; omega)).trans ((Below.heap_alloc _ _ _ (Array.getElem?_eq_some_iff.1 h).1).trans h)
      have b0 := Seal.mk (keep _ _ (by omega) h0)
      have b2 := Seal.mk (keep _ _ (by omega) h2)
      have b3 := Seal.mk (keep _ _ hns h3)
      have bx : Seal (Wb.heap[W.heap.size]? = some (.cells #[.int .i64 1, .int .i64 c] 24 (0, 0))) := ⟨(hg.block _ (by rw [size_alloc]; omega) (fun e => by have := Option.some.inj e; omega)).trans (heap_alloc_new W _)⟩
      have HBb : Seal (Below w.heap.size w Wb) := ⟨(hb.alloc hb.size _).grown hg (by rw [size_alloc]; have := hb.size; omega) (fun k e => by have := Option.some.inj e; omega)⟩
      have hzb : Seal (W.heap.size + 1 = Wb.heap.size) := ⟨by rw [hsz, size_alloc]⟩
      have k1 : Wb.cell? ⟨w.heap.size, 1, none⟩ = some (.int .i64 K) := by rw [cell_of_row _ _ _ _ _ _ b0.out]; simpa using HCC.out.1
      have k2 : Wb.cell? ⟨W.heap.size, 0, none⟩ = some (.int .i64 1) := by rw [cell_of_row _ _ _ _ _ _ bx.out]; rfl
      have k3 : Wb.cell? ⟨W.heap.size, 1, none⟩ = some (.int .i64 c) := by rw [cell_of_row _ _ _ _ _ _ bx.out]; rfl
      have k4 : Wb.cell? ⟨w.heap.size + 1 + 1, 1, none⟩ = some (.int .i64 r1) := by rw [cell_of_row _ _ _ _ _ _ b2.out]; rfl
      clear keep hg hsz h0 h2 h3 hb
      gi_wp2
      refine wpIn_region_held (S := fun w' => w'.cell? ⟨w.heap.size, 1, none⟩ = some (.int .i64 K) ∧ w'.cell? ⟨W.heap.size, 0, none⟩ = some (.int .i64 1) ∧ w'.cell? ⟨W.heap.size, 1, none⟩ = some (.int .i64 c) ∧ w'.cell? ⟨w.heap.size + 1 + 1, 1, none⟩ = some (.int .i64 r1)) (by kernel_rfl) (by rintro ⟨_, _, h⟩; exact h) (by kernel_rfl) ⟨k1, k2, k3, k4⟩ (fun hHeld => ?_)
      refine take_h 0 ?_ rfl (by kernel_rfl) (by kernel_rfl) (by kernel_rfl) (fun _ _ _ h => h) (Or.inl ⟨by kernel_rfl, ?_⟩) (by assumption) ?_
      rotate_left
      · (intro w hSw; (try dsimp only at hSw); go_simp; try (with_reducible rfl))
      try simp only [Act.put, List.setIfInBounds_toArray, List.set_cons_zero, List.set_cons_succ]
      refine take_h 1 ?_ rfl (by kernel_rfl) (by kernel_rfl) (by kernel_rfl) (fun _ _ _ h => h) (Or.inl ⟨by kernel_rfl, ?_⟩) (by assumption) ?_
      rotate_left
      · (intro w hSw; (try dsimp only at hSw); go_simp; try (with_reducible rfl))
      try simp only [Act.put, List.setIfInBounds_toArray, List.set_cons_zero, List.set_cons_succ]
      refine take_h 2 ?_ rfl (by kernel_rfl) (by kernel_rfl) (by kernel_rfl) (fun _ _ _ h => h) (Or.inl ⟨by kernel_rfl, ?_⟩) (by assumption) ?_
      rotate_left
      · (intro w hSw; (try dsimp only at hSw); go_simp; try (with_reducible rfl))
      try simp only [Act.put, List.setIfInBounds_toArray, List.set_cons_zero, List.set_cons_succ]
      refine take_h 3 ?_ rfl (by kernel_rfl) (by kernel_rfl) (by kernel_rfl) (fun _ _ _ h => h) (Or.inl ⟨by kernel_rfl, ?_⟩) (by assumption) ?_
      rotate_left
      · (intro w hSw; (try dsimp only at hSw); go_simp; try (with_reducible rfl))
      try simp only [Act.put, List.setIfInBounds_toArray, List.set_cons_zero, List.set_cons_succ]
      refine take_h 4 ?_ rfl (by kernel_rfl) (by kernel_rfl) (by kernel_rfl) (fun _ _ _ h => h) (Or.inl ⟨by kernel_rfl, ?_⟩) (by assumption) ?_
      rotate_left
      · (intro w hSw; (try dsimp only at hSw); go_simp; try (with_reducible rfl))
      try simp only [Act.put, List.setIfInBounds_toArray, List.set_cons_zero, List.set_cons_succ]
      refine take_h 5 ?_ rfl (by kernel_rfl) (by kernel_rfl) (by kernel_rfl) (fun _ _ _ h => h) (Or.inl ⟨by kernel_rfl, ?_⟩) (by assumption) ?_
      rotate_left
      · (intro w hSw; (try dsimp only at hSw); go_simp; try (with_reducible rfl))
      try simp only [Act.put, List.setIfInBounds_toArray, List.set_cons_zero, List.set_cons_succ]
      refine take_h 6 ?_ rfl (by kernel_rfl) (by kernel_rfl) (by kernel_rfl) (fun _ _ _ h => h) (Or.inl ⟨by kernel_rfl, ?_⟩) (by assumption) ?_
      rotate_left
      · (intro w hSw; (try dsimp only at hSw); go_simp; try (with_reducible rfl))
      try simp only [Act.put, List.setIfInBounds_toArray, List.set_cons_zero, List.set_cons_succ]
      refine call_h 7 rfl (by kernel_rfl) 47 #[.int .i64 K, .agg #[.int .i64 1, .int .i64 c], .int .i64 r1] (by kernel_rfl) (by go_simp) ?_
      refine (HS1.out Wb.drew).mono ?_
      rintro e w1 ⟨rfl, hb1⟩
      have hb2 : Below Wb.heap.size Wb w1 := ⟨hb1.os, hb1.tape, hb1.output, hb1.size, hb1.block⟩
      refine ⟨_, rfl, ⟨cell_later hb2 k1, cell_later hb2 k2, cell_later hb2 k3, cell_later hb2 k4⟩, fun hHeld2 => ?_⟩
      clear hHeld hb1
      try simp only [Act.put, List.setIfInBounds_toArray, List.set_cons_zero, List.set_cons_succ]
      refine take_h 8 ?_ rfl (by kernel_rfl) (by kernel_rfl) (by kernel_rfl) (fun _ _ _ h => h) (Or.inl ⟨by kernel_rfl, ?_⟩) (by assumption) ?_
      rotate_left
      · (intro w hSw; (try dsimp only at hSw); go_simp; try (with_reducible rfl))
      try simp only [Act.put, List.setIfInBounds_toArray, List.set_cons_zero, List.set_cons_succ]
      have c3 := blk hb2 (Array.getElem?_eq_some_iff.1 b3.out).1 b3.out
      have hlay : lay (rowU p q pre) (2 * (1 : Fin 3).val) [.int .i64 (p 1), .int .i64 (q 1)] = rowU p q (pre ++ [1]) := (rowU_snoc p q pre 1).symm
      refine skip_h 9 (w1.setRow (w.heap.size + 1 + 1 + 1) (rowU p q (pre ++ [1])).toArray) rfl (by kernel_rfl) (by kernel_rfl) (by rw [← hlay]; exact run_store_at 24 (.tmp 50) (.tmp 49) rfl (w.heap.size + 1 + 1 + 1) (2 * (1 : Fin 3).val) [.int .i64 (p 1), .int .i64 (q 1)] rfl rfl 44 (rowU p q pre) c3 (by kernel_rfl) (by rw [rowU_len]; simp) (by simp [Value.oneCell'])) ?_ (fun hHeld3 => ?_)
      · exact ⟨(cell_setRow_other _ _ _ _ (show w.heap.size ≠ _ by omega)).trans hHeld2.1, (cell_setRow_other _ _ _ _ (show W.heap.size ≠ _ by omega)).trans hHeld2.2.1, (cell_setRow_other _ _ _ _ (show W.heap.size ≠ _ by omega)).trans hHeld2.2.2.1, (cell_setRow_other _ _ _ _ (show w.heap.size + 1 + 1 ≠ _ by omega)).trans hHeld2.2.2.2⟩
      refine wpAnyH_done (by kernel_rfl) ?_ _
      clear hHeld2 hHeld3
      have hk1 : KeepsOthers Wb w1 := KeepsOthers.of_grownBy (grown_of_below hb2 none) (fun j o e => by cases e)
      have hk2 : KeepsOthers w1 (w1.setRow (w.heap.size + 1 + 1 + 1) (rowU p q (pre ++ [1])).toArray) := keeps_setRow c3 _
      refine ⟨hk1.trans hk2, fun r hr => (setRow_other _ _ _ _ (by rcases hr with rfl | rfl <;> omega)).trans (hb2.block r (by have := hzb.out; rcases hr with rfl | rfl <;> omega)), ?_, ?_, ?_, ?_, ?_⟩
      · exact (setRow_other _ _ _ _ (by omega)).trans (blk hb2 (Array.getElem?_eq_some_iff.1 b0.out).1 b0.out)
      · exact (setRow_other _ _ _ _ (by omega)).trans (blk hb2 (Array.getElem?_eq_some_iff.1 b2.out).1 b2.out)
      · exact setRow_heap _ _ _ _ _ _ c3
      · exact below_row (HBb.out.trans (hb2.mono HBb.out.size)) (by omega) _
      · have := hb2.size; have := hzb.out; rw [size_setRow]; omega
    · skip
      dsimp only [encPl]
      gi_wp2
      refine ⟨KeepsOthers.alloc _ _, fun r hr => Below.heap_alloc _ _ _ (by rcases hr with rfl | rfl <;> omega), fun Wb hg hsz => ?_⟩
      have keep : ∀ k o, k < s → W.heap[k]? = some o → Wb.heap[k]? = some o := fun k o hk h => (hg.block k (by rw [size_alloc]; have := (Array.getElem?_eq_some_iff.1 h).1; omega) (fun e => by have := Option.some.inj e; omega)).trans ((Below.heap_alloc _ _ _ (Array.getElem?_eq_some_iff.1 h).1).trans h)
      have b0 := Seal.mk (keep _ _ (by omega) h0)
      have b2 := Seal.mk (keep _ _ (by omega) h2)
      have b3 := Seal.mk (keep _ _ hns h3)
      have bx : Seal (Wb.heap[W.heap.size]? = some (.cells #[.int .i64 1, .int .i64 d] 24 (0, 0))) := ⟨(hg.block _ (by rw [size_alloc]; omega) (fun e => by have := Option.some.inj e; omega)).trans (heap_alloc_new W _)⟩
      have HBb : Seal (Below w.heap.size w Wb) := ⟨(hb.alloc hb.size _).grown hg (by rw [size_alloc]; have := hb.size; omega) (fun k e => by have := Option.some.inj e; omega)⟩
      have hzb : Seal (W.heap.size + 1 = Wb.heap.size) := ⟨by rw [hsz, size_alloc]⟩
      have k1 : Wb.cell? ⟨w.heap.size, 1, none⟩ = some (.int .i64 K) := by rw [cell_of_row _ _ _ _ _ _ b0.out]; simpa using HCC.out.1
      have k2 : Wb.cell? ⟨W.heap.size, 0, none⟩ = some (.int .i64 1) := by rw [cell_of_row _ _ _ _ _ _ bx.out]; rfl
      have k3 : Wb.cell? ⟨W.heap.size, 1, none⟩ = some (.int .i64 d) := by rw [cell_of_row _ _ _ _ _ _ bx.out]; rfl
      have k4 : Wb.cell? ⟨w.heap.size + 1 + 1, 2, none⟩ = some (.int .i64 r2) := by rw [cell_of_row _ _ _ _ _ _ b2.out]; rfl
      clear keep hg hsz h0 h2 h3 hb
      gi_wp2
      refine wpIn_region_held (S := fun w' => w'.cell? ⟨w.heap.size, 1, none⟩ = some (.int .i64 K) ∧ w'.cell? ⟨W.heap.size, 0, none⟩ = some (.int .i64 1) ∧ w'.cell? ⟨W.heap.size, 1, none⟩ = some (.int .i64 d) ∧ w'.cell? ⟨w.heap.size + 1 + 1, 2, none⟩ = some (.int .i64 r2)) (by kernel_rfl) (by rintro ⟨_, _, h⟩; exact h) (by kernel_rfl) ⟨k1, k2, k3, k4⟩ (fun hHeld => ?_)
      refine take_h 0 ?_ rfl (by kernel_rfl) (by kernel_rfl) (by kernel_rfl) (fun _ _ _ h => h) (Or.inl ⟨by kernel_rfl, ?_⟩) (by assumption) ?_
      rotate_left
      · (intro w hSw; (try dsimp only at hSw); go_simp; try (with_reducible rfl))
      try simp only [Act.put, List.setIfInBounds_toArray, List.set_cons_zero, List.set_cons_succ]
      refine take_h 1 ?_ rfl (by kernel_rfl) (by kernel_rfl) (by kernel_rfl) (fun _ _ _ h => h) (Or.inl ⟨by kernel_rfl, ?_⟩) (by assumption) ?_
      rotate_left
      · (intro w hSw; (try dsimp only at hSw); go_simp; try (with_reducible rfl))
      try simp only [Act.put, List.setIfInBounds_toArray, List.set_cons_zero, List.set_cons_succ]
      refine take_h 2 ?_ rfl (by kernel_rfl) (by kernel_rfl) (by kernel_rfl) (fun _ _ _ h => h) (Or.inl ⟨by kernel_rfl, ?_⟩) (by assumption) ?_
      rotate_left
      · (intro w hSw; (try dsimp only at hSw); go_simp; try (with_reducible rfl))
      try simp only [Act.put, List.setIfInBounds_toArray, List.set_cons_zero, List.set_cons_succ]
      refine take_h 3 ?_ rfl (by kernel_rfl) (by kernel_rfl) (by kernel_rfl) (fun _ _ _ h => h) (Or.inl ⟨by kernel_rfl, ?_⟩) (by assumption) ?_
      rotate_left
      · (intro w hSw; (try dsimp only at hSw); go_simp; try (with_reducible rfl))
      try simp only [Act.put, List.setIfInBounds_toArray, List.set_cons_zero, List.set_cons_succ]
      refine take_h 4 ?_ rfl (by kernel_rfl) (by kernel_rfl) (by kernel_rfl) (fun _ _ _ h => h) (Or.inl ⟨by kernel_rfl, ?_⟩) (by assumption) ?_
      rotate_left
      · (intro w hSw; (try dsimp only at hSw); go_simp; try (with_reducible rfl))
      try simp only [Act.put, List.setIfInBounds_toArray, List.set_cons_zero, List.set_cons_succ]
      refine take_h 5 ?_ rfl (by kernel_rfl) (by kernel_rfl) (by kernel_rfl) (fun _ _ _ h => h) (Or.inl ⟨by kernel_rfl, ?_⟩) (by assumption) ?_
      rotate_left
      · (intro w hSw; (try dsimp only at hSw); go_simp; try (with_reducible rfl))
      try simp only [Act.put, List.setIfInBounds_toArray, List.set_cons_zero, List.set_cons_succ]
      refine take_h 6 ?_ rfl (by kernel_rfl) (by kernel_rfl) (by kernel_rfl) (fun _ _ _ h => h) (Or.inl ⟨by kernel_rfl, ?_⟩) (by assumption) ?_
      rotate_left
      · (intro w hSw; (try dsimp only at hSw); go_simp; try (with_reducible rfl))
      try simp only [Act.put, List.setIfInBounds_toArray, List.set_cons_zero, List.set_cons_succ]
      refine call_h 7 rfl (by kernel_rfl) 47 #[.int .i64 K, .agg #[.int .i64 1, .int .i64 d], .int .i64 r2] (by kernel_rfl) (by go_simp) ?_
      refine (HS2.out Wb.drew).mono ?_
      rintro e w1 ⟨rfl, hb1⟩
      have hb2 : Below Wb.heap.size Wb w1 := ⟨hb1.os, hb1.tape, hb1.output, hb1.size, hb1.block⟩
      refine ⟨_, rfl, ⟨cell_later hb2 k1, cell_later hb2 k2, cell_later hb2 k3, cell_later hb2 k4⟩, fun hHeld2 => ?_⟩
      clear hHeld hb1
      try simp only [Act.put, List.setIfInBounds_toArray, List.set_cons_zero, List.set_cons_succ]
      refine take_h 8 ?_ rfl (by kernel_rfl) (by kernel_rfl) (by kernel_rfl) (fun _ _ _ h => h) (Or.inl ⟨by kernel_rfl, ?_⟩) (by assumption) ?_
      rotate_left
      · (intro w hSw; (try dsimp only at hSw); go_simp; try (with_reducible rfl))
      try simp only [Act.put, List.setIfInBounds_toArray, List.set_cons_zero, List.set_cons_succ]
      have c3 := blk hb2 (Array.getElem?_eq_some_iff.1 b3.out).1 b3.out
      have hlay : lay (rowU p q pre) (2 * (2 : Fin 3).val) [.int .i64 (p 2), .int .i64 (q 2)] = rowU p q (pre ++ [2]) := (rowU_snoc p q pre 2).symm
      refine skip_h 9 (w1.setRow (w.heap.size + 1 + 1 + 1) (rowU p q (pre ++ [2])).toArray) rfl (by kernel_rfl) (by kernel_rfl) (by rw [← hlay]; exact run_store_at 24 (.tmp 50) (.tmp 49) rfl (w.heap.size + 1 + 1 + 1) (2 * (2 : Fin 3).val) [.int .i64 (p 2), .int .i64 (q 2)] rfl rfl 44 (rowU p q pre) c3 (by kernel_rfl) (by rw [rowU_len]; simp) (by simp [Value.oneCell'])) ?_ (fun hHeld3 => ?_)
      · exact ⟨(cell_setRow_other _ _ _ _ (show w.heap.size ≠ _ by omega)).trans hHeld2.1, (cell_setRow_other _ _ _ _ (show W.heap.size ≠ _ by omega)).trans hHeld2.2.1, (cell_setRow_other _ _ _ _ (show W.heap.size ≠ _ by omega)).trans hHeld2.2.2.1, (cell_setRow_other _ _ _ _ (show w.heap.size + 1 + 1 ≠ _ by omega)).trans hHeld2.2.2.2⟩
      refine wpAnyH_done (by kernel_rfl) ?_ _
      clear hHeld2 hHeld3
      have hk1 : KeepsOthers Wb w1 := KeepsOthers.of_grownBy (grown_of_below hb2 none) (fun j o e => by cases e)
      have hk2 : KeepsOthers w1 (w1.setRow (w.heap.size + 1 + 1 + 1) (rowU p q (pre ++ [2])).toArray) := keeps_setRow c3 _
      refine ⟨hk1.trans hk2, fun r hr => (setRow_other _ _ _ _ (by rcases hr with rfl | rfl <;> omega)).trans (hb2.block r (by have := hzb.out; rcases hr with rfl | rfl <;> omega)), ?_, ?_, ?_, ?_, ?_⟩
      · exact (setRow_other _ _ _ _ (by omega)).trans (blk hb2 (Array.getElem?_eq_some_iff.1 b0.out).1 b0.out)
      · exact (setRow_other _ _ _ _ (by omega)).trans (blk hb2 (Array.getElem?_eq_some_iff.1 b2.out).1 b2.out)
      · exact setRow_heap _ _ _ _ _ _ c3
      · exact below_row (HBb.out.trans (hb2.mono HBb.out.size)) (by omega) _
      · have := hb2.size; have := hzb.out; rw [size_setRow]; omega
  case done =>
    rintro D xs W hD rfl ⟨h0, h2, h3, hb, hz⟩ hK
    have H3 := Seal.mk h3
    have HB := Seal.mk hb
    have J1 : Seal ((Tryz.prog.info? 44).map (·.size) = some (rowU p q [0, 1, 2]).toArray.size) := ⟨by rw [List.size_toArray, rowU_len]; kernel_rfl⟩
    have J2 : Seal ((rowU p q [0, 1, 2]).toArray.all (·.oneCell') = true) := ⟨by rw [rowU_done]; simp [Value.oneCell']⟩
    obtain ⟨R, hR⟩ : ∃ R, R = (rowU p q [0, 1, 2]).toArray := ⟨_, rfl⟩
    have HR : Seal (R = #[.int .i64 (p 0), .int .i64 (q 0), .int .i64 (p 1), .int .i64 (q 1), .int .i64 (p 2), .int .i64 (q 2)]) := ⟨by rw [hR, rowU_done]⟩
    rw [← hR] at H3 J1 J2
    clear h0 h2 h3 hb hR
    go_wp2_with (first | (refine wpList_load_row rfl 44 (.tmp 6) rfl (w.heap.size + 1 + 1 + 1) rfl 44 R (0, 0) _ H3.out Tryz.underlying44 rfl J1.out ?_) | (refine wpList_store_row rfl 44 (.tmp 6) (.tmp 51) rfl (w.heap.size + 1 + 1 + 1) R rfl rfl 44 R H3.out J1.out rfl J2.out ?_))
    have hK' := (keeps_setRow H3.out R).same D _ hK rfl
    refine ⟨by simp, .inl ⟨_, _, rfl, run_takeDeferred hK', ?_⟩⟩
    refine ⟨_, results_row_tmp (fn := Tryz.f23) rfl _ _ (w.heap.size + 1 + 1 + 1) 44 R (0, 0) _ (.int .i64 0) rfl rfl ((World.putObj_heap_other (by omega)).trans (setRow_heap _ _ _ _ _ _ H3.out)) Tryz.underlying44 rfl J1.out, by rw [HR.out], ?_⟩
    exact (below_row HB.out (by omega) _).trans (belowK_b (w := w) (Nat.le_refl _) _ D _ _ (by omega) hK' rfl rfl)

set_option maxHeartbeats 2000000 in
theorem ouse_wrong (L K P Q a b r0 r1 r2 : Int) (T : Bytes) (t : Bool) (w : World) (hG : Glob w) (hL : I64 L) (hK : I64 K) (hP : I64 P) (hQ : I64 Q) (hT : T.length = 32) (ht : chkB L K P Q T = t) (h0 : t = false)  :
    Calls Tryz.prog 23 #[.agg (retC L K P Q T).toArray, .agg #[.int .i64 a, .int .i64 b], .agg #[.int .i64 r0, .int .i64 r1, .int .i64 r2]] w fun e w' =>
      e = .returned (.tuple #[.agg #[.int .i64 0, .int .i64 0, .int .i64 0, .int .i64 0, .int .i64 0, .int .i64 0], .int .i64 160]) ∧ Below w.heap.size w w' := by
  obtain ⟨C, hC⟩ : ∃ C, C = retC L K P Q T := ⟨_, rfl⟩
  have I1 : Seal ((Tryz.prog.info? 28).map (·.size) = some C.toArray.size) := ⟨by rw [hC, List.size_toArray]; exact retC_info hT⟩
  obtain ⟨Z, hZ⟩ : ∃ Z : Array Value, Z = #[.int .i64 0, .int .i64 0, .int .i64 0, .int .i64 0, .int .i64 0, .int .i64 0] := ⟨_, rfl⟩
  have HZ : Seal (Z = #[.int .i64 0, .int .i64 0, .int .i64 0, .int .i64 0, .int .i64 0, .int .i64 0]) := ⟨hZ⟩
  have J1 : Seal ((Tryz.prog.info? 44).map (·.size) = some Z.size) := ⟨by rw [hZ]; kernel_rfl⟩
  have J2 : Seal (Z.all (·.oneCell') = true) := ⟨by rw [hZ]; simp [Value.oneCell']⟩
  obtain ⟨X, hX⟩ : ∃ X : World, X = (((w.alloc (.cells C.toArray 28)).alloc (.cells #[.int .i64 a, .int .i64 b] 41)).alloc (.cells #[.int .i64 r0, .int .i64 r1, .int .i64 r2] 42)).alloc (.cells #[.int .i64 0, .int .i64 0, .int .i64 0, .int .i64 0, .int .i64 0, .int .i64 0] 44) := ⟨_, rfl⟩
  have hXb : Seal (Below w.heap.size w X) := ⟨by rw [hX]; exact ((((Below.refl _ w).alloc (Nat.le_refl _) _).alloc (by simp) _).alloc (by simp <;> omega) _).alloc (by simp <;> omega) _⟩
  have hXs : Seal (X.heap.size = w.heap.size + 4) := ⟨by rw [hX]; simp⟩
  have hX0 : Seal (X.heap[w.heap.size]? = some (.cells C.toArray 28 (0, 0))) := ⟨by rw [hX, Below.heap_alloc _ _ _ (by simp <;> omega), Below.heap_alloc _ _ _ (by simp <;> omega), Below.heap_alloc _ _ _ (by simp)]; exact heap_alloc_new w _⟩
  have hX1 : Seal (X.heap[w.heap.size + 1]? = some (.cells #[.int .i64 a, .int .i64 b] 41 (0, 0))) := ⟨by rw [hX, Below.heap_alloc _ _ _ (by simp <;> omega), Below.heap_alloc _ _ _ (by simp)]; have := heap_alloc_new (w.alloc (.cells C.toArray 28)) (.cells #[.int .i64 a, .int .i64 b] 41); rwa [size_alloc] at this⟩
  have hX3 : Seal (X.heap[w.heap.size + 1 + 1 + 1]? = some (.cells Z 44 (0, 0))) := ⟨by rw [hX, hZ]; have := heap_alloc_new (((w.alloc (.cells C.toArray 28)).alloc (.cells #[.int .i64 a, .int .i64 b] 41)).alloc (.cells #[.int .i64 r0, .int .i64 r1, .int .i64 r2] 42)) (.cells #[.int .i64 0, .int .i64 0, .int .i64 0, .int .i64 0, .int .i64 0, .int .i64 0] 44); rwa [size_alloc, size_alloc, size_alloc] at this⟩
  have HK0 : Seal (Calls Tryz.prog 44 #[.agg C.toArray] X fun e w' => e = .returned (.int .i64 (if t = true then 0 else 160)) ∧ Below X.heap.size X w') := ⟨by rw [hC]; exact ocheck_any L K P Q T t X (hG.below hXb.out) hL hK hP hQ hT ht⟩
  rw [← hC]
  subst h0
  clear hG hT ht hC hZ
  have i0 : ∀ w, (Instr.index 41 (.agg #[.int .i64 a, .int .i64 b]) (.int .i64 0)).run Tryz.prog w = .ok (.int .i64 a) w := fun _ => by kernel_rfl
  have i1 : ∀ w, (Instr.index 41 (.agg #[.int .i64 a, .int .i64 b]) (.int .i64 1)).run Tryz.prog w = .ok (.int .i64 b) w := fun _ => by kernel_rfl
  go_enter Tryz.func23, Tryz.ntmps23
  go_upto_region 1 with (fail)
  rw [← hX]
  clear hX
  go_wp2_with (first | (refine wpList_load_row rfl 28 (.tmp 3) rfl w.heap.size rfl 28 C.toArray (0, 0) _ hX0.out Tryz.underlying28 rfl I1.out ?_))
  refine HK0.out.mono ?_
  rintro e wc ⟨rfl, hbc⟩
  have hsz := hXs.out
  have HBc : Seal (Below w.heap.size w wc) := ⟨hXb.out.trans (hbc.mono hXb.out.size)⟩
  have R1 : Seal (wc.heap[w.heap.size + 1]? = some (.cells #[.int .i64 a, .int .i64 b] 41 (0, 0))) := ⟨blk hbc (by omega) hX1.out⟩
  have R3 : Seal (wc.heap[w.heap.size + 1 + 1 + 1]? = some (.cells Z 44 (0, 0))) := ⟨blk hbc (by omega) hX3.out⟩
  have k10 : wc.cell? ⟨w.heap.size + 1, 0, none⟩ = some (.int .i64 a) := by rw [cell_of_row _ _ _ _ _ _ R1.out]; rfl
  have k11 : wc.cell? ⟨w.heap.size + 1, 1, none⟩ = some (.int .i64 b) := by rw [cell_of_row _ _ _ _ _ _ R1.out]; rfl
  have f10 : wc.frozen? ⟨w.heap.size + 1, 0, none⟩ = false := frozen_of_row _ _ _ _ _ R1.out
  have f11 : wc.frozen? ⟨w.heap.size + 1, 1, none⟩ = false := frozen_of_row _ _ _ _ _ R1.out
  clear hbc hsz
  go_wp2_with (first | (refine wpList_load_row rfl 44 (.tmp 6) rfl (w.heap.size + 1 + 1 + 1) rfl 44 Z (0, 0) _ R3.out Tryz.underlying44 rfl J1.out ?_) | (refine wpList_store_row rfl 44 (.tmp 6) (.tmp 18) rfl (w.heap.size + 1 + 1 + 1) Z rfl rfl 44 Z R3.out J1.out rfl J2.out ?_))
  exact bodyPost_ret (results_row_tmp (fn := Tryz.f23) rfl _ _ (w.heap.size + 1 + 1 + 1) 44 Z (0, 0) _ _ rfl rfl (setRow_heap _ _ _ _ _ _ R3.out) Tryz.underlying44 rfl J1.out) rfl ⟨by rw [HZ.out]; rfl, below_row HBc.out (by omega) _⟩
set_option maxHeartbeats 2000000 in
theorem ouse_one (L K P Q a b r0 r1 r2 : Int) (T : Bytes) (t : Bool) (w : World) (hG : Glob w) (hL : I64 L) (hK : I64 K) (hP : I64 P) (hQ : I64 Q) (hT : T.length = 32) (ht : chkB L K P Q T = t) (h0 : t = true) (ha : Seal (a < 1 ∨ 1073741789 < a)) :
    Calls Tryz.prog 23 #[.agg (retC L K P Q T).toArray, .agg #[.int .i64 a, .int .i64 b], .agg #[.int .i64 r0, .int .i64 r1, .int .i64 r2]] w fun e w' =>
      e = .returned (.tuple #[.agg #[.int .i64 0, .int .i64 0, .int .i64 0, .int .i64 0, .int .i64 0, .int .i64 0], .int .i64 100]) ∧ Below w.heap.size w w' := by
  obtain ⟨C, hC⟩ : ∃ C, C = retC L K P Q T := ⟨_, rfl⟩
  have I1 : Seal ((Tryz.prog.info? 28).map (·.size) = some C.toArray.size) := ⟨by rw [hC, List.size_toArray]; exact retC_info hT⟩
  obtain ⟨Z, hZ⟩ : ∃ Z : Array Value, Z = #[.int .i64 0, .int .i64 0, .int .i64 0, .int .i64 0, .int .i64 0, .int .i64 0] := ⟨_, rfl⟩
  have HZ : Seal (Z = #[.int .i64 0, .int .i64 0, .int .i64 0, .int .i64 0, .int .i64 0, .int .i64 0]) := ⟨hZ⟩
  have J1 : Seal ((Tryz.prog.info? 44).map (·.size) = some Z.size) := ⟨by rw [hZ]; kernel_rfl⟩
  have J2 : Seal (Z.all (·.oneCell') = true) := ⟨by rw [hZ]; simp [Value.oneCell']⟩
  obtain ⟨X, hX⟩ : ∃ X : World, X = (((w.alloc (.cells C.toArray 28)).alloc (.cells #[.int .i64 a, .int .i64 b] 41)).alloc (.cells #[.int .i64 r0, .int .i64 r1, .int .i64 r2] 42)).alloc (.cells #[.int .i64 0, .int .i64 0, .int .i64 0, .int .i64 0, .int .i64 0, .int .i64 0] 44) := ⟨_, rfl⟩
  have hXb : Seal (Below w.heap.size w X) := ⟨by rw [hX]; exact ((((Below.refl _ w).alloc (Nat.le_refl _) _).alloc (by simp) _).alloc (by simp <;> omega) _).alloc (by simp <;> omega) _⟩
  have hXs : Seal (X.heap.size = w.heap.size + 4) := ⟨by rw [hX]; simp⟩
  have hX0 : Seal (X.heap[w.heap.size]? = some (.cells C.toArray 28 (0, 0))) := ⟨by rw [hX, Below.heap_alloc _ _ _ (by simp <;> omega), Below.heap_alloc _ _ _ (by simp <;> omega), Below.heap_alloc _ _ _ (by simp)]; exact heap_alloc_new w _⟩
  have hX1 : Seal (X.heap[w.heap.size + 1]? = some (.cells #[.int .i64 a, .int .i64 b] 41 (0, 0))) := ⟨by rw [hX, Below.heap_alloc _ _ _ (by simp <;> omega), Below.heap_alloc _ _ _ (by simp)]; have := heap_alloc_new (w.alloc (.cells C.toArray 28)) (.cells #[.int .i64 a, .int .i64 b] 41); rwa [size_alloc] at this⟩
  have hX3 : Seal (X.heap[w.heap.size + 1 + 1 + 1]? = some (.cells Z 44 (0, 0))) := ⟨by rw [hX, hZ]; have := heap_alloc_new (((w.alloc (.cells C.toArray 28)).alloc (.cells #[.int .i64 a, .int .i64 b] 41)).alloc (.cells #[.int .i64 r0, .int .i64 r1, .int .i64 r2] 42)) (.cells #[.int .i64 0, .int .i64 0, .int .i64 0, .int .i64 0, .int .i64 0, .int .i64 0] 44); rwa [size_alloc, size_alloc, size_alloc] at this⟩
  have HK0 : Seal (Calls Tryz.prog 44 #[.agg C.toArray] X fun e w' => e = .returned (.int .i64 (if t = true then 0 else 160)) ∧ Below X.heap.size X w') := ⟨by rw [hC]; exact ocheck_any L K P Q T t X (hG.below hXb.out) hL hK hP hQ hT ht⟩
  rw [← hC]
  subst h0
  clear hG hT ht hC hZ
  have i0 : ∀ w, (Instr.index 41 (.agg #[.int .i64 a, .int .i64 b]) (.int .i64 0)).run Tryz.prog w = .ok (.int .i64 a) w := fun _ => by kernel_rfl
  have i1 : ∀ w, (Instr.index 41 (.agg #[.int .i64 a, .int .i64 b]) (.int .i64 1)).run Tryz.prog w = .ok (.int .i64 b) w := fun _ => by kernel_rfl
  go_enter Tryz.func23, Tryz.ntmps23
  go_upto_region 1 with (fail)
  rw [← hX]
  clear hX
  go_wp2_with (first | (refine wpList_load_row rfl 28 (.tmp 3) rfl w.heap.size rfl 28 C.toArray (0, 0) _ hX0.out Tryz.underlying28 rfl I1.out ?_))
  refine HK0.out.mono ?_
  rintro e wc ⟨rfl, hbc⟩
  have hsz := hXs.out
  have HBc : Seal (Below w.heap.size w wc) := ⟨hXb.out.trans (hbc.mono hXb.out.size)⟩
  have R1 : Seal (wc.heap[w.heap.size + 1]? = some (.cells #[.int .i64 a, .int .i64 b] 41 (0, 0))) := ⟨blk hbc (by omega) hX1.out⟩
  have R3 : Seal (wc.heap[w.heap.size + 1 + 1 + 1]? = some (.cells Z 44 (0, 0))) := ⟨blk hbc (by omega) hX3.out⟩
  have k10 : wc.cell? ⟨w.heap.size + 1, 0, none⟩ = some (.int .i64 a) := by rw [cell_of_row _ _ _ _ _ _ R1.out]; rfl
  have k11 : wc.cell? ⟨w.heap.size + 1, 1, none⟩ = some (.int .i64 b) := by rw [cell_of_row _ _ _ _ _ _ R1.out]; rfl
  have f10 : wc.frozen? ⟨w.heap.size + 1, 0, none⟩ = false := frozen_of_row _ _ _ _ _ R1.out
  have f11 : wc.frozen? ⟨w.heap.size + 1, 1, none⟩ = false := frozen_of_row _ _ _ _ _ R1.out
  clear hbc hsz
  go_wp2
  refine wp_loop_rounds 3 ?_
  rw [rounds_succ]
  go_wp2_with (first | (go_at_call 45; refine (element_no a _ ha.out).mono ?_; rintro e w' ⟨rfl, rfl⟩) | (refine wpList_load_row rfl 44 (.tmp 6) rfl (w.heap.size + 1 + 1 + 1) rfl 44 Z (0, 0) _ R3.out Tryz.underlying44 rfl J1.out ?_) | (refine wpList_store_row rfl 44 (.tmp 6) (.tmp 32) rfl (w.heap.size + 1 + 1 + 1) Z rfl rfl 44 Z R3.out J1.out rfl J2.out ?_))
  exact bodyPost_ret (results_row_tmp (fn := Tryz.f23) rfl _ _ (w.heap.size + 1 + 1 + 1) 44 Z (0, 0) _ _ rfl rfl (setRow_heap _ _ _ _ _ _ R3.out) Tryz.underlying44 rfl J1.out) rfl ⟨by rw [HZ.out]; rfl, below_row HBc.out (by omega) _⟩
set_option maxHeartbeats 2000000 in
theorem ouse_two (L K P Q a b r0 r1 r2 : Int) (T : Bytes) (t : Bool) (w : World) (hG : Glob w) (hL : I64 L) (hK : I64 K) (hP : I64 P) (hQ : I64 Q) (hT : T.length = 32) (ht : chkB L K P Q T = t) (h0 : t = true) (ha : 1 ≤ a ∧ a ≤ 1073741789) (hb : Seal (b < 1 ∨ 1073741789 < b)) :
    Calls Tryz.prog 23 #[.agg (retC L K P Q T).toArray, .agg #[.int .i64 a, .int .i64 b], .agg #[.int .i64 r0, .int .i64 r1, .int .i64 r2]] w fun e w' =>
      e = .returned (.tuple #[.agg #[.int .i64 0, .int .i64 0, .int .i64 0, .int .i64 0, .int .i64 0, .int .i64 0], .int .i64 100]) ∧ Below w.heap.size w w' := by
  obtain ⟨c, hc⟩ : ∃ c, Seal (elB a = c) := ⟨_, ⟨rfl⟩⟩
  obtain ⟨C, hC⟩ : ∃ C, C = retC L K P Q T := ⟨_, rfl⟩
  have I1 : Seal ((Tryz.prog.info? 28).map (·.size) = some C.toArray.size) := ⟨by rw [hC, List.size_toArray]; exact retC_info hT⟩
  obtain ⟨Z, hZ⟩ : ∃ Z : Array Value, Z = #[.int .i64 0, .int .i64 0, .int .i64 0, .int .i64 0, .int .i64 0, .int .i64 0] := ⟨_, rfl⟩
  have HZ : Seal (Z = #[.int .i64 0, .int .i64 0, .int .i64 0, .int .i64 0, .int .i64 0, .int .i64 0]) := ⟨hZ⟩
  have J1 : Seal ((Tryz.prog.info? 44).map (·.size) = some Z.size) := ⟨by rw [hZ]; kernel_rfl⟩
  have J2 : Seal (Z.all (·.oneCell') = true) := ⟨by rw [hZ]; simp [Value.oneCell']⟩
  obtain ⟨X, hX⟩ : ∃ X : World, X = (((w.alloc (.cells C.toArray 28)).alloc (.cells #[.int .i64 a, .int .i64 b] 41)).alloc (.cells #[.int .i64 r0, .int .i64 r1, .int .i64 r2] 42)).alloc (.cells #[.int .i64 0, .int .i64 0, .int .i64 0, .int .i64 0, .int .i64 0, .int .i64 0] 44) := ⟨_, rfl⟩
  have hXb : Seal (Below w.heap.size w X) := ⟨by rw [hX]; exact ((((Below.refl _ w).alloc (Nat.le_refl _) _).alloc (by simp) _).alloc (by simp <;> omega) _).alloc (by simp <;> omega) _⟩
  have hXs : Seal (X.heap.size = w.heap.size + 4) := ⟨by rw [hX]; simp⟩
  have hX0 : Seal (X.heap[w.heap.size]? = some (.cells C.toArray 28 (0, 0))) := ⟨by rw [hX, Below.heap_alloc _ _ _ (by simp <;> omega), Below.heap_alloc _ _ _ (by simp <;> omega), Below.heap_alloc _ _ _ (by simp)]; exact heap_alloc_new w _⟩
  have hX1 : Seal (X.heap[w.heap.size + 1]? = some (.cells #[.int .i64 a, .int .i64 b] 41 (0, 0))) := ⟨by rw [hX, Below.heap_alloc _ _ _ (by simp <;> omega), Below.heap_alloc _ _ _ (by simp)]; have := heap_alloc_new (w.alloc (.cells C.toArray 28)) (.cells #[.int .i64 a, .int .i64 b] 41); rwa [size_alloc] at this⟩
  have hX3 : Seal (X.heap[w.heap.size + 1 + 1 + 1]? = some (.cells Z 44 (0, 0))) := ⟨by rw [hX, hZ]; have := heap_alloc_new (((w.alloc (.cells C.toArray 28)).alloc (.cells #[.int .i64 a, .int .i64 b] 41)).alloc (.cells #[.int .i64 r0, .int .i64 r1, .int .i64 r2] 42)) (.cells #[.int .i64 0, .int .i64 0, .int .i64 0, .int .i64 0, .int .i64 0, .int .i64 0] 44); rwa [size_alloc, size_alloc, size_alloc] at this⟩
  have HK0 : Seal (Calls Tryz.prog 44 #[.agg C.toArray] X fun e w' => e = .returned (.int .i64 (if t = true then 0 else 160)) ∧ Below X.heap.size X w') := ⟨by rw [hC]; exact ocheck_any L K P Q T t X (hG.below hXb.out) hL hK hP hQ hT ht⟩
  rw [← hC]
  subst h0
  clear hG hT ht hC hZ
  have i0 : ∀ w, (Instr.index 41 (.agg #[.int .i64 a, .int .i64 b]) (.int .i64 0)).run Tryz.prog w = .ok (.int .i64 a) w := fun _ => by kernel_rfl
  have i1 : ∀ w, (Instr.index 41 (.agg #[.int .i64 a, .int .i64 b]) (.int .i64 1)).run Tryz.prog w = .ok (.int .i64 b) w := fun _ => by kernel_rfl
  go_enter Tryz.func23, Tryz.ntmps23
  go_upto_region 1 with (fail)
  rw [← hX]
  clear hX
  go_wp2_with (first | (refine wpList_load_row rfl 28 (.tmp 3) rfl w.heap.size rfl 28 C.toArray (0, 0) _ hX0.out Tryz.underlying28 rfl I1.out ?_))
  refine HK0.out.mono ?_
  rintro e wc ⟨rfl, hbc⟩
  have hsz := hXs.out
  have HBc : Seal (Below w.heap.size w wc) := ⟨hXb.out.trans (hbc.mono hXb.out.size)⟩
  have R1 : Seal (wc.heap[w.heap.size + 1]? = some (.cells #[.int .i64 a, .int .i64 b] 41 (0, 0))) := ⟨blk hbc (by omega) hX1.out⟩
  have R3 : Seal (wc.heap[w.heap.size + 1 + 1 + 1]? = some (.cells Z 44 (0, 0))) := ⟨blk hbc (by omega) hX3.out⟩
  have k10 : wc.cell? ⟨w.heap.size + 1, 0, none⟩ = some (.int .i64 a) := by rw [cell_of_row _ _ _ _ _ _ R1.out]; rfl
  have k11 : wc.cell? ⟨w.heap.size + 1, 1, none⟩ = some (.int .i64 b) := by rw [cell_of_row _ _ _ _ _ _ R1.out]; rfl
  have f10 : wc.frozen? ⟨w.heap.size + 1, 0, none⟩ = false := frozen_of_row _ _ _ _ _ R1.out
  have f11 : wc.frozen? ⟨w.heap.size + 1, 1, none⟩ = false := frozen_of_row _ _ _ _ _ R1.out
  clear hbc hsz
  go_wp2
  refine wp_loop_rounds 3 ?_
  rw [rounds_succ]
  go_wp2_with (go_at_call 45; refine (element_yes a c _ ha.1 ha.2 hc).mono ?_; rintro e w' ⟨rfl, rfl⟩)
  rw [rounds_succ]
  have R4 : Seal ((wc.setCell ⟨w.heap.size + 1, 0, none⟩ (.int .i64 c)).heap[w.heap.size + 1 + 1 + 1]? = some (.cells Z 44 (0, 0))) := ⟨(Below.heap_setCell _ _ _ _ (show w.heap.size + 1 + 1 + 1 ≠ w.heap.size + 1 by omega)).trans R3.out⟩
  go_wp2_with (first | (go_at_call 45; refine (element_no b _ hb.out).mono ?_; rintro e w' ⟨rfl, rfl⟩) | (refine wpList_load_row rfl 44 (.tmp 6) rfl (w.heap.size + 1 + 1 + 1) rfl 44 Z (0, 0) _ R4.out Tryz.underlying44 rfl J1.out ?_) | (refine wpList_store_row rfl 44 (.tmp 6) (.tmp 32) rfl (w.heap.size + 1 + 1 + 1) Z rfl rfl 44 Z R4.out J1.out rfl J2.out ?_))
  exact bodyPost_ret (results_row_tmp (fn := Tryz.f23) rfl _ _ (w.heap.size + 1 + 1 + 1) 44 Z (0, 0) _ _ rfl rfl (setRow_heap _ _ _ _ _ _ R4.out) Tryz.underlying44 rfl J1.out) rfl ⟨by rw [HZ.out]; rfl, below_row (HBc.out.setCell (p := ⟨w.heap.size + 1, 0, none⟩) (by simp) _) (by omega) _⟩

/-- what Use returns: six numbers, the error -/
def useF (t : Bool) (K P Q a b r0 r1 r2 : Int) : Int × Int × Int × Int × Int × Int × Int :=
  if t = true then (if 1 ≤ a ∧ a ≤ 1073741789 then (if 1 ≤ b ∧ b ≤ 1073741789 then
    (((mp P.toNat (pw 4 r0) : Nat) : Int), ((mp Q.toNat (pw K.toNat r0) : Nat) : Int), ((mp (1 : Int).toNat (pw 4 r1) : Nat) : Int), ((mp (elB a).toNat (pw K.toNat r1) : Nat) : Int),
      ((mp (1 : Int).toNat (pw 4 r2) : Nat) : Int), ((mp (elB b).toNat (pw K.toNat r2) : Nat) : Int), 0)
    else (0, 0, 0, 0, 0, 0, 100)) else (0, 0, 0, 0, 0, 0, 100)) else (0, 0, 0, 0, 0, 0, 160)

theorem ouse_any (L K P Q a b r0 r1 r2 x0 y0 x1 y1 x2 y2 e : Int) (T : Bytes) (w : World) (hG : Glob w) (hL : I64 L) (hK : I64 K) (hP : I64 P) (hQ : I64 Q) (hT : T.length = 32) (hr0 : I64 r0) (hr1 : I64 r1) (hr2 : I64 r2)
    (h : Seal (useF (chkB L K P Q T) K P Q a b r0 r1 r2 = (x0, y0, x1, y1, x2, y2, e))) :
    Calls Tryz.prog 23 #[.agg (retC L K P Q T).toArray, .agg #[.int .i64 a, .int .i64 b], .agg #[.int .i64 r0, .int .i64 r1, .int .i64 r2]] w fun e' w' =>
      e' = .returned (.tuple #[.agg #[.int .i64 x0, .int .i64 y0, .int .i64 x1, .int .i64 y1, .int .i64 x2, .int .i64 y2], .int .i64 e]) ∧ Below w.heap.size w w' := by
  have h' := h.out
  unfold useF at h'
  cases hc : chkB L K P Q T with
  | false =>
    rw [hc, if_neg (by decide)] at h'
    simp only [Prod.mk.injEq] at h'
    obtain ⟨rfl, rfl, rfl, rfl, rfl, rfl, rfl⟩ := h'
    exact ouse_wrong L K P Q a b r0 r1 r2 T false w hG hL hK hP hQ hT hc rfl
  | true =>
    rw [hc, if_pos rfl] at h'
    by_cases ha : 1 ≤ a ∧ a ≤ 1073741789
    · rw [if_pos ha] at h'
      by_cases hb : 1 ≤ b ∧ b ≤ 1073741789
      · rw [if_pos hb] at h'
        simp only [Prod.mk.injEq] at h'
        obtain ⟨h1, h2, h3, h4, h5, h6, rfl⟩ := h'
        exact ouse_yes L K P Q a b (elB a) (elB b) r0 r1 r2 T (fun | 0 => x0 | 1 => x1 | 2 => x2) (fun | 0 => y0 | 1 => y1 | 2 => y2) w hG hL hK hP hQ hT hc ha hb ⟨rfl⟩ ⟨rfl⟩ hr0 hr1 hr2 ⟨h1⟩ ⟨h2⟩ ⟨h3⟩ ⟨h4⟩ ⟨h5⟩ ⟨h6⟩
      · rw [if_neg hb] at h'
        simp only [Prod.mk.injEq] at h'
        obtain ⟨rfl, rfl, rfl, rfl, rfl, rfl, rfl⟩ := h'
        exact ouse_two L K P Q a b r0 r1 r2 T true w hG hL hK hP hQ hT hc rfl ha ⟨by omega⟩
    · rw [if_neg ha] at h'
      simp only [Prod.mk.injEq] at h'
      obtain ⟨rfl, rfl, rfl, rfl, rfl, rfl, rfl⟩ := h'
      exact ouse_one L K P Q a b r0 r1 r2 T true w hG hL hK hP hQ hT hc rfl ⟨by omega⟩
end Frk
