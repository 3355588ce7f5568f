/- Law 45: the examples: two letters; kept. -/
import Derived.Test.YtemoomfnmiodeaaGreatDoorVuKvr
namespace Frk
open Go Go.RowKit Go.Proofs
set_option maxRecDepth 100000

/-- an example's letter -/
def exK (n u : Int) : Ltr := ⟨n, u, 0, 1, ((mp (1 : Int).toNat (pw 4 (n + 1)) : Nat) : Int), ((mp (elB 7).toNat (pw (1 : Int).toNat (n + 1)) : Nat) : Int), rtag 0 1 ((mp (1 : Int).toNat (pw 4 (n + 1)) : Nat) : Int) ((mp (elB 7).toNat (pw (1 : Int).toNat (n + 1)) : Nat) : Int)⟩
theorem vd1 : vd 1 = true := by decide +kernel
theorem exK_make (n u : Int) : makeF 0 1 7 (n + 1) = (0, 1, (exK n u).P, (exK n u).Q, (exK n u).T, 0) := by
  unfold makeF
  rw [if_neg (by omega), if_pos vd1, if_pos (by omega)]
  rfl
theorem k_i64_mp (a b : Nat) : I64 ((mp a b : Nat) : Int) := by
  have h := mp_lt a b
  have hP : P = 2147483579 := rfl
  exact ⟨by omega, by omega⟩
theorem k_vd_cast {n : Int} (h : vd n = true) : ∃ a : Nat, n = a ∧ Vd a ∧ a < P := by
  obtain ⟨a, rfl, ha⟩ := vd_of_vd h
  exact ⟨a, rfl, ha, ha.2.1⟩
theorem k_make_chk {L K al r a b c d : Int} {T : Bytes} (h : makeF L K al r = (a, b, c, d, T, 0)) : chkB a b c d T = true := by
  unfold makeF at h
  split at h
  · simp at h
  · rename_i hL
    split at h
    · rename_i hK
      split at h
      · rename_i ha
        simp only [Prod.mk.injEq] at h
        obtain ⟨rfl, rfl, rfl, rfl, rfl, _⟩ := h
        obtain ⟨k, rfl, vk⟩ := vd_of_vd hK
        obtain ⟨e, he, ve, _⟩ := k_vd_cast (elB_vd ha.1 ha.2)
        have v1 : Vd 1 := (vd_iff _).1 (by decide +kernel)
        have w1 : vd ((mp (1 : Int).toNat (pw 4 r) : Nat) : Int) = true := (vd_iff _).2 (v1.mp (Vd.pw vd4 r))
        have w2 : vd ((mp (elB al).toNat (pw (k : Int).toNat r) : Nat) : Int) = true := by
          rw [he, Int.toNat_natCast, Int.toNat_natCast]; exact (vd_iff _).2 (ve.mp (vk.pw r))
        unfold chkB
        rw [decide_eq_true (by omega), decide_eq_true (by omega), hK, w1, w2]
        simp
      · simp at h
    · simp at h
theorem exK_ok {n u : Int} (hn : I64 n) (hu : I64 u) : (exK n u).ok := ⟨hn, hu, (⟨by decide, by decide⟩ : I64 0), (⟨by decide, by decide⟩ : I64 1), k_i64_mp _ _, k_i64_mp _ _, sha_length _⟩
theorem exK_okK {n u : Int} (h1 : 0 ≤ n) (h2 : 0 ≤ u) (h3 : n ≤ 1048576) (h4 : u < 2097152) : okK (exK n u) = true := by
  unfold okK
  have h := k_make_chk (exK_make n u)
  rw [show (exK n u).N = n from rfl, show (exK n u).U = u from rfl, show (exK n u).L = 0 from rfl, show (exK n u).K = 1 from rfl, h, decide_eq_true h1, decide_eq_true h2, decide_eq_true h3, decide_eq_true h4]
  rfl

theorem kt_zero : ∃ zl : List Value, ((List.toArray (.int .i64 0 :: .int .i64 0 :: .int .i64 0 :: .int .i64 0 :: .int .i64 0 :: .int .i64 0 :: .int .u8 0 :: .int .u8 0 :: .int .u8 0 :: .int .u8 0 :: .int .u8 0 :: .int .u8 0 :: .int .u8 0 :: .int .u8 0 :: .int .u8 0 :: .int .u8 0 :: .int .u8 0 :: .int .u8 0 :: .int .u8 0 :: .int .u8 0 :: .int .u8 0 :: .int .u8 0 :: .int .u8 0 :: .int .u8 0 :: .int .u8 0 :: .int .u8 0 :: .int .u8 0 :: .int .u8 0 :: .int .u8 0 :: .int .u8 0 :: .int .u8 0 :: .int .u8 0 :: .int .u8 0 :: .int .u8 0 :: .int .u8 0 :: .int .u8 0 :: .int .u8 0 :: .int .u8 0 :: [] : List Value) : Array Value) : Array Value) = zl.toArray ∧ zl.length = 38 := ⟨_, rfl, rfl⟩
theorem zeroKt (w : World) : (zeroValue 30).run Tryz.prog w = .ok (.agg (List.toArray (.int .i64 0 :: .int .i64 0 :: .int .i64 0 :: .int .i64 0 :: .int .i64 0 :: .int .i64 0 :: .int .u8 0 :: .int .u8 0 :: .int .u8 0 :: .int .u8 0 :: .int .u8 0 :: .int .u8 0 :: .int .u8 0 :: .int .u8 0 :: .int .u8 0 :: .int .u8 0 :: .int .u8 0 :: .int .u8 0 :: .int .u8 0 :: .int .u8 0 :: .int .u8 0 :: .int .u8 0 :: .int .u8 0 :: .int .u8 0 :: .int .u8 0 :: .int .u8 0 :: .int .u8 0 :: .int .u8 0 :: .int .u8 0 :: .int .u8 0 :: .int .u8 0 :: .int .u8 0 :: .int .u8 0 :: .int .u8 0 :: .int .u8 0 :: .int .u8 0 :: .int .u8 0 :: .int .u8 0 :: [] : List Value) : Array Value)) w := by kernel_rfl
theorem run_build_kt (n u : Int) (C : List Value) (hC : C.length = 36) (w : World) :
    (Instr.build 30 #[(0, .int .i64 n), (1, .int .i64 u), (2, .agg C.toArray)]).run Tryz.prog w = .ok (.agg (.int .i64 n :: .int .i64 u :: C).toArray) w := by
  obtain ⟨zl, hz, hl⟩ := kt_zero
  have hz' := zeroKt w
  rw [hz] at hz'
  have hs : (Go.sizeOf 3).run Tryz.prog w = .ok 1 w := by kernel_rfl
  have e1 : (zl.set 0 (.int .i64 n)).set 1 (.int .i64 u) = lay zl 0 [.int .i64 n, .int .i64 u] := by
    match zl, hl with
    | x :: y :: t, _ => simp [lay]
  have e2 := fold_lay_at 2 C 0 (lay zl 0 [.int .i64 n, .int .i64 u]) (by rw [length_lay (by simp; omega)]; omega)
  have e3 : lay (lay zl 0 [.int .i64 n, .int .i64 u]) (2 + 0) C = .int .i64 n :: .int .i64 u :: C := by
    unfold lay
    simp only [Nat.zero_add, Nat.add_zero, List.take_zero, List.nil_append]
    rw [List.take_left' (by simp), List.drop_of_length_le (by rw [List.length_append, List.length_drop]; simp; omega), List.append_nil]
    rfl
  unfold Instr.build
  simp [hz', run_underlying Tryz.underlying30, hs, Result.andThen, Instr.fill, Value.cells, hC, hl]
  rw [e1, e2, e3]
theorem exec_build_kt {ρ : Operand → Value} {op : Oper} {x y z : Operand} (ho : op.op = .build 30 #[(0, x), (1, y), (2, z)]) (n u : Int) (C : List Value) (hC : C.length = 36) (hx : ρ x = .int .i64 n) (hy : ρ y = .int .i64 u) (hz : ρ z = .agg C.toArray) (w : World) :
    (execOp ρ op).run Tryz.prog w = .ok (.value (.agg (.int .i64 n :: .int .i64 u :: C).toArray)) w := by
  have h := run_build_kt n u C hC w
  unfold execOp
  rw [ho]
  simp [hx, hy, hz, h, Result.andThen]
theorem wpList_build_kt {ops : Array Oper} {rest : List Oper} {op : Oper} {a : Act} {w : World} {Q : Exit → Act → World → Prop} (hg : op.guard = none) (x y z : Operand) (ho : op.op = .build 30 #[(0, x), (1, y), (2, z)])
    (n u : Int) (C : List Value) (hC : C.length = 36) (hx : a.eval x = .int .i64 n) (hy : a.eval y = .int .i64 u) (hz : a.eval z = .agg C.toArray) (h : wpList Tryz.prog ops Q rest (a.put op.dst (.agg (.int .i64 n :: .int .i64 u :: C).toArray)) w) :
    wpList Tryz.prog ops Q (op :: rest) a w :=
  wpList_plain hg fun K hK' => by unfold Oper.wp; rw [exec_build_kt ho n u C hC hx hy hz]; exact hK' _ _ h

/-- a new variable that is written at once -/
theorem newv (w : World) (Z : Array Value) (D : List Value) (t : TypeId) : ∃ V g, g = w.heap.size ∧ (w.alloc (.cells Z t)).setRow g D.toArray = V ∧ (w.alloc (.cells Z t)).heap[g]? = some (.cells Z t (0, 0)) ∧ Ko V (fun W => W.rangeAt g 0 D) ∧ Below w.heap.size w V ∧ V.heap[g]? = some (.cells D.toArray t (0, 0)) ∧ g < V.heap.size := by
  have e : (w.alloc (.cells Z t)).setRow w.heap.size D.toArray = w.alloc (.cells D.toArray t) := by
    have := setRow_new w Z.toList D t
    simpa using this
  refine ⟨_, w.heap.size, rfl, e, heap_alloc_new w _, fun W hW => rangeAt_below' (rangeAt_row (heap_alloc_new w _)) hW, below_alloc _ _, heap_alloc_new w _, by rw [size_alloc]; omega⟩

set_option maxHeartbeats 2000000 in
theorem kept45_any (n u : Int) (w : World) (hG : Glob w) (h0 : 0 ≤ n) (h1 : n ≤ 100) :
    Calls Tryz.prog 22 #[.int .i64 n, .int .i64 u] w fun e w' => e = .returned (.agg (exK n u).C.toArray) ∧ Below w.heap.size w w' := by
  obtain ⟨X, hX⟩ : ∃ X : World, X = w.alloc (.cells (List.toArray (.int .i64 0 :: .int .i64 0 :: .int .i64 0 :: .int .i64 0 :: .int .i64 0 :: .int .i64 0 :: .int .u8 0 :: .int .u8 0 :: .int .u8 0 :: .int .u8 0 :: .int .u8 0 :: .int .u8 0 :: .int .u8 0 :: .int .u8 0 :: .int .u8 0 :: .int .u8 0 :: .int .u8 0 :: .int .u8 0 :: .int .u8 0 :: .int .u8 0 :: .int .u8 0 :: .int .u8 0 :: .int .u8 0 :: .int .u8 0 :: .int .u8 0 :: .int .u8 0 :: .int .u8 0 :: .int .u8 0 :: .int .u8 0 :: .int .u8 0 :: .int .u8 0 :: .int .u8 0 :: .int .u8 0 :: .int .u8 0 :: .int .u8 0 :: .int .u8 0 :: .int .u8 0 :: .int .u8 0 :: [] : List Value) : Array Value) 30) := ⟨_, rfl⟩
  have HX : Seal (Below w.heap.size w X ∧ X.heap[w.heap.size]? = some (.cells (List.toArray (.int .i64 0 :: .int .i64 0 :: .int .i64 0 :: .int .i64 0 :: .int .i64 0 :: .int .i64 0 :: .int .u8 0 :: .int .u8 0 :: .int .u8 0 :: .int .u8 0 :: .int .u8 0 :: .int .u8 0 :: .int .u8 0 :: .int .u8 0 :: .int .u8 0 :: .int .u8 0 :: .int .u8 0 :: .int .u8 0 :: .int .u8 0 :: .int .u8 0 :: .int .u8 0 :: .int .u8 0 :: .int .u8 0 :: .int .u8 0 :: .int .u8 0 :: .int .u8 0 :: .int .u8 0 :: .int .u8 0 :: .int .u8 0 :: .int .u8 0 :: .int .u8 0 :: .int .u8 0 :: .int .u8 0 :: .int .u8 0 :: .int .u8 0 :: .int .u8 0 :: .int .u8 0 :: .int .u8 0 :: [] : List Value) : Array Value) 30 (0, 0)) ∧ w.heap.size < X.heap.size) := ⟨by rw [hX]; exact ⟨below_alloc _ _, heap_alloc_new w _, by rw [size_alloc]; omega⟩⟩
  have q1 : IntKind.i64.wrap (n + 1) = n + 1 := IntWalk.i64_in _ (by omega)
  obtain ⟨CR, hCR⟩ : ∃ C, C = retC 0 1 (exK n u).P (exK n u).Q (exK n u).T := ⟨_, rfl⟩
  have HM : Seal (Calls Tryz.prog 43 #[.int .i64 0, .int .i64 1, .int .i64 7, .int .i64 (n + 1)] X fun e' w' => e' = .returned (.tuple #[.agg CR.toArray, .int .i64 0]) ∧ Below X.heap.size X w') := ⟨by rw [hCR]; exact omake_at 0 1 7 (n + 1) 0 1 _ _ 0 _ X (hG.below HX.out.1) (by decide) (by decide) (by omega) (by omega) ⟨exK_make n u⟩⟩
  have ht : (exK n u).T.length = 32 := sha_length _
  have HC : Seal ((exK n u).C = .int .i64 n :: .int .i64 u :: CR ∧ CR.length = 36 ∧ (Tryz.prog.info? 28).map (·.size) = some CR.length ∧ (List.toArray (.int .i64 0 :: .int .i64 0 :: .int .i64 0 :: .int .i64 0 :: .int .u8 0 :: .int .u8 0 :: .int .u8 0 :: .int .u8 0 :: .int .u8 0 :: .int .u8 0 :: .int .u8 0 :: .int .u8 0 :: .int .u8 0 :: .int .u8 0 :: .int .u8 0 :: .int .u8 0 :: .int .u8 0 :: .int .u8 0 :: .int .u8 0 :: .int .u8 0 :: .int .u8 0 :: .int .u8 0 :: .int .u8 0 :: .int .u8 0 :: .int .u8 0 :: .int .u8 0 :: .int .u8 0 :: .int .u8 0 :: .int .u8 0 :: .int .u8 0 :: .int .u8 0 :: .int .u8 0 :: .int .u8 0 :: .int .u8 0 :: .int .u8 0 :: .int .u8 0 :: []) : Array Value).size = CR.toArray.size ∧ CR.toArray.all (·.oneCell') = true) := ⟨by rw [hCR]; rfl, by rw [hCR]; exact retC_len ht, by rw [hCR]; exact retC_info ht, by rw [show CR.toArray.size = 36 from by rw [List.size_toArray, hCR]; exact retC_len ht]; rfl, by rw [hCR]; exact all_oneCell_toArray (retC_one _ _ _ _ _)⟩
  have HK : Seal ((Tryz.prog.info? 30).map (·.size) = some (exK n u).C.toArray.size ∧ ((List.toArray (.int .i64 0 :: .int .i64 0 :: .int .i64 0 :: .int .i64 0 :: .int .i64 0 :: .int .i64 0 :: .int .u8 0 :: .int .u8 0 :: .int .u8 0 :: .int .u8 0 :: .int .u8 0 :: .int .u8 0 :: .int .u8 0 :: .int .u8 0 :: .int .u8 0 :: .int .u8 0 :: .int .u8 0 :: .int .u8 0 :: .int .u8 0 :: .int .u8 0 :: .int .u8 0 :: .int .u8 0 :: .int .u8 0 :: .int .u8 0 :: .int .u8 0 :: .int .u8 0 :: .int .u8 0 :: .int .u8 0 :: .int .u8 0 :: .int .u8 0 :: .int .u8 0 :: .int .u8 0 :: .int .u8 0 :: .int .u8 0 :: .int .u8 0 :: .int .u8 0 :: .int .u8 0 :: .int .u8 0 :: [] : List Value) : Array Value) : Array Value).size = (exK n u).C.toArray.size ∧ (exK n u).C.toArray.all (·.oneCell') = true) := ⟨by rw [List.size_toArray]; exact Ltr.info ht, by rw [ktzz_len, List.size_toArray, Ltr.C_len ht], all_oneCell_toArray (Ltr.C_one _)⟩
  rw [HC.out.1] at HK ⊢
  clear hG hCR ht h0 h1
  go_enter Tryz.func22, Tryz.ntmps22
  go_upto_region 1 with (fail)
  rw [← hX]
  clear hX
  go_wp2_with fail
  refine HM.out.mono ?_
  rintro e w1 ⟨rfl, hb⟩
  obtain ⟨V, g, hg, n1, n2, n3, n4, n5, _⟩ := newv w1 (List.toArray (.int .i64 0 :: .int .i64 0 :: .int .i64 0 :: .int .i64 0 :: .int .u8 0 :: .int .u8 0 :: .int .u8 0 :: .int .u8 0 :: .int .u8 0 :: .int .u8 0 :: .int .u8 0 :: .int .u8 0 :: .int .u8 0 :: .int .u8 0 :: .int .u8 0 :: .int .u8 0 :: .int .u8 0 :: .int .u8 0 :: .int .u8 0 :: .int .u8 0 :: .int .u8 0 :: .int .u8 0 :: .int .u8 0 :: .int .u8 0 :: .int .u8 0 :: .int .u8 0 :: .int .u8 0 :: .int .u8 0 :: .int .u8 0 :: .int .u8 0 :: .int .u8 0 :: .int .u8 0 :: .int .u8 0 :: .int .u8 0 :: .int .u8 0 :: .int .u8 0 :: []) : Array Value) CR 28
  have HV : Seal (Below w.heap.size w V ∧ V.heap[w.heap.size]? = some (.cells (List.toArray (.int .i64 0 :: .int .i64 0 :: .int .i64 0 :: .int .i64 0 :: .int .i64 0 :: .int .i64 0 :: .int .u8 0 :: .int .u8 0 :: .int .u8 0 :: .int .u8 0 :: .int .u8 0 :: .int .u8 0 :: .int .u8 0 :: .int .u8 0 :: .int .u8 0 :: .int .u8 0 :: .int .u8 0 :: .int .u8 0 :: .int .u8 0 :: .int .u8 0 :: .int .u8 0 :: .int .u8 0 :: .int .u8 0 :: .int .u8 0 :: .int .u8 0 :: .int .u8 0 :: .int .u8 0 :: .int .u8 0 :: .int .u8 0 :: .int .u8 0 :: .int .u8 0 :: .int .u8 0 :: .int .u8 0 :: .int .u8 0 :: .int .u8 0 :: .int .u8 0 :: .int .u8 0 :: .int .u8 0 :: [] : List Value) : Array Value) 30 (0, 0))) := ⟨(HX.out.1.trans (hb.mono HX.out.1.size)).trans (n4.mono (Nat.le_trans HX.out.1.size hb.size)), (n4.block _ (Nat.lt_of_lt_of_le HX.out.2.2 hb.size)).trans ((hb.block _ HX.out.2.2).trans HX.out.2.1)⟩
  have rC := n3.at
  have ur := Tryz.underlying28
  clear hb HM HX n3 n4 n5
  have hgn := hg.symm
  clear hg
  go_wp2_with (first
    | ((try rw [hgn]); refine wpList_store_row rfl 28 (.tmp 5) (.tmp 11) rfl g CR.toArray rfl rfl 28 _ n2 (by simpa using HC.out.2.2.1) HC.out.2.2.2.1 HC.out.2.2.2.2 ?_; rw [n1]; clear n1 n2 hgn; (try simp only [Act.put]))
    | (refine wpList_load_mid rfl 28 (.tmp 5) rfl g 0 rfl CR _ rC ur rfl HC.out.2.2.1 ?_; (try simp only [Act.put, List.setIfInBounds_toArray, List.set_cons_zero, List.set_cons_succ]))
    | (refine wpList_build_kt rfl (.tmp 13) (.tmp 14) (.tmp 15) rfl n u CR HC.out.2.1 rfl rfl rfl ?_; (try simp only [Act.put, List.setIfInBounds_toArray, List.set_cons_zero, List.set_cons_succ]))
    | (refine wpList_store_row rfl 30 (.tmp 4) (.tmp 16) rfl w.heap.size (Value.int .i64 n :: Value.int .i64 u :: CR).toArray rfl rfl 30 _ HV.out.2 HK.out.1 HK.out.2.1 HK.out.2.2 ?_))
  refine bodyPost_ret (results_cell_row (fn := Tryz.f22) rfl _ _ w.heap.size 30 _ (0, 0) _ rfl (setRow_heap _ _ _ _ _ _ HV.out.2) Tryz.underlying30 rfl HK.out.1) rfl ⟨rfl, below_row HV.out.1 (Nat.le_refl _) _⟩
end Frk
