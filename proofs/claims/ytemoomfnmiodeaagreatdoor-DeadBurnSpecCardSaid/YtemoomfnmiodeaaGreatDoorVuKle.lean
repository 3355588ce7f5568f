/- Law 45: the leaves of kept letters. -/
import Derived.Test.YtemoomfnmiodeaaGreatDoorVuMka
import Derived.Test.YtemoomfnmiodeaaGreatDoorVuKec
import Derived.Test.YtemoomfnmiodeaaGreatDoorVugKkp
import Derived.Test.YtemoomfnmiodeaaGreatDoorVugEnf
namespace Frk
open Go Go.RowKit Go.Proofs
set_option maxRecDepth 100000

def lfK (x : Ltr) : List Lf := [.i x.N, .i x.U, .t x.T]
/-- the text of a kept letter -/
def txK (x : Ltr) : Bytes := encL (lfK x)
theorem wgts_lfK {x : Ltr} (h : x.T.length = 32) : wgts (lfK x) = 65 := by simp [lfK, wgts, Lf.wgt, h]
theorem txK_len {x : Ltr} (h : x.T.length = 32) : 0 < (txK x).length ∧ (txK x).length ≤ 200 := by
  have h1 := encL_length (lfK x)
  rw [wgts_lfK h] at h1
  refine ⟨?_, by unfold txK; omega⟩
  unfold txK encL
  simp
theorem lfK_fits {x : Ltr} (h : x.ok) : ∀ y ∈ lfK x, y.fits := by
  intro y hy
  simp only [lfK, List.mem_cons, List.not_mem_nil, or_false] at hy
  rcases hy with rfl | rfl | rfl
  · exact h.n
  · exact h.u
  · show x.T.length < 2 ^ 63
    rw [h.t32]
    decide
def lcsK (n u : Int) (T : Bytes) : List (List Value) := [[.int .i64 1, .int .i64 n, .string ByteArray.empty, .slice none 0 0], [.int .i64 1, .int .i64 u, .string ByteArray.empty, .slice none 0 0], [.int .i64 2, .int .i64 0, .string ⟨T.toArray⟩, .slice none 0 0]]
theorem leavesK_at {x : Ltr} {n u : Int} {T : Bytes} (w : World) (hn : n = x.N) (hu : u = x.U) (hT : T = x.T) : LeavesAt (w.alloc (.cells (lcsK n u T).flatten.toArray 111)) w.heap.size 0 (lfK x) := by
  subst hn hu hT
  intro k y hk j c hj
  rw [cell_of_row _ _ _ _ _ _ (heap_alloc_new w _)]
  have hj4 : j < 4 := by
    have := (List.getElem?_eq_some_iff.1 hj).1
    match k, hk with
    | 0, hk => cases hk; exact this
    | 1, hk => cases hk; exact this
    | 2, hk => cases hk; exact this
  match k, hk with
  | 0, hk =>
    cases hk
    match j, hj4, hj with
    | 0, _, hj => cases hj; rfl
    | 1, _, hj => cases hj; rfl
    | 2, _, hj => cases hj; rfl
    | 3, _, hj => cases hj; rfl
  | 1, hk =>
    cases hk
    match j, hj4, hj with
    | 0, _, hj => cases hj; rfl
    | 1, _, hj => cases hj; rfl
    | 2, _, hj => cases hj; rfl
    | 3, _, hj => cases hj; rfl
  | 2, hk =>
    cases hk
    match j, hj4, hj with
    | 0, _, hj => cases hj; rfl
    | 1, _, hj => cases hj; rfl
    | 2, _, hj => cases hj; rfl
    | 3, _, hj => cases hj; rfl
theorem size_valK (w : World) : (Go.sizeOf 111).run Tryz.prog w = .ok 4 w := by kernel_rfl
theorem zero_valK (w : World) : (zeroValue 111).run Tryz.prog w = .ok (.agg #[.int .i64 0, .int .i64 0, .string ByteArray.empty, .slice none 0 0]) w := by kernel_rfl

theorem rowsIn_w {n : Nat} {P : Program} {row : String} {args : Array Value} {w : World} {R : Value → World → Prop} (h : Rows P row args w R) : RowsIn Fence.wide n P row args w R := by
  intro c cs _
  obtain ⟨v, w', r, s⟩ := h c cs
  exact ⟨v, w', r, stepsIn_wide.2 s⟩
theorem opIn_of_op_w {n : Nat} {P : Program} {o : Oper} {a : Act} {w : World} {K : Act → World → Prop} {Q : Exit → Act → World → Prop} (hd : ∀ c, o.op ≠ .defer c) (h : o.wp P a w K Q) : o.wpIn Fence.wide n P a w K Q := by
  refine ⟨fun _ _ => trivial, ?_⟩
  rw [Oper.semAt_eq _ _ _ hd]
  unfold Oper.wp at h
  generalize (execOp a.eval o).run P w = r at h
  cases r with
  | ok x w' =>
    cases x <;> simp only [Oper.upon, Oper.uponIn] at h ⊢ <;> first | exact h | exact h.elim | exact ⟨fun h => (by cases h), callsIn_wide.2 h⟩ | exact ⟨fun h => (by cases h), rowsIn_w h⟩
  | halt x w' => cases x <;> simp only [Oper.upon, Oper.uponIn] at h ⊢ <;> first | exact h | exact h.elim

section
variable {n : Nat} {P : Program} {ops : Array Oper} {rest : List Oper} {o : Oper} {a : Act} {w : World} {Q : Exit → Act → World → Prop}
theorem wpListIn_load_mid_w (hg : o.guard = none) (ty : TypeId) (x : Operand) (ho : o.op = .load ty x)
    (b off : Nat) (hx : a.eval x = .pointer (some ⟨b, off, none⟩)) (cs : List Value) (d : TypeDesc) (hc : w.rangeAt b off cs)
    (hu : P.underlying ty = some d) (hd : d.isRow = true) (hi : (P.info? ty).map (·.size) = some cs.length)
    (h : wpListIn Fence.wide n P ops Q rest (a.put o.dst (.agg cs.toArray)) w) : wpListIn Fence.wide n P ops Q (o :: rest) a w :=
  wpListIn_plain hg fun K hK' => opIn_of_op_w (by rw [ho]; intro c hc'; cases hc') (wp_load_mid ty x ho b off hx cs d hc hu hd hi (hK' _ _ h))
theorem wpListIn_store_row_w (hgd : o.guard = none) (ty : TypeId) (x y : Operand) (ho : o.op = .store ty x y)
    (g : Nat) (cells : Array Value) (hx : a.eval x = .pointer (some ⟨g, 0, none⟩)) (hy : a.eval y = .agg cells)
    (t : TypeId) (old : Array Value) (hg : w.heap[g]? = some (.cells old t (0, 0))) (hi : (P.info? ty).map (·.size) = some cells.size)
    (hold : old.size = cells.size) (h1 : cells.all (·.oneCell') = true)
    (h : wpListIn Fence.wide n P ops Q rest (a.put o.dst undef) (w.setRow g cells)) : wpListIn Fence.wide n P ops Q (o :: rest) a w :=
  wpListIn_plain hgd fun K hK' => opIn_of_op_w (by rw [ho]; intro c hc'; cases hc') (by
    unfold Oper.wp
    rw [exec_store_row ty x y ho g cells hx hy t old hg hi hold h1]
    exact hK' _ _ h)
end

/-- what leaves yields -/
def GK (l : List Ltr) (_ : Nat) (pre : List (Nat × Nat × Nat)) (x : Nat × Nat × Nat) (W : World) : Prop :=
  ∃ s, l[pre.length]? = some s ∧ IsB W (some ⟨x.1, 0, none⟩) x.2.1 x.2.2 (txK s)

theorem exec_convert_b {ρ : Operand → Value} {op : Oper} {x : Operand} (ho : op.op = .convert 90 9 x) (g off : Nat) (T : Bytes) (hx : ρ x = .slice (some ⟨g, off, none⟩) 32 32) (w : World) (h : IsB w (some ⟨g, off, none⟩) 32 32 T) :
    (execOp ρ op).run Tryz.prog w = .ok (.value (.string ⟨T.toArray⟩)) w := by
  have := h.conv
  unfold execOp
  rw [ho]
  simp [hx, this, Result.andThen]

set_option maxHeartbeats 4000000 in
theorem leavesK_mem (m b : Nat) (a : Option Addr) (n cap : Nat) (l : List Ltr) (w : World) (h0 : w.cell? ⟨b, 0, none⟩ = some (.slice a n cap)) (hl : IsC Ltr.C 38 w a n cap l) (hok : ∀ x ∈ l, x.ok) :
    SeqMem Fence.wide m Tryz.prog 72 #[.pointer (some ⟨b, 0, none⟩)] encV (GK l) (fun r => 0 < n ∧ ∃ off, a = some ⟨r, off, none⟩) (fun xs => xs.length = n) n w := by
  intro t J W hW hY hJ0
  refine callsIn_of_wp Tryz.func72 rfl trivial ?_ rfl
  simp only [Tryz.ntmps72, List.size_toArray, List.length_cons, List.length_nil, Nat.reduceAdd, Nat.reduceSub, Array.replicate_succ, Array.replicate_zero, List.push_toArray, List.append_toArray, List.nil_append, List.cons_append]
  have c0 : W.cell? ⟨b, 0, none⟩ = some (.slice a n cap) := (hW.cell (p := ⟨b, 0, none⟩) (block_lt_of_cell h0)).trans h0
  have HL := Seal.mk (hl.below hW)
  have HOK := Seal.mk hok
  have HY := Seal.mk hY
  have HJ0 := Seal.mk hJ0
  have hll := hl.llen
  have hmx := hl.lmax
  have ut := Tryz.underlying30
  clear hY hJ0 hl hW h0 hok
  gi_wp2
  gi_loopw [9] (fun i Wk => ∃ k : Nat, k ≤ n ∧ i = .int .i64 k ∧ Seal (IsC Ltr.C 38 Wk a n cap l ∧ ∃ xs W0, xs.length = k ∧ J xs W0 ∧ Below W0.heap.size W0 Wk ∧ W.heap.size ≤ W0.heap.size)) (fun i _ => n - (intOf i).toNat)
  case atStart => exact ⟨0, by omega, rfl, ⟨HL.out, [], W, rfl, HJ0.out, Below.refl _ _, Nat.le_refl _⟩⟩
  case round =>
    obtain ⟨Wk, rfl⟩ : ∃ z, z = wr := ⟨_, rfl⟩
    obtain ⟨k, hk, rfl, hH⟩ := hrel
    clear c0 HL HJ0
    by_cases hlt : k < n
    · rcases hH.out.1.at_ with hz | ⟨g, off, rfl, hr, hg⟩
      · omega
      · obtain ⟨x, hx⟩ : ∃ x, l[k]? = some x := ⟨_, List.getElem?_eq_getElem (by omega)⟩
        have ox := HOK.out x (List.mem_of_getElem? hx)
        have rX := rangeC_row hr hH.out.1.each hx
        have q5 : (k : Int) < (n : Int) := by omega
        have q6 : (0 : Int) ≤ (k : Int) := by omega
        obtain ⟨C, hC⟩ : ∃ C, C = x.C := ⟨_, rfl⟩
        rw [← hC] at rX
        have HX := Seal.mk hx
        have HOX := Seal.mk ox
        obtain ⟨N, hN⟩ : ∃ N, N = x.N := ⟨_, rfl⟩
        obtain ⟨U, hU⟩ : ∃ U, U = x.U := ⟨_, rfl⟩
        obtain ⟨T, hT⟩ : ∃ T, T = x.T := ⟨_, rfl⟩
        have HNU : Seal (N = x.N ∧ U = x.U ∧ T = x.T ∧ T.length = 32) := ⟨hN, hU, hT, by rw [hT]; exact ox.t32⟩
        have IC : Seal ((Tryz.prog.info? 30).map (·.size) = some C.length ∧ ((List.toArray (.int .i64 0 :: .int .i64 0 :: .int .i64 0 :: .int .i64 0 :: .int .i64 0 :: .int .i64 0 :: .int .u8 0 :: .int .u8 0 :: .int .u8 0 :: .int .u8 0 :: .int .u8 0 :: .int .u8 0 :: .int .u8 0 :: .int .u8 0 :: .int .u8 0 :: .int .u8 0 :: .int .u8 0 :: .int .u8 0 :: .int .u8 0 :: .int .u8 0 :: .int .u8 0 :: .int .u8 0 :: .int .u8 0 :: .int .u8 0 :: .int .u8 0 :: .int .u8 0 :: .int .u8 0 :: .int .u8 0 :: .int .u8 0 :: .int .u8 0 :: .int .u8 0 :: .int .u8 0 :: .int .u8 0 :: .int .u8 0 :: .int .u8 0 :: .int .u8 0 :: .int .u8 0 :: .int .u8 0 :: [] : List Value) : Array Value) : Array Value).size = C.toArray.size ∧ C.toArray.all (·.oneCell') = true) := ⟨by rw [hC]; exact Ltr.info ox.t32, by rw [hC, ktzz_len, List.size_toArray, Ltr.C_len ox.t32], by rw [hC]; exact all_oneCell_toArray (Ltr.C_one _)⟩
        have hn5 := heap_alloc_new Wk (.cells (List.toArray (.int .i64 0 :: .int .i64 0 :: .int .i64 0 :: .int .i64 0 :: .int .i64 0 :: .int .i64 0 :: .int .u8 0 :: .int .u8 0 :: .int .u8 0 :: .int .u8 0 :: .int .u8 0 :: .int .u8 0 :: .int .u8 0 :: .int .u8 0 :: .int .u8 0 :: .int .u8 0 :: .int .u8 0 :: .int .u8 0 :: .int .u8 0 :: .int .u8 0 :: .int .u8 0 :: .int .u8 0 :: .int .u8 0 :: .int .u8 0 :: .int .u8 0 :: .int .u8 0 :: .int .u8 0 :: .int .u8 0 :: .int .u8 0 :: .int .u8 0 :: .int .u8 0 :: .int .u8 0 :: .int .u8 0 :: .int .u8 0 :: .int .u8 0 :: .int .u8 0 :: .int .u8 0 :: .int .u8 0 :: [] : List Value) : Array Value) 30)
        obtain ⟨gd, hgd⟩ : ∃ z, z = Wk.heap.size := ⟨_, rfl⟩
        obtain ⟨V, hV⟩ : ∃ V, V = Wk.alloc (.cells C.toArray 30) := ⟨_, rfl⟩
        have hVz : (Wk.alloc (.cells (List.toArray (.int .i64 0 :: .int .i64 0 :: .int .i64 0 :: .int .i64 0 :: .int .i64 0 :: .int .i64 0 :: .int .u8 0 :: .int .u8 0 :: .int .u8 0 :: .int .u8 0 :: .int .u8 0 :: .int .u8 0 :: .int .u8 0 :: .int .u8 0 :: .int .u8 0 :: .int .u8 0 :: .int .u8 0 :: .int .u8 0 :: .int .u8 0 :: .int .u8 0 :: .int .u8 0 :: .int .u8 0 :: .int .u8 0 :: .int .u8 0 :: .int .u8 0 :: .int .u8 0 :: .int .u8 0 :: .int .u8 0 :: .int .u8 0 :: .int .u8 0 :: .int .u8 0 :: .int .u8 0 :: .int .u8 0 :: .int .u8 0 :: .int .u8 0 :: .int .u8 0 :: .int .u8 0 :: .int .u8 0 :: [] : List Value) : Array Value) 30)).setRow Wk.heap.size C.toArray = V := by rw [hV]; exact setRow_new Wk (.int .i64 0 :: .int .i64 0 :: .int .i64 0 :: .int .i64 0 :: .int .i64 0 :: .int .i64 0 :: .int .u8 0 :: .int .u8 0 :: .int .u8 0 :: .int .u8 0 :: .int .u8 0 :: .int .u8 0 :: .int .u8 0 :: .int .u8 0 :: .int .u8 0 :: .int .u8 0 :: .int .u8 0 :: .int .u8 0 :: .int .u8 0 :: .int .u8 0 :: .int .u8 0 :: .int .u8 0 :: .int .u8 0 :: .int .u8 0 :: .int .u8 0 :: .int .u8 0 :: .int .u8 0 :: .int .u8 0 :: .int .u8 0 :: .int .u8 0 :: .int .u8 0 :: .int .u8 0 :: .int .u8 0 :: .int .u8 0 :: .int .u8 0 :: .int .u8 0 :: .int .u8 0 :: .int .u8 0 :: [] : List Value) C _
        have hbv : Below Wk.heap.size Wk V := by rw [hV]; exact below_alloc _ _
        have rV : V.rangeAt gd 0 C := rangeAt_row (by rw [hV, hgd]; exact heap_alloc_new Wk _)
        have cN : V.cell? ⟨gd, 0, none⟩ = some (.int .i64 N) := by have h := rV 0 (.int .i64 N) (by rw [hC, hN]; rfl); simpa using h
        have cU : V.cell? ⟨gd, 1, none⟩ = some (.int .i64 U) := by have h := rV 1 (.int .i64 U) (by rw [hC, hU]; rfl); simpa using h
        have rT : V.rangeAt gd 6 (T.map B) := by
          have h := rangeAt_drop rV 6
          rw [hC, show x.C.drop 6 = T.map B from by rw [hT]; rfl] at h
          simpa using h
        have hgdn := hgd.symm
        have HGD : Seal (gd < V.heap.size) := ⟨by rw [hV, size_alloc]; omega⟩
        have HBV : Seal (Below Wk.heap.size Wk V) := ⟨hbv⟩
        rw [hgdn] at hVz hn5
        clear hr hg hx hC hN hU hT hgd hV hbv ox rV
        gi_wp2_with (first
          | (refine wpListIn_load_mid_w rfl 30 (.tmp 11) rfl g (off + k * 38) rfl C _ rX ut rfl IC.out.1 ?_; (try simp only [Act.put, List.setIfInBounds_toArray, List.set_cons_zero, List.set_cons_succ]))
          | ((try rw [hgdn]); refine wpListIn_store_row_w rfl 30 (.tmp 4) (.tmp 12) rfl gd C.toArray rfl rfl 30 _ hn5 (by simpa using IC.out.1) IC.out.2.1 IC.out.2.2 ?_; rw [hVz]; clear hVz hn5 hgdn rX; (try simp only [Act.put])))
        refine wpIn_wide.2 ?_
        refine wp_region_held_drew (S := fun w' => w'.cell? ⟨gd, 0, none⟩ = some (.int .i64 N) ∧ w'.cell? ⟨gd, 1, none⟩ = some (.int .i64 U) ∧ w'.rangeAt gd 6 (T.map B)) (by kernel_rfl) ⟨cN, cU, rT⟩ (fun hHeld => ?_)
        obtain ⟨V1, hV1⟩ : ∃ Z, Z = V.drew := ⟨_, rfl⟩
        have HB1 : Seal (Below Wk.heap.size Wk V1 ∧ gd < V1.heap.size) := ⟨by rw [hV1]; exact ⟨HBV.out.trans ((below_drewn V).mono HBV.out.size), HGD.out⟩⟩
        rw [← hV1] at hHeld ⊢
        clear hV1 cN cU rT HBV HGD
        refine take_h 0 ?_ rfl (by kernel_rfl) (by kernel_rfl) (by kernel_rfl) (fun _ _ _ h => h) (Or.inl ⟨by kernel_rfl, ?_⟩) (by assumption) ?_
        rotate_left
        · (intro w hSw; (try dsimp only at hSw); go_simp; try (with_reducible rfl))
        try simp only [Act.put, List.setIfInBounds_toArray, List.set_cons_zero, List.set_cons_succ]
        refine take_h 1 ?_ rfl (by kernel_rfl) (by kernel_rfl) (by kernel_rfl) (fun _ _ _ h => h) (Or.inl ⟨by kernel_rfl, ?_⟩) (by assumption) ?_
        rotate_left
        · (intro w hSw; (try dsimp only at hSw); go_simp; try (with_reducible rfl))
        try simp only [Act.put, List.setIfInBounds_toArray, List.set_cons_zero, List.set_cons_succ]
        refine take_h 2 ?_ rfl (by kernel_rfl) (by kernel_rfl) (by kernel_rfl) (fun _ _ _ h => h) (Or.inl ⟨by kernel_rfl, ?_⟩) (by assumption) ?_
        rotate_left
        · (intro w hSw; (try dsimp only at hSw); go_simp; try (with_reducible rfl))
        try simp only [Act.put, List.setIfInBounds_toArray, List.set_cons_zero, List.set_cons_succ]
        refine take_h 3 ?_ rfl (by kernel_rfl) (by kernel_rfl) (by kernel_rfl) (fun _ _ _ h => h) (Or.inl ⟨by kernel_rfl, ?_⟩) (by assumption) ?_
        rotate_left
        · (intro w hSw; (try dsimp only at hSw); go_simp; try (with_reducible rfl))
        try simp only [Act.put, List.setIfInBounds_toArray, List.set_cons_zero, List.set_cons_succ]
        refine take_h 4 ?_ rfl (by kernel_rfl) (by kernel_rfl) (by kernel_rfl) (fun _ _ _ h => h) (Or.inl ⟨by kernel_rfl, ?_⟩) (by assumption) ?_
        rotate_left
        · (intro w hSw; (try dsimp only at hSw); go_simp; try (with_reducible rfl))
        try simp only [Act.put, List.setIfInBounds_toArray, List.set_cons_zero, List.set_cons_succ]
        refine take_h 5 ?_ rfl (by kernel_rfl) (by kernel_rfl) (by kernel_rfl) (fun _ _ _ h => h) (Or.inl ⟨by kernel_rfl, ?_⟩) (by assumption) ?_
        rotate_left
        · (intro w hSw; (try dsimp only at hSw); go_simp; try (with_reducible rfl))
        try simp only [Act.put, List.setIfInBounds_toArray, List.set_cons_zero, List.set_cons_succ]
        refine take_h 6 ?_ rfl (by kernel_rfl) (by kernel_rfl) (by kernel_rfl) (fun _ _ _ h => h) (Or.inl ⟨by kernel_rfl, ?_⟩) (by assumption) ?_
        rotate_left
        · (intro w hSw; (try dsimp only at hSw); go_simp; try (with_reducible rfl))
        try simp only [Act.put, List.setIfInBounds_toArray, List.set_cons_zero, List.set_cons_succ]
        refine take_h 7 ?_ rfl (by kernel_rfl) (by kernel_rfl) (by kernel_rfl) (fun _ _ _ h => h) (Or.inl ⟨by kernel_rfl, ?_⟩) (by assumption) ?_
        rotate_left
        · (intro w hSw; (try dsimp only at hSw); go_simp; try (with_reducible rfl))
        try simp only [Act.put, List.setIfInBounds_toArray, List.set_cons_zero, List.set_cons_succ]
        refine take_h 8 ?_ rfl (by kernel_rfl) (by kernel_rfl) (by kernel_rfl) (fun _ _ _ h => h) (Or.inl ⟨by kernel_rfl, ?_⟩) (by assumption) ?_
        rotate_left
        · (intro w hSw; (try dsimp only at hSw); go_simp; try (with_reducible rfl))
        try simp only [Act.put, List.setIfInBounds_toArray, List.set_cons_zero, List.set_cons_succ]
        refine take_h 9 (.string ⟨T.toArray⟩) rfl (by kernel_rfl) (by kernel_rfl) (by kernel_rfl) (fun _ _ _ h => h) (Or.inl ⟨by kernel_rfl, fun w hSw => exec_convert_b rfl gd 6 T rfl w ⟨HNU.out.2.2.2, Nat.le_refl _, by decide, by decide, .inr ⟨gd, 6, rfl, hSw.2.2, block_lt_of_cell hSw.1⟩⟩⟩) (by assumption) ?_
        try simp only [Act.put, List.setIfInBounds_toArray, List.set_cons_zero, List.set_cons_succ]
        refine take_h 10 ?_ rfl (by kernel_rfl) (by kernel_rfl) (by kernel_rfl) (fun _ _ _ h => h) (Or.inl ⟨by kernel_rfl, ?_⟩) (by assumption) ?_
        rotate_left
        · (intro w hSw; (try dsimp only at hSw); go_simp; try (with_reducible rfl))
        try simp only [Act.put, List.setIfInBounds_toArray, List.set_cons_zero, List.set_cons_succ]
        obtain ⟨V2, hV2⟩ : ∃ Z, Z = V1.alloc (.cells (lcsK N U T).flatten.toArray 111) := ⟨_, rfl⟩
        have hb2 := below_alloc V1 (.cells (lcsK N U T).flatten.toArray 111)
        have HLV : Seal (LeavesAt V2 V1.heap.size 0 (lfK x) ∧ V1.heap.size < V2.heap.size) := ⟨by rw [hV2]; exact ⟨leavesK_at V1 HNU.out.1 HNU.out.2.1 HNU.out.2.2.1, by rw [size_alloc]; omega⟩⟩
        rw [← hV2] at hb2
        have HB2 : Seal (Below Wk.heap.size Wk V2) := ⟨HB1.out.1.trans (hb2.mono HB1.out.1.size)⟩
        refine oper_h 11 (.slice (some ⟨V1.heap.size, 0, none⟩) 3 3) V2 rfl (by kernel_rfl) (by kernel_rfl) (by rw [hV2]; exact exec_bslice rfl (lcsK N U T) Tryz.underlying109 V1 (size_valK V1) (zero_valK V1) rfl rfl (by intro D hD; simp only [lcsK, List.mem_cons, List.not_mem_nil, or_false] at hD; rcases hD with rfl | rfl | rfl <;> rfl) (by decide) (by decide) rfl) ⟨cell_below' hb2 hHeld.1, cell_below' hb2 hHeld.2.1, rangeAt_below' hHeld.2.2 hb2⟩ (fun hHeld2 => ?_)
        clear hHeld hb2 hV2
        try simp only [Act.put, List.setIfInBounds_toArray, List.set_cons_zero, List.set_cons_succ]
        refine take_h 12 ?_ rfl (by kernel_rfl) (by kernel_rfl) (by kernel_rfl) (fun _ _ _ h => h) (Or.inl ⟨by kernel_rfl, ?_⟩) (by assumption) ?_
        rotate_left
        · (intro w hSw; (try dsimp only at hSw); go_simp; try (with_reducible rfl))
        try simp only [Act.put, List.setIfInBounds_toArray, List.set_cons_zero, List.set_cons_succ]
        refine call_h 13 rfl (by kernel_rfl) 73 #[.agg #[.int .i64 3, .int .i64 0, .string ByteArray.empty, .slice (some ⟨V1.heap.size, 0, none⟩) 3 3]] (by kernel_rfl) (by go_simp; rfl) ?_
        refine (encode_any V1.heap.size 0 3 3 (lfK x) V2 rfl (Nat.le_refl _) (by rw [wgts_lfK HOX.out.t32]; decide) (by decide) HLV.out.1 HLV.out.2 (lfK_fits HOX.out)).mono ?_
        rintro e w1 ⟨g', n', cap', hn', rfl, hf⟩
        have hb3 := hf.out.2.2.2.2
        refine ⟨_, rfl, ⟨cell_below' hb3 hHeld2.1, cell_below' hb3 hHeld2.2.1, rangeAt_below' hHeld2.2.2 hb3⟩, fun hHeld3 => ?_⟩
        clear hHeld2
        try simp only [Act.put, List.setIfInBounds_toArray, List.set_cons_zero, List.set_cons_succ]
        refine take_h 14 ?_ rfl (by kernel_rfl) (by kernel_rfl) (by kernel_rfl) (fun _ _ _ h => h) (Or.inl ⟨by kernel_rfl, ?_⟩) (by assumption) ?_
        rotate_left
        · (intro w hSw; (try dsimp only at hSw); go_simp; try (with_reducible rfl))
        try simp only [Act.put, List.setIfInBounds_toArray, List.set_cons_zero, List.set_cons_succ]
        refine take_h 15 ?_ rfl (by kernel_rfl) (by kernel_rfl) (by kernel_rfl) (fun _ _ _ h => h) (Or.inl ⟨by kernel_rfl, ?_⟩) (by assumption) ?_
        rotate_left
        · (intro w hSw; (try dsimp only at hSw); go_simp; try (with_reducible rfl))
        try simp only [Act.put, List.setIfInBounds_toArray, List.set_cons_zero, List.set_cons_succ]
        refine take_h 16 ?_ rfl (by kernel_rfl) (by kernel_rfl) (by kernel_rfl) (fun _ _ _ h => h) (Or.inl ⟨by kernel_rfl, ?_⟩) (by assumption) ?_
        rotate_left
        · (intro w hSw; (try dsimp only at hSw); go_simp; try (with_reducible rfl))
        try simp only [Act.put, List.setIfInBounds_toArray, List.set_cons_zero, List.set_cons_succ]
        refine take_h 17 ?_ rfl (by kernel_rfl) (by kernel_rfl) (by kernel_rfl) (fun _ _ _ h => h) (Or.inl ⟨by kernel_rfl, ?_⟩) (by assumption) ?_
        rotate_left
        · (intro w hSw; (try dsimp only at hSw); go_simp; try (with_reducible rfl))
        try simp only [Act.put, List.setIfInBounds_toArray, List.set_cons_zero, List.set_cons_succ]
        refine take_h 18 ?_ rfl (by kernel_rfl) (by kernel_rfl) (by kernel_rfl) (fun _ _ _ h => h) (Or.inl ⟨by kernel_rfl, ?_⟩) (by assumption) ?_
        rotate_left
        · (intro w hSw; (try dsimp only at hSw); go_simp; try (with_reducible rfl))
        try simp only [Act.put, List.setIfInBounds_toArray, List.set_cons_zero, List.set_cons_succ]
        refine wpAnyH_done (by kernel_rfl) ?_ _
        clear hHeld3
        have hlen := txK_len HOX.out.t32
        have e0 : encL (lfK x) = txK x := rfl
        rw [e0] at hn' hf
        have hb1 : Below Wk.heap.size Wk w1 := HB2.out.trans (hb3.mono HB2.out.size)
        have hI : IsB w1 (some ⟨g', 0, none⟩) n' cap' (txK x) := ⟨hn'.out, hf.out.1, by have := hn'.out; omega, hf.out.2.1, .inr ⟨g', 0, rfl, hf.out.2.2.2.1, hf.out.2.2.1⟩⟩
        obtain ⟨hL, xs, W0, hxs, hJ, hb0, hsz⟩ := hH.out
        have hL1 := hL.below hb1
        obtain ⟨fn, tmps, asg, body, hy, hR⟩ := HY.out xs (g', n', cap') W0 w1 hJ (hb0.trans (hb1.mono hb0.size)) hsz ⟨_, by rw [hxs]; exact HX.out, hI⟩ (by omega)
        have hR := Seal.mk hR
        have HL1 := Seal.mk hL1
        have HXS := Seal.mk (And.intro hxs hsz)
        have HB3 := Seal.mk (hb0.trans (hb1.mono hb0.size))
        dsimp only [encV] at hy
        clear hf hb1 hb3 hI hL hL1 hxs hJ hb0 hsz hH e0 hlen hn'
        gi_wp2
        refine ⟨fun h => (by cases h), ?_⟩
        refine hR.out.mono ?_
        rintro e W' ⟨rfl, hJ', hG', hz', hk'⟩
        have hL2 : IsC Ltr.C 38 W' (some ⟨g, off, none⟩) n cap l := ⟨HL1.out.llen, HL1.out.lcap, HL1.out.lmax, HL1.out.cmax, HL1.out.each, by
          rcases HL1.out.at_ with h0 | ⟨g2, o2, e2, hr2, hg2⟩
          · exact .inl h0
          · cases e2
            exact .inr ⟨g, off, rfl, fun j u hu => (World.cell?_of_block (w := w1) (hk' g ⟨by omega, off, rfl⟩)).trans (hr2 j u hu), by omega⟩⟩
        have HN : Seal (IsC Ltr.C 38 W' (some ⟨g, off, none⟩) n cap l ∧ ∃ xs W0, xs.length = k + 1 ∧ J xs W0 ∧ Below W0.heap.size W0 W' ∧ W.heap.size ≤ W0.heap.size) :=
          ⟨hL2, xs ++ [(g', n', cap')], W', by rw [List.length_append, HXS.out.1]; rfl, hJ', Below.refl _ _, by have := HB3.out.size; have := HXS.out.2; omega⟩
        clear hJ' hG' hz' hk' hL2 hR hy
        gi_wp2
        go_roundw
        case rel => exact ⟨k + 1, by omega, by go_num, HN⟩
        case measure => simp [intOf]; omega
    · obtain rfl : k = n := by omega
      have q5 : ¬ (k : Int) < (k : Int) := by omega
      obtain ⟨hL, xs, W0, hxs, hJ, hb0, hsz⟩ := hH.out
      have HX := Seal.mk (And.intro hxs (And.intro hJ (And.intro hb0 hsz)))
      clear hL hxs hJ hb0 hsz hH
      gi_wp2
      go_end0
      exact ⟨⟨_, rfl⟩, xs, HX.out.1, W0, HX.out.2.1, HX.out.2.2.1, HX.out.2.2.2⟩

theorem dleaves_any (a : Option Addr) (n c : Nat) (w : World) : Calls Tryz.prog 50 #[.slice a n c] w fun e w' => e = .returned (.func (.func 72) #[] #[.pointer (some ⟨w.heap.size, 0, none⟩)]) ∧ w.alloc (.cells #[.slice a n c] 22) = w' := by
  go_enter Tryz.func50, Tryz.ntmps50
  go_wp2
  go_ret
  exact ⟨rfl, rfl⟩
end Frk
