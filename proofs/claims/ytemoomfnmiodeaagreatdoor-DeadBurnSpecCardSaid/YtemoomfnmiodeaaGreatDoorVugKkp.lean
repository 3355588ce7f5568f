/- Parts of the proof, joined. -/
import Derived.Test.YtemoomfnmiodeaaGreatDoorVugElm
import Derived.Test.YtemoomfnmiodeaaGreatDoorVuRow
import Derived.Test.YtemoomfnmiodeaaGreatDoorVugKeb
import Derived.Test.YtemoomfnmiodeaaGreatDoorVugKfi
import Derived.Test.YtemoomfnmiodeaaGreatDoorVuKpi
/- Literal slices of elements of several cells. -/
namespace Frk
open Go Go.RowKit Go.Proofs
set_option maxRecDepth 100000

theorem lay_lay (Z A C : List Value) (k : Nat) (h : k + A.length + C.length ≤ Z.length) : lay (lay Z k A) (k + A.length) C = lay Z k (A ++ C) := by
  unfold lay
  have h1 : (Z.take k).length = k := by rw [List.length_take]; omega
  rw [List.take_left' (by rw [List.length_append, h1]), List.length_append, List.drop_append, List.drop_of_length_le (by rw [List.length_append, h1]; omega), List.nil_append, List.length_append, h1, List.drop_drop]
  simp only [List.append_assoc]
  congr 4
  omega
/-- the parts of a literal slice -/
def sparts : List (List Value) → Nat → List (Nat × Value)
  | [], _ => []
  | C :: r, k => (k, .agg C.toArray) :: sparts r (k + 1)
theorem fill_parts (z : Nat) : ∀ (Cs : List (List Value)) (k : Nat) (Z : List Value), (∀ C ∈ Cs, C.length = z) → (k + Cs.length) * z ≤ Z.length →
    Instr.fill (fun i => some (i * z, z)) Z.toArray (sparts Cs k) = some (lay Z (k * z) Cs.flatten).toArray
  | [], k, Z, _, _ => by simp [sparts, Instr.fill, lay_nil]
  | C :: r, k, Z, hC, hl => by
    have h0 := hC C (by simp)
    have hk : (k + (C :: r).length) * z = k * z + z + r.length * z := by rw [List.length_cons, Nat.add_mul, Nat.add_mul]; omega
    rw [hk] at hl
    have e := fold_lay_at (k * z) C 0 Z (by omega)
    have ih := fill_parts z r (k + 1) (lay Z (k * z) C) (fun D hD => hC D (by simp [hD])) (by rw [length_lay (by omega), Nat.add_mul, Nat.add_mul]; omega)
    rw [Nat.add_zero] at e
    simp [sparts, Instr.fill, Value.cells, h0]
    refine ⟨by omega, ?_⟩
    rw [e, ih, show (k + 1) * z = k * z + C.length from by rw [h0, Nat.add_mul]; omega, lay_lay _ _ _ _ (by
      have := isC_flat_len (C := id) (z := z) (l := r) (fun x hx => hC x (by simp [hx]))
      simp only [List.flatMap_id] at this
      rw [this]; omega)]
theorem sparts_flat {z : Nat} {Cs : List (List Value)} (hC : ∀ C ∈ Cs, C.length = z) : Cs.flatten.length = Cs.length * z := by
  have := isC_flat_len (C := id) (z := z) (l := Cs) hC
  simpa using this

theorem exec_bslice {P : Program} {ρ : Operand → Value} {o : Oper} {t elem : TypeId} {m z : Nat} {ps : Array (Nat × Operand)} (ho : o.op = .buildSlice t m ps) (Cs : List (List Value)) (hu : P.underlying t = some (.slice elem)) (w : World) (hs : (Go.sizeOf elem).run P w = .ok z w) {zv : Value} (hz : (zeroValue elem).run P w = .ok zv w)
    (_hzs : zv.cells.size = z) (hm : Cs.length = m) (hC : ∀ C ∈ Cs, C.length = z) (h0 : 0 < m * z) (hb : m * z ≤ 16777216) (hp : ps.toList.map (fun x => (x.1, ρ x.2)) = sparts Cs 0) :
    (execOp ρ o).run P w = .ok (.value (.slice (some ⟨w.heap.size, 0, none⟩) m m)) (w.alloc (.cells Cs.flatten.toArray elem)) := by
  obtain ⟨Z, hZ⟩ : ∃ Z : List Value, Z.toArray = (Array.range (m * z)).map (zv.cells[· % zv.cells.size]!) := ⟨((Array.range (m * z)).map (zv.cells[· % zv.cells.size]!)).toList, by rw [Array.toArray_toList]⟩
  have hZl : Z.length = m * z := by
    have := congrArg Array.size hZ
    simpa using this
  have hf := fill_parts z Cs 0 Z hC (by rw [Nat.zero_add, hm, hZl]; exact Nat.le_refl _)
  have hl : lay Z (0 * z) Cs.flatten = Cs.flatten := by
    unfold lay
    rw [Nat.zero_mul, List.take_zero, List.nil_append, List.drop_of_length_le (by rw [sparts_flat hC, hZl, hm]; omega), List.append_nil]
  rw [hl] at hf
  have h1 : ¬ (16777216 < m * z) := by omega
  have h2 : ¬ (m * z = 0) := by omega
  have hbs : (Instr.buildSlice t m (ps.map fun x => (x.1, ρ x.2))).run P w = .ok (.slice (some ⟨w.heap.size, 0, none⟩) m m) (w.alloc (.cells Cs.flatten.toArray elem)) := by
    unfold Instr.buildSlice
    simp only [run_underlying hu, Sem.run_bind, Result.andThen_ok, hs]
    simp [h1, h2, hz, Result.andThen, ← hZ, newRow]
    rw [hp, hf]
    simp [go_sem]
  unfold execOp
  rw [ho]
  simp [hbs, Result.andThen]

section
variable {l n : Nat} {P : Program} {ops : Array Oper} {rest : List Oper} {o o2 : Oper} {a : Act} {w : World} {Q : Exit → Act → World → Prop}
/-- a literal slice -/
theorem wpList_bslice (hw : Region.wanted o (yielded ops a.tmps) = true) (t elem : TypeId) (m z : Nat) (ps : Array (Nat × Operand)) (ho : o.op = .buildSlice t m ps) (Cs : List (List Value)) (hu : P.underlying t = some (.slice elem)) (hs : ∀ w, (Go.sizeOf elem).run P w = .ok z w) (zv : Value) (hz : ∀ w, (zeroValue elem).run P w = .ok zv w)
    (hzs : zv.cells.size = z) (hm : Cs.length = m) (hC : ∀ C ∈ Cs, C.length = z) (h0 : 0 < m * z) (hb : m * z ≤ 16777216) (hp : ps.toList.map (fun x => (x.1, a.eval x.2)) = sparts Cs 0)
    (h : wpList P ops Q rest (a.put o.dst (.slice (some ⟨w.heap.size, 0, none⟩) m m)) (w.alloc (.cells Cs.flatten.toArray elem))) : wpList P ops Q (o :: rest) a w :=
  wpList_wanted hw fun K hK => by unfold Oper.wp; rw [exec_bslice ho Cs hu w (hs w) (hz w) hzs hm hC h0 hb hp]; exact hK _ _ h
end
end Frk

/- Law 45: Keep. -/
namespace Frk
open Go Go.RowKit Go.Proofs
set_option maxRecDepth 100000

/-- a list of kept letters comes back, and an error -/
def KeptPost (l : List Ltr) (x : Int) (w : World) (e : Ending) (w' : World) : Prop :=
  ∃ a n c, e = .returned (.tuple #[.slice a n c, .int .i64 x]) ∧ Seal (IsC Ltr.C 38 w' a n c l) ∧ Below w.heap.size w w'
theorem zero_kt (w : World) : (zeroValue 30).run Tryz.prog w = .ok (.agg (Value.int .i64 0 :: Value.int .i64 0 :: Value.int .i64 0 :: Value.int .i64 0 :: Value.int .i64 0 :: Value.int .i64 0 :: zs 32).toArray) w := by kernel_rfl
theorem size_kt (w : World) : (Go.sizeOf 30).run Tryz.prog w = .ok 38 w := by kernel_rfl
theorem exec_bslice_kt {ρ : Operand → Value} {op : Oper} {x : Operand} (ho : op.op = .buildSlice 22 1 #[(0, x)]) (C : List Value) (hC : C.length = 38) (hx : ρ x = .agg C.toArray) (w : World) :
    (execOp ρ op).run Tryz.prog w = .ok (.value (.slice (some ⟨w.heap.size, 0, none⟩) 1 1)) (w.alloc (.cells C.toArray 30)) := by
  have h := exec_bslice (ρ := ρ) ho [C] Tryz.underlying22 w (size_kt w) (zero_kt w) rfl rfl (by intro D hD; rw [List.mem_singleton.1 hD]; exact hC) (by decide) (by decide) (by show [((0 : Nat), ρ x)] = _; rw [hx]; rfl)
  rwa [show [C].flatten = C from by simp] at h
theorem isC_nilK (w : World) : IsC Ltr.C 38 w none 0 0 [] := ⟨rfl, Nat.le_refl _, by decide, by decide, by simp, .inl rfl⟩
set_option maxHeartbeats 8000000 in
theorem kkeep_any (a : Option Addr) (n c : Nat) (l : List Ltr) (k : Ltr) (w : World) (hG : Glob w) (hd : IsC Ltr.C 38 w a n c l) (hok : ∀ x ∈ l, x.ok) (hk : k.ok) :
    Calls Tryz.prog 10 #[.slice a n c, .agg k.C.toArray] w (KeptPost (keepL l k) (keepE l k) w) := by
  obtain ⟨X, hX⟩ : ∃ X : World, X = w.alloc (.cells k.C.toArray 30) := ⟨_, rfl⟩
  have HB : Seal (Below w.heap.size w X) := ⟨by rw [hX]; exact below_alloc _ _⟩
  have hrow : X.heap[w.heap.size]? = some (.cells k.C.toArray 30 (0, 0)) := by rw [hX]; exact heap_alloc_new w _
  have hGX := hG.below HB.out
  have hdX := hd.below HB.out
  obtain ⟨e0, he0⟩ : ∃ e, e = chkL l := ⟨_, rfl⟩
  have HC1 := Seal.mk (kchk_any a n c l X hGX hdX hok)
  rw [← he0] at HC1
  obtain ⟨C, hC⟩ : ∃ C, C = k.C := ⟨_, rfl⟩
  have HCC := Seal.mk hC
  have iC : (Tryz.prog.info? 30).map (·.size) = some C.length := by rw [hC]; exact Ltr.info hk.t32
  have ut := Tryz.underlying30
  rw [← hC] at hX hrow ⊢
  have HR := Seal.mk hrow
  have HGl : Seal (∀ W, Below w.heap.size w W → Glob W) := ⟨fun W h => hG.below h⟩
  have HD := Seal.mk hd
  have HOK := Seal.mk hok
  have HK := Seal.mk hk
  have hll := hd.llen
  have hlm := hd.lmax
  obtain ⟨gx, hgx⟩ : ∃ g, g = w.heap.size := ⟨_, rfl⟩
  have HGX : Seal (gx = w.heap.size) := ⟨hgx⟩
  clear hG hd hok hk hGX hdX hC hrow
  by_cases hz : e0 = 0
  · subst hz
    have HE := Seal.mk he0
    obtain ⟨b, hb⟩ : ∃ b, b = okK k := ⟨_, rfl⟩
    have HC2 : Seal (∀ W, Below w.heap.size w W → Calls Tryz.prog 29 #[.agg C.toArray] W fun e w' => e = .returned (.bool b) ∧ Below W.heap.size W w') := ⟨fun W hW => by rw [hb, HCC.out]; exact kcheck_any k W (HGl.out W hW) HK.out⟩
    have HBk := Seal.mk hb
    have hrx : ∀ W, Below X.heap.size X W → W.rangeAt gx 0 C ∧ W.cell? ⟨gx, 0, none⟩ = some (.int .i64 k.N) := fun W hW => by
      have hrow := (hW.block _ (Array.getElem?_eq_some_iff.1 HR.out).1).trans HR.out
      have hr : W.rangeAt gx 0 C := by rw [HGX.out]; exact rangeAt_row hrow
      refine ⟨hr, ?_⟩
      have := hr 0 (.int .i64 k.N) (by rw [HCC.out]; rfl)
      simpa using this
    have HRX := Seal.mk hrx
    obtain ⟨N, hN⟩ : ∃ N, N = k.N := ⟨_, rfl⟩
    have HN := Seal.mk hN
    clear hb he0 hrx
    go_enter Tryz.func10, Tryz.ntmps10
    go_upto_region 1 with (fail)
    rw [← hX, ← hgx]
    clear hX hgx
    go_wp2_with fail
    refine HC1.out.mono ?_
    rintro e w1 ⟨rfl, hb⟩
    have HB1 := Seal.mk (HB.out.trans (hb.mono HB.out.size))
    have HX1 := Seal.mk hb
    obtain ⟨r1, c1⟩ := HRX.out w1 hb
    rw [← hN] at c1
    clear hb HC1 hN
    go_wp2_with (refine wpList_load_mid rfl 30 (.tmp 3) rfl gx 0 rfl C _ r1 ut rfl iC ?_; (try simp only [Act.put, List.setIfInBounds_toArray, List.set_cons_zero, List.set_cons_succ]))
    refine (HC2.out w1 HB1.out).mono ?_
    rintro e w2 ⟨rfl, hb⟩
    have HB2 := Seal.mk (HB1.out.trans (hb.mono HB1.out.size))
    have HX2 := Seal.mk (HX1.out.trans (hb.mono HX1.out.size))
    have c2 := cell_below' hb c1
    clear hb HC2 r1 c1
    cases b with
    | false =>
      have HR2 : Seal (keepE l k = 450 ∧ keepL l k = []) := ⟨by
        have e1 : keepE l k = 450 := by unfold keepE; rw [if_neg (by rw [← HE.out]; simp), if_pos HBk.out.symm]
        exact ⟨e1, by unfold keepL; rw [if_neg (by rw [e1]; decide)]⟩⟩
      go_wp2
      go_ret2
      exact ⟨none, 0, 0, by rw [HR2.out.1]; rfl, ⟨by rw [HR2.out.2]; exact isC_nilK _⟩, HB2.out⟩
    | true =>
      obtain ⟨h1, h2, h3⟩ := chkL_zero.1 HE.out.symm
      have hrange : ∀ x : Ltr, okK x = true → 0 ≤ x.N ∧ x.N ≤ 1048576 := fun x hx => by
        unfold okK at hx
        simp only [Bool.and_eq_true, decide_eq_true_eq] at hx
        exact ⟨hx.1, hx.2.2.1⟩
      have hkN := hrange k HBk.out.symm
      obtain ⟨ai, hai⟩ : ∃ i, i = atK Ltr.N l k.N := ⟨_, rfl⟩
      obtain ⟨f, hf⟩ : ∃ f, f = hasK Ltr.N l k.N := ⟨_, rfl⟩
      have HS : Seal (Calls Tryz.prog 30 #[.slice a n c, .int .i64 N, .func (.func 31) #[] #[]] w2 fun e w' => e = .returned (.tuple #[.int .i64 (ai : Nat), .bool f]) ∧ Below w2.heap.size w2 w') := ⟨by
        rw [hai, hf, HN.out]
        exact kfind_any a n c l k.N w2 (HD.out.below HB2.out) (fun x hx => (HOK.out x hx).t32) (fun x hx => by have := hrange x (h2 x hx); unfold I64; omega) h3⟩
      have HF := Seal.mk hf
      have HAi := Seal.mk hai
      have H24 : Seal (n ≤ 1024) := ⟨by omega⟩
      clear h1 h2 h3 hrange hkN hai hf
      go_wp2_with fail
      refine HS.out.mono ?_
      rintro e w3 ⟨rfl, hb⟩
      have HB3 := Seal.mk (HB2.out.trans (hb.mono HB2.out.size))
      have HX3 := Seal.mk (HX2.out.trans (hb.mono HX2.out.size))
      clear hb HS c2
      cases f with
      | true =>
        have HR2 : Seal (keepE l k = 181 ∧ keepL l k = []) := ⟨by
          have e1 : keepE l k = 181 := by unfold keepE; rw [if_neg (by rw [← HE.out]; simp), if_neg (by rw [← HBk.out]; simp), if_pos HF.out.symm]
          exact ⟨e1, by unfold keepL; rw [if_neg (by rw [e1]; decide)]⟩⟩
        go_wp2
        go_ret2
        exact ⟨none, 0, 0, by rw [HR2.out.1]; rfl, ⟨by rw [HR2.out.2]; exact isC_nilK _⟩, HB3.out⟩
      | false =>
        by_cases hn : n = 1024
        · have HR2 : Seal (keepE l k = 2 ∧ keepL l k = []) := ⟨by
            have e1 : keepE l k = 2 := by unfold keepE; rw [if_neg (by rw [← HE.out]; simp), if_neg (by rw [← HBk.out]; simp), if_neg (by rw [← HF.out]; simp), if_pos (by omega)]
            exact ⟨e1, by unfold keepL; rw [if_neg (by rw [e1]; decide)]⟩⟩
          have q1 : ((n : Int) == 1024) = true := by simp; omega
          go_wp2
          go_ret2
          exact ⟨none, 0, 0, by rw [HR2.out.1]; rfl, ⟨by rw [HR2.out.2]; exact isC_nilK _⟩, HB3.out⟩
        · have HR2 : Seal (keepE l k = 0 ∧ keepL l k = l.take ai ++ k :: l.drop ai) := ⟨by
            have e1 : keepE l k = 0 := by unfold keepE; rw [if_neg (by rw [← HE.out]; simp), if_neg (by rw [← HBk.out]; simp), if_neg (by rw [← HF.out]; simp), if_neg (by omega)]
            exact ⟨e1, by unfold keepL; rw [if_pos e1]; unfold insK; rw [HAi.out]⟩⟩
          have q1 : ((n : Int) == 1024) = false := by simp; omega
          have HI : Seal (∀ (base vb : Nat) (v : Value) (W : World), OwnK W base v n l → W.heap[vb]? = some (.cells C.toArray 30 (0, 0)) → base ≤ W.heap.size → v.ownBlock ≠ some vb → Calls Tryz.prog 32 #[v, .int .i64 (ai : Nat), .slice (some ⟨vb, 0, none⟩) 1 1] W (InsPostK base n (keepL l k) W)) := ⟨fun base vb v W h1 h2 h3 h4 => by
            rw [HR2.out.2]
            exact kinsert_any base n ai vb v l k W ⟨h1⟩ hll (fun x hx => Ltr.C_len (HOK.out x hx).t32) (by rw [HAi.out, ← hll]; exact atK_le _ _) ⟨by rw [← HCC.out]; exact h2⟩ (Ltr.C_len HK.out.t32) (by omega) h3 h4⟩
          have HLn : Seal ((keepL l k).length = n + 1 ∧ ∀ x ∈ keepL l k, x.C.length = 38) := ⟨by
            have hle := atK_le (key := Ltr.N) l k.N
            rw [← HAi.out] at hle
            rw [HR2.out.2]
            refine ⟨by simp; omega, fun x hx => ?_⟩
            rcases List.mem_append.1 hx with h | h
            · exact Ltr.C_len (HOK.out x (List.mem_of_mem_take h)).t32
            · rcases List.mem_cons.1 h with h | h
              · rw [h]; exact Ltr.C_len HK.out.t32
              · exact Ltr.C_len (HOK.out x (List.mem_of_mem_drop h)).t32⟩
          have HCl : Seal (C.length = 38) := ⟨by rw [HCC.out]; exact Ltr.C_len HK.out.t32⟩
          have r3 := (HRX.out w3 HX3.out).1
          go_wp2_with fail
          refine wp_region_held_drew (S := fun w' => w'.rangeAt gx 0 C) (by kernel_rfl) r3 (fun hHeld => ?_)
          obtain ⟨V, hV⟩ : ∃ V, V = w3.drew := ⟨_, rfl⟩
          have HV : Seal (Below w.heap.size w V) := ⟨by rw [hV]; exact HB3.out.trans ((below_drewn_o _).mono HB3.out.size)⟩
          have HZ : Seal (gx < V.heap.size) := ⟨by
            have h1 := HX3.out.size
            have h2 := (Array.getElem?_eq_some_iff.1 HR.out).1
            rw [hV]
            show gx < w3.heap.size
            have := HGX.out
            omega⟩
          rw [← hV] at hHeld ⊢
          clear hV r3
          have S5 : Seal (∀ W : World, W.rangeAt gx 0 C → (W.alloc (.cells C.toArray 30)).rangeAt gx 0 C) := ⟨fun W h => rangeAt_below' h (below_alloc W _)⟩
          refine take_h 0 ?_ rfl (by kernel_rfl) (by kernel_rfl) (by kernel_rfl) (fun _ _ _ h => h) (Or.inl ⟨by kernel_rfl, ?_⟩) (by assumption) ?_
          rotate_left
          · (intro w hSw; (try dsimp only at hSw); go_simp; try (with_reducible rfl))
          try simp only [Act.put, List.setIfInBounds_toArray, List.set_cons_zero, List.set_cons_succ]
          refine take_h 2 ?_ rfl (by kernel_rfl) (by kernel_rfl) (by kernel_rfl) (fun _ _ _ h => h) (Or.inl ⟨by kernel_rfl, ?_⟩) (by assumption) ?_
          rotate_left
          · (intro w hSw; (try dsimp only at hSw); go_simp; try (with_reducible rfl))
          try simp only [Act.put, List.setIfInBounds_toArray, List.set_cons_zero, List.set_cons_succ]
          refine take_h 3 _ rfl (by kernel_rfl) (by kernel_rfl) (by kernel_rfl) (fun _ _ _ h => h) (yieldsIf_load_mid (by kernel_rfl) 30 (.tmp 3) rfl gx 0 rfl C _ (fun w hSw => hSw) ut rfl iC) (by assumption) ?_
          try simp only [Act.put, List.setIfInBounds_toArray, List.set_cons_zero, List.set_cons_succ]
          refine wpAnyH_ready (rs := [1, 4]) (by kernel_rfl) (by simp) (call_b 1 rfl 33 #[.slice a n c] (by kernel_rfl) (by go_simp) ?_ (oper_b 4 (.slice (some ⟨V.heap.size, 0, none⟩) 1 1) (V.alloc (.cells C.toArray 30)) rfl (by kernel_rfl) (exec_bslice_kt rfl C HCl.out rfl V) (S5.out _ hHeld) (fun hHeld2 => ?_) AllReadyH.nil))
          · refine (kclone_any a n c l V (HD.out.below HV.out)).mono ?_
            rintro e w4 ⟨v, rfl, ho, hv, hb4⟩
            have HB4 : Seal (Below w.heap.size w w4 ∧ V.heap.size ≤ w4.heap.size) := ⟨HV.out.trans (hb4.mono HV.out.size), hb4.size⟩
            refine ⟨_, rfl, rangeAt_below' hHeld hb4, fun hHeld2 => ?_⟩
            clear hHeld hb4 hv
            try simp only [Act.put, List.setIfInBounds_toArray, List.set_cons_zero, List.set_cons_succ]
            refine oper_h 4 (.slice (some ⟨w4.heap.size, 0, none⟩) 1 1) (w4.alloc (.cells C.toArray 30)) rfl (by kernel_rfl) (by kernel_rfl) (exec_bslice_kt rfl C HCl.out rfl w4) (S5.out _ hHeld2) (fun hHeld3 => ?_)
            clear hHeld2
            try simp only [Act.put, List.setIfInBounds_toArray, List.set_cons_zero, List.set_cons_succ]
            refine call_h 5 rfl (by kernel_rfl) 32 #[v, .int .i64 (ai : Nat), .slice (some ⟨w4.heap.size, 0, none⟩) 1 1] (by kernel_rfl) (by go_simp) ?_
            refine (HI.out V.heap.size w4.heap.size v _ (World.ownsRow.alloc ho.out _) (heap_alloc_new w4 _) (by rw [size_alloc]; have := HB4.out; omega) (fun e => by have := (ho.out.lt _ e).2; omega)).mono ?_
            rintro e w6 ⟨gI, cI, rfl, hG, hb5⟩
            have HB6 : Seal (Below w.heap.size w w6) := ⟨(HB4.out.1.trans ((below_alloc w4 _).mono HB4.out.1.size)).trans (hb5.mono HV.out.size)⟩
            refine ⟨_, rfl, rangeAt_below hHeld3 hb5 (by have := HZ.out; omega), fun hHeld4 => ?_⟩
            clear hHeld3 hb5 ho
            try simp only [Act.put, List.setIfInBounds_toArray, List.set_cons_zero, List.set_cons_succ]
            refine take_h 6 ?_ rfl (by kernel_rfl) (by kernel_rfl) (by kernel_rfl) (fun _ _ _ h => h) (Or.inl ⟨by kernel_rfl, ?_⟩) (by assumption) ?_
            rotate_left
            · (intro w hSw; (try dsimp only at hSw); go_simp; try (with_reducible rfl))
            try simp only [Act.put, List.setIfInBounds_toArray, List.set_cons_zero, List.set_cons_succ]
            refine take_h 7 ?_ rfl (by kernel_rfl) (by kernel_rfl) (by kernel_rfl) (fun _ _ _ h => h) (Or.inl ⟨by kernel_rfl, ?_⟩) (by assumption) ?_
            rotate_left
            · (intro w hSw; (try dsimp only at hSw); go_simp; try (with_reducible rfl))
            try simp only [Act.put, List.setIfInBounds_toArray, List.set_cons_zero, List.set_cons_succ]
            refine wpAnyH_done (by kernel_rfl) ?_ _
            clear hHeld4
            go_wp2
            go_ret2
            obtain ⟨b1, l1, e1, i1⟩ := isC_own (C := Ltr.C) hG.out HLn.out.2 HLn.out.1 (by have := H24.out; omega)
            cases e1
            exact ⟨_, _, _, by rw [HR2.out.1]; rfl, ⟨i1⟩, HB6.out⟩
          · clear hHeld
            try simp only [Act.put, List.setIfInBounds_toArray, List.set_cons_zero, List.set_cons_succ]
            refine call_h 1 rfl (by kernel_rfl) 33 #[.slice a n c] (by kernel_rfl) (by go_simp) ?_
            obtain ⟨W4, hW4⟩ : ∃ W4, W4 = V.alloc (.cells C.toArray 30) := ⟨_, rfl⟩
            have hb4 : Below V.heap.size V W4 := by rw [hW4]; exact below_alloc _ _
            have HB4 : Seal (Below w.heap.size w W4 ∧ V.heap.size < W4.heap.size ∧ W4.heap[V.heap.size]? = some (.cells C.toArray 30 (0, 0))) := ⟨HV.out.trans (hb4.mono HV.out.size), by rw [hW4, size_alloc]; omega, by rw [hW4]; exact heap_alloc_new V _⟩
            rw [← hW4] at hHeld2 ⊢
            clear hW4 hb4
            refine (kclone_any a n c l W4 (HD.out.below HB4.out.1)).mono ?_
            rintro e w5 ⟨v, rfl, ho, hv, hb4⟩
            have HB5 : Seal (Below w.heap.size w w5 ∧ W4.heap.size ≤ w5.heap.size ∧ w5.heap[V.heap.size]? = some (.cells C.toArray 30 (0, 0))) := ⟨HB4.out.1.trans (hb4.mono HB4.out.1.size), hb4.size, (hb4.block _ HB4.out.2.1).trans HB4.out.2.2⟩
            refine ⟨_, rfl, rangeAt_below' hHeld2 hb4, fun hHeld3 => ?_⟩
            clear hHeld2 hb4 hv
            try simp only [Act.put, List.setIfInBounds_toArray, List.set_cons_zero, List.set_cons_succ]
            refine call_h 5 rfl (by kernel_rfl) 32 #[v, .int .i64 (ai : Nat), .slice (some ⟨V.heap.size, 0, none⟩) 1 1] (by kernel_rfl) (by go_simp) ?_
            refine (HI.out W4.heap.size V.heap.size v _ ho.out HB5.out.2.2 HB5.out.2.1 (fun e => by have := (ho.out.lt _ e).1; have := HB4.out; omega)).mono ?_
            rintro e w6 ⟨gI, cI, rfl, hG, hb5⟩
            have HB6 : Seal (Below w.heap.size w w6) := ⟨HB5.out.1.trans (hb5.mono HB4.out.1.size)⟩
            refine ⟨_, rfl, rangeAt_below hHeld3 hb5 (by have := HZ.out; have := HB4.out.2.1; omega), fun hHeld4 => ?_⟩
            clear hHeld3 hb5 ho
            try simp only [Act.put, List.setIfInBounds_toArray, List.set_cons_zero, List.set_cons_succ]
            refine take_h 6 ?_ rfl (by kernel_rfl) (by kernel_rfl) (by kernel_rfl) (fun _ _ _ h => h) (Or.inl ⟨by kernel_rfl, ?_⟩) (by assumption) ?_
            rotate_left
            · (intro w hSw; (try dsimp only at hSw); go_simp; try (with_reducible rfl))
            try simp only [Act.put, List.setIfInBounds_toArray, List.set_cons_zero, List.set_cons_succ]
            refine take_h 7 ?_ rfl (by kernel_rfl) (by kernel_rfl) (by kernel_rfl) (fun _ _ _ h => h) (Or.inl ⟨by kernel_rfl, ?_⟩) (by assumption) ?_
            rotate_left
            · (intro w hSw; (try dsimp only at hSw); go_simp; try (with_reducible rfl))
            try simp only [Act.put, List.setIfInBounds_toArray, List.set_cons_zero, List.set_cons_succ]
            refine wpAnyH_done (by kernel_rfl) ?_ _
            clear hHeld4
            go_wp2
            go_ret2
            obtain ⟨b1, l1, e1, i1⟩ := isC_own (C := Ltr.C) hG.out HLn.out.2 HLn.out.1 (by have := H24.out; omega)
            cases e1
            exact ⟨_, _, _, by rw [HR2.out.1]; rfl, ⟨i1⟩, HB6.out⟩
  · have HE : Seal (keepE l k = e0 ∧ keepL l k = []) := ⟨by
      have e1 : keepE l k = e0 := by unfold keepE; rw [if_pos (by rw [← he0]; exact hz), he0]
      exact ⟨e1, by unfold keepL; rw [if_neg (by rw [e1]; exact hz)]⟩⟩
    clear he0
    go_enter Tryz.func10, Tryz.ntmps10
    go_upto_region 1 with (fail)
    rw [← hX]
    clear hX
    go_wp2_with fail
    refine HC1.out.mono ?_
    rintro e w1 ⟨rfl, hb⟩
    have HB1 := Seal.mk (HB.out.trans (hb.mono HB.out.size))
    clear hb HC1
    go_wp2
    go_ret2
    exact ⟨none, 0, 0, by rw [HE.out.1]; rfl, ⟨by rw [HE.out.2]; exact isC_nilK _⟩, HB1.out⟩
end Frk

