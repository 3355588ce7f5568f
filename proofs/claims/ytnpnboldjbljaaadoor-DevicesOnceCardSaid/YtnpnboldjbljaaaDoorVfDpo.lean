/- Law 44: Post. -/
import Derived.Test.YtnpnboldjbljaaaDoorVfDme
import Derived.Test.YtnpnboldjbljaaaDoorVfDpf
import Derived.Test.YtnpnboldjbljaaaDoorVfDpi
import Derived.Test.YtnpnboldjbljaaaDoorVfgLin
namespace Frk
open Go Go.RowKit Go.Proofs
set_option maxRecDepth 100000

def postE (d : Dv) (o : Int) : Int := if chkD d ≠ 0 then chkD d else if o < 0 ∨ 1048576 < o then 1 else if hasK Po.o d.P o then 181 else if d.P.length = 4096 then 2 else 0
def postD (d : Dv) (s o : Int) : Dv := if postE d o = 0 then ⟨insK Po.o d.P ⟨o, serB s o⟩, d.G⟩ else Dv.z
def postP (d : Dv) (s o : Int) : Po := if postE d o = 0 then ⟨o, serB s o⟩ else zPo 0
theorem postP_len (d : Dv) (s o : Int) : (postP d s o).S.length = 32 := by
  unfold postP
  split
  · exact serB_len s o
  · rfl
def PostPost (D : Dv) (p : Po) (er : Int) (w : World) (e : Ending) (w' : World) : Prop :=
  ∃ v1 v2, e = .returned (.tuple #[.agg #[v1, v2], .agg p.C.toArray, .int .i64 er]) ∧ Seal (DevAt w' v1 v2 D) ∧ Below w.heap.size w w'
theorem results_two_tmp {P : Program} {fn : Func} {p p2 q : Tmp} {ty ty2 : TypeId} (h : fn.results = #[.cell p ty, .cell p2 ty2, .tmp q]) (tmps : Array Value) (w : World) (g g2 : Nat) (t t2 : TypeId) (cs cs2 : Array Value) (v : Value) {d d2 : TypeDesc}
    (hp : tmps.getD p undef = .pointer (some ⟨g, 0, none⟩)) (hp2 : tmps.getD p2 undef = .pointer (some ⟨g2, 0, none⟩)) (hq : tmps.getD q undef = v) (hg : w.heap[g]? = some (.cells cs t (0, 0))) (hg2 : w.heap[g2]? = some (.cells cs2 t2 (0, 0)))
    (hu : P.underlying ty = some d) (hd : (match d with | .struct _ | .array _ _ => true | _ => false) = true) (hi : (P.info? ty).map (·.size) = some cs.size)
    (hu2 : P.underlying ty2 = some d2) (hd2 : (match d2 with | .struct _ | .array _ _ => true | _ => false) = true) (hi2 : (P.info? ty2).map (·.size) = some cs2.size) :
    (results fn tmps).run P w = .ok (.tuple #[.agg cs, .agg cs2, v]) w := by
  have hp' : tmps[p]?.getD undef = .pointer (some ⟨g, 0, none⟩) := by simpa using hp
  have hp2' : tmps[p2]?.getD undef = .pointer (some ⟨g2, 0, none⟩) := by simpa using hp2
  have hq' : tmps[q]?.getD undef = v := by simpa using hq
  simp [results, h, hp', hp2', hq', asAddr, run_loadVar_row w g t ty cs (0, 0) d hg hu hd hi, run_loadVar_row w g2 t2 ty2 cs2 (0, 0) d2 hg2 hu2 hd2 hi2]

theorem pos_zero : ∃ zl : List Value, (#[.int .i64 0, .int .u8 0, .int .u8 0, .int .u8 0, .int .u8 0, .int .u8 0, .int .u8 0, .int .u8 0, .int .u8 0, .int .u8 0, .int .u8 0, .int .u8 0, .int .u8 0, .int .u8 0, .int .u8 0, .int .u8 0, .int .u8 0, .int .u8 0, .int .u8 0, .int .u8 0, .int .u8 0, .int .u8 0, .int .u8 0, .int .u8 0, .int .u8 0, .int .u8 0, .int .u8 0, .int .u8 0, .int .u8 0, .int .u8 0, .int .u8 0, .int .u8 0, .int .u8 0] : Array Value) = zl.toArray ∧ zl.length = 33 := ⟨[Value.int .i64 0, .int .u8 0, .int .u8 0, .int .u8 0, .int .u8 0, .int .u8 0, .int .u8 0, .int .u8 0, .int .u8 0, .int .u8 0, .int .u8 0, .int .u8 0, .int .u8 0, .int .u8 0, .int .u8 0, .int .u8 0, .int .u8 0, .int .u8 0, .int .u8 0, .int .u8 0, .int .u8 0, .int .u8 0, .int .u8 0, .int .u8 0, .int .u8 0, .int .u8 0, .int .u8 0, .int .u8 0, .int .u8 0, .int .u8 0, .int .u8 0, .int .u8 0, .int .u8 0], rfl, rfl⟩
theorem zeroPos (w : World) : (zeroValue 31).run Tryd.prog w = .ok (.agg #[.int .i64 0, .int .u8 0, .int .u8 0, .int .u8 0, .int .u8 0, .int .u8 0, .int .u8 0, .int .u8 0, .int .u8 0, .int .u8 0, .int .u8 0, .int .u8 0, .int .u8 0, .int .u8 0, .int .u8 0, .int .u8 0, .int .u8 0, .int .u8 0, .int .u8 0, .int .u8 0, .int .u8 0, .int .u8 0, .int .u8 0, .int .u8 0, .int .u8 0, .int .u8 0, .int .u8 0, .int .u8 0, .int .u8 0, .int .u8 0, .int .u8 0, .int .u8 0, .int .u8 0]) w := by kernel_rfl
theorem run_build_pos (o : Int) (C : List Value) (hC : C.length = 32) (w : World) :
    (Instr.build 31 #[(0, .int .i64 o), (1, .agg C.toArray)]).run Tryd.prog w = .ok (.agg (.int .i64 o :: C).toArray) w := by
  obtain ⟨zl, hz, hl⟩ := pos_zero
  have hz' := zeroPos w
  rw [hz] at hz'
  have hs : (Go.sizeOf 3).run Tryd.prog w = .ok 1 w := by kernel_rfl
  have e1 : zl.set 0 (.int .i64 o) = lay zl 0 [.int .i64 o] := by
    cases zl with
    | nil => simp at hl
    | cons x t => simp [lay]
  have e2 := fold_lay_at 1 C 0 (lay zl 0 [.int .i64 o]) (by rw [length_lay (by simp; omega)]; omega)
  have e3 : lay (lay zl 0 [.int .i64 o]) (1 + 0) C = .int .i64 o :: C := by
    unfold lay
    simp only [Nat.zero_add, Nat.add_zero, List.take_zero, List.nil_append]
    rw [List.take_left' (by simp), List.drop_of_length_le (by rw [List.length_append, List.length_drop]; simp; omega), List.append_nil]
    rfl
  unfold Instr.build
  simp [hz', run_underlying Tryd.underlying31, hs, Result.andThen, Instr.fill, Value.cells, hC, hl]
  rw [e1, e2, e3]
theorem exec_build_pos {ρ : Operand → Value} {op : Oper} {x y : Operand} (ho : op.op = .build 31 #[(0, x), (1, y)]) (o : Int) (C : List Value) (hC : C.length = 32) (hx : ρ x = .int .i64 o) (hy : ρ y = .agg C.toArray) (w : World) :
    (execOp ρ op).run Tryd.prog w = .ok (.value (.agg (.int .i64 o :: C).toArray)) w := by
  have h := run_build_pos o C hC w
  unfold execOp
  rw [ho]
  simp [hx, hy, h, Result.andThen]
theorem wpList_build_pos {ops : Array Oper} {rest : List Oper} {op : Oper} {a : Act} {w : World} {Q : Exit → Act → World → Prop} (hg : op.guard = none) (x y : Operand) (ho : op.op = .build 31 #[(0, x), (1, y)])
    (o : Int) (C : List Value) (hC : C.length = 32) (hx : a.eval x = .int .i64 o) (hy : a.eval y = .agg C.toArray) (h : wpList Tryd.prog ops Q rest (a.put op.dst (.agg (.int .i64 o :: C).toArray)) w) :
    wpList Tryd.prog ops Q (op :: rest) a w :=
  wpList_plain hg fun K hK' => by unfold Oper.wp; rw [exec_build_pos ho o C hC hx hy]; exact hK' _ _ h
theorem zero_pos (w : World) : (zeroValue 31).run Tryd.prog w = .ok (.agg (.int .i64 0 :: zs 32).toArray) w := by kernel_rfl
theorem size_pos (w : World) : (Go.sizeOf 31).run Tryd.prog w = .ok 33 w := by kernel_rfl

theorem exec_bslice_pos {ρ : Operand → Value} {op : Oper} {x : Operand} (ho : op.op = .buildSlice 22 1 #[(0, x)]) (C : List Value) (hC : C.length = 33) (hx : ρ x = .agg C.toArray) (w : World) :
    (execOp ρ op).run Tryd.prog w = .ok (.value (.slice (some ⟨w.heap.size, 0, none⟩) 1 1)) (w.alloc (.cells C.toArray 31)) := by
  have h := exec_bslice (ρ := ρ) ho [C] Tryd.underlying22 w (size_pos w) (zero_pos w) rfl rfl (by intro D hD; rw [List.mem_singleton.1 hD]; exact hC) (by decide) (by decide) (by show [((0 : Nat), ρ x)] = _; rw [hx]; rfl)
  rwa [show [C].flatten = C from by simp] at h
set_option maxHeartbeats 8000000 in
theorem dpost_any (pa ga : Option Addr) (pn pc gn gc : Nat) (D : Dv) (s o : Int) (w : World) (hGl : Glob w) (hs : I64 s) (ho : I64 o) (hP : IsPs w pa pn pc D.P) (h32 : ∀ x ∈ D.P, x.S.length = 32) (hG : IsIs w ga gn gc D.G) :
    Calls Tryd.prog 11 #[.agg #[.slice pa pn pc, .slice ga gn gc], .int .i64 s, .int .i64 o] w (PostPost (postD D s o) (postP D s o) (postE D o) w) := by
  obtain ⟨ZP, hZP⟩ : ∃ Z : List Value, Z = [Value.int .i64 0, .int .u8 0, .int .u8 0, .int .u8 0, .int .u8 0, .int .u8 0, .int .u8 0, .int .u8 0, .int .u8 0, .int .u8 0, .int .u8 0, .int .u8 0, .int .u8 0, .int .u8 0, .int .u8 0, .int .u8 0, .int .u8 0, .int .u8 0, .int .u8 0, .int .u8 0, .int .u8 0, .int .u8 0, .int .u8 0, .int .u8 0, .int .u8 0, .int .u8 0, .int .u8 0, .int .u8 0, .int .u8 0, .int .u8 0, .int .u8 0, .int .u8 0, .int .u8 0] := ⟨_, rfl⟩
  obtain ⟨X, hX⟩ : ∃ X : World, X = ((w.alloc (.cells #[.slice pa pn pc, .slice ga gn gc] 25)).alloc (.cells #[.slice none 0 0, .slice none 0 0] 25)).alloc (.cells #[.int .i64 0, .int .u8 0, .int .u8 0, .int .u8 0, .int .u8 0, .int .u8 0, .int .u8 0, .int .u8 0, .int .u8 0, .int .u8 0, .int .u8 0, .int .u8 0, .int .u8 0, .int .u8 0, .int .u8 0, .int .u8 0, .int .u8 0, .int .u8 0, .int .u8 0, .int .u8 0, .int .u8 0, .int .u8 0, .int .u8 0, .int .u8 0, .int .u8 0, .int .u8 0, .int .u8 0, .int .u8 0, .int .u8 0, .int .u8 0, .int .u8 0, .int .u8 0, .int .u8 0] 31) := ⟨_, rfl⟩
  have HB : Seal (Below w.heap.size w X) := ⟨by rw [hX]; exact (((Below.refl _ w).alloc (Nat.le_refl _) _).alloc (by simp) _).alloc (by simp; omega) _⟩
  obtain ⟨hrow, hres, hpo⟩ : X.heap[w.heap.size]? = some (.cells #[.slice pa pn pc, .slice ga gn gc] 25 (0, 0)) ∧ X.heap[w.heap.size + 1]? = some (.cells #[.slice none 0 0, .slice none 0 0] 25 (0, 0)) ∧ X.heap[w.heap.size + 1 + 1]? = some (.cells ZP.toArray 31 (0, 0)) := by rw [hX, hZP]; exact heap_alloc3 w _ _ _
  have HZP : Seal (ZP = (zPo 0).C) := ⟨by rw [hZP]; rfl⟩
  have HZ1 : Seal (ZP.toArray.all (·.oneCell') = true) := ⟨all_oneCell_toArray (by rw [HZP.out]; exact Po.C_one _)⟩
  have iZ : (Tryd.prog.info? 31).map (·.size) = some ZP.length := by rw [HZP.out]; exact Po.C_info rfl
  have c0 : X.cell? ⟨w.heap.size, 0, none⟩ = some (.slice pa pn pc) := by rw [cell_of_row _ _ _ _ _ _ hrow]; rfl
  have c1 : X.cell? ⟨w.heap.size, 1, none⟩ = some (.slice ga gn gc) := by rw [cell_of_row _ _ _ _ _ _ hrow]; rfl
  have HP : Seal (∀ W, Below w.heap.size w W → IsPs W pa pn pc D.P ∧ IsIs W ga gn gc D.G) := ⟨fun W h => ⟨hP.below h, hG.below h⟩⟩
  have HGl : Seal ((∀ W, Below w.heap.size w W → Glob W) ∧ I64 s ∧ I64 o) := ⟨⟨fun W h => hGl.below h, hs, ho⟩⟩
  have H32 := Seal.mk h32
  have HCk : Seal (∀ W, Below w.heap.size w W → Calls Tryd.prog 13 #[.agg #[.slice pa pn pc, .slice ga gn gc]] W fun e w' => e = .returned (.int .i64 (chkD D)) ∧ Below W.heap.size W w') := ⟨fun W h => dcheck_any pa ga pn pc gn gc D W (hP.below h) h32 (hG.below h)⟩
  have HN : Seal (D.P.length = pn ∧ D.G.length = gn) := ⟨hP.llen, hG.llen⟩
  obtain ⟨er, her⟩ : ∃ e, e = chkD D := ⟨_, rfl⟩
  rw [← her] at HCk
  have HER := Seal.mk her
  have hgs : w.heap.size + 1 + 1 < X.heap.size := (Array.getElem?_eq_some_iff.1 hpo).1
  obtain ⟨gx, hgx⟩ : ∃ g, g = w.heap.size := ⟨_, rfl⟩
  have HGX := Seal.mk hgx
  have ut := Tryd.underlying31
  have ud := Tryd.underlying25
  rw [← hgx] at c0 c1 hres hpo hgs
  clear hP h32 hG hrow her hGl hs ho hZP
  go_enter Tryd.func11, Tryd.ntmps11
  go_upto_region 1 with (fail)
  rw [← hX]
  rw [← hgx]
  clear hX hgx
  go_wp2_with fail
  refine (HCk.out X HB.out).mono ?_
  rintro e w1 ⟨rfl, hb⟩
  have HB1 := Seal.mk (HB.out.trans (hb.mono HB.out.size))
  have c0 := cell_below' hb c0
  have c1 := cell_below' hb c1
  have hres := (hb.block _ (by omega)).trans hres
  have hpo := (hb.block _ hgs).trans hpo
  have hgs := Nat.lt_of_lt_of_le hgs hb.size
  clear hb HB HCk
  by_cases h0 : er = 0
  rotate_left
  · have HE : Seal (postE D o = er ∧ postD D s o = Dv.z ∧ postP D s o = zPo 0) := ⟨by
      have e : postE D o = er := by unfold postE; rw [← HER.out, if_pos h0]
      exact ⟨e, by unfold postD; rw [e, if_neg h0], by unfold postP; rw [e, if_neg h0]⟩⟩
    have q0 : ¬ er = 0 := h0
    clear HER h0
    go_upto_region 3 with (fail)
    refine wp_region_held_drew (S := fun w' => w'.heap[gx + 1]? = some (.cells #[.slice none 0 0, .slice none 0 0] 25 (0, 0)) ∧ w'.heap[gx + 1 + 1]? = some (.cells ZP.toArray 31 (0, 0))) (by kernel_rfl) ⟨hres, hpo⟩ (fun hHeld => ?_)
    obtain ⟨V, hV⟩ : ∃ V, V = w1.drew := ⟨_, rfl⟩
    have HV : Seal (Below w.heap.size w V) := ⟨by rw [hV]; exact HB1.out.trans ((bel_drew _).mono HB1.out.size)⟩
    rw [← hV] at hHeld ⊢
    clear hV
    refine take_h 0 _ rfl (by kernel_rfl) (by kernel_rfl) (by kernel_rfl) (fun _ _ _ h => h) (yieldsIf_load_mid (by kernel_rfl) 25 (.tmp 6) rfl (gx + 1) 0 rfl [Value.slice none 0 0, .slice none 0 0] _ (fun w hSw => rangeAt_row (cs := [Value.slice none 0 0, .slice none 0 0]) hSw.1) ud rfl dev_info) (by assumption) ?_
    try simp only [Act.put, List.setIfInBounds_toArray, List.set_cons_zero, List.set_cons_succ]
    refine take_h 1 _ rfl (by kernel_rfl) (by kernel_rfl) (by kernel_rfl) (fun _ _ _ h => h) (yieldsIf_load_mid (by kernel_rfl) 31 (.tmp 7) rfl (gx + 1 + 1) 0 rfl ZP _ (fun w hSw => rangeAt_row hSw.2) ut rfl iZ) (by assumption) ?_
    try simp only [Act.put, List.setIfInBounds_toArray, List.set_cons_zero, List.set_cons_succ]
    refine take_h 2 ?_ rfl (by kernel_rfl) (by kernel_rfl) (by kernel_rfl) (fun _ _ _ h => h) (Or.inl ⟨by kernel_rfl, ?_⟩) (by assumption) ?_
    rotate_left
    · (intro w hSw; (try dsimp only at hSw); go_simp; try (with_reducible rfl))
    try simp only [Act.put, List.setIfInBounds_toArray, List.set_cons_zero, List.set_cons_succ]
    refine skip_h 3 (V.setRow (gx + 1) #[.slice none 0 0, .slice none 0 0]) rfl (by kernel_rfl) (by kernel_rfl) (exec_store_row 25 (.tmp 6) (.tmp 15) rfl (gx + 1) #[.slice none 0 0, .slice none 0 0] rfl rfl 25 #[.slice none 0 0, .slice none 0 0] hHeld.1 dev_info rfl (by simp [Value.oneCell'])) ⟨setRow_heap _ _ _ _ _ _ hHeld.1, (heap_setRow_ne (by omega)).trans hHeld.2⟩ (fun hHeld2 => ?_)
    try simp only [Act.put]
    refine skip_h 4 ((V.setRow (gx + 1) #[.slice none 0 0, .slice none 0 0]).setRow (gx + 1 + 1) ZP.toArray) rfl (by kernel_rfl) (by kernel_rfl) (exec_store_row 31 (.tmp 7) (.tmp 16) rfl (gx + 1 + 1) ZP.toArray rfl rfl 31 ZP.toArray hHeld2.2 (by simpa using iZ) rfl HZ1.out) ⟨(heap_setRow_ne (by omega)).trans hHeld2.1, setRow_heap _ _ _ _ _ _ hHeld2.2⟩ (fun hHeld3 => ?_)
    try simp only [Act.put]
    refine take_h 5 ?_ rfl (by kernel_rfl) (by kernel_rfl) (by kernel_rfl) (fun _ _ _ h => h) (Or.inl ⟨by kernel_rfl, ?_⟩) (by assumption) ?_
    rotate_left
    · (intro w hSw; (try dsimp only at hSw); go_simp; try (with_reducible rfl))
    try simp only [Act.put, List.setIfInBounds_toArray, List.set_cons_zero, List.set_cons_succ]
    refine wpAnyH_done (by kernel_rfl) ?_ _
    have H3 := Seal.mk hHeld3
    clear hHeld hHeld2 hHeld3
    go_wp2
    refine bodyPost_ret (results_two_tmp (fn := Tryd.f11) rfl _ _ (gx + 1) (gx + 1 + 1) 25 31 #[.slice none 0 0, .slice none 0 0] ZP.toArray _ rfl rfl rfl H3.out.1 H3.out.2 ud rfl dev_info ut rfl (by simpa using iZ)) rfl ?_
    rw [HE.out.1, HE.out.2.1, HE.out.2.2, HZP.out]
    exact ⟨_, _, rfl, ⟨devAt_z _⟩, below_row (below_row HV.out (by have := HGX.out; omega) _) (by have := HGX.out; omega) _⟩
  subst h0
  have HCz : Seal (chkD D = 0) := ⟨HER.out.symm⟩
  have HRi : Seal (RisK Po.o D.P) := ⟨(rightD_iff.1 (chkD_zero.1 HCz.out).2).2.1⟩
  clear HER
  by_cases h0 : 0 ≤ o ∧ o ≤ 1048576
  rotate_left
  · have HE : Seal (postE D o = 1 ∧ postD D s o = Dv.z ∧ postP D s o = zPo 0) := ⟨by
      have e : postE D o = 1 := by unfold postE; rw [if_neg (by simp [HCz.out]), if_pos (by omega)]
      exact ⟨e, by unfold postD; rw [e]; rfl, by unfold postP; rw [e]; rfl⟩⟩
    by_cases h1 : o < 0
    · clear h0
      go_upto_region 5 with (fail)
      refine wp_region_held_drew (S := fun w' => w'.heap[gx + 1]? = some (.cells #[.slice none 0 0, .slice none 0 0] 25 (0, 0)) ∧ w'.heap[gx + 1 + 1]? = some (.cells ZP.toArray 31 (0, 0))) (by kernel_rfl) ⟨hres, hpo⟩ (fun hHeld => ?_)
      obtain ⟨V, hV⟩ : ∃ V, V = w1.drew := ⟨_, rfl⟩
      have HV : Seal (Below w.heap.size w V) := ⟨by rw [hV]; exact HB1.out.trans ((bel_drew _).mono HB1.out.size)⟩
      rw [← hV] at hHeld ⊢
      clear hV
      refine take_h 0 _ rfl (by kernel_rfl) (by kernel_rfl) (by kernel_rfl) (fun _ _ _ h => h) (yieldsIf_load_mid (by kernel_rfl) 25 (.tmp 6) rfl (gx + 1) 0 rfl [Value.slice none 0 0, .slice none 0 0] _ (fun w hSw => rangeAt_row (cs := [Value.slice none 0 0, .slice none 0 0]) hSw.1) ud rfl dev_info) (by assumption) ?_
      try simp only [Act.put, List.setIfInBounds_toArray, List.set_cons_zero, List.set_cons_succ]
      refine take_h 1 _ rfl (by kernel_rfl) (by kernel_rfl) (by kernel_rfl) (fun _ _ _ h => h) (yieldsIf_load_mid (by kernel_rfl) 31 (.tmp 7) rfl (gx + 1 + 1) 0 rfl ZP _ (fun w hSw => rangeAt_row hSw.2) ut rfl iZ) (by assumption) ?_
      try simp only [Act.put, List.setIfInBounds_toArray, List.set_cons_zero, List.set_cons_succ]
      refine skip_h 2 (V.setRow (gx + 1) #[.slice none 0 0, .slice none 0 0]) rfl (by kernel_rfl) (by kernel_rfl) (exec_store_row 25 (.tmp 6) (.tmp 24) rfl (gx + 1) #[.slice none 0 0, .slice none 0 0] rfl rfl 25 #[.slice none 0 0, .slice none 0 0] hHeld.1 dev_info rfl (by simp [Value.oneCell'])) ⟨setRow_heap _ _ _ _ _ _ hHeld.1, (heap_setRow_ne (by omega)).trans hHeld.2⟩ (fun hHeld2 => ?_)
      try simp only [Act.put]
      refine skip_h 3 ((V.setRow (gx + 1) #[.slice none 0 0, .slice none 0 0]).setRow (gx + 1 + 1) ZP.toArray) rfl (by kernel_rfl) (by kernel_rfl) (exec_store_row 31 (.tmp 7) (.tmp 25) rfl (gx + 1 + 1) ZP.toArray rfl rfl 31 ZP.toArray hHeld2.2 (by simpa using iZ) rfl HZ1.out) ⟨(heap_setRow_ne (by omega)).trans hHeld2.1, setRow_heap _ _ _ _ _ _ hHeld2.2⟩ (fun hHeld3 => ?_)
      try simp only [Act.put]
      refine take_h 4 ?_ rfl (by kernel_rfl) (by kernel_rfl) (by kernel_rfl) (fun _ _ _ h => h) (Or.inl ⟨by kernel_rfl, ?_⟩) (by assumption) ?_
      rotate_left
      · (intro w hSw; (try dsimp only at hSw); go_simp; try (with_reducible rfl))
      try simp only [Act.put, List.setIfInBounds_toArray, List.set_cons_zero, List.set_cons_succ]
      refine wpAnyH_done (by kernel_rfl) ?_ _
      have H3 := Seal.mk hHeld3
      clear hHeld hHeld2 hHeld3
      go_wp2
      refine bodyPost_ret (results_two_tmp (fn := Tryd.f11) rfl _ _ (gx + 1) (gx + 1 + 1) 25 31 #[.slice none 0 0, .slice none 0 0] ZP.toArray _ rfl rfl rfl H3.out.1 H3.out.2 ud rfl dev_info ut rfl (by simpa using iZ)) rfl ?_
      rw [HE.out.1, HE.out.2.1, HE.out.2.2, HZP.out]
      exact ⟨_, _, rfl, ⟨devAt_z _⟩, below_row (below_row HV.out (by have := HGX.out; omega) _) (by have := HGX.out; omega) _⟩
    · have h2 : 1048576 < o := by omega
      clear h0
      go_upto_region 5 with (fail)
      refine wp_region_held_drew (S := fun w' => w'.heap[gx + 1]? = some (.cells #[.slice none 0 0, .slice none 0 0] 25 (0, 0)) ∧ w'.heap[gx + 1 + 1]? = some (.cells ZP.toArray 31 (0, 0))) (by kernel_rfl) ⟨hres, hpo⟩ (fun hHeld => ?_)
      obtain ⟨V, hV⟩ : ∃ V, V = w1.drew := ⟨_, rfl⟩
      have HV : Seal (Below w.heap.size w V) := ⟨by rw [hV]; exact HB1.out.trans ((bel_drew _).mono HB1.out.size)⟩
      rw [← hV] at hHeld ⊢
      clear hV
      refine take_h 0 _ rfl (by kernel_rfl) (by kernel_rfl) (by kernel_rfl) (fun _ _ _ h => h) (yieldsIf_load_mid (by kernel_rfl) 25 (.tmp 6) rfl (gx + 1) 0 rfl [Value.slice none 0 0, .slice none 0 0] _ (fun w hSw => rangeAt_row (cs := [Value.slice none 0 0, .slice none 0 0]) hSw.1) ud rfl dev_info) (by assumption) ?_
      try simp only [Act.put, List.setIfInBounds_toArray, List.set_cons_zero, List.set_cons_succ]
      refine take_h 1 _ rfl (by kernel_rfl) (by kernel_rfl) (by kernel_rfl) (fun _ _ _ h => h) (yieldsIf_load_mid (by kernel_rfl) 31 (.tmp 7) rfl (gx + 1 + 1) 0 rfl ZP _ (fun w hSw => rangeAt_row hSw.2) ut rfl iZ) (by assumption) ?_
      try simp only [Act.put, List.setIfInBounds_toArray, List.set_cons_zero, List.set_cons_succ]
      refine skip_h 2 (V.setRow (gx + 1) #[.slice none 0 0, .slice none 0 0]) rfl (by kernel_rfl) (by kernel_rfl) (exec_store_row 25 (.tmp 6) (.tmp 24) rfl (gx + 1) #[.slice none 0 0, .slice none 0 0] rfl rfl 25 #[.slice none 0 0, .slice none 0 0] hHeld.1 dev_info rfl (by simp [Value.oneCell'])) ⟨setRow_heap _ _ _ _ _ _ hHeld.1, (heap_setRow_ne (by omega)).trans hHeld.2⟩ (fun hHeld2 => ?_)
      try simp only [Act.put]
      refine skip_h 3 ((V.setRow (gx + 1) #[.slice none 0 0, .slice none 0 0]).setRow (gx + 1 + 1) ZP.toArray) rfl (by kernel_rfl) (by kernel_rfl) (exec_store_row 31 (.tmp 7) (.tmp 25) rfl (gx + 1 + 1) ZP.toArray rfl rfl 31 ZP.toArray hHeld2.2 (by simpa using iZ) rfl HZ1.out) ⟨(heap_setRow_ne (by omega)).trans hHeld2.1, setRow_heap _ _ _ _ _ _ hHeld2.2⟩ (fun hHeld3 => ?_)
      try simp only [Act.put]
      refine take_h 4 ?_ rfl (by kernel_rfl) (by kernel_rfl) (by kernel_rfl) (fun _ _ _ h => h) (Or.inl ⟨by kernel_rfl, ?_⟩) (by assumption) ?_
      rotate_left
      · (intro w hSw; (try dsimp only at hSw); go_simp; try (with_reducible rfl))
      try simp only [Act.put, List.setIfInBounds_toArray, List.set_cons_zero, List.set_cons_succ]
      refine wpAnyH_done (by kernel_rfl) ?_ _
      have H3 := Seal.mk hHeld3
      clear hHeld hHeld2 hHeld3
      go_wp2
      refine bodyPost_ret (results_two_tmp (fn := Tryd.f11) rfl _ _ (gx + 1) (gx + 1 + 1) 25 31 #[.slice none 0 0, .slice none 0 0] ZP.toArray _ rfl rfl rfl H3.out.1 H3.out.2 ud rfl dev_info ut rfl (by simpa using iZ)) rfl ?_
      rw [HE.out.1, HE.out.2.1, HE.out.2.2, HZP.out]
      exact ⟨_, _, rfl, ⟨devAt_z _⟩, below_row (below_row HV.out (by have := HGX.out; omega) _) (by have := HGX.out; omega) _⟩
  have q1 : ¬ o < 0 := by omega
  have q2 : ¬ 1048576 < o := by omega
  clear h0
  go_wp2_with fail
  refine (dfind_any pa pn pc D.P o w1 (HP.out w1 HB1.out).1 H32.out HRi.out).mono ?_
  rintro e w2 ⟨rfl, hb⟩
  have HB2 := Seal.mk (HB1.out.trans (hb.mono HB1.out.size))
  have c0 := cell_below' hb c0
  have c1 := cell_below' hb c1
  have hres := (hb.block _ (by omega)).trans hres
  have hpo := (hb.block _ hgs).trans hpo
  have hgs := Nat.lt_of_lt_of_le hgs hb.size
  clear hb HB1
  obtain ⟨ai, hai⟩ : ∃ i, i = atK Po.o D.P o := ⟨_, rfl⟩
  obtain ⟨b, hbb⟩ : ∃ b, b = hasK Po.o D.P o := ⟨_, rfl⟩
  rw [← hai, ← hbb]
  have HH := Seal.mk (And.intro hai hbb)
  have hal : ai ≤ pn := by rw [hai]; have := atK_le (key := Po.o) D.P o; have := HN.out; omega
  clear hai hbb
  cases b with
  | true =>
    have HE : Seal (postE D o = 181 ∧ postD D s o = Dv.z ∧ postP D s o = zPo 0) := ⟨by
      have e : postE D o = 181 := by unfold postE; rw [if_neg (by simp [HCz.out]), if_neg (by omega), ← HH.out.2]; rfl
      exact ⟨e, by unfold postD; rw [e]; rfl, by unfold postP; rw [e]; rfl⟩⟩
    go_upto_region 8 with (fail)
    refine wp_region_held_drew (S := fun w' => w'.heap[gx + 1]? = some (.cells #[.slice none 0 0, .slice none 0 0] 25 (0, 0)) ∧ w'.heap[gx + 1 + 1]? = some (.cells ZP.toArray 31 (0, 0))) (by kernel_rfl) ⟨hres, hpo⟩ (fun hHeld => ?_)
    obtain ⟨V, hV⟩ : ∃ V, V = w2.drew := ⟨_, rfl⟩
    have HV : Seal (Below w.heap.size w V) := ⟨by rw [hV]; exact HB2.out.trans ((bel_drew _).mono HB2.out.size)⟩
    rw [← hV] at hHeld ⊢
    clear hV
    refine take_h 0 _ rfl (by kernel_rfl) (by kernel_rfl) (by kernel_rfl) (fun _ _ _ h => h) (yieldsIf_load_mid (by kernel_rfl) 25 (.tmp 6) rfl (gx + 1) 0 rfl [Value.slice none 0 0, .slice none 0 0] _ (fun w hSw => rangeAt_row (cs := [Value.slice none 0 0, .slice none 0 0]) hSw.1) ud rfl dev_info) (by assumption) ?_
    try simp only [Act.put, List.setIfInBounds_toArray, List.set_cons_zero, List.set_cons_succ]
    refine take_h 1 _ rfl (by kernel_rfl) (by kernel_rfl) (by kernel_rfl) (fun _ _ _ h => h) (yieldsIf_load_mid (by kernel_rfl) 31 (.tmp 7) rfl (gx + 1 + 1) 0 rfl ZP _ (fun w hSw => rangeAt_row hSw.2) ut rfl iZ) (by assumption) ?_
    try simp only [Act.put, List.setIfInBounds_toArray, List.set_cons_zero, List.set_cons_succ]
    refine skip_h 2 (V.setRow (gx + 1) #[.slice none 0 0, .slice none 0 0]) rfl (by kernel_rfl) (by kernel_rfl) (exec_store_row 25 (.tmp 6) (.tmp 34) rfl (gx + 1) #[.slice none 0 0, .slice none 0 0] rfl rfl 25 #[.slice none 0 0, .slice none 0 0] hHeld.1 dev_info rfl (by simp [Value.oneCell'])) ⟨setRow_heap _ _ _ _ _ _ hHeld.1, (heap_setRow_ne (by omega)).trans hHeld.2⟩ (fun hHeld2 => ?_)
    try simp only [Act.put]
    refine skip_h 3 ((V.setRow (gx + 1) #[.slice none 0 0, .slice none 0 0]).setRow (gx + 1 + 1) ZP.toArray) rfl (by kernel_rfl) (by kernel_rfl) (exec_store_row 31 (.tmp 7) (.tmp 35) rfl (gx + 1 + 1) ZP.toArray rfl rfl 31 ZP.toArray hHeld2.2 (by simpa using iZ) rfl HZ1.out) ⟨(heap_setRow_ne (by omega)).trans hHeld2.1, setRow_heap _ _ _ _ _ _ hHeld2.2⟩ (fun hHeld3 => ?_)
    try simp only [Act.put]
    refine take_h 4 ?_ rfl (by kernel_rfl) (by kernel_rfl) (by kernel_rfl) (fun _ _ _ h => h) (Or.inl ⟨by kernel_rfl, ?_⟩) (by assumption) ?_
    rotate_left
    · (intro w hSw; (try dsimp only at hSw); go_simp; try (with_reducible rfl))
    try simp only [Act.put, List.setIfInBounds_toArray, List.set_cons_zero, List.set_cons_succ]
    refine wpAnyH_done (by kernel_rfl) ?_ _
    have H3 := Seal.mk hHeld3
    clear hHeld hHeld2 hHeld3
    go_wp2
    refine bodyPost_ret (results_two_tmp (fn := Tryd.f11) rfl _ _ (gx + 1) (gx + 1 + 1) 25 31 #[.slice none 0 0, .slice none 0 0] ZP.toArray _ rfl rfl rfl H3.out.1 H3.out.2 ud rfl dev_info ut rfl (by simpa using iZ)) rfl ?_
    rw [HE.out.1, HE.out.2.1, HE.out.2.2, HZP.out]
    exact ⟨_, _, rfl, ⟨devAt_z _⟩, below_row (below_row HV.out (by have := HGX.out; omega) _) (by have := HGX.out; omega) _⟩
  | false =>
    have hpn : pn ≤ 4096 := by have := (chkD_zero.1 HCz.out).1; have := HN.out; omega
    by_cases h9 : pn = 4096
    · have HE : Seal (postE D o = 2 ∧ postD D s o = Dv.z ∧ postP D s o = zPo 0) := ⟨by
        have e : postE D o = 2 := by unfold postE; rw [if_neg (by simp [HCz.out]), if_neg (by omega), ← HH.out.2, if_neg (by simp), if_pos (by have := HN.out; omega)]
        exact ⟨e, by unfold postD; rw [e]; rfl, by unfold postP; rw [e]; rfl⟩⟩
      have q9 : ((pn : Int) == 4096) = true := by simp [h9]
      clear h9
      go_upto_region 10 with (fail)
      refine wp_region_held_drew (S := fun w' => w'.heap[gx + 1]? = some (.cells #[.slice none 0 0, .slice none 0 0] 25 (0, 0)) ∧ w'.heap[gx + 1 + 1]? = some (.cells ZP.toArray 31 (0, 0))) (by kernel_rfl) ⟨hres, hpo⟩ (fun hHeld => ?_)
      obtain ⟨V, hV⟩ : ∃ V, V = w2.drew := ⟨_, rfl⟩
      have HV : Seal (Below w.heap.size w V) := ⟨by rw [hV]; exact HB2.out.trans ((bel_drew _).mono HB2.out.size)⟩
      rw [← hV] at hHeld ⊢
      clear hV
      refine take_h 0 _ rfl (by kernel_rfl) (by kernel_rfl) (by kernel_rfl) (fun _ _ _ h => h) (yieldsIf_load_mid (by kernel_rfl) 25 (.tmp 6) rfl (gx + 1) 0 rfl [Value.slice none 0 0, .slice none 0 0] _ (fun w hSw => rangeAt_row (cs := [Value.slice none 0 0, .slice none 0 0]) hSw.1) ud rfl dev_info) (by assumption) ?_
      try simp only [Act.put, List.setIfInBounds_toArray, List.set_cons_zero, List.set_cons_succ]
      refine take_h 1 _ rfl (by kernel_rfl) (by kernel_rfl) (by kernel_rfl) (fun _ _ _ h => h) (yieldsIf_load_mid (by kernel_rfl) 31 (.tmp 7) rfl (gx + 1 + 1) 0 rfl ZP _ (fun w hSw => rangeAt_row hSw.2) ut rfl iZ) (by assumption) ?_
      try simp only [Act.put, List.setIfInBounds_toArray, List.set_cons_zero, List.set_cons_succ]
      refine skip_h 2 (V.setRow (gx + 1) #[.slice none 0 0, .slice none 0 0]) rfl (by kernel_rfl) (by kernel_rfl) (exec_store_row 25 (.tmp 6) (.tmp 40) rfl (gx + 1) #[.slice none 0 0, .slice none 0 0] rfl rfl 25 #[.slice none 0 0, .slice none 0 0] hHeld.1 dev_info rfl (by simp [Value.oneCell'])) ⟨setRow_heap _ _ _ _ _ _ hHeld.1, (heap_setRow_ne (by omega)).trans hHeld.2⟩ (fun hHeld2 => ?_)
      try simp only [Act.put]
      refine skip_h 3 ((V.setRow (gx + 1) #[.slice none 0 0, .slice none 0 0]).setRow (gx + 1 + 1) ZP.toArray) rfl (by kernel_rfl) (by kernel_rfl) (exec_store_row 31 (.tmp 7) (.tmp 41) rfl (gx + 1 + 1) ZP.toArray rfl rfl 31 ZP.toArray hHeld2.2 (by simpa using iZ) rfl HZ1.out) ⟨(heap_setRow_ne (by omega)).trans hHeld2.1, setRow_heap _ _ _ _ _ _ hHeld2.2⟩ (fun hHeld3 => ?_)
      try simp only [Act.put]
      refine take_h 4 ?_ rfl (by kernel_rfl) (by kernel_rfl) (by kernel_rfl) (fun _ _ _ h => h) (Or.inl ⟨by kernel_rfl, ?_⟩) (by assumption) ?_
      rotate_left
      · (intro w hSw; (try dsimp only at hSw); go_simp; try (with_reducible rfl))
      try simp only [Act.put, List.setIfInBounds_toArray, List.set_cons_zero, List.set_cons_succ]
      refine wpAnyH_done (by kernel_rfl) ?_ _
      have H3 := Seal.mk hHeld3
      clear hHeld hHeld2 hHeld3
      go_wp2
      refine bodyPost_ret (results_two_tmp (fn := Tryd.f11) rfl _ _ (gx + 1) (gx + 1 + 1) 25 31 #[.slice none 0 0, .slice none 0 0] ZP.toArray _ rfl rfl rfl H3.out.1 H3.out.2 ud rfl dev_info ut rfl (by simpa using iZ)) rfl ?_
      rw [HE.out.1, HE.out.2.1, HE.out.2.2, HZP.out]
      exact ⟨_, _, rfl, ⟨devAt_z _⟩, below_row (below_row HV.out (by have := HGX.out; omega) _) (by have := HGX.out; omega) _⟩
    · have HE : Seal (postE D o = 0 ∧ postD D s o = ⟨insK Po.o D.P ⟨o, serB s o⟩, D.G⟩ ∧ postP D s o = ⟨o, serB s o⟩) := ⟨by
        have e : postE D o = 0 := by unfold postE; rw [if_neg (by simp [HCz.out]), if_neg (by omega), ← HH.out.2, if_neg (by simp), if_neg (by have := HN.out; omega)]
        exact ⟨e, by unfold postD; rw [if_pos e], by unfold postP; rw [if_pos e]⟩⟩
      have q9 : ((pn : Int) == 4096) = false := by simp; omega
      go_wp2_with fail
      refine (dserial_any s o w2 (HGl.out.1 w2 HB2.out) HGl.out.2.1 HGl.out.2.2).mono ?_
      rintro e w3 ⟨rfl, hb⟩
      have HB3 := Seal.mk (HB2.out.trans (hb.mono HB2.out.size))
      have c0 := cell_below' hb c0
      have c1 := cell_below' hb c1
      have hres := (hb.block _ (by omega)).trans hres
      have hpo := (hb.block _ hgs).trans hpo
      have hgs := Nat.lt_of_lt_of_le hgs hb.size
      clear hb HB2
      have lS := serB_len s o
      obtain ⟨CP, hCP⟩ : ∃ C, C = Po.C ⟨o, serB s o⟩ := ⟨_, rfl⟩
      have HCP := Seal.mk hCP
      have iP : (Tryd.prog.info? 31).map (·.size) = some CP.length := by rw [hCP]; exact Po.C_info lS
      have HP1 : Seal (CP.toArray.all (·.oneCell') = true) := ⟨all_oneCell_toArray (by rw [hCP]; exact Po.C_one _)⟩
      have HP2 : Seal (ZP.toArray.size = CP.toArray.size) := ⟨by rw [hCP, HZP.out, List.size_toArray, List.size_toArray, Po.C_len lS]; rfl⟩
      have HIN : Seal ((∀ x ∈ insK Po.o D.P ⟨o, serB s o⟩, x.C.length = 33) ∧ (insK Po.o D.P ⟨o, serB s o⟩).length = pn + 1) := ⟨fun x hx => by
        rcases mem_insK.1 hx with e | e
        · rw [e]; exact Po.C_len lS
        · exact Po.C_len (H32.out x e), by rw [insK_len, HN.out.1]⟩
      have HIN3 : Seal (∀ x ∈ insK Po.o D.P ⟨o, serB s o⟩, x.S.length = 32) := ⟨fun x hx => by
        rcases mem_insK.1 hx with e | e
        · rw [e]; exact lS
        · exact H32.out x e⟩
      have HI : Seal (∀ (base vb : Nat) (v : Value) (W : World), OwnP W base v pn D.P → W.heap[vb]? = some (.cells CP.toArray 31 (0, 0)) → base ≤ W.heap.size → v.ownBlock ≠ some vb → Calls Tryd.prog 34 #[v, .int .i64 (ai : Nat), .slice (some ⟨vb, 0, none⟩) 1 1] W (InsPostP base pn (insK Po.o D.P ⟨o, serB s o⟩) W)) := ⟨fun base vb v W h1 h2 h3 h4 => by
        have := pinsert_any base pn ai vb v D.P ⟨o, serB s o⟩ W ⟨h1⟩ HN.out.1 (fun x hx => Po.C_len (H32.out x hx)) hal ⟨by rw [← hCP]; exact h2⟩ (Po.C_len lS) (by omega) h3 h4
        rw [HH.out.1] at this ⊢
        exact this⟩
      obtain ⟨Y, hY⟩ : ∃ Y, Y = w3.setRow (gx + 1 + 1) CP.toArray := ⟨_, rfl⟩
      have HY : Seal (Below w.heap.size w Y ∧ Y.heap[gx + 1]? = some (.cells #[.slice none 0 0, .slice none 0 0] 25 (0, 0)) ∧ Y.heap[gx + 1 + 1]? = some (.cells CP.toArray 31 (0, 0)) ∧ Y.cell? ⟨gx, 0, none⟩ = some (.slice pa pn pc) ∧ Y.cell? ⟨gx, 1, none⟩ = some (.slice ga gn gc) ∧ gx + 1 + 1 < Y.heap.size) := ⟨by
        rw [hY]
        exact ⟨below_row HB3.out (by have := HGX.out; omega) _, (heap_setRow_ne (by omega)).trans hres, setRow_heap _ _ _ _ _ _ hpo, (cell_setRow_other _ _ _ ⟨gx, 0, none⟩ (by show gx ≠ gx + 1 + 1; omega)).trans c0, (cell_setRow_other _ _ _ ⟨gx, 1, none⟩ (by show gx ≠ gx + 1 + 1; omega)).trans c1, by simpa [World.setRow] using hgs⟩⟩
      have hk : (.int .i64 o :: (serB s o).map B : List Value) = CP := by rw [hCP]; rfl
      clear HB3 c0 c1 hres hal hCP
      go_wp2_with (first
        | (refine wpList_build_pos rfl (.tmp 42) (.tmp 45) rfl o ((serB s o).map B) (by simp [lS]) rfl rfl ?_; (try simp only [Act.put, List.setIfInBounds_toArray, List.set_cons_zero, List.set_cons_succ]); rw [hk])
        | (refine wpList_store_row rfl 31 (.tmp 7) (.tmp 46) rfl (gx + 1 + 1) CP.toArray rfl rfl 31 ZP.toArray hpo (by simpa using iP) HP2.out HP1.out ?_; rw [← hY]; clear hY hpo; (try simp only [Act.put])))
      refine wp_region_held_drew (S := fun w' => w'.cell? ⟨gx, 0, none⟩ = some (.slice pa pn pc) ∧ w'.cell? ⟨gx, 1, none⟩ = some (.slice ga gn gc) ∧ w'.rangeAt (gx + 1 + 1) 0 CP) (by kernel_rfl) ⟨HY.out.2.2.2.1, HY.out.2.2.2.2.1, rangeAt_row HY.out.2.2.1⟩ (fun hHeld => ?_)
      obtain ⟨V, hV⟩ : ∃ V, V = Y.drew := ⟨_, rfl⟩
      have HV : Seal (Below w.heap.size w V ∧ V.heap[gx + 1]? = some (.cells #[.slice none 0 0, .slice none 0 0] 25 (0, 0)) ∧ V.heap[gx + 1 + 1]? = some (.cells CP.toArray 31 (0, 0)) ∧ gx + 1 + 1 < V.heap.size) := ⟨by rw [hV]; exact ⟨HY.out.1.trans ((bel_drew _).mono HY.out.1.size), HY.out.2.1, HY.out.2.2.1, HY.out.2.2.2.2.2⟩⟩
      rw [← hV] at hHeld ⊢
      clear hV HY hk hgs
      refine take_h 0 ?_ rfl (by kernel_rfl) (by kernel_rfl) (by kernel_rfl) (fun _ _ _ h => h) (Or.inl ⟨by kernel_rfl, ?_⟩) (by assumption) ?_
      rotate_left
      · (intro w hSw; (try dsimp only at hSw); go_simp; try (with_reducible rfl))
      try simp only [Act.put, List.setIfInBounds_toArray, List.set_cons_zero, List.set_cons_succ]
      refine take_h 1 ?_ rfl (by kernel_rfl) (by kernel_rfl) (by kernel_rfl) (fun _ _ _ h => h) (Or.inl ⟨by kernel_rfl, ?_⟩) (by assumption) ?_
      rotate_left
      · (intro w hSw; (try dsimp only at hSw); go_simp; try (with_reducible rfl))
      try simp only [Act.put, List.setIfInBounds_toArray, List.set_cons_zero, List.set_cons_succ]
      refine take_h 3 ?_ rfl (by kernel_rfl) (by kernel_rfl) (by kernel_rfl) (fun _ _ _ h => h) (Or.inl ⟨by kernel_rfl, ?_⟩) (by assumption) ?_
      rotate_left
      · (intro w hSw; (try dsimp only at hSw); go_simp; try (with_reducible rfl))
      try simp only [Act.put, List.setIfInBounds_toArray, List.set_cons_zero, List.set_cons_succ]
      refine take_h 4 _ rfl (by kernel_rfl) (by kernel_rfl) (by kernel_rfl) (fun _ _ _ h => h) (yieldsIf_load_mid (by kernel_rfl) 31 (.tmp 7) rfl (gx + 1 + 1) 0 rfl CP _ (fun w hSw => hSw.2.2) ut rfl iP) (by assumption) ?_
      try simp only [Act.put, List.setIfInBounds_toArray, List.set_cons_zero, List.set_cons_succ]
      refine take_h 7 ?_ rfl (by kernel_rfl) (by kernel_rfl) (by kernel_rfl) (fun _ _ _ h => h) (Or.inl ⟨by kernel_rfl, ?_⟩) (by assumption) ?_
      rotate_left
      · (intro w hSw; (try dsimp only at hSw); go_simp; try (with_reducible rfl))
      try simp only [Act.put, List.setIfInBounds_toArray, List.set_cons_zero, List.set_cons_succ]
      refine take_h 8 ?_ rfl (by kernel_rfl) (by kernel_rfl) (by kernel_rfl) (fun _ _ _ h => h) (Or.inl ⟨by kernel_rfl, ?_⟩) (by assumption) ?_
      rotate_left
      · (intro w hSw; (try dsimp only at hSw); go_simp; try (with_reducible rfl))
      try simp only [Act.put, List.setIfInBounds_toArray, List.set_cons_zero, List.set_cons_succ]
      refine take_h 10 _ rfl (by kernel_rfl) (by kernel_rfl) (by kernel_rfl) (fun _ _ _ h => h) (yieldsIf_load_mid (by kernel_rfl) 31 (.tmp 7) rfl (gx + 1 + 1) 0 rfl CP _ (fun w hSw => hSw.2.2) ut rfl iP) (by assumption) ?_
      try simp only [Act.put, List.setIfInBounds_toArray, List.set_cons_zero, List.set_cons_succ]
      have HCl : Seal (CP.length = 33) := ⟨by rw [HCP.out]; exact Po.C_len lS⟩
      have S5 : Seal (∀ W : World, W.cell? ⟨gx, 0, none⟩ = some (.slice pa pn pc) ∧ W.cell? ⟨gx, 1, none⟩ = some (.slice ga gn gc) ∧ W.rangeAt (gx + 1 + 1) 0 CP → (W.alloc (.cells CP.toArray 31)).cell? ⟨gx, 0, none⟩ = some (.slice pa pn pc) ∧ (W.alloc (.cells CP.toArray 31)).cell? ⟨gx, 1, none⟩ = some (.slice ga gn gc) ∧ (W.alloc (.cells CP.toArray 31)).rangeAt (gx + 1 + 1) 0 CP) := ⟨fun W h => ⟨cell_below' (below_alloc _ _) h.1, cell_below' (below_alloc _ _) h.2.1, World.rangeAt_alloc h.2.2 _⟩⟩
      refine wpAnyH_ready (rs := [2, 5]) (by kernel_rfl) (by simp) (call_b 2 rfl 35 #[.slice pa pn pc] (by kernel_rfl) (by go_simp) ?_ (oper_b 5 (.slice (some ⟨V.heap.size, 0, none⟩) 1 1) (V.alloc (.cells CP.toArray 31)) rfl (by kernel_rfl) (exec_bslice_pos rfl CP HCl.out rfl V) (S5.out _ hHeld) (fun hHeld2 => ?_) AllReadyH.nil))
      · refine (pclone_any pa pn pc D.P V (HP.out V HV.out.1).1).mono ?_
        rintro e w4 ⟨v, rfl, ho, hv, hb4⟩
        have HB4 : Seal (Below w.heap.size w w4 ∧ w4.heap[gx + 1]? = some (.cells #[.slice none 0 0, .slice none 0 0] 25 (0, 0)) ∧ w4.heap[gx + 1 + 1]? = some (.cells CP.toArray 31 (0, 0)) ∧ V.heap.size ≤ w4.heap.size) := ⟨HV.out.1.trans (hb4.mono HV.out.1.size), (hb4.block _ (by have := HV.out; omega)).trans HV.out.2.1, (hb4.block _ HV.out.2.2.2).trans HV.out.2.2.1, hb4.size⟩
        refine ⟨_, rfl, ⟨cell_below' hb4 hHeld.1, cell_below' hb4 hHeld.2.1, rangeAt_below' hHeld.2.2 hb4⟩, fun hHeld2 => ?_⟩
        clear hHeld hb4 hv
        try simp only [Act.put, List.setIfInBounds_toArray, List.set_cons_zero, List.set_cons_succ]
        refine oper_h 5 (.slice (some ⟨w4.heap.size, 0, none⟩) 1 1) (w4.alloc (.cells CP.toArray 31)) rfl (by kernel_rfl) (by kernel_rfl) (exec_bslice_pos rfl CP HCl.out rfl w4) (S5.out _ hHeld2) (fun hHeld3 => ?_)
        clear hHeld2
        try simp only [Act.put, List.setIfInBounds_toArray, List.set_cons_zero, List.set_cons_succ]
        refine call_h 6 rfl (by kernel_rfl) 34 #[v, .int .i64 (ai : Nat), .slice (some ⟨w4.heap.size, 0, none⟩) 1 1] (by kernel_rfl) (by go_simp) ?_
        refine (HI.out V.heap.size w4.heap.size v _ (World.ownsRow.alloc ho.out _) (heap_alloc_new w4 _) (by rw [size_alloc]; have := HB4.out; omega) (fun e => by have := (ho.out.lt _ e).2; omega)).mono ?_
        rintro e w6 ⟨gI, cI, rfl, hG, hb5⟩
        have HBa : Seal (Below w.heap.size w (w4.alloc (.cells CP.toArray 31)) ∧ (w4.alloc (.cells CP.toArray 31)).heap[gx + 1]? = some (.cells #[.slice none 0 0, .slice none 0 0] 25 (0, 0)) ∧ (w4.alloc (.cells CP.toArray 31)).heap[gx + 1 + 1]? = some (.cells CP.toArray 31 (0, 0))) := ⟨HB4.out.1.alloc HB4.out.1.size _, (Below.heap_alloc _ _ _ (by have := HV.out; have := HB4.out; omega)).trans HB4.out.2.1, (Below.heap_alloc _ _ _ (by have := HV.out; have := HB4.out; omega)).trans HB4.out.2.2.1⟩
        have HB6 : Seal (Below w.heap.size w w6) := ⟨HBa.out.1.trans (hb5.mono HV.out.1.size)⟩
        have H6 : Seal (w6.heap[gx + 1]? = some (.cells #[.slice none 0 0, .slice none 0 0] 25 (0, 0)) ∧ w6.heap[gx + 1 + 1]? = some (.cells CP.toArray 31 (0, 0))) := ⟨(hb5.block _ (by have := HV.out; omega)).trans HBa.out.2.1, (hb5.block _ HV.out.2.2.2).trans HBa.out.2.2⟩
        have HZs : Seal (gx + 1 + 1 < V.heap.size) := ⟨HV.out.2.2.2⟩
        have hz9 := HZs.out
        refine ⟨_, rfl, ⟨(hb5.cell (p := ⟨gx, 0, none⟩) (by show gx < _; omega)).trans hHeld3.1, (hb5.cell (p := ⟨gx, 1, none⟩) (by show gx < _; omega)).trans hHeld3.2.1, rangeAt_below hHeld3.2.2 hb5 (by omega)⟩, fun hHeld4 => ?_⟩
        clear hHeld3 hb5 ho
        try simp only [Act.put, List.setIfInBounds_toArray, List.set_cons_zero, List.set_cons_succ]
        refine take_h 9 ?_ rfl (by kernel_rfl) (by kernel_rfl) (by kernel_rfl) (fun _ _ _ h => h) (Or.inl ⟨by kernel_rfl, ?_⟩) (by assumption) ?_
        rotate_left
        · (intro w hSw; (try dsimp only at hSw); go_simp; try (with_reducible rfl))
        try simp only [Act.put, List.setIfInBounds_toArray, List.set_cons_zero, List.set_cons_succ]
        refine skip_h 11 (w6.setRow (gx + 1) #[.slice (some ⟨gI, 0, none⟩) (pn + 1) cI, .slice ga gn gc]) rfl (by kernel_rfl) (by kernel_rfl) (exec_store_row 25 (.tmp 6) (.tmp 56) rfl (gx + 1) #[.slice (some ⟨gI, 0, none⟩) (pn + 1) cI, .slice ga gn gc] rfl rfl 25 #[.slice none 0 0, .slice none 0 0] H6.out.1 dev_info rfl (by simp [Value.oneCell'])) ⟨(cell_setRow_other _ _ _ ⟨gx, 0, none⟩ (by show gx ≠ gx + 1; omega)).trans hHeld4.1, (cell_setRow_other _ _ _ ⟨gx, 1, none⟩ (by show gx ≠ gx + 1; omega)).trans hHeld4.2.1, rangeAt_row ((heap_setRow_ne (by omega)).trans H6.out.2)⟩ (fun hHeld5 => ?_)
        try simp only [Act.put]
        refine skip_h 12 ((w6.setRow (gx + 1) #[.slice (some ⟨gI, 0, none⟩) (pn + 1) cI, .slice ga gn gc]).setRow (gx + 1 + 1) CP.toArray) rfl (by kernel_rfl) (by kernel_rfl) (exec_store_row 31 (.tmp 7) (.tmp 57) rfl (gx + 1 + 1) CP.toArray rfl rfl 31 CP.toArray ((heap_setRow_ne (by omega)).trans H6.out.2) (by simpa using iP) rfl HP1.out) ⟨(cell_setRow_other _ _ _ ⟨gx, 0, none⟩ (by show gx ≠ gx + 1 + 1; omega)).trans hHeld5.1, (cell_setRow_other _ _ _ ⟨gx, 1, none⟩ (by show gx ≠ gx + 1 + 1; omega)).trans hHeld5.2.1, rangeAt_row (setRow_heap _ _ _ _ _ _ ((heap_setRow_ne (by omega)).trans H6.out.2))⟩ (fun hHeld6 => ?_)
        try simp only [Act.put]
        have hr1 : ((w6.setRow (gx + 1) #[.slice (some ⟨gI, 0, none⟩) (pn + 1) cI, .slice ga gn gc]).setRow (gx + 1 + 1) CP.toArray).heap[gx + 1]? = some (.cells #[.slice (some ⟨gI, 0, none⟩) (pn + 1) cI, .slice ga gn gc] 25 (0, 0)) := (heap_setRow_ne (by omega)).trans (setRow_heap _ _ _ _ _ _ H6.out.1)
        have hr2 : ((w6.setRow (gx + 1) #[.slice (some ⟨gI, 0, none⟩) (pn + 1) cI, .slice ga gn gc]).setRow (gx + 1 + 1) CP.toArray).heap[gx + 1 + 1]? = some (.cells CP.toArray 31 (0, 0)) := setRow_heap _ _ _ _ _ _ ((heap_setRow_ne (by omega)).trans H6.out.2)
        have hbF : Below w.heap.size w ((w6.setRow (gx + 1) #[.slice (some ⟨gI, 0, none⟩) (pn + 1) cI, .slice ga gn gc]).setRow (gx + 1 + 1) CP.toArray) := below_row (below_row HB6.out (by have := HGX.out; omega) _) (by have := HGX.out; omega) _
        have ho : ((w6.setRow (gx + 1) #[.slice (some ⟨gI, 0, none⟩) (pn + 1) cI, .slice ga gn gc]).setRow (gx + 1 + 1) CP.toArray).ownsRow V.heap.size 31 33 (.slice (some ⟨gI, 0, none⟩) (pn + 1) cI) (pn + 1) ((insK Po.o D.P ⟨o, serB s o⟩).flatMap Po.C) := own_setRow (own_setRow hG.out (g := gx + 1) (by omega) _) (g := gx + 1 + 1) (by omega) _
        have HF := Seal.mk (And.intro hr1 (And.intro hr2 (And.intro hbF ho)))
        clear hHeld5 hHeld4 hr1 hr2 hbF ho H6 hG
        refine take_h 13 ?_ rfl (by kernel_rfl) (by kernel_rfl) (by kernel_rfl) (fun _ _ _ h => h) (Or.inl ⟨by kernel_rfl, ?_⟩) (by assumption) ?_
        rotate_left
        · (intro w hSw; (try dsimp only at hSw); go_simp; try (with_reducible rfl))
        try simp only [Act.put, List.setIfInBounds_toArray, List.set_cons_zero, List.set_cons_succ]
        refine wpAnyH_done (by kernel_rfl) ?_ _
        clear hHeld6
        go_wp2
        refine bodyPost_ret (results_two_tmp (fn := Tryd.f11) rfl _ _ (gx + 1) (gx + 1 + 1) 25 31 #[.slice (some ⟨gI, 0, none⟩) (pn + 1) cI, .slice ga gn gc] CP.toArray _ rfl rfl rfl HF.out.1 HF.out.2.1 ud rfl dev_info ut rfl (by simpa using iP)) rfl ?_
        rw [HE.out.1, HE.out.2.1, HE.out.2.2]
        obtain ⟨b1, l1, e1, i1⟩ := isC_own (C := Po.C) HF.out.2.2.2 HIN.out.1 HIN.out.2 (by omega)
        cases e1
        exact ⟨.slice (some ⟨gI, 0, none⟩) (pn + 1) cI, .slice ga gn gc, by rw [← HCP.out]; rfl, ⟨⟨_, _, _, _, _, _, rfl, rfl, i1, HIN3.out, (HP.out _ HF.out.2.2.1).2⟩⟩, HF.out.2.2.1⟩
      · clear hHeld
        try simp only [Act.put, List.setIfInBounds_toArray, List.set_cons_zero, List.set_cons_succ]
        refine call_h 2 rfl (by kernel_rfl) 35 #[.slice pa pn pc] (by kernel_rfl) (by go_simp) ?_
        obtain ⟨W4, hW4⟩ : ∃ W4, W4 = V.alloc (.cells CP.toArray 31) := ⟨_, rfl⟩
        have hb4 : Below V.heap.size V W4 := by rw [hW4]; exact below_alloc _ _
        have HB4 : Seal (Below w.heap.size w W4 ∧ W4.heap[gx + 1]? = some (.cells #[.slice none 0 0, .slice none 0 0] 25 (0, 0)) ∧ W4.heap[gx + 1 + 1]? = some (.cells CP.toArray 31 (0, 0)) ∧ V.heap.size < W4.heap.size ∧ W4.heap[V.heap.size]? = some (.cells CP.toArray 31 (0, 0))) := ⟨HV.out.1.trans (hb4.mono HV.out.1.size), (hb4.block _ (by have := HV.out; omega)).trans HV.out.2.1, (hb4.block _ HV.out.2.2.2).trans HV.out.2.2.1, by rw [hW4]; simp, by rw [hW4]; exact heap_alloc_new V _⟩
        have HZv : Seal (gx + 1 + 1 < V.heap.size) := ⟨HV.out.2.2.2⟩
        rw [← hW4] at hHeld2 ⊢
        clear hW4 hb4
        refine (pclone_any pa pn pc D.P W4 (HP.out W4 HB4.out.1).1).mono ?_
        rintro e w5 ⟨v, rfl, ho, hv, hb4⟩
        have HB5 : Seal (Below w.heap.size w w5 ∧ w5.heap[gx + 1]? = some (.cells #[.slice none 0 0, .slice none 0 0] 25 (0, 0)) ∧ w5.heap[gx + 1 + 1]? = some (.cells CP.toArray 31 (0, 0)) ∧ W4.heap.size ≤ w5.heap.size ∧ w5.heap[V.heap.size]? = some (.cells CP.toArray 31 (0, 0))) := ⟨HB4.out.1.trans (hb4.mono HB4.out.1.size), (hb4.block _ (by have := HZv.out; have := HB4.out; omega)).trans HB4.out.2.1, (hb4.block _ (by have := HZv.out; have := HB4.out; omega)).trans HB4.out.2.2.1, hb4.size, (hb4.block _ HB4.out.2.2.2.1).trans HB4.out.2.2.2.2⟩
        refine ⟨_, rfl, ⟨cell_below' hb4 hHeld2.1, cell_below' hb4 hHeld2.2.1, rangeAt_below' hHeld2.2.2 hb4⟩, fun hHeld3 => ?_⟩
        clear hHeld2 hb4 hv
        try simp only [Act.put, List.setIfInBounds_toArray, List.set_cons_zero, List.set_cons_succ]
        refine call_h 6 rfl (by kernel_rfl) 34 #[v, .int .i64 (ai : Nat), .slice (some ⟨V.heap.size, 0, none⟩) 1 1] (by kernel_rfl) (by go_simp) ?_
        refine (HI.out W4.heap.size V.heap.size v _ ho.out HB5.out.2.2.2.2 HB5.out.2.2.2.1 (fun e => by have := (ho.out.lt _ e).1; have := HB4.out; omega)).mono ?_
        rintro e w6 ⟨gI, cI, rfl, hG, hb5⟩
        have HB6 : Seal (Below w.heap.size w w6) := ⟨HB5.out.1.trans (hb5.mono HB4.out.1.size)⟩
        have HZs : Seal (gx + 1 + 1 < W4.heap.size) := ⟨by have := HZv.out; have := HB4.out; omega⟩
        have H6 : Seal (w6.heap[gx + 1]? = some (.cells #[.slice none 0 0, .slice none 0 0] 25 (0, 0)) ∧ w6.heap[gx + 1 + 1]? = some (.cells CP.toArray 31 (0, 0))) := ⟨(hb5.block _ (by have := HZs.out; omega)).trans HB5.out.2.1, (hb5.block _ HZs.out).trans HB5.out.2.2.1⟩
        have hz9 := HZs.out
        refine ⟨_, rfl, ⟨(hb5.cell (p := ⟨gx, 0, none⟩) (by show gx < _; omega)).trans hHeld3.1, (hb5.cell (p := ⟨gx, 1, none⟩) (by show gx < _; omega)).trans hHeld3.2.1, rangeAt_below hHeld3.2.2 hb5 (by omega)⟩, fun hHeld4 => ?_⟩
        clear hHeld3 hb5 ho
        try simp only [Act.put, List.setIfInBounds_toArray, List.set_cons_zero, List.set_cons_succ]
        refine take_h 9 ?_ rfl (by kernel_rfl) (by kernel_rfl) (by kernel_rfl) (fun _ _ _ h => h) (Or.inl ⟨by kernel_rfl, ?_⟩) (by assumption) ?_
        rotate_left
        · (intro w hSw; (try dsimp only at hSw); go_simp; try (with_reducible rfl))
        try simp only [Act.put, List.setIfInBounds_toArray, List.set_cons_zero, List.set_cons_succ]
        refine skip_h 11 (w6.setRow (gx + 1) #[.slice (some ⟨gI, 0, none⟩) (pn + 1) cI, .slice ga gn gc]) rfl (by kernel_rfl) (by kernel_rfl) (exec_store_row 25 (.tmp 6) (.tmp 56) rfl (gx + 1) #[.slice (some ⟨gI, 0, none⟩) (pn + 1) cI, .slice ga gn gc] rfl rfl 25 #[.slice none 0 0, .slice none 0 0] H6.out.1 dev_info rfl (by simp [Value.oneCell'])) ⟨(cell_setRow_other _ _ _ ⟨gx, 0, none⟩ (by show gx ≠ gx + 1; omega)).trans hHeld4.1, (cell_setRow_other _ _ _ ⟨gx, 1, none⟩ (by show gx ≠ gx + 1; omega)).trans hHeld4.2.1, rangeAt_row ((heap_setRow_ne (by omega)).trans H6.out.2)⟩ (fun hHeld5 => ?_)
        try simp only [Act.put]
        refine skip_h 12 ((w6.setRow (gx + 1) #[.slice (some ⟨gI, 0, none⟩) (pn + 1) cI, .slice ga gn gc]).setRow (gx + 1 + 1) CP.toArray) rfl (by kernel_rfl) (by kernel_rfl) (exec_store_row 31 (.tmp 7) (.tmp 57) rfl (gx + 1 + 1) CP.toArray rfl rfl 31 CP.toArray ((heap_setRow_ne (by omega)).trans H6.out.2) (by simpa using iP) rfl HP1.out) ⟨(cell_setRow_other _ _ _ ⟨gx, 0, none⟩ (by show gx ≠ gx + 1 + 1; omega)).trans hHeld5.1, (cell_setRow_other _ _ _ ⟨gx, 1, none⟩ (by show gx ≠ gx + 1 + 1; omega)).trans hHeld5.2.1, rangeAt_row (setRow_heap _ _ _ _ _ _ ((heap_setRow_ne (by omega)).trans H6.out.2))⟩ (fun hHeld6 => ?_)
        try simp only [Act.put]
        have hr1 : ((w6.setRow (gx + 1) #[.slice (some ⟨gI, 0, none⟩) (pn + 1) cI, .slice ga gn gc]).setRow (gx + 1 + 1) CP.toArray).heap[gx + 1]? = some (.cells #[.slice (some ⟨gI, 0, none⟩) (pn + 1) cI, .slice ga gn gc] 25 (0, 0)) := (heap_setRow_ne (by omega)).trans (setRow_heap _ _ _ _ _ _ H6.out.1)
        have hr2 : ((w6.setRow (gx + 1) #[.slice (some ⟨gI, 0, none⟩) (pn + 1) cI, .slice ga gn gc]).setRow (gx + 1 + 1) CP.toArray).heap[gx + 1 + 1]? = some (.cells CP.toArray 31 (0, 0)) := setRow_heap _ _ _ _ _ _ ((heap_setRow_ne (by omega)).trans H6.out.2)
        have hbF : Below w.heap.size w ((w6.setRow (gx + 1) #[.slice (some ⟨gI, 0, none⟩) (pn + 1) cI, .slice ga gn gc]).setRow (gx + 1 + 1) CP.toArray) := below_row (below_row HB6.out (by have := HGX.out; omega) _) (by have := HGX.out; omega) _
        have ho : ((w6.setRow (gx + 1) #[.slice (some ⟨gI, 0, none⟩) (pn + 1) cI, .slice ga gn gc]).setRow (gx + 1 + 1) CP.toArray).ownsRow W4.heap.size 31 33 (.slice (some ⟨gI, 0, none⟩) (pn + 1) cI) (pn + 1) ((insK Po.o D.P ⟨o, serB s o⟩).flatMap Po.C) := own_setRow (own_setRow hG.out (g := gx + 1) (by omega) _) (g := gx + 1 + 1) (by omega) _
        have HF := Seal.mk (And.intro hr1 (And.intro hr2 (And.intro hbF ho)))
        clear hHeld5 hHeld4 hr1 hr2 hbF ho H6 hG
        refine take_h 13 ?_ rfl (by kernel_rfl) (by kernel_rfl) (by kernel_rfl) (fun _ _ _ h => h) (Or.inl ⟨by kernel_rfl, ?_⟩) (by assumption) ?_
        rotate_left
        · (intro w hSw; (try dsimp only at hSw); go_simp; try (with_reducible rfl))
        try simp only [Act.put, List.setIfInBounds_toArray, List.set_cons_zero, List.set_cons_succ]
        refine wpAnyH_done (by kernel_rfl) ?_ _
        clear hHeld6
        go_wp2
        refine bodyPost_ret (results_two_tmp (fn := Tryd.f11) rfl _ _ (gx + 1) (gx + 1 + 1) 25 31 #[.slice (some ⟨gI, 0, none⟩) (pn + 1) cI, .slice ga gn gc] CP.toArray _ rfl rfl rfl HF.out.1 HF.out.2.1 ud rfl dev_info ut rfl (by simpa using iP)) rfl ?_
        rw [HE.out.1, HE.out.2.1, HE.out.2.2]
        obtain ⟨b1, l1, e1, i1⟩ := isC_own (C := Po.C) HF.out.2.2.2 HIN.out.1 HIN.out.2 (by omega)
        cases e1
        exact ⟨.slice (some ⟨gI, 0, none⟩) (pn + 1) cI, .slice ga gn gc, by rw [← HCP.out]; rfl, ⟨⟨_, _, _, _, _, _, rfl, rfl, i1, HIN3.out, (HP.out _ HF.out.2.2.1).2⟩⟩, HF.out.2.2.1⟩
end Frk
