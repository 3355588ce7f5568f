/- Law 45: DeadOrder's walk. -/
import Derived.Test.YtemoomfnmiodeaaDoorVoKsv
import Derived.Test.YtemoomfnmiodeaaDoorVoKcl
import Derived.Laws.AppendOwnNone
namespace Frk
open Go Go.RowKit Go.Proofs
set_option maxRecDepth 100000

theorem exec_load_midK {P : Program} {o : Oper} {a : Act} {w : World} (ty : TypeId) (x : Operand) (ho : o.op = .load ty x) (b off : Nat) (hx : a.eval x = .pointer (some ⟨b, off, none⟩)) (cs : List Value) (d : TypeDesc) (hc : w.rangeAt b off cs)
    (hu : P.underlying ty = some d) (hd : d.isRow = true) (hi : (P.info? ty).map (·.size) = some cs.length) : (execOp a.eval o).run P w = .ok (.value (.agg cs.toArray)) w := by
  unfold execOp
  simp only [ho, hx, Instr.loadAt, Instr.sureAddr, Sem.run_bind, Sem.run_pure, Result.andThen_ok, run_loadVar_mid w b off ty cs d hc hu hd hi]
theorem own_litK (w : World) (base : Nat) (hb : base ≤ w.heap.size) : OwnK (w.alloc (.cells #[] 45)) base (.slice (some ⟨w.heap.size, 0, none⟩) 0 0) ([] : List Ltr).length [] :=
  ⟨rfl, .inr ⟨w.heap.size, 0, #[], rfl, hb, heap_alloc_new w _, Nat.le_refl _, by decide, rfl, rfl⟩⟩
/-- 'append(x, l...)' -/
theorem wpList_append_k {ops : Array Oper} {rest : List Oper} {o : Oper} {a : Act} {w : World} {Q : Exit → Act → World → Prop} (hgd : o.guard = none) (s x : Operand)
    (ho : o.op = .call { callee := .builtin .append, args := #[s, x], argTypes := #[22, 22] })
    (base : Nat) (v : Value) (L : List Ltr) (hs : a.eval s = v) (hown : OwnK w base v L.length L) (hne : v ≠ .slice none 0 0)
    (ad : Option Addr) (n c : Nat) (l : List Ltr) (hx : a.eval x = .slice ad n c) (hsrc : IsC Ltr.C 38 w ad n c l) (hnc : ad = none → c = 0) (hsz : L.length + n ≤ 4194304) (hbase : base ≤ w.heap.size)
    (h : ∀ v' w', OwnK w' base v' (L ++ l).length (L ++ l) → v' ≠ .slice none 0 0 → (∀ w0, Below base w0 w → Below base w0 w') → wpList Tryd.prog ops Q rest (a.put o.dst v') w') : wpList Tryd.prog ops Q (o :: rest) a w := by
  obtain ⟨i0, hi, hz0, hz1, hz2⟩ := info_parts info_kt
  have hln := hsrc.llen
  have hlen := kcells_length l hsrc.each
  cases ad with
  | none =>
    have hc := hnc rfl
    subst hc
    have hn : n = 0 := by have := hsrc.lcap; omega
    subst hn
    obtain rfl : l = [] := List.length_eq_zero_iff.1 hln
    refine wpList_append_own_none hgd s x 22 ho base 45 i0 38 Tryd.underlying22 hi v L.length (kcells L) hs hown hx ?_
    exact h v w (by simpa using hown) hne (fun _ hb => hb)
  | some ad =>
    have hc : ∀ j u, (kcells l)[j]? = some u → w.cell? (ad.add j) = some u := fun j u hu => by
      rcases hsrc.at_ with h0 | ⟨g, off, e, hr, hg⟩
      · obtain rfl : l = [] := List.length_eq_zero_iff.1 (hln.trans h0)
        simp [kcells] at hu
      · cases e
        rw [Addr.add_mid]
        exact hr j u hu
    refine wpList_append_own w hgd s x 22 ho base 45 i0 _ 38 80 Tryd.underlying22 hi hz0 hz1 hz2 rfl (by decide) v L.length (kcells L) hs hown ad n c (kcells l) hx (by rw [hlen, hln]) hc (kcells_one l) (by unfold maxLen; omega) (by omega) hbase ?_
    intro v' w' h2 h3 h4
    refine h v' w' (by
      have e : kcells (L ++ l) = kcells L ++ kcells l := by unfold kcells; rw [List.flatMap_append]
      unfold OwnK
      rw [List.length_append, hln, e]
      exact h2) (fun e => hne (h4.1 e).1) (fun w0 hb => hb.grown h3 hbase (fun k e => (hown.lt k e).1))
theorem turnK_ne {w : World} {base : Nat} {n : Nat} {v : Value} {l : List Ltr} (h : OwnK w base v n l) (_hl : l.length = n) (hne : v ≠ .slice none 0 0) (he : ∀ x ∈ l, x.C.length = 38) :
    ∃ g c R, v = .slice (some ⟨g, 0, none⟩) n c ∧ base ≤ g ∧ n ≤ c ∧ c ≤ 9223372036854775807 ∧ TurnK w g l R := by
  rcases h.2 with ⟨e, _⟩ | ⟨g, cap, cur, rfl, hb, hg, hc, hcm, hs, ht⟩
  · exact absurd e hne
  · refine ⟨g, cap, cur.toList.drop (n * 38), rfl, hb, hc, by unfold maxLen at hcm; omega, ?_, he⟩
    rw [show kcells l = cur.toList.take (n * 38) from ht.symm, List.take_append_drop]
    exact hg

set_option maxHeartbeats 16000000 in
theorem law_deadOrder (a oa : Option Addr) (n c on oc : Nat) (l : List Ltr) (ob : Bytes) (t u : Int) (w : World) (hG : Glob w) (hl : n ≤ 5000 → IsC Ltr.C 38 w a n c l) (hok : ∀ x ∈ l, x.ok) (ha : c = 0 ∨ ∃ g off, a = some ⟨g, off, none⟩) (ho : on ≤ 140737488355328 → IsB w oa on oc ob) :
    Calls Tryd.prog 5 #[.slice a n c, .slice oa on oc, .int .i64 t, .int .i64 u] w fun e w' => e = .returned (.bool true) ∧ Below w.heap.size w w' := by
  have HB : Seal (Below w.heap.size w w) := ⟨Below.refl _ _⟩
  have HG : Seal (∀ W, Below w.heap.size w W → Glob W) := ⟨fun W h => hG.below h⟩
  have HL : Seal (∀ W, Below w.heap.size w W → n ≤ 12 → IsC Ltr.C 38 W a n c l) := ⟨fun W h hn => (hl (by omega)).below h⟩
  have HO : Seal (∀ W, Below w.heap.size w W → on ≤ 100 → IsB W oa on oc ob) := ⟨fun W h hn => (ho (by omega)).later h⟩
  have HOK := Seal.mk hok
  have HA : Seal (a = none → c = 0) := ⟨fun e => by
    rcases ha with h | ⟨g, off, h⟩
    · exact h
    · rw [e] at h; cases h⟩
  have ut := Tryd.underlying45
  clear hG hl hok ha ho
  go_enter Tryd.func5, Tryd.ntmps5
  go_wp2_with fail
  refine (sane45_any w (HG.out _ HB.out)).mono ?_
  rintro e w1 ⟨rfl, hb⟩
  have HB := Seal.mk (HB.out.trans ((hb).mono HB.out.size))
  clear hb
  go_wp2_with fail
  refine (kfew_any a n c w1).mono ?_
  rintro e w2 ⟨rfl, rfl⟩
  by_cases hn : n ≤ 12
  rotate_left
  · have q1 : decide (n ≤ 12) = false := decide_eq_false hn
    rw [q1]
    go_wp2
    go_ret
    exact ⟨rfl, HB.out⟩
  · have q1 : decide (n ≤ 12) = true := decide_eq_true hn
    rw [q1]
    clear q1
    by_cases hon : 100 < on
    · have q2 : (100 : Int) < (on : Int) := by omega
      go_wp2
      go_ret
      exact ⟨rfl, HB.out⟩
    · have q2 : ¬ (100 : Int) < (on : Int) := by omega
      have HN : Seal (n ≤ 12 ∧ on ≤ 100 ∧ l.length = n) := ⟨hn, by omega, (HL.out _ HB.out hn).llen⟩
      have hon100 : on ≤ 100 := by omega
      clear hon
      have HS1 : Seal (IsC Ltr.C 38 (w1.alloc (.cells #[] 45)) a n c l) := ⟨(HL.out _ HB.out hn).below (below_alloc _ _)⟩
      go_wp2_with (at_builtin; go_loud (refine wpList_append_k rfl (.tmp 36) (.tmp 37) rfl w1.heap.size (.slice (some ⟨w1.heap.size, 0, none⟩) 0 0) [] rfl (own_litK w1 w1.heap.size (Nat.le_refl _)) (by simp) a n c l rfl HS1.out HA.out (by have := HN.out.1; simp only [List.length_nil]; omega) (by simp) ?_; intro v2 w2 hown2 hne2 hb2; have HM2 : Seal (OwnK w2 w1.heap.size v2 l.length l ∧ v2 ≠ .slice none 0 0 ∧ Below w1.heap.size w1 w2) := ⟨(by simpa using hown2), hne2, hb2 w1 ((Below.refl _ w1).alloc (Nat.le_refl _) _)⟩; clear hown2 hne2 hb2; obtain ⟨va2, vn2, vc2, rfl⟩ := slice_form HM2.out.1; (try simp only [Act.put, List.setIfInBounds_toArray, List.set_cons_zero, List.set_cons_succ])))
      obtain ⟨gT, cT, R, hv, hgT, hcT, hcm, hT⟩ := turnK_ne HM2.out.1 rfl HM2.out.2.1 (fun x hx => Ltr.C_len (HOK.out x hx).t32)
      cases hv
      obtain ⟨cT, rfl⟩ : ∃ z, z = vc2 := ⟨_, rfl⟩
      have HGT : Seal (w.heap.size ≤ gT ∧ l.length ≤ cT ∧ cT ≤ 9223372036854775807) := ⟨by have := HB.out.size; omega, hcT, hcm⟩
      have HS : Seal (∃ T, TurnK w2 gT T R ∧ T.Perm l ∧ Below w.heap.size w w2) := ⟨l, hT, List.Perm.refl _, HB.out.trans (HM2.out.2.2.mono HB.out.size)⟩
      rw [HN.out.2.2]
      clear HM2 hT hgT hcT hcm HB
      go_wp2
      go_loopw [41] (fun i41 wr => ∃ j : Nat, j ≤ on ∧ i41 = .int .i64 j ∧ Seal (∃ T, TurnK wr gT T R ∧ T.Perm l ∧ Below w.heap.size w wr)) (fun i _ => on - (intOf i).toNat)
      case atStart => exact ⟨0, by omega, rfl, HS⟩
      case round =>
        obtain ⟨wo, rfl⟩ : ∃ z, z = wr := ⟨_, rfl⟩
        obtain ⟨j, hj, rfl, hH⟩ := hrel
        clear HS
        obtain ⟨T, hT, hP, hBw⟩ := hH.out
        by_cases hlt : j < on
        · have hIb := HO.out wo hBw HN.out.2.1
          rcases hIb.at_ with hz | ⟨go, oo, rfl, hro, hgo⟩
          · omega
          obtain ⟨q, hq⟩ : ∃ q, ob[j]? = some q := ⟨_, List.getElem?_eq_getElem (by have := hIb.llen; omega)⟩
          have co : wo.cell? ⟨go, oo + j, none⟩ = some (.int .u8 (q.toNat : Int)) := hro j (B q) (by rw [List.getElem?_map, hq]; rfl)
          obtain ⟨un, hun⟩ : ∃ un, un = q.toNat := ⟨_, rfl⟩
          have hu8 : un < 256 := by rw [hun]; exact q.toNat_lt
          rw [← hun] at co
          have q5 : (j : Int) < (on : Int) := by omega
          have q6 : (0 : Int) ≤ (j : Int) := by omega
          have HTs : Seal (TurnK wo gT T R ∧ T.Perm l ∧ Below w.heap.size w wo) := ⟨hT, hP, hBw⟩
          have HTl : Seal (T.length = n) := ⟨by rw [hP.length_eq]; exact HN.out.2.2⟩
          clear hT hP hBw hIb hro hgo hq hun hH
          by_cases hjn : j < n
          · have z1 : (j : Int) < (n : Int) := by omega
            obtain ⟨p, hpn, z6⟩ : ∃ p : Nat, p < n - j ∧ (un : Int).tmod ((n : Int) - (j : Int)) = (p : Int) := ⟨un % (n - j), Nat.mod_lt _ (by omega), by rw [show (n : Int) - (j : Int) = ((n - j : Nat) : Int) from by omega]; rfl⟩
            obtain ⟨k, hk⟩ : ∃ k, k = j + p := ⟨_, rfl⟩
            have z7 : (j : Int) + (p : Int) = (k : Int) := by omega
            have z5 : IntKind.i64.wrap ((n : Int) - (j : Int)) = (n : Int) - (j : Int) := IntWalk.i64_in _ (by omega)
            have z4 : ((n : Int) - (j : Int) == 0) = false := by simp; omega
            have z8 : IntKind.i64.wrap (un : Int) = (un : Int) := IntWalk.i64_in _ (by omega)
            have z9 : IntKind.i64.wrap (k : Int) = (k : Int) := IntWalk.i64_in _ (by omega)
            have hkn : k < n := by omega
            have z2 : (k : Int) < (n : Int) := by omega
            have z3 : (0 : Int) ≤ (k : Int) := by omega
            obtain ⟨x, hx⟩ : ∃ x, T[j]? = some x := ⟨_, List.getElem?_eq_getElem (by have := HTl.out; omega)⟩
            obtain ⟨y, hy⟩ : ∃ y, T[k]? = some y := ⟨_, List.getElem?_eq_getElem (by have := HTl.out; omega)⟩
            have lX := HTs.out.1.2 x (List.mem_of_getElem? hx)
            have lY := HTs.out.1.2 y (List.mem_of_getElem? hy)
            obtain ⟨CX, hCX⟩ : ∃ C, C = x.C := ⟨_, rfl⟩
            obtain ⟨CY, hCY⟩ : ∃ C, C = y.C := ⟨_, rfl⟩
            have HC : Seal (CX = x.C ∧ CY = y.C ∧ CX.length = 38 ∧ CY.length = 38 ∧ x.C.length = 38 ∧ y.C.length = 38) := ⟨hCX, hCY, by rw [hCX]; exact lX, by rw [hCY]; exact lY, lX, lY⟩
            have iX : (Tryd.prog.info? 45).map (·.size) = some CX.length := by rw [HC.out.2.2.1]; kernel_rfl
            have iY : (Tryd.prog.info? 45).map (·.size) = some CY.length := by rw [HC.out.2.2.2.1]; kernel_rfl
            have HF : Seal (j * 38 + CY.length ≤ (kcells T ++ R).length ∧ k * 38 + CX.length ≤ (kcells (T.set j y) ++ R).length ∧ j < T.length ∧ k < T.length ∧ T[j]? = some x ∧ T[k]? = some y ∧ (∀ v ∈ CX, v.oneCell' = true) ∧ ∀ v ∈ CY, v.oneCell' = true) := ⟨by
              have hs : ∀ z ∈ T.set j y, z.C.length = 38 := fun z hz => by
                rcases List.mem_or_eq_of_mem_set hz with e | e
                · exact HTs.out.1.2 z e
                · rw [e]; exact lY
              have hTl := HTl.out
              rw [HC.out.2.2.1, HC.out.2.2.2.1, List.length_append, List.length_append, kcells_length T HTs.out.1.2, kcells_length _ hs, List.length_set]
              exact ⟨by omega, by omega, by omega, by omega, hx, hy, by rw [hCX]; exact Ltr.C_one x, by rw [hCY]; exact Ltr.C_one y⟩⟩
            clear hk hpn hx hy lX lY hCX hCY
            go_wp2_with fail
            refine wp_region_held_drew (S := fun _ => True) (by kernel_rfl) trivial (fun hHeld => ?_)
            obtain ⟨V, hV⟩ : ∃ Z, Z = wo.drew := ⟨_, rfl⟩
            have HT : Seal (TurnK V gT T R ∧ Below w.heap.size w V) := ⟨by rw [hV]; exact ⟨HTs.out.1.below (below_drewn_o _), HTs.out.2.2.trans ((below_drewn_o _).mono HTs.out.2.2.size)⟩⟩
            have rX : V.rangeAt gT (j * 38) CX := by rw [HC.out.1]; exact HT.out.1.row HF.out.2.2.2.2.1
            have rY : V.rangeAt gT (k * 38) CY := by rw [HC.out.2.1]; exact HT.out.1.row HF.out.2.2.2.2.2.1
            clear hHeld
            have hHeld : True := trivial
            rw [← hV]
            clear hV co
            refine take_h 0 ?_ rfl (by kernel_rfl) (by kernel_rfl) (by kernel_rfl) (fun _ _ _ h => h) (Or.inl ⟨by kernel_rfl, ?_⟩) (by assumption) ?_
            rotate_left
            · (intro w hSw; (try dsimp only at hSw); go_simp; try (with_reducible rfl))
            try simp only [Act.put, List.setIfInBounds_toArray, List.set_cons_zero, List.set_cons_succ]
            refine take_h 1 ?_ rfl (by kernel_rfl) (by kernel_rfl) (by kernel_rfl) (fun _ _ _ h => h) (Or.inl ⟨by kernel_rfl, ?_⟩) (by assumption) ?_
            rotate_left
            · (intro w hSw; (try dsimp only at hSw); go_simp; try (with_reducible rfl))
            try simp only [Act.put, List.setIfInBounds_toArray, List.set_cons_zero, List.set_cons_succ]
            refine take_h 2 ?_ rfl (by kernel_rfl) (by kernel_rfl) (by kernel_rfl) (fun _ _ _ h => h) (Or.inl ⟨by kernel_rfl, ?_⟩) (by assumption) ?_
            rotate_left
            · (intro w hSw; (try dsimp only at hSw); go_simp; try (with_reducible rfl))
            try simp only [Act.put, List.setIfInBounds_toArray, List.set_cons_zero, List.set_cons_succ]
            refine take_h 3 ?_ rfl (by kernel_rfl) (by kernel_rfl) (by kernel_rfl) (fun _ _ _ h => h) (Or.inl ⟨by kernel_rfl, ?_⟩) (by assumption) ?_
            rotate_left
            · (intro w hSw; (try dsimp only at hSw); go_simp; try (with_reducible rfl))
            try simp only [Act.put, List.setIfInBounds_toArray, List.set_cons_zero, List.set_cons_succ]
            refine take_h 4 ?_ rfl (by kernel_rfl) (by kernel_rfl) (by kernel_rfl) (fun _ _ _ h => h) (Or.inl ⟨by kernel_rfl, ?_⟩) (by assumption) ?_
            rotate_left
            · (intro w hSw; (try dsimp only at hSw); go_simp; try (with_reducible rfl))
            try simp only [Act.put, List.setIfInBounds_toArray, List.set_cons_zero, List.set_cons_succ]
            refine take_h 5 ?_ rfl (by kernel_rfl) (by kernel_rfl) (by kernel_rfl) (fun _ _ _ h => h) (Or.inl ⟨by kernel_rfl, ?_⟩) (by assumption) ?_
            rotate_left
            · (intro w hSw; (try dsimp only at hSw); go_simp; try (with_reducible rfl))
            try simp only [Act.put, List.setIfInBounds_toArray, List.set_cons_zero, List.set_cons_succ]
            refine take_h 6 ?_ rfl (by kernel_rfl) (by kernel_rfl) (by kernel_rfl) (fun _ _ _ h => h) (Or.inl ⟨by kernel_rfl, ?_⟩) (by assumption) ?_
            rotate_left
            · (intro w hSw; (try dsimp only at hSw); go_simp; try (with_reducible rfl))
            try simp only [Act.put, List.setIfInBounds_toArray, List.set_cons_zero, List.set_cons_succ]
            refine take_h 8 ?_ rfl (by kernel_rfl) (by kernel_rfl) (by kernel_rfl) (fun _ _ _ h => h) (Or.inl ⟨by kernel_rfl, ?_⟩) (by assumption) ?_
            rotate_left
            · (intro w hSw; (try dsimp only at hSw); go_simp; try (with_reducible rfl))
            try simp only [Act.put, List.setIfInBounds_toArray, List.set_cons_zero, List.set_cons_succ]
            refine take_h 9 ?_ rfl (by kernel_rfl) (by kernel_rfl) (by kernel_rfl) (fun _ _ _ h => h) (Or.inl ⟨by kernel_rfl, ?_⟩) (by assumption) ?_
            rotate_left
            · (intro w hSw; (try dsimp only at hSw); go_simp; try (with_reducible rfl))
            try simp only [Act.put, List.setIfInBounds_toArray, List.set_cons_zero, List.set_cons_succ]
            refine take_h 10 ?_ rfl (by kernel_rfl) (by kernel_rfl) (by kernel_rfl) (fun _ _ _ h => h) (Or.inl ⟨by kernel_rfl, ?_⟩) (by assumption) ?_
            rotate_left
            · (intro w hSw; (try dsimp only at hSw); go_simp; try (with_reducible rfl))
            try simp only [Act.put, List.setIfInBounds_toArray, List.set_cons_zero, List.set_cons_succ]
            refine wpAnyH_ready (by kernel_rfl) (by simp) (oper_b 7 (.agg CY.toArray) V rfl (by kernel_rfl) (exec_load_midK 45 (.tmp 65) rfl gT (k * 38) rfl CY _ rY ut rfl iY) trivial (fun _ => ?_) (oper_b 11 (.agg CX.toArray) V rfl (by kernel_rfl) (exec_load_midK 45 (.tmp 69) rfl gT (j * 38) rfl CX _ rX ut rfl iX) trivial (fun _ => ?_) AllReadyH.nil))
            · try simp only [Act.put, List.setIfInBounds_toArray, List.set_cons_zero, List.set_cons_succ]
              refine oper_h 11 (.agg CX.toArray) V rfl (by kernel_rfl) (by kernel_rfl) (exec_load_midK 45 (.tmp 69) rfl gT (j * 38) rfl CX _ rX ut rfl iX) trivial (fun _ => ?_)
              try simp only [Act.put, List.setIfInBounds_toArray, List.set_cons_zero, List.set_cons_succ]
              clear rX rY
              refine take_h 12 ?_ rfl (by kernel_rfl) (by kernel_rfl) (by kernel_rfl) (fun _ _ _ h => h) (Or.inl ⟨by kernel_rfl, ?_⟩) (by assumption) ?_
              rotate_left
              · (intro w hSw; (try dsimp only at hSw); go_simp; try (with_reducible rfl))
              try simp only [Act.put, List.setIfInBounds_toArray, List.set_cons_zero, List.set_cons_succ]
              refine skip_h 13 (V.setRow gT (lay (kcells T ++ R) (j * 38) CY).toArray) rfl (by kernel_rfl) (by kernel_rfl) (exec_store_mid 45 (.tmp 71) (.tmp 66) rfl gT (j * 38) CY rfl rfl 45 (kcells T ++ R) HT.out.1.1 iY HF.out.1 HF.out.2.2.2.2.2.2.2) trivial (fun _ => ?_)
              try simp only [Act.put]
              obtain ⟨V1, hV1⟩ : ∃ Z, Z = V.setRow gT (lay (kcells T ++ R) (j * 38) CY).toArray := ⟨_, rfl⟩
              have HT1 : Seal (TurnK V1 gT (T.set j y) R ∧ Below w.heap.size w V1) := ⟨by rw [hV1, HC.out.2.1]; exact ⟨HT.out.1.set HF.out.2.2.1 HC.out.2.2.2.2.2, below_row HT.out.2 HGT.out.1 _⟩⟩
              rw [← hV1]
              clear hV1
              refine take_h 14 ?_ rfl (by kernel_rfl) (by kernel_rfl) (by kernel_rfl) (fun _ _ _ h => h) (Or.inl ⟨by kernel_rfl, ?_⟩) (by assumption) ?_
              rotate_left
              · (intro w hSw; (try dsimp only at hSw); go_simp; try (with_reducible rfl))
              try simp only [Act.put, List.setIfInBounds_toArray, List.set_cons_zero, List.set_cons_succ]
              refine skip_h 15 (V1.setRow gT (lay (kcells (T.set j y) ++ R) (k * 38) CX).toArray) rfl (by kernel_rfl) (by kernel_rfl) (exec_store_mid 45 (.tmp 72) (.tmp 70) rfl gT (k * 38) CX rfl rfl 45 (kcells (T.set j y) ++ R) HT1.out.1.1 iX HF.out.2.1 HF.out.2.2.2.2.2.2.1) trivial (fun _ => ?_)
              try simp only [Act.put]
              obtain ⟨V2, hV2⟩ : ∃ Z, Z = V1.setRow gT (lay (kcells (T.set j y) ++ R) (k * 38) CX).toArray := ⟨_, rfl⟩
              have HT2 : Seal (∃ T, TurnK V2 gT T R ∧ T.Perm l ∧ Below w.heap.size w V2) := ⟨(T.set j y).set k x, by
                rw [hV2, HC.out.1]
                exact ⟨HT1.out.1.set (by rw [List.length_set]; exact HF.out.2.2.2.1) HC.out.2.2.2.2.1, (swap_perm HF.out.2.2.2.2.1 HF.out.2.2.2.2.2.1).trans HTs.out.2.1, below_row HT1.out.2 HGT.out.1 _⟩⟩
              rw [← hV2]
              clear hV2
              refine wpAnyH_done (by kernel_rfl) ?_ _
              clear hHeld z1 z2 z3 z4 z5 z6 z7 z8 z9 hkn iX iY HC HF HTs HT HT1
              go_wp2
              go_roundw
              case rel => exact ⟨j + 1, by omega, by go_num, HT2⟩
              case measure => simp [intOf]; omega
            · try simp only [Act.put, List.setIfInBounds_toArray, List.set_cons_zero, List.set_cons_succ]
              refine oper_h 7 (.agg CY.toArray) V rfl (by kernel_rfl) (by kernel_rfl) (exec_load_midK 45 (.tmp 65) rfl gT (k * 38) rfl CY _ rY ut rfl iY) trivial (fun _ => ?_)
              try simp only [Act.put, List.setIfInBounds_toArray, List.set_cons_zero, List.set_cons_succ]
              clear rX rY
              refine take_h 12 ?_ rfl (by kernel_rfl) (by kernel_rfl) (by kernel_rfl) (fun _ _ _ h => h) (Or.inl ⟨by kernel_rfl, ?_⟩) (by assumption) ?_
              rotate_left
              · (intro w hSw; (try dsimp only at hSw); go_simp; try (with_reducible rfl))
              try simp only [Act.put, List.setIfInBounds_toArray, List.set_cons_zero, List.set_cons_succ]
              refine skip_h 13 (V.setRow gT (lay (kcells T ++ R) (j * 38) CY).toArray) rfl (by kernel_rfl) (by kernel_rfl) (exec_store_mid 45 (.tmp 71) (.tmp 66) rfl gT (j * 38) CY rfl rfl 45 (kcells T ++ R) HT.out.1.1 iY HF.out.1 HF.out.2.2.2.2.2.2.2) trivial (fun _ => ?_)
              try simp only [Act.put]
              obtain ⟨V1, hV1⟩ : ∃ Z, Z = V.setRow gT (lay (kcells T ++ R) (j * 38) CY).toArray := ⟨_, rfl⟩
              have HT1 : Seal (TurnK V1 gT (T.set j y) R ∧ Below w.heap.size w V1) := ⟨by rw [hV1, HC.out.2.1]; exact ⟨HT.out.1.set HF.out.2.2.1 HC.out.2.2.2.2.2, below_row HT.out.2 HGT.out.1 _⟩⟩
              rw [← hV1]
              clear hV1
              refine take_h 14 ?_ rfl (by kernel_rfl) (by kernel_rfl) (by kernel_rfl) (fun _ _ _ h => h) (Or.inl ⟨by kernel_rfl, ?_⟩) (by assumption) ?_
              rotate_left
              · (intro w hSw; (try dsimp only at hSw); go_simp; try (with_reducible rfl))
              try simp only [Act.put, List.setIfInBounds_toArray, List.set_cons_zero, List.set_cons_succ]
              refine skip_h 15 (V1.setRow gT (lay (kcells (T.set j y) ++ R) (k * 38) CX).toArray) rfl (by kernel_rfl) (by kernel_rfl) (exec_store_mid 45 (.tmp 72) (.tmp 70) rfl gT (k * 38) CX rfl rfl 45 (kcells (T.set j y) ++ R) HT1.out.1.1 iX HF.out.2.1 HF.out.2.2.2.2.2.2.1) trivial (fun _ => ?_)
              try simp only [Act.put]
              obtain ⟨V2, hV2⟩ : ∃ Z, Z = V1.setRow gT (lay (kcells (T.set j y) ++ R) (k * 38) CX).toArray := ⟨_, rfl⟩
              have HT2 : Seal (∃ T, TurnK V2 gT T R ∧ T.Perm l ∧ Below w.heap.size w V2) := ⟨(T.set j y).set k x, by
                rw [hV2, HC.out.1]
                exact ⟨HT1.out.1.set (by rw [List.length_set]; exact HF.out.2.2.2.1) HC.out.2.2.2.2.1, (swap_perm HF.out.2.2.2.2.1 HF.out.2.2.2.2.2.1).trans HTs.out.2.1, below_row HT1.out.2 HGT.out.1 _⟩⟩
              rw [← hV2]
              clear hV2
              refine wpAnyH_done (by kernel_rfl) ?_ _
              clear hHeld z1 z2 z3 z4 z5 z6 z7 z8 z9 hkn iX iY HC HF HTs HT HT1
              go_wp2
              go_roundw
              case rel => exact ⟨j + 1, by omega, by go_num, HT2⟩
              case measure => simp [intOf]; omega
          · have z1 : ¬ (j : Int) < (n : Int) := by omega
            have HT2 : Seal (∃ T, TurnK wo gT T R ∧ T.Perm l ∧ Below w.heap.size w wo) := ⟨T, HTs.out⟩
            clear HTs
            go_wp2
            go_roundw
            case rel => exact ⟨j + 1, by omega, by go_num, HT2⟩
            case measure => simp [intOf]; omega
        · obtain rfl : j = on := by omega
          have q5 : ¬ (j : Int) < (j : Int) := by omega
          have HB := Seal.mk hBw
          have HTs : Seal (Ko wo (fun W => IsC Ltr.C 38 W (some ⟨gT, 0, none⟩) n cT T) ∧ T.Perm l ∧ (∀ x ∈ T, x.ok)) := ⟨by
            have e : T.length = n := hP.length_eq.trans HN.out.2.2
            have h := hT.isC (c := cT) (by have := HN.out.1; omega) (by rw [e, ← HN.out.2.2]; exact HGT.out.2.1) HGT.out.2.2
            rw [e] at h
            exact ⟨ko_isC h, hP, fun x hx => HOK.out x (hP.mem_iff.1 hx)⟩⟩
          obtain ⟨CR, hCR⟩ : ∃ r, r = colF [] l := ⟨_, rfl⟩
          have HCR : Seal (CR = colF [] l ∧ CR = colF [] T) := ⟨hCR, by rw [hCR]; exact (col_perm hP (by rw [hP.length_eq, HN.out.2.2]; have := HN.out.1; omega)).symm⟩
          clear hT hP hBw hH hCR
          go_wp2_with fail
          have hk : Calls Tryd.prog 20 #[.slice a n c] wo (ColPost CR wo) := by
            rw [HCR.out.1]; exact kcol_any a n c l wo (HG.out _ HB.out) (HL.out _ HB.out HN.out.1) HOK.out
          refine hk.mono ?_
          rintro e w3 ⟨a1, n1, c1, rfl, hi, hb⟩
          have HB := Seal.mk (HB.out.trans ((hb).mono HB.out.size))
          have K1 := Seal.mk (ko_isC hi.out.1)
          have HO1 := Seal.mk hi.out.2
          have HTs : Seal (Ko w3 (fun W => IsC Ltr.C 38 W (some ⟨gT, 0, none⟩) n cT T) ∧ T.Perm l ∧ (∀ x ∈ T, x.ok)) := ⟨HTs.out.1.step hb, HTs.out.2⟩
          clear hk hi hb
          go_wp2_with fail
          have hk : Calls Tryd.prog 20 #[.slice (some ⟨gT, 0, none⟩) n cT] w3 (ColPost CR w3) := by
            rw [HCR.out.2]; exact kcol_any _ n cT T w3 (HG.out _ HB.out) HTs.out.1.at HTs.out.2.2
          refine hk.mono ?_
          rintro e w4 ⟨a2, n2, c2, rfl, hi, hb⟩
          have HB := Seal.mk (HB.out.trans ((hb).mono HB.out.size))
          have K1 := Seal.mk (K1.out.step hb)
          have K2 := Seal.mk (ko_isC hi.out.1)
          clear hk hi hb HTs
          have hk : Calls Tryd.prog 15 #[.slice a1 n1 c1, .slice a2 n2 c2] w4 fun e w' => e = .returned (.bool true) ∧ Below w4.heap.size w4 w' := by
            have h := rsameK_any a1 a2 n1 c1 n2 c2 (CR.getD []) (CR.getD []) w4 K1.out.at K2.out.at (fun x hx => (HO1.out x hx).t32) (fun x hx => (HO1.out x hx).t32)
            rwa [decide_eq_true rfl] at h
          have HK := Seal.mk hk
          clear hk
          cases CR with
          | none =>
            go_wp2_with fail
            refine HK.out.mono ?_
            rintro e w5 ⟨rfl, hb⟩
            have HB := Seal.mk (HB.out.trans ((hb).mono HB.out.size))
            clear hb HK
            go_wp2
            go_ret
            exact ⟨rfl, HB.out⟩
          | some Y =>
            go_wp2_with fail
            refine HK.out.mono ?_
            rintro e w5 ⟨rfl, hb⟩
            have HB := Seal.mk (HB.out.trans ((hb).mono HB.out.size))
            have K1 : Seal (Ko w5 (fun W => IsC Ltr.C 38 W a1 n1 c1 Y)) := ⟨K1.out.step hb⟩
            have HO1 : Seal (∀ x ∈ Y, x.ok) := ⟨HO1.out⟩
            clear hb HK K2
            have HY := Seal.mk (col_chk (by rw [HN.out.2.2]; have := HN.out.1; omega) HCR.out.1.symm)
            by_cases h1 : t < 0
            · skip
              go_wp2
              go_ret
              exact ⟨rfl, HB.out⟩
            · by_cases h2 : u < t
              · skip
                go_wp2
                go_ret
                exact ⟨rfl, HB.out⟩
              · by_cases h3 : 2097152 ≤ u
                · skip
                  go_wp2
                  go_ret
                  exact ⟨rfl, HB.out⟩
                · have hn1 : n1 ≤ 100 := by have := K1.out.at.llen; have := HY.out.2; have := HN.out.1; have := HN.out.2.2; omega
                  have e1 : burnE Y t = 0 := burnE_zero.2 ⟨HY.out.1, by omega, by omega⟩
                  have e2 : burnE Y u = 0 := burnE_zero.2 ⟨HY.out.1, by omega, by omega⟩
                  have e3 : burnE (stayK Y t) u = 0 := burnE_zero.2 ⟨stay_chk t HY.out.1, by omega, by omega⟩
                  have HE : Seal (burnE Y t = 0 ∧ burnE Y u = 0 ∧ burnE (stayK Y t) u = 0 ∧ stayK (stayK Y t) u = stayK Y u) := ⟨e1, e2, e3, stay_stay Y (by omega)⟩
                  have HSo : Seal ((∀ z, ∀ x ∈ stayK Y z, x.ok)) := ⟨fun z x hx => HO1.out x (List.mem_filter.1 hx).1⟩
                  clear e1 e2 e3
                  go_wp2_with fail
                  have hk : Calls Tryd.prog 16 #[.slice a1 n1 c1, .int .i64 t] w5 (fun e w' => ∃ a n c, ∃ C : List Value, e = .returned (.tuple #[.slice a n c, .agg C.toArray, .int .i64 0]) ∧ Seal (IsC Ltr.C 38 w' a n c (stayK (Y) t) ∧ C.length = 65 ∧ C.toArray.all (·.oneCell') = true) ∧ Below w5.heap.size w5 w') := by
                    have h := kburn_any a1 n1 c1 (Y) t w5 (HG.out _ HB.out) K1.out.at HO1.out hn1
                    rw [show burnE (Y) t = 0 from HE.out.1] at h
                    refine h.mono fun e w' hp => ?_
                    obtain ⟨p1, p2, p3, p4, rfl, p5, p6⟩ := burnPost_c hp
                    refine ⟨p1, p2, p3, brC _ p4, rfl, ⟨?_, len_brC (burnB_len _ _).1 (burnB_len _ _).2 _, brn_all p5.out.2.form⟩, p6⟩
                    have h5 := p5.out.1
                    unfold burnL at h5
                    rwa [if_pos (HE.out.1)] at h5
                  refine hk.mono ?_
                  rintro e v31 ⟨a31, n31, c31, C31, rfl, hi, hb⟩
                  have HB := Seal.mk (HB.out.trans (hb.mono HB.out.size))
                  have K1 := Seal.mk (K1.out.step hb)
                  have K31 := Seal.mk (ko_isC hi.out.1)
                  have IC : Seal ((Tryd.prog.info? 59).map (·.size) = some C31.length ∧ Tryd.zeroCells59.size = C31.toArray.size ∧ C31.toArray.all (·.oneCell') = true) := ⟨by rw [hi.out.2.1]; kernel_rfl, by rw [brz_zs, List.size_toArray, List.size_toArray, hi.out.2.1]; rfl, hi.out.2.2⟩
                  clear hk hi hb
                  obtain ⟨Z31, g31, hg, n_1, n_2, n_3, n_4, _, _⟩ := newv v31 Tryd.zeroCells59 C31 59
                  have HB := Seal.mk (HB.out.trans (n_4.mono HB.out.size))
                  have K1 := Seal.mk (K1.out.step n_4)
                  have K31 := Seal.mk (K31.out.step n_4)
                  have hgn := hg.symm
                  clear hg n_3 n_4
                  go_wp2_with ((try rw [hgn]); refine wpList_store_row rfl 59 (.tmp 18) (.tmp 113) rfl g31 C31.toArray rfl rfl 59 _ n_2 (by simpa using IC.out.1) IC.out.2.1 IC.out.2.2 ?_; rw [n_1]; clear n_1 n_2 hgn; (try simp only [Act.put]))
                  clear IC
                  have hn3 : n31 ≤ 100 := by have := K31.out.at.llen; have := stay_gone Y t; have := K1.out.at.llen; omega
                  have hk : Calls Tryd.prog 16 #[.slice a31 n31 c31, .int .i64 u] Z31 (fun e w' => ∃ a n c, ∃ C : List Value, e = .returned (.tuple #[.slice a n c, .agg C.toArray, .int .i64 0]) ∧ Seal (IsC Ltr.C 38 w' a n c (stayK (stayK Y t) u) ∧ C.length = 65 ∧ C.toArray.all (·.oneCell') = true) ∧ Below Z31.heap.size Z31 w') := by
                    have h := kburn_any a31 n31 c31 (stayK Y t) u Z31 (HG.out _ HB.out) K31.out.at (HSo.out t) hn3
                    rw [show burnE (stayK Y t) u = 0 from HE.out.2.2.1] at h
                    refine h.mono fun e w' hp => ?_
                    obtain ⟨p1, p2, p3, p4, rfl, p5, p6⟩ := burnPost_c hp
                    refine ⟨p1, p2, p3, brC _ p4, rfl, ⟨?_, len_brC (burnB_len _ _).1 (burnB_len _ _).2 _, brn_all p5.out.2.form⟩, p6⟩
                    have h5 := p5.out.1
                    unfold burnL at h5
                    rwa [if_pos (HE.out.2.2.1)] at h5
                  refine hk.mono ?_
                  rintro e v32 ⟨a32, n32, c32, C32, rfl, hi, hb⟩
                  have HB := Seal.mk (HB.out.trans (hb.mono HB.out.size))
                  have K1 := Seal.mk (K1.out.step hb)
                  have K32 := Seal.mk (ko_isC hi.out.1)
                  have IC : Seal ((Tryd.prog.info? 59).map (·.size) = some C32.length ∧ Tryd.zeroCells59.size = C32.toArray.size ∧ C32.toArray.all (·.oneCell') = true) := ⟨by rw [hi.out.2.1]; kernel_rfl, by rw [brz_zs, List.size_toArray, List.size_toArray, hi.out.2.1]; rfl, hi.out.2.2⟩
                  clear hk hi hb
                  obtain ⟨Z32, g32, hg, n_1, n_2, n_3, n_4, _, _⟩ := newv v32 Tryd.zeroCells59 C32 59
                  have HB := Seal.mk (HB.out.trans (n_4.mono HB.out.size))
                  have K1 := Seal.mk (K1.out.step n_4)
                  have K32 := Seal.mk (K32.out.step n_4)
                  have hgn := hg.symm
                  clear hg n_3 n_4
                  go_wp2_with ((try rw [hgn]); refine wpList_store_row rfl 59 (.tmp 21) (.tmp 120) rfl g32 C32.toArray rfl rfl 59 _ n_2 (by simpa using IC.out.1) IC.out.2.1 IC.out.2.2 ?_; rw [n_1]; clear n_1 n_2 hgn; (try simp only [Act.put]))
                  clear IC
                  have hk : Calls Tryd.prog 16 #[.slice a1 n1 c1, .int .i64 u] Z32 (fun e w' => ∃ a n c, ∃ C : List Value, e = .returned (.tuple #[.slice a n c, .agg C.toArray, .int .i64 0]) ∧ Seal (IsC Ltr.C 38 w' a n c (stayK (Y) u) ∧ C.length = 65 ∧ C.toArray.all (·.oneCell') = true) ∧ Below Z32.heap.size Z32 w') := by
                    have h := kburn_any a1 n1 c1 (Y) u Z32 (HG.out _ HB.out) K1.out.at HO1.out hn1
                    rw [show burnE (Y) u = 0 from HE.out.2.1] at h
                    refine h.mono fun e w' hp => ?_
                    obtain ⟨p1, p2, p3, p4, rfl, p5, p6⟩ := burnPost_c hp
                    refine ⟨p1, p2, p3, brC _ p4, rfl, ⟨?_, len_brC (burnB_len _ _).1 (burnB_len _ _).2 _, brn_all p5.out.2.form⟩, p6⟩
                    have h5 := p5.out.1
                    unfold burnL at h5
                    rwa [if_pos (HE.out.2.1)] at h5
                  refine hk.mono ?_
                  rintro e v33 ⟨a33, n33, c33, C33, rfl, hi, hb⟩
                  have HB := Seal.mk (HB.out.trans (hb.mono HB.out.size))
                  have K32 := Seal.mk (K32.out.step hb)
                  have K33 := Seal.mk (ko_isC hi.out.1)
                  have IC : Seal ((Tryd.prog.info? 59).map (·.size) = some C33.length ∧ Tryd.zeroCells59.size = C33.toArray.size ∧ C33.toArray.all (·.oneCell') = true) := ⟨by rw [hi.out.2.1]; kernel_rfl, by rw [brz_zs, List.size_toArray, List.size_toArray, hi.out.2.1]; rfl, hi.out.2.2⟩
                  clear hk hi hb
                  obtain ⟨Z33, g33, hg, n_1, n_2, n_3, n_4, _, _⟩ := newv v33 Tryd.zeroCells59 C33 59
                  have HB := Seal.mk (HB.out.trans (n_4.mono HB.out.size))
                  have K32 := Seal.mk (K32.out.step n_4)
                  have K33 := Seal.mk (K33.out.step n_4)
                  have hgn := hg.symm
                  clear hg n_3 n_4
                  go_wp2_with ((try rw [hgn]); refine wpList_store_row rfl 59 (.tmp 24) (.tmp 127) rfl g33 C33.toArray rfl rfl 59 _ n_2 (by simpa using IC.out.1) IC.out.2.1 IC.out.2.2 ?_; rw [n_1]; clear n_1 n_2 hgn; (try simp only [Act.put]))
                  clear IC
                  have hk : Calls Tryd.prog 15 #[.slice a32 n32 c32, .slice a33 n33 c33] Z33 fun e w' => e = .returned (.bool true) ∧ Below Z33.heap.size Z33 w' := by
                    have h2 := K32.out.at
                    rw [HE.out.2.2.2] at h2
                    have h := rsameK_any a32 a33 n32 c32 n33 c33 (stayK Y u) (stayK Y u) Z33 h2 K33.out.at (fun x hx => (HSo.out u x hx).t32) (fun x hx => (HSo.out u x hx).t32)
                    rwa [decide_eq_true rfl] at h
                  refine hk.mono ?_
                  rintro e v34 ⟨rfl, hb⟩
                  have HB := Seal.mk (HB.out.trans ((hb).mono HB.out.size))
                  clear hk hb
                  go_wp2
                  go_ret
                  exact ⟨rfl, HB.out⟩
end Frk
