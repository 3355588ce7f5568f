/- Law 45's reference: Send. -/
import Derived.Test.YtemoomfnmiodeaaGreatDoorVsRva
import Derived.Test.YtemoomfnmiodeaaGreatDoorVsgKsh
import Derived.Laws.AppendOwnNone
namespace Frk
open Go Go.RowKit Go.Proofs
set_option maxRecDepth 100000

theorem own_litK (w : World) (base : Nat) (hb : base ≤ w.heap.size) : OwnK (w.alloc (.cells #[] 30)) base (.slice (some ⟨w.heap.size, 0, none⟩) 0 0) ([] : List Ltr).length [] :=
  ⟨rfl, .inr ⟨w.heap.size, 0, #[], rfl, hb, heap_alloc_new w _, Nat.le_refl _, by decide, rfl, rfl⟩⟩
/-- 'append(x, l...)', of one row -/
theorem wpList_append_r {ops : Array Oper} {rest : List Oper} {o : Oper} {a : Act} {w : World} {Q : Exit → Act → World → Prop} (hgd : o.guard = none) (s x : Operand)
    (ho : o.op = .call { callee := .builtin .append, args := #[s, x], argTypes := #[22, 22] })
    (base : Nat) (v : Value) (L : List Ltr) (hs : a.eval s = v) (hown : OwnK w base v L.length L)
    (g n c : Nat) (l : List Ltr) (hx : a.eval x = .slice (some ⟨g, 0, none⟩) n c) (hsrc : IsC Ltr.C 38 w (some ⟨g, 0, none⟩) n c l) (hsz : L.length + n ≤ 4194304) (hbase : base ≤ w.heap.size)
    (h : ∀ v' w', OwnK w' base v' (L ++ l).length (L ++ l) → (∀ w0, Below base w0 w → Below base w0 w') → wpList Tryz.prog ops Q rest (a.put o.dst v') w') : wpList Tryz.prog ops Q (o :: rest) a w := by
  obtain ⟨i0, hi, hz0, hz1, hz2⟩ := info_parts info_kt
  have hln := hsrc.llen
  have hlen := kcells_length l hsrc.each
  have hc : ∀ j u, (kcells l)[j]? = some u → w.cell? ((⟨g, 0, none⟩ : Addr).add j) = some u := fun j u hu => by
    rcases hsrc.at_ with h0 | ⟨g', off, e, hr, hg⟩
    · obtain rfl : l = [] := List.length_eq_zero_iff.1 (hln.trans h0)
      simp [kcells] at hu
    · cases e
      rw [Addr.add_mid]
      exact hr j u hu
  refine wpList_append_own w hgd s x 22 ho base 30 i0 _ 38 80 Tryz.underlying22 hi hz0 hz1 hz2 rfl (by decide) v L.length (kcells L) hs hown ⟨g, 0, none⟩ n c (kcells l) hx (by rw [hlen, hln]) hc (kcells_one l) (by unfold maxLen; omega) (by omega) hbase ?_
  intro v' w' h2 h3 h4
  refine h v' w' (by
    have e : kcells (L ++ l) = kcells L ++ kcells l := by unfold kcells; rw [List.flatMap_append]
    unfold OwnK
    rw [List.length_append, hln, e]
    exact h2) (fun w0 hb => hb.grown h3 hbase (fun k e => (hown.lt k e).1))

/-- where the letter stands, among the first k -/
def AtK (l : List Ltr) (no : Int) (k : Nat) (A : Int) : Prop := (A = -1 ∧ ∀ j x, j < k → l[j]? = some x → x.N ≠ no) ∨ ∃ j x, j < k ∧ A = (j : Int) ∧ l[j]? = some x ∧ x.N = no
theorem outK_take_succ {l : List Ltr} {i : Nat} {x : Ltr} (hx : l[i]? = some x) (n : Int) : outK (l.take (i + 1)) n = if x.N = n then outK (l.take i) n else outK (l.take i) n ++ [x] := by
  unfold outK
  rw [List.take_add_one, hx, List.filter_append]
  split
  · simp [*]
  · simp [*]
/-- what Send keeps in its variables -/
structure SrK (w : World) (a b r0 r1 r2 : Int) (W : World) : Prop where
  bel : Below w.heap.size w W
  rw_ : W.rangeAt w.heap.size 0 [.int .i64 a, .int .i64 b]
  rr : W.rangeAt (w.heap.size + 1) 0 [.int .i64 r0, .int .i64 r1, .int .i64 r2]
  rs : W.heap[w.heap.size + 1 + 1]? = some (.cells #[.int .i64 0, .int .i64 0, .int .i64 0, .int .i64 0, .int .i64 0, .int .i64 0] 44 (0, 0))
theorem SrK.step {w W W' : World} {a b r0 r1 r2 : Int} (h : SrK w a b r0 r1 r2 W) (hb : Below W.heap.size W W') : SrK w a b r0 r1 r2 W' :=
  ⟨h.bel.trans (hb.mono h.bel.size), rangeAt_below' h.rw_ hb, rangeAt_below' h.rr hb, (hb.block _ (Array.getElem?_eq_some_iff.1 h.rs).1).trans h.rs⟩
theorem srK_new (w : World) (a b r0 r1 r2 : Int) : SrK w a b r0 r1 r2 (((w.alloc (.cells #[.int .i64 a, .int .i64 b] 41)).alloc (.cells #[.int .i64 r0, .int .i64 r1, .int .i64 r2] 42)).alloc (.cells #[.int .i64 0, .int .i64 0, .int .i64 0, .int .i64 0, .int .i64 0, .int .i64 0] 44)) := by
  obtain ⟨W2, h2⟩ : ∃ W, W = w.alloc (.cells #[.int .i64 a, .int .i64 b] 41) := ⟨_, rfl⟩
  obtain ⟨W3, h3⟩ : ∃ W, W = W2.alloc (.cells #[.int .i64 r0, .int .i64 r1, .int .i64 r2] 42) := ⟨_, rfl⟩
  obtain ⟨W4, h4⟩ : ∃ W, W = W3.alloc (.cells #[.int .i64 0, .int .i64 0, .int .i64 0, .int .i64 0, .int .i64 0, .int .i64 0] 44) := ⟨_, rfl⟩
  rw [← h2, ← h3, ← h4]
  have s2 : W2.heap.size = w.heap.size + 1 := by rw [h2, size_alloc]
  have s3 : W3.heap.size = w.heap.size + 1 + 1 := by rw [h3, size_alloc, s2]
  have b2 : Below w.heap.size w W2 := by rw [h2]; exact below_alloc _ _
  have b3 : Below W2.heap.size W2 W3 := by rw [h3]; exact below_alloc _ _
  have b4 : Below W3.heap.size W3 W4 := by rw [h4]; exact below_alloc _ _
  have c2 : W2.rangeAt w.heap.size 0 [.int .i64 a, .int .i64 b] := by rw [h2]; exact rangeAt_row (cs := [.int .i64 a, .int .i64 b]) (heap_alloc_new w _)
  have c3 : W3.rangeAt (w.heap.size + 1) 0 [.int .i64 r0, .int .i64 r1, .int .i64 r2] := by rw [← s2, h3]; exact rangeAt_row (cs := [.int .i64 r0, .int .i64 r1, .int .i64 r2]) (heap_alloc_new W2 _)
  have c4 : W4.heap[w.heap.size + 1 + 1]? = some (.cells #[.int .i64 0, .int .i64 0, .int .i64 0, .int .i64 0, .int .i64 0, .int .i64 0] 44 (0, 0)) := by rw [← s3, h4]; exact heap_alloc_new W3 _
  have b24 := b3.trans (b4.mono b3.size)
  exact ⟨b2.trans (b24.mono b2.size), rangeAt_below' c2 b24, rangeAt_below' c3 b4, c4⟩

set_option maxHeartbeats 8000000 in
theorem rsend45_any (a : Option Addr) (n c : Nat) (l : List Ltr) (no wa wb r0 r1 r2 : Int) (w : World) (hG : Glob w) (hd : IsC Ltr.C 38 w a n c l) (hok : ∀ x ∈ l, x.ok) (h0 : I64 r0) (h1 : I64 r1) (h2 : I64 r2) :
    Calls Tryz.prog 16 #[.slice a n c, .int .i64 no, .agg #[.int .i64 wa, .int .i64 wb], .agg #[.int .i64 r0, .int .i64 r1, .int .i64 r2]] w (SendPost (sendF l no wa wb r0 r1 r2) w) := by
  obtain ⟨X, hX⟩ : ∃ X : World, X = ((w.alloc (.cells #[.int .i64 wa, .int .i64 wb] 41)).alloc (.cells #[.int .i64 r0, .int .i64 r1, .int .i64 r2] 42)).alloc (.cells #[.int .i64 0, .int .i64 0, .int .i64 0, .int .i64 0, .int .i64 0, .int .i64 0] 44) := ⟨_, rfl⟩
  have HK : Seal (SrK w wa wb r0 r1 r2 X) := ⟨by rw [hX]; exact srK_new w wa wb r0 r1 r2⟩
  have HGl : Seal (∀ W, Below w.heap.size w W → Glob W) := ⟨fun W h => hG.below h⟩
  have HD : Seal (∀ W, Below w.heap.size w W → IsC Ltr.C 38 W a n c l) := ⟨fun W h => hd.below h⟩
  have HOK := Seal.mk hok
  have HI : Seal (I64 r0 ∧ I64 r1 ∧ I64 r2) := ⟨h0, h1, h2⟩
  have hll := hd.llen
  have hlm := hd.lmax
  obtain ⟨e0, he0⟩ : ∃ e, e = chkL l := ⟨_, rfl⟩
  have HC1 := Seal.mk (rcheck45_any a n c l X (HGl.out X HK.out.bel) (HD.out X HK.out.bel) hok)
  rw [← he0] at HC1
  have iS : Seal ((Tryz.prog.info? 44).map (·.size) = some (#[.int .i64 0, .int .i64 0, .int .i64 0, .int .i64 0, .int .i64 0, .int .i64 0] : Array Value).size) := ⟨by kernel_rfl⟩
  have ut := Tryz.underlying30
  have uS := Tryz.underlying44
  obtain ⟨RES, hRES⟩ : ∃ R, R = sendF l no wa wb r0 r1 r2 := ⟨_, rfl⟩
  rw [← hRES]
  clear hG hd hok h0 h1 h2
  go_enter Tryz.func16, Tryz.ntmps16
  go_upto_region 1 with (fail)
  rw [← hX]
  clear hX
  go_wp2_with fail
  refine HC1.out.mono ?_
  rintro e w1 ⟨rfl, hb⟩
  have HK1 := Seal.mk (HK.out.step hb)
  clear hb HC1 HK
  by_cases hz : e0 = 0
  rotate_left
  · have HR : Seal (RES = ([], (0, 0, 0, 0, 0, 0), e0)) := ⟨by rw [hRES]; unfold sendF; rw [if_pos (by rw [← he0]; exact hz), he0]⟩
    clear he0 hRES
    go_wp2_with (refine wpList_store_row rfl 44 (.tmp 9) (.tmp 21) rfl (w.heap.size + 1 + 1) #[.int .i64 0, .int .i64 0, .int .i64 0, .int .i64 0, .int .i64 0, .int .i64 0] rfl rfl 44 _ HK1.out.rs iS.out rfl (by simp [Value.oneCell']) ?_)
    refine bodyPost_ret (results_mid (fn := Tryz.f16) rfl _ _ (w.heap.size + 1 + 1) 44 #[.int .i64 0, .int .i64 0, .int .i64 0, .int .i64 0, .int .i64 0, .int .i64 0] (0, 0) _ _ _ rfl rfl rfl (setRow_heap _ _ _ _ _ _ HK1.out.rs) Tryz.underlying44 rfl iS.out) rfl ?_
    exact ⟨none, 0, by rw [HR.out]; rfl, ⟨by rw [HR.out]; exact isC_nilK _⟩, below_row HK1.out.bel (by omega) _⟩
  · subst hz
    have HCk := Seal.mk he0.symm
    have HRE := Seal.mk hRES
    clear he0 hRES
    have HS : Seal (Below w1.heap.size w1 (w1.alloc (.cells #[] 30)) ∧ OwnK (w1.alloc (.cells #[] 30)) w1.heap.size (.slice (some ⟨w1.heap.size, 0, none⟩) 0 0) (outK (l.take 0) no).length (outK (l.take 0) no) ∧ AtK l no 0 (-1)) := ⟨below_alloc _ _, own_litK w1 _ (Nat.le_refl _), .inl ⟨rfl, fun j x h => by omega⟩⟩
    go_wp2
    go_loopw [12, 13, 14] (fun i12 i13 i14 wr => ∃ (k : Nat) (v : Value) (A : Int), k ≤ n ∧ v = i12 ∧ i13 = .int .i64 A ∧ i14 = .int .i64 k ∧ Seal (Below w1.heap.size w1 wr ∧ OwnK wr w1.heap.size v (outK (l.take k) no).length (outK (l.take k) no) ∧ AtK l no k A)) (fun _ _ i _ => n - (intOf i).toNat)
    case atStart => exact ⟨0, _, -1, by omega, rfl, rfl, rfl, HS⟩
    case round =>
      obtain ⟨wo, rfl⟩ : ∃ z, z = wr := ⟨_, rfl⟩
      obtain ⟨k, v, A, hk, rfl, rfl, rfl, hH⟩ := hrel
      clear HS
      have HBw : Seal (SrK w wa wb r0 r1 r2 wo) := ⟨HK1.out.step hH.out.1⟩
      by_cases hlt : k < n
      · obtain ⟨x, hx⟩ : ∃ x, l[k]? = some x := ⟨_, List.getElem?_eq_getElem (by omega)⟩
        have HDw := HD.out wo HBw.out.bel
        rcases HDw.at_ with hz | ⟨g, off, rfl, hr, hg⟩
        · omega
        have rX := rangeC_row hr HDw.each hx
        have x32 := (HOK.out x (List.mem_of_getElem? hx)).t32
        have q5 : (k : Int) < (n : Int) := by omega
        have q6 : (0 : Int) ≤ (k : Int) := by omega
        obtain ⟨C, hC⟩ : ∃ C, C = x.C := ⟨_, rfl⟩
        obtain ⟨N, hN⟩ : ∃ N, N = x.N := ⟨_, rfl⟩
        have iX : (Tryz.prog.info? 30).map (·.size) = some C.length := by rw [hC]; exact Ltr.info x32
        have HX : Seal (l[k]? = some x ∧ N = x.N ∧ C = x.C ∧ (∀ D ∈ [C], D.length = 38) ∧ ∀ z ∈ [x], z.C.length = 38) := ⟨hx, hN, hC, by intro D hD; rw [List.mem_singleton.1 hD, hC]; exact Ltr.C_len x32, by intro z hz; rw [List.mem_singleton.1 hz]; exact Ltr.C_len x32⟩
        rw [← hC] at rX
        have cN : wo.cell? ⟨g, off + k * 38, none⟩ = some (.int .i64 N) := by have h := rX 0 (.int .i64 N) (by rw [hC, hN]; rfl); simpa using h
        clear hx hC hN hr hg HDw x32
        by_cases hno : N = no
        · have HN : Seal (Below w1.heap.size w1 wo ∧ OwnK wo w1.heap.size v (outK (l.take (k + 1)) no).length (outK (l.take (k + 1)) no) ∧ AtK l no (k + 1) (k : Int)) := ⟨hH.out.1, by rw [outK_take_succ HX.out.1, if_pos (by rw [← HX.out.2.1]; exact hno)]; exact hH.out.2.1, .inr ⟨k, x, by omega, rfl, HX.out.1, by rw [← HX.out.2.1]; exact hno⟩⟩
          have qn : (N == no) = true := by rw [beq_iff_eq]; exact hno
          clear hH rX
          subst hno
          go_wp2
          go_roundw
          case rel => exact ⟨k + 1, v, (k : Int), by omega, rfl, rfl, by go_num, HN⟩
          case measure => simp [intOf]; omega
        · have qn : (N == no) = false := by rw [beq_eq_false_iff_ne]; exact hno
          have HV : Seal (OwnK wo w1.heap.size v (outK (l.take k) no).length (outK (l.take k) no) ∧ Below w1.heap.size w1 wo) := ⟨hH.out.2.1, hH.out.1⟩
          have HAt : Seal (AtK l no (k + 1) A) := ⟨by
            rcases hH.out.2.2 with ⟨e, h⟩ | ⟨j, y, h1, h2, h3, h4⟩
            · refine .inl ⟨e, fun j y hj hy => ?_⟩
              rcases Nat.lt_or_ge j k with h' | h'
              · exact h j y h' hy
              · obtain rfl : j = k := by omega
                rw [HX.out.1] at hy
                cases hy
                rw [← HX.out.2.1]
                exact hno
            · exact .inr ⟨j, y, by omega, h2, h3, h4⟩⟩
          obtain ⟨L, hL⟩ : ∃ L, L = outK (l.take k) no := ⟨_, rfl⟩
          have HLn : Seal (L.length ≤ 5000 ∧ outK (l.take (k + 1)) no = L ++ [x]) := ⟨by
            rw [hL]
            have h1 : (outK (l.take k) no).length ≤ (l.take k).length := List.length_filter_le _ _
            rw [List.length_take] at h1
            omega, by rw [outK_take_succ HX.out.1, if_neg (by rw [← HX.out.2.1]; exact hno), hL]⟩
          rw [← hL] at HV
          clear hH hno hL
          go_wp2_with (first
            | (refine wpList_load_mid rfl 30 (.tmp 41) rfl g (off + k * 38) rfl C _ rX ut rfl iX ?_; (try simp only [Act.put, List.setIfInBounds_toArray, List.set_cons_zero, List.set_cons_succ]))
            | (refine wpList_bslice (by kernel_rfl) 22 30 1 38 #[(0, .tmp 42)] rfl [C] Tryz.underlying22 size_kt _ zero_kt rfl rfl HX.out.2.2.2.1 (by decide) (by decide) rfl ?_; obtain ⟨V, gl, hgl, el, nb, kl⟩ := litk wo [x] [C] (by simp [HX.out.2.2.1]) HX.out.2.2.2.2 (by simp); rw [el, ← hgl]; have HV2 : Seal (OwnK V w1.heap.size v L.length L ∧ Below w1.heap.size w1 V ∧ w1.heap.size ≤ V.heap.size ∧ IsC Ltr.C 38 V (some ⟨gl, 0, none⟩) 1 1 [x]) := ⟨ownsRow_below HV.out.1 nb, HV.out.2.trans (nb.mono HV.out.2.size), (by have := HV.out.2.size; have := nb.size; omega), kl.at⟩; clear hgl el nb kl cN rX; (try simp only [Act.put, List.setIfInBounds_toArray, List.set_cons_zero, List.set_cons_succ]))
            | (at_builtin; go_loud (refine wpList_append_r rfl (.tmp 38) (.tmp 43) rfl w1.heap.size v L rfl HV2.out.1 gl 1 1 [x] rfl HV2.out.2.2.2 (by have := HLn.out.1; omega) HV2.out.2.2.1 ?_; intro v2 w2 hown2 hb2; have HM2 : Seal (OwnK w2 w1.heap.size v2 (L ++ [x]).length (L ++ [x]) ∧ Below w1.heap.size w1 w2) := ⟨hown2, hb2 w1 HV2.out.2.1⟩; clear hown2 hb2; (try simp only [Act.put, List.setIfInBounds_toArray, List.set_cons_zero, List.set_cons_succ]))))
          go_roundw
          case rel => exact ⟨k + 1, v2, A, by omega, rfl, rfl, by go_num, ⟨HM2.out.2, by rw [HLn.out.2]; exact HM2.out.1, HAt.out⟩⟩
          case measure => simp [intOf]; omega
      · obtain rfl : k = n := by omega
        have q5 : ¬ (k : Int) < (k : Int) := by omega
        have e1 : l.take k = l := List.take_of_length_le (by omega)
        have hOw := hH.out.2.1
        have hAt := hH.out.2.2
        rw [e1] at hOw
        obtain ⟨q1, q2, q3⟩ := chkL_zero.1 HCk.out
        have hout : (outK l no).length ≤ 5000 := Nat.le_trans (List.length_filter_le _ _) (by omega)
        have hoc : ∀ z ∈ outK l no, z.C.length = 38 := fun z hz => Ltr.C_len (HOK.out z (List.mem_filter.1 hz).1).t32
        obtain ⟨av, cv, ev, hiv⟩ := isC_own (C := Ltr.C) hOw hoc rfl hout
        subst ev
        have KO : Seal (Ko wo (fun W => IsC Ltr.C 38 W av (outK l no).length cv (outK l no)) ∧ ∀ g o, av = some ⟨g, o, none⟩ → w.heap.size + 1 + 1 < g) := ⟨ko_isC hiv, fun g o e => by
          have h1 := (hOw.lt g (by rw [e]; rfl)).1
          have h2 := (Array.getElem?_eq_some_iff.1 HK1.out.rs).1
          omega⟩
        rcases hAt with ⟨rfl, hno⟩ | ⟨j, x, hj, rfl, hx, hxN⟩
        · have hf : fndK l no = none := fndK_none.2 (hasK_not.2 fun z hz e => by
            obtain ⟨i, hi⟩ := List.mem_iff_getElem?.1 hz
            exact hno i z (by have := (List.getElem?_eq_some_iff.1 hi).1; omega) hi e)
          have HR : Seal (RES = ([], (0, 0, 0, 0, 0, 0), 1)) := ⟨by rw [HRE.out]; unfold sendF; rw [if_neg (by rw [HCk.out]; simp), hf]⟩
          clear hH e1 hOw q1 q2 q3 hout hoc hiv hno hf KO
          go_wp2_with (refine wpList_store_row rfl 44 (.tmp 9) (.tmp 47) rfl (w.heap.size + 1 + 1) #[.int .i64 0, .int .i64 0, .int .i64 0, .int .i64 0, .int .i64 0, .int .i64 0] rfl rfl 44 _ HBw.out.rs iS.out rfl (by simp [Value.oneCell']) ?_)
          refine bodyPost_ret (results_mid (fn := Tryz.f16) rfl _ _ (w.heap.size + 1 + 1) 44 #[.int .i64 0, .int .i64 0, .int .i64 0, .int .i64 0, .int .i64 0, .int .i64 0] (0, 0) _ _ _ rfl rfl rfl (setRow_heap _ _ _ _ _ _ HBw.out.rs) Tryz.underlying44 rfl iS.out) rfl ?_
          exact ⟨none, 0, by rw [HR.out]; rfl, ⟨by rw [HR.out]; exact isC_nilK _⟩, below_row HBw.out.bel (by omega) _⟩
        · have hf : fndK l no = some x := by rw [← hxN]; exact fndK_of q3 (List.mem_of_getElem? hx)
          have ox := HOK.out x (List.mem_of_getElem? hx)
          obtain ⟨c0, d0, c1, d1, c2, d2, er, hU⟩ : ∃ c0 d0 c1 d1 c2 d2 er, useF (chkB x.L x.K x.P x.Q x.T) x.K x.P x.Q wa wb r0 r1 r2 = (c0, d0, c1, d1, c2, d2, er) := ⟨_, _, _, _, _, _, _, rfl⟩
          have HU : Seal (∀ W, Below w.heap.size w W → Calls Tryz.prog 38 #[.agg (retC x.L x.K x.P x.Q x.T).toArray, .agg #[.int .i64 wa, .int .i64 wb], .agg #[.int .i64 r0, .int .i64 r1, .int .i64 r2]] W fun e' w' => e' = .returned (.tuple #[.agg #[.int .i64 c0, .int .i64 d0, .int .i64 c1, .int .i64 d1, .int .i64 c2, .int .i64 d2], .int .i64 er]) ∧ Below W.heap.size W w') :=
            ⟨fun W h => ruse_any x.L x.K x.P x.Q wa wb r0 r1 r2 c0 d0 c1 d1 c2 d2 er x.T W (HGl.out W h) ox.l ox.k ox.p ox.q ox.t32 HI.out.1 HI.out.2.1 HI.out.2.2 ⟨hU⟩⟩
          have HR0 : Seal (er ≠ 0 → RES = ([], (0, 0, 0, 0, 0, 0), er)) := ⟨fun h => by rw [HRE.out]; unfold sendF; rw [if_neg (by rw [HCk.out]; simp), hf]; dsimp only; rw [hU]; dsimp only; rw [if_pos h]⟩
          have HR1 : Seal (er = 0 → RES = (outK l no, (c0, d0, c1, d1, c2, d2), 0)) := ⟨fun h => by rw [HRE.out]; unfold sendF; rw [if_neg (by rw [HCk.out]; simp), hf]; dsimp only; rw [hU]; dsimp only; rw [if_neg (by rw [h]; simp)]⟩
          obtain ⟨CR, hCR⟩ : ∃ C, C = retC x.L x.K x.P x.Q x.T := ⟨_, rfl⟩
          have HRow : Seal (∃ g off, a = some ⟨g, off, none⟩ ∧ ∀ W, Below w.heap.size w W → W.rangeAt g (off + j * 38 + 2) CR) := ⟨by
            rcases (HD.out w (Below.refl _ _)).at_ with h | ⟨g, off, e, hr, hg⟩
            · omega
            · refine ⟨g, off, e, fun W hW => ?_⟩
              have r1 := rangeAt_below' (rangeC_row hr (HD.out w (Below.refl _ _)).each hx) hW
              have r2 := rangeAt_drop r1 2
              rw [show x.C.drop 2 = CR from by rw [hCR]; rfl] at r2
              exact r2⟩
          have iR : (Tryz.prog.info? 28).map (·.size) = some CR.length := by rw [hCR]; exact retC_info ox.t32
          rw [← hCR] at HU
          obtain ⟨g, off, rfl, hrow⟩ := HRow.out
          have HRow := Seal.mk hrow
          have u3 := Tryz.underlying28
          have u1 := Tryz.underlying41
          have u2 := Tryz.underlying42
          have i1 : (Tryz.prog.info? 41).map (·.size) = some ([.int .i64 wa, .int .i64 wb] : List Value).length := by kernel_rfl
          have i2 : (Tryz.prog.info? 42).map (·.size) = some ([.int .i64 r0, .int .i64 r1, .int .i64 r2] : List Value).length := by kernel_rfl
          obtain ⟨SX, hSX⟩ : ∃ S : List Value, S = [.int .i64 c0, .int .i64 d0, .int .i64 c1, .int .i64 d1, .int .i64 c2, .int .i64 d2] := ⟨_, rfl⟩
          have HSX : Seal (SX = six (c0, d0, c1, d1, c2, d2) ∧ (#[.int .i64 0, .int .i64 0, .int .i64 0, .int .i64 0, .int .i64 0, .int .i64 0] : Array Value).size = SX.toArray.size ∧ SX.toArray.all (·.oneCell') = true) := ⟨by rw [hSX]; rfl, by rw [hSX]; rfl, by rw [hSX]; simp [Value.oneCell']⟩
          have iX : (Tryz.prog.info? 44).map (·.size) = some SX.length := by rw [hSX]; kernel_rfl
          have HU2 : Seal (∀ W, Below w.heap.size w W → Calls Tryz.prog 38 #[.agg CR.toArray, .agg #[.int .i64 wa, .int .i64 wb], .agg #[.int .i64 r0, .int .i64 r1, .int .i64 r2]] W fun e' w' => e' = .returned (.tuple #[.agg SX.toArray, .int .i64 er]) ∧ Below W.heap.size W w') := ⟨by rw [hSX]; exact HU.out⟩
          have p1 : (j : Int) < (k : Int) := by omega
          have p2 : (0 : Int) ≤ (j : Int) := by omega
          have p3 : ¬ (j : Int) < 0 := by omega
          obtain ⟨OL, hOL⟩ : ∃ L, L = outK l no := ⟨_, rfl⟩
          rw [← hOL] at KO HR1 ⊢
          have KO1 := Seal.mk KO.out.1
          have KO2 := Seal.mk KO.out.2
          clear hH e1 hOw q1 q2 q3 hout hoc hiv hf ox hU hx hxN hCR hrow hSX HU KO hOL
          go_wp2_with fail
          refine wp_region_held_drew (S := fun W => Below w.heap.size w W ∧ W.rangeAt w.heap.size 0 [.int .i64 wa, .int .i64 wb] ∧ W.rangeAt (w.heap.size + 1) 0 [.int .i64 r0, .int .i64 r1, .int .i64 r2]) (by kernel_rfl) (by have h := HBw.out.step (below_drewn_o wo); exact ⟨h.bel, h.rw_, h.rr⟩) (fun hHeld => ?_)
          obtain ⟨V, hV⟩ : ∃ V, V = wo.drew := ⟨_, rfl⟩
          have HKV : Seal (SrK w wa wb r0 r1 r2 V) := ⟨by rw [hV]; exact HBw.out.step (below_drewn_o _)⟩
          have KO1 := Seal.mk (KO1.out.step (show Below wo.heap.size wo V by rw [hV]; exact below_drewn_o _))
          rw [← hV] at hHeld ⊢
          clear hV HBw
          refine take_h 0 ?_ rfl (by kernel_rfl) (by kernel_rfl) (by kernel_rfl) (fun _ _ _ h => h) (Or.inl ⟨by kernel_rfl, ?_⟩) (by assumption) ?_
          rotate_left
          · (intro w hSw; (try dsimp only at hSw); go_simp; try (with_reducible rfl))
          try simp only [Act.put, List.setIfInBounds_toArray, List.set_cons_zero, List.set_cons_succ]
          refine take_h 1 ?_ rfl (by kernel_rfl) (by kernel_rfl) (by kernel_rfl) (fun _ _ _ h => h) (Or.inl ⟨by kernel_rfl, ?_⟩) (by assumption) ?_
          rotate_left
          · (intro w hSw; (try dsimp only at hSw); go_simp; try (with_reducible rfl))
          try simp only [Act.put, List.setIfInBounds_toArray, List.set_cons_zero, List.set_cons_succ]
          refine take_h 2 ?_ rfl (by kernel_rfl) (by kernel_rfl) (by kernel_rfl) (fun _ _ _ h => h) (Or.inl ⟨by kernel_rfl, ?_⟩) (by assumption) ?_
          rotate_left
          · (intro w hSw; (try dsimp only at hSw); go_simp; try (with_reducible rfl))
          try simp only [Act.put, List.setIfInBounds_toArray, List.set_cons_zero, List.set_cons_succ]
          refine take_h 3 ?_ rfl (by kernel_rfl) (by kernel_rfl) (by kernel_rfl) (fun _ _ _ h => h) (Or.inl ⟨by kernel_rfl, ?_⟩) (by assumption) ?_
          rotate_left
          · (intro w hSw; (try dsimp only at hSw); go_simp; try (with_reducible rfl))
          try simp only [Act.put, List.setIfInBounds_toArray, List.set_cons_zero, List.set_cons_succ]
          refine take_h 4 _ rfl (by kernel_rfl) (by kernel_rfl) (by kernel_rfl) (fun _ _ _ h => h) (yieldsIf_load_mid (by kernel_rfl) 28 (.tmp 52) rfl g (off + j * 38 + 2) rfl CR _ (fun w hSw => (HRow.out _ hSw.1)) u3 rfl iR) (by assumption) ?_
          try simp only [Act.put, List.setIfInBounds_toArray, List.set_cons_zero, List.set_cons_succ]
          refine take_h 5 _ rfl (by kernel_rfl) (by kernel_rfl) (by kernel_rfl) (fun _ _ _ h => h) (yieldsIf_load_mid (by kernel_rfl) 41 (.tmp 6) rfl w.heap.size 0 rfl [.int .i64 wa, .int .i64 wb] _ (fun w hSw => hSw.2.1) u1 rfl i1) (by assumption) ?_
          try simp only [Act.put, List.setIfInBounds_toArray, List.set_cons_zero, List.set_cons_succ]
          refine take_h 6 _ rfl (by kernel_rfl) (by kernel_rfl) (by kernel_rfl) (fun _ _ _ h => h) (yieldsIf_load_mid (by kernel_rfl) 42 (.tmp 7) rfl (w.heap.size + 1) 0 rfl [.int .i64 r0, .int .i64 r1, .int .i64 r2] _ (fun w hSw => hSw.2.2) u2 rfl i2) (by assumption) ?_
          try simp only [Act.put, List.setIfInBounds_toArray, List.set_cons_zero, List.set_cons_succ]
          refine wpAnyH_ready (rs := [7, 11]) (by kernel_rfl) (by simp) (call_b 7 rfl 38 #[.agg CR.toArray, .agg #[.int .i64 wa, .int .i64 wb], .agg #[.int .i64 r0, .int .i64 r1, .int .i64 r2]] (by kernel_rfl) (by go_simp) ?_ (oper_b 11 (.pointer (some ⟨V.heap.size, 0, none⟩)) (V.alloc (.cells #[.int .i64 0, .int .i64 0, .int .i64 0, .int .i64 0, .int .i64 0, .int .i64 0] 44)) rfl (by kernel_rfl) (by go_simp) (by have h := HKV.out.step (below_alloc V (.cells #[.int .i64 0, .int .i64 0, .int .i64 0, .int .i64 0, .int .i64 0, .int .i64 0] 44)); exact ⟨h.bel, h.rw_, h.rr⟩) ?_ AllReadyH.nil))
          · refine (HU2.out V HKV.out.bel).mono ?_
            rintro e V1 ⟨rfl, hb⟩
            refine ⟨_, rfl, ⟨hHeld.1.trans (hb.mono hHeld.1.size), rangeAt_below' hHeld.2.1 hb, rangeAt_below' hHeld.2.2 hb⟩, fun hHeld1 => ?_⟩
            have HKV1 := Seal.mk (HKV.out.step hb)
            have KO1 := Seal.mk (KO1.out.step hb)
            clear hHeld hb HKV
            try simp only [Act.put, List.setIfInBounds_toArray, List.set_cons_zero, List.set_cons_succ]
            refine take_h 8 ?_ rfl (by kernel_rfl) (by kernel_rfl) (by kernel_rfl) (fun _ _ _ h => h) (Or.inl ⟨by kernel_rfl, ?_⟩) (by assumption) ?_
            rotate_left
            · (intro w hSw; (try dsimp only at hSw); go_simp; try (with_reducible rfl))
            try simp only [Act.put, List.setIfInBounds_toArray, List.set_cons_zero, List.set_cons_succ]
            refine take_h 9 ?_ rfl (by kernel_rfl) (by kernel_rfl) (by kernel_rfl) (fun _ _ _ h => h) (Or.inl ⟨by kernel_rfl, ?_⟩) (by assumption) ?_
            rotate_left
            · (intro w hSw; (try dsimp only at hSw); go_simp; try (with_reducible rfl))
            try simp only [Act.put, List.setIfInBounds_toArray, List.set_cons_zero, List.set_cons_succ]
            refine take_h 10 ?_ rfl (by kernel_rfl) (by kernel_rfl) (by kernel_rfl) (fun _ _ _ h => h) (Or.inl ⟨by kernel_rfl, ?_⟩) (by assumption) ?_
            rotate_left
            · (intro w hSw; (try dsimp only at hSw); go_simp; try (with_reducible rfl))
            try simp only [Act.put, List.setIfInBounds_toArray, List.set_cons_zero, List.set_cons_succ]
            obtain ⟨Y, g15, hg15, n_1, n_2, n_3, n_4, _, _⟩ := newv V1 #[.int .i64 0, .int .i64 0, .int .i64 0, .int .i64 0, .int .i64 0, .int .i64 0] SX 44
            have hal := below_alloc V1 (.cells #[.int .i64 0, .int .i64 0, .int .i64 0, .int .i64 0, .int .i64 0, .int .i64 0] 44)
            have HY : Seal (SrK w wa wb r0 r1 r2 Y ∧ Ko Y (fun W => W.rangeAt g15 0 SX) ∧ w.heap.size + 1 + 1 < g15) := ⟨HKV1.out.step n_4, n_3, by rw [hg15]; exact (Array.getElem?_eq_some_iff.1 HKV1.out.rs).1⟩
            have KO1 := Seal.mk (KO1.out.step n_4)
            refine oper_h 11 (.pointer (some ⟨V1.heap.size, 0, none⟩)) (V1.alloc (.cells #[.int .i64 0, .int .i64 0, .int .i64 0, .int .i64 0, .int .i64 0, .int .i64 0] 44)) rfl (by kernel_rfl) (by kernel_rfl) (by go_simp) (by have h := HKV1.out.step hal; exact ⟨h.bel, h.rw_, h.rr⟩) (fun hHeld2 => ?_)
            rw [← hg15]
            clear hHeld1 hal
            try simp only [Act.put, List.setIfInBounds_toArray, List.set_cons_zero, List.set_cons_succ]
            refine skip_h 12 Y rfl (by kernel_rfl) (by kernel_rfl) (by rw [← n_1]; exact exec_store_row 44 (.tmp 15) (.tmp 57) rfl g15 SX.toArray rfl rfl 44 _ n_2 (by simpa using iX) HSX.out.2.1 HSX.out.2.2) ⟨HY.out.1.bel, HY.out.1.rw_, HY.out.1.rr⟩ (fun hHeld3 => ?_)
            clear hHeld2 n_1 n_2 n_3 n_4 hg15 HKV1
            try simp only [Act.put]
            refine take_h 13 ?_ rfl (by kernel_rfl) (by kernel_rfl) (by kernel_rfl) (fun _ _ _ h => h) (Or.inl ⟨by kernel_rfl, ?_⟩) (by assumption) ?_
            rotate_left
            · (intro w hSw; (try dsimp only at hSw); go_simp; try (with_reducible rfl))
            try simp only [Act.put, List.setIfInBounds_toArray, List.set_cons_zero, List.set_cons_succ]
            refine wpAnyH_done (by kernel_rfl) ?_ _
            clear hHeld3
            by_cases hz : er = 0
            rotate_left
            · have HR := Seal.mk (HR0.out hz)
              clear HR0 HR1
              go_wp2_with (refine wpList_store_row rfl 44 (.tmp 9) (.tmp 61) rfl (w.heap.size + 1 + 1) #[.int .i64 0, .int .i64 0, .int .i64 0, .int .i64 0, .int .i64 0, .int .i64 0] rfl rfl 44 _ HY.out.1.rs iS.out rfl (by simp [Value.oneCell']) ?_)
              refine bodyPost_ret (results_mid (fn := Tryz.f16) rfl _ _ (w.heap.size + 1 + 1) 44 #[.int .i64 0, .int .i64 0, .int .i64 0, .int .i64 0, .int .i64 0, .int .i64 0] (0, 0) _ _ _ rfl rfl rfl (setRow_heap _ _ _ _ _ _ HY.out.1.rs) Tryz.underlying44 rfl iS.out) rfl ?_
              exact ⟨none, 0, by rw [HR.out]; rfl, ⟨by rw [HR.out]; exact isC_nilK _⟩, below_row HY.out.1.bel (by omega) _⟩
            · subst hz
              have HR := Seal.mk (HR1.out rfl)
              clear HR0 HR1
              go_wp2_with fail
              refine wp_region_held_drew (S := fun W => W.rangeAt g15 0 SX) (by kernel_rfl) HY.out.2.1.at (fun hHeld => ?_)
              obtain ⟨Z, hZ⟩ : ∃ V, V = Y.drew := ⟨_, rfl⟩
              have hbz : Below Y.heap.size Y Z := by rw [hZ]; exact below_drewn_o _
              have HZ := Seal.mk (HY.out.1.step hbz)
              have KO1 := Seal.mk (KO1.out.step hbz)
              rw [← hZ] at hHeld ⊢
              clear hZ hbz
              refine take_h 0 ?_ rfl (by kernel_rfl) (by kernel_rfl) (by kernel_rfl) (fun _ _ _ h => h) (Or.inl ⟨by kernel_rfl, ?_⟩) (by assumption) ?_
              rotate_left
              · (intro w hSw; (try dsimp only at hSw); go_simp; try (with_reducible rfl))
              try simp only [Act.put, List.setIfInBounds_toArray, List.set_cons_zero, List.set_cons_succ]
              refine take_h 1 _ rfl (by kernel_rfl) (by kernel_rfl) (by kernel_rfl) (fun _ _ _ h => h) (yieldsIf_load_mid (by kernel_rfl) 44 (.tmp 15) rfl g15 0 rfl SX _ (fun w hSw => hSw) uS rfl iX) (by assumption) ?_
              try simp only [Act.put, List.setIfInBounds_toArray, List.set_cons_zero, List.set_cons_succ]
              refine take_h 2 ?_ rfl (by kernel_rfl) (by kernel_rfl) (by kernel_rfl) (fun _ _ _ h => h) (Or.inl ⟨by kernel_rfl, ?_⟩) (by assumption) ?_
              rotate_left
              · (intro w hSw; (try dsimp only at hSw); go_simp; try (with_reducible rfl))
              try simp only [Act.put, List.setIfInBounds_toArray, List.set_cons_zero, List.set_cons_succ]
              refine skip_h 3 (Z.setRow (w.heap.size + 1 + 1) SX.toArray) rfl (by kernel_rfl) (by kernel_rfl) (exec_store_row 44 (.tmp 9) (.tmp 64) rfl (w.heap.size + 1 + 1) SX.toArray rfl rfl 44 _ HZ.out.rs (by simpa using iX) HSX.out.2.1 HSX.out.2.2) (rangeAt_setRow hHeld (by have := HY.out.2.2; omega)) (fun hHeld2 => ?_)
              try simp only [Act.put]
              refine take_h 4 ?_ rfl (by kernel_rfl) (by kernel_rfl) (by kernel_rfl) (fun _ _ _ h => h) (Or.inl ⟨by kernel_rfl, ?_⟩) (by assumption) ?_
              rotate_left
              · (intro w hSw; (try dsimp only at hSw); go_simp; try (with_reducible rfl))
              try simp only [Act.put, List.setIfInBounds_toArray, List.set_cons_zero, List.set_cons_succ]
              refine wpAnyH_done (by kernel_rfl) ?_ _
              clear hHeld hHeld2
              go_wp2
              refine bodyPost_ret (results_mid (fn := Tryz.f16) rfl _ _ (w.heap.size + 1 + 1) 44 SX.toArray (0, 0) _ _ _ rfl rfl rfl (setRow_heap _ _ _ _ _ _ HZ.out.rs) Tryz.underlying44 rfl (by simpa using iX)) rfl ?_
              exact ⟨av, cv, by rw [HR.out, HSX.out.1]; rfl, ⟨by
                rw [HR.out]
                exact KO1.out.at.other _ (fun g o e => by have := KO2.out g o e; omega)⟩, below_row HZ.out.bel (by omega) _⟩
          · intro hHeld0
            obtain ⟨VA, hVA⟩ : ∃ VA, VA = V.alloc (.cells #[.int .i64 0, .int .i64 0, .int .i64 0, .int .i64 0, .int .i64 0, .int .i64 0] 44) := ⟨_, rfl⟩
            obtain ⟨g15, hg15⟩ : ∃ g, g = V.heap.size := ⟨_, rfl⟩
            have m1 : Below V.heap.size V VA := by rw [hVA]; exact below_alloc _ _
            have m2 : VA.heap[g15]? = some (.cells #[.int .i64 0, .int .i64 0, .int .i64 0, .int .i64 0, .int .i64 0, .int .i64 0] 44 (0, 0)) := by rw [hVA, hg15]; exact heap_alloc_new V _
            rw [← hVA] at hHeld0 ⊢
            rw [← hg15]
            try simp only [Act.put, List.setIfInBounds_toArray, List.set_cons_zero, List.set_cons_succ]
            clear hVA
            have HM := Seal.mk m1
            clear m1
            refine call_h 7 rfl (by kernel_rfl) 38 #[.agg CR.toArray, .agg #[.int .i64 wa, .int .i64 wb], .agg #[.int .i64 r0, .int .i64 r1, .int .i64 r2]] (by kernel_rfl) (by go_simp) ?_
            refine (HU2.out VA hHeld0.1).mono ?_
            rintro e V1 ⟨rfl, hb⟩
            refine ⟨_, rfl, ⟨hHeld0.1.trans (hb.mono hHeld0.1.size), rangeAt_below' hHeld0.2.1 hb, rangeAt_below' hHeld0.2.2 hb⟩, fun hHeld1 => ?_⟩
            have m3 : V1.heap[g15]? = some (.cells #[.int .i64 0, .int .i64 0, .int .i64 0, .int .i64 0, .int .i64 0, .int .i64 0] 44 (0, 0)) := (hb.block _ (Array.getElem?_eq_some_iff.1 m2).1).trans m2
            have m4 := HM.out.trans (hb.mono HM.out.size)
            have m5 := below_row m4 (show V.heap.size ≤ g15 by omega) SX.toArray
            obtain ⟨Y, hY⟩ : ∃ Y, Y = V1.setRow g15 SX.toArray := ⟨_, rfl⟩
            rw [← hY] at m5
            have m6 : Y.heap[g15]? = some (.cells SX.toArray 44 (0, 0)) := by rw [hY]; exact setRow_heap _ _ _ _ _ _ m3
            have HY : Seal (SrK w wa wb r0 r1 r2 Y ∧ Ko Y (fun W => W.rangeAt g15 0 SX) ∧ w.heap.size + 1 + 1 < g15) := ⟨HKV.out.step m5, ko_range (rangeAt_row m6), by rw [hg15]; exact (Array.getElem?_eq_some_iff.1 HKV.out.rs).1⟩
            have KO1 := Seal.mk (KO1.out.step m5)
            clear hHeld hHeld0 hb m2 m4 m5 m6 HM HKV hg15
            try simp only [Act.put, List.setIfInBounds_toArray, List.set_cons_zero, List.set_cons_succ]
            refine take_h 8 ?_ rfl (by kernel_rfl) (by kernel_rfl) (by kernel_rfl) (fun _ _ _ h => h) (Or.inl ⟨by kernel_rfl, ?_⟩) (by assumption) ?_
            rotate_left
            · (intro w hSw; (try dsimp only at hSw); go_simp; try (with_reducible rfl))
            try simp only [Act.put, List.setIfInBounds_toArray, List.set_cons_zero, List.set_cons_succ]
            refine take_h 9 ?_ rfl (by kernel_rfl) (by kernel_rfl) (by kernel_rfl) (fun _ _ _ h => h) (Or.inl ⟨by kernel_rfl, ?_⟩) (by assumption) ?_
            rotate_left
            · (intro w hSw; (try dsimp only at hSw); go_simp; try (with_reducible rfl))
            try simp only [Act.put, List.setIfInBounds_toArray, List.set_cons_zero, List.set_cons_succ]
            refine take_h 10 ?_ rfl (by kernel_rfl) (by kernel_rfl) (by kernel_rfl) (fun _ _ _ h => h) (Or.inl ⟨by kernel_rfl, ?_⟩) (by assumption) ?_
            rotate_left
            · (intro w hSw; (try dsimp only at hSw); go_simp; try (with_reducible rfl))
            try simp only [Act.put, List.setIfInBounds_toArray, List.set_cons_zero, List.set_cons_succ]
            refine skip_h 12 Y rfl (by kernel_rfl) (by kernel_rfl) (by rw [hY]; exact exec_store_row 44 (.tmp 15) (.tmp 57) rfl g15 SX.toArray rfl rfl 44 _ m3 (by simpa using iX) HSX.out.2.1 HSX.out.2.2) ⟨HY.out.1.bel, HY.out.1.rw_, HY.out.1.rr⟩ (fun hHeld3 => ?_)
            clear hHeld1 m3 hY
            try simp only [Act.put]
            refine take_h 13 ?_ rfl (by kernel_rfl) (by kernel_rfl) (by kernel_rfl) (fun _ _ _ h => h) (Or.inl ⟨by kernel_rfl, ?_⟩) (by assumption) ?_
            rotate_left
            · (intro w hSw; (try dsimp only at hSw); go_simp; try (with_reducible rfl))
            try simp only [Act.put, List.setIfInBounds_toArray, List.set_cons_zero, List.set_cons_succ]
            refine wpAnyH_done (by kernel_rfl) ?_ _
            clear hHeld3
            by_cases hz : er = 0
            rotate_left
            · have HR := Seal.mk (HR0.out hz)
              clear HR0 HR1
              go_wp2_with (refine wpList_store_row rfl 44 (.tmp 9) (.tmp 61) rfl (w.heap.size + 1 + 1) #[.int .i64 0, .int .i64 0, .int .i64 0, .int .i64 0, .int .i64 0, .int .i64 0] rfl rfl 44 _ HY.out.1.rs iS.out rfl (by simp [Value.oneCell']) ?_)
              refine bodyPost_ret (results_mid (fn := Tryz.f16) rfl _ _ (w.heap.size + 1 + 1) 44 #[.int .i64 0, .int .i64 0, .int .i64 0, .int .i64 0, .int .i64 0, .int .i64 0] (0, 0) _ _ _ rfl rfl rfl (setRow_heap _ _ _ _ _ _ HY.out.1.rs) Tryz.underlying44 rfl iS.out) rfl ?_
              exact ⟨none, 0, by rw [HR.out]; rfl, ⟨by rw [HR.out]; exact isC_nilK _⟩, below_row HY.out.1.bel (by omega) _⟩
            · subst hz
              have HR := Seal.mk (HR1.out rfl)
              clear HR0 HR1
              go_wp2_with fail
              refine wp_region_held_drew (S := fun W => W.rangeAt g15 0 SX) (by kernel_rfl) HY.out.2.1.at (fun hHeld => ?_)
              obtain ⟨Z, hZ⟩ : ∃ V, V = Y.drew := ⟨_, rfl⟩
              have hbz : Below Y.heap.size Y Z := by rw [hZ]; exact below_drewn_o _
              have HZ := Seal.mk (HY.out.1.step hbz)
              have KO1 := Seal.mk (KO1.out.step hbz)
              rw [← hZ] at hHeld ⊢
              clear hZ hbz
              refine take_h 0 ?_ rfl (by kernel_rfl) (by kernel_rfl) (by kernel_rfl) (fun _ _ _ h => h) (Or.inl ⟨by kernel_rfl, ?_⟩) (by assumption) ?_
              rotate_left
              · (intro w hSw; (try dsimp only at hSw); go_simp; try (with_reducible rfl))
              try simp only [Act.put, List.setIfInBounds_toArray, List.set_cons_zero, List.set_cons_succ]
              refine take_h 1 _ rfl (by kernel_rfl) (by kernel_rfl) (by kernel_rfl) (fun _ _ _ h => h) (yieldsIf_load_mid (by kernel_rfl) 44 (.tmp 15) rfl g15 0 rfl SX _ (fun w hSw => hSw) uS rfl iX) (by assumption) ?_
              try simp only [Act.put, List.setIfInBounds_toArray, List.set_cons_zero, List.set_cons_succ]
              refine take_h 2 ?_ rfl (by kernel_rfl) (by kernel_rfl) (by kernel_rfl) (fun _ _ _ h => h) (Or.inl ⟨by kernel_rfl, ?_⟩) (by assumption) ?_
              rotate_left
              · (intro w hSw; (try dsimp only at hSw); go_simp; try (with_reducible rfl))
              try simp only [Act.put, List.setIfInBounds_toArray, List.set_cons_zero, List.set_cons_succ]
              refine skip_h 3 (Z.setRow (w.heap.size + 1 + 1) SX.toArray) rfl (by kernel_rfl) (by kernel_rfl) (exec_store_row 44 (.tmp 9) (.tmp 64) rfl (w.heap.size + 1 + 1) SX.toArray rfl rfl 44 _ HZ.out.rs (by simpa using iX) HSX.out.2.1 HSX.out.2.2) (rangeAt_setRow hHeld (by have := HY.out.2.2; omega)) (fun hHeld2 => ?_)
              try simp only [Act.put]
              refine take_h 4 ?_ rfl (by kernel_rfl) (by kernel_rfl) (by kernel_rfl) (fun _ _ _ h => h) (Or.inl ⟨by kernel_rfl, ?_⟩) (by assumption) ?_
              rotate_left
              · (intro w hSw; (try dsimp only at hSw); go_simp; try (with_reducible rfl))
              try simp only [Act.put, List.setIfInBounds_toArray, List.set_cons_zero, List.set_cons_succ]
              refine wpAnyH_done (by kernel_rfl) ?_ _
              clear hHeld hHeld2
              go_wp2
              refine bodyPost_ret (results_mid (fn := Tryz.f16) rfl _ _ (w.heap.size + 1 + 1) 44 SX.toArray (0, 0) _ _ _ rfl rfl rfl (setRow_heap _ _ _ _ _ _ HZ.out.rs) Tryz.underlying44 rfl (by simpa using iX)) rfl ?_
              exact ⟨av, cv, by rw [HR.out, HSX.out.1]; rfl, ⟨by
                rw [HR.out]
                exact KO1.out.at.other _ (fun g o e => by have := KO2.out g o e; omega)⟩, below_row HZ.out.bel (by omega) _⟩
end Frk
