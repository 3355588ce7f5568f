/- The law OnetimeBound, walked. -/
import Derived.Test.YtcioeedlfbioaaaDoorSao
import Derived.Test.YtcioeedlfbioaaaDoorRus
namespace Frk
open Go Go.RowKit Go.Proofs
set_option maxRecDepth 100000

theorem chk_tag {L K P Q : Int} {T : Bytes} (h : chkB L K P Q T = true) : rtag L K P Q = T := by
  unfold chkB at h
  simp only [Bool.and_eq_true, beq_iff_eq] at h
  exact h.2.symm
theorem ok4 {L K P Q : Int} (hL : I64 L) (hK : I64 K) (hP : I64 P) (hQ : I64 Q) : ∀ n ∈ [L, K, P, Q], -9223372036854775808 ≤ n ∧ n ≤ 9223372036854775807 := by
  intro n hn
  simp only [List.mem_cons, List.not_mem_nil, or_false] at hn
  rcases hn with rfl | rfl | rfl | rfl
  · exact hL
  · exact hK
  · exact hP
  · exact hQ

theorem fold_lay_off (k : Nat) : ∀ (L : List Value) (j : Nat) (Z : List Value), k + j + L.length ≤ Z.length → (L.zipIdx j).foldl (fun cs x => cs.setIfInBounds (k + x.2) x.1) Z.toArray = (lay Z (k + j) L).toArray
  | [], j, Z, _ => by rw [lay_nil]; rfl
  | v :: L, j, Z, h => by
    have hk : k + j < Z.length := by simp at h; omega
    rw [List.zipIdx_cons, List.foldl_cons, List.setIfInBounds_toArray, fold_lay_off k L (j + 1) (Z.set (k + j) v) (by simp at h ⊢; omega), ← Nat.add_assoc, lay_cons hk]

theorem fold_ret (L K P Q : Int) {T : Bytes} (hT : T.length = 32) : List.foldl (fun (cs : Array Value) (x : Value × Nat) => cs.setIfInBounds (4 + x.2) x.1) (List.toArray (.int .i64 L :: .int .i64 K :: .int .i64 P :: .int .i64 Q :: .int .u8 0 :: .int .u8 0 :: .int .u8 0 :: .int .u8 0 :: .int .u8 0 :: .int .u8 0 :: .int .u8 0 :: .int .u8 0 :: .int .u8 0 :: .int .u8 0 :: .int .u8 0 :: .int .u8 0 :: .int .u8 0 :: .int .u8 0 :: .int .u8 0 :: .int .u8 0 :: .int .u8 0 :: .int .u8 0 :: .int .u8 0 :: .int .u8 0 :: .int .u8 0 :: .int .u8 0 :: .int .u8 0 :: .int .u8 0 :: .int .u8 0 :: .int .u8 0 :: .int .u8 0 :: .int .u8 0 :: .int .u8 0 :: .int .u8 0 :: .int .u8 0 :: .int .u8 0 :: []) : Array Value) (T.map B).zipIdx = (retC L K P Q T).toArray := by
  have := fold_lay_off 4 (T.map B) 0 (retC L K P Q zb32) (by rw [retC_len zb32_len, List.length_map, hT]; decide)
  rw [Nat.add_zero, lay_retC zb32_len hT] at this
  exact this

set_option maxHeartbeats 4000000 in
theorem law_onetimeBound_bad (L K P Q : Int) (T : Bytes) (line key A D : Int) (t : Bool) (w : World) (hG : Glob w) (hL : I64 L) (hK : I64 K) (hP : I64 P) (hQ : I64 Q) (hT : T.length = 32) (ht : chkB L K P Q T = t) (_h1 : I64 line) (_h2 : I64 key) (_h3 : I64 A) (_h4 : I64 D) (h0 : t = false) :
    Calls Tryd.prog 7 #[.agg (retC L K P Q T).toArray, .int .i64 line, .int .i64 key, .agg #[.int .i64 A, .int .i64 D]] w fun e w' => e = .returned (.bool true) ∧ Below w.heap.size w w' := by
  obtain ⟨C, hC⟩ : ∃ C, C = retC L K P Q T := ⟨_, rfl⟩
  obtain ⟨Z, hZ⟩ : ∃ Z, Z = retC line key A D T := ⟨_, rfl⟩
  have cl : C.length = 36 := by rw [hC]; exact retC_len hT
  have zl : Z.length = 36 := by rw [hZ]; exact retC_len hT
  have ir : (Tryd.prog.info? 27).map (·.size) = some 36 := by kernel_rfl
  have HE1 : Seal (Env ((w.alloc (.cells C.toArray 27)).alloc (.cells #[.int .i64 A, .int .i64 D] 23)) none 0 0 [] [((w.alloc (.cells C.toArray 27)).heap.size, .cells #[.int .i64 A, .int .i64 D] 23), (w.heap.size, .cells C.toArray 27)]) := ⟨Env.push (Env.push (bs := []) ⟨hG, isB_nil w, by intro p hp; cases hp⟩ _) _⟩
  rw [size_alloc] at HE1
  have HB1 : Seal (Below w.heap.size w ((w.alloc (.cells C.toArray 27)).alloc (.cells #[.int .i64 A, .int .i64 D] 23))) := ⟨(below_alloc _ _).alloc (by simp) _⟩
  have HC2 : Seal (∀ W, Glob W → Calls Tryd.prog 16 #[.agg C.toArray] W fun e w' => e = .returned (.int .i64 (if t = true then 0 else 160)) ∧ Below W.heap.size W w') := ⟨fun W h => by rw [hC]; exact rocheck_any L K P Q T t W h hL hK hP hQ hT ht⟩
  have IC : Seal ((Tryd.prog.info? 27).map (·.size) = some C.length) := ⟨by rw [cl]; exact ir⟩
  have IZ : Seal ((Tryd.prog.info? 27).map (·.size) = some Z.length) := ⟨by rw [zl]; exact ir⟩
  have LZ : Seal (((.int .i64 0 :: .int .i64 0 :: .int .i64 0 :: .int .i64 0 :: .int .u8 0 :: .int .u8 0 :: .int .u8 0 :: .int .u8 0 :: .int .u8 0 :: .int .u8 0 :: .int .u8 0 :: .int .u8 0 :: .int .u8 0 :: .int .u8 0 :: .int .u8 0 :: .int .u8 0 :: .int .u8 0 :: .int .u8 0 :: .int .u8 0 :: .int .u8 0 :: .int .u8 0 :: .int .u8 0 :: .int .u8 0 :: .int .u8 0 :: .int .u8 0 :: .int .u8 0 :: .int .u8 0 :: .int .u8 0 :: .int .u8 0 :: .int .u8 0 :: .int .u8 0 :: .int .u8 0 :: .int .u8 0 :: .int .u8 0 :: .int .u8 0 :: .int .u8 0 :: [] : List Value)).length = Z.length) := ⟨by rw [zl]; rfl⟩
  have OZ : Seal (∀ u ∈ Z, u.oneCell' = true) := ⟨by rw [hZ]; exact retC_one _ _ _ _ _⟩
  have HZ := Seal.mk hZ
  have HCq := Seal.mk hC
  have HT := Seal.mk hT
  have IC2 : Seal ((Tryd.prog.info? 27).map (·.size) = some C.toArray.size) := ⟨by rw [List.size_toArray]; exact IC.out⟩
  rw [← hC]
  clear hG hC hZ cl zl ir
  go_enter Tryd.func7, Tryd.ntmps7
  go_wp2_with fail
  refine (osane_any _ HE1.out.glob).mono ?_
  rintro e w2 ⟨rfl, hb⟩
  have HE2 := Seal.mk (HE1.out.below hb)
  have HB2 := Seal.mk (HB1.out.trans (hb.mono HB1.out.size))
  clear hb HE1 HB1
  have RC2 := Seal.mk (HE2.out.keep (w.heap.size, .cells C.toArray 27) (by simp))
  go_wp2_with (refine wpList_load_row rfl 27 (.tmp 4) rfl w.heap.size rfl 27 C.toArray (0, 0) _ RC2.out Tryd.underlying27 rfl IC2.out ?_)
  refine (HC2.out _ HE2.out.glob).mono ?_
  rintro e w3 ⟨rfl, hb⟩
  have HE3 := Seal.mk (HE2.out.below hb)
  have HB3 := Seal.mk (HB2.out.trans (hb.mono HB2.out.size))
  clear hb HE2 HB2 RC2
  subst h0
  go_wp2
  go_ret
  exact ⟨rfl, HB3.out⟩
set_option maxHeartbeats 4000000 in
theorem law_onetimeBound_good (L K P Q : Int) (T : Bytes) (line key A D : Int) (t : Bool) (w : World) (hG : Glob w) (hL : I64 L) (hK : I64 K) (hP : I64 P) (hQ : I64 Q) (hT : T.length = 32) (ht : chkB L K P Q T = t) (_h1 : I64 line) (_h2 : I64 key) (_h3 : I64 A) (_h4 : I64 D) (h0 : t = true) :
    Calls Tryd.prog 7 #[.agg (retC L K P Q T).toArray, .int .i64 line, .int .i64 key, .agg #[.int .i64 A, .int .i64 D]] w fun e w' => e = .returned (.bool true) ∧ Below w.heap.size w w' := by
  obtain ⟨C, hC⟩ : ∃ C, C = retC L K P Q T := ⟨_, rfl⟩
  obtain ⟨Z, hZ⟩ : ∃ Z, Z = retC line key A D T := ⟨_, rfl⟩
  have cl : C.length = 36 := by rw [hC]; exact retC_len hT
  have zl : Z.length = 36 := by rw [hZ]; exact retC_len hT
  have ir : (Tryd.prog.info? 27).map (·.size) = some 36 := by kernel_rfl
  have HE1 : Seal (Env ((w.alloc (.cells C.toArray 27)).alloc (.cells #[.int .i64 A, .int .i64 D] 23)) none 0 0 [] [((w.alloc (.cells C.toArray 27)).heap.size, .cells #[.int .i64 A, .int .i64 D] 23), (w.heap.size, .cells C.toArray 27)]) := ⟨Env.push (Env.push (bs := []) ⟨hG, isB_nil w, by intro p hp; cases hp⟩ _) _⟩
  rw [size_alloc] at HE1
  have HB1 : Seal (Below w.heap.size w ((w.alloc (.cells C.toArray 27)).alloc (.cells #[.int .i64 A, .int .i64 D] 23))) := ⟨(below_alloc _ _).alloc (by simp) _⟩
  have HC2 : Seal (∀ W, Glob W → Calls Tryd.prog 16 #[.agg C.toArray] W fun e w' => e = .returned (.int .i64 (if t = true then 0 else 160)) ∧ Below W.heap.size W w') := ⟨fun W h => by rw [hC]; exact rocheck_any L K P Q T t W h hL hK hP hQ hT ht⟩
  have IC : Seal ((Tryd.prog.info? 27).map (·.size) = some C.length) := ⟨by rw [cl]; exact ir⟩
  have IZ : Seal ((Tryd.prog.info? 27).map (·.size) = some Z.length) := ⟨by rw [zl]; exact ir⟩
  have LZ : Seal (((.int .i64 0 :: .int .i64 0 :: .int .i64 0 :: .int .i64 0 :: .int .u8 0 :: .int .u8 0 :: .int .u8 0 :: .int .u8 0 :: .int .u8 0 :: .int .u8 0 :: .int .u8 0 :: .int .u8 0 :: .int .u8 0 :: .int .u8 0 :: .int .u8 0 :: .int .u8 0 :: .int .u8 0 :: .int .u8 0 :: .int .u8 0 :: .int .u8 0 :: .int .u8 0 :: .int .u8 0 :: .int .u8 0 :: .int .u8 0 :: .int .u8 0 :: .int .u8 0 :: .int .u8 0 :: .int .u8 0 :: .int .u8 0 :: .int .u8 0 :: .int .u8 0 :: .int .u8 0 :: .int .u8 0 :: .int .u8 0 :: .int .u8 0 :: .int .u8 0 :: [] : List Value)).length = Z.length) := ⟨by rw [zl]; rfl⟩
  have OZ : Seal (∀ u ∈ Z, u.oneCell' = true) := ⟨by rw [hZ]; exact retC_one _ _ _ _ _⟩
  have HZ := Seal.mk hZ
  have HCq := Seal.mk hC
  have HT := Seal.mk hT
  have IC2 : Seal ((Tryd.prog.info? 27).map (·.size) = some C.toArray.size) := ⟨by rw [List.size_toArray]; exact IC.out⟩
  rw [← hC]
  clear hG hC hZ cl zl ir
  go_enter Tryd.func7, Tryd.ntmps7
  go_wp2_with fail
  refine (osane_any _ HE1.out.glob).mono ?_
  rintro e w2 ⟨rfl, hb⟩
  have HE2 := Seal.mk (HE1.out.below hb)
  have HB2 := Seal.mk (HB1.out.trans (hb.mono HB1.out.size))
  clear hb HE1 HB1
  have RC2 := Seal.mk (HE2.out.keep (w.heap.size, .cells C.toArray 27) (by simp))
  go_wp2_with (refine wpList_load_row rfl 27 (.tmp 4) rfl w.heap.size rfl 27 C.toArray (0, 0) _ RC2.out Tryd.underlying27 rfl IC2.out ?_)
  refine (HC2.out _ HE2.out.glob).mono ?_
  rintro e w3 ⟨rfl, hb⟩
  have HE3 := Seal.mk (HE2.out.below hb)
  have HB3 := Seal.mk (HB2.out.trans (hb.mono HB2.out.size))
  clear hb HE2 HB2 RC2
  subst h0
  have RC3 := Seal.mk (HE3.out.keep (w.heap.size, .cells C.toArray 27) (by simp))
  have rd : w3.rangeAt w.heap.size 4 (T.map B) := by
    have := rangeAt_drop (rangeAt_row RC3.out) 4
    rw [HCq.out] at this
    simpa [retC] using this
  have k0 := HE3.out.cell (g := w.heap.size + 1) (i := 0) (cs := #[.int .i64 A, .int .i64 D]) (t := 23) (by simp) rfl
  have k1 := HE3.out.cell (g := w.heap.size + 1) (i := 1) (cs := #[.int .i64 A, .int .i64 D]) (t := 23) (by simp) rfl
  have i1 := dg_info T HT.out
  have hfold := fold_ret line key A D HT.out
  rw [← HZ.out] at hfold
  have HE4 := Seal.mk (HE3.out.push (.cells Z.toArray 27))
  have HB4 := Seal.mk (HB3.out.alloc HB3.out.size (.cells Z.toArray 27))
  have RZ4 := Seal.mk (HE4.out.keep (w3.heap.size, .cells Z.toArray 27) (by simp))
  have RC4 := Seal.mk (HE4.out.keep (w.heap.size, .cells C.toArray 27) (by simp))
  have IZ2 : Seal ((Tryd.prog.info? 27).map (·.size) = some Z.toArray.size) := ⟨by rw [List.size_toArray]; exact IZ.out⟩
  obtain ⟨q, hq⟩ : ∃ q, (line == L && (key == K && ((A == P && D == Q) && T == T))) = q := ⟨_, rfl⟩
  have heq : ∀ W, (Op.equalIn 10000 27 (.agg Z.toArray) (.agg C.toArray)).run Tryd.prog W = .ok q W := fun W => by rw [HZ.out, HCq.out, eqRet _ _ _ _ _ _ _ _ _ _ HT.out HT.out W, hq]
  have HQ := Seal.mk hq
  clear hq
  cases q
  · obtain ⟨z, hz⟩ : ∃ z, chkB line key A D T = z := ⟨_, rfl⟩
    have HC1 : Seal (∀ W, Glob W → Calls Tryd.prog 15 #[.agg Z.toArray] W fun e w' => e = .returned (.int .i64 (if z = true then 0 else 160)) ∧ Below W.heap.size W w') := ⟨fun W h => by rw [HZ.out]; exact ocheck_any line key A D T z W h _h1 _h2 _h3 _h4 hT hz⟩
    have HT1 : Seal (∀ W : World, Glob W → Calls Tryd.prog 27 #[.agg Z.toArray] W fun e w' => e = .returned (.agg ((rtag line key A D).map B).toArray) ∧ Below W.heap.size W w') := ⟨fun W h => by rw [HZ.out]; exact rtag_any line key A D _ W h (ok4 _h1 _h2 _h3 _h4) (retC_head _ _ _ _ _) ⟨retC_info hT⟩ ⟨retC_len hT⟩ ⟨retC_one _ _ _ _ _⟩⟩
    have HT2 : Seal (∀ W : World, Glob W → Calls Tryd.prog 27 #[.agg C.toArray] W fun e w' => e = .returned (.agg ((rtag L K P Q).map B).toArray) ∧ Below W.heap.size W w') := ⟨fun W h => by rw [HCq.out]; exact rtag_any L K P Q _ W h (ok4 hL hK hP hQ) (retC_head _ _ _ _ _) ⟨retC_info hT⟩ ⟨retC_len hT⟩ ⟨retC_one _ _ _ _ _⟩⟩
    have HTX : Seal (rtag L K P Q = T) := ⟨chk_tag ht⟩
    have HTZ : Seal (z = true → rtag line key A D = T) := ⟨fun h => by subst h; exact chk_tag hz⟩
    have heqT : ∀ W, (Op.equalIn 10000 25 (.agg (T.map B).toArray) (.agg (T.map B).toArray)).run Tryd.prog W = .ok true W := fun W => by rw [eqDig _ _ hT hT W]; simp
    clear HQ hz
    go_wp2_with (first | (refine wpList_load_mid rfl 25 (.tmp 18) rfl w.heap.size 4 rfl (T.map B) _ rd Tryd.underlying25 rfl i1 ?_) | (refine wpList_store_new rfl 27 (.tmp 9) (.tmp 20) rfl (.int .i64 0 :: .int .i64 0 :: .int .i64 0 :: .int .i64 0 :: .int .u8 0 :: .int .u8 0 :: .int .u8 0 :: .int .u8 0 :: .int .u8 0 :: .int .u8 0 :: .int .u8 0 :: .int .u8 0 :: .int .u8 0 :: .int .u8 0 :: .int .u8 0 :: .int .u8 0 :: .int .u8 0 :: .int .u8 0 :: .int .u8 0 :: .int .u8 0 :: .int .u8 0 :: .int .u8 0 :: .int .u8 0 :: .int .u8 0 :: .int .u8 0 :: .int .u8 0 :: .int .u8 0 :: .int .u8 0 :: .int .u8 0 :: .int .u8 0 :: .int .u8 0 :: .int .u8 0 :: .int .u8 0 :: .int .u8 0 :: .int .u8 0 :: .int .u8 0 :: [] : List Value) Z 27 rfl rfl IZ.out LZ.out OZ.out ?_) | (with_reducible refine wpList_load_row rfl 27 (.tmp 9) rfl w3.heap.size rfl 27 Z.toArray (0, 0) _ RZ4.out Tryd.underlying27 rfl IZ2.out ?_) | (with_reducible refine wpList_load_row rfl 27 (.tmp 4) rfl w.heap.size rfl 27 C.toArray (0, 0) _ RC4.out Tryd.underlying27 rfl IC2.out ?_))
    obtain ⟨Y, hY⟩ : ∃ Y, Y = w3.alloc (.cells Z.toArray 27) := ⟨_, rfl⟩
    rw [← hY] at HE4 HB4 RZ4 RC4 ⊢
    clear hY
    have r1 : Y.rangeAt w3.heap.size 0 Z := rangeAt_row RZ4.out
    have r2 : Y.rangeAt w.heap.size 0 C := rangeAt_row RC4.out
    have i3 := IZ.out
    have i4 := IC.out
    have ut := Tryd.underlying27
    have HG : Seal (Glob Y) := ⟨HE4.out.glob⟩
    clear heq hfold rd k0 k1 i1 HE4 RZ4 RC4 IC2 IZ2 RC3 HE3
    refine wp_region_held_drew (S := fun w' => w'.rangeAt w3.heap.size 0 Z ∧ w'.rangeAt w.heap.size 0 C) (by kernel_rfl) ⟨r1, r2⟩ (fun hHeld => ?_)
    refine take_h 0 _ rfl (by kernel_rfl) (by kernel_rfl) (by kernel_rfl) (fun _ _ _ h => h) (yieldsIf_load_mid (by kernel_rfl) 27 (.tmp 9) rfl w3.heap.size 0 rfl Z _ (fun w hSw => hSw.1) ut rfl i3) (by assumption) ?_
    try simp only [Act.put, List.setIfInBounds_toArray, List.set_cons_zero, List.set_cons_succ]
    refine call_h 1 rfl (by kernel_rfl) 15 #[.agg Z.toArray] (by kernel_rfl) (by go_simp) ?_
    refine (HC1.out Y.drew ⟨HG.out.start, HG.out.nums⟩).mono ?_
    rintro e w5 ⟨rfl, hb⟩
    have hb2 : Below Y.heap.size Y w5 := ⟨hb.os, hb.tape, hb.output, hb.size, hb.block⟩
    have HB5 : Seal (Below w.heap.size w w5) := ⟨HB4.out.trans (hb2.mono HB4.out.size)⟩
    have HG5 : Seal (Glob w5) := ⟨HG.out.below hb2⟩
    refine ⟨_, rfl, ⟨rangeAt_below' r1 hb2, rangeAt_below' r2 hb2⟩, fun hHeld2 => ?_⟩
    clear hHeld hb hb2 r1 r2
    try simp only [Act.put, List.setIfInBounds_toArray, List.set_cons_zero, List.set_cons_succ]
    cases z
    · skip
      refine take_h 2 ?_ rfl (by kernel_rfl) (by kernel_rfl) (by kernel_rfl) (fun _ _ _ h => h) (Or.inl ⟨by kernel_rfl, ?_⟩) (by assumption) ?_
      rotate_left
      · (intro w hSw; (try dsimp only at hSw); go_simp; try (with_reducible rfl))
      try simp only [Act.put, List.setIfInBounds_toArray, List.set_cons_zero, List.set_cons_succ]
      refine take_h 3 ?_ rfl (by kernel_rfl) (by kernel_rfl) (by kernel_rfl) (fun _ _ _ h => h) (Or.inl ⟨by kernel_rfl, ?_⟩) (by assumption) ?_
      rotate_left
      · (intro w hSw; (try dsimp only at hSw); go_simp; try (with_reducible rfl))
      try simp only [Act.put, List.setIfInBounds_toArray, List.set_cons_zero, List.set_cons_succ]
      refine take_h 4 undef rfl (by kernel_rfl) (by kernel_rfl) (by kernel_rfl) (fun _ _ _ h => h) (Or.inr ⟨by kernel_rfl, rfl⟩) (by assumption) ?_
      try simp only [Act.put, List.setIfInBounds_toArray, List.set_cons_zero, List.set_cons_succ]
      refine take_h 5 undef rfl (by kernel_rfl) (by kernel_rfl) (by kernel_rfl) (fun _ _ _ h => h) (Or.inr ⟨by kernel_rfl, rfl⟩) (by assumption) ?_
      try simp only [Act.put, List.setIfInBounds_toArray, List.set_cons_zero, List.set_cons_succ]
      refine take_h 6 undef rfl (by kernel_rfl) (by kernel_rfl) (by kernel_rfl) (fun _ _ _ h => h) (Or.inr ⟨by kernel_rfl, rfl⟩) (by assumption) ?_
      try simp only [Act.put, List.setIfInBounds_toArray, List.set_cons_zero, List.set_cons_succ]
      refine take_h 7 undef rfl (by kernel_rfl) (by kernel_rfl) (by kernel_rfl) (fun _ _ _ h => h) (Or.inr ⟨by kernel_rfl, rfl⟩) (by assumption) ?_
      try simp only [Act.put, List.setIfInBounds_toArray, List.set_cons_zero, List.set_cons_succ]
      refine take_h 8 undef rfl (by kernel_rfl) (by kernel_rfl) (by kernel_rfl) (fun _ _ _ h => h) (Or.inr ⟨by kernel_rfl, rfl⟩) (by assumption) ?_
      try simp only [Act.put, List.setIfInBounds_toArray, List.set_cons_zero, List.set_cons_succ]
      refine take_h 9 ?_ rfl (by kernel_rfl) (by kernel_rfl) (by kernel_rfl) (fun _ _ _ h => h) (Or.inl ⟨by kernel_rfl, ?_⟩) (by assumption) ?_
      rotate_left
      · (intro w hSw; (try dsimp only at hSw); go_simp; try (with_reducible rfl))
      try simp only [Act.put, List.setIfInBounds_toArray, List.set_cons_zero, List.set_cons_succ]
      refine take_h 10 ?_ rfl (by kernel_rfl) (by kernel_rfl) (by kernel_rfl) (fun _ _ _ h => h) (Or.inl ⟨by kernel_rfl, ?_⟩) (by assumption) ?_
      rotate_left
      · (intro w hSw; (try dsimp only at hSw); go_simp; try (with_reducible rfl))
      try simp only [Act.put, List.setIfInBounds_toArray, List.set_cons_zero, List.set_cons_succ]
      refine wpAnyH_done (by kernel_rfl) ?_ _
      clear hHeld2
      go_wp2
      go_ret
      exact ⟨rfl, HB5.out⟩
    · have HTZ' := HTZ.out rfl
      rw [HTZ'] at HT1
      rw [HTX.out] at HT2
      clear HTZ HTZ'
      refine take_h 2 ?_ rfl (by kernel_rfl) (by kernel_rfl) (by kernel_rfl) (fun _ _ _ h => h) (Or.inl ⟨by kernel_rfl, ?_⟩) (by assumption) ?_
      rotate_left
      · (intro w hSw; (try dsimp only at hSw); go_simp; try (with_reducible rfl))
      try simp only [Act.put, List.setIfInBounds_toArray, List.set_cons_zero, List.set_cons_succ]
      refine take_h 3 ?_ rfl (by kernel_rfl) (by kernel_rfl) (by kernel_rfl) (fun _ _ _ h => h) (Or.inl ⟨by kernel_rfl, ?_⟩) (by assumption) ?_
      rotate_left
      · (intro w hSw; (try dsimp only at hSw); go_simp; try (with_reducible rfl))
      try simp only [Act.put, List.setIfInBounds_toArray, List.set_cons_zero, List.set_cons_succ]
      refine take_h 4 _ rfl (by kernel_rfl) (by kernel_rfl) (by kernel_rfl) (fun _ _ _ h => h) (yieldsIf_load_mid (by kernel_rfl) 27 (.tmp 9) rfl w3.heap.size 0 rfl Z _ (fun w hSw => hSw.1) ut rfl i3) (by assumption) ?_
      try simp only [Act.put, List.setIfInBounds_toArray, List.set_cons_zero, List.set_cons_succ]
      refine take_h 6 _ rfl (by kernel_rfl) (by kernel_rfl) (by kernel_rfl) (fun _ _ _ h => h) (yieldsIf_load_mid (by kernel_rfl) 27 (.tmp 4) rfl w.heap.size 0 rfl C _ (fun w hSw => hSw.2) ut rfl i4) (by assumption) ?_
      try simp only [Act.put, List.setIfInBounds_toArray, List.set_cons_zero, List.set_cons_succ]
      refine call_h 5 rfl (by kernel_rfl) 27 #[.agg Z.toArray] (by kernel_rfl) (by go_simp) ?_
      refine (HT1.out w5 HG5.out).mono ?_
      rintro e w6 ⟨rfl, hb⟩
      have HB6 : Seal (Below w.heap.size w w6) := ⟨HB5.out.trans (hb.mono HB5.out.size)⟩
      have HG6 : Seal (Glob w6) := ⟨HG5.out.below hb⟩
      refine ⟨_, rfl, ⟨rangeAt_below' hHeld2.1 hb, rangeAt_below' hHeld2.2 hb⟩, fun hHeld3 => ?_⟩
      clear hHeld2 hb
      try simp only [Act.put, List.setIfInBounds_toArray, List.set_cons_zero, List.set_cons_succ]
      refine call_h 7 rfl (by kernel_rfl) 27 #[.agg C.toArray] (by kernel_rfl) (by go_simp) ?_
      refine (HT2.out w6 HG6.out).mono ?_
      rintro e w7 ⟨rfl, hb⟩
      have HB7 : Seal (Below w.heap.size w w7) := ⟨HB6.out.trans (hb.mono HB6.out.size)⟩
      refine ⟨_, rfl, ⟨rangeAt_below' hHeld3.1 hb, rangeAt_below' hHeld3.2 hb⟩, fun hHeld4 => ?_⟩
      clear hHeld3 hb
      try simp only [Act.put, List.setIfInBounds_toArray, List.set_cons_zero, List.set_cons_succ]
      refine take_h 8 ?_ rfl (by kernel_rfl) (by kernel_rfl) (by kernel_rfl) (fun _ _ _ h => h) (Or.inl ⟨by kernel_rfl, ?_⟩) (by assumption) ?_
      rotate_left
      · (intro w hSw; (try dsimp only at hSw); go_simp; try (with_reducible rfl))
      try simp only [Act.put, List.setIfInBounds_toArray, List.set_cons_zero, List.set_cons_succ]
      refine take_h 9 ?_ rfl (by kernel_rfl) (by kernel_rfl) (by kernel_rfl) (fun _ _ _ h => h) (Or.inl ⟨by kernel_rfl, ?_⟩) (by assumption) ?_
      rotate_left
      · (intro w hSw; (try dsimp only at hSw); go_simp; try (with_reducible rfl))
      try simp only [Act.put, List.setIfInBounds_toArray, List.set_cons_zero, List.set_cons_succ]
      refine take_h 10 ?_ rfl (by kernel_rfl) (by kernel_rfl) (by kernel_rfl) (fun _ _ _ h => h) (Or.inl ⟨by kernel_rfl, ?_⟩) (by assumption) ?_
      rotate_left
      · (intro w hSw; (try dsimp only at hSw); go_simp; try (with_reducible rfl))
      try simp only [Act.put, List.setIfInBounds_toArray, List.set_cons_zero, List.set_cons_succ]
      refine wpAnyH_done (by kernel_rfl) ?_ _
      clear hHeld4
      go_wp2
      go_ret
      exact ⟨rfl, HB7.out⟩
  · have HZC : Seal (Z = C) := ⟨by
      have h := HQ.out
      simp only [Bool.and_eq_true, beq_iff_eq] at h
      obtain ⟨h1, h2, ⟨h3, h4⟩, _⟩ := h
      rw [HZ.out, HCq.out, h1, h2, h3, h4]⟩
    have HC1 : Seal (∀ W, Glob W → Calls Tryd.prog 15 #[.agg Z.toArray] W fun e w' => e = .returned (.int .i64 0) ∧ Below W.heap.size W w') := ⟨fun W h => by rw [HZC.out, HCq.out]; exact ocheck_any L K P Q T true W h hL hK hP hQ hT ht⟩
    clear HQ
    go_wp2_with (first | (refine wpList_load_mid rfl 25 (.tmp 18) rfl w.heap.size 4 rfl (T.map B) _ rd Tryd.underlying25 rfl i1 ?_) | (refine wpList_store_new rfl 27 (.tmp 9) (.tmp 20) rfl (.int .i64 0 :: .int .i64 0 :: .int .i64 0 :: .int .i64 0 :: .int .u8 0 :: .int .u8 0 :: .int .u8 0 :: .int .u8 0 :: .int .u8 0 :: .int .u8 0 :: .int .u8 0 :: .int .u8 0 :: .int .u8 0 :: .int .u8 0 :: .int .u8 0 :: .int .u8 0 :: .int .u8 0 :: .int .u8 0 :: .int .u8 0 :: .int .u8 0 :: .int .u8 0 :: .int .u8 0 :: .int .u8 0 :: .int .u8 0 :: .int .u8 0 :: .int .u8 0 :: .int .u8 0 :: .int .u8 0 :: .int .u8 0 :: .int .u8 0 :: .int .u8 0 :: .int .u8 0 :: .int .u8 0 :: .int .u8 0 :: .int .u8 0 :: .int .u8 0 :: [] : List Value) Z 27 rfl rfl IZ.out LZ.out OZ.out ?_) | (with_reducible refine wpList_load_row rfl 27 (.tmp 9) rfl w3.heap.size rfl 27 Z.toArray (0, 0) _ RZ4.out Tryd.underlying27 rfl IZ2.out ?_) | (with_reducible refine wpList_load_row rfl 27 (.tmp 4) rfl w.heap.size rfl 27 C.toArray (0, 0) _ RC4.out Tryd.underlying27 rfl IC2.out ?_))
    refine (HC1.out _ HE4.out.glob).mono ?_
    rintro e w5 ⟨rfl, hb⟩
    have HB5 := Seal.mk (HB4.out.trans (hb.mono HB4.out.size))
    go_wp2
    go_ret
    exact ⟨rfl, HB5.out⟩

theorem law_onetimeBound (L K P Q : Int) (T : Bytes) (line key A D : Int) (w : World) (hG : Glob w) (hL : I64 L) (hK : I64 K) (hP : I64 P) (hQ : I64 Q) (hT : T.length = 32) (h1 : I64 line) (h2 : I64 key) (h3 : I64 A) (h4 : I64 D) :
    Calls Tryd.prog 7 #[.agg (retC L K P Q T).toArray, .int .i64 line, .int .i64 key, .agg #[.int .i64 A, .int .i64 D]] w fun e w' => e = .returned (.bool true) ∧ Below w.heap.size w w' := by
  cases ht : chkB L K P Q T with
  | false => exact law_onetimeBound_bad L K P Q T line key A D false w hG hL hK hP hQ hT ht h1 h2 h3 h4 rfl
  | true => exact law_onetimeBound_good L K P Q T line key A D true w hG hL hK hP hQ hT ht h1 h2 h3 h4 rfl
end Frk
