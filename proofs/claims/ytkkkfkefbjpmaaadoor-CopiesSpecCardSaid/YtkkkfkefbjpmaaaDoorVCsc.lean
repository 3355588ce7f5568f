/- The statement CopiesSpec of frankinglaw51 holds: for every input the law returns true, and each argument reads afterwards as it read before. Conditions: those of the row (the listed variables start as the program's text lays them; the card ties them). -/
import Derived.Test.YtkkkfkefbjpmaaaDoorVCxc
import Derived.Test.YtkkkfkefbjpmaaaDoorVHop
import Derived.Test.YtkkkfkefbjpmaaaDoorVCxa
import Derived.Deep.Cut
import Derived.Test.YtkkkfkefbjpmaaaDoorHol
namespace Frk
open Go Go.RowKit Go.Proofs
set_option maxRecDepth 100000

set_option maxHeartbeats 4000000 in
theorem spec51_many (n c kn kc : Nat) (a ka : Option Addr) (key : Int) (x y : Hd) (w : World) (hG : Glob w) (hn : ¬ (kn ≤ 30 ∧ n ≤ 16)) (kx : x.ok) (ky : y.ok) :
    Calls Tryd.prog 8 #[.slice ka kn kc, .slice a n c, .int .i64 key, .agg x.C.toArray, .agg y.C.toArray] w fun e w' => e = .returned (.bool true) ∧ Below w.heap.size w w' := by
  have HFew : Seal ((decide (kn ≤ 30) && decide (n ≤ 16)) = false) := ⟨by rw [Bool.and_eq_false_iff, decide_eq_false_iff_not, decide_eq_false_iff_not]; omega⟩
  obtain ⟨CA, hCA⟩ : ∃ C, C = x.C := ⟨_, rfl⟩
  obtain ⟨CB, hCB⟩ : ∃ C, C = y.C := ⟨_, rfl⟩
  have lA : CA.length = 42 := by rw [hCA]; exact Hd.C_len kx.t32
  have lB : CB.length = 42 := by rw [hCB]; exact Hd.C_len ky.t32
  have iA : (Tryd.prog.info? 29).map (·.size) = some CA.length := by rw [hCA]; exact Hd.C_info kx.t32
  have iB : (Tryd.prog.info? 29).map (·.size) = some CB.length := by rw [hCB]; exact Hd.C_info ky.t32
  obtain ⟨X, hX⟩ : ∃ X : World, X = (w.alloc (.cells CA.toArray 29)).alloc (.cells CB.toArray 29) := ⟨_, rfl⟩
  have HB : Seal (Below w.heap.size w X) := ⟨by rw [hX]; exact ((Below.refl _ w).alloc (Nat.le_refl _) _).alloc (by simp) _⟩
  have HE : Seal (Env X none 0 0 [] [(w.heap.size + 1, .cells CB.toArray 29), (w.heap.size, .cells CA.toArray 29)]) := ⟨⟨hG.below HB.out, isB_nil X, by
    intro q hq
    simp only [List.mem_cons, List.not_mem_nil, or_false] at hq
    rcases hq with rfl | rfl
    · rw [hX]; exact heap_alloc2_new w _ _
    · rw [hX]; exact heap_alloc2_old w _ _⟩⟩
  rw [← hCA, ← hCB]
  clear hG hn kx ky hCA hCB iA iB lA lB
  go_enter Tryd.func8, Tryd.ntmps8
  go_upto_region 1 with (fail)
  rw [← hX]
  clear hX
  go_wp2_with fail
  refine (sane51_any X HE.out.glob).mono ?_
  rintro e w1 ⟨rfl, hb⟩
  have HB2 := Seal.mk (HB.out.trans (hb.mono HB.out.size))
  clear hb HB HE
  go_wp2_with fail
  refine (rfew_any a ka n c kn kc _ w1 HFew.out).mono ?_
  rintro e w2 ⟨rfl, rfl⟩
  go_wp2
  go_ret
  exact ⟨rfl, HB2.out⟩

set_option maxHeartbeats 8000000 in
theorem spec51_few (n c kn kc : Nat) (a ka : Option Addr) (l : List Hd) (ks : List Int) (key : Int) (x y : Hd) (w : World) (hG : Glob w) (hl : IsHs w a n c l) (hk : IsKs w ka kn kc ks) (hn : kn ≤ 30 ∧ n ≤ 16) (kx : x.ok) (ky : y.ok) :
    Calls Tryd.prog 8 #[.slice ka kn kc, .slice a n c, .int .i64 key, .agg x.C.toArray, .agg y.C.toArray] w fun e w' => e = .returned (.bool true) ∧ Below w.heap.size w w' := by
  have HFew : Seal ((decide (kn ≤ 30) && decide (n ≤ 16)) = true) := ⟨by rw [Bool.and_eq_true, decide_eq_true_eq, decide_eq_true_eq]; exact hn⟩
  obtain ⟨CA, hCA⟩ : ∃ C, C = x.C := ⟨_, rfl⟩
  obtain ⟨CB, hCB⟩ : ∃ C, C = y.C := ⟨_, rfl⟩
  have lA : CA.length = 42 := by rw [hCA]; exact Hd.C_len kx.t32
  have lB : CB.length = 42 := by rw [hCB]; exact Hd.C_len ky.t32
  have iA : (Tryd.prog.info? 29).map (·.size) = some CA.length := by rw [hCA]; exact Hd.C_info kx.t32
  have iB : (Tryd.prog.info? 29).map (·.size) = some CB.length := by rw [hCB]; exact Hd.C_info ky.t32
  obtain ⟨X, hX⟩ : ∃ X : World, X = (w.alloc (.cells CA.toArray 29)).alloc (.cells CB.toArray 29) := ⟨_, rfl⟩
  have HB : Seal (Below w.heap.size w X) := ⟨by rw [hX]; exact ((Below.refl _ w).alloc (Nat.le_refl _) _).alloc (by simp) _⟩
  have HE : Seal (Env X none 0 0 [] [(w.heap.size + 1, .cells CB.toArray 29), (w.heap.size, .cells CA.toArray 29)]) := ⟨⟨hG.below HB.out, isB_nil X, by
    intro q hq
    simp only [List.mem_cons, List.not_mem_nil, or_false] at hq
    rcases hq with rfl | rfl
    · rw [hX]; exact heap_alloc2_new w _ _
    · rw [hX]; exact heap_alloc2_old w _ _⟩⟩
  have HL : Seal (IsHs X a n c l) := ⟨hl.below HB.out⟩
  have HK : Seal (IsKs X ka kn kc ks) := ⟨hk.below HB.out⟩
  obtain ⟨FL, hFL⟩ : ∃ F, F = fnd ks l := ⟨_, rfl⟩
  obtain ⟨TL, hTL⟩ : ∃ F, F = trs ks l := ⟨_, rfl⟩
  obtain ⟨er, her⟩ : ∃ F, F = ler ks := ⟨_, rfl⟩
  obtain ⟨fn, hfn⟩ : ∃ F, F = FL.length := ⟨_, rfl⟩
  obtain ⟨tn, htn⟩ : ∃ F, F = TL.length := ⟨_, rfl⟩
  have HFL : Seal ((∀ x ∈ FL, x.1.ok ∧ x.2.ok) ∧ FL.length ≤ 5000) := ⟨by rw [hFL]; exact ⟨fnd_ok hl.each, Nat.le_trans (fnd_len _ _) (by decide)⟩⟩
  have HTL : Seal ((∀ x ∈ TL, x.ok) ∧ TL.length ≤ 5000) := ⟨by rw [hTL]; exact ⟨trs_ok hl.each, Nat.le_trans (trs_len _ _) (by have := hl.llen; omega)⟩⟩
  have h16 : n ≤ 16 := hn.2
  have HF1 : Seal (∀ W, Glob W → IsHs W a n c l → IsKs W ka kn kc ks → Calls Tryd.prog 34 #[.slice ka kn kc, .slice a n c] W (FindPost FL er W)) := ⟨fun W g1 g2 g3 => by rw [hFL, her]; exact cfind_any n c kn kc a ka l ks W g1 g2 g3 (by omega)⟩
  have HF2 : Seal (∀ W, Glob W → IsHs W a n c l → IsKs W ka kn kc ks → Calls Tryd.prog 35 #[.slice ka kn kc, .slice a n c] W (FindPost FL er W)) := ⟨fun W g1 g2 g3 => by rw [hFL, her]; exact rfind_any n c kn kc a ka l ks W g1 g2 g3 (by omega)⟩
  have HT1 : Seal (∀ W, Glob W → IsHs W a n c l → IsKs W ka kn kc ks → Calls Tryd.prog 36 #[.slice ka kn kc, .slice a n c] W (TrustPost TL er W)) := ⟨fun W g1 g2 g3 => by rw [hTL, her]; exact ctrust_any n c kn kc a ka l ks W g1 g2 g3 (by omega)⟩
  have HT2 : Seal (∀ W, Glob W → IsHs W a n c l → IsKs W ka kn kc ks → Calls Tryd.prog 37 #[.slice ka kn kc, .slice a n c] W (TrustPost TL er W)) := ⟨fun W g1 g2 g3 => by rw [hTL, her]; exact rtrust_any n c kn kc a ka l ks W g1 g2 g3 (by omega)⟩
  obtain ⟨ch, hch⟩ : ∃ b, b = chL key x y := ⟨_, rfl⟩
  have HC1 : Seal (∀ W, Glob W → Calls Tryd.prog 38 #[.int .i64 key, .agg (CA ++ CB).toArray] W fun e w' => e = .returned (.bool ch) ∧ Below W.heap.size W w') := ⟨fun W g => by rw [hCA, hCB, hch]; exact ccheckl_any key x y W kx ky g⟩
  have HC2 : Seal (∀ W, Glob W → Calls Tryd.prog 39 #[.int .i64 key, .agg (CA ++ CB).toArray] W fun e w' => e = .returned (.bool ch) ∧ Below W.heap.size W w') := ⟨fun W g => by rw [hCA, hCB, hch]; exact rcheckl_any key x y W kx ky g⟩
  have HLX : Seal ((Tryd.prog.info? 74).map (·.size) = some (CA ++ CB).length ∧ (lieC hz hz).length = (CA ++ CB).length ∧ ∀ v ∈ CA ++ CB, v.oneCell' = true) := ⟨by rw [hCA, hCB]; exact ⟨lieC_info kx.t32 ky.t32, by rw [lieC_len ok_hz.t32 ok_hz.t32]; exact (lieC_len kx.t32 ky.t32).symm, lieC_one x y⟩⟩
  have ZA : Seal (∀ (ρ : Operand → Value) (o : Oper) (w : World), o.op = .alloc 74 → (execOp ρ o).run Tryd.prog w = .ok (.value (.pointer (some ⟨w.heap.size, 0, none⟩))) (w.alloc (.cells (lieC hz hz).toArray 74))) := ⟨fun ρ o w ho => by rw [← hz_lie]; exact exec_alloc_lie ho w⟩
  have uH := Tryd.underlying29
  have uL := Tryd.underlying74
  rw [← hCA, ← hCB]
  clear hG hn hl hk kx ky hCA hCB hFL hTL her h16 hch
  go_enter Tryd.func8, Tryd.ntmps8
  go_upto_region 1 with (fail)
  rw [← hX]
  clear hX
  go_wp2_with fail
  refine (sane51_any X HE.out.glob).mono ?_
  rintro e w1 ⟨rfl, hb⟩
  have HB2 := Seal.mk (HB.out.trans (hb.mono HB.out.size))
  have HE2 := Seal.mk (HE.out.below hb)
  have HK2 := Seal.mk (HK.out.below hb)
  have HL2 := Seal.mk (HL.out.below hb)
  clear hb HB HE HK HL
  have HB := HB2
  have HE := HE2
  have HK := HK2
  have HL := HL2
  clear HB2 HE2 HK2 HL2
  go_wp2_with fail
  refine (rfew_any a ka n c kn kc _ w1 HFew.out).mono ?_
  rintro e w2 ⟨rfl, rfl⟩
  go_wp2_with fail
  refine (HF1.out w1 HE.out.glob HL.out HK.out).mono ?_
  rintro e w3 ⟨vx, rfl, hP⟩
  have hb := hP.out.2
  obtain ⟨ax, cx, hv, hX⟩ := isLs_own hP.out.1 HFL.out.1 HFL.out.2
  rw [← hfn] at hv hX
  obtain rfl : vx = .slice ax fn cx := hv
  have HB2 := Seal.mk (HB.out.trans (hb.mono HB.out.size))
  have HE2 := Seal.mk (HE.out.below hb)
  have HK2 := Seal.mk (HK.out.below hb)
  have HL2 := Seal.mk (HL.out.below hb)
  clear hb HB HE HK HL
  have HB := HB2
  have HE := HE2
  have HK := HK2
  have HL := HL2
  clear HB2 HE2 HK2 HL2
  have HRx : Seal (IsLs w3 ax fn cx FL) := ⟨hX⟩
  clear hP hX
  go_wp2_with fail
  refine (HF2.out w3 HE.out.glob HL.out HK.out).mono ?_
  rintro e w4 ⟨vy, rfl, hP⟩
  have hb := hP.out.2
  obtain ⟨ay, cy, hv, hX⟩ := isLs_own hP.out.1 HFL.out.1 HFL.out.2
  rw [← hfn] at hv hX
  obtain rfl : vy = .slice ay fn cy := hv
  have HB2 := Seal.mk (HB.out.trans (hb.mono HB.out.size))
  have HE2 := Seal.mk (HE.out.below hb)
  have HK2 := Seal.mk (HK.out.below hb)
  have HL2 := Seal.mk (HL.out.below hb)
  have HRx2 := Seal.mk (HRx.out.below hb)
  clear hb HB HE HK HL HRx
  have HB := HB2
  have HE := HE2
  have HK := HK2
  have HL := HL2
  have HRx := HRx2
  clear HB2 HE2 HK2 HL2 HRx2
  have HRy : Seal (IsLs w4 ay fn cy FL) := ⟨hX⟩
  clear hP hX
  go_wp2_with fail
  refine (HT1.out w4 HE.out.glob HL.out HK.out).mono ?_
  rintro e w5 ⟨vu, rfl, hP⟩
  have hb := hP.out.2
  obtain ⟨au, cu, hv, hX⟩ := hs_of_own hP.out.1 HTL.out.1 HTL.out.2
  rw [← htn] at hv hX
  obtain rfl : vu = .slice au tn cu := hv
  have HB2 := Seal.mk (HB.out.trans (hb.mono HB.out.size))
  have HE2 := Seal.mk (HE.out.below hb)
  have HK2 := Seal.mk (HK.out.below hb)
  have HL2 := Seal.mk (HL.out.below hb)
  have HRx2 := Seal.mk (HRx.out.below hb)
  have HRy2 := Seal.mk (HRy.out.below hb)
  clear hb HB HE HK HL HRx HRy
  have HB := HB2
  have HE := HE2
  have HK := HK2
  have HL := HL2
  have HRx := HRx2
  have HRy := HRy2
  clear HB2 HE2 HK2 HL2 HRx2 HRy2
  have HRu : Seal (IsHs w5 au tn cu TL) := ⟨hX⟩
  clear hP hX
  go_wp2_with fail
  refine (HT2.out w5 HE.out.glob HL.out HK.out).mono ?_
  rintro e w6 ⟨vv, rfl, hP⟩
  have hb := hP.out.2
  obtain ⟨av, cv, hv, hX⟩ := hs_of_own hP.out.1 HTL.out.1 HTL.out.2
  rw [← htn] at hv hX
  obtain rfl : vv = .slice av tn cv := hv
  have HB2 := Seal.mk (HB.out.trans (hb.mono HB.out.size))
  have HE2 := Seal.mk (HE.out.below hb)
  have HK2 := Seal.mk (HK.out.below hb)
  have HL2 := Seal.mk (HL.out.below hb)
  have HRx2 := Seal.mk (HRx.out.below hb)
  have HRy2 := Seal.mk (HRy.out.below hb)
  have HRu2 := Seal.mk (HRu.out.below hb)
  clear hb HB HE HK HL HRx HRy HRu
  have HB := HB2
  have HE := HE2
  have HK := HK2
  have HL := HL2
  have HRx := HRx2
  have HRy := HRy2
  have HRu := HRu2
  clear HB2 HE2 HK2 HL2 HRx2 HRy2 HRu2
  have HRv : Seal (IsHs w6 av tn cv TL) := ⟨hX⟩
  clear hP hX
  have RA := Seal.mk (HE.out.keep (w.heap.size, .cells CA.toArray 29) (by simp))
  have RB := Seal.mk (HE.out.keep (w.heap.size + 1, .cells CB.toArray 29) (by simp))
  go_wp2_with (first
    | (refine wpList_load_row_g (by kernel_rfl) 29 (.tmp 8) rfl w.heap.size rfl 29 CA.toArray (0, 0) _ RA.out uH rfl (by rw [List.size_toArray]; exact iA) ?_; (try simp only [Act.put, List.setIfInBounds_toArray, List.set_cons_zero, List.set_cons_succ]))
    | (refine wpList_load_row_g (by kernel_rfl) 29 (.tmp 9) rfl (w.heap.size + 1) rfl 29 CB.toArray (0, 0) _ RB.out uH rfl (by rw [List.size_toArray]; exact iB) ?_; (try simp only [Act.put, List.setIfInBounds_toArray, List.set_cons_zero, List.set_cons_succ]))
    | (refine wpList_build_lie rfl (.tmp 50) (.tmp 51) rfl CA CB lA lB rfl rfl ?_; (try simp only [Act.put, List.setIfInBounds_toArray, List.set_cons_zero, List.set_cons_succ]))
    | (refine wpList_newvar rfl rfl 74 19 (.tmp 52) rfl rfl rfl (lieC hz hz) (CA ++ CB) (ZA.out _ _ _ rfl) rfl rfl HLX.out.1 HLX.out.2.1 HLX.out.2.2 ?_; intro V hV; have hb : Below w6.heap.size w6 V := (by rw [hV]; exact below_alloc _ _); have r0 : V.rangeAt w6.heap.size 0 (CA ++ CB) := (by rw [hV]; exact rangeAt_row (heap_alloc_new _ _)); clear hV RA RB; have HB2 := Seal.mk (HB.out.trans (hb.mono HB.out.size)); have HE2 := Seal.mk (HE.out.below hb); have HK2 := Seal.mk (HK.out.below hb); have HL2 := Seal.mk (HL.out.below hb); have HRx2 := Seal.mk (HRx.out.below hb); have HRy2 := Seal.mk (HRy.out.below hb); have HRu2 := Seal.mk (HRu.out.below hb); have HRv2 := Seal.mk (HRv.out.below hb); clear hb HB HE HK HL HRx HRy HRu HRv; have HB := HB2; have HE := HE2; have HK := HK2; have HL := HL2; have HRx := HRx2; have HRy := HRy2; have HRu := HRu2; have HRv := HRv2; clear HB2 HE2 HK2 HL2 HRx2 HRy2 HRu2 HRv2; (try simp only [Act.put, List.setIfInBounds_toArray, List.set_cons_zero, List.set_cons_succ])))
  refine wp_region_held_drew (S := fun w' => w'.rangeAt w6.heap.size 0 (CA ++ CB)) (by kernel_rfl) r0 (fun hHeld => ?_)
  have hb : Below V.heap.size V V.drew := below_drewn _
  obtain ⟨V0, hV⟩ : ∃ Z, Z = V.drew := ⟨_, rfl⟩
  rw [← hV] at hHeld hb ⊢
  clear hV r0
  have HB2 := Seal.mk (HB.out.trans (hb.mono HB.out.size))
  have HE2 := Seal.mk (HE.out.below hb)
  have HK2 := Seal.mk (HK.out.below hb)
  have HL2 := Seal.mk (HL.out.below hb)
  have HRx2 := Seal.mk (HRx.out.below hb)
  have HRy2 := Seal.mk (HRy.out.below hb)
  have HRu2 := Seal.mk (HRu.out.below hb)
  have HRv2 := Seal.mk (HRv.out.below hb)
  clear hb HB HE HK HL HRx HRy HRu HRv
  have HB := HB2
  have HE := HE2
  have HK := HK2
  have HL := HL2
  have HRx := HRx2
  have HRy := HRy2
  have HRu := HRu2
  have HRv := HRv2
  clear HB2 HE2 HK2 HL2 HRx2 HRy2 HRu2 HRv2
  refine take_h 0 ?_ rfl (by kernel_rfl) (by kernel_rfl) (by kernel_rfl) (fun _ _ _ h => h) (Or.inl ⟨by kernel_rfl, ?_⟩) (by assumption) ?_
  rotate_left
  · (intro w hSw; (try dsimp only at hSw); go_simp; try (with_reducible rfl))
  try simp only [Act.put, List.setIfInBounds_toArray, List.set_cons_zero, List.set_cons_succ]
  refine take_h 1 _ rfl (by kernel_rfl) (by kernel_rfl) (by kernel_rfl) (fun _ _ _ h => h) (yieldsIf_load_mid (by kernel_rfl) 74 (.tmp 19) rfl w6.heap.size 0 rfl (CA ++ CB) _ (fun w hSw => hSw) uL rfl HLX.out.1) (by assumption) ?_
  try simp only [Act.put, List.setIfInBounds_toArray, List.set_cons_zero, List.set_cons_succ]
  refine take_h 3 ?_ rfl (by kernel_rfl) (by kernel_rfl) (by kernel_rfl) (fun _ _ _ h => h) (Or.inl ⟨by kernel_rfl, ?_⟩) (by assumption) ?_
  rotate_left
  · (intro w hSw; (try dsimp only at hSw); go_simp; try (with_reducible rfl))
  try simp only [Act.put, List.setIfInBounds_toArray, List.set_cons_zero, List.set_cons_succ]
  refine take_h 4 _ rfl (by kernel_rfl) (by kernel_rfl) (by kernel_rfl) (fun _ _ _ h => h) (yieldsIf_load_mid (by kernel_rfl) 74 (.tmp 19) rfl w6.heap.size 0 rfl (CA ++ CB) _ (fun w hSw => hSw) uL rfl HLX.out.1) (by assumption) ?_
  try simp only [Act.put, List.setIfInBounds_toArray, List.set_cons_zero, List.set_cons_succ]
  refine call_h 2 rfl (by kernel_rfl) 38 #[.int .i64 key, .agg (CA ++ CB).toArray] (by kernel_rfl) (by go_simp) ?_
  refine (HC1.out V0 HE.out.glob).mono ?_
  rintro e V1 ⟨rfl, hb⟩
  have r1 := rangeAt_below' hHeld hb
  refine ⟨_, rfl, r1, fun hHeld => ?_⟩
  try simp only [Act.put, List.setIfInBounds_toArray, List.set_cons_zero, List.set_cons_succ]
  clear r1
  have HB2 := Seal.mk (HB.out.trans (hb.mono HB.out.size))
  have HE2 := Seal.mk (HE.out.below hb)
  have HK2 := Seal.mk (HK.out.below hb)
  have HL2 := Seal.mk (HL.out.below hb)
  have HRx2 := Seal.mk (HRx.out.below hb)
  have HRy2 := Seal.mk (HRy.out.below hb)
  have HRu2 := Seal.mk (HRu.out.below hb)
  have HRv2 := Seal.mk (HRv.out.below hb)
  clear hb HB HE HK HL HRx HRy HRu HRv
  have HB := HB2
  have HE := HE2
  have HK := HK2
  have HL := HL2
  have HRx := HRx2
  have HRy := HRy2
  have HRu := HRu2
  have HRv := HRv2
  clear HB2 HE2 HK2 HL2 HRx2 HRy2 HRu2 HRv2
  refine call_h 5 rfl (by kernel_rfl) 39 #[.int .i64 key, .agg (CA ++ CB).toArray] (by kernel_rfl) (by go_simp) ?_
  refine (HC2.out V1 HE.out.glob).mono ?_
  rintro e V2 ⟨rfl, hb⟩
  have r1 := rangeAt_below' hHeld hb
  refine ⟨_, rfl, r1, fun hHeld => ?_⟩
  try simp only [Act.put, List.setIfInBounds_toArray, List.set_cons_zero, List.set_cons_succ]
  clear r1
  have HB2 := Seal.mk (HB.out.trans (hb.mono HB.out.size))
  have HE2 := Seal.mk (HE.out.below hb)
  have HK2 := Seal.mk (HK.out.below hb)
  have HL2 := Seal.mk (HL.out.below hb)
  have HRx2 := Seal.mk (HRx.out.below hb)
  have HRy2 := Seal.mk (HRy.out.below hb)
  have HRu2 := Seal.mk (HRu.out.below hb)
  have HRv2 := Seal.mk (HRv.out.below hb)
  clear hb HB HE HK HL HRx HRy HRu HRv
  have HB := HB2
  have HE := HE2
  have HK := HK2
  have HL := HL2
  have HRx := HRx2
  have HRy := HRy2
  have HRu := HRu2
  have HRv := HRv2
  clear HB2 HE2 HK2 HL2 HRx2 HRy2 HRu2 HRv2
  refine take_h 6 ?_ rfl (by kernel_rfl) (by kernel_rfl) (by kernel_rfl) (fun _ _ _ h => h) (Or.inl ⟨by kernel_rfl, ?_⟩) (by assumption) ?_
  rotate_left
  · (intro w hSw; (try dsimp only at hSw); go_simp; try (with_reducible rfl))
  try simp only [Act.put, List.setIfInBounds_toArray, List.set_cons_zero, List.set_cons_succ]
  refine take_h 7 ?_ rfl (by kernel_rfl) (by kernel_rfl) (by kernel_rfl) (fun _ _ _ h => h) (Or.inl ⟨by kernel_rfl, ?_⟩) (by assumption) ?_
  rotate_left
  · (intro w hSw; (try dsimp only at hSw); go_simp; try (with_reducible rfl))
  try simp only [Act.put, List.setIfInBounds_toArray, List.set_cons_zero, List.set_cons_succ]
  refine take_h 8 ?_ rfl (by kernel_rfl) (by kernel_rfl) (by kernel_rfl) (fun _ _ _ h => h) (Or.inl ⟨by kernel_rfl, ?_⟩) (by assumption) ?_
  rotate_left
  · (intro w hSw; (try dsimp only at hSw); go_simp; try (with_reducible rfl))
  try simp only [Act.put, List.setIfInBounds_toArray, List.set_cons_zero, List.set_cons_succ]
  refine take_h 9 ?_ rfl (by kernel_rfl) (by kernel_rfl) (by kernel_rfl) (fun _ _ _ h => h) (Or.inl ⟨by kernel_rfl, ?_⟩) (by assumption) ?_
  rotate_left
  · (intro w hSw; (try dsimp only at hSw); go_simp; try (with_reducible rfl))
  try simp only [Act.put, List.setIfInBounds_toArray, List.set_cons_zero, List.set_cons_succ]
  refine call_h 10 rfl (by kernel_rfl) 40 #[.slice ax fn cx, .slice ay fn cy] (by kernel_rfl) (by go_simp) ?_
  refine (rsame_eq ax ay fn cx cy FL V2 HRx.out HRy.out).mono ?_
  rintro e V3 ⟨rfl, hb⟩
  have r1 := rangeAt_below' hHeld hb
  refine ⟨_, rfl, r1, fun hHeld => ?_⟩
  try simp only [Act.put, List.setIfInBounds_toArray, List.set_cons_zero, List.set_cons_succ]
  clear r1
  have HB2 := Seal.mk (HB.out.trans (hb.mono HB.out.size))
  have HE2 := Seal.mk (HE.out.below hb)
  have HK2 := Seal.mk (HK.out.below hb)
  have HL2 := Seal.mk (HL.out.below hb)
  have HRx2 := Seal.mk (HRx.out.below hb)
  have HRy2 := Seal.mk (HRy.out.below hb)
  have HRu2 := Seal.mk (HRu.out.below hb)
  have HRv2 := Seal.mk (HRv.out.below hb)
  clear hb HB HE HK HL HRx HRy HRu HRv
  have HB := HB2
  have HE := HE2
  have HK := HK2
  have HL := HL2
  have HRx := HRx2
  have HRy := HRy2
  have HRu := HRu2
  have HRv := HRv2
  clear HB2 HE2 HK2 HL2 HRx2 HRy2 HRu2 HRv2
  refine take_h 11 ?_ rfl (by kernel_rfl) (by kernel_rfl) (by kernel_rfl) (fun _ _ _ h => h) (Or.inl ⟨by kernel_rfl, ?_⟩) (by assumption) ?_
  rotate_left
  · (intro w hSw; (try dsimp only at hSw); go_simp; try (with_reducible rfl))
  try simp only [Act.put, List.setIfInBounds_toArray, List.set_cons_zero, List.set_cons_succ]
  refine take_h 12 ?_ rfl (by kernel_rfl) (by kernel_rfl) (by kernel_rfl) (fun _ _ _ h => h) (Or.inl ⟨by kernel_rfl, ?_⟩) (by assumption) ?_
  rotate_left
  · (intro w hSw; (try dsimp only at hSw); go_simp; try (with_reducible rfl))
  try simp only [Act.put, List.setIfInBounds_toArray, List.set_cons_zero, List.set_cons_succ]
  refine take_h 13 ?_ rfl (by kernel_rfl) (by kernel_rfl) (by kernel_rfl) (fun _ _ _ h => h) (Or.inl ⟨by kernel_rfl, ?_⟩) (by assumption) ?_
  rotate_left
  · (intro w hSw; (try dsimp only at hSw); go_simp; try (with_reducible rfl))
  try simp only [Act.put, List.setIfInBounds_toArray, List.set_cons_zero, List.set_cons_succ]
  refine take_h 14 ?_ rfl (by kernel_rfl) (by kernel_rfl) (by kernel_rfl) (fun _ _ _ h => h) (Or.inl ⟨by kernel_rfl, ?_⟩) (by assumption) ?_
  rotate_left
  · (intro w hSw; (try dsimp only at hSw); go_simp; try (with_reducible rfl))
  try simp only [Act.put, List.setIfInBounds_toArray, List.set_cons_zero, List.set_cons_succ]
  refine take_h 15 ?_ rfl (by kernel_rfl) (by kernel_rfl) (by kernel_rfl) (fun _ _ _ h => h) (Or.inl ⟨by kernel_rfl, ?_⟩) (by assumption) ?_
  rotate_left
  · (intro w hSw; (try dsimp only at hSw); go_simp; try (with_reducible rfl))
  try simp only [Act.put, List.setIfInBounds_toArray, List.set_cons_zero, List.set_cons_succ]
  refine take_h 16 ?_ rfl (by kernel_rfl) (by kernel_rfl) (by kernel_rfl) (fun _ _ _ h => h) (Or.inl ⟨by kernel_rfl, ?_⟩) (by assumption) ?_
  rotate_left
  · (intro w hSw; (try dsimp only at hSw); go_simp; try (with_reducible rfl))
  try simp only [Act.put, List.setIfInBounds_toArray, List.set_cons_zero, List.set_cons_succ]
  refine take_h 17 ?_ rfl (by kernel_rfl) (by kernel_rfl) (by kernel_rfl) (fun _ _ _ h => h) (Or.inl ⟨by kernel_rfl, ?_⟩) (by assumption) ?_
  rotate_left
  · (intro w hSw; (try dsimp only at hSw); go_simp; try (with_reducible rfl))
  try simp only [Act.put, List.setIfInBounds_toArray, List.set_cons_zero, List.set_cons_succ]
  refine take_h 18 ?_ rfl (by kernel_rfl) (by kernel_rfl) (by kernel_rfl) (fun _ _ _ h => h) (Or.inl ⟨by kernel_rfl, ?_⟩) (by assumption) ?_
  rotate_left
  · (intro w hSw; (try dsimp only at hSw); go_simp; try (with_reducible rfl))
  try simp only [Act.put, List.setIfInBounds_toArray, List.set_cons_zero, List.set_cons_succ]
  refine take_h 19 ?_ rfl (by kernel_rfl) (by kernel_rfl) (by kernel_rfl) (fun _ _ _ h => h) (Or.inl ⟨by kernel_rfl, ?_⟩) (by assumption) ?_
  rotate_left
  · (intro w hSw; (try dsimp only at hSw); go_simp; try (with_reducible rfl))
  try simp only [Act.put, List.setIfInBounds_toArray, List.set_cons_zero, List.set_cons_succ]
  refine call_h 20 rfl (by kernel_rfl) 41 #[.slice au tn cu, .slice av tn cv] (by kernel_rfl) (by go_simp) ?_
  refine (rsameh_eq au av tn cu cv TL V3 HRu.out HRv.out).mono ?_
  rintro e V4 ⟨rfl, hb⟩
  have r1 := rangeAt_below' hHeld hb
  refine ⟨_, rfl, r1, fun hHeld => ?_⟩
  try simp only [Act.put, List.setIfInBounds_toArray, List.set_cons_zero, List.set_cons_succ]
  clear r1
  have HB2 := Seal.mk (HB.out.trans (hb.mono HB.out.size))
  have HE2 := Seal.mk (HE.out.below hb)
  have HK2 := Seal.mk (HK.out.below hb)
  have HL2 := Seal.mk (HL.out.below hb)
  have HRx2 := Seal.mk (HRx.out.below hb)
  have HRy2 := Seal.mk (HRy.out.below hb)
  have HRu2 := Seal.mk (HRu.out.below hb)
  have HRv2 := Seal.mk (HRv.out.below hb)
  clear hb HB HE HK HL HRx HRy HRu HRv
  have HB := HB2
  have HE := HE2
  have HK := HK2
  have HL := HL2
  have HRx := HRx2
  have HRy := HRy2
  have HRu := HRu2
  have HRv := HRv2
  clear HB2 HE2 HK2 HL2 HRx2 HRy2 HRu2 HRv2
  refine take_h 21 ?_ rfl (by kernel_rfl) (by kernel_rfl) (by kernel_rfl) (fun _ _ _ h => h) (Or.inl ⟨by kernel_rfl, ?_⟩) (by assumption) ?_
  rotate_left
  · (intro w hSw; (try dsimp only at hSw); go_simp; try (with_reducible rfl))
  try simp only [Act.put, List.setIfInBounds_toArray, List.set_cons_zero, List.set_cons_succ]
  refine take_h 22 ?_ rfl (by kernel_rfl) (by kernel_rfl) (by kernel_rfl) (fun _ _ _ h => h) (Or.inl ⟨by kernel_rfl, ?_⟩) (by assumption) ?_
  rotate_left
  · (intro w hSw; (try dsimp only at hSw); go_simp; try (with_reducible rfl))
  try simp only [Act.put, List.setIfInBounds_toArray, List.set_cons_zero, List.set_cons_succ]
  refine take_h 23 ?_ rfl (by kernel_rfl) (by kernel_rfl) (by kernel_rfl) (fun _ _ _ h => h) (Or.inl ⟨by kernel_rfl, ?_⟩) (by assumption) ?_
  rotate_left
  · (intro w hSw; (try dsimp only at hSw); go_simp; try (with_reducible rfl))
  try simp only [Act.put, List.setIfInBounds_toArray, List.set_cons_zero, List.set_cons_succ]
  refine take_h 24 ?_ rfl (by kernel_rfl) (by kernel_rfl) (by kernel_rfl) (fun _ _ _ h => h) (Or.inl ⟨by kernel_rfl, ?_⟩) (by assumption) ?_
  rotate_left
  · (intro w hSw; (try dsimp only at hSw); go_simp; try (with_reducible rfl))
  try simp only [Act.put, List.setIfInBounds_toArray, List.set_cons_zero, List.set_cons_succ]
  refine take_h 25 ?_ rfl (by kernel_rfl) (by kernel_rfl) (by kernel_rfl) (fun _ _ _ h => h) (Or.inl ⟨by kernel_rfl, ?_⟩) (by assumption) ?_
  rotate_left
  · (intro w hSw; (try dsimp only at hSw); go_simp; try (with_reducible rfl))
  try simp only [Act.put, List.setIfInBounds_toArray, List.set_cons_zero, List.set_cons_succ]
  refine take_h 26 ?_ rfl (by kernel_rfl) (by kernel_rfl) (by kernel_rfl) (fun _ _ _ h => h) (Or.inl ⟨by kernel_rfl, ?_⟩) (by assumption) ?_
  rotate_left
  · (intro w hSw; (try dsimp only at hSw); go_simp; try (with_reducible rfl))
  try simp only [Act.put, List.setIfInBounds_toArray, List.set_cons_zero, List.set_cons_succ]
  refine take_h 27 ?_ rfl (by kernel_rfl) (by kernel_rfl) (by kernel_rfl) (fun _ _ _ h => h) (Or.inl ⟨by kernel_rfl, ?_⟩) (by assumption) ?_
  rotate_left
  · (intro w hSw; (try dsimp only at hSw); go_simp; try (with_reducible rfl))
  try simp only [Act.put, List.setIfInBounds_toArray, List.set_cons_zero, List.set_cons_succ]
  refine wpAnyH_done (by kernel_rfl) ?_ _
  go_wp2
  go_ret
  exact ⟨rfl, HB.out⟩

theorem law_copiesSpec (n c kn kc : Nat) (a ka : Option Addr) (l : List Hd) (ks : List Int) (key : Int) (x y : Hd) (w : World) (hG : Glob w) (hk : kn ≤ 5000 → IsKs w ka kn kc ks) (hl : n ≤ 5000 → IsHs w a n c l) (kx : x.ok) (ky : y.ok) :
    Calls Tryd.prog 8 #[.slice ka kn kc, .slice a n c, .int .i64 key, .agg x.C.toArray, .agg y.C.toArray] w fun e w' => e = .returned (.bool true) ∧ Below w.heap.size w w' := by
  by_cases h : kn ≤ 30 ∧ n ≤ 16
  · exact spec51_few n c kn kc a ka l ks key x y w hG (hl (by omega)) (hk (by omega)) h kx ky
  · exact spec51_many n c kn kc a ka key x y w hG h kx ky
end Frk

namespace Frk
open Go Go.RowKit Go.Proofs Go.ChangeShapes Go.WideShapes Go.ChangeAt
set_option maxRecDepth 100000

theorem keys_open {H : Type} {enc : TypeId × Value → H} {W : World} {base : Nat} {v : Value} {d : DataW H} {p : List MemPlace} (hval : Value.okWide Tryd.prog W .any base 65 v) (h1 : DataW.Trod enc Tryd.prog W 0 (fun _ => true) true 65 v d p) :
    ∃ a len cap l, v = .slice a len cap ∧ (len : Int) ≤ 9223372036854775807 ∧ (len ≤ 5000 → IsKs W a len cap l) := by
  obtain ⟨a1, len, cap, rfl⟩ := okWide_slice Tryd.underlying65 hval
  obtain ⟨fuel, hf⟩ := h1
  have c1 : Tryd.prog.cellsOf 3 = 1 := by kernel_rfl
  rcases open_ints Tryd.underlying65 Tryd.underlying3 c1 hf with ⟨hcs, hx⟩ | ⟨a, len', cap', zs, hcs, _, hl, hm, hz, hx, hcell, hwz⟩
  · simp [Value.cells] at hcs
    obtain ⟨rfl, rfl, rfl⟩ := hcs
    exact ⟨none, 0, 0, [], rfl, by decide, fun _ => ⟨rfl, Nat.le_refl _, by decide, by decide, .inl rfl⟩⟩
  · simp [Value.cells] at hcs
    obtain ⟨rfl, rfl, rfl⟩ := hcs
    simp only [if_true] at hz
    unfold maxLen at hm
    have hlen : (zs.take len).length = len := by simp; omega
    refine ⟨some a, len, cap, zs.take len, rfl, by omega, fun h40 => ⟨hlen, hl, h40, by omega, ?_⟩⟩
    rcases Nat.eq_zero_or_pos len with h0 | h0
    · exact .inl h0
    · right
      obtain ⟨ab, ao, spot⟩ := a
      have hspot : spot = none := by simpa [Addr.add] using World.cell?_spot (hcell 0 (by omega))
      subst hspot
      refine ⟨ab, ao, rfl, fun j u hu => ?_, ?_⟩
      · have hj : j < len := by have := (List.getElem?_eq_some_iff.1 hu).1; rw [List.length_map, hlen] at this; exact this
        have hcj := hcell j (by omega)
        rw [Addr.add_lit] at hcj
        rw [hcj, ← hu, List.getElem?_map, List.getElem?_take, if_pos hj, List.getElem?_eq_getElem (show j < zs.length by omega)]
        have e : zs.getD j 0 = zs[j]'(by omega) := by simp [List.getD_eq_getElem?_getD, List.getElem?_eq_getElem (show j < zs.length by omega)]
        rw [e]
        rfl
      · have hc0 := hcell 0 (by omega)
        rw [Addr.add_lit] at hc0
        exact block_lt_of_cell hc0

theorem hflat_len : ∀ (l : List Hd), (∀ h ∈ l, h.ok) → (l.flatMap Hd.C).length = l.length * 42
  | [], _ => rfl
  | s :: l, h => by
    have h1 := Hd.C_len (h s (by simp)).t32
    have h2 := hflat_len l (fun s hs => h s (by simp [hs]))
    rw [List.flatMap_cons, List.length_append, h1, h2, List.length_cons]
    omega

theorem hands_open {H : Type} {enc : TypeId × Value → H} {W : World} {base : Nat} {v : Value} {d : DataW H} {p : List MemPlace} (hval : Value.okWide Tryd.prog W .any base 66 v) (h1 : DataW.Trod enc Tryd.prog W 0 (fun _ => true) true 66 v d p) :
    ∃ a len cap l, v = .slice a len cap ∧ (len : Int) ≤ 9223372036854775807 ∧ (len ≤ 5000 → IsHs W a len cap l) := by
  obtain ⟨a1, len, cap, rfl⟩ := okWide_slice Tryd.underlying66 hval
  obtain ⟨fuel, hf⟩ := h1
  have c1 : Tryd.prog.cellsOf 29 = 42 := by kernel_rfl
  rcases DataW.trod_slice Tryd.underlying66 hf with ⟨hcs, hx⟩ | ⟨a, len', cap', elems, rest, n, hn, hcs, hx, hb, hl, hm, hel, hat, hsp, _⟩
  · simp [Value.cells] at hcs
    obtain ⟨rfl, rfl, rfl⟩ := hcs
    exact ⟨none, 0, 0, [], rfl, by decide, fun _ => ⟨rfl, Nat.le_refl _, by decide, by decide, by simp, .inl rfl⟩⟩
  · simp [Value.cells] at hcs
    obtain ⟨rfl, rfl, rfl⟩ := hcs
    rw [c1] at hat hsp
    obtain ⟨hrl, hrest⟩ := hsp rfl
    unfold maxLen at hm
    have hall : ∀ i, i < cap → ∃ T : Hd, T.ok ∧ W.cells? 0 (a.add (i * 42)) 42 = some T.C := fun i hi => by
      have key : ∃ e, (W.cells? 0 (a.add (i * 42)) 42).bind (DataW.trod enc Tryd.prog W 0 (fun _ => true) true n 29) = some e := by
        by_cases h : i < len
        · exact ⟨_, (hat i h).trans (List.getElem?_eq_getElem (by omega))⟩
        · have := hrest (i - len) (by omega)
          rw [show len + (i - len) = i from by omega] at this
          exact ⟨_, this.trans (List.getElem?_eq_getElem (by omega))⟩
      obtain ⟨e, he⟩ := key
      obtain ⟨cs, h1, h2⟩ := Option.bind_eq_some_iff.1 he
      obtain ⟨T, rfl, hT⟩ := cells_hand h2
      exact ⟨T, hT, h1⟩
    have hrow : ∀ m, m ≤ len → ∃ l : List Hd, l.length = m ∧ (∀ d ∈ l, d.ok) ∧ ∀ j u, (l.flatMap Hd.C)[j]? = some u → W.cell? (a.add j) = some u := by
      intro m
      induction m with
      | zero => exact fun _ => ⟨[], rfl, by simp, fun j u h => by simp at h⟩
      | succ m ih =>
        intro hm'
        obtain ⟨l, h1, h2, h3⟩ := ih (by omega)
        obtain ⟨T, hT, hc⟩ := hall m (by omega)
        refine ⟨l ++ [T], by simp [h1], ?_, fun j u hj => ?_⟩
        · intro d hd
          rcases List.mem_append.1 hd with h | h
          · exact h2 d h
          · rw [List.mem_singleton.1 h]; exact hT
        · rw [List.flatMap_append, show [T].flatMap Hd.C = T.C from by simp] at hj
          have hdl := hflat_len l h2
          by_cases hjl : j < m * 42
          · rw [List.getElem?_append_left (by omega)] at hj
            exact h3 j u hj
          · rw [List.getElem?_append_right (by omega), hdl, h1] at hj
            have hj32 : j - m * 42 < 42 := by have := (List.getElem?_eq_some_iff.1 hj).1; rwa [Hd.C_len hT.t32] at this
            have := (World.cells?_some hc).2.2 (j - m * 42) hj32
            rw [hj] at this
            rw [Addr.add_add, show m * 42 + (j - m * 42) = j from by omega] at this
            exact this
    obtain ⟨l, hl1, hl2, hl3⟩ := hrow len (Nat.le_refl _)
    have hspot : 0 < cap → a = ⟨a.block, a.off, none⟩ := fun h => by
      obtain ⟨T, hT, hc⟩ := hall 0 h
      have h0 := (World.cells?_some hc).2.2 0 (by decide)
      rw [List.getElem?_eq_getElem (show 0 < T.C.length by rw [Hd.C_len hT.t32]; decide)] at h0
      obtain ⟨ab, ao, spot⟩ := a
      have hspot : spot = none := by simpa [Addr.add] using World.cell?_spot h0
      rw [hspot]
    refine ⟨some a, len, cap, l, rfl, by omega, fun h40 => ⟨hl1, hl, h40, by omega, hl2, ?_⟩⟩
    rcases Nat.eq_zero_or_pos len with h0 | h0
    · exact .inl h0
    · right
      have ea := hspot (by omega)
      obtain ⟨T, hT, hc⟩ := hall 0 (by omega)
      refine ⟨a.block, a.off, by rw [← ea], fun j u hu => ?_, ?_⟩
      · have := hl3 j u hu
        rw [ea, Addr.add_mid] at this
        exact this
      · have h0 := (World.cells?_some hc).2.2 0 (by decide)
        rw [List.getElem?_eq_getElem (show 0 < T.C.length by rw [Hd.C_len hT.t32]; decide), ea, Addr.add_add, Addr.add_mid] at h0
        have := block_lt_of_cell h0
        exact this
end Frk

namespace Go.Proofs.YtkkkfkefbjpmaaaDoor
open Go Go.RowKit Go.Proofs Go.ChangeShapes Go.WideShapes Go.ChangeAt Frk
set_option maxRecDepth 100000

theorem lifted (os : Os) (started : os.Started) (H : Type) (enc : TypeId × Value → H) :
    ReturnsInHanded {} Tryd.checked os 8 .any (fun w args => (Rows.copiesSpecSpec.pre enc Tryd.prog Tryd.f8 [] false w args ∧ laidMetH Tryd.prog laid w) ∧ sizedMet enc Tryd.prog Tryd.f8 (OpenSpec.ofChange Rows.copiesSpecSpec) false w args)
      (Rows.copiesSpecSpec.post enc Tryd.prog Tryd.f8 false true false false) := by
  refine returnsInHanded_of_change_and (C := Tryd.checked) (X := fun w _ => laidMetH Tryd.prog laid w) (fun _ _ _ hh h => h.of_heap hh) own started (by kernel_rfl) Tryd.func8
    (ChangeSpec.witness_shaped (enc := enc) (C := Tryd.checked) (os := os) (X := fun w _ => laidMetH Tryd.prog laid w) false (World.doorLaid Tryd.prog 400 os) #[.slice none 0 0, .slice none 0 0, .int .i64 0, .agg (List.toArray (.int .i64 0 :: .int .i64 0 :: .int .i64 0 :: .int .i64 0 :: .int .i64 0 :: .int .i64 0 :: .int .i64 0 :: .int .u8 0 :: .int .u8 0 :: .int .u8 0 :: .int .u8 0 :: .int .u8 0 :: .int .u8 0 :: .int .u8 0 :: .int .u8 0 :: .int .u8 0 :: .int .u8 0 :: .int .u8 0 :: .int .u8 0 :: .int .u8 0 :: .int .u8 0 :: .int .u8 0 :: .int .u8 0 :: .int .u8 0 :: .int .u8 0 :: .int .u8 0 :: .int .u8 0 :: .int .u8 0 :: .int .u8 0 :: .int .u8 0 :: .int .u8 0 :: .int .u8 0 :: .int .u8 0 :: .int .u8 0 :: .int .u8 0 :: .int .u8 0 :: .int .u8 0 :: .int .u8 0 :: .int .u8 0 :: .int .i64 0 :: .int .i64 0 :: .int .i64 0 :: [] : List Value) : Array Value), .agg (List.toArray (.int .i64 0 :: .int .i64 0 :: .int .i64 0 :: .int .i64 0 :: .int .i64 0 :: .int .i64 0 :: .int .i64 0 :: .int .u8 0 :: .int .u8 0 :: .int .u8 0 :: .int .u8 0 :: .int .u8 0 :: .int .u8 0 :: .int .u8 0 :: .int .u8 0 :: .int .u8 0 :: .int .u8 0 :: .int .u8 0 :: .int .u8 0 :: .int .u8 0 :: .int .u8 0 :: .int .u8 0 :: .int .u8 0 :: .int .u8 0 :: .int .u8 0 :: .int .u8 0 :: .int .u8 0 :: .int .u8 0 :: .int .u8 0 :: .int .u8 0 :: .int .u8 0 :: .int .u8 0 :: .int .u8 0 :: .int .u8 0 :: .int .u8 0 :: .int .u8 0 :: .int .u8 0 :: .int .u8 0 :: .int .u8 0 :: .int .i64 0 :: .int .i64 0 :: .int .i64 0 :: [] : List Value) : Array Value)] 8 rfl (World.shaped_of_RefB (by kernel_rfl) (by kernel_rfl)) (by kernel_rfl) (by kernel_rfl) (by kernel_rfl) (door_met os _)) ?_
  intro W base args ds gs before hval0 hW _ _ hL _
  have hval : ∀ (j : Nat) t v, Tryd.f8.params[j]? = some t → args[j]? = some v → Value.okWide Tryd.prog W .any base t v := hval0
  have hW' := hW
  obtain ⟨p, q, hA0, hV, rfl, hfz, hnd⟩ := hW
  have hA : DataW.TrodAll enc Tryd.prog W 0 (fun _ => true) true Tryd.f8.params.toList args.toList ds p := hA0
  rw [Tryd.params8] at hA hval
  obtain ⟨args⟩ := args
  obtain ⟨v0, vs0, d0, ds0, p0, q0, e0, rfl, rfl, h0, hr0⟩ := trodAll_cons hA
  obtain ⟨v1, vs1, d1, ds1, p1, q1, e1, rfl, rfl, h1, hr1⟩ := trodAll_cons hr0
  obtain ⟨v2, vs2, d2, ds2, p2, q2, e2, rfl, rfl, h2, hr2⟩ := trodAll_cons hr1
  obtain ⟨v3, vs3, d3, ds3, p3, q3, e3, rfl, rfl, h3, hr3⟩ := trodAll_cons hr2
  obtain ⟨v4, vs4, d4, ds4, p4, q4, e4, rfl, rfl, h4, hr4⟩ := trodAll_cons hr3
  obtain ⟨rfl, rfl, rfl⟩ := trodAll_nil hr4
  obtain rfl : args = [v0, v1, v2, v3, v4] := by simpa [e1, e2, e3, e4] using e0
  obtain ⟨a0, n0, c0, l0, rfl, m0, wx0⟩ := keys_open (hval 0 65 v0 rfl rfl) h0
  obtain ⟨a1, n1, c1, l1, rfl, m1, wx1⟩ := hands_open (hval 1 66 v1 rfl rfl) h1
  obtain ⟨x2, rfl, wx2⟩ := int_open (hval 2 3 v2 rfl rfl) h2
  obtain ⟨x3, rfl, k3⟩ := hand_open (hval 3 29 v3 rfl rfl) h3
  obtain ⟨x4, rfl, k4⟩ := hand_open (hval 4 29 v4 rfl rfl) h4
  obtain ⟨rfl, rfl⟩ := trodVars_none hV
  have hG := glob_of_laid hL
  refine (law_copiesSpec n1 c1 n0 c0 a1 a0 l1 l0 x2 x3 x4 W hG wx0 wx1 k3 k4).mono fun e W' ⟨he, hb⟩ => ?_
  subst he
  exact ⟨_, rfl, law_fin (by rw [Tryd.params8]; simp only [List.mem_cons, List.not_mem_nil, or_false]; intro t ht; rcases ht with rfl | rfl | rfl | rfl | rfl <;> exact ⟨by kernel_rfl, of_decide_eq_true (by kernel_rfl)⟩) (by kernel_rfl) rfl rfl hW' hb⟩

theorem copiesSpec_row : Rows.CopiesSpecSaid :=
  OpenClaim.holds_of_wide 8 Tryd.f8 rfl rfl rfl rfl rfl rfl rfl ⟨rfl, rfl, rfl, rfl, rfl⟩ rfl rfl rfl rfl rfl (by kernel_rfl) Tryd.func8 (by kernel_rfl)
    (of_decide_eq_true (by kernel_rfl)) (by unfold Func.isWrapper; first | (rw [if_pos (by decide +kernel)]; kernel_rfl) | (rw [if_neg (by decide +kernel)]; exact ⟨rfl, rfl⟩))
    (fun os started H enc _ => lifted os started H enc)

theorem copiesSpec_holds : Rows.CopiesSpecCardSaid :=
  Claim7.holds_tied_plain_at .later [] [.data, .data] true Rows.copiesSpecCard.stood.harness true
    copiesSpec_row (fun _ h => by cases h) (by kernel_rfl) (fun _ h => by cases h) copiesSpec_row_tie rfl ⟨rfl, rfl⟩ (by kernel_rfl) rfl
    (fun f fn hf hfn => by
      obtain rfl : f = 8 := Option.some.inj ((show Tryd.prog.funcNamed "franking/frankinglaw51.CopiesSpec" = some 8 by kernel_rfl).symm.trans hf) |>.symm
      obtain rfl : fn = Tryd.f8 := (Option.some.inj (Tryd.func8.symm.trans hfn)).symm
      exact ⟨by kernel_rfl, fun j t ht => by
        rw [Tryd.params8] at ht
        have hm : t ∈ [65, 66, 3, 29, 29] := by simpa using Array.mem_of_getElem? ht
        have hall : ([65, 66, 3, 29, 29].all fun u => !Tryd.prog.wantsStandIn u) = true := by kernel_rfl
        exact (show Tryd.prog.wantsStandIn t = false by simpa using List.all_eq_true.1 hall t hm)⟩)
    (by kernel_rfl)
#print axioms copiesSpec_holds
end Go.Proofs.YtkkkfkefbjpmaaaDoor
