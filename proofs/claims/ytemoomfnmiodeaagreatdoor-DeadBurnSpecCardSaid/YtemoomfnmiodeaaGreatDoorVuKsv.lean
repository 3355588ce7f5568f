/- Law 45: the examples, walked (printed by gensk.py). -/
import Derived.Test.YtemoomfnmiodeaaGreatDoorVugKsh
namespace Frk
open Go Go.RowKit Go.Proofs
set_option maxRecDepth 100000

set_option maxHeartbeats 16000000 in
theorem sane45_any (w : World) (hG : Glob w) : Calls Tryz.prog 6 #[] w fun e w' => e = .returned (.bool true) ∧ Below w.heap.size w w' := by
  obtain ⟨a, ha⟩ : ∃ a, a = exK 3 9 := ⟨_, rfl⟩
  obtain ⟨b, hb0⟩ : ∃ b, b = exK 5 10 := ⟨_, rfl⟩
  have H2 : Seal (Two a b) := ⟨by rw [ha, hb0]; exact two_ex⟩
  have HOK : Seal (a.ok ∧ b.ok) := ⟨by rw [ha, hb0]; exact ⟨exK_ok ⟨by decide, by decide⟩ ⟨by decide, by decide⟩, exK_ok ⟨by decide, by decide⟩ ⟨by decide, by decide⟩⟩⟩
  have HG : Seal (∀ W, Below w.heap.size w W → Glob W) := ⟨fun W h => hG.below h⟩
  obtain ⟨CA, hCA⟩ : ∃ C, C = a.C := ⟨_, rfl⟩
  obtain ⟨CB, hCB⟩ : ∃ C, C = b.C := ⟨_, rfl⟩
  have HC : Seal (CA = a.C ∧ CB = b.C) := ⟨hCA, hCB⟩
  have HKp : Seal ((∀ W, Below w.heap.size w W → Calls Tryz.prog 22 #[.int .i64 3, .int .i64 9] W fun e w' => e = .returned (.agg CA.toArray) ∧ Below W.heap.size W w') ∧ ∀ W, Below w.heap.size w W → Calls Tryz.prog 22 #[.int .i64 5, .int .i64 10] W fun e w' => e = .returned (.agg CB.toArray) ∧ Below W.heap.size W w') := ⟨⟨fun W h => by rw [hCA, ha]; exact kept45_any 3 9 W (HG.out W h) (by decide) (by decide), fun W h => by rw [hCB, hb0]; exact kept45_any 5 10 W (HG.out W h) (by decide) (by decide)⟩⟩
  have lA : CA.length = 38 := by rw [hCA]; exact Ltr.C_len HOK.out.1.t32
  have lB : CB.length = 38 := by rw [hCB]; exact Ltr.C_len HOK.out.2.t32
  have HLn : Seal ((∀ C ∈ [CA, CB], C.length = 38) ∧ (∀ C ∈ [CB], C.length = 38) ∧ (∀ C ∈ [CA, CA], C.length = 38) ∧ (∀ x ∈ [a, b], x.C.length = 38) ∧ (∀ x ∈ [b], x.C.length = 38) ∧ ∀ x ∈ [a, a], x.C.length = 38) := ⟨by
    refine ⟨fun C h => ?_, fun C h => ?_, fun C h => ?_, fun x h => ?_, fun x h => ?_, fun x h => ?_⟩
    all_goals simp only [List.mem_cons, List.not_mem_nil, or_false, or_self] at h
    · rcases h with rfl | rfl
      · exact lA
      · exact lB
    · rw [h]; exact lB
    · rw [h]; exact lA
    · rcases h with rfl | rfl
      · exact Ltr.C_len HOK.out.1.t32
      · exact Ltr.C_len HOK.out.2.t32
    · rw [h]; exact Ltr.C_len HOK.out.2.t32
    · rw [h]; exact Ltr.C_len HOK.out.1.t32⟩
  have HLo : Seal ((∀ x ∈ [a, b], x.ok) ∧ (∀ x ∈ [b], x.ok) ∧ ∀ x ∈ [a, a], x.ok) := ⟨by
    refine ⟨fun x h => ?_, fun x h => ?_, fun x h => ?_⟩
    all_goals simp only [List.mem_cons, List.not_mem_nil, or_false, or_self] at h
    · rcases h with rfl | rfl
      · exact HOK.out.1
      · exact HOK.out.2
    · rw [h]; exact HOK.out.2
    · rw [h]; exact HOK.out.1⟩
  have IA : Seal ((Tryz.prog.info? 30).map (·.size) = some CA.length ∧ ((List.toArray (.int .i64 0 :: .int .i64 0 :: .int .i64 0 :: .int .i64 0 :: .int .i64 0 :: .int .i64 0 :: .int .u8 0 :: .int .u8 0 :: .int .u8 0 :: .int .u8 0 :: .int .u8 0 :: .int .u8 0 :: .int .u8 0 :: .int .u8 0 :: .int .u8 0 :: .int .u8 0 :: .int .u8 0 :: .int .u8 0 :: .int .u8 0 :: .int .u8 0 :: .int .u8 0 :: .int .u8 0 :: .int .u8 0 :: .int .u8 0 :: .int .u8 0 :: .int .u8 0 :: .int .u8 0 :: .int .u8 0 :: .int .u8 0 :: .int .u8 0 :: .int .u8 0 :: .int .u8 0 :: .int .u8 0 :: .int .u8 0 :: .int .u8 0 :: .int .u8 0 :: .int .u8 0 :: .int .u8 0 :: [] : List Value) : Array Value) : Array Value).size = CA.toArray.size ∧ CA.toArray.all (·.oneCell') = true) := ⟨by rw [hCA]; exact Ltr.info HOK.out.1.t32, by rw [ktzz_len, List.size_toArray, lA], by rw [hCA]; exact all_oneCell_toArray (Ltr.C_one _)⟩
  have IB : Seal ((Tryz.prog.info? 30).map (·.size) = some CB.length ∧ ((List.toArray (.int .i64 0 :: .int .i64 0 :: .int .i64 0 :: .int .i64 0 :: .int .i64 0 :: .int .i64 0 :: .int .u8 0 :: .int .u8 0 :: .int .u8 0 :: .int .u8 0 :: .int .u8 0 :: .int .u8 0 :: .int .u8 0 :: .int .u8 0 :: .int .u8 0 :: .int .u8 0 :: .int .u8 0 :: .int .u8 0 :: .int .u8 0 :: .int .u8 0 :: .int .u8 0 :: .int .u8 0 :: .int .u8 0 :: .int .u8 0 :: .int .u8 0 :: .int .u8 0 :: .int .u8 0 :: .int .u8 0 :: .int .u8 0 :: .int .u8 0 :: .int .u8 0 :: .int .u8 0 :: .int .u8 0 :: .int .u8 0 :: .int .u8 0 :: .int .u8 0 :: .int .u8 0 :: .int .u8 0 :: [] : List Value) : Array Value) : Array Value).size = CB.toArray.size ∧ CB.toArray.all (·.oneCell') = true) := ⟨by rw [hCB]; exact Ltr.info HOK.out.2.t32, by rw [ktzz_len, List.size_toArray, lB], by rw [hCB]; exact all_oneCell_toArray (Ltr.C_one _)⟩
  obtain ⟨CR, hCR⟩ : ∃ C, C = retC a.L a.K a.P a.Q a.T := ⟨_, rfl⟩
  have HCR : Seal (CR = retC a.L a.K a.P a.Q a.T ∧ CA.drop 2 = CR) := ⟨hCR, by rw [hCA, hCR]; rfl⟩
  have iR : (Tryz.prog.info? 28).map (·.size) = some CR.length := by rw [hCR]; exact retC_info HOK.out.1.t32
  obtain ⟨c0, d0, c1, d1, c2, d2, hU⟩ := H2.out.use
  have HU := Seal.mk hU
  obtain ⟨SX, hSX⟩ : ∃ S : List Value, S = [.int .i64 c0, .int .i64 d0, .int .i64 c1, .int .i64 d1, .int .i64 c2, .int .i64 d2] := ⟨_, rfl⟩
  have HSX := Seal.mk hSX
  have IS : Seal ((Tryz.prog.info? 44).map (·.size) = some SX.length ∧ (#[.int .i64 0, .int .i64 0, .int .i64 0, .int .i64 0, .int .i64 0, .int .i64 0] : Array Value).size = SX.toArray.size ∧ SX.toArray.all (·.oneCell') = true ∧ ∀ w, (Op.equalIn 10000 44 (.agg SX.toArray) (.agg SX.toArray)).run Tryz.prog w = .ok true w) := ⟨by rw [hSX]; kernel_rfl, by rw [hSX]; rfl, by rw [hSX]; simp [Value.oneCell'], fun w => by rw [hSX]; exact eqSe_k c0 d0 c1 d1 c2 d2 w⟩
  obtain ⟨SZ, hSZ⟩ : ∃ S : List Value, S = [.int .i64 0, .int .i64 0, .int .i64 0, .int .i64 0, .int .i64 0, .int .i64 0] := ⟨_, rfl⟩
  have HSZ := Seal.mk hSZ
  have IZ : Seal ((Tryz.prog.info? 44).map (·.size) = some SZ.length ∧ (#[.int .i64 0, .int .i64 0, .int .i64 0, .int .i64 0, .int .i64 0, .int .i64 0] : Array Value).size = SZ.toArray.size ∧ SZ.toArray.all (·.oneCell') = true) := ⟨by rw [hSZ]; kernel_rfl, by rw [hSZ], by rw [hSZ]; simp [Value.oneCell']⟩
  obtain ⟨D0, hD0⟩ : ∃ D, D = rootB [] := ⟨_, rfl⟩
  have lD0 : D0.length = 32 := by rw [hD0]; exact rootB_len _
  obtain ⟨E0, hE0⟩ : ∃ E : List Value, E = D0.map B := ⟨_, rfl⟩
  have HD0 : Seal (D0 = rootB [] ∧ E0 = D0.map B ∧ D0.length = 32) := ⟨hD0, hE0, lD0⟩
  have ID0 : Seal ((Tryz.prog.info? 26).map (·.size) = some E0.length ∧ (#[.int .u8 0, .int .u8 0, .int .u8 0, .int .u8 0, .int .u8 0, .int .u8 0, .int .u8 0, .int .u8 0, .int .u8 0, .int .u8 0, .int .u8 0, .int .u8 0, .int .u8 0, .int .u8 0, .int .u8 0, .int .u8 0, .int .u8 0, .int .u8 0, .int .u8 0, .int .u8 0, .int .u8 0, .int .u8 0, .int .u8 0, .int .u8 0, .int .u8 0, .int .u8 0, .int .u8 0, .int .u8 0, .int .u8 0, .int .u8 0, .int .u8 0, .int .u8 0] : Array Value).size = E0.toArray.size ∧ E0.toArray.all (·.oneCell') = true ∧ ∀ w, (Op.equalIn 10000 26 (.agg E0.toArray) (.agg E0.toArray)).run Tryz.prog w = .ok true w) := ⟨by rw [hE0]; exact dg_info _ lD0, by show 32 = _; rw [hE0, List.size_toArray, List.length_map, lD0], by rw [hE0]; simp [Value.oneCell'], fun w => by rw [hE0, eqDg _ _ lD0 lD0]; simp⟩
  clear hD0 hE0 lD0
  obtain ⟨D1, hD1⟩ : ∃ D, D = rootB [txK a, txK b] := ⟨_, rfl⟩
  have lD1 : D1.length = 32 := by rw [hD1]; exact rootB_len _
  obtain ⟨E1, hE1⟩ : ∃ E : List Value, E = D1.map B := ⟨_, rfl⟩
  have HD1 : Seal (D1 = rootB [txK a, txK b] ∧ E1 = D1.map B ∧ D1.length = 32) := ⟨hD1, hE1, lD1⟩
  have ID1 : Seal ((Tryz.prog.info? 26).map (·.size) = some E1.length ∧ (#[.int .u8 0, .int .u8 0, .int .u8 0, .int .u8 0, .int .u8 0, .int .u8 0, .int .u8 0, .int .u8 0, .int .u8 0, .int .u8 0, .int .u8 0, .int .u8 0, .int .u8 0, .int .u8 0, .int .u8 0, .int .u8 0, .int .u8 0, .int .u8 0, .int .u8 0, .int .u8 0, .int .u8 0, .int .u8 0, .int .u8 0, .int .u8 0, .int .u8 0, .int .u8 0, .int .u8 0, .int .u8 0, .int .u8 0, .int .u8 0, .int .u8 0, .int .u8 0] : Array Value).size = E1.toArray.size ∧ E1.toArray.all (·.oneCell') = true ∧ ∀ w, (Op.equalIn 10000 26 (.agg E1.toArray) (.agg E1.toArray)).run Tryz.prog w = .ok true w) := ⟨by rw [hE1]; exact dg_info _ lD1, by show 32 = _; rw [hE1, List.size_toArray, List.length_map, lD1], by rw [hE1]; simp [Value.oneCell'], fun w => by rw [hE1, eqDg _ _ lD1 lD1]; simp⟩
  clear hD1 hE1 lD1
  obtain ⟨D2, hD2⟩ : ∃ D, D = rootB [txK b] := ⟨_, rfl⟩
  have lD2 : D2.length = 32 := by rw [hD2]; exact rootB_len _
  obtain ⟨E2, hE2⟩ : ∃ E : List Value, E = D2.map B := ⟨_, rfl⟩
  have HD2 : Seal (D2 = rootB [txK b] ∧ E2 = D2.map B ∧ D2.length = 32) := ⟨hD2, hE2, lD2⟩
  have ID2 : Seal ((Tryz.prog.info? 26).map (·.size) = some E2.length ∧ (#[.int .u8 0, .int .u8 0, .int .u8 0, .int .u8 0, .int .u8 0, .int .u8 0, .int .u8 0, .int .u8 0, .int .u8 0, .int .u8 0, .int .u8 0, .int .u8 0, .int .u8 0, .int .u8 0, .int .u8 0, .int .u8 0, .int .u8 0, .int .u8 0, .int .u8 0, .int .u8 0, .int .u8 0, .int .u8 0, .int .u8 0, .int .u8 0, .int .u8 0, .int .u8 0, .int .u8 0, .int .u8 0, .int .u8 0, .int .u8 0, .int .u8 0, .int .u8 0] : Array Value).size = E2.toArray.size ∧ E2.toArray.all (·.oneCell') = true ∧ ∀ w, (Op.equalIn 10000 26 (.agg E2.toArray) (.agg E2.toArray)).run Tryz.prog w = .ok true w) := ⟨by rw [hE2]; exact dg_info _ lD2, by show 32 = _; rw [hE2, List.size_toArray, List.length_map, lD2], by rw [hE2]; simp [Value.oneCell'], fun w => by rw [hE2, eqDg _ _ lD2 lD2]; simp⟩
  clear hD2 hE2 lD2
  obtain ⟨BB, hBB⟩ : ∃ x : Brn, x = ⟨D1, D2, [3]⟩ := ⟨_, rfl⟩
  have HBB : Seal (BB = ⟨D1, D2, [3]⟩ ∧ BB.B.length = 32 ∧ BB.A.length = 32) := ⟨hBB, by rw [hBB]; exact HD1.out.2.2, by rw [hBB]; exact HD2.out.2.2⟩
  have ut := Tryz.underlying30
  have ur := Tryz.underlying28
  have ud := Tryz.underlying26
  have us := Tryz.underlying44
  have ub := Tryz.underlying50
  have HB : Seal (Below w.heap.size w w) := ⟨Below.refl _ _⟩
  clear hG ha hb0 hCA hCB hCR hU hSX hSZ hBB lA lB
  go_enter Tryz.func6, Tryz.ntmps6
  go_wp2_with fail
  refine (HKp.out.1 w HB.out).mono ?_
  rintro e w1 ⟨rfl, hb⟩
  have HB := Seal.mk (HB.out.trans ((hb).mono HB.out.size))
  clear hb
  go_wp2_with fail
  refine (HKp.out.2 w1 HB.out).mono ?_
  rintro e w2 ⟨rfl, hb⟩
  have HB := Seal.mk (HB.out.trans ((hb).mono HB.out.size))
  clear hb HKp
  obtain ⟨V2, nb, n1, n2, n3, kA, kB⟩ := newv2 w2 (List.toArray (.int .i64 0 :: .int .i64 0 :: .int .i64 0 :: .int .i64 0 :: .int .i64 0 :: .int .i64 0 :: .int .u8 0 :: .int .u8 0 :: .int .u8 0 :: .int .u8 0 :: .int .u8 0 :: .int .u8 0 :: .int .u8 0 :: .int .u8 0 :: .int .u8 0 :: .int .u8 0 :: .int .u8 0 :: .int .u8 0 :: .int .u8 0 :: .int .u8 0 :: .int .u8 0 :: .int .u8 0 :: .int .u8 0 :: .int .u8 0 :: .int .u8 0 :: .int .u8 0 :: .int .u8 0 :: .int .u8 0 :: .int .u8 0 :: .int .u8 0 :: .int .u8 0 :: .int .u8 0 :: .int .u8 0 :: .int .u8 0 :: .int .u8 0 :: .int .u8 0 :: .int .u8 0 :: .int .u8 0 :: [] : List Value) : Array Value) (List.toArray (.int .i64 0 :: .int .i64 0 :: .int .i64 0 :: .int .i64 0 :: .int .i64 0 :: .int .i64 0 :: .int .u8 0 :: .int .u8 0 :: .int .u8 0 :: .int .u8 0 :: .int .u8 0 :: .int .u8 0 :: .int .u8 0 :: .int .u8 0 :: .int .u8 0 :: .int .u8 0 :: .int .u8 0 :: .int .u8 0 :: .int .u8 0 :: .int .u8 0 :: .int .u8 0 :: .int .u8 0 :: .int .u8 0 :: .int .u8 0 :: .int .u8 0 :: .int .u8 0 :: .int .u8 0 :: .int .u8 0 :: .int .u8 0 :: .int .u8 0 :: .int .u8 0 :: .int .u8 0 :: .int .u8 0 :: .int .u8 0 :: .int .u8 0 :: .int .u8 0 :: .int .u8 0 :: .int .u8 0 :: [] : List Value) : Array Value) CA CB 30 30
  have HB := Seal.mk (HB.out.trans ((nb).mono HB.out.size))
  have KA := Seal.mk kA
  have KB := Seal.mk kB
  clear nb kA kB
  go_wp2_with (first | (refine wpList_store_row rfl 30 (.tmp 1) (.tmp 30) rfl w2.heap.size CA.toArray rfl rfl 30 _ n1 (by simpa using IA.out.1) IA.out.2.1 IA.out.2.2 ?_; clear n1) | (refine wpList_store_row rfl 30 (.tmp 2) (.tmp 31) rfl (w2.heap.size + 1) CB.toArray rfl rfl 30 _ n2 (by simpa using IB.out.1) IB.out.2.1 IB.out.2.2 ?_; rw [n3]; clear n2 n3; obtain ⟨gA, hgA⟩ : ∃ g, g = w2.heap.size := ⟨_, rfl⟩; obtain ⟨gB, hgB⟩ : ∃ g, g = w2.heap.size + 1 := ⟨_, rfl⟩; rw [← hgA] at KA; rw [← hgB] at KB; rw [← hgB, ← hgA]; clear hgA hgB) | (refine wpList_load_mid_g (by kernel_rfl) 30 (.tmp 1) rfl gA 0 rfl CA _ KA.out.at ut rfl IA.out.1 ?_; (try simp only [Act.put, List.setIfInBounds_toArray, List.set_cons_zero, List.set_cons_succ])) | (refine wpList_load_mid_g (by kernel_rfl) 30 (.tmp 2) rfl gB 0 rfl CB _ KB.out.at ut rfl IB.out.1 ?_; (try simp only [Act.put, List.setIfInBounds_toArray, List.set_cons_zero, List.set_cons_succ])) | (refine wpList_bslice (by kernel_rfl) 22 30 2 38 #[(0, .tmp 32), (1, .tmp 33)] rfl [CA, CB] Tryz.underlying22 size_kt _ zero_kt rfl rfl HLn.out.1 (by decide) (by decide) rfl ?_; obtain ⟨V3, gS, hg0, e0, nb, k0⟩ := litk V2 [a, b] [CA, CB] (by simp [HC.out.1, HC.out.2]) HLn.out.2.2.2.1 (by simp); rw [e0, ← hg0]; clear hg0 e0; have HB := Seal.mk (HB.out.trans ((nb).mono HB.out.size)); have KA := Seal.mk (KA.out.step (nb)); have KB := Seal.mk (KB.out.step (nb)); have KS := Seal.mk k0; clear nb k0; (try simp only [Act.put, List.setIfInBounds_toArray, List.set_cons_zero, List.set_cons_succ])))
  have h3 : Calls Tryz.prog 8 #[.slice none 0 0] V3 fun e w' => e = .returned (.tuple #[.agg E0.toArray, .int .i64 0]) ∧ Below V3.heap.size V3 w' := by
    have h := kroot_any none 0 0 [] V3 (HG.out _ HB.out) (isC_nilK _) (by simp) (by decide)
    rwa [H2.out.root.2.2, chkL_nil, ← HD0.out.1, ← HD0.out.2.1] at h
  refine (h3).mono ?_
  rintro e w4 ⟨rfl, hb⟩
  have HB := Seal.mk (HB.out.trans ((hb).mono HB.out.size))
  have KA := Seal.mk (KA.out.step (hb))
  have KB := Seal.mk (KB.out.step (hb))
  have KS := Seal.mk (KS.out.step (hb))
  clear h3 hb
  obtain ⟨V5, g4, hg, n1, n2, n3, n4, n5, n6⟩ := newv w4 #[.int .u8 0, .int .u8 0, .int .u8 0, .int .u8 0, .int .u8 0, .int .u8 0, .int .u8 0, .int .u8 0, .int .u8 0, .int .u8 0, .int .u8 0, .int .u8 0, .int .u8 0, .int .u8 0, .int .u8 0, .int .u8 0, .int .u8 0, .int .u8 0, .int .u8 0, .int .u8 0, .int .u8 0, .int .u8 0, .int .u8 0, .int .u8 0, .int .u8 0, .int .u8 0, .int .u8 0, .int .u8 0, .int .u8 0, .int .u8 0, .int .u8 0, .int .u8 0] E0 26
  have HB := Seal.mk (HB.out.trans ((n4).mono HB.out.size))
  have KA := Seal.mk (KA.out.step (n4))
  have KB := Seal.mk (KB.out.step (n4))
  have KS := Seal.mk (KS.out.step (n4))
  have K4 := Seal.mk n3
  have hgn := hg.symm
  clear hg n3 n4 n5 n6
  go_wp2_with (first | ((try rw [hgn]); refine wpList_store_row rfl 26 (.tmp 4) (.tmp 37) rfl g4 E0.toArray rfl rfl 26 _ n2 (by simpa using ID0.out.1) ID0.out.2.1 ID0.out.2.2.1 ?_; rw [n1]; clear n1 n2 hgn; (try simp only [Act.put])) | (refine wpList_load_mid_g (by kernel_rfl) 30 (.tmp 2) rfl gB 0 rfl CB _ KB.out.at ut rfl IB.out.1 ?_; (try simp only [Act.put, List.setIfInBounds_toArray, List.set_cons_zero, List.set_cons_succ])) | (refine wpList_load_mid_g (by kernel_rfl) 30 (.tmp 1) rfl gA 0 rfl CA _ KA.out.at ut rfl IA.out.1 ?_; (try simp only [Act.put, List.setIfInBounds_toArray, List.set_cons_zero, List.set_cons_succ])) | (refine wpList_bslice (by kernel_rfl) 22 30 1 38 #[(0, .tmp 40)] rfl [CB] Tryz.underlying22 size_kt _ zero_kt rfl rfl HLn.out.2.1 (by decide) (by decide) rfl ?_; obtain ⟨X4, g41, hg0, e0, nb, k0⟩ := litk V5 [b] [CB] (by simp [HC.out.2]) HLn.out.2.2.2.2.1 (by simp); rw [e0, ← hg0]; clear hg0 e0; have HB := Seal.mk (HB.out.trans ((nb).mono HB.out.size)); have KA := Seal.mk (KA.out.step (nb)); have KB := Seal.mk (KB.out.step (nb)); have KS := Seal.mk (KS.out.step (nb)); have K4 := Seal.mk (K4.out.step (nb)); have K41 := Seal.mk k0; clear nb k0; (try simp only [Act.put, List.setIfInBounds_toArray, List.set_cons_zero, List.set_cons_succ])))
  have hk : Calls Tryz.prog 10 #[.slice (some ⟨g41, 0, none⟩) 1 1, .agg CA.toArray] X4 (KeptPost [a, b] 0 X4) := by
    have h := kkeep_any (some ⟨g41, 0, none⟩) 1 1 [b] a X4 (HG.out _ HB.out) K41.out.at HLo.out.2.1 HOK.out.1
    rwa [H2.out.keep1.1, H2.out.keep1.2, ← HC.out.1] at h
  refine (hk).mono ?_
  rintro e w5 ⟨a6, m6, q6, rfl, hi, hb⟩
  have HB := Seal.mk (HB.out.trans ((hb).mono HB.out.size))
  have KA := Seal.mk (KA.out.step (hb))
  have KB := Seal.mk (KB.out.step (hb))
  have KS := Seal.mk (KS.out.step (hb))
  have K4 := Seal.mk (K4.out.step (hb))
  have K41 := Seal.mk (K41.out.step (hb))
  have K6 := Seal.mk (ko_isC hi.out)
  clear hk hi hb
  clear K41
  go_wp2_with (refine wpList_load_mid_g (by kernel_rfl) 30 (.tmp 2) rfl gB 0 rfl CB _ KB.out.at ut rfl IB.out.1 ?_; (try simp only [Act.put, List.setIfInBounds_toArray, List.set_cons_zero, List.set_cons_succ]))
  have hk : Calls Tryz.prog 10 #[.slice (some ⟨gS, 0, none⟩) 2 2, .agg CB.toArray] w5 (KeptPost [] 181 w5) := by
    have h := kkeep_any (some ⟨gS, 0, none⟩) 2 2 [a, b] b w5 (HG.out _ HB.out) KS.out.at HLo.out.1 HOK.out.2
    rwa [H2.out.keep2.1, H2.out.keep2.2, ← HC.out.2] at h
  refine (hk).mono ?_
  rintro e w6 ⟨a8, m8, q8, rfl, hi, hb⟩
  have HB := Seal.mk (HB.out.trans ((hb).mono HB.out.size))
  have KA := Seal.mk (KA.out.step (hb))
  have KB := Seal.mk (KB.out.step (hb))
  have KS := Seal.mk (KS.out.step (hb))
  have K4 := Seal.mk (K4.out.step (hb))
  have K6 := Seal.mk (K6.out.step (hb))
  clear hk hi hb
  go_wp2_with fail
  have hk : Calls Tryz.prog 10 #[.slice none 0 0, .agg (List.toArray (.int .i64 0 :: .int .i64 0 :: .int .i64 0 :: .int .i64 0 :: .int .i64 0 :: .int .i64 0 :: .int .u8 0 :: .int .u8 0 :: .int .u8 0 :: .int .u8 0 :: .int .u8 0 :: .int .u8 0 :: .int .u8 0 :: .int .u8 0 :: .int .u8 0 :: .int .u8 0 :: .int .u8 0 :: .int .u8 0 :: .int .u8 0 :: .int .u8 0 :: .int .u8 0 :: .int .u8 0 :: .int .u8 0 :: .int .u8 0 :: .int .u8 0 :: .int .u8 0 :: .int .u8 0 :: .int .u8 0 :: .int .u8 0 :: .int .u8 0 :: .int .u8 0 :: .int .u8 0 :: .int .u8 0 :: .int .u8 0 :: .int .u8 0 :: .int .u8 0 :: .int .u8 0 :: .int .u8 0 :: [] : List Value) : Array Value)] w6 (KeptPost [] 450 w6) := by
    have h := kkeep_any none 0 0 [] zLtr w6 (HG.out _ HB.out) (isC_nilK _) (by simp) zLtr_ok
    rwa [keep0.1, keep0.2, ← zLtr_C]  at h
  refine (hk).mono ?_
  rintro e w7 ⟨a10, m10, q10, rfl, hi, hb⟩
  have HB := Seal.mk (HB.out.trans ((hb).mono HB.out.size))
  have KA := Seal.mk (KA.out.step (hb))
  have KB := Seal.mk (KB.out.step (hb))
  have KS := Seal.mk (KS.out.step (hb))
  have K4 := Seal.mk (K4.out.step (hb))
  have K6 := Seal.mk (K6.out.step (hb))
  clear hk hi hb
  go_wp2_with fail
  have hk : Calls Tryz.prog 15 #[.slice (some ⟨gS, 0, none⟩) 2 2, .int .i64 3, .agg #[.int .i64 4, .int .i64 5], .agg #[.int .i64 1, .int .i64 2, .int .i64 3]] w7 (fun e w' => ∃ a n c, e = .returned (.tuple #[.slice a n c, .agg SX.toArray, .int .i64 0]) ∧ Seal (IsC Ltr.C 38 w' a n c [b]) ∧ Below w7.heap.size w7 w') := by
    have h := ksend_any (some ⟨gS, 0, none⟩) 2 2 [a, b] 3 4 5 1 2 3 w7 (HG.out _ HB.out) KS.out.at HLo.out.1 ⟨by decide, by decide⟩ ⟨by decide, by decide⟩ ⟨by decide, by decide⟩
    rw [H2.out.send1 HU.out] at h
    rw [HSX.out]
    exact h.mono fun e w' hp => sendPost_c hp
  refine (hk).mono ?_
  rintro e w8 ⟨a12, m12, q12, rfl, hi, hb⟩
  have HB := Seal.mk (HB.out.trans ((hb).mono HB.out.size))
  have KA := Seal.mk (KA.out.step (hb))
  have KB := Seal.mk (KB.out.step (hb))
  have KS := Seal.mk (KS.out.step (hb))
  have K4 := Seal.mk (K4.out.step (hb))
  have K6 := Seal.mk (K6.out.step (hb))
  have K12 := Seal.mk (ko_isC hi.out)
  clear hk hi hb
  obtain ⟨V9, g13, hg, n1, n2, n3, n4, n5, n6⟩ := newv w8 #[.int .i64 0, .int .i64 0, .int .i64 0, .int .i64 0, .int .i64 0, .int .i64 0] SX 44
  have HB := Seal.mk (HB.out.trans ((n4).mono HB.out.size))
  have KA := Seal.mk (KA.out.step (n4))
  have KB := Seal.mk (KB.out.step (n4))
  have KS := Seal.mk (KS.out.step (n4))
  have K4 := Seal.mk (K4.out.step (n4))
  have K6 := Seal.mk (K6.out.step (n4))
  have K12 := Seal.mk (K12.out.step (n4))
  have K13 := Seal.mk n3
  have hgn := hg.symm
  clear hg n3 n4 n5 n6
  go_wp2_with (first | ((try rw [hgn]); refine wpList_store_row rfl 44 (.tmp 13) (.tmp 63) rfl g13 SX.toArray rfl rfl 44 _ n2 (by simpa using IS.out.1) IS.out.2.1 IS.out.2.2.1 ?_; rw [n1]; clear n1 n2 hgn; (try simp only [Act.put])) | (refine wpList_load_mid_g (by kernel_rfl) 28 (.tmp 66) rfl gA 2 rfl CR _ (by have h := rangeAt_drop KA.out.at 2; rw [HCR.out.2] at h; simpa using h) ur rfl iR ?_; (try simp only [Act.put, List.setIfInBounds_toArray, List.set_cons_zero, List.set_cons_succ])))
  have hk : Calls Tryz.prog 23 #[.agg CR.toArray, .agg #[.int .i64 4, .int .i64 5], .agg #[.int .i64 1, .int .i64 2, .int .i64 3]] V9 fun e w' => e = .returned (.tuple #[.agg SX.toArray, .int .i64 0]) ∧ Below V9.heap.size V9 w' := by
    rw [HCR.out.1, HSX.out]
    exact ouse_any a.L a.K a.P a.Q 4 5 1 2 3 c0 d0 c1 d1 c2 d2 0 a.T V9 (HG.out _ HB.out) HOK.out.1.l HOK.out.1.k HOK.out.1.p HOK.out.1.q HOK.out.1.t32 ⟨by decide, by decide⟩ ⟨by decide, by decide⟩ ⟨by decide, by decide⟩ ⟨HU.out⟩
  refine (hk).mono ?_
  rintro e w9 ⟨rfl, hb⟩
  have HB := Seal.mk (HB.out.trans ((hb).mono HB.out.size))
  have KA := Seal.mk (KA.out.step (hb))
  have KB := Seal.mk (KB.out.step (hb))
  have KS := Seal.mk (KS.out.step (hb))
  have K4 := Seal.mk (K4.out.step (hb))
  have K6 := Seal.mk (K6.out.step (hb))
  have K12 := Seal.mk (K12.out.step (hb))
  have K13 := Seal.mk (K13.out.step (hb))
  clear hk hb
  obtain ⟨V10, g15, hg, n1, n2, n3, n4, n5, n6⟩ := newv w9 #[.int .i64 0, .int .i64 0, .int .i64 0, .int .i64 0, .int .i64 0, .int .i64 0] SX 44
  have HB := Seal.mk (HB.out.trans ((n4).mono HB.out.size))
  have KA := Seal.mk (KA.out.step (n4))
  have KB := Seal.mk (KB.out.step (n4))
  have KS := Seal.mk (KS.out.step (n4))
  have K4 := Seal.mk (K4.out.step (n4))
  have K6 := Seal.mk (K6.out.step (n4))
  have K12 := Seal.mk (K12.out.step (n4))
  have K13 := Seal.mk (K13.out.step (n4))
  have K15 := Seal.mk n3
  have hgn := hg.symm
  clear hg n3 n4 n5 n6
  go_wp2_with ((try rw [hgn]); refine wpList_store_row rfl 44 (.tmp 15) (.tmp 71) rfl g15 SX.toArray rfl rfl 44 _ n2 (by simpa using IS.out.1) IS.out.2.1 IS.out.2.2.1 ?_; rw [n1]; clear n1 n2 hgn; (try simp only [Act.put]))
  have hk : Calls Tryz.prog 15 #[.slice a12 m12 q12, .int .i64 3, .agg #[.int .i64 4, .int .i64 5], .agg #[.int .i64 1, .int .i64 2, .int .i64 3]] V10 (fun e w' => ∃ a n c, e = .returned (.tuple #[.slice a n c, .agg SZ.toArray, .int .i64 1]) ∧ Seal (IsC Ltr.C 38 w' a n c []) ∧ Below V10.heap.size V10 w') := by
    have h := ksend_any a12 m12 q12 [b] 3 4 5 1 2 3 V10 (HG.out _ HB.out) K12.out.at HLo.out.2.1 ⟨by decide, by decide⟩ ⟨by decide, by decide⟩ ⟨by decide, by decide⟩
    rw [H2.out.send2] at h
    rw [HSZ.out]
    exact h.mono fun e w' hp => sendPost_c hp
  refine (hk).mono ?_
  rintro e w10 ⟨a17, m17, q17, rfl, hi, hb⟩
  have HB := Seal.mk (HB.out.trans ((hb).mono HB.out.size))
  have KA := Seal.mk (KA.out.step (hb))
  have KB := Seal.mk (KB.out.step (hb))
  have KS := Seal.mk (KS.out.step (hb))
  have K4 := Seal.mk (K4.out.step (hb))
  have K6 := Seal.mk (K6.out.step (hb))
  have K12 := Seal.mk (K12.out.step (hb))
  have K13 := Seal.mk (K13.out.step (hb))
  have K15 := Seal.mk (K15.out.step (hb))
  clear hk hi hb
  obtain ⟨V11, g18, hg, n1, n2, n3, n4, n5, n6⟩ := newv w10 #[.int .i64 0, .int .i64 0, .int .i64 0, .int .i64 0, .int .i64 0, .int .i64 0] SZ 44
  have HB := Seal.mk (HB.out.trans ((n4).mono HB.out.size))
  have KA := Seal.mk (KA.out.step (n4))
  have KB := Seal.mk (KB.out.step (n4))
  have KS := Seal.mk (KS.out.step (n4))
  have K4 := Seal.mk (K4.out.step (n4))
  have K6 := Seal.mk (K6.out.step (n4))
  have K12 := Seal.mk (K12.out.step (n4))
  have K13 := Seal.mk (K13.out.step (n4))
  have K15 := Seal.mk (K15.out.step (n4))
  have K18 := Seal.mk n3
  have hgn := hg.symm
  clear hg n3 n4 n5 n6
  clear K18
  go_wp2_with ((try rw [hgn]); refine wpList_store_row rfl 44 (.tmp 18) (.tmp 79) rfl g18 SZ.toArray rfl rfl 44 _ n2 (by simpa using IZ.out.1) IZ.out.2.1 IZ.out.2.2 ?_; rw [n1]; clear n1 n2 hgn; (try simp only [Act.put]))
  have hk : Calls Tryz.prog 17 #[.slice (some ⟨gS, 0, none⟩) 2 2, .int .i64 (9)] V11 (fun e w' => ∃ a n c v, e = .returned (.tuple #[.slice a n c, .agg (brC BB v).toArray, .int .i64 0]) ∧ Seal (IsC Ltr.C 38 w' a n c [b] ∧ GoneAt w' v (BB).G) ∧ Below V11.heap.size V11 w') := by
    have h := kburn_any (some ⟨gS, 0, none⟩) 2 2 [a, b] (9) V11 (HG.out _ HB.out) KS.out.at HLo.out.1 (by decide)
    rw [H2.out.burn1.1, H2.out.burn1.2.1, H2.out.burn1.2.2, ← HD1.out.1, ← HD2.out.1, ← HBB.out.1] at h
    exact h.mono fun e w' hp => burnPost_c hp
  refine (hk).mono ?_
  rintro e w11 ⟨a20, m20, q20, v20, rfl, hi, hb⟩
  have HB := Seal.mk (HB.out.trans ((hb).mono HB.out.size))
  have KA := Seal.mk (KA.out.step (hb))
  have KB := Seal.mk (KB.out.step (hb))
  have KS := Seal.mk (KS.out.step (hb))
  have K4 := Seal.mk (K4.out.step (hb))
  have K6 := Seal.mk (K6.out.step (hb))
  have K12 := Seal.mk (K12.out.step (hb))
  have K13 := Seal.mk (K13.out.step (hb))
  have K15 := Seal.mk (K15.out.step (hb))
  have K20 := Seal.mk (ko_isC hi.out.1)
  have KG := Seal.mk (ko_gone hi.out.2)
  clear hk hi hb
  obtain ⟨BC, hBC⟩ : ∃ L, L = brC BB v20 := ⟨_, rfl⟩
  have HBC := Seal.mk hBC
  have IBr : Seal ((Tryz.prog.info? 50).map (·.size) = some BC.length ∧ Tryz.zeroCells50.size = BC.toArray.size ∧ BC.toArray.all (·.oneCell') = true ∧ True) := ⟨by rw [hBC]; exact ⟨brC_info HBB.out.2.1 HBB.out.2.2 v20, by rw [brz_zs, List.size_toArray, List.size_toArray, len_brC HBB.out.2.1 HBB.out.2.2]; rfl, brn_all KG.out.at.form, trivial⟩⟩
  rw [← hBC]
  clear hBC
  obtain ⟨V12, g21, hg, n1, n2, n3, n4, n5, n6⟩ := newv w11 Tryz.zeroCells50 BC 50
  have HB := Seal.mk (HB.out.trans ((n4).mono HB.out.size))
  have KA := Seal.mk (KA.out.step (n4))
  have KB := Seal.mk (KB.out.step (n4))
  have KS := Seal.mk (KS.out.step (n4))
  have K4 := Seal.mk (K4.out.step (n4))
  have K6 := Seal.mk (K6.out.step (n4))
  have K12 := Seal.mk (K12.out.step (n4))
  have K13 := Seal.mk (K13.out.step (n4))
  have K15 := Seal.mk (K15.out.step (n4))
  have K20 := Seal.mk (K20.out.step (n4))
  have KG := Seal.mk (KG.out.step (n4))
  have K21 := Seal.mk n3
  have hgn := hg.symm
  clear hg n3 n4 n5 n6
  go_wp2_with ((try rw [hgn]); refine wpList_store_row rfl 50 (.tmp 21) (.tmp 85) rfl g21 BC.toArray rfl rfl 50 _ n2 (by simpa using IBr.out.1) IBr.out.2.1 IBr.out.2.2.1 ?_; rw [n1]; clear n1 n2 hgn; (try simp only [Act.put]))
  have hk : Calls Tryz.prog 17 #[.slice (some ⟨gS, 0, none⟩) 2 2, .int .i64 (-1)] V12 (fun e w' => ∃ a n c v, e = .returned (.tuple #[.slice a n c, .agg (brC noBrn v).toArray, .int .i64 1]) ∧ Seal (IsC Ltr.C 38 w' a n c [] ∧ GoneAt w' v (noBrn).G) ∧ Below V12.heap.size V12 w') := by
    have h := kburn_any (some ⟨gS, 0, none⟩) 2 2 [a, b] (-1) V12 (HG.out _ HB.out) KS.out.at HLo.out.1 (by decide)
    rw [H2.out.burn2.1, H2.out.burn2.2.1, H2.out.burn2.2.2] at h
    exact h.mono fun e w' hp => burnPost_c hp
  refine (hk).mono ?_
  rintro e w12 ⟨a23, m23, q23, v23, rfl, hi, hb⟩
  have HB := Seal.mk (HB.out.trans ((hb).mono HB.out.size))
  have KA := Seal.mk (KA.out.step (hb))
  have KB := Seal.mk (KB.out.step (hb))
  have KS := Seal.mk (KS.out.step (hb))
  have K4 := Seal.mk (K4.out.step (hb))
  have K6 := Seal.mk (K6.out.step (hb))
  have K12 := Seal.mk (K12.out.step (hb))
  have K13 := Seal.mk (K13.out.step (hb))
  have K15 := Seal.mk (K15.out.step (hb))
  have K20 := Seal.mk (K20.out.step (hb))
  have KG := Seal.mk (KG.out.step (hb))
  have K21 := Seal.mk (K21.out.step (hb))
  obtain ⟨BN, hBN⟩ : ∃ L, L = brC noBrn v23 := ⟨_, rfl⟩
  have IN : Seal ((Tryz.prog.info? 50).map (·.size) = some BN.length ∧ Tryz.zeroCells50.size = BN.toArray.size ∧ BN.toArray.all (·.oneCell') = true) := ⟨by rw [hBN]; exact ⟨brC_info rfl rfl v23, by rw [brz_zs, List.size_toArray, List.size_toArray, len_brC (b := noBrn) rfl rfl]; rfl, brn_all hi.out.2.form⟩⟩
  rw [← hBN]
  clear hk hi hb hBN
  obtain ⟨V13, g24, hg, n1, n2, n3, n4, n5, n6⟩ := newv w12 Tryz.zeroCells50 BN 50
  have HB := Seal.mk (HB.out.trans ((n4).mono HB.out.size))
  have KA := Seal.mk (KA.out.step (n4))
  have KB := Seal.mk (KB.out.step (n4))
  have KS := Seal.mk (KS.out.step (n4))
  have K4 := Seal.mk (K4.out.step (n4))
  have K6 := Seal.mk (K6.out.step (n4))
  have K12 := Seal.mk (K12.out.step (n4))
  have K13 := Seal.mk (K13.out.step (n4))
  have K15 := Seal.mk (K15.out.step (n4))
  have K20 := Seal.mk (K20.out.step (n4))
  have KG := Seal.mk (KG.out.step (n4))
  have K21 := Seal.mk (K21.out.step (n4))
  have K24 := Seal.mk n3
  have hgn := hg.symm
  clear hg n3 n4 n5 n6
  clear K24
  go_wp2_with ((try rw [hgn]); refine wpList_store_row rfl 50 (.tmp 24) (.tmp 91) rfl g24 BN.toArray rfl rfl 50 _ n2 (by simpa using IN.out.1) IN.out.2.1 IN.out.2.2 ?_; rw [n1]; clear n1 n2 hgn; (try simp only [Act.put]))
  have hk : Calls Tryz.prog 8 #[.slice (some ⟨gS, 0, none⟩) 2 2] V13 fun e w' => e = .returned (.tuple #[.agg E1.toArray, .int .i64 0]) ∧ Below V13.heap.size V13 w' := by
    have h := kroot_any (some ⟨gS, 0, none⟩) 2 2 [a, b] V13 (HG.out _ HB.out) KS.out.at HLo.out.1 (by decide)
    rwa [H2.out.root.1, H2.out.chk, ← HD1.out.1, ← HD1.out.2.1] at h
  refine (hk).mono ?_
  rintro e w13 ⟨rfl, hb⟩
  have HB := Seal.mk (HB.out.trans ((hb).mono HB.out.size))
  have KA := Seal.mk (KA.out.step (hb))
  have KB := Seal.mk (KB.out.step (hb))
  have KS := Seal.mk (KS.out.step (hb))
  have K4 := Seal.mk (K4.out.step (hb))
  have K6 := Seal.mk (K6.out.step (hb))
  have K12 := Seal.mk (K12.out.step (hb))
  have K13 := Seal.mk (K13.out.step (hb))
  have K15 := Seal.mk (K15.out.step (hb))
  have K20 := Seal.mk (K20.out.step (hb))
  have KG := Seal.mk (KG.out.step (hb))
  have K21 := Seal.mk (K21.out.step (hb))
  clear hk hb
  obtain ⟨V14, g26, hg, n1, n2, n3, n4, n5, n6⟩ := newv w13 #[.int .u8 0, .int .u8 0, .int .u8 0, .int .u8 0, .int .u8 0, .int .u8 0, .int .u8 0, .int .u8 0, .int .u8 0, .int .u8 0, .int .u8 0, .int .u8 0, .int .u8 0, .int .u8 0, .int .u8 0, .int .u8 0, .int .u8 0, .int .u8 0, .int .u8 0, .int .u8 0, .int .u8 0, .int .u8 0, .int .u8 0, .int .u8 0, .int .u8 0, .int .u8 0, .int .u8 0, .int .u8 0, .int .u8 0, .int .u8 0, .int .u8 0, .int .u8 0] E1 26
  have HB := Seal.mk (HB.out.trans ((n4).mono HB.out.size))
  have KA := Seal.mk (KA.out.step (n4))
  have KB := Seal.mk (KB.out.step (n4))
  have KS := Seal.mk (KS.out.step (n4))
  have K4 := Seal.mk (K4.out.step (n4))
  have K6 := Seal.mk (K6.out.step (n4))
  have K12 := Seal.mk (K12.out.step (n4))
  have K13 := Seal.mk (K13.out.step (n4))
  have K15 := Seal.mk (K15.out.step (n4))
  have K20 := Seal.mk (K20.out.step (n4))
  have KG := Seal.mk (KG.out.step (n4))
  have K21 := Seal.mk (K21.out.step (n4))
  have K26 := Seal.mk n3
  have hgn := hg.symm
  clear hg n3 n4 n5 n6
  go_wp2_with (first | ((try rw [hgn]); refine wpList_store_row rfl 26 (.tmp 26) (.tmp 96) rfl g26 E1.toArray rfl rfl 26 _ n2 (by simpa using ID1.out.1) ID1.out.2.1 ID1.out.2.2.1 ?_; rw [n1]; clear n1 n2 hgn; (try simp only [Act.put])) | (refine wpList_load_mid_g (by kernel_rfl) 30 (.tmp 2) rfl gB 0 rfl CB _ KB.out.at ut rfl IB.out.1 ?_; (try simp only [Act.put, List.setIfInBounds_toArray, List.set_cons_zero, List.set_cons_succ])) | (refine wpList_bslice (by kernel_rfl) 22 30 1 38 #[(0, .tmp 99)] rfl [CB] Tryz.underlying22 size_kt _ zero_kt rfl rfl HLn.out.2.1 (by decide) (by decide) rfl ?_; obtain ⟨X13, g100, hg0, e0, nb, k0⟩ := litk V14 [b] [CB] (by simp [HC.out.2]) HLn.out.2.2.2.2.1 (by simp); rw [e0, ← hg0]; clear hg0 e0; have HB := Seal.mk (HB.out.trans ((nb).mono HB.out.size)); have KA := Seal.mk (KA.out.step (nb)); have KB := Seal.mk (KB.out.step (nb)); have KS := Seal.mk (KS.out.step (nb)); have K4 := Seal.mk (K4.out.step (nb)); have K6 := Seal.mk (K6.out.step (nb)); have K12 := Seal.mk (K12.out.step (nb)); have K13 := Seal.mk (K13.out.step (nb)); have K15 := Seal.mk (K15.out.step (nb)); have K20 := Seal.mk (K20.out.step (nb)); have KG := Seal.mk (KG.out.step (nb)); have K21 := Seal.mk (K21.out.step (nb)); have K26 := Seal.mk (K26.out.step (nb)); have K100 := Seal.mk k0; clear nb k0; (try simp only [Act.put, List.setIfInBounds_toArray, List.set_cons_zero, List.set_cons_succ])))
  have hk : Calls Tryz.prog 8 #[.slice (some ⟨g100, 0, none⟩) 1 1] X13 fun e w' => e = .returned (.tuple #[.agg E2.toArray, .int .i64 0]) ∧ Below X13.heap.size X13 w' := by
    have h := kroot_any (some ⟨g100, 0, none⟩) 1 1 [b] X13 (HG.out _ HB.out) K100.out.at HLo.out.2.1 (by decide)
    rwa [H2.out.root.2.1, H2.out.chkb, ← HD2.out.1, ← HD2.out.2.1] at h
  refine (hk).mono ?_
  rintro e w14 ⟨rfl, hb⟩
  have HB := Seal.mk (HB.out.trans ((hb).mono HB.out.size))
  have KA := Seal.mk (KA.out.step (hb))
  have KB := Seal.mk (KB.out.step (hb))
  have KS := Seal.mk (KS.out.step (hb))
  have K4 := Seal.mk (K4.out.step (hb))
  have K6 := Seal.mk (K6.out.step (hb))
  have K12 := Seal.mk (K12.out.step (hb))
  have K13 := Seal.mk (K13.out.step (hb))
  have K15 := Seal.mk (K15.out.step (hb))
  have K20 := Seal.mk (K20.out.step (hb))
  have KG := Seal.mk (KG.out.step (hb))
  have K21 := Seal.mk (K21.out.step (hb))
  have K26 := Seal.mk (K26.out.step (hb))
  have K100 := Seal.mk (K100.out.step (hb))
  clear hk hb K100
  obtain ⟨V15, g28, hg, n1, n2, n3, n4, n5, n6⟩ := newv w14 #[.int .u8 0, .int .u8 0, .int .u8 0, .int .u8 0, .int .u8 0, .int .u8 0, .int .u8 0, .int .u8 0, .int .u8 0, .int .u8 0, .int .u8 0, .int .u8 0, .int .u8 0, .int .u8 0, .int .u8 0, .int .u8 0, .int .u8 0, .int .u8 0, .int .u8 0, .int .u8 0, .int .u8 0, .int .u8 0, .int .u8 0, .int .u8 0, .int .u8 0, .int .u8 0, .int .u8 0, .int .u8 0, .int .u8 0, .int .u8 0, .int .u8 0, .int .u8 0] E2 26
  have HB := Seal.mk (HB.out.trans ((n4).mono HB.out.size))
  have KA := Seal.mk (KA.out.step (n4))
  have KB := Seal.mk (KB.out.step (n4))
  have KS := Seal.mk (KS.out.step (n4))
  have K4 := Seal.mk (K4.out.step (n4))
  have K6 := Seal.mk (K6.out.step (n4))
  have K12 := Seal.mk (K12.out.step (n4))
  have K13 := Seal.mk (K13.out.step (n4))
  have K15 := Seal.mk (K15.out.step (n4))
  have K20 := Seal.mk (K20.out.step (n4))
  have KG := Seal.mk (KG.out.step (n4))
  have K21 := Seal.mk (K21.out.step (n4))
  have K26 := Seal.mk (K26.out.step (n4))
  have K28 := Seal.mk n3
  have hgn := hg.symm
  clear hg n3 n4 n5 n6
  go_wp2_with ((try rw [hgn]); refine wpList_store_row rfl 26 (.tmp 28) (.tmp 102) rfl g28 E2.toArray rfl rfl 26 _ n2 (by simpa using ID2.out.1) ID2.out.2.1 ID2.out.2.2.1 ?_; rw [n1]; clear n1 n2 hgn; (try simp only [Act.put]))
  have KX : Seal (Ko V15 fun W => W.rangeAt g21 0 E1 ∧ W.rangeAt g21 32 E2 ∧ W.cell? ⟨g21, 64, none⟩ = some v20) := ⟨fun W hW => by
    have h := brAt_range HBB.out.2.1 HBB.out.2.2 (by have := K21.out W hW; rwa [HBC.out] at this)
    have e1 : BB.B = D1 := by rw [HBB.out.1]
    have e2 : BB.A = D2 := by rw [HBB.out.1]
    rw [HD1.out.2.1, HD2.out.2.1, ← e1, ← e2]
    exact ⟨h.rB, h.rA, h.cG⟩⟩
  have KI0 : Seal (∃ av nv cv, v20 = .slice av nv cv ∧ Ko V15 fun W => IsIs W av nv cv [3]) := ⟨by
    obtain ⟨av, cv, ev⟩ := KG.out.at.form
    have eg : BB.G = [3] := by rw [HBB.out.1]
    refine ⟨av, _, cv, ev, fun W hW => ?_⟩
    obtain ⟨a2, c2, e2, h2⟩ := KG.out W hW
    rw [ev] at e2
    cases e2
    rwa [eg] at h2 ⊢⟩
  obtain ⟨av, nv, cv, hv20, hKI⟩ := KI0.out
  clear KI0
  have KI := Seal.mk hKI
  clear hKI
  subst hv20
  have qd0 := ID0.out.2.2.2
  have qd1 := ID1.out.2.2.2
  have qd2 := ID2.out.2.2.2
  have qs := IS.out.2.2.2
  refine wp_region_held_drew (S := fun W => Below V15.heap.size V15 W) (by kernel_rfl) (below_drewn_o _) (fun hHeld => ?_)
  obtain ⟨Y, hY⟩ : ∃ Y, Y = V15.drew := ⟨_, rfl⟩
  rw [← hY] at hHeld ⊢
  clear hY
  have HS : Seal (∀ W, Below V15.heap.size V15 W → Glob W) := ⟨fun W h => HG.out W (HB.out.trans (h.mono HB.out.size))⟩
  refine take_h 0 _ rfl (by kernel_rfl) (by kernel_rfl) (by kernel_rfl) (fun _ _ _ h => h) (yieldsIf_load_mid (by kernel_rfl) 26 (.tmp 4) rfl g4 0 rfl E0 _ (fun w hSw => (K4.out _ hSw)) ud rfl ID0.out.1) (by assumption) ?_
  try simp only [Act.put, List.setIfInBounds_toArray, List.set_cons_zero, List.set_cons_succ]
  have hk : Calls Tryz.prog 24 #[.slice none 0 0] Y fun e w' => e = .returned (.agg E0.toArray) ∧ Below Y.heap.size Y w' := by
    have h := mroot_any none 0 0 [] Y (HS.out _ hHeld) (isBs_nil _) (by decide) (by simp)
    rwa [← HD0.out.1, ← HD0.out.2.1] at h
  refine call_h 1 rfl (by kernel_rfl) 24 #[.slice none 0 0] (by kernel_rfl) (by go_simp) ?_
  refine hk.mono ?_
  rintro e Y1 ⟨rfl, hb⟩
  refine ⟨_, rfl, hHeld.trans (hb.mono hHeld.size), fun hHeld2 => ?_⟩
  clear hk hb hHeld
  have hHeld := hHeld2
  clear hHeld2
  try simp only [Act.put, List.setIfInBounds_toArray, List.set_cons_zero, List.set_cons_succ]
  refine take_h 2 ?_ rfl (by kernel_rfl) (by kernel_rfl) (by kernel_rfl) (fun _ _ _ h => h) (Or.inl ⟨by kernel_rfl, ?_⟩) (by assumption) ?_
  rotate_left
  · (intro w hSw; (try dsimp only at hSw); go_simp; try (with_reducible rfl))
  try simp only [Act.put, List.setIfInBounds_toArray, List.set_cons_zero, List.set_cons_succ]
  refine take_h 3 ?_ rfl (by kernel_rfl) (by kernel_rfl) (by kernel_rfl) (fun _ _ _ h => h) (Or.inl ⟨by kernel_rfl, ?_⟩) (by assumption) ?_
  rotate_left
  · (intro w hSw; (try dsimp only at hSw); go_simp; try (with_reducible rfl))
  try simp only [Act.put, List.setIfInBounds_toArray, List.set_cons_zero, List.set_cons_succ]
  refine take_h 4 ?_ rfl (by kernel_rfl) (by kernel_rfl) (by kernel_rfl) (fun _ _ _ h => h) (Or.inl ⟨by kernel_rfl, ?_⟩) (by assumption) ?_
  rotate_left
  · (intro w hSw; (try dsimp only at hSw); go_simp; try (with_reducible rfl))
  try simp only [Act.put, List.setIfInBounds_toArray, List.set_cons_zero, List.set_cons_succ]
  refine take_h 5 ?_ rfl (by kernel_rfl) (by kernel_rfl) (by kernel_rfl) (fun _ _ _ h => h) (Or.inl ⟨by kernel_rfl, ?_⟩) (by assumption) ?_
  rotate_left
  · (intro w hSw; (try dsimp only at hSw); go_simp; try (with_reducible rfl))
  try simp only [Act.put, List.setIfInBounds_toArray, List.set_cons_zero, List.set_cons_succ]
  have hk : Calls Tryz.prog 14 #[.slice a6 m6 q6, .slice (some ⟨gS, 0, none⟩) 2 2] Y1 fun e w' => e = .returned (.bool true) ∧ Below Y1.heap.size Y1 w' := by
    have h := rsameK_any a6 (some ⟨gS, 0, none⟩) m6 q6 2 2 [a, b] [a, b] Y1 (K6.out _ hHeld) (KS.out _ hHeld) (fun x hx => (HLo.out.1 x hx).t32) (fun x hx => (HLo.out.1 x hx).t32)
    rwa [decide_eq_true rfl] at h
  refine call_h 6 rfl (by kernel_rfl) 14 #[.slice a6 m6 q6, .slice (some ⟨gS, 0, none⟩) 2 2] (by kernel_rfl) (by go_simp) ?_
  refine hk.mono ?_
  rintro e Y2 ⟨rfl, hb⟩
  refine ⟨_, rfl, hHeld.trans (hb.mono hHeld.size), fun hHeld2 => ?_⟩
  clear hk hb hHeld
  have hHeld := hHeld2
  clear hHeld2
  try simp only [Act.put, List.setIfInBounds_toArray, List.set_cons_zero, List.set_cons_succ]
  refine take_h 7 ?_ rfl (by kernel_rfl) (by kernel_rfl) (by kernel_rfl) (fun _ _ _ h => h) (Or.inl ⟨by kernel_rfl, ?_⟩) (by assumption) ?_
  rotate_left
  · (intro w hSw; (try dsimp only at hSw); go_simp; try (with_reducible rfl))
  try simp only [Act.put, List.setIfInBounds_toArray, List.set_cons_zero, List.set_cons_succ]
  refine take_h 8 ?_ rfl (by kernel_rfl) (by kernel_rfl) (by kernel_rfl) (fun _ _ _ h => h) (Or.inl ⟨by kernel_rfl, ?_⟩) (by assumption) ?_
  rotate_left
  · (intro w hSw; (try dsimp only at hSw); go_simp; try (with_reducible rfl))
  try simp only [Act.put, List.setIfInBounds_toArray, List.set_cons_zero, List.set_cons_succ]
  refine take_h 9 ?_ rfl (by kernel_rfl) (by kernel_rfl) (by kernel_rfl) (fun _ _ _ h => h) (Or.inl ⟨by kernel_rfl, ?_⟩) (by assumption) ?_
  rotate_left
  · (intro w hSw; (try dsimp only at hSw); go_simp; try (with_reducible rfl))
  try simp only [Act.put, List.setIfInBounds_toArray, List.set_cons_zero, List.set_cons_succ]
  refine take_h 10 ?_ rfl (by kernel_rfl) (by kernel_rfl) (by kernel_rfl) (fun _ _ _ h => h) (Or.inl ⟨by kernel_rfl, ?_⟩) (by assumption) ?_
  rotate_left
  · (intro w hSw; (try dsimp only at hSw); go_simp; try (with_reducible rfl))
  try simp only [Act.put, List.setIfInBounds_toArray, List.set_cons_zero, List.set_cons_succ]
  refine take_h 11 _ rfl (by kernel_rfl) (by kernel_rfl) (by kernel_rfl) (fun _ _ _ h => h) (yieldsIf_load_mid (by kernel_rfl) 30 (.tmp 2) rfl gB 0 rfl CB _ (fun w hSw => (KB.out _ hSw)) ut rfl IB.out.1) (by assumption) ?_
  try simp only [Act.put, List.setIfInBounds_toArray, List.set_cons_zero, List.set_cons_succ]
  obtain ⟨Y3, gl, hgl, el, nb, kl⟩ := litk Y2 [b] [CB] (by simp [HC.out.2]) HLn.out.2.2.2.2.1 (by simp)
  refine oper_h 12 (.slice (some ⟨Y2.heap.size, 0, none⟩) 1 1) Y3 rfl (by kernel_rfl) (by kernel_rfl) (by rw [← el]; exact exec_bslice rfl [CB] Tryz.underlying22 Y2 (size_kt Y2) (zero_kt Y2) rfl rfl HLn.out.2.1 (by decide) (by decide) rfl) (hHeld.trans (nb.mono hHeld.size)) (fun hHeld2 => ?_)
  rw [← hgl]
  have KL := Seal.mk kl.at
  clear hgl el nb kl hHeld
  have hHeld := hHeld2
  clear hHeld2
  try simp only [Act.put, List.setIfInBounds_toArray, List.set_cons_zero, List.set_cons_succ]
  have hk : Calls Tryz.prog 14 #[.slice a12 m12 q12, .slice (some ⟨gl, 0, none⟩) 1 1] Y3 fun e w' => e = .returned (.bool true) ∧ Below Y3.heap.size Y3 w' := by
    have h := rsameK_any a12 (some ⟨gl, 0, none⟩) m12 q12 1 1 [b] [b] Y3 (K12.out _ hHeld) (KL.out) (fun x hx => (HLo.out.2.1 x hx).t32) (fun x hx => (HLo.out.2.1 x hx).t32)
    rwa [decide_eq_true rfl] at h
  refine call_h 13 rfl (by kernel_rfl) 14 #[.slice a12 m12 q12, .slice (some ⟨gl, 0, none⟩) 1 1] (by kernel_rfl) (by go_simp) ?_
  refine hk.mono ?_
  rintro e Y4 ⟨rfl, hb⟩
  refine ⟨_, rfl, hHeld.trans (hb.mono hHeld.size), fun hHeld2 => ?_⟩
  clear hk hb hHeld
  have hHeld := hHeld2
  clear hHeld2
  try simp only [Act.put, List.setIfInBounds_toArray, List.set_cons_zero, List.set_cons_succ]
  clear KL
  refine take_h 14 ?_ rfl (by kernel_rfl) (by kernel_rfl) (by kernel_rfl) (fun _ _ _ h => h) (Or.inl ⟨by kernel_rfl, ?_⟩) (by assumption) ?_
  rotate_left
  · (intro w hSw; (try dsimp only at hSw); go_simp; try (with_reducible rfl))
  try simp only [Act.put, List.setIfInBounds_toArray, List.set_cons_zero, List.set_cons_succ]
  refine take_h 15 ?_ rfl (by kernel_rfl) (by kernel_rfl) (by kernel_rfl) (fun _ _ _ h => h) (Or.inl ⟨by kernel_rfl, ?_⟩) (by assumption) ?_
  rotate_left
  · (intro w hSw; (try dsimp only at hSw); go_simp; try (with_reducible rfl))
  try simp only [Act.put, List.setIfInBounds_toArray, List.set_cons_zero, List.set_cons_succ]
  refine take_h 16 ?_ rfl (by kernel_rfl) (by kernel_rfl) (by kernel_rfl) (fun _ _ _ h => h) (Or.inl ⟨by kernel_rfl, ?_⟩) (by assumption) ?_
  rotate_left
  · (intro w hSw; (try dsimp only at hSw); go_simp; try (with_reducible rfl))
  try simp only [Act.put, List.setIfInBounds_toArray, List.set_cons_zero, List.set_cons_succ]
  refine take_h 17 _ rfl (by kernel_rfl) (by kernel_rfl) (by kernel_rfl) (fun _ _ _ h => h) (yieldsIf_load_mid (by kernel_rfl) 44 (.tmp 13) rfl g13 0 rfl SX _ (fun w hSw => (K13.out _ hSw)) us rfl IS.out.1) (by assumption) ?_
  try simp only [Act.put, List.setIfInBounds_toArray, List.set_cons_zero, List.set_cons_succ]
  refine take_h 18 _ rfl (by kernel_rfl) (by kernel_rfl) (by kernel_rfl) (fun _ _ _ h => h) (yieldsIf_load_mid (by kernel_rfl) 44 (.tmp 15) rfl g15 0 rfl SX _ (fun w hSw => (K15.out _ hSw)) us rfl IS.out.1) (by assumption) ?_
  try simp only [Act.put, List.setIfInBounds_toArray, List.set_cons_zero, List.set_cons_succ]
  refine take_h 19 ?_ rfl (by kernel_rfl) (by kernel_rfl) (by kernel_rfl) (fun _ _ _ h => h) (Or.inl ⟨by kernel_rfl, ?_⟩) (by assumption) ?_
  rotate_left
  · (intro w hSw; (try dsimp only at hSw); go_simp; try (with_reducible rfl))
  try simp only [Act.put, List.setIfInBounds_toArray, List.set_cons_zero, List.set_cons_succ]
  refine take_h 20 ?_ rfl (by kernel_rfl) (by kernel_rfl) (by kernel_rfl) (fun _ _ _ h => h) (Or.inl ⟨by kernel_rfl, ?_⟩) (by assumption) ?_
  rotate_left
  · (intro w hSw; (try dsimp only at hSw); go_simp; try (with_reducible rfl))
  try simp only [Act.put, List.setIfInBounds_toArray, List.set_cons_zero, List.set_cons_succ]
  refine take_h 21 ?_ rfl (by kernel_rfl) (by kernel_rfl) (by kernel_rfl) (fun _ _ _ h => h) (Or.inl ⟨by kernel_rfl, ?_⟩) (by assumption) ?_
  rotate_left
  · (intro w hSw; (try dsimp only at hSw); go_simp; try (with_reducible rfl))
  try simp only [Act.put, List.setIfInBounds_toArray, List.set_cons_zero, List.set_cons_succ]
  refine take_h 22 ?_ rfl (by kernel_rfl) (by kernel_rfl) (by kernel_rfl) (fun _ _ _ h => h) (Or.inl ⟨by kernel_rfl, ?_⟩) (by assumption) ?_
  rotate_left
  · (intro w hSw; (try dsimp only at hSw); go_simp; try (with_reducible rfl))
  try simp only [Act.put, List.setIfInBounds_toArray, List.set_cons_zero, List.set_cons_succ]
  refine take_h 23 _ rfl (by kernel_rfl) (by kernel_rfl) (by kernel_rfl) (fun _ _ _ h => h) (yieldsIf_load_mid (by kernel_rfl) 30 (.tmp 2) rfl gB 0 rfl CB _ (fun w hSw => (KB.out _ hSw)) ut rfl IB.out.1) (by assumption) ?_
  try simp only [Act.put, List.setIfInBounds_toArray, List.set_cons_zero, List.set_cons_succ]
  obtain ⟨Y5, gl, hgl, el, nb, kl⟩ := litk Y4 [b] [CB] (by simp [HC.out.2]) HLn.out.2.2.2.2.1 (by simp)
  refine oper_h 24 (.slice (some ⟨Y4.heap.size, 0, none⟩) 1 1) Y5 rfl (by kernel_rfl) (by kernel_rfl) (by rw [← el]; exact exec_bslice rfl [CB] Tryz.underlying22 Y4 (size_kt Y4) (zero_kt Y4) rfl rfl HLn.out.2.1 (by decide) (by decide) rfl) (hHeld.trans (nb.mono hHeld.size)) (fun hHeld2 => ?_)
  rw [← hgl]
  have KL := Seal.mk kl.at
  clear hgl el nb kl hHeld
  have hHeld := hHeld2
  clear hHeld2
  try simp only [Act.put, List.setIfInBounds_toArray, List.set_cons_zero, List.set_cons_succ]
  have hk : Calls Tryz.prog 14 #[.slice a20 m20 q20, .slice (some ⟨gl, 0, none⟩) 1 1] Y5 fun e w' => e = .returned (.bool true) ∧ Below Y5.heap.size Y5 w' := by
    have h := rsameK_any a20 (some ⟨gl, 0, none⟩) m20 q20 1 1 [b] [b] Y5 (K20.out _ hHeld) (KL.out) (fun x hx => (HLo.out.2.1 x hx).t32) (fun x hx => (HLo.out.2.1 x hx).t32)
    rwa [decide_eq_true rfl] at h
  refine call_h 25 rfl (by kernel_rfl) 14 #[.slice a20 m20 q20, .slice (some ⟨gl, 0, none⟩) 1 1] (by kernel_rfl) (by go_simp) ?_
  refine hk.mono ?_
  rintro e Y6 ⟨rfl, hb⟩
  refine ⟨_, rfl, hHeld.trans (hb.mono hHeld.size), fun hHeld2 => ?_⟩
  clear hk hb hHeld
  have hHeld := hHeld2
  clear hHeld2
  try simp only [Act.put, List.setIfInBounds_toArray, List.set_cons_zero, List.set_cons_succ]
  clear KL
  refine take_h 26 ?_ rfl (by kernel_rfl) (by kernel_rfl) (by kernel_rfl) (fun _ _ _ h => h) (Or.inl ⟨by kernel_rfl, ?_⟩) (by assumption) ?_
  rotate_left
  · (intro w hSw; (try dsimp only at hSw); go_simp; try (with_reducible rfl))
  try simp only [Act.put, List.setIfInBounds_toArray, List.set_cons_zero, List.set_cons_succ]
  refine take_h 27 ?_ rfl (by kernel_rfl) (by kernel_rfl) (by kernel_rfl) (fun _ _ _ h => h) (Or.inl ⟨by kernel_rfl, ?_⟩) (by assumption) ?_
  rotate_left
  · (intro w hSw; (try dsimp only at hSw); go_simp; try (with_reducible rfl))
  try simp only [Act.put, List.setIfInBounds_toArray, List.set_cons_zero, List.set_cons_succ]
  refine take_h 28 ?_ rfl (by kernel_rfl) (by kernel_rfl) (by kernel_rfl) (fun _ _ _ h => h) (Or.inl ⟨by kernel_rfl, ?_⟩) (by assumption) ?_
  rotate_left
  · (intro w hSw; (try dsimp only at hSw); go_simp; try (with_reducible rfl))
  try simp only [Act.put, List.setIfInBounds_toArray, List.set_cons_zero, List.set_cons_succ]
  refine take_h 29 ?_ rfl (by kernel_rfl) (by kernel_rfl) (by kernel_rfl) (fun _ _ _ h => h) (Or.inl ⟨by kernel_rfl, ?_⟩) (by assumption) ?_
  rotate_left
  · (intro w hSw; (try dsimp only at hSw); go_simp; try (with_reducible rfl))
  try simp only [Act.put, List.setIfInBounds_toArray, List.set_cons_zero, List.set_cons_succ]
  refine take_h 30 _ rfl (by kernel_rfl) (by kernel_rfl) (by kernel_rfl) (fun _ _ _ h => h) (yieldsIf_load_mid (by kernel_rfl) 26 (.tmp 175) rfl g21 0 rfl E1 _ (fun w hSw => (KX.out _ hSw).1) ud rfl ID1.out.1) (by assumption) ?_
  try simp only [Act.put, List.setIfInBounds_toArray, List.set_cons_zero, List.set_cons_succ]
  refine take_h 31 _ rfl (by kernel_rfl) (by kernel_rfl) (by kernel_rfl) (fun _ _ _ h => h) (yieldsIf_load_mid (by kernel_rfl) 26 (.tmp 26) rfl g26 0 rfl E1 _ (fun w hSw => (K26.out _ hSw)) ud rfl ID1.out.1) (by assumption) ?_
  try simp only [Act.put, List.setIfInBounds_toArray, List.set_cons_zero, List.set_cons_succ]
  refine take_h 32 ?_ rfl (by kernel_rfl) (by kernel_rfl) (by kernel_rfl) (fun _ _ _ h => h) (Or.inl ⟨by kernel_rfl, ?_⟩) (by assumption) ?_
  rotate_left
  · (intro w hSw; (try dsimp only at hSw); go_simp; try (with_reducible rfl))
  try simp only [Act.put, List.setIfInBounds_toArray, List.set_cons_zero, List.set_cons_succ]
  refine take_h 33 ?_ rfl (by kernel_rfl) (by kernel_rfl) (by kernel_rfl) (fun _ _ _ h => h) (Or.inl ⟨by kernel_rfl, ?_⟩) (by assumption) ?_
  rotate_left
  · (intro w hSw; (try dsimp only at hSw); go_simp; try (with_reducible rfl))
  try simp only [Act.put, List.setIfInBounds_toArray, List.set_cons_zero, List.set_cons_succ]
  refine take_h 34 ?_ rfl (by kernel_rfl) (by kernel_rfl) (by kernel_rfl) (fun _ _ _ h => h) (Or.inl ⟨by kernel_rfl, ?_⟩) (by assumption) ?_
  rotate_left
  · (intro w hSw; (try dsimp only at hSw); go_simp; try (with_reducible rfl))
  try simp only [Act.put, List.setIfInBounds_toArray, List.set_cons_zero, List.set_cons_succ]
  refine take_h 35 ?_ rfl (by kernel_rfl) (by kernel_rfl) (by kernel_rfl) (fun _ _ _ h => h) (Or.inl ⟨by kernel_rfl, ?_⟩) (by assumption) ?_
  rotate_left
  · (intro w hSw; (try dsimp only at hSw); go_simp; try (with_reducible rfl))
  try simp only [Act.put, List.setIfInBounds_toArray, List.set_cons_zero, List.set_cons_succ]
  refine take_h 36 _ rfl (by kernel_rfl) (by kernel_rfl) (by kernel_rfl) (fun _ _ _ h => h) (yieldsIf_load_mid (by kernel_rfl) 26 (.tmp 181) rfl g21 32 rfl E2 _ (fun w hSw => (KX.out _ hSw).2.1) ud rfl ID2.out.1) (by assumption) ?_
  try simp only [Act.put, List.setIfInBounds_toArray, List.set_cons_zero, List.set_cons_succ]
  refine take_h 37 _ rfl (by kernel_rfl) (by kernel_rfl) (by kernel_rfl) (fun _ _ _ h => h) (yieldsIf_load_mid (by kernel_rfl) 26 (.tmp 28) rfl g28 0 rfl E2 _ (fun w hSw => (K28.out _ hSw)) ud rfl ID2.out.1) (by assumption) ?_
  try simp only [Act.put, List.setIfInBounds_toArray, List.set_cons_zero, List.set_cons_succ]
  refine take_h 38 ?_ rfl (by kernel_rfl) (by kernel_rfl) (by kernel_rfl) (fun _ _ _ h => h) (Or.inl ⟨by kernel_rfl, ?_⟩) (by assumption) ?_
  rotate_left
  · (intro w hSw; (try dsimp only at hSw); go_simp; try (with_reducible rfl))
  try simp only [Act.put, List.setIfInBounds_toArray, List.set_cons_zero, List.set_cons_succ]
  refine take_h 39 ?_ rfl (by kernel_rfl) (by kernel_rfl) (by kernel_rfl) (fun _ _ _ h => h) (Or.inl ⟨by kernel_rfl, ?_⟩) (by assumption) ?_
  rotate_left
  · (intro w hSw; (try dsimp only at hSw); go_simp; try (with_reducible rfl))
  try simp only [Act.put, List.setIfInBounds_toArray, List.set_cons_zero, List.set_cons_succ]
  refine take_h 40 ?_ rfl (by kernel_rfl) (by kernel_rfl) (by kernel_rfl) (fun _ _ _ h => h) (Or.inl ⟨by kernel_rfl, ?_⟩) (by assumption) ?_
  rotate_left
  · (intro w hSw; (try dsimp only at hSw); go_simp; try (with_reducible rfl))
  try simp only [Act.put, List.setIfInBounds_toArray, List.set_cons_zero, List.set_cons_succ]
  refine take_h 41 ?_ rfl (by kernel_rfl) (by kernel_rfl) (by kernel_rfl) (fun _ _ _ h => h) (Or.inl ⟨by kernel_rfl, ?_⟩) (by assumption) ?_
  rotate_left
  · (intro w hSw; (try dsimp only at hSw); go_simp; try (with_reducible rfl))
  try simp only [Act.put, List.setIfInBounds_toArray, List.set_cons_zero, List.set_cons_succ]
  refine take_h 42 (.slice av nv cv) rfl (by kernel_rfl) (by kernel_rfl) (by kernel_rfl) (fun _ _ _ h => h) (Or.inl ⟨by kernel_rfl, fun w hSw => by have c := (KX.out _ hSw).2.2; go_simp⟩) (by assumption) ?_
  try simp only [Act.put, List.setIfInBounds_toArray, List.set_cons_zero, List.set_cons_succ]
  obtain ⟨Y7, gl, hgl, el, nb, kl⟩ := lit1 Y6 3
  refine oper_h 43 (.slice (some ⟨Y6.heap.size, 0, none⟩) 1 1) Y7 rfl (by kernel_rfl) (by kernel_rfl) (by rw [← el]; exact exec_lit1 rfl 3 rfl Y6) (hHeld.trans (nb.mono hHeld.size)) (fun hHeld2 => ?_)
  rw [← hgl]
  have KL := Seal.mk kl
  clear hgl el nb kl hHeld
  have hHeld := hHeld2
  clear hHeld2
  try simp only [Act.put, List.setIfInBounds_toArray, List.set_cons_zero, List.set_cons_succ]
  have hk : Calls Tryz.prog 25 #[.slice av nv cv, .slice (some ⟨gl, 0, none⟩) 1 1] Y7 fun e w' => e = .returned (.bool true) ∧ Below Y7.heap.size Y7 w' := by
    have h := rsameI_any av (some ⟨gl, 0, none⟩) nv cv 1 1 [3] [3] Y7 (KI.out _ hHeld) KL.out
    rwa [decide_eq_true rfl] at h
  refine call_h 44 rfl (by kernel_rfl) 25 #[.slice av nv cv, .slice (some ⟨gl, 0, none⟩) 1 1] (by kernel_rfl) (by go_simp) ?_
  refine hk.mono ?_
  rintro e Y8 ⟨rfl, hb⟩
  refine ⟨_, rfl, hHeld.trans (hb.mono hHeld.size), fun hHeld2 => ?_⟩
  clear hk hb hHeld
  have hHeld := hHeld2
  clear hHeld2
  try simp only [Act.put, List.setIfInBounds_toArray, List.set_cons_zero, List.set_cons_succ]
  refine take_h 45 ?_ rfl (by kernel_rfl) (by kernel_rfl) (by kernel_rfl) (fun _ _ _ h => h) (Or.inl ⟨by kernel_rfl, ?_⟩) (by assumption) ?_
  rotate_left
  · (intro w hSw; (try dsimp only at hSw); go_simp; try (with_reducible rfl))
  try simp only [Act.put, List.setIfInBounds_toArray, List.set_cons_zero, List.set_cons_succ]
  refine take_h 46 ?_ rfl (by kernel_rfl) (by kernel_rfl) (by kernel_rfl) (fun _ _ _ h => h) (Or.inl ⟨by kernel_rfl, ?_⟩) (by assumption) ?_
  rotate_left
  · (intro w hSw; (try dsimp only at hSw); go_simp; try (with_reducible rfl))
  try simp only [Act.put, List.setIfInBounds_toArray, List.set_cons_zero, List.set_cons_succ]
  refine wpAnyH_done (by kernel_rfl) ?_ _
  clear KL qd0 qd1 qd2 qs HS
  clear K4
  clear K6
  clear K12
  clear K13
  clear K15
  clear K26
  clear K28
  clear KX
  have HB := Seal.mk (HB.out.trans ((hHeld).mono HB.out.size))
  have KA := Seal.mk (KA.out.step (hHeld))
  have KB := Seal.mk (KB.out.step (hHeld))
  have KS := Seal.mk (KS.out.step (hHeld))
  have K20 := Seal.mk (K20.out.step (hHeld))
  have KG := Seal.mk (KG.out.step (hHeld))
  have K21 := Seal.mk (K21.out.step (hHeld))
  have KI := Seal.mk (KI.out.step (hHeld))
  clear hHeld
  go_wp2_with (refine wpList_load_mid_g (by kernel_rfl) 50 (.tmp 21) rfl g21 0 rfl BC _ K21.out.at ub rfl IBr.out.1 ?_; (try simp only [Act.put, List.setIfInBounds_toArray, List.set_cons_zero, List.set_cons_succ]))
  have hk : Calls Tryz.prog 20 #[.slice (some ⟨gS, 0, none⟩) 2 2, .slice a20 m20 q20, .int .i64 9, .agg BC.toArray] Y8 fun e w' => e = .returned (.bool true) ∧ Below Y8.heap.size Y8 w' := by
    have eg : BB.G = [3] := by rw [HBB.out.1]
    have h := kverify_any (some ⟨gS, 0, none⟩) a20 2 2 m20 q20 [a, b] [b] 9 BB (.slice av nv cv) Y8 (HG.out _ HB.out) KS.out.at HLo.out.1 (by decide) K20.out.at HLo.out.2.1 HBB.out.2.1 HBB.out.2.2 KG.out.at
    rw [show verB [a, b] [b] 9 BB = true from by rw [HBB.out.1, HD1.out.1, HD2.out.1]; exact H2.out.ver1, ← HBC.out] at h
    exact h
  refine (hk).mono ?_
  rintro e w15 ⟨rfl, hb⟩
  have HB := Seal.mk (HB.out.trans ((hb).mono HB.out.size))
  have KA := Seal.mk (KA.out.step (hb))
  have KB := Seal.mk (KB.out.step (hb))
  have KS := Seal.mk (KS.out.step (hb))
  have K20 := Seal.mk (K20.out.step (hb))
  have KG := Seal.mk (KG.out.step (hb))
  have K21 := Seal.mk (K21.out.step (hb))
  have KI := Seal.mk (KI.out.step (hb))
  clear hk hb
  go_wp2_with (refine wpList_load_mid_g (by kernel_rfl) 50 (.tmp 21) rfl g21 0 rfl BC _ K21.out.at ub rfl IBr.out.1 ?_; (try simp only [Act.put, List.setIfInBounds_toArray, List.set_cons_zero, List.set_cons_succ]))
  have hk : Calls Tryz.prog 20 #[.slice (some ⟨gS, 0, none⟩) 2 2, .slice (some ⟨gS, 0, none⟩) 2 2, .int .i64 9, .agg BC.toArray] w15 fun e w' => e = .returned (.bool false) ∧ Below w15.heap.size w15 w' := by
    have eg : BB.G = [3] := by rw [HBB.out.1]
    have h := kverify_any (some ⟨gS, 0, none⟩) (some ⟨gS, 0, none⟩) 2 2 2 2 [a, b] [a, b] 9 BB (.slice av nv cv) w15 (HG.out _ HB.out) KS.out.at HLo.out.1 (by decide) KS.out.at HLo.out.1 HBB.out.2.1 HBB.out.2.2 KG.out.at
    rw [H2.out.ver2, ← HBC.out] at h
    exact h
  refine (hk).mono ?_
  rintro e w16 ⟨rfl, hb⟩
  have HB := Seal.mk (HB.out.trans ((hb).mono HB.out.size))
  have KA := Seal.mk (KA.out.step (hb))
  have KB := Seal.mk (KB.out.step (hb))
  have KS := Seal.mk (KS.out.step (hb))
  have K20 := Seal.mk (K20.out.step (hb))
  have KG := Seal.mk (KG.out.step (hb))
  have K21 := Seal.mk (K21.out.step (hb))
  have KI := Seal.mk (KI.out.step (hb))
  clear hk hb
  go_wp2_with (refine wpList_load_mid_g (by kernel_rfl) 50 (.tmp 21) rfl g21 0 rfl BC _ K21.out.at ub rfl IBr.out.1 ?_; (try simp only [Act.put, List.setIfInBounds_toArray, List.set_cons_zero, List.set_cons_succ]))
  have hk : Calls Tryz.prog 20 #[.slice (some ⟨gS, 0, none⟩) 2 2, .slice a20 m20 q20, .int .i64 10, .agg BC.toArray] w16 fun e w' => e = .returned (.bool false) ∧ Below w16.heap.size w16 w' := by
    have eg : BB.G = [3] := by rw [HBB.out.1]
    have h := kverify_any (some ⟨gS, 0, none⟩) a20 2 2 m20 q20 [a, b] [b] 10 BB (.slice av nv cv) w16 (HG.out _ HB.out) KS.out.at HLo.out.1 (by decide) K20.out.at HLo.out.2.1 HBB.out.2.1 HBB.out.2.2 KG.out.at
    rw [H2.out.ver3, ← HBC.out] at h
    exact h
  refine (hk).mono ?_
  rintro e w17 ⟨rfl, hb⟩
  have HB := Seal.mk (HB.out.trans ((hb).mono HB.out.size))
  have KA := Seal.mk (KA.out.step (hb))
  have KB := Seal.mk (KB.out.step (hb))
  have KS := Seal.mk (KS.out.step (hb))
  have K20 := Seal.mk (K20.out.step (hb))
  have KG := Seal.mk (KG.out.step (hb))
  have K21 := Seal.mk (K21.out.step (hb))
  have KI := Seal.mk (KI.out.step (hb))
  clear hk hb
  go_wp2_with fail
  have hk : Calls Tryz.prog 12 #[.slice (some ⟨gS, 0, none⟩) 2 2] w17 fun e w' => e = .returned (.int .i64 0) ∧ Below w17.heap.size w17 w' := by
    have h := kchk_any (some ⟨gS, 0, none⟩) 2 2 [a, b] w17 (HG.out _ HB.out) KS.out.at HLo.out.1
    rwa [H2.out.chk] at h
  refine (hk).mono ?_
  rintro e w18 ⟨rfl, hb⟩
  have HB := Seal.mk (HB.out.trans ((hb).mono HB.out.size))
  have KA := Seal.mk (KA.out.step (hb))
  have KB := Seal.mk (KB.out.step (hb))
  have KS := Seal.mk (KS.out.step (hb))
  have K20 := Seal.mk (K20.out.step (hb))
  have KG := Seal.mk (KG.out.step (hb))
  have K21 := Seal.mk (K21.out.step (hb))
  have KI := Seal.mk (KI.out.step (hb))
  clear hk hb K20 KG K21 KI KS
  go_wp2_with (first | (refine wpList_load_mid_g (by kernel_rfl) 30 (.tmp 1) rfl gA 0 rfl CA _ KA.out.at ut rfl IA.out.1 ?_; (try simp only [Act.put, List.setIfInBounds_toArray, List.set_cons_zero, List.set_cons_succ])) | (refine wpList_bslice (by kernel_rfl) 22 30 2 38 #[(0, .tmp 217), (1, .tmp 218)] rfl [CA, CA] Tryz.underlying22 size_kt _ zero_kt rfl rfl HLn.out.2.2.1 (by decide) (by decide) rfl ?_; obtain ⟨Z1, g219, hg0, e0, nb, k0⟩ := litk w18 [a, a] [CA, CA] (by simp [HC.out.1]) HLn.out.2.2.2.2.2 (by simp); rw [e0, ← hg0]; clear hg0 e0; have HB := Seal.mk (HB.out.trans ((nb).mono HB.out.size)); have KA := Seal.mk (KA.out.step (nb)); have K219 := Seal.mk k0; clear nb k0; (try simp only [Act.put, List.setIfInBounds_toArray, List.set_cons_zero, List.set_cons_succ])))
  have hk : Calls Tryz.prog 12 #[.slice (some ⟨g219, 0, none⟩) 2 2] Z1 fun e w' => e = .returned (.int .i64 450) ∧ Below Z1.heap.size Z1 w' := by
    have h := kchk_any (some ⟨g219, 0, none⟩) 2 2 [a, a] Z1 (HG.out _ HB.out) K219.out.at HLo.out.2.2
    rwa [H2.out.chkaa] at h
  refine (hk).mono ?_
  rintro e w19 ⟨rfl, hb⟩
  have HB := Seal.mk (HB.out.trans ((hb).mono HB.out.size))
  have KA := Seal.mk (KA.out.step (hb))
  have K219 := Seal.mk (K219.out.step (hb))
  clear hk hb
  go_wp2
  go_ret
  exact ⟨rfl, HB.out⟩
end Frk
