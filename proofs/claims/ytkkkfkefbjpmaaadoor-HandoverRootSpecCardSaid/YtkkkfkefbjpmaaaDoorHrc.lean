/- The statement HandoverRootSpec of frankinglaw48 holds: for every input the law returns true, and each argument reads afterwards as it read before. Conditions: those of the row (the listed variables start as the program's text lays them; the card ties them). -/
import Derived.Test.YtkkkfkefbjpmaaaDoorHab
import Derived.Test.YtkkkfkefbjpmaaaDoorGrd
import Derived.Test.YtkkkfkefbjpmaaaDoorMkb
import Derived.Test.YtkkkfkefbjpmaaaDoorHop
import Derived.Test.YtkkkfkefbjpmaaaDoorHol
namespace Frk
open Go Go.RowKit Go.Proofs
set_option maxRecDepth 100000

theorem HdAt.later {w w' : World} {g : Nat} {h : Hd} (k : HdAt w g h) (hb : Below w.heap.size w w') : HdAt w' g h :=
  ⟨cell_later hb k.c0, cell_later hb k.c1, cell_later hb k.c2, cell_later hb k.c3, cell_later hb k.c4, cell_later hb k.c5, cell_later hb k.c6, cell_later hb k.c39, cell_later hb k.c40, cell_later hb k.c41, rangeAt_below' k.txt hb⟩


set_option maxHeartbeats 8000000 in
theorem rclash48_any (a b : Hd) (w : World) (ka : a.T.length = 32) (kb : b.T.length = 32) :
    Calls Tryd.prog 21 #[.agg a.C.toArray, .agg b.C.toArray] w fun e w' => e = .returned (.bool (clB a b)) ∧ Below w.heap.size w w' := by
  obtain ⟨ta, hta⟩ : ∃ ta, a.fm = ta := ⟨_, rfl⟩
  obtain ⟨tb, htb⟩ : ∃ tb, b.fm = tb := ⟨_, rfl⟩
  have eC : clB a b = (ta && (tb && ((a.L == b.L && (a.A == b.A && a.R == b.R)) && ((a.leg == b.leg) && ((a.fr == b.fr) && !((a.to == b.to) && ((a.mn == b.mn) && ((a.T == b.T) && (a.tm == b.tm)))))))))  := by
    unfold clB slB hdB Hd.sg
    rw [hta, htb]
    cases ta <;> cases tb <;> simp only [Bool.true_and, Bool.false_and, Bool.and_false]
    by_cases h1 : (a.L == b.L && (a.A == b.A && a.R == b.R)) = true
    · by_cases h2 : (a.leg == b.leg) = true
      · by_cases h3 : (a.fr == b.fr) = true
        · rw [h1, h2, h3]; simp
        · rw [Bool.not_eq_true] at h3; rw [h1, h2, h3]; simp
      · rw [Bool.not_eq_true] at h2; rw [h1, h2]; simp
    · rw [Bool.not_eq_true] at h1; rw [h1]; simp
  have HEC := Seal.mk eC
  clear eC
  obtain ⟨CA, hCA⟩ : ∃ CA, CA = a.C := ⟨_, rfl⟩
  obtain ⟨CB, hCB⟩ : ∃ CB, CB = b.C := ⟨_, rfl⟩
  have IA : Seal ((Tryd.prog.info? 29).map (·.size) = some CA.toArray.size) := ⟨by rw [hCA, List.size_toArray]; exact Hd.C_info ka⟩
  have IB : Seal ((Tryd.prog.info? 29).map (·.size) = some CB.toArray.size) := ⟨by rw [hCB, List.size_toArray]; exact Hd.C_info kb⟩
  obtain ⟨X, hX⟩ : ∃ X : World, X = (w.alloc (.cells CA.toArray 29)).alloc (.cells CB.toArray 29) := ⟨_, rfl⟩
  have hXb : Seal (Below w.heap.size w X) := ⟨by rw [hX]; exact ((Below.refl _ w).alloc (Nat.le_refl _) _).alloc (by simp) _⟩
  have hXa : X.heap[w.heap.size]? = some (.cells CA.toArray 29 (0, 0)) := by rw [hX]; exact heap_alloc2_old w _ _
  have hXc : X.heap[w.heap.size + 1]? = some (.cells CB.toArray 29 (0, 0)) := by rw [hX]; exact heap_alloc2_new w _ _
  have HA0 : Seal (HdAt X w.heap.size a) := ⟨by rw [hCA] at hXa; exact hdAt_of ka hXa⟩
  have HB0 : Seal (HdAt X (w.heap.size + 1) b) := ⟨by rw [hCB] at hXc; exact hdAt_of kb hXc⟩
  have HXa := Seal.mk hXa
  have HXc := Seal.mk hXc
  have HFA : Seal (∀ W, Calls Tryd.prog 22 #[.agg CA.toArray] W fun e w' => e = .returned (.bool ta) ∧ Below W.heap.size W w') := ⟨fun W => by rw [hCA, ← hta]; exact rformed_any a W ka⟩
  have HFB : Seal (∀ W, Calls Tryd.prog 22 #[.agg CB.toArray] W fun e w' => e = .returned (.bool tb) ∧ Below W.heap.size W w') := ⟨fun W => by rw [hCB, ← htb]; exact rformed_any b W kb⟩
  obtain ⟨rr, hrr⟩ : ∃ rr, (a.L == b.L && (a.A == b.A && a.R == b.R)) = rr := ⟨_, rfl⟩
  have heqR : ∀ W, (Op.equalIn 10000 23 (.agg #[.int .i64 a.L, .int .i64 a.A, .int .i64 a.R]) (.agg #[.int .i64 b.L, .int .i64 b.A, .int .i64 b.R])).run Tryd.prog W = .ok rr W := fun W => by rw [← hrr]; exact eqRun_at 9998 _ _ _ _ _ _ W
  obtain ⟨dd, hdd⟩ : ∃ dd, (a.T == b.T) = dd := ⟨_, rfl⟩
  obtain ⟨TA, hTA⟩ : ∃ TA, TA = a.T.map B := ⟨_, rfl⟩
  obtain ⟨TB, hTB⟩ : ∃ TB, TB = b.T.map B := ⟨_, rfl⟩
  have heqD : ∀ W, (Op.equalIn 10000 25 (.agg TA.toArray) (.agg TB.toArray)).run Tryd.prog W = .ok dd W := fun W => by rw [← hdd, hTA, hTB]; exact eqDig _ _ ka kb W
  have iTA : (Tryd.prog.info? 25).map (·.size) = some TA.length := by rw [hTA]; exact dg_info _ ka
  have iTB : (Tryd.prog.info? 25).map (·.size) = some TB.length := by rw [hTB]; exact dg_info _ kb
  have ITA := Seal.mk iTA
  have ITB := Seal.mk iTB
  have HTA := Seal.mk hTA
  have HTB := Seal.mk hTB
  have HQ : Seal (rr = (a.L == b.L && (a.A == b.A && a.R == b.R)) ∧ dd = (a.T == b.T)) := ⟨hrr.symm, hdd.symm⟩
  rw [← hCA, ← hCB]
  clear hXa hXc hCA hCB ka kb hta htb hrr hdd hTA hTB iTA iTB
  go_enter Tryd.func21, Tryd.ntmps21
  go_upto_region 1 with (fail)
  rw [← hX]
  clear hX
  go_wp2_with (refine wpList_load_row rfl 29 (.tmp 2) rfl w.heap.size rfl 29 CA.toArray (0, 0) _ HXa.out Tryd.underlying29 rfl IA.out ?_)
  refine (HFA.out X).mono ?_
  rintro e w1 ⟨rfl, hb1⟩
  have HB1 : Seal (Below w.heap.size w w1) := ⟨hXb.out.trans (hb1.mono hXb.out.size)⟩
  have HXc1 : Seal (w1.heap[w.heap.size + 1]? = some (.cells CB.toArray 29 (0, 0))) := ⟨blk hb1 (Array.getElem?_eq_some_iff.1 HXc.out).1 HXc.out⟩
  have HA1 := Seal.mk (HA0.out.later hb1)
  have HB1' := Seal.mk (HB0.out.later hb1)
  clear hb1 HA0 HB0 HXa HXc HFA
  cases ta
  · clear heqR heqD
    go_wp2_with fail
    go_ret
    exact ⟨ret_bool (by rw [HEC.out]; rfl), HB1.out⟩
  · skip
    go_wp2_with (refine wpList_load_row_g (by rfl) 29 (.tmp 3) rfl (w.heap.size + 1) rfl 29 CB.toArray (0, 0) _ HXc1.out Tryd.underlying29 rfl IB.out ?_)
    refine (HFB.out w1).mono ?_
    rintro e w2 ⟨rfl, hb2⟩
    have HB2 : Seal (Below w.heap.size w w2) := ⟨HB1.out.trans (hb2.mono HB1.out.size)⟩
    obtain ⟨a0, a1, a2, a3, a4, a5, a6, a39, _, _, atx⟩ := HA1.out.later hb2
    obtain ⟨b0, b1, b2, b3, b4, b5, b6, b39, _, _, btx⟩ := HB1'.out.later hb2
    rw [← HTA.out] at atx
    rw [← HTB.out] at btx
    have uD := Tryd.underlying25
    have AT := Seal.mk atx
    have BT := Seal.mk btx
    clear hb2 HA1 HB1' HXc1 HFB HB1 atx btx
    cases tb
    · clear heqR heqD
      go_wp2_with fail
      go_ret
      exact ⟨ret_bool (by rw [HEC.out]; rfl), HB2.out⟩
    · by_cases h1 : rr = true
      · subst h1
        by_cases h2 : a.leg = b.leg
        · by_cases h3 : a.fr = b.fr
          · by_cases h4 : a.to = b.to
            · by_cases h5 : a.mn = b.mn
              · cases dd
                · skip
                  go_wp2_with (first | (refine wpList_load_mid_g (by rfl) 25 (.tmp 47) rfl w.heap.size 7 rfl TA _ AT.out uD rfl ITA.out ?_) | (refine wpList_load_mid_g (by rfl) 25 (.tmp 49) rfl (w.heap.size + 1) 7 rfl TB _ BT.out uD rfl ITB.out ?_))
                  go_ret
                  exact ⟨ret_bool (by rw [HEC.out, ← HQ.out.1, ← HQ.out.2, h2, h3, h4, h5]; simp), HB2.out⟩
                · skip
                  go_wp2_with (first | (refine wpList_load_mid_g (by rfl) 25 (.tmp 47) rfl w.heap.size 7 rfl TA _ AT.out uD rfl ITA.out ?_) | (refine wpList_load_mid_g (by rfl) 25 (.tmp 49) rfl (w.heap.size + 1) 7 rfl TB _ BT.out uD rfl ITB.out ?_))
                  go_ret
                  exact ⟨ret_bool (by rw [HEC.out, ← HQ.out.1, ← HQ.out.2, h2, h3, h4, h5]; simp; try rfl), HB2.out⟩
              · skip
                go_wp2_with (first | (refine wpList_load_mid_g (by rfl) 25 (.tmp 47) rfl w.heap.size 7 rfl TA _ AT.out uD rfl ITA.out ?_) | (refine wpList_load_mid_g (by rfl) 25 (.tmp 49) rfl (w.heap.size + 1) 7 rfl TB _ BT.out uD rfl ITB.out ?_))
                go_ret
                exact ⟨ret_bool (by rw [HEC.out, ← HQ.out.1, h2, h3, h4, beq_false_of_ne h5]; simp), HB2.out⟩
            · skip
              go_wp2_with (first | (refine wpList_load_mid_g (by rfl) 25 (.tmp 47) rfl w.heap.size 7 rfl TA _ AT.out uD rfl ITA.out ?_) | (refine wpList_load_mid_g (by rfl) 25 (.tmp 49) rfl (w.heap.size + 1) 7 rfl TB _ BT.out uD rfl ITB.out ?_))
              go_ret
              exact ⟨ret_bool (by rw [HEC.out, ← HQ.out.1, h2, h3, beq_false_of_ne h4]; simp), HB2.out⟩
          · skip
            go_wp2_with (first | (refine wpList_load_mid_g (by rfl) 25 (.tmp 47) rfl w.heap.size 7 rfl TA _ AT.out uD rfl ITA.out ?_) | (refine wpList_load_mid_g (by rfl) 25 (.tmp 49) rfl (w.heap.size + 1) 7 rfl TB _ BT.out uD rfl ITB.out ?_))
            go_ret
            exact ⟨ret_bool (by rw [HEC.out, ← HQ.out.1, h2, beq_false_of_ne h3]; simp), HB2.out⟩
        · skip
          go_wp2_with (first | (refine wpList_load_mid_g (by rfl) 25 (.tmp 47) rfl w.heap.size 7 rfl TA _ AT.out uD rfl ITA.out ?_) | (refine wpList_load_mid_g (by rfl) 25 (.tmp 49) rfl (w.heap.size + 1) 7 rfl TB _ BT.out uD rfl ITB.out ?_))
          go_ret
          exact ⟨ret_bool (by rw [HEC.out, ← HQ.out.1, beq_false_of_ne h2]; simp), HB2.out⟩
      · rw [Bool.not_eq_true] at h1
        subst h1
        go_wp2_with (first | (refine wpList_load_mid_g (by rfl) 25 (.tmp 47) rfl w.heap.size 7 rfl TA _ AT.out uD rfl ITA.out ?_) | (refine wpList_load_mid_g (by rfl) 25 (.tmp 49) rfl (w.heap.size + 1) 7 rfl TB _ BT.out uD rfl ITB.out ?_))
        go_ret
        exact ⟨ret_bool (by rw [HEC.out, ← HQ.out.1]; simp), HB2.out⟩
end Frk

namespace Frk
open Go Go.RowKit Go.Proofs
set_option maxRecDepth 100000


set_option maxHeartbeats 4000000 in
theorem rootspec_many (a : Option Addr) (n c : Nat) (h g : Hd) (w : World) (hG : Glob w) (hn : ¬ n ≤ 70) (kh : h.T.length = 32) (kg : g.T.length = 32) :
    Calls Tryd.prog 4 #[.slice a n c, .agg h.C.toArray, .agg g.C.toArray] w fun e w' => e = .returned (.bool true) ∧ Below w.heap.size w w' := by
  have HFew : Seal (decide (n ≤ 70) = false) := ⟨decide_eq_false hn⟩
  obtain ⟨CA, hCA⟩ : ∃ CA, CA = h.C := ⟨_, rfl⟩
  obtain ⟨CB, hCB⟩ : ∃ CB, CB = g.C := ⟨_, rfl⟩
  have iA : (Tryd.prog.info? 29).map (·.size) = some CA.length := by rw [hCA]; exact Hd.C_info kh
  have iB : (Tryd.prog.info? 29).map (·.size) = some CB.length := by rw [hCB]; exact Hd.C_info kg
  obtain ⟨X, hX⟩ : ∃ X : World, X = (w.alloc (.cells CA.toArray 29)).alloc (.cells CB.toArray 29) := ⟨_, rfl⟩
  have hXb : Seal (Below w.heap.size w X) := ⟨by rw [hX]; exact ((Below.refl _ w).alloc (Nat.le_refl _) _).alloc (by simp) _⟩
  have hXa : Seal (X.heap[w.heap.size]? = some (.cells CA.toArray 29 (0, 0))) := ⟨by rw [hX]; exact heap_alloc2_old w _ _⟩
  have hXc : Seal (X.heap[w.heap.size + 1]? = some (.cells CB.toArray 29 (0, 0))) := ⟨by rw [hX]; exact heap_alloc2_new w _ _⟩
  have HGw := Seal.mk hG
  rw [← hCA, ← hCB]
  clear hG hn kh kg hCA hCB iA iB
  go_enter Tryd.func4, Tryd.ntmps4
  go_upto_region 1 with (fail)
  rw [← hX]
  clear hX
  go_wp2_with fail
  refine (hsane_any X (HGw.out.below hXb.out)).mono ?_
  rintro e w1 ⟨rfl, hb1⟩
  have HB1 : Seal (Below w.heap.size w w1) := ⟨hXb.out.trans (hb1.mono hXb.out.size)⟩
  have HXb := Seal.mk hb1
  clear hb1
  go_wp2_with fail
  refine (rfew48_any a n c _ w1 HFew.out).mono ?_
  rintro e w' ⟨rfl, rfl⟩
  go_wp2_with fail
  go_ret
  exact ⟨rfl, HB1.out⟩

set_option maxHeartbeats 4000000 in
theorem rootspec_few (a : Option Addr) (n c : Nat) (l : List (List Int)) (h g : Hd) (w : World) (hG : Glob w) (hl : IsL w a n c l) (hn : n ≤ 70) (kh : h.T.length = 32) (kg : g.T.length = 32) :
    Calls Tryd.prog 4 #[.slice a n c, .agg h.C.toArray, .agg g.C.toArray] w fun e w' => e = .returned (.bool true) ∧ Below w.heap.size w w' := by
  have HFew : Seal (decide (n ≤ 70) = true) := ⟨decide_eq_true hn⟩
  obtain ⟨CA, hCA⟩ : ∃ CA, CA = h.C := ⟨_, rfl⟩
  obtain ⟨CB, hCB⟩ : ∃ CB, CB = g.C := ⟨_, rfl⟩
  have iA : (Tryd.prog.info? 29).map (·.size) = some CA.length := by rw [hCA]; exact Hd.C_info kh
  have iB : (Tryd.prog.info? 29).map (·.size) = some CB.length := by rw [hCB]; exact Hd.C_info kg
  obtain ⟨X, hX⟩ : ∃ X : World, X = (w.alloc (.cells CA.toArray 29)).alloc (.cells CB.toArray 29) := ⟨_, rfl⟩
  have hXb : Seal (Below w.heap.size w X) := ⟨by rw [hX]; exact ((Below.refl _ w).alloc (Nat.le_refl _) _).alloc (by simp) _⟩
  have hXa : Seal (X.heap[w.heap.size]? = some (.cells CA.toArray 29 (0, 0))) := ⟨by rw [hX]; exact heap_alloc2_old w _ _⟩
  have hXc : Seal (X.heap[w.heap.size + 1]? = some (.cells CB.toArray 29 (0, 0))) := ⟨by rw [hX]; exact heap_alloc2_new w _ _⟩
  have HGw := Seal.mk hG
  have HL := Seal.mk hl
  have HR1 : Seal (∀ W, Glob W → IsL W a n c l → Calls Tryd.prog 18 #[.slice a n c] W fun e w' => e = .returned (.agg ((rootB (l.map txL)).map B).toArray) ∧ Below W.heap.size W w') := ⟨fun W hW hI => hroot_any a n c l W hW hI (by omega)⟩
  have HR2 : Seal (∀ W, IsL W a n c l → Calls Tryd.prog 19 #[.slice a n c] W fun e w' => e = .returned (.agg ((rootB (l.map txL)).map B).toArray) ∧ Below W.heap.size W w') := ⟨fun W hI => rroot48_any a n c l W hI (by omega)⟩
  have r32 := rootB_len (l.map txL)
  have heq0 := fun W => eqDig (rootB (l.map txL)) (rootB (l.map txL)) r32 r32 W
  obtain ⟨D, hD⟩ : ∃ D, D = ((rootB (l.map txL)).map B).toArray := ⟨_, rfl⟩
  rw [← hD] at HR1 HR2 heq0
  have heq : ∀ W, (Op.equalIn 10000 25 (.agg D) (.agg D)).run Tryd.prog W = .ok true W := fun W => by rw [heq0 W]; simp
  obtain ⟨cl, hcl⟩ : ∃ cl, clB h g = cl := ⟨_, rfl⟩
  have HC1 : Seal (∀ W, Calls Tryd.prog 20 #[.agg CA.toArray, .agg CB.toArray] W fun e w' => e = .returned (.bool cl) ∧ Below W.heap.size W w') := ⟨fun W => by rw [hCA, hCB, ← hcl]; exact hclash_any h g W kh kg⟩
  have HC2 : Seal (∀ W, Calls Tryd.prog 21 #[.agg CA.toArray, .agg CB.toArray] W fun e w' => e = .returned (.bool cl) ∧ Below W.heap.size W w') := ⟨fun W => by rw [hCA, hCB, ← hcl]; exact rclash48_any h g W kh kg⟩
  have uH := Tryd.underlying29
  rw [← hCA, ← hCB]
  clear hG hn kh kg hCA hCB hl hD heq0 r32 hcl
  go_enter Tryd.func4, Tryd.ntmps4
  go_upto_region 1 with (fail)
  rw [← hX]
  clear hX
  go_wp2_with fail
  refine (hsane_any X (HGw.out.below hXb.out)).mono ?_
  rintro e w1 ⟨rfl, hb1⟩
  have HB1 : Seal (Below w.heap.size w w1) := ⟨hXb.out.trans (hb1.mono hXb.out.size)⟩
  have HXb := Seal.mk hb1
  clear hb1
  go_wp2_with fail
  refine (rfew48_any a n c _ w1 HFew.out).mono ?_
  rintro e w' ⟨rfl, rfl⟩
  go_wp2_with fail
  have rA : w1.rangeAt w.heap.size 0 CA := rangeAt_row (blk HXb.out (Array.getElem?_eq_some_iff.1 hXa.out).1 hXa.out)
  have rB : w1.rangeAt (w.heap.size + 1) 0 CB := rangeAt_row (blk HXb.out (Array.getElem?_eq_some_iff.1 hXc.out).1 hXc.out)
  refine wp_region_held_drew (S := fun w' => w'.rangeAt w.heap.size 0 CA ∧ w'.rangeAt (w.heap.size + 1) 0 CB) (by kernel_rfl) ⟨rA, rB⟩ (fun hHeld => ?_)
  obtain ⟨V, hV⟩ : ∃ V, V = w1.drew := ⟨_, rfl⟩
  have sA : V.rangeAt w.heap.size 0 CA := by rw [hV]; exact rA
  have sB : V.rangeAt (w.heap.size + 1) 0 CB := by rw [hV]; exact rB
  have HV : Seal (Below w.heap.size w V) := ⟨by rw [hV]; exact HB1.out.trans ((below_drewn w1).mono HB1.out.size)⟩
  rw [← hV] at hHeld ⊢
  clear hV rA rB
  refine take_h 0 ?_ rfl (by kernel_rfl) (by kernel_rfl) (by kernel_rfl) (fun _ _ _ h => h) (Or.inl ⟨by kernel_rfl, ?_⟩) (by assumption) ?_
  rotate_left
  · (intro w hSw; (try dsimp only at hSw); go_simp; try (with_reducible rfl))
  try simp only [Act.put, List.setIfInBounds_toArray, List.set_cons_zero, List.set_cons_succ]
  refine take_h 2 ?_ rfl (by kernel_rfl) (by kernel_rfl) (by kernel_rfl) (fun _ _ _ h => h) (Or.inl ⟨by kernel_rfl, ?_⟩) (by assumption) ?_
  rotate_left
  · (intro w hSw; (try dsimp only at hSw); go_simp; try (with_reducible rfl))
  try simp only [Act.put, List.setIfInBounds_toArray, List.set_cons_zero, List.set_cons_succ]
  refine call_h 1 rfl (by kernel_rfl) 18 #[.slice a n c] (by kernel_rfl) (by go_simp) ?_
  refine (HR1.out V (HGw.out.below HV.out) (HL.out.of_heap HV.out)).mono ?_
  rintro e w3 ⟨rfl, hb3⟩
  have HB3 : Seal (Below w.heap.size w w3) := ⟨HV.out.trans (hb3.mono HV.out.size)⟩
  refine ⟨_, rfl, ⟨rangeAt_below' sA hb3, rangeAt_below' sB hb3⟩, fun hHeld2 => ?_⟩
  clear hHeld hb3 sA sB HR1
  try simp only [Act.put, List.setIfInBounds_toArray, List.set_cons_zero, List.set_cons_succ]
  refine call_h 3 rfl (by kernel_rfl) 19 #[.slice a n c] (by kernel_rfl) (by go_simp) ?_
  refine (HR2.out w3 (HL.out.of_heap HB3.out)).mono ?_
  rintro e w4 ⟨rfl, hb4⟩
  have HB4 : Seal (Below w.heap.size w w4) := ⟨HB3.out.trans (hb4.mono HB3.out.size)⟩
  refine ⟨_, rfl, ⟨rangeAt_below' hHeld2.1 hb4, rangeAt_below' hHeld2.2 hb4⟩, fun hHeld3 => ?_⟩
  clear hHeld2 hb4 HR2 HL
  try simp only [Act.put, List.setIfInBounds_toArray, List.set_cons_zero, List.set_cons_succ]
  refine take_h 4 ?_ rfl (by kernel_rfl) (by kernel_rfl) (by kernel_rfl) (fun _ _ _ h => h) (Or.inl ⟨by kernel_rfl, ?_⟩) (by assumption) ?_
  rotate_left
  · (intro w hSw; (try dsimp only at hSw); go_simp; try (with_reducible rfl))
  try simp only [Act.put, List.setIfInBounds_toArray, List.set_cons_zero, List.set_cons_succ]
  refine take_h 5 ?_ rfl (by kernel_rfl) (by kernel_rfl) (by kernel_rfl) (fun _ _ _ h => h) (Or.inl ⟨by kernel_rfl, ?_⟩) (by assumption) ?_
  rotate_left
  · (intro w hSw; (try dsimp only at hSw); go_simp; try (with_reducible rfl))
  try simp only [Act.put, List.setIfInBounds_toArray, List.set_cons_zero, List.set_cons_succ]
  refine take_h 6 _ rfl (by kernel_rfl) (by kernel_rfl) (by kernel_rfl) (fun _ _ _ h => h) (yieldsIf_load_mid (by kernel_rfl) 29 (.tmp 4) rfl w.heap.size 0 rfl CA _ (fun w hSw => hSw.1) uH rfl iA) (by assumption) ?_
  try simp only [Act.put, List.setIfInBounds_toArray, List.set_cons_zero, List.set_cons_succ]
  refine take_h 7 _ rfl (by kernel_rfl) (by kernel_rfl) (by kernel_rfl) (fun _ _ _ h => h) (yieldsIf_load_mid (by kernel_rfl) 29 (.tmp 5) rfl (w.heap.size + 1) 0 rfl CB _ (fun w hSw => hSw.2) uH rfl iB) (by assumption) ?_
  try simp only [Act.put, List.setIfInBounds_toArray, List.set_cons_zero, List.set_cons_succ]
  refine take_h 9 _ rfl (by kernel_rfl) (by kernel_rfl) (by kernel_rfl) (fun _ _ _ h => h) (yieldsIf_load_mid (by kernel_rfl) 29 (.tmp 4) rfl w.heap.size 0 rfl CA _ (fun w hSw => hSw.1) uH rfl iA) (by assumption) ?_
  try simp only [Act.put, List.setIfInBounds_toArray, List.set_cons_zero, List.set_cons_succ]
  refine take_h 10 _ rfl (by kernel_rfl) (by kernel_rfl) (by kernel_rfl) (fun _ _ _ h => h) (yieldsIf_load_mid (by kernel_rfl) 29 (.tmp 5) rfl (w.heap.size + 1) 0 rfl CB _ (fun w hSw => hSw.2) uH rfl iB) (by assumption) ?_
  try simp only [Act.put, List.setIfInBounds_toArray, List.set_cons_zero, List.set_cons_succ]
  refine call_h 8 rfl (by kernel_rfl) 20 #[.agg CA.toArray, .agg CB.toArray] (by kernel_rfl) (by go_simp) ?_
  refine (HC1.out w4).mono ?_
  rintro e w5 ⟨rfl, hb5⟩
  have HB5 : Seal (Below w.heap.size w w5) := ⟨HB4.out.trans (hb5.mono HB4.out.size)⟩
  refine ⟨_, rfl, ⟨rangeAt_below' hHeld3.1 hb5, rangeAt_below' hHeld3.2 hb5⟩, fun hHeld4 => ?_⟩
  clear hHeld3 hb5 HC1
  try simp only [Act.put, List.setIfInBounds_toArray, List.set_cons_zero, List.set_cons_succ]
  refine call_h 11 rfl (by kernel_rfl) 21 #[.agg CA.toArray, .agg CB.toArray] (by kernel_rfl) (by go_simp) ?_
  refine (HC2.out w5).mono ?_
  rintro e w6 ⟨rfl, hb6⟩
  have HB6 : Seal (Below w.heap.size w w6) := ⟨HB5.out.trans (hb6.mono HB5.out.size)⟩
  refine ⟨_, rfl, ⟨rangeAt_below' hHeld4.1 hb6, rangeAt_below' hHeld4.2 hb6⟩, fun hHeld5 => ?_⟩
  clear hHeld4 hb6 HC2
  try simp only [Act.put, List.setIfInBounds_toArray, List.set_cons_zero, List.set_cons_succ]
  refine take_h 12 ?_ rfl (by kernel_rfl) (by kernel_rfl) (by kernel_rfl) (fun _ _ _ h => h) (Or.inl ⟨by kernel_rfl, ?_⟩) (by assumption) ?_
  rotate_left
  · (intro w hSw; (try dsimp only at hSw); go_simp; try (with_reducible rfl))
  try simp only [Act.put, List.setIfInBounds_toArray, List.set_cons_zero, List.set_cons_succ]
  refine take_h 13 ?_ rfl (by kernel_rfl) (by kernel_rfl) (by kernel_rfl) (fun _ _ _ h => h) (Or.inl ⟨by kernel_rfl, ?_⟩) (by assumption) ?_
  rotate_left
  · (intro w hSw; (try dsimp only at hSw); go_simp; try (with_reducible rfl))
  try simp only [Act.put, List.setIfInBounds_toArray, List.set_cons_zero, List.set_cons_succ]
  refine take_h 14 ?_ rfl (by kernel_rfl) (by kernel_rfl) (by kernel_rfl) (fun _ _ _ h => h) (Or.inl ⟨by kernel_rfl, ?_⟩) (by assumption) ?_
  rotate_left
  · (intro w hSw; (try dsimp only at hSw); go_simp; try (with_reducible rfl))
  try simp only [Act.put, List.setIfInBounds_toArray, List.set_cons_zero, List.set_cons_succ]
  refine wpAnyH_done (by kernel_rfl) ?_ _
  clear hHeld5
  go_wp2
  go_ret
  exact ⟨ret_bool (by simp), HB6.out⟩

theorem law_handoverRootSpec (a : Option Addr) (n c : Nat) (l : List (List Int)) (h g : Hd) (w : World) (hG : Glob w) (hl : n ≤ 1000 → IsL w a n c l) (kh : h.ok) (kg : g.ok) :
    Calls Tryd.prog 4 #[.slice a n c, .agg h.C.toArray, .agg g.C.toArray] w fun e w' => e = .returned (.bool true) ∧ Below w.heap.size w w' := by
  by_cases hn : n ≤ 70
  · exact rootspec_few a n c l h g w hG (hl (by omega)) hn kh.t32 kg.t32
  · exact rootspec_many a n c h g w hG hn kh.t32 kg.t32
end Frk

namespace Go.Proofs.YtkkkfkefbjpmaaaDoor
open Go Go.RowKit Go.Proofs Go.ChangeShapes Go.WideShapes Go.ChangeAt Frk
set_option maxRecDepth 100000

theorem lifted (os : Os) (started : os.Started) (H : Type) (enc : TypeId × Value → H) :
    ReturnsInHanded {} Tryd.checked os 4 .any (fun w args => (Rows.handoverRootSpecSpec.pre enc Tryd.prog Tryd.f4 [] false w args ∧ laidMetH Tryd.prog laid w) ∧ sizedMet enc Tryd.prog Tryd.f4 (OpenSpec.ofChange Rows.handoverRootSpecSpec) false w args)
      (Rows.handoverRootSpecSpec.post enc Tryd.prog Tryd.f4 false true false false) := by
  refine returnsInHanded_of_change_and (C := Tryd.checked) (X := fun w _ => laidMetH Tryd.prog laid w) (fun _ _ _ hh h => h.of_heap hh) own started (by kernel_rfl) Tryd.func4
    (ChangeSpec.witness_shaped (enc := enc) (C := Tryd.checked) (os := os) (X := fun w _ => laidMetH Tryd.prog laid w) false (World.doorLaid Tryd.prog 400 os) #[.slice none 0 0, .agg (List.toArray (.int .i64 0 :: .int .i64 0 :: .int .i64 0 :: .int .i64 0 :: .int .i64 0 :: .int .i64 0 :: .int .i64 0 :: .int .u8 0 :: .int .u8 0 :: .int .u8 0 :: .int .u8 0 :: .int .u8 0 :: .int .u8 0 :: .int .u8 0 :: .int .u8 0 :: .int .u8 0 :: .int .u8 0 :: .int .u8 0 :: .int .u8 0 :: .int .u8 0 :: .int .u8 0 :: .int .u8 0 :: .int .u8 0 :: .int .u8 0 :: .int .u8 0 :: .int .u8 0 :: .int .u8 0 :: .int .u8 0 :: .int .u8 0 :: .int .u8 0 :: .int .u8 0 :: .int .u8 0 :: .int .u8 0 :: .int .u8 0 :: .int .u8 0 :: .int .u8 0 :: .int .u8 0 :: .int .u8 0 :: .int .u8 0 :: .int .i64 0 :: .int .i64 0 :: .int .i64 0 :: [] : List Value) : Array Value), .agg (List.toArray (.int .i64 0 :: .int .i64 0 :: .int .i64 0 :: .int .i64 0 :: .int .i64 0 :: .int .i64 0 :: .int .i64 0 :: .int .u8 0 :: .int .u8 0 :: .int .u8 0 :: .int .u8 0 :: .int .u8 0 :: .int .u8 0 :: .int .u8 0 :: .int .u8 0 :: .int .u8 0 :: .int .u8 0 :: .int .u8 0 :: .int .u8 0 :: .int .u8 0 :: .int .u8 0 :: .int .u8 0 :: .int .u8 0 :: .int .u8 0 :: .int .u8 0 :: .int .u8 0 :: .int .u8 0 :: .int .u8 0 :: .int .u8 0 :: .int .u8 0 :: .int .u8 0 :: .int .u8 0 :: .int .u8 0 :: .int .u8 0 :: .int .u8 0 :: .int .u8 0 :: .int .u8 0 :: .int .u8 0 :: .int .u8 0 :: .int .i64 0 :: .int .i64 0 :: .int .i64 0 :: [] : List Value) : Array Value)] 8 rfl (World.shaped_of_RefB (by kernel_rfl) (by kernel_rfl)) (by kernel_rfl) (by kernel_rfl) (by kernel_rfl) (door_met os _)) ?_
  intro W base args ds gs before hval0 hW _ _ hL _
  have hval : ∀ (j : Nat) t v, Tryd.f4.params[j]? = some t → args[j]? = some v → Value.okWide Tryd.prog W .any base t v := hval0
  have hW' := hW
  obtain ⟨p, q, hA0, hV, rfl, hfz, hnd⟩ := hW
  have hA : DataW.TrodAll enc Tryd.prog W 0 (fun _ => true) true Tryd.f4.params.toList args.toList ds p := hA0
  rw [Tryd.params4] at hA hval
  obtain ⟨args⟩ := args
  obtain ⟨v0, vs0, d0, ds0, p0, q0, e0, rfl, rfl, h0, hr0⟩ := trodAll_cons hA
  obtain ⟨v1, vs1, d1, ds1, p1, q1, e1, rfl, rfl, h1, hr1⟩ := trodAll_cons hr0
  obtain ⟨v2, vs2, d2, ds2, p2, q2, e2, rfl, rfl, h2, hr2⟩ := trodAll_cons hr1
  obtain ⟨rfl, rfl, rfl⟩ := trodAll_nil hr2
  obtain rfl : args = [v0, v1, v2] := by simpa [e1, e2] using e0
  obtain ⟨a0, n0, c0, l0, rfl, m0, wx0⟩ := letters_open (hval 0 36 v0 rfl rfl) h0
  obtain ⟨x1, rfl, k1⟩ := hand_open (hval 1 29 v1 rfl rfl) h1
  obtain ⟨x2, rfl, k2⟩ := hand_open (hval 2 29 v2 rfl rfl) h2
  obtain ⟨rfl, rfl⟩ := trodVars_none hV
  have hG := glob_of_laid hL
  refine (law_handoverRootSpec a0 n0 c0 l0 x1 x2 W hG wx0 k1 k2).mono fun e W' ⟨he, hb⟩ => ?_
  subst he
  exact ⟨_, rfl, law_fin (by rw [Tryd.params4]; simp only [List.mem_cons, List.not_mem_nil, or_false]; intro t ht; rcases ht with rfl | rfl | rfl <;> exact ⟨by kernel_rfl, of_decide_eq_true (by kernel_rfl)⟩) (by kernel_rfl) rfl rfl hW' hb⟩

theorem handoverRootSpec_row : Rows.HandoverRootSpecSaid :=
  OpenClaim.holds_of_wide 4 Tryd.f4 rfl rfl rfl rfl rfl rfl rfl ⟨rfl, rfl, rfl, rfl, rfl⟩ rfl rfl rfl rfl rfl (by kernel_rfl) Tryd.func4 (by kernel_rfl)
    (of_decide_eq_true (by kernel_rfl)) (by unfold Func.isWrapper; first | (rw [if_pos (by decide +kernel)]; kernel_rfl) | (rw [if_neg (by decide +kernel)]; exact ⟨rfl, rfl⟩))
    (fun os started H enc _ => lifted os started H enc)

theorem handoverRootSpec_holds : Rows.HandoverRootSpecCardSaid :=
  Claim7.holds_tied_plain_at .later [] [.data, .data] true Rows.handoverRootSpecCard.stood.harness true
    handoverRootSpec_row (fun _ h => by cases h) (by kernel_rfl) (fun _ h => by cases h) handoverRootSpec_row_tie rfl ⟨rfl, rfl⟩ (by kernel_rfl) rfl
    (fun f fn hf hfn => by
      obtain rfl : f = 4 := Option.some.inj ((show Tryd.prog.funcNamed "franking/frankinglaw48.HandoverRootSpec" = some 4 by kernel_rfl).symm.trans hf) |>.symm
      obtain rfl : fn = Tryd.f4 := (Option.some.inj (Tryd.func4.symm.trans hfn)).symm
      exact ⟨by kernel_rfl, fun j t ht => by
        rw [Tryd.params4] at ht
        have hm : t ∈ [36, 29, 29] := by simpa using Array.mem_of_getElem? ht
        have hall : ([36, 29, 29].all fun u => !Tryd.prog.wantsStandIn u) = true := by kernel_rfl
        exact (show Tryd.prog.wantsStandIn t = false by simpa using List.all_eq_true.1 hall t hm)⟩)
    (by kernel_rfl)
#print axioms handoverRootSpec_holds
end Go.Proofs.YtkkkfkefbjpmaaaDoor
