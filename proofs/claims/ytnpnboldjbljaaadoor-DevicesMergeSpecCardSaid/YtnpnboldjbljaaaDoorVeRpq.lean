/- Law 44's reference: Post. -/
import Derived.Test.YtnpnboldjbljaaaDoorVeRis
import Derived.Test.YtnpnboldjbljaaaDoorVeRri
import Derived.Test.YtnpnboldjbljaaaDoorVeRse
import Derived.Test.YtnpnboldjbljaaaDoorVeKpt
namespace Frk
open Go Go.RowKit Go.Proofs
set_option maxRecDepth 100000

theorem posz_one : ((List.toArray (.int .i64 0 :: .int .u8 0 :: .int .u8 0 :: .int .u8 0 :: .int .u8 0 :: .int .u8 0 :: .int .u8 0 :: .int .u8 0 :: .int .u8 0 :: .int .u8 0 :: .int .u8 0 :: .int .u8 0 :: .int .u8 0 :: .int .u8 0 :: .int .u8 0 :: .int .u8 0 :: .int .u8 0 :: .int .u8 0 :: .int .u8 0 :: .int .u8 0 :: .int .u8 0 :: .int .u8 0 :: .int .u8 0 :: .int .u8 0 :: .int .u8 0 :: .int .u8 0 :: .int .u8 0 :: .int .u8 0 :: .int .u8 0 :: .int .u8 0 :: .int .u8 0 :: .int .u8 0 :: .int .u8 0 :: [] : List Value) : Array Value) : Array Value).all (·.oneCell') = true := by rw [← zPo_arr]; exact all_oneCell_toArray (Po.C_one _)
theorem posz_info : (Tryd.prog.info? 31).map (·.size) = some ((List.toArray (.int .i64 0 :: .int .u8 0 :: .int .u8 0 :: .int .u8 0 :: .int .u8 0 :: .int .u8 0 :: .int .u8 0 :: .int .u8 0 :: .int .u8 0 :: .int .u8 0 :: .int .u8 0 :: .int .u8 0 :: .int .u8 0 :: .int .u8 0 :: .int .u8 0 :: .int .u8 0 :: .int .u8 0 :: .int .u8 0 :: .int .u8 0 :: .int .u8 0 :: .int .u8 0 :: .int .u8 0 :: .int .u8 0 :: .int .u8 0 :: .int .u8 0 :: .int .u8 0 :: .int .u8 0 :: .int .u8 0 :: .int .u8 0 :: .int .u8 0 :: .int .u8 0 :: .int .u8 0 :: .int .u8 0 :: [] : List Value) : Array Value) : Array Value).size := by kernel_rfl
set_option maxHeartbeats 8000000 in
theorem rpost44_any (pa ga : Option Addr) (pn pc gn gc : Nat) (D : Dv) (s o : Int) (w : World) (hs : I64 s) (ho : I64 o) (hP : IsPs w pa pn pc D.P) (h32 : ∀ x ∈ D.P, x.S.length = 32) (hG : IsIs w ga gn gc D.G) (hpa : PlainA pa pc) :
    Calls Tryd.prog 12 #[.agg #[.slice pa pn pc, .slice ga gn gc], .int .i64 s, .int .i64 o] w (PostPost (postD D s o) (postP D s o) (postE D o) w) := by
  obtain ⟨X, hX⟩ : ∃ X : World, X = ((w.alloc (.cells #[.slice pa pn pc, .slice ga gn gc] 25)).alloc (.cells #[.slice none 0 0, .slice none 0 0] 25)).alloc (.cells #[.int .i64 0, .int .u8 0, .int .u8 0, .int .u8 0, .int .u8 0, .int .u8 0, .int .u8 0, .int .u8 0, .int .u8 0, .int .u8 0, .int .u8 0, .int .u8 0, .int .u8 0, .int .u8 0, .int .u8 0, .int .u8 0, .int .u8 0, .int .u8 0, .int .u8 0, .int .u8 0, .int .u8 0, .int .u8 0, .int .u8 0, .int .u8 0, .int .u8 0, .int .u8 0, .int .u8 0, .int .u8 0, .int .u8 0, .int .u8 0, .int .u8 0, .int .u8 0, .int .u8 0] 31) := ⟨_, rfl⟩
  have HB : Seal (Below w.heap.size w X) := ⟨by rw [hX]; exact (((Below.refl _ w).alloc (Nat.le_refl _) _).alloc (by simp) _).alloc (by simp; omega) _⟩
  obtain ⟨hrow, hres, hpo⟩ : X.heap[w.heap.size]? = some (.cells #[.slice pa pn pc, .slice ga gn gc] 25 (0, 0)) ∧ X.heap[w.heap.size + 1]? = some (.cells #[.slice none 0 0, .slice none 0 0] 25 (0, 0)) ∧ X.heap[w.heap.size + 1 + 1]? = some (.cells (List.toArray (.int .i64 0 :: .int .u8 0 :: .int .u8 0 :: .int .u8 0 :: .int .u8 0 :: .int .u8 0 :: .int .u8 0 :: .int .u8 0 :: .int .u8 0 :: .int .u8 0 :: .int .u8 0 :: .int .u8 0 :: .int .u8 0 :: .int .u8 0 :: .int .u8 0 :: .int .u8 0 :: .int .u8 0 :: .int .u8 0 :: .int .u8 0 :: .int .u8 0 :: .int .u8 0 :: .int .u8 0 :: .int .u8 0 :: .int .u8 0 :: .int .u8 0 :: .int .u8 0 :: .int .u8 0 :: .int .u8 0 :: .int .u8 0 :: .int .u8 0 :: .int .u8 0 :: .int .u8 0 :: .int .u8 0 :: [] : List Value) : Array Value) 31 (0, 0)) := by rw [hX]; exact heap_alloc3 w _ _ _
  have c0 : X.cell? ⟨w.heap.size, 0, none⟩ = some (.slice pa pn pc) := by rw [cell_of_row _ _ _ _ _ _ hrow]; rfl
  have c1 : X.cell? ⟨w.heap.size, 1, none⟩ = some (.slice ga gn gc) := by rw [cell_of_row _ _ _ _ _ _ hrow]; rfl
  have HP : Seal (∀ W, Below w.heap.size w W → IsPs W pa pn pc D.P ∧ IsIs W ga gn gc D.G) := ⟨fun W h => ⟨hP.below h, hG.below h⟩⟩
  have HGl : Seal (I64 s ∧ I64 o ∧ PlainA pa pc) := ⟨⟨hs, ho, hpa⟩⟩
  have H32 := Seal.mk h32
  have HCk : Seal (∀ W, Below w.heap.size w W → Calls Tryd.prog 14 #[.agg #[.slice pa pn pc, .slice ga gn gc]] W fun e w' => e = .returned (.int .i64 (chkD D)) ∧ Below W.heap.size W w') := ⟨fun W h => rcheck44_any pa ga pn pc gn gc D W (hP.below h) (hG.below h)⟩
  have HN : Seal (D.P.length = pn ∧ D.G.length = gn) := ⟨hP.llen, hG.llen⟩
  have hlm := hP.lmax
  obtain ⟨er, her⟩ : ∃ e, e = chkD D := ⟨_, rfl⟩
  rw [← her] at HCk
  have HER := Seal.mk her
  have hgs : w.heap.size + 1 + 1 < X.heap.size := (Array.getElem?_eq_some_iff.1 hpo).1
  obtain ⟨gx, hgx⟩ : ∃ g, g = w.heap.size := ⟨_, rfl⟩
  have HGX := Seal.mk hgx
  have ut := Tryd.underlying31
  have ud := Tryd.underlying25
  rw [← hgx] at c0 c1 hres hpo hgs
  clear hP h32 hG hrow her hs ho hpa
  go_enter Tryd.func12, Tryd.ntmps12
  go_upto_region 1 with (fail)
  rw [← hX]
  rw [← hgx]
  clear hX hgx
  go_wp2_with fail
  refine (HCk.out X HB.out).mono ?_
  rintro e w1 ⟨rfl, hb⟩
  have HB1 := Seal.mk (HB.out.trans (hb.mono HB.out.size))
  have c0 := cell_below' hb c0
  have c1 := cell_below' hb c1
  have hres := (hb.block _ (by omega)).trans hres
  have hpo := (hb.block _ hgs).trans hpo
  have hgs := Nat.lt_of_lt_of_le hgs hb.size
  clear hb HB HCk
  by_cases h0 : er = 0
  rotate_left
  · have HE : Seal (postE D o = er ∧ postD D s o = Dv.z ∧ postP D s o = zPo 0) := ⟨by
      have e : postE D o = er := by unfold postE; rw [← HER.out, if_pos h0]
      exact ⟨e, by unfold postD; rw [e, if_neg h0], by unfold postP; rw [e, if_neg h0]⟩⟩
    have q0 : ¬ er = 0 := h0
    clear HER h0
    go_wp2_with (first
      | (refine wpList_store_row rfl 25 (.tmp 6) (.tmp 15) rfl (gx + 1) #[.slice none 0 0, .slice none 0 0] rfl rfl 25 _ hres dev_info rfl (by simp [Value.oneCell']) ?_)
      | (refine wpList_store_row rfl 31 (.tmp 7) (.tmp 16) rfl (gx + 1 + 1) (List.toArray (.int .i64 0 :: .int .u8 0 :: .int .u8 0 :: .int .u8 0 :: .int .u8 0 :: .int .u8 0 :: .int .u8 0 :: .int .u8 0 :: .int .u8 0 :: .int .u8 0 :: .int .u8 0 :: .int .u8 0 :: .int .u8 0 :: .int .u8 0 :: .int .u8 0 :: .int .u8 0 :: .int .u8 0 :: .int .u8 0 :: .int .u8 0 :: .int .u8 0 :: .int .u8 0 :: .int .u8 0 :: .int .u8 0 :: .int .u8 0 :: .int .u8 0 :: .int .u8 0 :: .int .u8 0 :: .int .u8 0 :: .int .u8 0 :: .int .u8 0 :: .int .u8 0 :: .int .u8 0 :: .int .u8 0 :: [] : List Value) : Array Value) rfl rfl 31 _ ((heap_setRow_ne (by omega)).trans hpo) posz_info rfl posz_one ?_))
    refine bodyPost_ret (results_two_tmp (fn := Tryd.f12) rfl _ _ (gx + 1) (gx + 1 + 1) 25 31 #[.slice none 0 0, .slice none 0 0] (List.toArray (.int .i64 0 :: .int .u8 0 :: .int .u8 0 :: .int .u8 0 :: .int .u8 0 :: .int .u8 0 :: .int .u8 0 :: .int .u8 0 :: .int .u8 0 :: .int .u8 0 :: .int .u8 0 :: .int .u8 0 :: .int .u8 0 :: .int .u8 0 :: .int .u8 0 :: .int .u8 0 :: .int .u8 0 :: .int .u8 0 :: .int .u8 0 :: .int .u8 0 :: .int .u8 0 :: .int .u8 0 :: .int .u8 0 :: .int .u8 0 :: .int .u8 0 :: .int .u8 0 :: .int .u8 0 :: .int .u8 0 :: .int .u8 0 :: .int .u8 0 :: .int .u8 0 :: .int .u8 0 :: .int .u8 0 :: [] : List Value) : Array Value) _ rfl rfl rfl ((heap_setRow_ne (by omega)).trans (setRow_heap _ _ _ _ _ _ hres)) (setRow_heap _ _ _ _ _ _ ((heap_setRow_ne (by omega)).trans hpo)) ud rfl dev_info ut rfl posz_info) rfl ?_
    rw [HE.out.1, HE.out.2.1, HE.out.2.2]
    exact ⟨_, _, rfl, ⟨devAt_z _⟩, below_row (below_row HB1.out (by have := HGX.out; omega) _) (by have := HGX.out; omega) _⟩
  subst h0
  have HCz : Seal (chkD D = 0) := ⟨HER.out.symm⟩
  clear HER
  by_cases h0 : 0 ≤ o ∧ o ≤ 1048576
  rotate_left
  · have HE : Seal (postE D o = 1 ∧ postD D s o = Dv.z ∧ postP D s o = zPo 0) := ⟨by
      have e : postE D o = 1 := by unfold postE; rw [if_neg (by simp [HCz.out]), if_pos (by omega)]
      exact ⟨e, by unfold postD; rw [e]; rfl, by unfold postP; rw [e]; rfl⟩⟩
    by_cases h1 : o < 0
    · clear h0
      go_wp2_with (first
        | (refine wpList_store_row rfl 25 (.tmp 6) (.tmp 24) rfl (gx + 1) #[.slice none 0 0, .slice none 0 0] rfl rfl 25 _ hres dev_info rfl (by simp [Value.oneCell']) ?_)
        | (refine wpList_store_row rfl 31 (.tmp 7) (.tmp 25) rfl (gx + 1 + 1) (List.toArray (.int .i64 0 :: .int .u8 0 :: .int .u8 0 :: .int .u8 0 :: .int .u8 0 :: .int .u8 0 :: .int .u8 0 :: .int .u8 0 :: .int .u8 0 :: .int .u8 0 :: .int .u8 0 :: .int .u8 0 :: .int .u8 0 :: .int .u8 0 :: .int .u8 0 :: .int .u8 0 :: .int .u8 0 :: .int .u8 0 :: .int .u8 0 :: .int .u8 0 :: .int .u8 0 :: .int .u8 0 :: .int .u8 0 :: .int .u8 0 :: .int .u8 0 :: .int .u8 0 :: .int .u8 0 :: .int .u8 0 :: .int .u8 0 :: .int .u8 0 :: .int .u8 0 :: .int .u8 0 :: .int .u8 0 :: [] : List Value) : Array Value) rfl rfl 31 _ ((heap_setRow_ne (by omega)).trans hpo) posz_info rfl posz_one ?_))
      refine bodyPost_ret (results_two_tmp (fn := Tryd.f12) rfl _ _ (gx + 1) (gx + 1 + 1) 25 31 #[.slice none 0 0, .slice none 0 0] (List.toArray (.int .i64 0 :: .int .u8 0 :: .int .u8 0 :: .int .u8 0 :: .int .u8 0 :: .int .u8 0 :: .int .u8 0 :: .int .u8 0 :: .int .u8 0 :: .int .u8 0 :: .int .u8 0 :: .int .u8 0 :: .int .u8 0 :: .int .u8 0 :: .int .u8 0 :: .int .u8 0 :: .int .u8 0 :: .int .u8 0 :: .int .u8 0 :: .int .u8 0 :: .int .u8 0 :: .int .u8 0 :: .int .u8 0 :: .int .u8 0 :: .int .u8 0 :: .int .u8 0 :: .int .u8 0 :: .int .u8 0 :: .int .u8 0 :: .int .u8 0 :: .int .u8 0 :: .int .u8 0 :: .int .u8 0 :: [] : List Value) : Array Value) _ rfl rfl rfl ((heap_setRow_ne (by omega)).trans (setRow_heap _ _ _ _ _ _ hres)) (setRow_heap _ _ _ _ _ _ ((heap_setRow_ne (by omega)).trans hpo)) ud rfl dev_info ut rfl posz_info) rfl ?_
      rw [HE.out.1, HE.out.2.1, HE.out.2.2]
      exact ⟨_, _, rfl, ⟨devAt_z _⟩, below_row (below_row HB1.out (by have := HGX.out; omega) _) (by have := HGX.out; omega) _⟩
    · have h2 : 1048576 < o := by omega
      clear h0
      go_wp2_with (first
        | (refine wpList_store_row rfl 25 (.tmp 6) (.tmp 24) rfl (gx + 1) #[.slice none 0 0, .slice none 0 0] rfl rfl 25 _ hres dev_info rfl (by simp [Value.oneCell']) ?_)
        | (refine wpList_store_row rfl 31 (.tmp 7) (.tmp 25) rfl (gx + 1 + 1) (List.toArray (.int .i64 0 :: .int .u8 0 :: .int .u8 0 :: .int .u8 0 :: .int .u8 0 :: .int .u8 0 :: .int .u8 0 :: .int .u8 0 :: .int .u8 0 :: .int .u8 0 :: .int .u8 0 :: .int .u8 0 :: .int .u8 0 :: .int .u8 0 :: .int .u8 0 :: .int .u8 0 :: .int .u8 0 :: .int .u8 0 :: .int .u8 0 :: .int .u8 0 :: .int .u8 0 :: .int .u8 0 :: .int .u8 0 :: .int .u8 0 :: .int .u8 0 :: .int .u8 0 :: .int .u8 0 :: .int .u8 0 :: .int .u8 0 :: .int .u8 0 :: .int .u8 0 :: .int .u8 0 :: .int .u8 0 :: [] : List Value) : Array Value) rfl rfl 31 _ ((heap_setRow_ne (by omega)).trans hpo) posz_info rfl posz_one ?_))
      refine bodyPost_ret (results_two_tmp (fn := Tryd.f12) rfl _ _ (gx + 1) (gx + 1 + 1) 25 31 #[.slice none 0 0, .slice none 0 0] (List.toArray (.int .i64 0 :: .int .u8 0 :: .int .u8 0 :: .int .u8 0 :: .int .u8 0 :: .int .u8 0 :: .int .u8 0 :: .int .u8 0 :: .int .u8 0 :: .int .u8 0 :: .int .u8 0 :: .int .u8 0 :: .int .u8 0 :: .int .u8 0 :: .int .u8 0 :: .int .u8 0 :: .int .u8 0 :: .int .u8 0 :: .int .u8 0 :: .int .u8 0 :: .int .u8 0 :: .int .u8 0 :: .int .u8 0 :: .int .u8 0 :: .int .u8 0 :: .int .u8 0 :: .int .u8 0 :: .int .u8 0 :: .int .u8 0 :: .int .u8 0 :: .int .u8 0 :: .int .u8 0 :: .int .u8 0 :: [] : List Value) : Array Value) _ rfl rfl rfl ((heap_setRow_ne (by omega)).trans (setRow_heap _ _ _ _ _ _ hres)) (setRow_heap _ _ _ _ _ _ ((heap_setRow_ne (by omega)).trans hpo)) ud rfl dev_info ut rfl posz_info) rfl ?_
      rw [HE.out.1, HE.out.2.1, HE.out.2.2]
      exact ⟨_, _, rfl, ⟨devAt_z _⟩, below_row (below_row HB1.out (by have := HGX.out; omega) _) (by have := HGX.out; omega) _⟩
  obtain ⟨h1, h2⟩ := h0
  have h1' : ¬ o < 0 := by omega
  have h2' : ¬ 1048576 < o := by omega
  clear h1 h2
  have HO2 : Seal (¬ (o < 0 ∨ 1048576 < o)) := ⟨by omega⟩
  go_wp2_with fail
  refine (rfind44_any pa pn pc D.P o w1 (HP.out w1 HB1.out).1).mono ?_
  rintro e w2 ⟨i, rfl, hi, rfl⟩
  by_cases hneg : i < 0
  rotate_left
  · have HE : Seal (postE D o = 181 ∧ postD D s o = Dv.z ∧ postP D s o = zPo 0) := ⟨by
      have hh : hasK Po.o D.P o = true := by
        cases e : hasK Po.o D.P o with
        | true => rfl
        | false => exact absurd (hi.out.has.2 e) hneg
      have e : postE D o = 181 := by unfold postE; rw [if_neg (by simp [HCz.out]), if_neg HO2.out, if_pos hh]
      exact ⟨e, by unfold postD; rw [e]; rfl, by unfold postP; rw [e]; rfl⟩⟩
    have q0 : 0 ≤ i := by omega
    clear hi
    go_wp2_with (first
      | (refine wpList_store_row rfl 25 (.tmp 6) (.tmp 31) rfl (gx + 1) #[.slice none 0 0, .slice none 0 0] rfl rfl 25 _ hres dev_info rfl (by simp [Value.oneCell']) ?_)
      | (refine wpList_store_row rfl 31 (.tmp 7) (.tmp 32) rfl (gx + 1 + 1) (List.toArray (.int .i64 0 :: .int .u8 0 :: .int .u8 0 :: .int .u8 0 :: .int .u8 0 :: .int .u8 0 :: .int .u8 0 :: .int .u8 0 :: .int .u8 0 :: .int .u8 0 :: .int .u8 0 :: .int .u8 0 :: .int .u8 0 :: .int .u8 0 :: .int .u8 0 :: .int .u8 0 :: .int .u8 0 :: .int .u8 0 :: .int .u8 0 :: .int .u8 0 :: .int .u8 0 :: .int .u8 0 :: .int .u8 0 :: .int .u8 0 :: .int .u8 0 :: .int .u8 0 :: .int .u8 0 :: .int .u8 0 :: .int .u8 0 :: .int .u8 0 :: .int .u8 0 :: .int .u8 0 :: .int .u8 0 :: [] : List Value) : Array Value) rfl rfl 31 _ ((heap_setRow_ne (by omega)).trans hpo) posz_info rfl posz_one ?_))
    refine bodyPost_ret (results_two_tmp (fn := Tryd.f12) rfl _ _ (gx + 1) (gx + 1 + 1) 25 31 #[.slice none 0 0, .slice none 0 0] (List.toArray (.int .i64 0 :: .int .u8 0 :: .int .u8 0 :: .int .u8 0 :: .int .u8 0 :: .int .u8 0 :: .int .u8 0 :: .int .u8 0 :: .int .u8 0 :: .int .u8 0 :: .int .u8 0 :: .int .u8 0 :: .int .u8 0 :: .int .u8 0 :: .int .u8 0 :: .int .u8 0 :: .int .u8 0 :: .int .u8 0 :: .int .u8 0 :: .int .u8 0 :: .int .u8 0 :: .int .u8 0 :: .int .u8 0 :: .int .u8 0 :: .int .u8 0 :: .int .u8 0 :: .int .u8 0 :: .int .u8 0 :: .int .u8 0 :: .int .u8 0 :: .int .u8 0 :: .int .u8 0 :: .int .u8 0 :: [] : List Value) : Array Value) _ rfl rfl rfl ((heap_setRow_ne (by omega)).trans (setRow_heap _ _ _ _ _ _ hres)) (setRow_heap _ _ _ _ _ _ ((heap_setRow_ne (by omega)).trans hpo)) ud rfl dev_info ut rfl posz_info) rfl ?_
    rw [HE.out.1, HE.out.2.1, HE.out.2.2]
    exact ⟨_, _, rfl, ⟨devAt_z _⟩, below_row (below_row HB1.out (by have := HGX.out; omega) _) (by have := HGX.out; omega) _⟩
  have HH : Seal (hasK Po.o D.P o = false) := ⟨hi.out.has.1 hneg⟩
  have q0 : ¬ 0 ≤ i := by omega
  clear hi hneg
  have hpn : pn ≤ 4096 := by have := (chkD_zero.1 HCz.out).1; have := HN.out; omega
  by_cases h9 : pn = 4096
  · have HE : Seal (postE D o = 2 ∧ postD D s o = Dv.z ∧ postP D s o = zPo 0) := ⟨by
      have e : postE D o = 2 := by unfold postE; rw [if_neg (by simp [HCz.out]), if_neg HO2.out, HH.out, if_neg (by simp), if_pos (by have := HN.out; omega)]
      exact ⟨e, by unfold postD; rw [e]; rfl, by unfold postP; rw [e]; rfl⟩⟩
    have q9 : ((pn : Int) == 4096) = true := by simp [h9]
    clear h9
    go_wp2_with (first
      | (refine wpList_store_row rfl 25 (.tmp 6) (.tmp 37) rfl (gx + 1) #[.slice none 0 0, .slice none 0 0] rfl rfl 25 _ hres dev_info rfl (by simp [Value.oneCell']) ?_)
      | (refine wpList_store_row rfl 31 (.tmp 7) (.tmp 38) rfl (gx + 1 + 1) (List.toArray (.int .i64 0 :: .int .u8 0 :: .int .u8 0 :: .int .u8 0 :: .int .u8 0 :: .int .u8 0 :: .int .u8 0 :: .int .u8 0 :: .int .u8 0 :: .int .u8 0 :: .int .u8 0 :: .int .u8 0 :: .int .u8 0 :: .int .u8 0 :: .int .u8 0 :: .int .u8 0 :: .int .u8 0 :: .int .u8 0 :: .int .u8 0 :: .int .u8 0 :: .int .u8 0 :: .int .u8 0 :: .int .u8 0 :: .int .u8 0 :: .int .u8 0 :: .int .u8 0 :: .int .u8 0 :: .int .u8 0 :: .int .u8 0 :: .int .u8 0 :: .int .u8 0 :: .int .u8 0 :: .int .u8 0 :: [] : List Value) : Array Value) rfl rfl 31 _ ((heap_setRow_ne (by omega)).trans hpo) posz_info rfl posz_one ?_))
    refine bodyPost_ret (results_two_tmp (fn := Tryd.f12) rfl _ _ (gx + 1) (gx + 1 + 1) 25 31 #[.slice none 0 0, .slice none 0 0] (List.toArray (.int .i64 0 :: .int .u8 0 :: .int .u8 0 :: .int .u8 0 :: .int .u8 0 :: .int .u8 0 :: .int .u8 0 :: .int .u8 0 :: .int .u8 0 :: .int .u8 0 :: .int .u8 0 :: .int .u8 0 :: .int .u8 0 :: .int .u8 0 :: .int .u8 0 :: .int .u8 0 :: .int .u8 0 :: .int .u8 0 :: .int .u8 0 :: .int .u8 0 :: .int .u8 0 :: .int .u8 0 :: .int .u8 0 :: .int .u8 0 :: .int .u8 0 :: .int .u8 0 :: .int .u8 0 :: .int .u8 0 :: .int .u8 0 :: .int .u8 0 :: .int .u8 0 :: .int .u8 0 :: .int .u8 0 :: [] : List Value) : Array Value) _ rfl rfl rfl ((heap_setRow_ne (by omega)).trans (setRow_heap _ _ _ _ _ _ hres)) (setRow_heap _ _ _ _ _ _ ((heap_setRow_ne (by omega)).trans hpo)) ud rfl dev_info ut rfl posz_info) rfl ?_
    rw [HE.out.1, HE.out.2.1, HE.out.2.2]
    exact ⟨_, _, rfl, ⟨devAt_z _⟩, below_row (below_row HB1.out (by have := HGX.out; omega) _) (by have := HGX.out; omega) _⟩
  have HE : Seal (postE D o = 0 ∧ postD D s o = ⟨insK Po.o D.P ⟨o, serB s o⟩, D.G⟩ ∧ postP D s o = ⟨o, serB s o⟩) := ⟨by
    have e : postE D o = 0 := by unfold postE; rw [if_neg (by simp [HCz.out]), if_neg HO2.out, HH.out, if_neg (by simp), if_neg (by have := HN.out; omega)]
    exact ⟨e, by unfold postD; rw [if_pos e], by unfold postP; rw [if_pos e]⟩⟩
  have q9 : ((pn : Int) == 4096) = false := by simp; omega
  go_wp2_with fail
  refine (rserial44_any s o w1 HGl.out.1 HGl.out.2.1).mono ?_
  rintro e w3 ⟨rfl, hb⟩
  have HB3 := Seal.mk (HB1.out.trans (hb.mono HB1.out.size))
  have c0 := cell_below' hb c0
  have c1 := cell_below' hb c1
  have hres := (hb.block _ (by omega)).trans hres
  have hpo := (hb.block _ hgs).trans hpo
  have hgs := Nat.lt_of_lt_of_le hgs hb.size
  clear hb HB1
  have lS := serB_len s o
  obtain ⟨CP, hCP⟩ : ∃ C, C = Po.C ⟨o, serB s o⟩ := ⟨_, rfl⟩
  have HCP := Seal.mk hCP
  have iP : (Tryd.prog.info? 31).map (·.size) = some CP.length := by rw [hCP]; exact Po.C_info lS
  have HP1 : Seal (CP.toArray.all (·.oneCell') = true) := ⟨all_oneCell_toArray (by rw [hCP]; exact Po.C_one _)⟩
  have HP2 : Seal (((List.toArray (.int .i64 0 :: .int .u8 0 :: .int .u8 0 :: .int .u8 0 :: .int .u8 0 :: .int .u8 0 :: .int .u8 0 :: .int .u8 0 :: .int .u8 0 :: .int .u8 0 :: .int .u8 0 :: .int .u8 0 :: .int .u8 0 :: .int .u8 0 :: .int .u8 0 :: .int .u8 0 :: .int .u8 0 :: .int .u8 0 :: .int .u8 0 :: .int .u8 0 :: .int .u8 0 :: .int .u8 0 :: .int .u8 0 :: .int .u8 0 :: .int .u8 0 :: .int .u8 0 :: .int .u8 0 :: .int .u8 0 :: .int .u8 0 :: .int .u8 0 :: .int .u8 0 :: .int .u8 0 :: .int .u8 0 :: [] : List Value) : Array Value) : Array Value).size = CP.toArray.size) := ⟨by rw [posz_len, hCP, List.size_toArray, Po.C_len lS]⟩
  have HIN3 : Seal (∀ x ∈ insK Po.o D.P ⟨o, serB s o⟩, x.S.length = 32) := ⟨fun x hx => by
    rcases mem_insK.1 hx with e | e
    · rw [e]; exact lS
    · exact H32.out x e⟩
  obtain ⟨Y, hY⟩ : ∃ Y, Y = w3.alloc (.cells CP.toArray 31) := ⟨_, rfl⟩
  have hYz : (w3.alloc (.cells (List.toArray (.int .i64 0 :: .int .u8 0 :: .int .u8 0 :: .int .u8 0 :: .int .u8 0 :: .int .u8 0 :: .int .u8 0 :: .int .u8 0 :: .int .u8 0 :: .int .u8 0 :: .int .u8 0 :: .int .u8 0 :: .int .u8 0 :: .int .u8 0 :: .int .u8 0 :: .int .u8 0 :: .int .u8 0 :: .int .u8 0 :: .int .u8 0 :: .int .u8 0 :: .int .u8 0 :: .int .u8 0 :: .int .u8 0 :: .int .u8 0 :: .int .u8 0 :: .int .u8 0 :: .int .u8 0 :: .int .u8 0 :: .int .u8 0 :: .int .u8 0 :: .int .u8 0 :: .int .u8 0 :: .int .u8 0 :: [] : List Value) : Array Value) 31)).setRow w3.heap.size CP.toArray = Y := by rw [hY]; exact setRow_new w3 (.int .i64 0 :: .int .u8 0 :: .int .u8 0 :: .int .u8 0 :: .int .u8 0 :: .int .u8 0 :: .int .u8 0 :: .int .u8 0 :: .int .u8 0 :: .int .u8 0 :: .int .u8 0 :: .int .u8 0 :: .int .u8 0 :: .int .u8 0 :: .int .u8 0 :: .int .u8 0 :: .int .u8 0 :: .int .u8 0 :: .int .u8 0 :: .int .u8 0 :: .int .u8 0 :: .int .u8 0 :: .int .u8 0 :: .int .u8 0 :: .int .u8 0 :: .int .u8 0 :: .int .u8 0 :: .int .u8 0 :: .int .u8 0 :: .int .u8 0 :: .int .u8 0 :: .int .u8 0 :: .int .u8 0 :: [] : List Value) CP _
  obtain ⟨gp, hgp⟩ : ∃ g, g = w3.heap.size := ⟨_, rfl⟩
  have HGP : Seal (gx + 1 + 1 < gp) := ⟨by rw [hgp]; exact hgs⟩
  have HY : Seal (Below w.heap.size w Y ∧ Y.heap[gx + 1]? = some (.cells #[.slice none 0 0, .slice none 0 0] 25 (0, 0)) ∧ Y.heap[gx + 1 + 1]? = some (.cells (List.toArray (.int .i64 0 :: .int .u8 0 :: .int .u8 0 :: .int .u8 0 :: .int .u8 0 :: .int .u8 0 :: .int .u8 0 :: .int .u8 0 :: .int .u8 0 :: .int .u8 0 :: .int .u8 0 :: .int .u8 0 :: .int .u8 0 :: .int .u8 0 :: .int .u8 0 :: .int .u8 0 :: .int .u8 0 :: .int .u8 0 :: .int .u8 0 :: .int .u8 0 :: .int .u8 0 :: .int .u8 0 :: .int .u8 0 :: .int .u8 0 :: .int .u8 0 :: .int .u8 0 :: .int .u8 0 :: .int .u8 0 :: .int .u8 0 :: .int .u8 0 :: .int .u8 0 :: .int .u8 0 :: .int .u8 0 :: [] : List Value) : Array Value) 31 (0, 0)) ∧ Y.cell? ⟨gx, 0, none⟩ = some (.slice pa pn pc) ∧ Y.cell? ⟨gx, 1, none⟩ = some (.slice ga gn gc) ∧ Y.heap[gp]? = some (.cells CP.toArray 31 (0, 0)) ∧ gp < Y.heap.size) := ⟨by
    have hb : Below w3.heap.size w3 Y := by rw [hY]; exact below_alloc _ _
    exact ⟨HB3.out.trans (hb.mono HB3.out.size), (hb.block _ (by omega)).trans hres, (hb.block _ (by omega)).trans hpo, cell_below' hb c0, cell_below' hb c1, by rw [hY, hgp]; exact heap_alloc_new _ _, by rw [hY, hgp]; simp⟩⟩
  have hrow0 := heap_alloc_new w3 (.cells (List.toArray (.int .i64 0 :: .int .u8 0 :: .int .u8 0 :: .int .u8 0 :: .int .u8 0 :: .int .u8 0 :: .int .u8 0 :: .int .u8 0 :: .int .u8 0 :: .int .u8 0 :: .int .u8 0 :: .int .u8 0 :: .int .u8 0 :: .int .u8 0 :: .int .u8 0 :: .int .u8 0 :: .int .u8 0 :: .int .u8 0 :: .int .u8 0 :: .int .u8 0 :: .int .u8 0 :: .int .u8 0 :: .int .u8 0 :: .int .u8 0 :: .int .u8 0 :: .int .u8 0 :: .int .u8 0 :: .int .u8 0 :: .int .u8 0 :: .int .u8 0 :: .int .u8 0 :: .int .u8 0 :: .int .u8 0 :: [] : List Value) : Array Value) 31)
  have HK : Seal ((.int .i64 o :: (serB s o).map B : List Value) = CP) := ⟨by rw [hCP]; rfl⟩
  have hk := HK.out
  rw [← hgp] at hYz hrow0
  clear HB3 c0 c1 hres hpo hgs hCP hY
  go_wp2_with (first
    | (refine wpList_build_pos rfl (.tmp 39) (.tmp 42) rfl o ((serB s o).map B) (by simp [lS]) rfl rfl ?_; (try simp only [Act.put, List.setIfInBounds_toArray, List.set_cons_zero, List.set_cons_succ]); rw [hk])
    | (rw [← hgp]; refine wpList_store_row rfl 31 (.tmp 10) (.tmp 43) rfl gp CP.toArray rfl rfl 31 _ hrow0 (by simpa using iP) HP2.out HP1.out ?_; rw [hYz]; clear hYz hrow0 hgp; (try simp only [Act.put])))
  refine wp_region_held_drew (S := fun w' => w'.cell? ⟨gx, 0, none⟩ = some (.slice pa pn pc) ∧ w'.cell? ⟨gx, 1, none⟩ = some (.slice ga gn gc) ∧ w'.rangeAt gp 0 CP) (by kernel_rfl) ⟨HY.out.2.2.2.1, HY.out.2.2.2.2.1, rangeAt_row HY.out.2.2.2.2.2.1⟩ (fun hHeld => ?_)
  obtain ⟨V, hV⟩ : ∃ V, V = Y.drew := ⟨_, rfl⟩
  have HV : Seal (Below w.heap.size w V ∧ V.heap[gx + 1]? = some (.cells #[.slice none 0 0, .slice none 0 0] 25 (0, 0)) ∧ V.heap[gx + 1 + 1]? = some (.cells (List.toArray (.int .i64 0 :: .int .u8 0 :: .int .u8 0 :: .int .u8 0 :: .int .u8 0 :: .int .u8 0 :: .int .u8 0 :: .int .u8 0 :: .int .u8 0 :: .int .u8 0 :: .int .u8 0 :: .int .u8 0 :: .int .u8 0 :: .int .u8 0 :: .int .u8 0 :: .int .u8 0 :: .int .u8 0 :: .int .u8 0 :: .int .u8 0 :: .int .u8 0 :: .int .u8 0 :: .int .u8 0 :: .int .u8 0 :: .int .u8 0 :: .int .u8 0 :: .int .u8 0 :: .int .u8 0 :: .int .u8 0 :: .int .u8 0 :: .int .u8 0 :: .int .u8 0 :: .int .u8 0 :: .int .u8 0 :: [] : List Value) : Array Value) 31 (0, 0)) ∧ gp < V.heap.size) := ⟨by rw [hV]; exact ⟨HY.out.1.trans ((bel_drew _).mono HY.out.1.size), HY.out.2.1, HY.out.2.2.1, HY.out.2.2.2.2.2.2⟩⟩
  have HIs : Seal (Calls Tryd.prog 36 #[.slice pa pn pc, .agg CP.toArray] V (RowPost Po.C 33 (fun _ => False) (insK Po.o D.P ⟨o, serB s o⟩) V)) := ⟨by rw [HCP.out]; exact rinsert_any pa pn pc D.P ⟨o, serB s o⟩ V (HP.out V HV.out.1).1 HGl.out.2.2 lS (by omega)⟩
  rw [← hV] at hHeld ⊢
  clear hV HY hk
  refine take_h 0 ?_ rfl (by kernel_rfl) (by kernel_rfl) (by kernel_rfl) (fun _ _ _ h => h) (Or.inl ⟨by kernel_rfl, ?_⟩) (by assumption) ?_
  rotate_left
  · (intro w hSw; (try dsimp only at hSw); go_simp; try (with_reducible rfl))
  try simp only [Act.put, List.setIfInBounds_toArray, List.set_cons_zero, List.set_cons_succ]
  refine take_h 1 ?_ rfl (by kernel_rfl) (by kernel_rfl) (by kernel_rfl) (fun _ _ _ h => h) (Or.inl ⟨by kernel_rfl, ?_⟩) (by assumption) ?_
  rotate_left
  · (intro w hSw; (try dsimp only at hSw); go_simp; try (with_reducible rfl))
  try simp only [Act.put, List.setIfInBounds_toArray, List.set_cons_zero, List.set_cons_succ]
  refine take_h 2 _ rfl (by kernel_rfl) (by kernel_rfl) (by kernel_rfl) (fun _ _ _ h => h) (yieldsIf_load_mid (by kernel_rfl) 31 (.tmp 10) rfl gp 0 rfl CP _ (fun w hSw => hSw.2.2) ut rfl iP) (by assumption) ?_
  try simp only [Act.put, List.setIfInBounds_toArray, List.set_cons_zero, List.set_cons_succ]
  refine take_h 4 ?_ rfl (by kernel_rfl) (by kernel_rfl) (by kernel_rfl) (fun _ _ _ h => h) (Or.inl ⟨by kernel_rfl, ?_⟩) (by assumption) ?_
  rotate_left
  · (intro w hSw; (try dsimp only at hSw); go_simp; try (with_reducible rfl))
  try simp only [Act.put, List.setIfInBounds_toArray, List.set_cons_zero, List.set_cons_succ]
  refine take_h 5 ?_ rfl (by kernel_rfl) (by kernel_rfl) (by kernel_rfl) (fun _ _ _ h => h) (Or.inl ⟨by kernel_rfl, ?_⟩) (by assumption) ?_
  rotate_left
  · (intro w hSw; (try dsimp only at hSw); go_simp; try (with_reducible rfl))
  try simp only [Act.put, List.setIfInBounds_toArray, List.set_cons_zero, List.set_cons_succ]
  refine take_h 7 _ rfl (by kernel_rfl) (by kernel_rfl) (by kernel_rfl) (fun _ _ _ h => h) (yieldsIf_load_mid (by kernel_rfl) 31 (.tmp 10) rfl gp 0 rfl CP _ (fun w hSw => hSw.2.2) ut rfl iP) (by assumption) ?_
  try simp only [Act.put, List.setIfInBounds_toArray, List.set_cons_zero, List.set_cons_succ]
  refine call_h 3 rfl (by kernel_rfl) 36 #[.slice pa pn pc, .agg CP.toArray] (by kernel_rfl) (by go_simp) ?_
  refine HIs.out.mono ?_
  rintro e w5 ⟨ia, im, ic, rfl, hI, hb5⟩
  have HB5 : Seal (Below w.heap.size w w5 ∧ IsPs w5 ia im ic (insK Po.o D.P ⟨o, serB s o⟩)) := ⟨HV.out.1.trans (hb5.mono HV.out.1.size), hI.out.1⟩
  have hz9 := HV.out.2.2.2
  have hz8 := HGP.out
  have H5 : Seal (w5.heap[gx + 1]? = some (.cells #[.slice none 0 0, .slice none 0 0] 25 (0, 0)) ∧ w5.heap[gx + 1 + 1]? = some (.cells (List.toArray (.int .i64 0 :: .int .u8 0 :: .int .u8 0 :: .int .u8 0 :: .int .u8 0 :: .int .u8 0 :: .int .u8 0 :: .int .u8 0 :: .int .u8 0 :: .int .u8 0 :: .int .u8 0 :: .int .u8 0 :: .int .u8 0 :: .int .u8 0 :: .int .u8 0 :: .int .u8 0 :: .int .u8 0 :: .int .u8 0 :: .int .u8 0 :: .int .u8 0 :: .int .u8 0 :: .int .u8 0 :: .int .u8 0 :: .int .u8 0 :: .int .u8 0 :: .int .u8 0 :: .int .u8 0 :: .int .u8 0 :: .int .u8 0 :: .int .u8 0 :: .int .u8 0 :: .int .u8 0 :: .int .u8 0 :: [] : List Value) : Array Value) 31 (0, 0))) := ⟨(hb5.block _ (by omega)).trans HV.out.2.1, (hb5.block _ (by omega)).trans HV.out.2.2.1⟩
  refine ⟨_, rfl, ⟨cell_below' hb5 hHeld.1, cell_below' hb5 hHeld.2.1, rangeAt_below hHeld.2.2 hb5 hz9⟩, fun hHeld2 => ?_⟩
  have hIn : Seal (∀ g o, ia = some ⟨g, o, none⟩ → 0 < im → V.heap.size ≤ g) := ⟨fun g o e h0 => by
    rcases hI.out.2.2 g o e h0 with h | h
    · exact h.elim
    · exact h⟩
  clear hHeld hb5 HIs
  try simp only [Act.put, List.setIfInBounds_toArray, List.set_cons_zero, List.set_cons_succ]
  refine take_h 6 ?_ rfl (by kernel_rfl) (by kernel_rfl) (by kernel_rfl) (fun _ _ _ h => h) (Or.inl ⟨by kernel_rfl, ?_⟩) (by assumption) ?_
  rotate_left
  · (intro w hSw; (try dsimp only at hSw); go_simp; try (with_reducible rfl))
  try simp only [Act.put, List.setIfInBounds_toArray, List.set_cons_zero, List.set_cons_succ]
  refine skip_h 8 (w5.setRow (gx + 1) #[.slice ia im ic, .slice ga gn gc]) rfl (by kernel_rfl) (by kernel_rfl) (exec_store_row 25 (.tmp 6) (.tmp 50) rfl (gx + 1) #[.slice ia im ic, .slice ga gn gc] rfl rfl 25 #[.slice none 0 0, .slice none 0 0] H5.out.1 dev_info rfl (by simp [Value.oneCell'])) ⟨(cell_setRow_other _ _ _ ⟨gx, 0, none⟩ (by show gx ≠ gx + 1; omega)).trans hHeld2.1, (cell_setRow_other _ _ _ ⟨gx, 1, none⟩ (by show gx ≠ gx + 1; omega)).trans hHeld2.2.1, rangeAt_setRow hHeld2.2.2 (by omega)⟩ (fun hHeld3 => ?_)
  try simp only [Act.put]
  refine skip_h 9 ((w5.setRow (gx + 1) #[.slice ia im ic, .slice ga gn gc]).setRow (gx + 1 + 1) CP.toArray) rfl (by kernel_rfl) (by kernel_rfl) (exec_store_row 31 (.tmp 7) (.tmp 51) rfl (gx + 1 + 1) CP.toArray rfl rfl 31 (List.toArray (.int .i64 0 :: .int .u8 0 :: .int .u8 0 :: .int .u8 0 :: .int .u8 0 :: .int .u8 0 :: .int .u8 0 :: .int .u8 0 :: .int .u8 0 :: .int .u8 0 :: .int .u8 0 :: .int .u8 0 :: .int .u8 0 :: .int .u8 0 :: .int .u8 0 :: .int .u8 0 :: .int .u8 0 :: .int .u8 0 :: .int .u8 0 :: .int .u8 0 :: .int .u8 0 :: .int .u8 0 :: .int .u8 0 :: .int .u8 0 :: .int .u8 0 :: .int .u8 0 :: .int .u8 0 :: .int .u8 0 :: .int .u8 0 :: .int .u8 0 :: .int .u8 0 :: .int .u8 0 :: .int .u8 0 :: [] : List Value) : Array Value) ((heap_setRow_ne (by omega)).trans H5.out.2) (by simpa using iP) HP2.out HP1.out) ⟨(cell_setRow_other _ _ _ ⟨gx, 0, none⟩ (by show gx ≠ gx + 1 + 1; omega)).trans hHeld3.1, (cell_setRow_other _ _ _ ⟨gx, 1, none⟩ (by show gx ≠ gx + 1 + 1; omega)).trans hHeld3.2.1, rangeAt_setRow hHeld3.2.2 (by omega)⟩ (fun hHeld4 => ?_)
  try simp only [Act.put]
  have hr1 : ((w5.setRow (gx + 1) #[.slice ia im ic, .slice ga gn gc]).setRow (gx + 1 + 1) CP.toArray).heap[gx + 1]? = some (.cells #[.slice ia im ic, .slice ga gn gc] 25 (0, 0)) := (heap_setRow_ne (by omega)).trans (setRow_heap _ _ _ _ _ _ H5.out.1)
  have hr2 : ((w5.setRow (gx + 1) #[.slice ia im ic, .slice ga gn gc]).setRow (gx + 1 + 1) CP.toArray).heap[gx + 1 + 1]? = some (.cells CP.toArray 31 (0, 0)) := setRow_heap _ _ _ _ _ _ ((heap_setRow_ne (by omega)).trans H5.out.2)
  have hbF : Below w.heap.size w ((w5.setRow (gx + 1) #[.slice ia im ic, .slice ga gn gc]).setRow (gx + 1 + 1) CP.toArray) := below_row (below_row HB5.out.1 (by have := HGX.out; omega) _) (by have := HGX.out; omega) _
  have hI2 : IsPs ((w5.setRow (gx + 1) #[.slice ia im ic, .slice ga gn gc]).setRow (gx + 1 + 1) CP.toArray) ia im ic (insK Po.o D.P ⟨o, serB s o⟩) := (hI.out.1.setRow _ _ (fun g o e h0 => by have := hIn.out g o e h0; omega)).setRow _ _ (fun g o e h0 => by have := hIn.out g o e h0; omega)
  have HF := Seal.mk (And.intro hr1 (And.intro hr2 (And.intro hbF hI2)))
  clear hr1 hr2 hbF hI2 H5 hI
  refine take_h 10 ?_ rfl (by kernel_rfl) (by kernel_rfl) (by kernel_rfl) (fun _ _ _ h => h) (Or.inl ⟨by kernel_rfl, ?_⟩) (by assumption) ?_
  rotate_left
  · (intro w hSw; (try dsimp only at hSw); go_simp; try (with_reducible rfl))
  try simp only [Act.put, List.setIfInBounds_toArray, List.set_cons_zero, List.set_cons_succ]
  refine wpAnyH_done (by kernel_rfl) ?_ _
  clear hHeld4 hHeld3 hHeld2
  go_wp2
  refine bodyPost_ret (results_two_tmp (fn := Tryd.f12) rfl _ _ (gx + 1) (gx + 1 + 1) 25 31 #[.slice ia im ic, .slice ga gn gc] CP.toArray _ rfl rfl rfl HF.out.1 HF.out.2.1 ud rfl dev_info ut rfl (by simpa using iP)) rfl ?_
  rw [HE.out.1, HE.out.2.1, HE.out.2.2]
  exact ⟨.slice ia im ic, .slice ga gn gc, by rw [← HCP.out]; rfl, ⟨⟨_, _, _, _, _, _, rfl, rfl, HF.out.2.2.2, HIN3.out, (HP.out _ HF.out.2.2.1).2⟩⟩, HF.out.2.2.1⟩
end Frk
