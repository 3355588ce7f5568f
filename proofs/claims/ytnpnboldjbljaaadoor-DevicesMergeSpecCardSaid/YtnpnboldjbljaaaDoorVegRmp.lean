/- Parts of the proof, joined. -/
import Derived.Test.YtnpnboldjbljaaaDoorVeRpi
import Derived.Test.YtnpnboldjbljaaaDoorVeRri
import Derived.Test.YtnpnboldjbljaaaDoorVeDpo
import Derived.Test.YtnpnboldjbljaaaDoorVegKit
/- Law 44's reference: Got. -/
namespace Frk
open Go Go.RowKit Go.Proofs
set_option maxRecDepth 100000

set_option maxHeartbeats 4000000 in
theorem rgot44_any (pa ga : Option Addr) (pn pc gn gc : Nat) (D : Dv) (o : Int) (w : World) (hP : IsPs w pa pn pc D.P) (h32 : ∀ x ∈ D.P, x.S.length = 32) (hG : IsIs w ga gn gc D.G) (hga : PlainA ga gc) (hlt : gn < 5000) :
    Calls Tryd.prog 21 #[.agg #[.slice pa pn pc, .slice ga gn gc], .int .i64 o] w (DevPost (gotD D o) (gotE D o) w) := by
  obtain ⟨X, hX⟩ : ∃ X : World, X = (w.alloc (.cells #[.slice pa pn pc, .slice ga gn gc] 25)).alloc (.cells #[.slice none 0 0, .slice none 0 0] 25) := ⟨_, rfl⟩
  have HB : Seal (Below w.heap.size w X) := ⟨by rw [hX]; exact ((Below.refl _ w).alloc (Nat.le_refl _) _).alloc (by simp) _⟩
  have hrow : X.heap[w.heap.size]? = some (.cells #[.slice pa pn pc, .slice ga gn gc] 25 (0, 0)) := by rw [hX]; exact heap_alloc2_old w _ _
  have hres : X.heap[w.heap.size + 1]? = some (.cells #[.slice none 0 0, .slice none 0 0] 25 (0, 0)) := by rw [hX]; exact heap_alloc2_new w _ _
  have c0 : X.cell? ⟨w.heap.size, 0, none⟩ = some (.slice pa pn pc) := by rw [cell_of_row _ _ _ _ _ _ hrow]; rfl
  have c1 : X.cell? ⟨w.heap.size, 1, none⟩ = some (.slice ga gn gc) := by rw [cell_of_row _ _ _ _ _ _ hrow]; rfl
  have HP : Seal (∀ W, Below w.heap.size w W → IsPs W pa pn pc D.P ∧ IsIs W ga gn gc D.G) := ⟨fun W h => ⟨hP.below h, hG.below h⟩⟩
  have H32 := Seal.mk h32
  have HGA : Seal (PlainA ga gc ∧ gn < 5000 ∧ (∀ g o, ga = some ⟨g, o, none⟩ → 0 < gn → g < w.heap.size)) := ⟨hga, hlt, fun g o e h => by
    rcases hG.at_ with h0 | ⟨g', o', e', _, hg⟩
    · omega
    · rw [e] at e'; cases e'; exact hg⟩
  have HCk : Seal (∀ W, Below w.heap.size w W → Calls Tryd.prog 14 #[.agg #[.slice pa pn pc, .slice ga gn gc]] W fun e w' => e = .returned (.int .i64 (chkD D)) ∧ Below W.heap.size W w') := ⟨fun W h => rcheck44_any pa ga pn pc gn gc D W (hP.below h) (hG.below h)⟩
  obtain ⟨er, her⟩ : ∃ e, e = chkD D := ⟨_, rfl⟩
  rw [← her] at HCk
  have HER := Seal.mk her
  have hgs : w.heap.size + 1 < X.heap.size := (Array.getElem?_eq_some_iff.1 hres).1
  obtain ⟨gx, hgx⟩ : ∃ g, g = w.heap.size := ⟨_, rfl⟩
  have HGX := Seal.mk hgx
  have ud := Tryd.underlying25
  rw [← hgx] at c0 c1 hres hgs
  clear hP h32 hG hrow her hga hlt
  go_enter Tryd.func21, Tryd.ntmps21
  go_upto_region 1 with (fail)
  rw [← hX]
  rw [← hgx]
  clear hX hgx
  go_wp2_with fail
  refine (HCk.out X HB.out).mono ?_
  rintro e w1 ⟨rfl, hb⟩
  have HB1 := Seal.mk (HB.out.trans (hb.mono HB.out.size))
  have c0 := cell_below' hb c0
  have c1 := cell_below' hb c1
  have hres := (hb.block _ hgs).trans hres
  have hgs := Nat.lt_of_lt_of_le hgs hb.size
  clear hb HB HCk
  by_cases h0 : er = 0
  rotate_left
  · have HE : Seal (gotE D o = er ∧ gotD D o = Dv.z) := ⟨by
      have e : gotE D o = er := by unfold gotE; rw [← HER.out, if_pos h0]
      exact ⟨e, by unfold gotD; rw [e, if_neg h0]⟩⟩
    have q0 : ¬ er = 0 := h0
    clear HER h0
    go_wp2_with (first
      | (refine wpList_store_row rfl 25 (.tmp 4) (.tmp 11) rfl (gx + 1) #[.slice none 0 0, .slice none 0 0] rfl rfl 25 _ hres dev_info rfl (by simp [Value.oneCell']) ?_))
    refine bodyPost_ret (results_row_tmp (fn := Tryd.f21) rfl _ _ (gx + 1) 25 #[.slice none 0 0, .slice none 0 0] (0, 0) _ _ rfl rfl (setRow_heap _ _ _ _ _ _ hres) ud rfl dev_info) rfl ?_
    rw [HE.out.1, HE.out.2]
    exact ⟨_, _, rfl, ⟨devAt_z _⟩, below_row HB1.out (by have := HGX.out; omega) _⟩
  subst h0
  have HCz : Seal (chkD D = 0) := ⟨HER.out.symm⟩
  clear HER
  go_wp2_with fail
  refine (rfind44_any pa pn pc D.P o w1 (HP.out w1 HB1.out).1).mono ?_
  rintro e w2 ⟨i, rfl, hi, rfl⟩
  by_cases hneg : i < 0
  · have HE : Seal (gotE D o = 1 ∧ gotD D o = Dv.z) := ⟨by
      have e : gotE D o = 1 := by unfold gotE; rw [if_neg (by simp [HCz.out]), hi.out.has.1 hneg, if_neg (by simp)]
      exact ⟨e, by unfold gotD; rw [e]; rfl⟩⟩
    clear hi
    go_wp2_with (first
      | (refine wpList_store_row rfl 25 (.tmp 4) (.tmp 18) rfl (gx + 1) #[.slice none 0 0, .slice none 0 0] rfl rfl 25 _ hres dev_info rfl (by simp [Value.oneCell']) ?_))
    refine bodyPost_ret (results_row_tmp (fn := Tryd.f21) rfl _ _ (gx + 1) 25 #[.slice none 0 0, .slice none 0 0] (0, 0) _ _ rfl rfl (setRow_heap _ _ _ _ _ _ hres) ud rfl dev_info) rfl ?_
    rw [HE.out.1, HE.out.2]
    exact ⟨_, _, rfl, ⟨devAt_z _⟩, below_row HB1.out (by have := HGX.out; omega) _⟩
  have HE : Seal (gotE D o = 0 ∧ gotD D o = ⟨D.P, putI D.G o⟩) := ⟨by
    have hh : hasK Po.o D.P o = true := by
      cases e : hasK Po.o D.P o with
      | true => rfl
      | false => exact absurd (hi.out.has.2 e) hneg
    have e : gotE D o = 0 := by unfold gotE; rw [if_neg (by simp [HCz.out]), if_pos hh]
    exact ⟨e, by unfold gotD; rw [if_pos e]⟩⟩
  clear hi
  go_wp2_with fail
  refine wp_region_held_drew (S := fun w' => w'.cell? ⟨gx, 0, none⟩ = some (.slice pa pn pc) ∧ w'.cell? ⟨gx, 1, none⟩ = some (.slice ga gn gc)) (by kernel_rfl) ⟨c0, c1⟩ (fun hHeld => ?_)
  obtain ⟨V, hV⟩ : ∃ V, V = w1.drew := ⟨_, rfl⟩
  have HV : Seal (Below w.heap.size w V ∧ V.heap[gx + 1]? = some (.cells #[.slice none 0 0, .slice none 0 0] 25 (0, 0)) ∧ gx + 1 < V.heap.size) := ⟨by rw [hV]; exact ⟨HB1.out.trans ((bel_drew _).mono HB1.out.size), hres, hgs⟩⟩
  have HIs : Seal (Calls Tryd.prog 54 #[.slice ga gn gc, .int .i64 o] V (RowPost intC 1 (OldOf ga gn) (putI D.G o) V)) := ⟨rputI_any ga gn gc D.G o V (HP.out V HV.out.1).2 HGA.out.1 (rightD_iff.1 (chkD_zero.1 HCz.out).2).2.2.1 HGA.out.2.1⟩
  rw [← hV] at hHeld ⊢
  clear hV hres hgs
  refine take_h 0 ?_ rfl (by kernel_rfl) (by kernel_rfl) (by kernel_rfl) (fun _ _ _ h => h) (Or.inl ⟨by kernel_rfl, ?_⟩) (by assumption) ?_
  rotate_left
  · (intro w hSw; (try dsimp only at hSw); go_simp; try (with_reducible rfl))
  try simp only [Act.put, List.setIfInBounds_toArray, List.set_cons_zero, List.set_cons_succ]
  refine take_h 1 ?_ rfl (by kernel_rfl) (by kernel_rfl) (by kernel_rfl) (fun _ _ _ h => h) (Or.inl ⟨by kernel_rfl, ?_⟩) (by assumption) ?_
  rotate_left
  · (intro w hSw; (try dsimp only at hSw); go_simp; try (with_reducible rfl))
  try simp only [Act.put, List.setIfInBounds_toArray, List.set_cons_zero, List.set_cons_succ]
  refine take_h 2 ?_ rfl (by kernel_rfl) (by kernel_rfl) (by kernel_rfl) (fun _ _ _ h => h) (Or.inl ⟨by kernel_rfl, ?_⟩) (by assumption) ?_
  rotate_left
  · (intro w hSw; (try dsimp only at hSw); go_simp; try (with_reducible rfl))
  try simp only [Act.put, List.setIfInBounds_toArray, List.set_cons_zero, List.set_cons_succ]
  refine take_h 3 ?_ rfl (by kernel_rfl) (by kernel_rfl) (by kernel_rfl) (fun _ _ _ h => h) (Or.inl ⟨by kernel_rfl, ?_⟩) (by assumption) ?_
  rotate_left
  · (intro w hSw; (try dsimp only at hSw); go_simp; try (with_reducible rfl))
  try simp only [Act.put, List.setIfInBounds_toArray, List.set_cons_zero, List.set_cons_succ]
  refine take_h 4 ?_ rfl (by kernel_rfl) (by kernel_rfl) (by kernel_rfl) (fun _ _ _ h => h) (Or.inl ⟨by kernel_rfl, ?_⟩) (by assumption) ?_
  rotate_left
  · (intro w hSw; (try dsimp only at hSw); go_simp; try (with_reducible rfl))
  try simp only [Act.put, List.setIfInBounds_toArray, List.set_cons_zero, List.set_cons_succ]
  refine call_h 5 rfl (by kernel_rfl) 54 #[.slice ga gn gc, .int .i64 o] (by kernel_rfl) (by go_simp) ?_
  refine HIs.out.mono ?_
  rintro e w5 ⟨ia, im, ic, rfl, hI, hb5⟩
  have HB5 : Seal (Below w.heap.size w w5 ∧ IsIs w5 ia im ic (putI D.G o)) := ⟨HV.out.1.trans (hb5.mono HV.out.1.size), hI.out.1⟩
  have hz9 := HV.out.2.2
  have H5 : Seal (w5.heap[gx + 1]? = some (.cells #[.slice none 0 0, .slice none 0 0] 25 (0, 0))) := ⟨(hb5.block _ hz9).trans HV.out.2.1⟩
  refine ⟨_, rfl, ⟨cell_below' hb5 hHeld.1, cell_below' hb5 hHeld.2⟩, fun hHeld2 => ?_⟩
  have hI2 : IsIs (w5.setRow (gx + 1) #[.slice pa pn pc, .slice ia im ic]) ia im ic (putI D.G o) := by
    refine hI.out.1.setRow _ _ (fun g o e h0 => ?_)
    rcases hI.out.2.2 g o e h0 with ⟨⟨o', e'⟩, h⟩ | h
    · have := HGA.out.2.2 g o' e' h
      have := HGX.out
      omega
    · omega
  clear hHeld hb5 HIs
  try simp only [Act.put, List.setIfInBounds_toArray, List.set_cons_zero, List.set_cons_succ]
  refine take_h 6 ?_ rfl (by kernel_rfl) (by kernel_rfl) (by kernel_rfl) (fun _ _ _ h => h) (Or.inl ⟨by kernel_rfl, ?_⟩) (by assumption) ?_
  rotate_left
  · (intro w hSw; (try dsimp only at hSw); go_simp; try (with_reducible rfl))
  try simp only [Act.put, List.setIfInBounds_toArray, List.set_cons_zero, List.set_cons_succ]
  refine skip_h 7 (w5.setRow (gx + 1) #[.slice pa pn pc, .slice ia im ic]) rfl (by kernel_rfl) (by kernel_rfl) (exec_store_row 25 (.tmp 4) (.tmp 25) rfl (gx + 1) #[.slice pa pn pc, .slice ia im ic] rfl rfl 25 #[.slice none 0 0, .slice none 0 0] H5.out dev_info rfl (by simp [Value.oneCell'])) ⟨(cell_setRow_other _ _ _ ⟨gx, 0, none⟩ (by show gx ≠ gx + 1; omega)).trans hHeld2.1, (cell_setRow_other _ _ _ ⟨gx, 1, none⟩ (by show gx ≠ gx + 1; omega)).trans hHeld2.2⟩ (fun hHeld3 => ?_)
  try simp only [Act.put]
  have hr1 : (w5.setRow (gx + 1) #[.slice pa pn pc, .slice ia im ic]).heap[gx + 1]? = some (.cells #[.slice pa pn pc, .slice ia im ic] 25 (0, 0)) := setRow_heap _ _ _ _ _ _ H5.out
  have hbF : Below w.heap.size w (w5.setRow (gx + 1) #[.slice pa pn pc, .slice ia im ic]) := below_row HB5.out.1 (by have := HGX.out; omega) _
  have HF := Seal.mk (And.intro hr1 (And.intro hbF hI2))
  clear hr1 hbF hI2 H5 hI
  refine take_h 8 ?_ rfl (by kernel_rfl) (by kernel_rfl) (by kernel_rfl) (fun _ _ _ h => h) (Or.inl ⟨by kernel_rfl, ?_⟩) (by assumption) ?_
  rotate_left
  · (intro w hSw; (try dsimp only at hSw); go_simp; try (with_reducible rfl))
  try simp only [Act.put, List.setIfInBounds_toArray, List.set_cons_zero, List.set_cons_succ]
  refine wpAnyH_done (by kernel_rfl) ?_ _
  clear hHeld3 hHeld2
  go_wp2
  refine bodyPost_ret (results_row_tmp (fn := Tryd.f21) rfl _ _ (gx + 1) 25 #[.slice pa pn pc, .slice ia im ic] (0, 0) _ _ rfl rfl HF.out.1 ud rfl dev_info) rfl ?_
  rw [HE.out.1, HE.out.2]
  exact ⟨.slice pa pn pc, .slice ia im ic, rfl, ⟨⟨_, _, _, _, _, _, rfl, rfl, (HP.out _ HF.out.2.1).1, H32.out, HF.out.2.2⟩⟩, HF.out.2.1⟩
end Frk

/- Law 44, plain: the reference's merge, step by step. -/
namespace Frk
set_option maxRecDepth 100000

def fK (D E : List Po) (k : Nat) : List Po := (E.take k).foldl (fun x p => if hasK Po.o D p.o then x else insK Po.o x p) D
def gK (G H : List Int) (k : Nat) : List Int := (H.take k).foldl putI G
theorem fK_zero (D E : List Po) : fK D E 0 = D := rfl
theorem gK_zero (G H : List Int) : gK G H 0 = G := rfl
theorem take_snoc {α : Type} {l : List α} {k : Nat} {x : α} (h : l[k]? = some x) : l.take (k + 1) = l.take k ++ [x] := by
  rw [List.take_add_one, h]; rfl
theorem fK_succ {D E : List Po} {k : Nat} {y : Po} (h : E[k]? = some y) : fK D E (k + 1) = if hasK Po.o D y.o then fK D E k else insK Po.o (fK D E k) y := by
  unfold fK
  rw [take_snoc h, List.foldl_append]
  rfl
theorem gK_succ {G H : List Int} {k : Nat} {y : Int} (h : H[k]? = some y) : gK G H (k + 1) = putI (gK G H k) y := by
  unfold gK
  rw [take_snoc h, List.foldl_append]
  rfl
theorem fK_len (D E : List Po) : ∀ k, k ≤ E.length → (fK D E k).length ≤ D.length + k
  | 0, _ => Nat.le_refl _
  | k + 1, h => by
    have ih := fK_len D E k (by omega)
    rw [fK_succ (List.getElem?_eq_getElem (show k < E.length by omega))]
    split
    · omega
    · rw [insK_len]; omega
theorem putI_len (l : List Int) (n : Int) : (putI l n).length ≤ l.length + 1 := by
  unfold putI
  split
  · omega
  · rw [insK_len]; omega
theorem gK_len (G H : List Int) : ∀ k, k ≤ H.length → (gK G H k).length ≤ G.length + k
  | 0, _ => Nat.le_refl _
  | k + 1, h => by
    have ih := gK_len G H k (by omega)
    rw [gK_succ (List.getElem?_eq_getElem (show k < H.length by omega))]
    have := putI_len (gK G H k) (H[k]'(by omega))
    omega
theorem gK_ris {G H : List Int} (hG : RisK idI G) : ∀ k, k ≤ H.length → RisK idI (gK G H k)
  | 0, _ => hG
  | k + 1, h => by
    rw [gK_succ (List.getElem?_eq_getElem (show k < H.length by omega))]
    exact putI_ris (gK_ris hG k (by omega)) _
theorem fK_32 {D E : List Po} (hD : ∀ x ∈ D, x.S.length = 32) (hE : ∀ x ∈ E, x.S.length = 32) : ∀ k, k ≤ E.length → ∀ x ∈ fK D E k, x.S.length = 32
  | 0, _ => hD
  | k + 1, h => by
    have h0 := List.getElem?_eq_getElem (show k < E.length by omega)
    rw [fK_succ h0]
    split
    · exact fK_32 hD hE k (by omega)
    · intro x hx
      rcases mem_insK.1 hx with e | e
      · rw [e]; exact hE _ (List.mem_of_getElem? h0)
      · exact fK_32 hD hE k (by omega) x e
theorem fK_all {D E : List Po} (hD : RisK Po.o D) (hE : RisK Po.o E) (hg : AgrK Po.o D E) : fK D E E.length = mrgK Po.o D E := by
  unfold fK
  rw [List.take_length]
  exact foldP_eq hD hE hg
theorem gK_all {G H : List Int} (hG : RisK idI G) (hH : RisK idI H) : gK G H H.length = mrgK idI G H := by
  unfold gK
  rw [List.take_length]
  exact foldG_eq hG hH
/-- the first k of E agree with D -/
def AgK (D E : List Po) (k : Nat) : Prop := ∀ (j : Nat) (y x : Po), j < k → E[j]? = some y → x ∈ D → x.o = y.o → x = y
theorem AgK.zero (D E : List Po) : AgK D E 0 := fun j y x h => by omega
theorem AgK.no {D E : List Po} {k : Nat} {y : Po} (h : AgK D E k) (hy : E[k]? = some y) (hn : hasK Po.o D y.o = false) : AgK D E (k + 1) := fun j z x hj hz hx e => by
  by_cases hjk : j < k
  · exact h j z x hjk hz hx e
  · obtain rfl : j = k := by omega
    rw [hy] at hz; cases hz
    exact absurd e (hasK_not.1 hn x hx)
theorem AgK.yes {D E : List Po} {k : Nat} {y z : Po} (h : AgK D E k) (hy : E[k]? = some y) (hD : RisK Po.o D) (hz : z ∈ D) (ez : z.o = y.o) (e : z = y) : AgK D E (k + 1) := fun j u x hj hu hx eu => by
  by_cases hjk : j < k
  · exact h j u x hjk hu hx eu
  · obtain rfl : j = k := by omega
    rw [hy] at hu; cases hu
    rw [← e]
    exact hD.inj hx hz (by rw [eu, ez])
theorem AgK.all {D E : List Po} (h : AgK D E E.length) : AgrK Po.o D E := fun x hx y hy e => by
  obtain ⟨j, hj⟩ := List.mem_iff_getElem?.1 hy
  exact h j y x (List.getElem?_eq_some_iff.1 hj).1 hj hx e
theorem conf_of {D E : List Po} {x y : Po} (hx : x ∈ D) (hy : y ∈ E) (e : x.o = y.o) (hne : x ≠ y) : confD D E = true := by
  cases h : confD D E with
  | true => rfl
  | false => exact absurd (confD_iff.1 h x hx y hy e) hne
end Frk

