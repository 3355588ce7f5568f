/- The law HandoverSigned, walked. -/
import Derived.Test.YtkkkfkefbjpmaaaDoorHac
import Derived.Test.YtkkkfkefbjpmaaaDoorGrd
import Derived.Test.YtkkkfkefbjpmaaaDoorPub
namespace Frk
open Go Go.RowKit Go.Proofs
set_option maxRecDepth 100000

set_option maxHeartbeats 8000000 in
theorem signed_no (x e0 : Int) (h m : Hd) (fm : Bool) (CH CM CG : List Value) (w : World) (hG : Glob w) (HC : Seal (CH = h.C ∧ CM = m.C)) (HK : Seal (h.T.length = 32 ∧ m.T.length = 32))
    (HS : Seal (∀ W, Glob W → Calls Tryd.prog 12 #[] W fun e w' => e = .returned (.bool true) ∧ Below W.heap.size W w'))
    (MK : Seal (∀ W, Glob W → Calls Tryd.prog 13 #[.int .i64 x, .agg CH.toArray] W fun e w' => e = .returned (.tuple #[.agg CM.toArray, .int .i64 e0]) ∧ Below W.heap.size W w'))
    (FM : Seal (∀ W, Calls Tryd.prog 22 #[.agg CH.toArray] W fun e w' => e = .returned (.bool fm) ∧ Below W.heap.size W w'))
    (h0 : ¬ e0 = 0) (heq : ∀ W, (Op.equalIn 10000 29 (.agg CM.toArray) (.agg (List.toArray (.int .i64 0 :: .int .i64 0 :: .int .i64 0 :: .int .i64 0 :: .int .i64 0 :: .int .i64 0 :: .int .i64 0 :: .int .u8 0 :: .int .u8 0 :: .int .u8 0 :: .int .u8 0 :: .int .u8 0 :: .int .u8 0 :: .int .u8 0 :: .int .u8 0 :: .int .u8 0 :: .int .u8 0 :: .int .u8 0 :: .int .u8 0 :: .int .u8 0 :: .int .u8 0 :: .int .u8 0 :: .int .u8 0 :: .int .u8 0 :: .int .u8 0 :: .int .u8 0 :: .int .u8 0 :: .int .u8 0 :: .int .u8 0 :: .int .u8 0 :: .int .u8 0 :: .int .u8 0 :: .int .u8 0 :: .int .u8 0 :: .int .u8 0 :: .int .u8 0 :: .int .u8 0 :: .int .u8 0 :: .int .u8 0 :: .int .i64 0 :: .int .i64 0 :: .int .i64 0 :: [] : List Value) : Array Value))).run Tryd.prog W = .ok true W)
    (hw : fm = false ∨ x < 1 ∨ (¬ x < 1 ∧ 1073741789 ≤ x)) :
    Calls Tryd.prog 6 #[.int .i64 x, .agg CH.toArray, .agg CG.toArray] w fun e w' => e = .returned (.bool true) ∧ Below w.heap.size w w' := by
  have HW := Seal.mk hw
  clear hw
  have IH : Seal ((Tryd.prog.info? 29).map (·.size) = some CH.toArray.size) := ⟨by rw [HC.out.1, List.size_toArray]; exact Hd.C_info HK.out.1⟩
  have IM : Seal ((Tryd.prog.info? 29).map (·.size) = some CM.length) := ⟨by rw [HC.out.2]; exact Hd.C_info HK.out.2⟩
  have IMa : Seal ((Tryd.prog.info? 29).map (·.size) = some CM.toArray.size) := ⟨IM.out⟩
  have LM : Seal (((.int .i64 0 :: .int .i64 0 :: .int .i64 0 :: .int .i64 0 :: .int .i64 0 :: .int .i64 0 :: .int .i64 0 :: .int .u8 0 :: .int .u8 0 :: .int .u8 0 :: .int .u8 0 :: .int .u8 0 :: .int .u8 0 :: .int .u8 0 :: .int .u8 0 :: .int .u8 0 :: .int .u8 0 :: .int .u8 0 :: .int .u8 0 :: .int .u8 0 :: .int .u8 0 :: .int .u8 0 :: .int .u8 0 :: .int .u8 0 :: .int .u8 0 :: .int .u8 0 :: .int .u8 0 :: .int .u8 0 :: .int .u8 0 :: .int .u8 0 :: .int .u8 0 :: .int .u8 0 :: .int .u8 0 :: .int .u8 0 :: .int .u8 0 :: .int .u8 0 :: .int .u8 0 :: .int .u8 0 :: .int .u8 0 :: .int .i64 0 :: .int .i64 0 :: .int .i64 0 :: [] : List Value)).length = CM.length) := ⟨by rw [HC.out.2, Hd.C_len HK.out.2]; rfl⟩
  have OM : Seal (∀ u ∈ CM, u.oneCell' = true) := ⟨by rw [HC.out.2]; exact Hd.C_one _⟩
  have HG := Seal.mk hG
  have HE : Seal (Env ((w.alloc (.cells CH.toArray 29)).alloc (.cells CG.toArray 29)) none 0 0 [] [(w.heap.size + 1, .cells CG.toArray 29), (w.heap.size, .cells CH.toArray 29)]) := ⟨by
    have h := Env.push (Env.push (bs := []) ⟨hG, isB_nil w, by intro p hp; cases hp⟩ (.cells CH.toArray 29)) (.cells CG.toArray 29)
    simp only [size_alloc] at h
    exact h⟩
  have HB : Seal (Below w.heap.size w ((w.alloc (.cells CH.toArray 29)).alloc (.cells CG.toArray 29))) := ⟨((Below.refl _ w).alloc (Nat.le_refl _) _).alloc (by simp) _⟩
  clear hG
  go_enter Tryd.func6, Tryd.ntmps6
  go_wp2_with fail
  refine (HS.out _ HE.out.glob).mono ?_
  rintro e w2 ⟨rfl, hb⟩
  have HB2 := Seal.mk (HB.out.trans (hb.mono HB.out.size))
  have HE2 := Seal.mk (HE.out.below hb)
  clear hb HB HE
  have HB := HB2
  have HE := HE2
  clear HB2 HE2
  have RH := Seal.mk (HE.out.keep (w.heap.size, .cells CH.toArray 29) (by simp))
  go_wp2_with (refine wpList_load_row rfl 29 (.tmp 4) rfl w.heap.size rfl 29 CH.toArray (0, 0) _ RH.out Tryd.underlying29 rfl IH.out ?_)
  refine (MK.out _ HE.out.glob).mono ?_
  rintro e w3 ⟨rfl, hb⟩
  clear RH
  have Z3 : Seal (w.heap.size + 1 < w3.heap.size) := ⟨Nat.lt_of_lt_of_le (HE.out.lt (g := w.heap.size + 1) (o := .cells CG.toArray 29) (by simp)) hb.size⟩
  have HE2 := Seal.mk ((HE.out.below hb).push (.cells CM.toArray 29))
  have HB2 := Seal.mk ((HB.out.trans (hb.mono HB.out.size)).alloc (Nat.le_trans HB.out.size hb.size) (.cells CM.toArray 29))
  clear hb HB HE
  have HB := HB2
  have HE := HE2
  clear HB2 HE2
  have RH := Seal.mk (HE.out.keep (w.heap.size, .cells CH.toArray 29) (by simp))
  have RM := Seal.mk (HE.out.keep (w3.heap.size, .cells CM.toArray 29) (by simp))
  go_wp2_with (first | (refine wpList_store_new rfl 29 (.tmp 7) (.tmp 20) rfl (.int .i64 0 :: .int .i64 0 :: .int .i64 0 :: .int .i64 0 :: .int .i64 0 :: .int .i64 0 :: .int .i64 0 :: .int .u8 0 :: .int .u8 0 :: .int .u8 0 :: .int .u8 0 :: .int .u8 0 :: .int .u8 0 :: .int .u8 0 :: .int .u8 0 :: .int .u8 0 :: .int .u8 0 :: .int .u8 0 :: .int .u8 0 :: .int .u8 0 :: .int .u8 0 :: .int .u8 0 :: .int .u8 0 :: .int .u8 0 :: .int .u8 0 :: .int .u8 0 :: .int .u8 0 :: .int .u8 0 :: .int .u8 0 :: .int .u8 0 :: .int .u8 0 :: .int .u8 0 :: .int .u8 0 :: .int .u8 0 :: .int .u8 0 :: .int .u8 0 :: .int .u8 0 :: .int .u8 0 :: .int .u8 0 :: .int .i64 0 :: .int .i64 0 :: .int .i64 0 :: [] : List Value) CM 29 rfl rfl IM.out LM.out OM.out ?_) | (refine wpList_load_row_g (by kernel_rfl) 29 (.tmp 7) rfl w3.heap.size rfl 29 CM.toArray (0, 0) _ RM.out Tryd.underlying29 rfl IMa.out ?_) | (refine wpList_load_row_g (by kernel_rfl) 29 (.tmp 4) rfl w.heap.size rfl 29 CH.toArray (0, 0) _ RH.out Tryd.underlying29 rfl IH.out ?_))
  cases fm with
  | false =>
    refine (FM.out _).mono ?_
    rintro e w4 ⟨rfl, hb⟩
    have HB4 := Seal.mk (HB.out.trans (hb.mono HB.out.size))
    clear hb
    go_wp2
    go_ret
    exact ⟨rfl, HB4.out⟩
  | true =>
    refine (FM.out _).mono ?_
    rintro e w4 ⟨rfl, hb⟩
    have HB4 := Seal.mk (HB.out.trans (hb.mono HB.out.size))
    clear hb
    rcases HW.out with hw | hx | ⟨hx, hy⟩
    · cases hw
    · go_wp2
      go_ret
      exact ⟨rfl, HB4.out⟩
    · go_wp2
      go_ret
      exact ⟨rfl, HB4.out⟩

theorem env_two {w W : World} {a : Option Addr} {len cap : Nat} {b : Bytes} {bs bs' : List (Nat × Obj)} {g : Nat} {o : Obj} (h : Env w a len cap b bs) (hG : Glob W) (hI : IsB W a len cap b) (hot : ∀ j, j ≠ g → W.heap[j]? = w.heap[j]?) (hr : W.heap[g]? = some o) (hbs : ∀ p ∈ bs', p.1 ≠ g ∧ p ∈ bs) : Env W a len cap b ((g, o) :: bs') :=
  ⟨hG, hI, fun p hp => by
    rcases List.mem_cons.1 hp with rfl | hp
    · exact hr
    · exact (hot _ (hbs p hp).1).trans (h.keep p (hbs p hp).2)⟩

theorem two_block (w : World) (g i k j : Nat) (u v : Value) (h : j ≠ g) : ((w.setCell ⟨g, i, none⟩ u).setCell ⟨g, k, none⟩ v).heap[j]? = w.heap[j]? := (Below.heap_setCell _ _ _ j h).trans (Below.heap_setCell _ _ _ j h)

set_option maxHeartbeats 16000000 in
theorem signed_yes (x key E S p d : Int) (h m g n : Hd) (q r : Bool) (CH CM CG CN : List Value) (w : World) (hG : Glob w) (HC : Seal (CH = h.C ∧ CM = m.C)) (HN : Seal (CG = g.C ∧ CN = n.C)) (HK : Seal (h.T.length = 32 ∧ m.T.length = 32)) (HKg : Seal (g.T.length = 32 ∧ n.T.length = 32))
    (QM : Seal (CM.toArray[40]? = some (.int .i64 E) ∧ CM.toArray[41]? = some (.int .i64 S))) (QH : Seal (CH.toArray[40]? = some (.int .i64 h.E) ∧ CH.toArray[41]? = some (.int .i64 h.S))) (QG : Seal (CG.toArray[40]? = some (.int .i64 g.E) ∧ CG.toArray[41]? = some (.int .i64 g.S)))
    (UH : Seal ((CH.set 40 (.int .i64 E)).set 41 (.int .i64 S) = CM)) (UG : Seal ((CG.set 40 (.int .i64 E)).set 41 (.int .i64 S) = CN))
    (HS : Seal (∀ W, Glob W → Calls Tryd.prog 12 #[] W fun e w' => e = .returned (.bool true) ∧ Below W.heap.size W w'))
    (MK : Seal (∀ W, Glob W → Calls Tryd.prog 13 #[.int .i64 x, .agg CH.toArray] W fun e w' => e = .returned (.tuple #[.agg CM.toArray, .int .i64 0]) ∧ Below W.heap.size W w'))
    (MK2 : Seal (∀ W, Glob W → Calls Tryd.prog 13 #[.int .i64 x, .agg CM.toArray] W fun e w' => e = .returned (.tuple #[.agg CM.toArray, .int .i64 0]) ∧ Below W.heap.size W w'))
    (PB : Seal (∀ W, Calls Tryd.prog 23 #[.int .i64 x] W fun e w' => e = .returned (.tuple #[.int .i64 key, .int .i64 0]) ∧ Below W.heap.size W w'))
    (CK : Seal (∀ W, Glob W → Calls Tryd.prog 15 #[.int .i64 key, .agg CM.toArray] W fun e w' => e = .returned (.bool true) ∧ Below W.heap.size W w'))
    (CKn : Seal (∀ W, Glob W → Calls Tryd.prog 15 #[.int .i64 key, .agg CN.toArray] W fun e w' => e = .returned (.bool r) ∧ Below W.heap.size W w'))
    (PT : Seal (∀ W, Calls Tryd.prog 24 #[.int .i64 key, .agg #[.int .i64 E, .int .i64 S]] W fun e w' => e = .returned (.int .i64 p) ∧ Below W.heap.size W w'))
    (TN : Seal (∀ W, Calls Tryd.prog 26 #[.agg CN.toArray] W (ListPost n.tx W))) (TM : Seal (∀ W, Calls Tryd.prog 26 #[.agg CM.toArray] W (ListPost m.tx W)))
    (H1 : Seal (r = true → ∀ W a len cap, IsB W a len cap n.tx → len ≤ 1099511627776 → Calls Tryd.prog 25 #[.int .i64 p, .int .i64 key, .slice a len cap] W fun e w' => e = .returned (.int .i64 d) ∧ Below W.heap.size W w'))
    (H2 : Seal (∀ W a len cap, IsB W a len cap m.tx → len ≤ 1099511627776 → Calls Tryd.prog 25 #[.int .i64 p, .int .i64 key, .slice a len cap] W fun e w' => e = .returned (.int .i64 d) ∧ Below W.heap.size W w'))
    (heqM : ∀ W, (Op.equalIn 10000 29 (.agg CM.toArray) (.agg CM.toArray)).run Tryd.prog W = .ok true W) (heqN : ∀ W, (Op.equalIn 10000 29 (.agg CN.toArray) (.agg CM.toArray)).run Tryd.prog W = .ok q W) :
    Calls Tryd.prog 6 #[.int .i64 x, .agg CH.toArray, .agg CG.toArray] w fun e w' => e = .returned (.bool true) ∧ Below w.heap.size w w' := by
  have IN : Seal ((Tryd.prog.info? 29).map (·.size) = some CN.toArray.size) := ⟨by rw [HN.out.2, List.size_toArray]; exact Hd.C_info HKg.out.2⟩
  have LTN := Seal.mk (Hd.tx_len HKg.out.2)
  have LTM := Seal.mk (Hd.tx_len HK.out.2)
  have IH : Seal ((Tryd.prog.info? 29).map (·.size) = some CH.toArray.size) := ⟨by rw [HC.out.1, List.size_toArray]; exact Hd.C_info HK.out.1⟩
  have IM : Seal ((Tryd.prog.info? 29).map (·.size) = some CM.length) := ⟨by rw [HC.out.2]; exact Hd.C_info HK.out.2⟩
  have IMa : Seal ((Tryd.prog.info? 29).map (·.size) = some CM.toArray.size) := ⟨IM.out⟩
  have LM : Seal (((.int .i64 0 :: .int .i64 0 :: .int .i64 0 :: .int .i64 0 :: .int .i64 0 :: .int .i64 0 :: .int .i64 0 :: .int .u8 0 :: .int .u8 0 :: .int .u8 0 :: .int .u8 0 :: .int .u8 0 :: .int .u8 0 :: .int .u8 0 :: .int .u8 0 :: .int .u8 0 :: .int .u8 0 :: .int .u8 0 :: .int .u8 0 :: .int .u8 0 :: .int .u8 0 :: .int .u8 0 :: .int .u8 0 :: .int .u8 0 :: .int .u8 0 :: .int .u8 0 :: .int .u8 0 :: .int .u8 0 :: .int .u8 0 :: .int .u8 0 :: .int .u8 0 :: .int .u8 0 :: .int .u8 0 :: .int .u8 0 :: .int .u8 0 :: .int .u8 0 :: .int .u8 0 :: .int .u8 0 :: .int .u8 0 :: .int .i64 0 :: .int .i64 0 :: .int .i64 0 :: [] : List Value)).length = CM.length) := ⟨by rw [HC.out.2, Hd.C_len HK.out.2]; rfl⟩
  have OM : Seal (∀ u ∈ CM, u.oneCell' = true) := ⟨by rw [HC.out.2]; exact Hd.C_one _⟩
  have HG := Seal.mk hG
  have HE : Seal (Env ((w.alloc (.cells CH.toArray 29)).alloc (.cells CG.toArray 29)) none 0 0 [] [(w.heap.size + 1, .cells CG.toArray 29), (w.heap.size, .cells CH.toArray 29)]) := ⟨by
    have h := Env.push (Env.push (bs := []) ⟨hG, isB_nil w, by intro p hp; cases hp⟩ (.cells CH.toArray 29)) (.cells CG.toArray 29)
    simp only [size_alloc] at h
    exact h⟩
  have HB : Seal (Below w.heap.size w ((w.alloc (.cells CH.toArray 29)).alloc (.cells CG.toArray 29))) := ⟨((Below.refl _ w).alloc (Nat.le_refl _) _).alloc (by simp) _⟩
  clear hG
  go_enter Tryd.func6, Tryd.ntmps6
  go_wp2_with fail
  refine (HS.out _ HE.out.glob).mono ?_
  rintro e w2 ⟨rfl, hb⟩
  have HB2 := Seal.mk (HB.out.trans (hb.mono HB.out.size))
  have HE2 := Seal.mk (HE.out.below hb)
  clear hb HB HE
  have HB := HB2
  have HE := HE2
  clear HB2 HE2
  have RH := Seal.mk (HE.out.keep (w.heap.size, .cells CH.toArray 29) (by simp))
  go_wp2_with (refine wpList_load_row rfl 29 (.tmp 4) rfl w.heap.size rfl 29 CH.toArray (0, 0) _ RH.out Tryd.underlying29 rfl IH.out ?_)
  refine (MK.out _ HE.out.glob).mono ?_
  rintro e w3 ⟨rfl, hb⟩
  clear RH
  have Z3 : Seal (w.heap.size + 1 < w3.heap.size) := ⟨Nat.lt_of_lt_of_le (HE.out.lt (g := w.heap.size + 1) (o := .cells CG.toArray 29) (by simp)) hb.size⟩
  have HE2 := Seal.mk ((HE.out.below hb).push (.cells CM.toArray 29))
  have HB2 := Seal.mk ((HB.out.trans (hb.mono HB.out.size)).alloc (Nat.le_trans HB.out.size hb.size) (.cells CM.toArray 29))
  clear hb HB HE
  have HB := HB2
  have HE := HE2
  clear HB2 HE2
  go_wp2_with (refine wpList_store_new rfl 29 (.tmp 7) (.tmp 20) rfl (.int .i64 0 :: .int .i64 0 :: .int .i64 0 :: .int .i64 0 :: .int .i64 0 :: .int .i64 0 :: .int .i64 0 :: .int .u8 0 :: .int .u8 0 :: .int .u8 0 :: .int .u8 0 :: .int .u8 0 :: .int .u8 0 :: .int .u8 0 :: .int .u8 0 :: .int .u8 0 :: .int .u8 0 :: .int .u8 0 :: .int .u8 0 :: .int .u8 0 :: .int .u8 0 :: .int .u8 0 :: .int .u8 0 :: .int .u8 0 :: .int .u8 0 :: .int .u8 0 :: .int .u8 0 :: .int .u8 0 :: .int .u8 0 :: .int .u8 0 :: .int .u8 0 :: .int .u8 0 :: .int .u8 0 :: .int .u8 0 :: .int .u8 0 :: .int .u8 0 :: .int .u8 0 :: .int .u8 0 :: .int .u8 0 :: .int .i64 0 :: .int .i64 0 :: .int .i64 0 :: [] : List Value) CM 29 rfl rfl IM.out LM.out OM.out ?_)
  refine (PB.out _).mono ?_
  rintro e w4 ⟨rfl, hb⟩
  have HB2 := Seal.mk (HB.out.trans (hb.mono HB.out.size))
  have HE2 := Seal.mk (HE.out.below hb)
  clear hb HB HE
  have HB := HB2
  have HE := HE2
  clear HB2 HE2
  have RM := Seal.mk (HE.out.keep (w3.heap.size, .cells CM.toArray 29) (by simp))
  go_wp2_with (refine wpList_load_row_g (by kernel_rfl) 29 (.tmp 7) rfl w3.heap.size rfl 29 CM.toArray (0, 0) _ RM.out Tryd.underlying29 rfl IMa.out ?_)
  refine (MK2.out _ HE.out.glob).mono ?_
  rintro e w5 ⟨rfl, hb⟩
  have Z5 : Seal (w3.heap.size < w5.heap.size) := ⟨Nat.lt_of_lt_of_le (HE.out.lt (g := w3.heap.size) (o := .cells CM.toArray 29) (by simp)) hb.size⟩
  clear RM
  have HE2 := Seal.mk ((HE.out.below hb).push (.cells CM.toArray 29))
  have HB2 := Seal.mk ((HB.out.trans (hb.mono HB.out.size)).alloc (Nat.le_trans HB.out.size hb.size) (.cells CM.toArray 29))
  clear hb HB HE
  have HB := HB2
  have HE := HE2
  clear HB2 HE2
  have RM := Seal.mk (HE.out.keep (w3.heap.size, .cells CM.toArray 29) (by simp))
  go_wp2_with (first | (refine wpList_store_new rfl 29 (.tmp 11) (.tmp 49) rfl (.int .i64 0 :: .int .i64 0 :: .int .i64 0 :: .int .i64 0 :: .int .i64 0 :: .int .i64 0 :: .int .i64 0 :: .int .u8 0 :: .int .u8 0 :: .int .u8 0 :: .int .u8 0 :: .int .u8 0 :: .int .u8 0 :: .int .u8 0 :: .int .u8 0 :: .int .u8 0 :: .int .u8 0 :: .int .u8 0 :: .int .u8 0 :: .int .u8 0 :: .int .u8 0 :: .int .u8 0 :: .int .u8 0 :: .int .u8 0 :: .int .u8 0 :: .int .u8 0 :: .int .u8 0 :: .int .u8 0 :: .int .u8 0 :: .int .u8 0 :: .int .u8 0 :: .int .u8 0 :: .int .u8 0 :: .int .u8 0 :: .int .u8 0 :: .int .u8 0 :: .int .u8 0 :: .int .u8 0 :: .int .u8 0 :: .int .i64 0 :: .int .i64 0 :: .int .i64 0 :: [] : List Value) CM 29 rfl rfl IM.out LM.out OM.out ?_) | (refine wpList_load_row_g (by kernel_rfl) 29 (.tmp 7) rfl w3.heap.size rfl 29 CM.toArray (0, 0) _ RM.out Tryd.underlying29 rfl IMa.out ?_))
  refine (CK.out _ HE.out.glob).mono ?_
  rintro e w6 ⟨rfl, hb⟩
  clear RM
  have HB2 := Seal.mk (HB.out.trans (hb.mono HB.out.size))
  have HE2 := Seal.mk (HE.out.below hb)
  clear hb HB HE
  have HB := HB2
  have HE := HE2
  clear HB2 HE2
  have RM := Seal.mk (HE.out.keep (w3.heap.size, .cells CM.toArray 29) (by simp))
  have R11 := Seal.mk (HE.out.keep (w5.heap.size, .cells CM.toArray 29) (by simp))
  go_upto_region 10 with (first | (refine wpList_load_row_g (by kernel_rfl) 29 (.tmp 7) rfl w3.heap.size rfl 29 CM.toArray (0, 0) _ RM.out Tryd.underlying29 rfl IMa.out ?_) | (refine wpList_load_row_g (by kernel_rfl) 29 (.tmp 11) rfl w5.heap.size rfl 29 CM.toArray (0, 0) _ R11.out Tryd.underlying29 rfl IMa.out ?_))
  have k0 : w6.cell? ⟨w.heap.size, 40, none⟩ = some (.int .i64 h.E) := HE.out.cell (cs := CH.toArray) (t := 29) (by simp) QH.out.1
  have k1 : w6.cell? ⟨w.heap.size, 41, none⟩ = some (.int .i64 h.S) := HE.out.cell (cs := CH.toArray) (t := 29) (by simp) QH.out.2
  have f0 : w6.frozen? ⟨w.heap.size, 40, none⟩ = false := HE.out.frozen (cs := CH.toArray) (t := 29) (by simp)
  have f1 : w6.frozen? ⟨w.heap.size, 41, none⟩ = false := HE.out.frozen (cs := CH.toArray) (t := 29) (by simp)
  have m0 : w6.cell? ⟨w3.heap.size, 40, none⟩ = some (.int .i64 E) := HE.out.cell (cs := CM.toArray) (t := 29) (by simp) QM.out.1
  have m1 : w6.cell? ⟨w3.heap.size, 41, none⟩ = some (.int .i64 S) := HE.out.cell (cs := CM.toArray) (t := 29) (by simp) QM.out.2
  clear RM R11
  go_upto_region 11 with (fail)
  obtain ⟨Y1, hY1⟩ : ∃ W, W = (w6.setCell ⟨w.heap.size, 40, none⟩ (.int .i64 E)).setCell ⟨w.heap.size, 41, none⟩ (.int .i64 S) := ⟨_, rfl⟩
  have HB2 : Seal (Below w.heap.size w Y1) := ⟨by rw [hY1]; exact (HB.out.setCell (p := ⟨w.heap.size, 40, none⟩) (by simp) _).setCell (p := ⟨w.heap.size, 41, none⟩) (by simp) _⟩
  have hr := heap_setCell_row (i := 41) (.int .i64 S) (heap_setCell_row (i := 40) (.int .i64 E) (HE.out.keep (w.heap.size, .cells CH.toArray 29) (by simp)))
  rw [UH.out, ← hY1] at hr
  have HE2 : Seal (Env Y1 none 0 0 [] [(w.heap.size, .cells CM.toArray 29), (w5.heap.size, .cells CM.toArray 29), (w3.heap.size, .cells CM.toArray 29), (w.heap.size + 1, .cells CG.toArray 29)]) := ⟨env_two HE.out (HG.out.below HB2.out) (isB_nil _) (fun j hj => by rw [hY1]; exact two_block _ _ _ _ _ _ _ hj) hr (by
    intro p hp
    simp only [List.mem_cons, List.not_mem_nil, or_false] at hp
    have z1 := Z3.out
    have z2 := Z5.out
    rcases hp with rfl | rfl | rfl
    all_goals exact ⟨by simp only; omega, by simp⟩)⟩
  rw [← hY1]
  clear hY1 hr k0 k1 f0 f1 m0 m1 HB HE
  have HB := HB2
  have HE := HE2
  clear HB2 HE2
  have RM := Seal.mk (HE.out.keep (w3.heap.size, .cells CM.toArray 29) (by simp))
  have RH := Seal.mk (HE.out.keep (w.heap.size, .cells CM.toArray 29) (by simp))
  go_upto_region 13 with (first | (refine wpList_load_row_g (by kernel_rfl) 29 (.tmp 7) rfl w3.heap.size rfl 29 CM.toArray (0, 0) _ RM.out Tryd.underlying29 rfl IMa.out ?_) | (refine wpList_load_row_g (by kernel_rfl) 29 (.tmp 4) rfl w.heap.size rfl 29 CM.toArray (0, 0) _ RH.out Tryd.underlying29 rfl IMa.out ?_))
  have k0 : Y1.cell? ⟨w.heap.size + 1, 40, none⟩ = some (.int .i64 g.E) := HE.out.cell (cs := CG.toArray) (t := 29) (by simp) QG.out.1
  have k1 : Y1.cell? ⟨w.heap.size + 1, 41, none⟩ = some (.int .i64 g.S) := HE.out.cell (cs := CG.toArray) (t := 29) (by simp) QG.out.2
  have f0 : Y1.frozen? ⟨w.heap.size + 1, 40, none⟩ = false := HE.out.frozen (cs := CG.toArray) (t := 29) (by simp)
  have f1 : Y1.frozen? ⟨w.heap.size + 1, 41, none⟩ = false := HE.out.frozen (cs := CG.toArray) (t := 29) (by simp)
  have m0 : Y1.cell? ⟨w3.heap.size, 40, none⟩ = some (.int .i64 E) := HE.out.cell (cs := CM.toArray) (t := 29) (by simp) QM.out.1
  have m1 : Y1.cell? ⟨w3.heap.size, 41, none⟩ = some (.int .i64 S) := HE.out.cell (cs := CM.toArray) (t := 29) (by simp) QM.out.2
  clear RM RH
  go_upto_region 14 with (fail)
  obtain ⟨Y2, hY2⟩ : ∃ W, W = (Y1.setCell ⟨w.heap.size + 1, 40, none⟩ (.int .i64 E)).setCell ⟨w.heap.size + 1, 41, none⟩ (.int .i64 S) := ⟨_, rfl⟩
  have HB2 : Seal (Below w.heap.size w Y2) := ⟨by rw [hY2]; exact (HB.out.setCell (p := ⟨w.heap.size + 1, 40, none⟩) (by simp) _).setCell (p := ⟨w.heap.size + 1, 41, none⟩) (by simp) _⟩
  have hr := heap_setCell_row (i := 41) (.int .i64 S) (heap_setCell_row (i := 40) (.int .i64 E) (HE.out.keep (w.heap.size + 1, .cells CG.toArray 29) (by simp)))
  rw [UG.out, ← hY2] at hr
  have HE2 : Seal (Env Y2 none 0 0 [] [(w.heap.size + 1, .cells CN.toArray 29), (w.heap.size, .cells CM.toArray 29), (w5.heap.size, .cells CM.toArray 29), (w3.heap.size, .cells CM.toArray 29)]) := ⟨env_two HE.out (HG.out.below HB2.out) (isB_nil _) (fun j hj => by rw [hY2]; exact two_block _ _ _ _ _ _ _ hj) hr (by
    intro p hp
    simp only [List.mem_cons, List.not_mem_nil, or_false] at hp
    have z1 := Z3.out
    have z2 := Z5.out
    rcases hp with rfl | rfl | rfl
    all_goals exact ⟨by simp only; omega, by simp⟩)⟩
  rw [← hY2]
  clear hY2 hr k0 k1 f0 f1 m0 m1 HB HE
  have HB := HB2
  have HE := HE2
  clear HB2 HE2
  have RM := Seal.mk (HE.out.keep (w3.heap.size, .cells CM.toArray 29) (by simp))
  have RN := Seal.mk (HE.out.keep (w.heap.size + 1, .cells CN.toArray 29) (by simp))
  cases q with
  | true =>
    go_wp2_with (first | (refine wpList_load_row_g (by kernel_rfl) 29 (.tmp 7) rfl w3.heap.size rfl 29 CM.toArray (0, 0) _ RM.out Tryd.underlying29 rfl IMa.out ?_) | (refine wpList_load_row_g (by kernel_rfl) 29 (.tmp 5) rfl (w.heap.size + 1) rfl 29 CN.toArray (0, 0) _ RN.out Tryd.underlying29 rfl IN.out ?_))
    go_ret
    exact ⟨rfl, HB.out⟩
  | false =>
    go_wp2_with (first | (refine wpList_load_row_g (by kernel_rfl) 29 (.tmp 7) rfl w3.heap.size rfl 29 CM.toArray (0, 0) _ RM.out Tryd.underlying29 rfl IMa.out ?_) | (refine wpList_load_row_g (by kernel_rfl) 29 (.tmp 5) rfl (w.heap.size + 1) rfl 29 CN.toArray (0, 0) _ RN.out Tryd.underlying29 rfl IN.out ?_))
    cases r with
    | false =>
      refine (CKn.out _ HE.out.glob).mono ?_
      rintro e w7 ⟨rfl, hb⟩
      have HB7 := Seal.mk (HB.out.trans (hb.mono HB.out.size))
      clear hb
      go_wp2
      go_ret
      exact ⟨rfl, HB7.out⟩
    | true =>
      refine (CKn.out _ HE.out.glob).mono ?_
      rintro e w7 ⟨rfl, hb⟩
      clear RM RN
      have HB2 := Seal.mk (HB.out.trans (hb.mono HB.out.size))
      have HE2 := Seal.mk (HE.out.below hb)
      clear hb HB HE
      have HB := HB2
      have HE := HE2
      clear HB2 HE2
      have m0 : w7.cell? ⟨w3.heap.size, 40, none⟩ = some (.int .i64 E) := HE.out.cell (cs := CM.toArray) (t := 29) (by simp) QM.out.1
      have m1 : w7.cell? ⟨w3.heap.size, 41, none⟩ = some (.int .i64 S) := HE.out.cell (cs := CM.toArray) (t := 29) (by simp) QM.out.2
      go_wp2_with fail
      refine (PT.out _).mono ?_
      rintro e w8 ⟨rfl, hb⟩
      clear m0 m1
      have HB2 := Seal.mk (HB.out.trans (hb.mono HB.out.size))
      have HE2 := Seal.mk (HE.out.below hb)
      clear hb HB HE
      have HB := HB2
      have HE := HE2
      clear HB2 HE2
      go_upto_region 17 with (fail)
      have rN : w8.rangeAt (w.heap.size + 1) 0 CN := rangeAt_row (HE.out.keep (w.heap.size + 1, .cells CN.toArray 29) (by simp))
      have rM : w8.rangeAt w3.heap.size 0 CM := rangeAt_row (HE.out.keep (w3.heap.size, .cells CM.toArray 29) (by simp))
      have iN : (Tryd.prog.info? 29).map (·.size) = some CN.length := IN.out
      have iM := IM.out
      have ut := Tryd.underlying29
      clear HE
      refine wp_region_held_drew (S := fun w' => w'.rangeAt (w.heap.size + 1) 0 CN ∧ w'.rangeAt w3.heap.size 0 CM) (by kernel_rfl) ⟨rN, rM⟩ (fun hHeld => ?_)
      obtain ⟨Y, hY⟩ : ∃ Y, Y = w8.drew := ⟨_, rfl⟩
      have HBY : Seal (Below w.heap.size w Y) := ⟨by rw [hY]; exact ⟨HB.out.os, HB.out.tape, HB.out.output, HB.out.size, HB.out.block⟩⟩
      rw [← hY] at hHeld ⊢
      clear hY rN rM HB
      refine take_h 0 ?_ rfl (by kernel_rfl) (by kernel_rfl) (by kernel_rfl) (fun _ _ _ h => h) (Or.inl ⟨by kernel_rfl, ?_⟩) (by assumption) ?_
      rotate_left
      · (intro w hSw; (try dsimp only at hSw); go_simp; try (with_reducible rfl))
      try simp only [Act.put, List.setIfInBounds_toArray, List.set_cons_zero, List.set_cons_succ]
      refine take_h 1 ?_ rfl (by kernel_rfl) (by kernel_rfl) (by kernel_rfl) (fun _ _ _ h => h) (Or.inl ⟨by kernel_rfl, ?_⟩) (by assumption) ?_
      rotate_left
      · (intro w hSw; (try dsimp only at hSw); go_simp; try (with_reducible rfl))
      try simp only [Act.put, List.setIfInBounds_toArray, List.set_cons_zero, List.set_cons_succ]
      refine take_h 2 _ rfl (by kernel_rfl) (by kernel_rfl) (by kernel_rfl) (fun _ _ _ h => h) (yieldsIf_load_mid (by kernel_rfl) 29 (.tmp 5) rfl (w.heap.size + 1) 0 rfl CN _ (fun w hSw => hSw.1) ut rfl iN) (by assumption) ?_
      try simp only [Act.put, List.setIfInBounds_toArray, List.set_cons_zero, List.set_cons_succ]
      refine take_h 5 ?_ rfl (by kernel_rfl) (by kernel_rfl) (by kernel_rfl) (fun _ _ _ h => h) (Or.inl ⟨by kernel_rfl, ?_⟩) (by assumption) ?_
      rotate_left
      · (intro w hSw; (try dsimp only at hSw); go_simp; try (with_reducible rfl))
      try simp only [Act.put, List.setIfInBounds_toArray, List.set_cons_zero, List.set_cons_succ]
      refine take_h 6 ?_ rfl (by kernel_rfl) (by kernel_rfl) (by kernel_rfl) (fun _ _ _ h => h) (Or.inl ⟨by kernel_rfl, ?_⟩) (by assumption) ?_
      rotate_left
      · (intro w hSw; (try dsimp only at hSw); go_simp; try (with_reducible rfl))
      try simp only [Act.put, List.setIfInBounds_toArray, List.set_cons_zero, List.set_cons_succ]
      refine take_h 7 _ rfl (by kernel_rfl) (by kernel_rfl) (by kernel_rfl) (fun _ _ _ h => h) (yieldsIf_load_mid (by kernel_rfl) 29 (.tmp 7) rfl w3.heap.size 0 rfl CM _ (fun w hSw => hSw.2) ut rfl iM) (by assumption) ?_
      try simp only [Act.put, List.setIfInBounds_toArray, List.set_cons_zero, List.set_cons_succ]
      refine call_h 3 rfl (by kernel_rfl) 26 #[.agg CN.toArray] (by kernel_rfl) (by go_simp) ?_
      refine (TN.out _).mono ?_
      rintro e y1 ⟨g', n', c', hn, rfl, hf⟩
      have hb := hf.out.2.2.2.2
      have HBy1 : Seal (Below w.heap.size w y1) := ⟨HBY.out.trans (hb.mono HBY.out.size)⟩
      refine ⟨_, rfl, ⟨rangeAt_below' hHeld.1 hb, rangeAt_below' hHeld.2 hb⟩, fun hHeld2 => ?_⟩
      have hIB : IsB y1 (some ⟨g', 0, none⟩) n' c' n.tx := ⟨hn.out, hf.out.1, by rw [← hn.out]; have := LTN.out; omega, hf.out.2.1, .inr ⟨g', 0, rfl, hf.out.2.2.2.1, hf.out.2.2.1⟩⟩
      have HHC := Seal.mk (H1.out (by trivial) y1 (some ⟨g', 0, none⟩) n' c' hIB (by rw [← hn.out]; have := LTN.out; omega))
      clear hHeld hb hIB hf HBY
      have hHeld := hHeld2
      clear hHeld2
      try simp only [Act.put, List.setIfInBounds_toArray, List.set_cons_zero, List.set_cons_succ]
      refine call_h 4 rfl (by kernel_rfl) 25 #[.int .i64 p, .int .i64 key, .slice (some ⟨g', 0, none⟩) n' c'] (by kernel_rfl) (by go_simp) ?_
      refine HHC.out.mono ?_
      rintro e y2 ⟨rfl, hb⟩
      have HBy2 : Seal (Below w.heap.size w y2) := ⟨HBy1.out.trans (hb.mono HBy1.out.size)⟩
      refine ⟨_, rfl, ⟨rangeAt_below' hHeld.1 hb, rangeAt_below' hHeld.2 hb⟩, fun hHeld2 => ?_⟩
      clear hHeld hb HHC HBy1 hn
      have hHeld := hHeld2
      clear hHeld2
      try simp only [Act.put, List.setIfInBounds_toArray, List.set_cons_zero, List.set_cons_succ]
      refine call_h 8 rfl (by kernel_rfl) 26 #[.agg CM.toArray] (by kernel_rfl) (by go_simp) ?_
      refine (TM.out _).mono ?_
      rintro e y3 ⟨g', n', c', hn, rfl, hf⟩
      have hb := hf.out.2.2.2.2
      have HBy3 : Seal (Below w.heap.size w y3) := ⟨HBy2.out.trans (hb.mono HBy2.out.size)⟩
      refine ⟨_, rfl, ⟨rangeAt_below' hHeld.1 hb, rangeAt_below' hHeld.2 hb⟩, fun hHeld2 => ?_⟩
      have hIB : IsB y3 (some ⟨g', 0, none⟩) n' c' m.tx := ⟨hn.out, hf.out.1, by rw [← hn.out]; have := LTM.out; omega, hf.out.2.1, .inr ⟨g', 0, rfl, hf.out.2.2.2.1, hf.out.2.2.1⟩⟩
      have HHC := Seal.mk (H2.out y3 (some ⟨g', 0, none⟩) n' c' hIB (by rw [← hn.out]; have := LTM.out; omega))
      clear hHeld hb hIB hf HBy2
      have hHeld := hHeld2
      clear hHeld2
      try simp only [Act.put, List.setIfInBounds_toArray, List.set_cons_zero, List.set_cons_succ]
      refine call_h 9 rfl (by kernel_rfl) 25 #[.int .i64 p, .int .i64 key, .slice (some ⟨g', 0, none⟩) n' c'] (by kernel_rfl) (by go_simp) ?_
      refine HHC.out.mono ?_
      rintro e y4 ⟨rfl, hb⟩
      have HBy4 : Seal (Below w.heap.size w y4) := ⟨HBy3.out.trans (hb.mono HBy3.out.size)⟩
      refine ⟨_, rfl, ⟨rangeAt_below' hHeld.1 hb, rangeAt_below' hHeld.2 hb⟩, fun hHeld2 => ?_⟩
      clear hHeld hb HHC HBy3 hn
      have hHeld := hHeld2
      clear hHeld2
      try simp only [Act.put, List.setIfInBounds_toArray, List.set_cons_zero, List.set_cons_succ]
      have hdd : (d == d) = true := by simp
      refine take_h 10 (.bool true) rfl (by kernel_rfl) (by kernel_rfl) (by kernel_rfl) (fun _ _ _ h => h) (Or.inl ⟨by kernel_rfl, ?_⟩) (by assumption) ?_
      · intro w hSw
        go_simp
      try simp only [Act.put, List.setIfInBounds_toArray, List.set_cons_zero, List.set_cons_succ]
      refine take_h 11 ?_ rfl (by kernel_rfl) (by kernel_rfl) (by kernel_rfl) (fun _ _ _ h => h) (Or.inl ⟨by kernel_rfl, ?_⟩) (by assumption) ?_
      rotate_left
      · (intro w hSw; (try dsimp only at hSw); go_simp; try (with_reducible rfl))
      try simp only [Act.put, List.setIfInBounds_toArray, List.set_cons_zero, List.set_cons_succ]
      refine wpAnyH_done (by kernel_rfl) ?_ _
      clear hHeld
      go_wp2
      go_ret
      exact ⟨rfl, HBy4.out⟩

theorem law_handoverSigned (x : Int) (h g : Hd) (w : World) (hG : Glob w) (hx : I64 x) (kh : h.ok) (kg : g.ok) :
    Calls Tryd.prog 6 #[.int .i64 x, .agg h.C.toArray, .agg g.C.toArray] w fun e w' => e = .returned (.bool true) ∧ Below w.heap.size w w' := by
  by_cases ho : btB x 1 1073741788 = true ∧ h.fm = true
  · obtain ⟨hb, hf⟩ := ho
    have hr : 1 ≤ x ∧ x ≤ 1073741788 := by unfold btB at hb; simpa using hb
    obtain ⟨E, hE⟩ : ∃ E : Int, ((sgE x h.tx : Nat) : Int) = E := ⟨_, rfl⟩
    obtain ⟨S, hS⟩ : ∃ S : Int, sgS x h.tx = S := ⟨_, rfl⟩
    obtain ⟨key, hkey⟩ : ∃ key : Int, ((pw 4 x : Nat) : Int) = key := ⟨_, rfl⟩
    have m1 : mkF x h = (h.sg E S, 0) := by unfold mkF; rw [if_pos hb, if_pos hf, hE, hS]
    have m2 : mkF x (h.sg E S) = (h.sg E S, 0) := by
      unfold mkF
      rw [if_pos hb, if_pos (show (h.sg E S).fm = true from hf)]
      show ((h.sg E S).sg ((sgE x h.tx : Nat) : Int) (sgS x h.tx), (0 : Int)) = _
      rw [hE, hS]; rfl
    have okm : (h.sg E S).ok := ⟨kh.t32, kh.iL, kh.iA, kh.iR, kh.ileg, kh.ifr, kh.ito, kh.imn, kh.itm⟩
    have okn : (g.sg E S).ok := ⟨kg.t32, kg.iL, kg.iA, kg.iR, kg.ileg, kg.ifr, kg.ito, kg.imn, kg.itm⟩
    have sr := sign_right x h.tx
    rw [hE, hS, hkey] at sr
    have ck : chB key (h.sg E S) = true := by
      unfold chB
      rw [show (h.sg E S).fm = true from hf, Bool.true_and]
      exact sr
    have hEr : 0 ≤ E ∧ E < 1073741789 := by have := sgE_lt x h.tx; omega
    have vk : vd key = true := by rw [← hkey]; exact vd_pw (a := 4) (by decide +kernel) x
    have hkr : -9223372036854775808 ≤ key ∧ key ≤ 9223372036854775807 := by have h1 := pw_lt 4 x; have h2 : P = 2147483579 := rfl; omega
    obtain ⟨p, hp⟩ : ∃ p : Int, ((sgPoint key E S : Nat) : Int) = p := ⟨_, rfl⟩
    have hpr : -9223372036854775808 ≤ p ∧ p ≤ 9223372036854775807 := by have h1 := sgPoint_lt key E S; omega
    have ver : ∀ b : Bytes, vrB key b E S = true → ((sgHash p key b : Nat) : Int) = E := fun b hv => by
      unfold vrB at hv
      simp only [Bool.and_eq_true, beq_iff_eq] at hv
      rw [← hp]
      exact hv.2.symm
    have hiM := Hd.C_hi (h := h.sg E S) kh.t32
    have hiH := Hd.C_hi kh.t32
    have hiG := Hd.C_hi kg.t32
    exact signed_yes x key E S p E h (h.sg E S) g (g.sg E S) (hdB (g.sg E S) (h.sg E S)) (chB key (g.sg E S)) h.C (h.sg E S).C g.C (g.sg E S).C w hG ⟨rfl, rfl⟩ ⟨rfl, rfl⟩ ⟨kh.t32, kh.t32⟩ ⟨kg.t32, kg.t32⟩
      ⟨by show (h.sg E S).C.toArray[40]? = some (.int .i64 (h.sg E S).E); simpa using hiM.2.1, by show (h.sg E S).C.toArray[41]? = some (.int .i64 (h.sg E S).S); simpa using hiM.2.2⟩ ⟨by simpa using hiH.2.1, by simpa using hiH.2.2⟩ ⟨by simpa using hiG.2.1, by simpa using hiG.2.2⟩
      ⟨Hd.C_set kh.t32 E S⟩ ⟨Hd.C_set kg.t32 E S⟩ ⟨fun W gl => hsane_any W gl⟩
      ⟨fun W gl => by have := hmake_any x h W kh gl; rwa [m1] at this⟩ ⟨fun W gl => by have := hmake_any x (h.sg E S) W okm gl; rwa [m2] at this⟩
      ⟨fun W => public_at x key 0 W ⟨by unfold pubF secB; rw [decide_eq_true (show 0 < x by omega), decide_eq_true (show x < 1073741789 by omega), ← hkey]; rfl⟩ hx.1 hx.2⟩
      ⟨fun W gl => by have := hcheck_any key (h.sg E S) W okm gl; rwa [ck] at this⟩ ⟨fun W gl => hcheck_any key (g.sg E S) W okn gl⟩
      ⟨fun W => by rw [← hp]; exact rpoint_any key E S W vk hEr.1 hEr.2⟩
      ⟨fun W => rtext48_any (g.sg E S) W okn⟩ ⟨fun W => rtext48_any (h.sg E S) W okm⟩
      ⟨fun hc W a len cap hi hl => by
        have hv : vrB key (g.sg E S).tx E S = true := by unfold chB at hc; simp only [Bool.and_eq_true] at hc; exact hc.2
        have := rhash_any p key a len cap (g.sg E S).tx W hi hl hpr.1 hpr.2 hkr.1 hkr.2
        rwa [ver _ hv] at this⟩
      ⟨fun W a len cap hi hl => by
        have := rhash_any p key a len cap (h.sg E S).tx W hi hl hpr.1 hpr.2 hkr.1 hkr.2
        rwa [ver (h.sg E S).tx sr] at this⟩
      (fun W => by rw [eqHand (h.sg E S) (h.sg E S) kh.t32 kh.t32 W, (hdB_iff _ _).2 rfl]) (fun W => eqHand (g.sg E S) (h.sg E S) kg.t32 kh.t32 W)
  · have m0 : (mkF x h).1 = hz ∧ ¬ (mkF x h).2 = 0 ∧ (h.fm = false ∨ x < 1 ∨ (¬ x < 1 ∧ 1073741789 ≤ x)) := by
      unfold mkF
      cases hb : btB x 1 1073741788 with
      | false => exact ⟨rfl, (show ¬ (110 : Int) = 0 by decide), .inr (by unfold btB at hb; simp at hb; omega)⟩
      | true =>
        cases hf : h.fm with
        | false => exact ⟨rfl, (show ¬ (480 : Int) = 0 by decide), .inl rfl⟩
        | true => exact absurd ⟨hb, hf⟩ ho
    obtain ⟨e1, e2, e3⟩ := m0
    exact signed_no x (mkF x h).2 h hz h.fm h.C hz.C g.C w hG ⟨rfl, rfl⟩ ⟨kh.t32, zb32_len⟩ ⟨fun W gl => hsane_any W gl⟩
      ⟨fun W gl => by have := hmake_any x h W kh gl; rwa [e1] at this⟩ ⟨fun W => rformed_any h W kh.t32⟩ e2
      (fun W => by rw [hz_eq, eqHand hz hz zb32_len zb32_len W, (hdB_iff _ _).2 rfl]) e3
end Frk
