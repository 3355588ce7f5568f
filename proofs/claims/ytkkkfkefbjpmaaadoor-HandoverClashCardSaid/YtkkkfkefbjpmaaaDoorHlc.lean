/- The law HandoverClash, walked. -/
import Derived.Test.YtkkkfkefbjpmaaaDoorHac
import Derived.Test.YtkkkfkefbjpmaaaDoorGrd
namespace Frk
open Go Go.RowKit Go.Proofs
set_option maxRecDepth 100000

theorem slB_comm (a b : Hd) : slB a b = slB b a := by
  unfold slB
  rw [Bool.beq_comm (a := a.L), Bool.beq_comm (a := a.A), Bool.beq_comm (a := a.R), Bool.beq_comm (a := a.leg), Bool.beq_comm (a := a.fr)]
theorem hdB_comm (a b : Hd) : hdB a b = hdB b a := by
  cases h : hdB a b with
  | true => exact ((hdB_iff b a).2 ((hdB_iff a b).1 h).symm).symm
  | false =>
    cases h2 : hdB b a with
    | false => rfl
    | true => rw [(hdB_iff a b).2 ((hdB_iff b a).1 h2).symm] at h; cases h
theorem clB_comm (a b : Hd) : clB a b = clB b a := by
  unfold clB
  rw [slB_comm a b, hdB_comm (a.sg 0 0) (b.sg 0 0)]
  cases a.fm <;> cases b.fm <;> rfl
theorem clB_sg (a b : Hd) (E S : Int) : clB (a.sg E S) b = clB a b := rfl
theorem clB_self (a : Hd) (E S : Int) : clB a (a.sg E S) = false := by
  unfold clB
  rw [show (a.sg E S).sg 0 0 = a.sg 0 0 from rfl, (hdB_iff _ _).2 rfl]; simp
theorem slB_iff (a b : Hd) : slB a b = true ↔ (a.L = b.L ∧ a.A = b.A ∧ a.R = b.R) ∧ a.leg = b.leg ∧ a.fr = b.fr := by
  unfold slB
  simp only [Bool.and_eq_true, beq_iff_eq]
/-- of three hand-overs for one slot -/
theorem clB_third {a b c : Hd} (h : clB a b = true) (hc : c.fm = true) (hs : slB c a = true) (h1 : clB a c = false) : clB c b = true := by
  unfold clB at h h1 ⊢
  simp only [Bool.and_eq_true] at h
  obtain ⟨fa, fb, hs2, hd⟩ := h
  rw [fa, hc, slB_comm a c, hs] at h1
  simp only [Bool.true_and, Bool.not_eq_false'] at h1
  have e := (hdB_iff _ _).1 h1
  rw [hc, fb, ← e, hd]
  have h3 := (slB_iff c a).1 hs
  have h4 := (slB_iff a b).1 hs2
  rw [(slB_iff c b).2 ⟨⟨h3.1.1.trans h4.1.1, h3.1.2.1.trans h4.1.2.1, h3.1.2.2.trans h4.1.2.2⟩, h3.2.1.trans h4.2.1, h3.2.2.trans h4.2.2⟩]
  rfl

set_option maxHeartbeats 32000000 in
theorem handover_clash (a b c : Hd) (s1 s2 : Int) (t t1 t2 fc : Bool) (CA CB CC CD : List Value) (w : World) (hG : Glob w)
    (HC : Seal (CA = a.C ∧ CB = b.C ∧ CC = c.C ∧ CD = (a.sg s1 s2).C)) (HK : Seal (a.T.length = 32 ∧ b.T.length = 32 ∧ c.T.length = 32))
    (HS : Seal (∀ W, Glob W → Calls Tryd.prog 12 #[] W fun e w' => e = .returned (.bool true) ∧ Below W.heap.size W w'))
    (KAB : Seal (∀ W, Calls Tryd.prog 20 #[.agg CA.toArray, .agg CB.toArray] W fun e w' => e = .returned (.bool t) ∧ Below W.heap.size W w'))
    (KBA : Seal (∀ W, Calls Tryd.prog 20 #[.agg CB.toArray, .agg CA.toArray] W fun e w' => e = .returned (.bool t) ∧ Below W.heap.size W w'))
    (KDB : Seal (∀ W, Calls Tryd.prog 20 #[.agg CD.toArray, .agg CB.toArray] W fun e w' => e = .returned (.bool t) ∧ Below W.heap.size W w'))
    (KAD : Seal (∀ W, Calls Tryd.prog 20 #[.agg CA.toArray, .agg CD.toArray] W fun e w' => e = .returned (.bool false) ∧ Below W.heap.size W w'))
    (KAC : Seal (∀ W, Calls Tryd.prog 20 #[.agg CA.toArray, .agg CC.toArray] W fun e w' => e = .returned (.bool t1) ∧ Below W.heap.size W w'))
    (KCB : Seal (∀ W, Calls Tryd.prog 20 #[.agg CC.toArray, .agg CB.toArray] W fun e w' => e = .returned (.bool t2) ∧ Below W.heap.size W w'))
    (FA : Seal (t = true → ∀ W, Calls Tryd.prog 22 #[.agg CA.toArray] W fun e w' => e = .returned (.bool true) ∧ Below W.heap.size W w'))
    (FB : Seal (t = true → ∀ W, Calls Tryd.prog 22 #[.agg CB.toArray] W fun e w' => e = .returned (.bool true) ∧ Below W.heap.size W w'))
    (FC : Seal (∀ W, Calls Tryd.prog 22 #[.agg CC.toArray] W fun e w' => e = .returned (.bool fc) ∧ Below W.heap.size W w'))
    (P1 : Seal (t = true → (a.L = b.L ∧ a.A = b.A ∧ a.R = b.R) ∧ a.leg = b.leg ∧ a.fr = b.fr))
    (P2 : Seal (t = true → fc = true → (c.L = a.L ∧ c.A = a.A ∧ c.R = a.R) → c.leg = a.leg → c.fr = a.fr → t1 = false → t2 = true)) :
    Calls Tryd.prog 5 #[.agg CA.toArray, .agg CB.toArray, .agg CC.toArray, .agg #[.int .i64 s1, .int .i64 s2]] w fun e w' => e = .returned (.bool true) ∧ Below w.heap.size w w' := by
  have IA : Seal ((Tryd.prog.info? 29).map (·.size) = some CA.toArray.size) := ⟨by rw [HC.out.1, List.size_toArray]; exact Hd.C_info HK.out.1⟩
  have IB : Seal ((Tryd.prog.info? 29).map (·.size) = some CB.toArray.size) := ⟨by rw [HC.out.2.1, List.size_toArray]; exact Hd.C_info HK.out.2.1⟩
  have IC : Seal ((Tryd.prog.info? 29).map (·.size) = some CC.toArray.size) := ⟨by rw [HC.out.2.2.1, List.size_toArray]; exact Hd.C_info HK.out.2.2⟩
  have ID : Seal ((Tryd.prog.info? 29).map (·.size) = some CD.toArray.size) := ⟨by rw [HC.out.2.2.2, List.size_toArray]; exact Hd.C_info (h := a.sg s1 s2) HK.out.1⟩
  have IAl : Seal ((Tryd.prog.info? 29).map (·.size) = some CA.length) := ⟨IA.out⟩
  have LA : Seal (((.int .i64 0 :: .int .i64 0 :: .int .i64 0 :: .int .i64 0 :: .int .i64 0 :: .int .i64 0 :: .int .i64 0 :: .int .u8 0 :: .int .u8 0 :: .int .u8 0 :: .int .u8 0 :: .int .u8 0 :: .int .u8 0 :: .int .u8 0 :: .int .u8 0 :: .int .u8 0 :: .int .u8 0 :: .int .u8 0 :: .int .u8 0 :: .int .u8 0 :: .int .u8 0 :: .int .u8 0 :: .int .u8 0 :: .int .u8 0 :: .int .u8 0 :: .int .u8 0 :: .int .u8 0 :: .int .u8 0 :: .int .u8 0 :: .int .u8 0 :: .int .u8 0 :: .int .u8 0 :: .int .u8 0 :: .int .u8 0 :: .int .u8 0 :: .int .u8 0 :: .int .u8 0 :: .int .u8 0 :: .int .u8 0 :: .int .i64 0 :: .int .i64 0 :: .int .i64 0 :: [] : List Value)).length = CA.length) := ⟨by rw [HC.out.1, Hd.C_len HK.out.1]; rfl⟩
  have OA : Seal (∀ u ∈ CA, u.oneCell' = true) := ⟨by rw [HC.out.1]; exact Hd.C_one _⟩
  have U : Seal ((CA.set 40 (.int .i64 s1)).set 41 (.int .i64 s2) = CD) := ⟨by rw [HC.out.1, HC.out.2.2.2, Hd.C_set HK.out.1]⟩
  have KX : Seal (CA.toArray[40]? = some (.int .i64 a.E) ∧ CA.toArray[41]? = some (.int .i64 a.S)) := ⟨by
    have := Hd.C_hi HK.out.1
    rw [HC.out.1]
    exact ⟨by simpa using this.2.1, by simpa using this.2.2⟩⟩
  have HE : Seal (Env ((((w.alloc (.cells CA.toArray 29)).alloc (.cells CB.toArray 29)).alloc (.cells CC.toArray 29)).alloc (.cells #[.int .i64 s1, .int .i64 s2] 27)) none 0 0 [] [(w.heap.size + 1 + 1 + 1, .cells #[.int .i64 s1, .int .i64 s2] 27), (w.heap.size + 1 + 1, .cells CC.toArray 29), (w.heap.size + 1, .cells CB.toArray 29), (w.heap.size, .cells CA.toArray 29)]) := ⟨by
    have h := Env.push (Env.push (Env.push (Env.push (bs := []) ⟨hG, isB_nil w, by intro p hp; cases hp⟩ (.cells CA.toArray 29)) (.cells CB.toArray 29)) (.cells CC.toArray 29)) (.cells #[.int .i64 s1, .int .i64 s2] 27)
    simp only [size_alloc] at h
    exact h⟩
  have HB : Seal (Below w.heap.size w ((((w.alloc (.cells CA.toArray 29)).alloc (.cells CB.toArray 29)).alloc (.cells CC.toArray 29)).alloc (.cells #[.int .i64 s1, .int .i64 s2] 27))) := ⟨((((Below.refl _ w).alloc (Nat.le_refl _) _).alloc (by simp) _).alloc (by simp; omega) _).alloc (by simp; omega) _⟩
  clear hG
  go_enter Tryd.func5, Tryd.ntmps5
  go_wp2_with fail
  refine (HS.out _ HE.out.glob).mono ?_
  rintro e w2 ⟨rfl, hb⟩
  have HB2 := Seal.mk (HB.out.trans (hb.mono HB.out.size))
  have HE2 := Seal.mk (HE.out.below hb)
  clear hb HB HE
  have HB := HB2
  have HE := HE2
  clear HB2 HE2
  have RA := Seal.mk (HE.out.keep (w.heap.size, .cells CA.toArray 29) (by simp))
  have RB := Seal.mk (HE.out.keep (w.heap.size + 1, .cells CB.toArray 29) (by simp))
  have RC := Seal.mk (HE.out.keep (w.heap.size + 1 + 1, .cells CC.toArray 29) (by simp))
  go_wp2_with (first | (refine wpList_load_row_g (by kernel_rfl) 29 (.tmp 4) rfl w.heap.size rfl 29 CA.toArray (0, 0) _ RA.out Tryd.underlying29 rfl IA.out ?_) | (refine wpList_load_row_g (by kernel_rfl) 29 (.tmp 5) rfl (w.heap.size + 1) rfl 29 CB.toArray (0, 0) _ RB.out Tryd.underlying29 rfl IB.out ?_) | (refine wpList_load_row_g (by kernel_rfl) 29 (.tmp 6) rfl (w.heap.size + 1 + 1) rfl 29 CC.toArray (0, 0) _ RC.out Tryd.underlying29 rfl IC.out ?_))
  refine (KAB.out _).mono ?_
  rintro e w3 ⟨rfl, hb⟩
  clear RA RB RC
  have HB2 := Seal.mk (HB.out.trans (hb.mono HB.out.size))
  have HE2 := Seal.mk (HE.out.below hb)
  clear hb HB HE
  have HB := HB2
  have HE := HE2
  clear HB2 HE2
  have RA := Seal.mk (HE.out.keep (w.heap.size, .cells CA.toArray 29) (by simp))
  have RB := Seal.mk (HE.out.keep (w.heap.size + 1, .cells CB.toArray 29) (by simp))
  have RC := Seal.mk (HE.out.keep (w.heap.size + 1 + 1, .cells CC.toArray 29) (by simp))
  have s0 : w3.cell? ⟨w.heap.size + 1 + 1 + 1, 0, none⟩ = some (.int .i64 s1) := HE.out.cell (cs := #[.int .i64 s1, .int .i64 s2]) (t := 27) (by simp) rfl
  have s1' : w3.cell? ⟨w.heap.size + 1 + 1 + 1, 1, none⟩ = some (.int .i64 s2) := HE.out.cell (cs := #[.int .i64 s1, .int .i64 s2]) (t := 27) (by simp) rfl
  have hlt3 : w.heap.size + 1 + 1 + 1 < w3.heap.size := HE.out.lt (g := w.heap.size + 1 + 1 + 1) (o := .cells #[.int .i64 s1, .int .i64 s2] 27) (by simp)
  have n8 := heap_alloc_new w3 (.cells CA.toArray 29)
  have k40 : (w3.alloc (.cells CA.toArray 29)).cell? ⟨w3.heap.size, 40, none⟩ = some (.int .i64 a.E) := by rw [cell_of_row _ _ _ _ _ _ n8]; exact KX.out.1
  have f40 : (w3.alloc (.cells CA.toArray 29)).frozen? ⟨w3.heap.size, 40, none⟩ = false := frozen_of_row _ _ _ _ _ n8
  have n9 := heap_alloc_new w3 (.cells (CA.set 40 (.int .i64 s1)).toArray 29)
  have k42 : (w3.alloc (.cells (CA.set 40 (.int .i64 s1)).toArray 29)).cell? ⟨w3.heap.size, 41, none⟩ = some (.int .i64 a.S) := by
    rw [cell_of_row _ _ _ _ _ _ n9]
    have := KX.out.2
    simpa using this
  have f42 : (w3.alloc (.cells (CA.set 40 (.int .i64 s1)).toArray 29)).frozen? ⟨w3.heap.size, 41, none⟩ = false := frozen_of_row _ _ _ _ _ n9
  have g0 := cell_allocd s0 (.cells CA.toArray 29)
  have g1 := cell_allocd s1' (.cells CA.toArray 29)
  clear n8 n9
  go_upto_region 5 with (first | (refine wpList_store_new rfl 29 (.tmp 10) (.tmp 16) rfl (.int .i64 0 :: .int .i64 0 :: .int .i64 0 :: .int .i64 0 :: .int .i64 0 :: .int .i64 0 :: .int .i64 0 :: .int .u8 0 :: .int .u8 0 :: .int .u8 0 :: .int .u8 0 :: .int .u8 0 :: .int .u8 0 :: .int .u8 0 :: .int .u8 0 :: .int .u8 0 :: .int .u8 0 :: .int .u8 0 :: .int .u8 0 :: .int .u8 0 :: .int .u8 0 :: .int .u8 0 :: .int .u8 0 :: .int .u8 0 :: .int .u8 0 :: .int .u8 0 :: .int .u8 0 :: .int .u8 0 :: .int .u8 0 :: .int .u8 0 :: .int .u8 0 :: .int .u8 0 :: .int .u8 0 :: .int .u8 0 :: .int .u8 0 :: .int .u8 0 :: .int .u8 0 :: .int .u8 0 :: .int .u8 0 :: .int .i64 0 :: .int .i64 0 :: .int .i64 0 :: [] : List Value) CA 29 rfl rfl IAl.out LA.out OA.out ?_) | (refine wpList_load_row_g (by kernel_rfl) 29 (.tmp 4) rfl w.heap.size rfl 29 CA.toArray (0, 0) _ RA.out Tryd.underlying29 rfl IA.out ?_) | (refine wpList_load_row_g (by kernel_rfl) 29 (.tmp 5) rfl (w.heap.size + 1) rfl 29 CB.toArray (0, 0) _ RB.out Tryd.underlying29 rfl IB.out ?_) | (refine wpList_load_row_g (by kernel_rfl) 29 (.tmp 6) rfl (w.heap.size + 1 + 1) rfl 29 CC.toArray (0, 0) _ RC.out Tryd.underlying29 rfl IC.out ?_))
  go_upto_region 6 with (fail)
  rw [U.out]
  clear k40 k42 f40 f42 g0 g1 s0 s1' RA RB RC
  obtain ⟨Z, hZ⟩ : ∃ Z, Z = w3.alloc (.cells CD.toArray 29) := ⟨_, rfl⟩
  have HE2 := Seal.mk (HE.out.push (.cells CD.toArray 29))
  have HB2 := Seal.mk (HB.out.alloc HB.out.size (.cells CD.toArray 29))
  rw [← hZ] at HE2 HB2 ⊢
  clear hZ HE HB hlt3
  have HE := HE2
  have HB := HB2
  clear HE2 HB2
  cases t with
  | false =>
    have RA := Seal.mk (HE.out.keep (w.heap.size, .cells CA.toArray 29) (by simp))
    have RB := Seal.mk (HE.out.keep (w.heap.size + 1, .cells CB.toArray 29) (by simp))
    have RC := Seal.mk (HE.out.keep (w.heap.size + 1 + 1, .cells CC.toArray 29) (by simp))
    have RD := Seal.mk (HE.out.keep (w3.heap.size, .cells CD.toArray 29) (by simp))
    go_wp2_with (first | (refine wpList_load_row_g (by kernel_rfl) 29 (.tmp 4) rfl w.heap.size rfl 29 CA.toArray (0, 0) _ RA.out Tryd.underlying29 rfl IA.out ?_) | (refine wpList_load_row_g (by kernel_rfl) 29 (.tmp 5) rfl (w.heap.size + 1) rfl 29 CB.toArray (0, 0) _ RB.out Tryd.underlying29 rfl IB.out ?_) | (refine wpList_load_row_g (by kernel_rfl) 29 (.tmp 6) rfl (w.heap.size + 1 + 1) rfl 29 CC.toArray (0, 0) _ RC.out Tryd.underlying29 rfl IC.out ?_) | (refine wpList_load_row_g (by kernel_rfl) 29 (.tmp 10) rfl w3.heap.size rfl 29 CD.toArray (0, 0) _ RD.out Tryd.underlying29 rfl ID.out ?_))
    refine (KBA.out _).mono ?_
    rintro e z1 ⟨rfl, hb⟩
    clear RA RB RC RD
    have HB2 := Seal.mk (HB.out.trans (hb.mono HB.out.size))
    have HE2 := Seal.mk (HE.out.below hb)
    clear hb HB HE
    have HB := HB2
    have HE := HE2
    clear HB2 HE2
    have RA := Seal.mk (HE.out.keep (w.heap.size, .cells CA.toArray 29) (by simp))
    have RB := Seal.mk (HE.out.keep (w.heap.size + 1, .cells CB.toArray 29) (by simp))
    have RC := Seal.mk (HE.out.keep (w.heap.size + 1 + 1, .cells CC.toArray 29) (by simp))
    have RD := Seal.mk (HE.out.keep (w3.heap.size, .cells CD.toArray 29) (by simp))
    go_wp2_with (first | (refine wpList_load_row_g (by kernel_rfl) 29 (.tmp 4) rfl w.heap.size rfl 29 CA.toArray (0, 0) _ RA.out Tryd.underlying29 rfl IA.out ?_) | (refine wpList_load_row_g (by kernel_rfl) 29 (.tmp 5) rfl (w.heap.size + 1) rfl 29 CB.toArray (0, 0) _ RB.out Tryd.underlying29 rfl IB.out ?_) | (refine wpList_load_row_g (by kernel_rfl) 29 (.tmp 6) rfl (w.heap.size + 1 + 1) rfl 29 CC.toArray (0, 0) _ RC.out Tryd.underlying29 rfl IC.out ?_) | (refine wpList_load_row_g (by kernel_rfl) 29 (.tmp 10) rfl w3.heap.size rfl 29 CD.toArray (0, 0) _ RD.out Tryd.underlying29 rfl ID.out ?_))
    refine (KDB.out _).mono ?_
    rintro e z2 ⟨rfl, hb⟩
    clear RA RB RC RD
    have HB2 := Seal.mk (HB.out.trans (hb.mono HB.out.size))
    have HE2 := Seal.mk (HE.out.below hb)
    clear hb HB HE
    have HB := HB2
    have HE := HE2
    clear HB2 HE2
    have RA := Seal.mk (HE.out.keep (w.heap.size, .cells CA.toArray 29) (by simp))
    have RB := Seal.mk (HE.out.keep (w.heap.size + 1, .cells CB.toArray 29) (by simp))
    have RC := Seal.mk (HE.out.keep (w.heap.size + 1 + 1, .cells CC.toArray 29) (by simp))
    have RD := Seal.mk (HE.out.keep (w3.heap.size, .cells CD.toArray 29) (by simp))
    go_wp2_with (first | (refine wpList_load_row_g (by kernel_rfl) 29 (.tmp 4) rfl w.heap.size rfl 29 CA.toArray (0, 0) _ RA.out Tryd.underlying29 rfl IA.out ?_) | (refine wpList_load_row_g (by kernel_rfl) 29 (.tmp 5) rfl (w.heap.size + 1) rfl 29 CB.toArray (0, 0) _ RB.out Tryd.underlying29 rfl IB.out ?_) | (refine wpList_load_row_g (by kernel_rfl) 29 (.tmp 6) rfl (w.heap.size + 1 + 1) rfl 29 CC.toArray (0, 0) _ RC.out Tryd.underlying29 rfl IC.out ?_) | (refine wpList_load_row_g (by kernel_rfl) 29 (.tmp 10) rfl w3.heap.size rfl 29 CD.toArray (0, 0) _ RD.out Tryd.underlying29 rfl ID.out ?_))
    refine (KAD.out _).mono ?_
    rintro e z3 ⟨rfl, hb⟩
    clear RA RB RC RD
    have HB2 := Seal.mk (HB.out.trans (hb.mono HB.out.size))
    have HE2 := Seal.mk (HE.out.below hb)
    clear hb HB HE
    have HB := HB2
    have HE := HE2
    clear HB2 HE2
    have RA := Seal.mk (HE.out.keep (w.heap.size, .cells CA.toArray 29) (by simp))
    have RB := Seal.mk (HE.out.keep (w.heap.size + 1, .cells CB.toArray 29) (by simp))
    have RC := Seal.mk (HE.out.keep (w.heap.size + 1 + 1, .cells CC.toArray 29) (by simp))
    have RD := Seal.mk (HE.out.keep (w3.heap.size, .cells CD.toArray 29) (by simp))
    go_wp2
    go_ret
    exact ⟨rfl, HB.out⟩
  | true =>
    have e1 := (P1.out rfl).2.1
    have e2 := (P1.out rfl).2.2
    have heq1 : ∀ W, (Op.equalIn 10000 23 (.agg #[.int .i64 a.L, .int .i64 a.A, .int .i64 a.R]) (.agg #[.int .i64 b.L, .int .i64 b.A, .int .i64 b.R])).run Tryd.prog W = .ok true W := fun W => by
      rw [show (10000 : Nat) = 9998 + 1 + 1 from rfl, eqRun_at, (P1.out rfl).1.1, (P1.out rfl).1.2.1, (P1.out rfl).1.2.2]; simp
    have hx1 : (a.leg != b.leg) = false := by rw [e1]; simp
    have hx2 : (a.fr != b.fr) = false := by rw [e2]; simp
    clear e1 e2
    have RA := Seal.mk (HE.out.keep (w.heap.size, .cells CA.toArray 29) (by simp))
    have RB := Seal.mk (HE.out.keep (w.heap.size + 1, .cells CB.toArray 29) (by simp))
    have RC := Seal.mk (HE.out.keep (w.heap.size + 1 + 1, .cells CC.toArray 29) (by simp))
    have RD := Seal.mk (HE.out.keep (w3.heap.size, .cells CD.toArray 29) (by simp))
    go_wp2_with (first | (refine wpList_load_row_g (by kernel_rfl) 29 (.tmp 4) rfl w.heap.size rfl 29 CA.toArray (0, 0) _ RA.out Tryd.underlying29 rfl IA.out ?_) | (refine wpList_load_row_g (by kernel_rfl) 29 (.tmp 5) rfl (w.heap.size + 1) rfl 29 CB.toArray (0, 0) _ RB.out Tryd.underlying29 rfl IB.out ?_) | (refine wpList_load_row_g (by kernel_rfl) 29 (.tmp 6) rfl (w.heap.size + 1 + 1) rfl 29 CC.toArray (0, 0) _ RC.out Tryd.underlying29 rfl IC.out ?_) | (refine wpList_load_row_g (by kernel_rfl) 29 (.tmp 10) rfl w3.heap.size rfl 29 CD.toArray (0, 0) _ RD.out Tryd.underlying29 rfl ID.out ?_))
    refine (KBA.out _).mono ?_
    rintro e z1 ⟨rfl, hb⟩
    clear RA RB RC RD
    have HB2 := Seal.mk (HB.out.trans (hb.mono HB.out.size))
    have HE2 := Seal.mk (HE.out.below hb)
    clear hb HB HE
    have HB := HB2
    have HE := HE2
    clear HB2 HE2
    have RA := Seal.mk (HE.out.keep (w.heap.size, .cells CA.toArray 29) (by simp))
    have RB := Seal.mk (HE.out.keep (w.heap.size + 1, .cells CB.toArray 29) (by simp))
    have RC := Seal.mk (HE.out.keep (w.heap.size + 1 + 1, .cells CC.toArray 29) (by simp))
    have RD := Seal.mk (HE.out.keep (w3.heap.size, .cells CD.toArray 29) (by simp))
    go_wp2_with (first | (refine wpList_load_row_g (by kernel_rfl) 29 (.tmp 4) rfl w.heap.size rfl 29 CA.toArray (0, 0) _ RA.out Tryd.underlying29 rfl IA.out ?_) | (refine wpList_load_row_g (by kernel_rfl) 29 (.tmp 5) rfl (w.heap.size + 1) rfl 29 CB.toArray (0, 0) _ RB.out Tryd.underlying29 rfl IB.out ?_) | (refine wpList_load_row_g (by kernel_rfl) 29 (.tmp 6) rfl (w.heap.size + 1 + 1) rfl 29 CC.toArray (0, 0) _ RC.out Tryd.underlying29 rfl IC.out ?_) | (refine wpList_load_row_g (by kernel_rfl) 29 (.tmp 10) rfl w3.heap.size rfl 29 CD.toArray (0, 0) _ RD.out Tryd.underlying29 rfl ID.out ?_))
    refine (KDB.out _).mono ?_
    rintro e z2 ⟨rfl, hb⟩
    clear RA RB RC RD
    have HB2 := Seal.mk (HB.out.trans (hb.mono HB.out.size))
    have HE2 := Seal.mk (HE.out.below hb)
    clear hb HB HE
    have HB := HB2
    have HE := HE2
    clear HB2 HE2
    have RA := Seal.mk (HE.out.keep (w.heap.size, .cells CA.toArray 29) (by simp))
    have RB := Seal.mk (HE.out.keep (w.heap.size + 1, .cells CB.toArray 29) (by simp))
    have RC := Seal.mk (HE.out.keep (w.heap.size + 1 + 1, .cells CC.toArray 29) (by simp))
    have RD := Seal.mk (HE.out.keep (w3.heap.size, .cells CD.toArray 29) (by simp))
    go_wp2_with (first | (refine wpList_load_row_g (by kernel_rfl) 29 (.tmp 4) rfl w.heap.size rfl 29 CA.toArray (0, 0) _ RA.out Tryd.underlying29 rfl IA.out ?_) | (refine wpList_load_row_g (by kernel_rfl) 29 (.tmp 5) rfl (w.heap.size + 1) rfl 29 CB.toArray (0, 0) _ RB.out Tryd.underlying29 rfl IB.out ?_) | (refine wpList_load_row_g (by kernel_rfl) 29 (.tmp 6) rfl (w.heap.size + 1 + 1) rfl 29 CC.toArray (0, 0) _ RC.out Tryd.underlying29 rfl IC.out ?_) | (refine wpList_load_row_g (by kernel_rfl) 29 (.tmp 10) rfl w3.heap.size rfl 29 CD.toArray (0, 0) _ RD.out Tryd.underlying29 rfl ID.out ?_))
    refine (KAD.out _).mono ?_
    rintro e z3 ⟨rfl, hb⟩
    clear RA RB RC RD
    have HB2 := Seal.mk (HB.out.trans (hb.mono HB.out.size))
    have HE2 := Seal.mk (HE.out.below hb)
    clear hb HB HE
    have HB := HB2
    have HE := HE2
    clear HB2 HE2
    have RA := Seal.mk (HE.out.keep (w.heap.size, .cells CA.toArray 29) (by simp))
    have RB := Seal.mk (HE.out.keep (w.heap.size + 1, .cells CB.toArray 29) (by simp))
    have RC := Seal.mk (HE.out.keep (w.heap.size + 1 + 1, .cells CC.toArray 29) (by simp))
    have RD := Seal.mk (HE.out.keep (w3.heap.size, .cells CD.toArray 29) (by simp))
    go_wp2_with (first | (refine wpList_load_row_g (by kernel_rfl) 29 (.tmp 4) rfl w.heap.size rfl 29 CA.toArray (0, 0) _ RA.out Tryd.underlying29 rfl IA.out ?_) | (refine wpList_load_row_g (by kernel_rfl) 29 (.tmp 5) rfl (w.heap.size + 1) rfl 29 CB.toArray (0, 0) _ RB.out Tryd.underlying29 rfl IB.out ?_) | (refine wpList_load_row_g (by kernel_rfl) 29 (.tmp 6) rfl (w.heap.size + 1 + 1) rfl 29 CC.toArray (0, 0) _ RC.out Tryd.underlying29 rfl IC.out ?_) | (refine wpList_load_row_g (by kernel_rfl) 29 (.tmp 10) rfl w3.heap.size rfl 29 CD.toArray (0, 0) _ RD.out Tryd.underlying29 rfl ID.out ?_))
    refine (FA.out (by trivial) _).mono ?_
    rintro e z4 ⟨rfl, hb⟩
    clear RA RB RC RD
    have HB2 := Seal.mk (HB.out.trans (hb.mono HB.out.size))
    have HE2 := Seal.mk (HE.out.below hb)
    clear hb HB HE
    have HB := HB2
    have HE := HE2
    clear HB2 HE2
    have RA := Seal.mk (HE.out.keep (w.heap.size, .cells CA.toArray 29) (by simp))
    have RB := Seal.mk (HE.out.keep (w.heap.size + 1, .cells CB.toArray 29) (by simp))
    have RC := Seal.mk (HE.out.keep (w.heap.size + 1 + 1, .cells CC.toArray 29) (by simp))
    have RD := Seal.mk (HE.out.keep (w3.heap.size, .cells CD.toArray 29) (by simp))
    go_wp2_with (first | (refine wpList_load_row_g (by kernel_rfl) 29 (.tmp 4) rfl w.heap.size rfl 29 CA.toArray (0, 0) _ RA.out Tryd.underlying29 rfl IA.out ?_) | (refine wpList_load_row_g (by kernel_rfl) 29 (.tmp 5) rfl (w.heap.size + 1) rfl 29 CB.toArray (0, 0) _ RB.out Tryd.underlying29 rfl IB.out ?_) | (refine wpList_load_row_g (by kernel_rfl) 29 (.tmp 6) rfl (w.heap.size + 1 + 1) rfl 29 CC.toArray (0, 0) _ RC.out Tryd.underlying29 rfl IC.out ?_) | (refine wpList_load_row_g (by kernel_rfl) 29 (.tmp 10) rfl w3.heap.size rfl 29 CD.toArray (0, 0) _ RD.out Tryd.underlying29 rfl ID.out ?_))
    refine (FB.out (by trivial) _).mono ?_
    rintro e z5 ⟨rfl, hb⟩
    clear RA RB RC RD
    have HB2 := Seal.mk (HB.out.trans (hb.mono HB.out.size))
    have HE2 := Seal.mk (HE.out.below hb)
    clear hb HB HE
    have HB := HB2
    have HE := HE2
    clear HB2 HE2
    have RA := HE.out.keep (w.heap.size, .cells CA.toArray 29) (by simp)
    have RB := HE.out.keep (w.heap.size + 1, .cells CB.toArray 29) (by simp)
    have RC := HE.out.keep (w.heap.size + 1 + 1, .cells CC.toArray 29) (by simp)
    rw [HC.out.1] at RA
    rw [HC.out.2.1] at RB
    rw [HC.out.2.2.1] at RC
    obtain ⟨a0, a1, a2, a3, a4, _, _, _, _, _, _⟩ := hdAt_of HK.out.1 RA
    obtain ⟨b0, b1, b2, b3, b4, _, _, _, _, _, _⟩ := hdAt_of HK.out.2.1 RB
    obtain ⟨d0, d1, d2, d3, d4, _, _, _, _, _, _⟩ := hdAt_of HK.out.2.2 RC
    rw [← HC.out.1] at RA
    rw [← HC.out.2.1] at RB
    rw [← HC.out.2.2.1] at RC
    have RA := Seal.mk RA
    have RB := Seal.mk RB
    have RC := Seal.mk RC
    have RD := Seal.mk (HE.out.keep (w3.heap.size, .cells CD.toArray 29) (by simp))
    go_wp2_with (first | (refine wpList_load_row_g (by kernel_rfl) 29 (.tmp 4) rfl w.heap.size rfl 29 CA.toArray (0, 0) _ RA.out Tryd.underlying29 rfl IA.out ?_) | (refine wpList_load_row_g (by kernel_rfl) 29 (.tmp 5) rfl (w.heap.size + 1) rfl 29 CB.toArray (0, 0) _ RB.out Tryd.underlying29 rfl IB.out ?_) | (refine wpList_load_row_g (by kernel_rfl) 29 (.tmp 6) rfl (w.heap.size + 1 + 1) rfl 29 CC.toArray (0, 0) _ RC.out Tryd.underlying29 rfl IC.out ?_) | (refine wpList_load_row_g (by kernel_rfl) 29 (.tmp 10) rfl w3.heap.size rfl 29 CD.toArray (0, 0) _ RD.out Tryd.underlying29 rfl ID.out ?_))
    cases fc with
    | false =>
      refine (FC.out _).mono ?_
      rintro e z6 ⟨rfl, hb⟩
      have HB6 := Seal.mk (HB.out.trans (hb.mono HB.out.size))
      go_wp2
      go_ret
      exact ⟨rfl, HB6.out⟩
    | true =>
      refine (FC.out _).mono ?_
      rintro e z6 ⟨rfl, hb⟩
      clear a0 a1 a2 a3 a4 b0 b1 b2 b3 b4 d0 d1 d2 d3 d4 RA RB RC RD heq1 hx1 hx2
      have HB2 := Seal.mk (HB.out.trans (hb.mono HB.out.size))
      have HE2 := Seal.mk (HE.out.below hb)
      clear hb HB HE
      have HB := HB2
      have HE := HE2
      clear HB2 HE2
      have RA := HE.out.keep (w.heap.size, .cells CA.toArray 29) (by simp)
      have RB := HE.out.keep (w.heap.size + 1, .cells CB.toArray 29) (by simp)
      have RC := HE.out.keep (w.heap.size + 1 + 1, .cells CC.toArray 29) (by simp)
      rw [HC.out.1] at RA
      rw [HC.out.2.1] at RB
      rw [HC.out.2.2.1] at RC
      obtain ⟨a0, a1, a2, a3, a4, _, _, _, _, _, _⟩ := hdAt_of HK.out.1 RA
      obtain ⟨b0, b1, b2, b3, b4, _, _, _, _, _, _⟩ := hdAt_of HK.out.2.1 RB
      obtain ⟨d0, d1, d2, d3, d4, _, _, _, _, _, _⟩ := hdAt_of HK.out.2.2 RC
      rw [← HC.out.1] at RA
      rw [← HC.out.2.1] at RB
      rw [← HC.out.2.2.1] at RC
      have RA := Seal.mk RA
      have RB := Seal.mk RB
      have RC := Seal.mk RC
      by_cases r1 : c.L = a.L ∧ c.A = a.A ∧ c.R = a.R
      · have heq2 : ∀ W, (Op.equalIn 10000 23 (.agg #[.int .i64 c.L, .int .i64 c.A, .int .i64 c.R]) (.agg #[.int .i64 a.L, .int .i64 a.A, .int .i64 a.R])).run Tryd.prog W = .ok true W := fun W => by
          rw [show (10000 : Nat) = 9998 + 1 + 1 from rfl, eqRun_at, r1.1, r1.2.1, r1.2.2]; simp
        by_cases l1 : c.leg = a.leg
        · have hx1 : (c.leg != a.leg) = false := by rw [l1]; simp
          by_cases f1 : c.fr = a.fr
          · have hx2 : (c.fr != a.fr) = false := by rw [f1]; simp
            have P3 : Seal (t1 = false → t2 = true) := ⟨P2.out (by trivial) (by trivial) r1 l1 f1⟩
            clear r1 l1 f1 P2
            go_wp2_with (first | (refine wpList_load_row_g (by kernel_rfl) 29 (.tmp 4) rfl w.heap.size rfl 29 CA.toArray (0, 0) _ RA.out Tryd.underlying29 rfl IA.out ?_) | (refine wpList_load_row_g (by kernel_rfl) 29 (.tmp 5) rfl (w.heap.size + 1) rfl 29 CB.toArray (0, 0) _ RB.out Tryd.underlying29 rfl IB.out ?_) | (refine wpList_load_row_g (by kernel_rfl) 29 (.tmp 6) rfl (w.heap.size + 1 + 1) rfl 29 CC.toArray (0, 0) _ RC.out Tryd.underlying29 rfl IC.out ?_))
            refine (KAC.out _).mono ?_
            rintro e z7 ⟨rfl, hb⟩
            clear a0 a1 a2 a3 a4 b0 b1 b2 b3 b4 d0 d1 d2 d3 d4 RA RB RC heq2 hx1 hx2
            have HB2 := Seal.mk (HB.out.trans (hb.mono HB.out.size))
            have HE2 := Seal.mk (HE.out.below hb)
            clear hb HB HE
            have HB := HB2
            have HE := HE2
            clear HB2 HE2
            cases t1 with
            | true =>
              go_wp2
              go_ret
              exact ⟨rfl, HB.out⟩
            | false =>
              have ht2 := P3.out rfl
              subst ht2
              have RA := Seal.mk (HE.out.keep (w.heap.size, .cells CA.toArray 29) (by simp))
              have RB := Seal.mk (HE.out.keep (w.heap.size + 1, .cells CB.toArray 29) (by simp))
              have RC := Seal.mk (HE.out.keep (w.heap.size + 1 + 1, .cells CC.toArray 29) (by simp))
              go_wp2_with (first | (refine wpList_load_row_g (by kernel_rfl) 29 (.tmp 4) rfl w.heap.size rfl 29 CA.toArray (0, 0) _ RA.out Tryd.underlying29 rfl IA.out ?_) | (refine wpList_load_row_g (by kernel_rfl) 29 (.tmp 5) rfl (w.heap.size + 1) rfl 29 CB.toArray (0, 0) _ RB.out Tryd.underlying29 rfl IB.out ?_) | (refine wpList_load_row_g (by kernel_rfl) 29 (.tmp 6) rfl (w.heap.size + 1 + 1) rfl 29 CC.toArray (0, 0) _ RC.out Tryd.underlying29 rfl IC.out ?_))
              refine (KCB.out _).mono ?_
              rintro e z8 ⟨rfl, hb⟩
              have HB8 := Seal.mk (HB.out.trans (hb.mono HB.out.size))
              clear hb
              go_wp2
              go_ret
              exact ⟨rfl, HB8.out⟩
          · have hx2 : (c.fr != a.fr) = true := by simp [f1]
            clear r1 l1
            go_wp2
            go_ret
            exact ⟨rfl, HB.out⟩
        · have hx1 : (c.leg != a.leg) = true := by simp [l1]
          clear r1
          go_wp2
          go_ret
          exact ⟨rfl, HB.out⟩
      · have heq2 : ∀ W, (Op.equalIn 10000 23 (.agg #[.int .i64 c.L, .int .i64 c.A, .int .i64 c.R]) (.agg #[.int .i64 a.L, .int .i64 a.A, .int .i64 a.R])).run Tryd.prog W = .ok false W := fun W => by
          rw [show (10000 : Nat) = 9998 + 1 + 1 from rfl, eqRun_at]
          congr 1
          rw [← Bool.not_eq_true]
          simp only [Bool.and_eq_true, beq_iff_eq]
          exact r1
        clear r1
        go_wp2
        go_ret
        exact ⟨rfl, HB.out⟩

theorem law_handoverClash (a b c : Hd) (s1 s2 : Int) (w : World) (hG : Glob w) (ka : a.ok) (kb : b.ok) (kc : c.ok) :
    Calls Tryd.prog 5 #[.agg a.C.toArray, .agg b.C.toArray, .agg c.C.toArray, .agg #[.int .i64 s1, .int .i64 s2]] w fun e w' => e = .returned (.bool true) ∧ Below w.heap.size w w' := by
  have p : clB a b = true → a.fm = true ∧ b.fm = true ∧ slB a b = true := fun h => by
    unfold clB at h
    simp only [Bool.and_eq_true] at h
    exact ⟨h.1, h.2.1, h.2.2.1⟩
  exact handover_clash a b c s1 s2 (clB a b) (clB a c) (clB c b) c.fm a.C b.C c.C (a.sg s1 s2).C w hG ⟨rfl, rfl, rfl, rfl⟩ ⟨ka.t32, kb.t32, kc.t32⟩
    ⟨fun W g => hsane_any W g⟩ ⟨fun W => hclash_any a b W ka.t32 kb.t32⟩
    ⟨fun W => by rw [clB_comm a b]; exact hclash_any b a W kb.t32 ka.t32⟩
    ⟨fun W => hclash_any (a.sg s1 s2) b W ka.t32 kb.t32⟩
    ⟨fun W => by have := hclash_any a (a.sg s1 s2) W ka.t32 ka.t32; rwa [clB_self] at this⟩
    ⟨fun W => hclash_any a c W ka.t32 kc.t32⟩ ⟨fun W => hclash_any c b W kc.t32 kb.t32⟩
    ⟨fun h W => by have := rformed_any a W ka.t32; rwa [(p h).1] at this⟩
    ⟨fun h W => by have := rformed_any b W kb.t32; rwa [(p h).2.1] at this⟩
    ⟨fun W => rformed_any c W kc.t32⟩
    ⟨fun h => (slB_iff a b).1 (p h).2.2⟩
    ⟨fun h hc hr hl hf h1 => clB_third h hc ((slB_iff c a).2 ⟨hr, hl, hf⟩) h1⟩
end Frk
