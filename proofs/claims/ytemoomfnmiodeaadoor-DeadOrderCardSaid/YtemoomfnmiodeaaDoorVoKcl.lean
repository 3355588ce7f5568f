/- Law 45: collected. -/
import Derived.Test.YtemoomfnmiodeaaDoorVogKsh
namespace Frk
open Go Go.RowKit Go.Proofs
set_option maxRecDepth 100000

theorem keepL_ok {X : List Ltr} {x : Ltr} (hX : ∀ y ∈ X, y.ok) (hx : x.ok) : ∀ y ∈ keepL X x, y.ok := fun y hy => by
  unfold keepL at hy
  split at hy
  · rcases mem_insK.1 hy with rfl | h
    · exact hx
    · exact hX y h
  · cases hy
/-- what collected returns -/
def ColPost (r : Option (List Ltr)) (w : World) (e : Ending) (w' : World) : Prop :=
  ∃ a n c, e = .returned (.tuple #[.slice a n c, .bool r.isSome]) ∧ Seal (IsC Ltr.C 38 w' a n c (r.getD []) ∧ ∀ x ∈ r.getD [], x.ok) ∧ Below w.heap.size w w'

set_option maxHeartbeats 4000000 in
theorem kcol_any (a : Option Addr) (n c : Nat) (l : List Ltr) (w : World) (hG : Glob w) (hd : IsC Ltr.C 38 w a n c l) (hok : ∀ x ∈ l, x.ok) :
    Calls Tryd.prog 20 #[.slice a n c] w (ColPost (colF [] l) w) := by
  obtain ⟨R, hR⟩ : ∃ R, R = colF [] l := ⟨_, rfl⟩
  rw [← hR]
  have HGl : Seal (∀ W, Below w.heap.size w W → Glob W) := ⟨fun W h => hG.below h⟩
  have HD : Seal (∀ W, Below w.heap.size w W → IsC Ltr.C 38 W a n c l) := ⟨fun W h => hd.below h⟩
  have HOK := Seal.mk hok
  have HRR := Seal.mk hR
  have hll := hd.llen
  have hlm := hd.lmax
  have ut := Tryd.underlying45
  clear hG hd hok hR
  go_enter Tryd.func20, Tryd.ntmps20
  go_wp2
  go_loopw [2, 10] (fun i2 i10 wr => ∃ (k m d : Nat) (b : Option Addr), k ≤ n ∧ i2 = .slice b m d ∧ i10 = .int .i64 k ∧ Seal (Below w.heap.size w wr ∧ ∃ X, IsC Ltr.C 38 wr b m d X ∧ (∀ x ∈ X, x.ok) ∧ colF X (l.drop k) = R)) (fun _ i _ => n - (intOf i).toNat)
  case atStart => exact ⟨0, 0, 0, none, by omega, rfl, rfl, ⟨Below.refl _ _, [], isC_nilK _, by simp, by rw [List.drop_zero]; exact HRR.out.symm⟩⟩
  case round =>
    obtain ⟨wo, rfl⟩ : ∃ z, z = wr := ⟨_, rfl⟩
    obtain ⟨k, m, d, b, hk, rfl, rfl, hH⟩ := hrel
    obtain ⟨X, hX, hXok, hcol⟩ := hH.out.2
    by_cases hlt : k < n
    · obtain ⟨x, hx⟩ : ∃ x, l[k]? = some x := ⟨_, List.getElem?_eq_getElem (by omega)⟩
      have HDw := HD.out wo hH.out.1
      rcases HDw.at_ with h0 | ⟨g, off, rfl, hr, hg⟩
      · omega
      have rX := rangeC_row hr HDw.each hx
      have ox := HOK.out x (List.mem_of_getElem? hx)
      have q5 : (k : Int) < (n : Int) := by omega
      have q6 : (0 : Int) ≤ (k : Int) := by omega
      obtain ⟨C, hC⟩ : ∃ C, C = x.C := ⟨_, rfl⟩
      have IX : Seal ((Tryd.prog.info? 45).map (·.size) = some C.length ∧ ((List.toArray (.int .i64 0 :: .int .i64 0 :: .int .i64 0 :: .int .i64 0 :: .int .i64 0 :: .int .i64 0 :: .int .u8 0 :: .int .u8 0 :: .int .u8 0 :: .int .u8 0 :: .int .u8 0 :: .int .u8 0 :: .int .u8 0 :: .int .u8 0 :: .int .u8 0 :: .int .u8 0 :: .int .u8 0 :: .int .u8 0 :: .int .u8 0 :: .int .u8 0 :: .int .u8 0 :: .int .u8 0 :: .int .u8 0 :: .int .u8 0 :: .int .u8 0 :: .int .u8 0 :: .int .u8 0 :: .int .u8 0 :: .int .u8 0 :: .int .u8 0 :: .int .u8 0 :: .int .u8 0 :: .int .u8 0 :: .int .u8 0 :: .int .u8 0 :: .int .u8 0 :: .int .u8 0 :: .int .u8 0 :: [] : List Value) : Array Value) : Array Value).size = C.toArray.size ∧ C.toArray.all (·.oneCell') = true) := ⟨by rw [hC]; exact Ltr.info ox.t32, by rw [hC, ktzz_len, List.size_toArray, Ltr.C_len ox.t32], by rw [hC]; exact all_oneCell_toArray (Ltr.C_one _)⟩
      rw [← hC] at rX
      obtain ⟨V, gd, hgd, n1, n2, n3, n4, n5, n6⟩ := newv wo (List.toArray (.int .i64 0 :: .int .i64 0 :: .int .i64 0 :: .int .i64 0 :: .int .i64 0 :: .int .i64 0 :: .int .u8 0 :: .int .u8 0 :: .int .u8 0 :: .int .u8 0 :: .int .u8 0 :: .int .u8 0 :: .int .u8 0 :: .int .u8 0 :: .int .u8 0 :: .int .u8 0 :: .int .u8 0 :: .int .u8 0 :: .int .u8 0 :: .int .u8 0 :: .int .u8 0 :: .int .u8 0 :: .int .u8 0 :: .int .u8 0 :: .int .u8 0 :: .int .u8 0 :: .int .u8 0 :: .int .u8 0 :: .int .u8 0 :: .int .u8 0 :: .int .u8 0 :: .int .u8 0 :: .int .u8 0 :: .int .u8 0 :: .int .u8 0 :: .int .u8 0 :: .int .u8 0 :: .int .u8 0 :: [] : List Value) : Array Value) C 45
      have HV : Seal (Below w.heap.size w V) := ⟨hH.out.1.trans (n4.mono hH.out.1.size)⟩
      obtain ⟨E, hE⟩ : ∃ e, e = keepE X x := ⟨_, rfl⟩
      obtain ⟨L, hL⟩ : ∃ e, e = keepL X x := ⟨_, rfl⟩
      have hk1 : Calls Tryd.prog 11 #[.slice b m d, .agg C.toArray] V (KeptPost L E V) := by
        rw [hC, hL, hE]
        exact kkeep_any b m d X x V (HGl.out _ HV.out) (hX.below n4) hXok ox
      have HK1 := Seal.mk hk1
      have hdr : l.drop k = x :: l.drop (k + 1) := by
        obtain ⟨hi, ex⟩ := List.getElem?_eq_some_iff.1 hx
        rw [List.drop_eq_getElem_cons hi, ex]
      have HN : Seal ((E = 0 → colF L (l.drop (k + 1)) = R) ∧ (E ≠ 0 → R = none) ∧ ∀ y ∈ L, y.ok) := ⟨by
        rw [hdr] at hcol
        unfold colF at hcol
        rw [← hE, ← hL] at hcol
        refine ⟨fun h => ?_, fun h => ?_, by rw [hL]; exact keepL_ok hXok ox⟩
        · rwa [if_pos h] at hcol
        · rw [if_neg h] at hcol; exact hcol.symm⟩
      have r5 := n3.at
      have i5 := IX.out.1
      have hgn := hgd.symm
      clear hgd n3 n4 n5 n6 hx hC hE hL hk1 hdr hcol hX hXok hr hg HDw ox hH
      go_wp2_with (first
        | (refine wpList_load_mid rfl 45 (.tmp 12) rfl g (off + k * 38) rfl C _ rX ut rfl i5 ?_; (try simp only [Act.put, List.setIfInBounds_toArray, List.set_cons_zero, List.set_cons_succ]))
        | (refine wpList_load_mid rfl 45 (.tmp 5) rfl gd 0 rfl C _ r5 ut rfl i5 ?_; (try simp only [Act.put, List.setIfInBounds_toArray, List.set_cons_zero, List.set_cons_succ]))
        | ((try rw [hgn]); refine wpList_store_row rfl 45 (.tmp 5) (.tmp 13) rfl gd C.toArray rfl rfl 45 _ n2 (by simpa using IX.out.1) IX.out.2.1 IX.out.2.2 ?_; rw [n1]; clear n1 n2 hgn rX; (try simp only [Act.put])))
      refine HK1.out.mono ?_
      rintro e w2 ⟨a2, m2, c2, rfl, hi, hb⟩
      have HB2 : Seal (Below w.heap.size w w2 ∧ IsC Ltr.C 38 w2 a2 m2 c2 L) := ⟨HV.out.trans (hb.mono HV.out.size), hi.out⟩
      clear hb hi HK1 HV r5
      by_cases hz : E = 0
      · subst hz
        have HN2 : Seal (Below w.heap.size w w2 ∧ ∃ X, IsC Ltr.C 38 w2 a2 m2 c2 X ∧ (∀ x ∈ X, x.ok) ∧ colF X (l.drop (k + 1)) = R) := ⟨HB2.out.1, L, HB2.out.2, HN.out.2.2, HN.out.1 rfl⟩
        go_wp2
        go_roundw
        case rel => exact ⟨k + 1, m2, c2, a2, by omega, rfl, by go_num, HN2⟩
        case measure => simp [intOf]; omega
      · have HF := Seal.mk (HN.out.2.1 hz)
        have qz : (E == 0) = false := by rw [beq_eq_false_iff_ne]; exact hz
        go_wp2
        go_ret2
        exact ⟨none, 0, 0, by rw [HF.out]; rfl, ⟨by rw [HF.out]; exact ⟨isC_nilK _, by simp⟩⟩, HB2.out.1⟩
    · obtain rfl : k = n := by omega
      have q5 : ¬ (k : Int) < (k : Int) := by omega
      have HF : Seal (R = some X) := ⟨by
        rw [← hcol, List.drop_of_length_le (by omega)]
        rfl⟩
      have HX : Seal (IsC Ltr.C 38 wo b m d X ∧ (∀ x ∈ X, x.ok) ∧ Below w.heap.size w wo) := ⟨hX, hXok, hH.out.1⟩
      clear hX hXok hcol hH
      go_wp2
      go_ret2
      exact ⟨b, m, d, by rw [HF.out]; rfl, ⟨by rw [HF.out]; exact ⟨HX.out.1, HX.out.2.1⟩⟩, HX.out.2.2⟩
end Frk
