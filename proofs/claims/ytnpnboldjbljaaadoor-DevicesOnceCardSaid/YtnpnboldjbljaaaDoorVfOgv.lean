/- Law 44: a posting is given to the office. -/
import Derived.Test.YtnpnboldjbljaaaDoorVfgRin
import Derived.Test.YtnpnboldjbljaaaDoorVfRsd
namespace Frk
open Go Go.RowKit Go.Proofs
set_option maxRecDepth 100000

theorem zero_int (w : World) : (zeroValue 3).run Tryd.prog w = .ok (.int .i64 0) w := by kernel_rfl
theorem frozen_rws {W : World} {c : Nat} {v : Value} {t : TypeId} (h : W.heap[c]? = some (.cells #[v] t (0, 0))) : W.frozen? ⟨c, 0, none⟩ = false := frozen_of_row _ _ _ _ _ h
def GvPost (s o : Int) (c10 c7 c8 c9 m10 m8 m9 : Nat) (W : World) (e : Ending) (W' : World) : Prop :=
  Tn (Tx c7 m10 m8 m9) W W' ∧ ((e = .returned (.bool true) ∧ ∃ gs, OfSt s c10 c7 c8 c9 m10 m8 m9 gs W') ∨ (e = .returned (.bool false) ∧ ∃ o', 0 ≤ o' ∧ o' < 8 ∧ o' ≠ o ∧ serB s o' = serB s o))

set_option maxHeartbeats 8000000 in
theorem give_any (s o : Int) (c10 c7 c8 c9 m10 m8 m9 : Nat) (gs : List Int) (W : World) (hS : OfSt s c10 c7 c8 c9 m10 m8 m9 gs W) (hd : m10 ≠ m8 ∧ m10 ≠ m9 ∧ m8 ≠ m9) (h0 : 0 ≤ o) (h8 : o < 8) :
    Calls Tryd.prog 28 #[.agg (Po.C ⟨o, serB s o⟩).toArray, .pointer (some ⟨c10, 0, none⟩), .pointer (some ⟨c7, 0, none⟩), .pointer (some ⟨c8, 0, none⟩), .pointer (some ⟨c9, 0, none⟩)] W (GvPost s o c10 c7 c8 c9 m10 m8 m9 W) := by
  obtain ⟨u, ua, un, uc, fs, fa, fg, hO, hR, hD, hms, hfs, hma, hfa, hmg, hfg⟩ := hS
  obtain ⟨T, hT⟩ : ∃ T, T = serB s o := ⟨_, rfl⟩
  have LT : Seal (T.length = 32) := ⟨by rw [hT]; exact serB_len s o⟩
  obtain ⟨C, hC⟩ : ∃ C, C = Po.C ⟨o, serB s o⟩ := ⟨_, rfl⟩
  have HC := Seal.mk hC
  have HT := Seal.mk hT
  have IC : Seal ((Tryd.prog.info? 31).map (·.size) = some C.length) := ⟨by rw [hC]; exact Po.C_info (serB_len s o)⟩
  have HO := Seal.mk hO
  have HI : Seal (I64 o) := ⟨by unfold I64; omega⟩
  have HR8 : Seal (0 ≤ o ∧ o < 8) := ⟨h0, h8⟩
  have HDm := Seal.mk hd
  obtain ⟨X, hX⟩ : ∃ X, X = W.alloc (.cells C.toArray 31) := ⟨_, rfl⟩
  have hbX : Below W.heap.size W X := by rw [hX]; exact below_alloc _ _
  have TX : Seal (Tn (Tx c7 m10 m8 m9) W X) := ⟨Tn.below hbX⟩
  have hxr : X.heap[W.heap.size]? = some (.cells C.toArray 31 (0, 0)) := by rw [hX]; exact heap_alloc_new W _
  obtain ⟨gx, hgx⟩ : ∃ g, g = W.heap.size := ⟨_, rfl⟩
  have HG7 : Seal (c7 < gx) := ⟨by rw [hgx]; exact (Array.getElem?_eq_some_iff.1 hR.r7).1⟩
  rw [← hgx] at hxr
  have RX : Seal (X.rangeAt gx 0 C) := ⟨rangeAt_row hxr⟩
  have hT1 : ∀ V : World, V.rangeAt gx 0 C → V.rangeAt gx 1 (T.map B) ∧ V.cell? ⟨gx, 0, none⟩ = some (.int .i64 o) := fun V h => by
    rw [hC] at h
    refine ⟨?_, by have := h 0 (.int .i64 o) rfl; simpa using this⟩
    have h2 := rangeAt_drop h 1
    rw [hT]
    simpa [Po.C] using h2
  have HT1 := Seal.mk hT1
  have SX := rowsStay_below hbX
  have RW : Seal (Rws c10 c7 c8 c9 m10 m8 m9 ua un uc X) := ⟨hR.stay SX⟩
  have DU : Seal (IsD X ua un uc u) := ⟨hD.stay SX⟩
  have MS : Seal (MapN X Tryd.prog 29 m10 gs.length fs) := ⟨hms.below hbX⟩
  have MA : Seal (MapN X Tryd.prog 3 m8 gs.length fa) := ⟨hma.below hbX⟩
  have MG : Seal (MapN X Tryd.prog 3 m9 gs.length fg) := ⟨hmg.below hbX⟩
  have FS := Seal.mk hfs
  have FA := Seal.mk hfa
  have FG := Seal.mk hfg
  obtain ⟨kl, hkl⟩ := keyOf_dig LT.out
  have HKL := Seal.mk hkl
  have uD := Tryd.underlying29
  have ut := Tryd.underlying31
  have i1 := dg_info T LT.out
  rw [← hC]
  clear hO hR hD hms hfs hma hfa hmg hfg hT hC hbX hxr hT1 SX hkl h0 h8 hd
  go_enter Tryd.func28, Tryd.ntmps28
  go_upto_region 1 with (fail)
  rw [← hX, ← hgx]
  clear hX hgx
  have k10 := RW.out.cells.1
  have o0 := (HT1.out X RX.out).2
  by_cases hex : ∃ o' ∈ gs, serB s o' = T
  · obtain ⟨o', ho', eo'⟩ := hex
    have HV : Seal (fs (dv T) = some (.int .i64 o')) := ⟨by rw [← eo']; exact FS.out.1 o' ho'⟩
    by_cases hoo : o' = o
    rotate_left
    · have HF : Seal (∃ o', 0 ≤ o' ∧ o' < 8 ∧ o' ≠ o ∧ serB s o' = serB s o) := ⟨o', (HO.out.rng o' ho').1, (HO.out.rng o' ho').2, hoo, by rw [eo', HT.out]⟩
      have z1 : (o' != o) = true := by simp [hoo]
      clear hoo eo' ho'
      go_wp2_with (first
        | (refine wpList_load_mid rfl 29 (.tmp 13) rfl gx 1 rfl (T.map B) _ (HT1.out X RX.out).1 uD rfl i1 ?_)
        | (refine wpList_lookN rfl (.tmp 12) (.tmp 14) 55 rfl 29 3 dig_keys Tryd.underlying55 (zero_int _) m10 gs.length fs rfl MS.out (dv T) rfl HKL.out (.int .i64 o') true (by rw [HV.out]; rfl) (by rw [HV.out]; rfl) ?_; (try simp only [Act.put, List.setIfInBounds_toArray, List.set_cons_zero, List.set_cons_succ])))
      go_ret
      exact ⟨TX.out, .inr ⟨rfl, HF.out⟩⟩
    have HV : Seal (fs (dv T) = some (.int .i64 o)) := ⟨by rw [HV.out, hoo]⟩
    have HGS : Seal (o ∈ gs) := ⟨by rw [← hoo]; exact ho'⟩
    have HN1 : Seal (gs.length = if (fs (dv T)).isSome then gs.length else gs.length + 1) := ⟨by rw [HV.out]; rfl⟩
    have HN9 : Seal (gs.length = if (fg (.int .i64 o)).isSome then gs.length else gs.length + 1) := ⟨by rw [(FG.out o).1 HGS.out]; rfl⟩
    have HTk : Seal (∀ V, IsD V ua un uc u → Calls Tryd.prog 25 #[.slice ua un uc, .agg C.toArray] V (TakePost u false V)) := ⟨fun V h => by
      rw [HC.out]
      exact dtake_any ua un uc u u false ⟨o, serB s o⟩ V h (serB_len s o) ⟨HO.out.take_old HGS.out⟩⟩
    have z1 : (o != o) = false := by simp
    clear hoo eo' ho'
    go_wp2_with (first
        | (refine wpList_load_mid rfl 29 (.tmp 13) rfl gx 1 rfl (T.map B) _ (HT1.out X RX.out).1 uD rfl i1 ?_)
        | (refine wpList_lookN rfl (.tmp 12) (.tmp 14) 55 rfl 29 3 dig_keys Tryd.underlying55 (zero_int _) m10 gs.length fs rfl MS.out (dv T) rfl HKL.out (.int .i64 o) true (by rw [HV.out]; rfl) (by rw [HV.out]; rfl) ?_; (try simp only [Act.put, List.setIfInBounds_toArray, List.set_cons_zero, List.set_cons_succ]))
        | (refine wpList_load_mid rfl 29 (.tmp 26) rfl gx 1 rfl (T.map B) _ (HT1.out X RX.out).1 uD rfl i1 ?_)
        | (refine wpList_updN rfl (.tmp 25) (.tmp 27) (.tmp 29) 55 rfl 29 3 dig_keys Tryd.underlying55 m10 gs.length gs.length fs rfl MS.out (by have := HO.out.small; unfold maxLen; omega) (dv T) (.int .i64 o) rfl rfl HKL.out HN1.out ?_; intro w1 hm1 hg1 _; have S1 := rowsStay_map hg1 MS.out; have RW1 : Seal (Rws c10 c7 c8 c9 m10 m8 m9 ua un uc w1) := ⟨RW.out.stay S1⟩; have RX1 : Seal (w1.rangeAt gx 0 C) := ⟨rangeAt_stay S1 RX.out⟩; have DU1 : Seal (IsD w1 ua un uc u) := ⟨DU.out.stay S1⟩; have MS1 := Seal.mk hm1; have MA1 : Seal (MapN w1 Tryd.prog 3 m8 gs.length fa) := ⟨MA.out.kept hg1 (fun e => HDm.out.1 (Option.some.inj e).symm)⟩; have MG1 : Seal (MapN w1 Tryd.prog 3 m9 gs.length fg) := ⟨MG.out.kept hg1 (fun e => HDm.out.2.1 (Option.some.inj e).symm)⟩; have T1 : Seal (Tn (Tx c7 m10 m8 m9) W w1) := ⟨TX.out.trans (Tn.grown hg1 (.inr (.inl rfl)))⟩; have k7 := RW1.out.cells.2.1; clear hm1 hg1 S1 RW RX DU MS MA MG TX k10 o0; (try simp only [Act.put]))
        | (refine wpList_load_mid rfl 31 (.tmp 5) rfl gx 0 rfl C _ RX1.out ut rfl IC.out ?_))
    refine (HTk.out w1 DU1.out).mono ?_
    clear HTk
    rintro e w2 ⟨a2, n2, c2, rfl, hd2, hb2⟩
    have S2 := rowsStay_below hb2
    have RW2 : Seal (Rws c10 c7 c8 c9 m10 m8 m9 ua un uc w2) := ⟨RW1.out.stay S2⟩
    have RX2 : Seal (w2.rangeAt gx 0 C) := ⟨rangeAt_stay S2 RX1.out⟩
    have DU2 : Seal (IsD w2 ua un uc u) := ⟨DU1.out.stay S2⟩
    have MS2 := Seal.mk (MS1.out.below hb2)
    have MA2 := Seal.mk (MA1.out.below hb2)
    have MG2 := Seal.mk (MG1.out.below hb2)
    have T2 : Seal (Tn (Tx c7 m10 m8 m9) W w2) := ⟨T1.out.trans (Tn.below hb2)⟩
    clear hb2 S2 RW1 RX1 DU1 MS1 MA1 MG1 T1 k7
    have D2 := Seal.mk hd2.out
    clear hd2
    have k7 := RW2.out.cells.2.1
    go_wp2_with fail
    have HX := rsame_any a2 ua n2 c2 un uc u u w2 D2.out DU2.out
    rw [beq_self_eq_true] at HX
    refine HX.mono ?_
    clear HX
    rintro e w3 ⟨rfl, hb3⟩
    have S3 := rowsStay_below hb3
    have RW3 : Seal (Rws c10 c7 c8 c9 m10 m8 m9 ua un uc w3) := ⟨RW2.out.stay S3⟩
    have RX3 : Seal (w3.rangeAt gx 0 C) := ⟨rangeAt_stay S3 RX2.out⟩
    have DU3 : Seal (IsD w3 ua un uc u) := ⟨DU2.out.stay S3⟩
    have MS3 := Seal.mk (MS2.out.below hb3)
    have MA3 := Seal.mk (MA2.out.below hb3)
    have MG := Seal.mk (MG2.out.below hb3)
    have T3 : Seal (Tn (Tx c7 m10 m8 m9) W w3) := ⟨T2.out.trans (Tn.below hb3)⟩
    have k9 := RW3.out.cells.2.2.2
    have o0 := (HT1.out w3 RX3.out).2
    clear hb3 S3 RW2 RX2 DU2 MS2 MA2 MG2 T2 k7 D2
    go_wp2_with (first
      | (refine wpList_updN rfl (.tmp 47) (.tmp 49) (.const (.bool true)) 54 rfl 3 4 int_keys Tryd.underlying54 m9 gs.length gs.length fg rfl MG.out (by have := HO.out.small; unfold maxLen; omega) (.int .i64 o) (.bool true) rfl rfl (keyOf_i64 HI.out) HN9.out ?_; intro wz hmz hgz _; have HZ := Seal.mk (And.intro hmz hgz); clear hmz hgz; (try simp only [Act.put])))
    go_ret
    have Sz := rowsStay_map HZ.out.2 MG.out
    exact ⟨T3.out.trans (Tn.grown HZ.out.2 (.inr (.inr (.inr rfl)))), .inl ⟨rfl, gs, u, ua, un, uc, _, _, _, HO.out, RW3.out.stay Sz, DU3.out.stay Sz, MS3.out.kept HZ.out.2 (fun e => HDm.out.2.1 (Option.some.inj e)), by rw [HT.out]; exact FS.out.old HO.out HGS.out, MA3.out.kept HZ.out.2 (fun e => HDm.out.2.2 (Option.some.inj e)), FA.out, HZ.out.1, FG.out.old HGS.out⟩⟩
  · have HNo : Seal (∀ o' ∈ gs, serB s o' ≠ T) := ⟨fun o' h e => hex ⟨o', h, e⟩⟩
    have HV : Seal (fs (dv T) = none) := ⟨FS.out.2 T HNo.out⟩
    have HGS : Seal (o ∉ gs) := ⟨fun h => HNo.out o h HT.out.symm⟩
    have HN1 : Seal (gs.length + 1 = if (fs (dv T)).isSome then gs.length else gs.length + 1) := ⟨by rw [HV.out]; rfl⟩
    have HN8 : Seal (gs.length + 1 = if (fa (.int .i64 o)).isSome then gs.length else gs.length + 1) := ⟨by rw [(FA.out o).2 HGS.out]; rfl⟩
    have HN9 : Seal (gs.length + 1 = if (fg (.int .i64 o)).isSome then gs.length else gs.length + 1) := ⟨by rw [(FG.out o).2 HGS.out]; rfl⟩
    have HTk : Seal (∀ V, IsD V ua un uc u → Calls Tryd.prog 25 #[.slice ua un uc, .agg C.toArray] V (TakePost (putB u T) true V)) := ⟨fun V h => by
      rw [HC.out, HT.out]
      exact dtake_any ua un uc u (putB u (serB s o)) true ⟨o, serB s o⟩ V h (serB_len s o) ⟨HO.out.take_new (by rw [← HT.out]; exact HNo.out)⟩⟩
    clear hex
    go_wp2_with (first
        | (refine wpList_load_mid rfl 29 (.tmp 13) rfl gx 1 rfl (T.map B) _ (HT1.out X RX.out).1 uD rfl i1 ?_)
        | (refine wpList_lookN rfl (.tmp 12) (.tmp 14) 55 rfl 29 3 dig_keys Tryd.underlying55 (zero_int _) m10 gs.length fs rfl MS.out (dv T) rfl HKL.out (.int .i64 0) false (by rw [HV.out]; rfl) (by rw [HV.out]; rfl) ?_; (try simp only [Act.put, List.setIfInBounds_toArray, List.set_cons_zero, List.set_cons_succ]))
        | (refine wpList_load_mid rfl 29 (.tmp 26) rfl gx 1 rfl (T.map B) _ (HT1.out X RX.out).1 uD rfl i1 ?_)
        | (refine wpList_updN rfl (.tmp 25) (.tmp 27) (.tmp 29) 55 rfl 29 3 dig_keys Tryd.underlying55 m10 gs.length (gs.length + 1) fs rfl MS.out (by have := HO.out.small; unfold maxLen; omega) (dv T) (.int .i64 o) rfl rfl HKL.out HN1.out ?_; intro w1 hm1 hg1 _; have S1 := rowsStay_map hg1 MS.out; have RW1 : Seal (Rws c10 c7 c8 c9 m10 m8 m9 ua un uc w1) := ⟨RW.out.stay S1⟩; have RX1 : Seal (w1.rangeAt gx 0 C) := ⟨rangeAt_stay S1 RX.out⟩; have DU1 : Seal (IsD w1 ua un uc u) := ⟨DU.out.stay S1⟩; have MS1 := Seal.mk hm1; have MA1 : Seal (MapN w1 Tryd.prog 3 m8 gs.length fa) := ⟨MA.out.kept hg1 (fun e => HDm.out.1 (Option.some.inj e).symm)⟩; have MG1 : Seal (MapN w1 Tryd.prog 3 m9 gs.length fg) := ⟨MG.out.kept hg1 (fun e => HDm.out.2.1 (Option.some.inj e).symm)⟩; have T1 : Seal (Tn (Tx c7 m10 m8 m9) W w1) := ⟨TX.out.trans (Tn.grown hg1 (.inr (.inl rfl)))⟩; have k7 := RW1.out.cells.2.1; clear hm1 hg1 S1 RW RX DU MS MA MG TX k10 o0; (try simp only [Act.put]))
        | (refine wpList_load_mid rfl 31 (.tmp 5) rfl gx 0 rfl C _ RX1.out ut rfl IC.out ?_))
    refine (HTk.out w1 DU1.out).mono ?_
    clear HTk
    rintro e w2 ⟨a2, n2, c2, rfl, hd2, hb2⟩
    have S2 := rowsStay_below hb2
    have RW2 : Seal (Rws c10 c7 c8 c9 m10 m8 m9 ua un uc w2) := ⟨RW1.out.stay S2⟩
    have RX2 : Seal (w2.rangeAt gx 0 C) := ⟨rangeAt_stay S2 RX1.out⟩
    have DU2 : Seal (IsD w2 ua un uc u) := ⟨DU1.out.stay S2⟩
    have MS2 := Seal.mk (MS1.out.below hb2)
    have MA2 := Seal.mk (MA1.out.below hb2)
    have MG2 := Seal.mk (MG1.out.below hb2)
    have T2 : Seal (Tn (Tx c7 m10 m8 m9) W w2) := ⟨T1.out.trans (Tn.below hb2)⟩
    clear hb2 S2 RW1 RX1 DU1 MS1 MA1 MG1 T1 k7
    have D2 := Seal.mk hd2.out
    clear hd2 DU2
    have k8 := RW2.out.cells.2.2.1
    have o0 := (HT1.out w2 RX2.out).2
    go_wp2_with (first
      | (refine wpList_look1N rfl (.tmp 37) (.tmp 39) 53 rfl 3 3 int_keys Tryd.underlying53 (zero_int _) m8 gs.length fa rfl MA2.out (.int .i64 o) rfl (keyOf_i64 HI.out) (.int .i64 0) (by rw [(FA.out o).2 HGS.out]; rfl) ?_; (try simp only [Act.put, List.setIfInBounds_toArray, List.set_cons_zero, List.set_cons_succ]))
      | (refine wpList_updN rfl (.tmp 37) (.tmp 39) (.tmp 41) 53 rfl 3 3 int_keys Tryd.underlying53 m8 gs.length (gs.length + 1) fa rfl MA2.out (by have := HO.out.small; unfold maxLen; omega) (.int .i64 o) (.int .i64 1) rfl rfl (keyOf_i64 HI.out) HN8.out ?_; intro w3 hm3 hg3 _; have S3 := rowsStay_map hg3 MA2.out; have RW3 : Seal (Rws c10 c7 c8 c9 m10 m8 m9 ua un uc w3) := ⟨RW2.out.stay S3⟩; have RX3 : Seal (w3.rangeAt gx 0 C) := ⟨rangeAt_stay S3 RX2.out⟩; have D3 : Seal (IsD w3 a2 n2 c2 (putB u T)) := ⟨D2.out.stay S3⟩; have MA3 := Seal.mk hm3; have MS3 : Seal (MapN w3 Tryd.prog 29 m10 (gs.length + 1) (upd fs (dv T) (.int .i64 o))) := ⟨MS2.out.kept hg3 (fun e => HDm.out.1 (Option.some.inj e))⟩; have MG3 : Seal (MapN w3 Tryd.prog 3 m9 gs.length fg) := ⟨MG2.out.kept hg3 (fun e => HDm.out.2.2 (Option.some.inj e).symm)⟩; have T3 : Seal (Tn (Tx c7 m10 m8 m9) W w3) := ⟨T2.out.trans (Tn.grown hg3 (.inr (.inr (.inl rfl))))⟩; have k7 := RW3.out.cells.2.1; have f7 := frozen_rws RW3.out.r7; have RW4 : Seal (Rws c10 c7 c8 c9 m10 m8 m9 a2 n2 c2 (w3.setCell ⟨c7, 0, none⟩ (.slice a2 n2 c2))) := ⟨RW3.out.set a2 n2 c2⟩; have k9 := RW4.out.cells.2.2.2; have o4 : (w3.setCell ⟨c7, 0, none⟩ (.slice a2 n2 c2)).cell? ⟨gx, 0, none⟩ = some (.int .i64 o) := (World.cell?_of_block (w := w3) (Below.heap_setCell _ _ _ _ (by have := HG7.out; show gx ≠ c7; omega))).trans (HT1.out w3 RX3.out).2; have MG : Seal (MapN (w3.setCell ⟨c7, 0, none⟩ (.slice a2 n2 c2)) Tryd.prog 3 m9 gs.length fg) := ⟨MG3.out.setCell RW3.out.r7 _⟩; clear hm3 hg3 S3 RW2 RX2 MS2 MA2 MG2 T2 k8 o0 D2; (try simp only [Act.put]))
      | (refine wpList_updN rfl (.tmp 47) (.tmp 49) (.const (.bool true)) 54 rfl 3 4 int_keys Tryd.underlying54 m9 gs.length (gs.length + 1) fg rfl MG.out (by have := HO.out.small; unfold maxLen; omega) (.int .i64 o) (.bool true) rfl rfl (keyOf_i64 HI.out) HN9.out ?_; intro wz hmz hgz _; have HZ := Seal.mk (And.intro hmz hgz); clear hmz hgz; (try simp only [Act.put])))
    go_ret
    have Sz := rowsStay_map HZ.out.2 MG.out
    exact ⟨(T3.out.trans (Tn.setCell ⟨c7, 0, none⟩ _ (.inl rfl))).trans (Tn.grown HZ.out.2 (.inr (.inr (.inr rfl)))), .inl ⟨rfl, o :: gs, putB u T, a2, n2, c2, _, _, _, by rw [HT.out]; exact HO.out.cons HR8.out.1 HR8.out.2 (by rw [← HT.out]; exact HNo.out), RW4.out.stay Sz, (D3.out.setCell RW3.out.r7 _).stay Sz, (MS3.out.setCell RW3.out.r7 _).kept HZ.out.2 (fun e => HDm.out.2.1 (Option.some.inj e)), by rw [HT.out]; exact FS.out.new (by rw [← HT.out]; exact HNo.out), (MA3.out.setCell RW3.out.r7 _).kept HZ.out.2 (fun e => HDm.out.2.2 (Option.some.inj e)), FA.out.new o, HZ.out.1, FG.out.new o⟩⟩
end Frk
