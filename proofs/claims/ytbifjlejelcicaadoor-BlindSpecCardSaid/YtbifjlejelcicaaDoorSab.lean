/- The examples with which the statements on blind signatures begin. -/
import Derived.Test.YtbifjlejelcicaaDoorExb
namespace Frk
open Go Go.RowKit Go.Proofs
set_option maxRecDepth 100000

theorem begin_eq (n p : Int) (w : World) (hp : Seal (((pw 4 n : Nat) : Int) = p)) (h : secB n = true) (h1 : -9223372036854775808 ≤ n) (h2 : n ≤ 9223372036854775807) : Calls Tryd.prog 26 #[.int .i64 n] w fun e w' => e = .returned (.tuple #[.int .i64 p, .int .i64 0]) ∧ Below w.heap.size w w' := by
  rw [← hp.out]; exact begin_yes n w h h1 h2

set_option maxHeartbeats 4000000 in
theorem bsane_any (w : World) (hG : Glob w) : Calls Tryd.prog 25 #[] w fun e w' => e = .returned (.bool true) ∧ Below w.heap.size w w' := by
  have HE1 : Seal (Env (w.alloc (.cells (tSerial.map B).toArray 5 (6, 7))) (some ⟨w.heap.size, 0, none⟩) 6 6 tSerial []) := ⟨⟨hG.below (below_alloc w _), isB_new w tSerial 6 _ _ rfl (by decide), by intro p hp; cases hp⟩⟩
  have HB1 : Seal (Below w.heap.size w (w.alloc (.cells (tSerial.map B).toArray 5 (6, 7)))) := ⟨below_alloc w _⟩
  have hcs := fun (w : World) (C : Array Value) (n c : Nat) => Lib.run_convert_bytes_const (P := Tryd.prog) w 22 5 C n c Tryd.underlying22 Tryd.underlying5
  clear hG
  go_enter Tryd.func25, Tryd.ntmps25
  go_wp2_with fail
  refine (begin_eq 5 1024 _ ⟨bx1⟩ bx19 (by decide) (by decide)).mono ?_
  rintro e w2 ⟨rfl, hb⟩
  have HE2 := Seal.mk (HE1.out.below hb)
  have HB2 := Seal.mk (HB1.out.trans (hb.mono HB1.out.size))
  clear hb HE1 HB1
  go_wp2_with fail
  refine (begin_eq 1 4 _ ⟨bx2⟩ (by decide) (by decide) (by decide)).mono ?_
  rintro e w3 ⟨rfl, hb⟩
  have HE3 := Seal.mk (HE2.out.below hb)
  have HB3 := Seal.mk (HB2.out.trans (hb.mono HB2.out.size))
  clear hb HE2 HB2
  go_wp2_with fail
  refine (begin_no 0 _ (by decide)).mono ?_
  rintro e w4 ⟨rfl, hb⟩
  have HE4 := Seal.mk (HE3.out.below hb)
  have HB4 := Seal.mk (HB3.out.trans (hb.mono HB3.out.size))
  clear hb HE3 HB3
  go_wp2_with fail
  refine (begin_no 1073741789 _ (by decide)).mono ?_
  rintro e w5 ⟨rfl, hb⟩
  have HE5 := Seal.mk (HE4.out.below hb)
  have HB5 := Seal.mk (HB4.out.trans (hb.mono HB4.out.size))
  clear hb HE4 HB4
  go_wp2_with fail
  refine (ask_yes 64 1024 11 (-13) 173695858 173695845 _ _ _ _ _ bx11 ⟨bx3⟩ ⟨bx4⟩ (by decide) (by decide) (by decide) (by decide) HE5.out.isb (by decide) HE5.out.glob).mono ?_
  rintro e w6 ⟨rfl, hb⟩
  have HE6 := Seal.mk (HE5.out.below hb)
  have HB6 := Seal.mk (HB5.out.trans (hb.mono HB5.out.size))
  clear hb HE5 HB5
  go_wp2_with fail
  refine (answer_yes 3 5 173695845 521087540 _ bx20 bx19 ⟨bx5⟩).mono ?_
  rintro e w7 ⟨rfl, hb⟩
  have HE7 := Seal.mk (HE6.out.below hb)
  have HB7 := Seal.mk (HB6.out.trans (hb.mono HB6.out.size))
  clear hb HE6 HB6
  go_wp2_with fail
  refine (finish_any 64 1024 11 (-13) 521087540 173695858 521087551 true _ _ _ _ _ bx11 ⟨bx3⟩ ⟨bx6⟩ ⟨bx7⟩ (by decide) (by decide) (by decide) (by decide) HE7.out.isb (by decide) HE7.out.glob).mono ?_
  rintro e w8 ⟨rfl, hb⟩
  have HE8 := Seal.mk ((HE7.out.below hb).push (.cells #[.int .i64 173695858, .int .i64 521087551] 24))
  have HB8 := Seal.mk ((HB7.out.trans (hb.mono HB7.out.size)).alloc (Nat.le_trans HB7.out.size hb.size) (.cells #[.int .i64 173695858, .int .i64 521087551] 24))
  clear hb HE7 HB7
  go_wp2_with fail
  refine (answer_yes 3 5 7 26 _ bx20 bx19 ⟨bx8⟩).mono ?_
  rintro e w9 ⟨rfl, hb⟩
  have HE9 := Seal.mk (HE8.out.below hb)
  have HB9 := Seal.mk (HB8.out.trans (hb.mono HB8.out.size))
  clear hb HE8 HB8
  go_wp2_with fail
  refine (answer_yes 3 5 (-1) 2 _ bx20 bx19 ⟨bx9⟩).mono ?_
  rintro e w10 ⟨rfl, hb⟩
  have HE10 := Seal.mk (HE9.out.below hb)
  have HB10 := Seal.mk (HB9.out.trans (hb.mono HB9.out.size))
  clear hb HE9 HB9
  go_wp2_with fail
  refine (ask_no 2 4 0 0 _ _ bx10).mono ?_
  rintro e w11 ⟨rfl, hb⟩
  have HE11 := Seal.mk (HE10.out.below hb)
  have HB11 := Seal.mk (HB10.out.trans (hb.mono HB10.out.size))
  clear hb HE10 HB10
  go_wp2_with fail
  refine (answer_no 0 5 7 _ (by decide)).mono ?_
  rintro e w12 ⟨rfl, hb⟩
  have HE12 := Seal.mk (HE11.out.below hb)
  have HB12 := Seal.mk (HB11.out.trans (hb.mono HB11.out.size))
  clear hb HE11 HB11
  have d0 := HE12.out.cell (g := w8.heap.size) (i := 0) (cs := #[.int .i64 173695858, .int .i64 521087551]) (t := 24) (by simp) rfl
  have d1 := HE12.out.cell (g := w8.heap.size) (i := 1) (cs := #[.int .i64 173695858, .int .i64 521087551]) (t := 24) (by simp) rfl
  go_wp2_with fail
  refine (link_yes 64 1024 173695845 521087540 173695858 521087551 _ 11 1073741776 _ _ _ _ _ bx11 ⟨bx7⟩ ⟨bx13⟩ ⟨bx14⟩ ⟨bx17⟩ ⟨bx18⟩ (by decide) (by decide) (by decide) (by decide) HE12.out.isb (by decide) HE12.out.glob).mono ?_
  rintro e w13 ⟨rfl, hb⟩
  have HE13 := Seal.mk (HE12.out.below hb)
  have HB13 := Seal.mk (HB12.out.trans (hb.mono HB12.out.size))
  clear hb HE12 HB12
  have e0 := HE13.out.cell (g := w8.heap.size) (i := 0) (cs := #[.int .i64 173695858, .int .i64 521087551]) (t := 24) (by simp) rfl
  have e1 := HE13.out.cell (g := w8.heap.size) (i := 1) (cs := #[.int .i64 173695858, .int .i64 521087551]) (t := 24) (by simp) rfl
  go_wp2_with fail
  refine (link_no3 64 4 173695845 521087540 173695858 521087551 _ _ _ _ _ _ _ bx12 ⟨bx7⟩ ⟨bx13⟩ ⟨bx15⟩ bx16 (by decide) (by decide) (by decide) (by decide) HE13.out.isb (by decide) HE13.out.glob).mono ?_
  rintro e w14 ⟨rfl, hb⟩
  have HE14 := Seal.mk (HE13.out.below hb)
  have HB14 := Seal.mk (HB13.out.trans (hb.mono HB13.out.size))
  clear hb HE13 HB13
  have f0 := HE14.out.cell (g := w8.heap.size) (i := 0) (cs := #[.int .i64 173695858, .int .i64 521087551]) (t := 24) (by simp) rfl
  have f1 := HE14.out.cell (g := w8.heap.size) (i := 1) (cs := #[.int .i64 173695858, .int .i64 521087551]) (t := 24) (by simp) rfl
  go_wp2_with fail
  refine (ver_at 64 173695858 521087551 true _ _ _ _ _ bx7 HE14.out.isb (by decide) HE14.out.glob).mono ?_
  rintro e w15 ⟨rfl, hb⟩
  have HE15 := Seal.mk (HE14.out.below hb)
  have HB15 := Seal.mk (HB14.out.trans (hb.mono HB14.out.size))
  clear hb HE14 HB14
  go_wp2_with fail
  go_ret
  exact ⟨rfl, HB15.out⟩
end Frk
