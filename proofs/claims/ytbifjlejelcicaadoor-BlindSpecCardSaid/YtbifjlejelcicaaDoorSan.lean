/- The examples with which the statements on signatures begin. -/
import Derived.Test.YtbifjlejelcicaaDoorExs
namespace Frk
open Go Go.RowKit Go.Proofs
set_option maxRecDepth 100000

set_option maxHeartbeats 2000000 in
theorem sane_any (w : World) (hG : Glob w) : Calls Tryd.prog 13 #[] w fun e w' => e = .returned (.bool true) ∧ Below w.heap.size w w' := by
  have HE1 : Seal (Env (w.alloc (.cells (tLetter.map B).toArray 5 (6, 7))) (some ⟨w.heap.size, 0, none⟩) 6 6 tLetter []) := ⟨⟨hG.below (below_alloc w _), isB_new w tLetter 6 _ _ rfl (by decide), by intro p hp; cases hp⟩⟩
  have HB1 : Seal (Below w.heap.size w (w.alloc (.cells (tLetter.map B).toArray 5 (6, 7)))) := ⟨below_alloc w _⟩
  have hcs := fun (w : World) (C : Array Value) (n c : Nat) => Lib.run_convert_bytes_const (P := Tryd.prog) w 22 5 C n c Tryd.underlying22 Tryd.underlying5
  clear hG
  go_enter Tryd.func13, Tryd.ntmps13
  go_wp2_with fail
  refine (sign5 _ _ _ _ HE1.out.isb HE1.out.glob).mono ?_
  rintro e w2 ⟨rfl, hb⟩
  have HE2 := Seal.mk ((HE1.out.below hb).push (.cells #[.int .i64 964071050, .int .i64 759496991] 24))
  have HB2 := Seal.mk ((HB1.out.trans (hb.mono HB1.out.size)).alloc (Nat.le_trans HB1.out.size hb.size) (.cells #[.int .i64 964071050, .int .i64 759496991] 24))
  clear hb HE1 HB1
  go_wp2_with fail
  refine (sign5 _ _ _ _ HE2.out.isb HE2.out.glob).mono ?_
  rintro e w3 ⟨rfl, hb⟩
  have HE3 := Seal.mk ((HE2.out.below hb).push (.cells #[.int .i64 964071050, .int .i64 759496991] 24))
  have HB3 := Seal.mk ((HB2.out.trans (hb.mono HB2.out.size)).alloc (Nat.le_trans HB2.out.size hb.size) (.cells #[.int .i64 964071050, .int .i64 759496991] 24))
  clear hb HE2 HB2
  go_wp2_with fail
  refine (sign_no 0 _ _ (by omega)).mono ?_
  rintro e w4 ⟨rfl, hb⟩
  have HE4 := Seal.mk ((HE3.out.below hb).push (.cells #[.int .i64 0, .int .i64 0] 24))
  have HB4 := Seal.mk ((HB3.out.trans (hb.mono HB3.out.size)).alloc (Nat.le_trans HB3.out.size hb.size) (.cells #[.int .i64 0, .int .i64 0] 24))
  clear hb HE3 HB3
  go_wp2_with fail
  refine (sign_no 1073741789 _ _ (by omega)).mono ?_
  rintro e w5 ⟨rfl, hb⟩
  have HE5 := Seal.mk ((HE4.out.below hb).push (.cells #[.int .i64 0, .int .i64 0] 24))
  have HB5 := Seal.mk ((HB4.out.trans (hb.mono HB4.out.size)).alloc (Nat.le_trans HB4.out.size hb.size) (.cells #[.int .i64 0, .int .i64 0] 24))
  clear hb HE4 HB4
  go_wp2_with fail
  refine (signq _ HE5.out.glob).mono ?_
  rintro e w6 ⟨rfl, hb⟩
  have HE6 := Seal.mk ((HE5.out.below hb).push (.cells #[.int .i64 238075162, .int .i64 124230148] 24))
  have HB6 := Seal.mk ((HB5.out.trans (hb.mono HB5.out.size)).alloc (Nat.le_trans HB5.out.size hb.size) (.cells #[.int .i64 238075162, .int .i64 124230148] 24))
  clear hb HE5 HB5
  have c20 := HE6.out.cell (g := w2.heap.size) (i := 0) (cs := #[.int .i64 964071050, .int .i64 759496991]) (t := 24) (by simp) rfl
  have c21 := HE6.out.cell (g := w2.heap.size) (i := 1) (cs := #[.int .i64 964071050, .int .i64 759496991]) (t := 24) (by simp) rfl
  have c40 := HE6.out.cell (g := w3.heap.size) (i := 0) (cs := #[.int .i64 964071050, .int .i64 759496991]) (t := 24) (by simp) rfl
  have c41 := HE6.out.cell (g := w3.heap.size) (i := 1) (cs := #[.int .i64 964071050, .int .i64 759496991]) (t := 24) (by simp) rfl
  have HE7 := Seal.mk (HE6.out.push (.cells #[.int .i64 964071050, .int .i64 759496991] 24))
  have d21 := HE7.out.cell (g := w2.heap.size) (i := 1) (cs := #[.int .i64 964071050, .int .i64 759496991]) (t := 24) (by simp) rfl
  have HE8 := Seal.mk (HE6.out.push (.cells #[.int .i64 964071050, .int .i64 1833238780] 24))
  have HB8 := Seal.mk (HB6.out.alloc HB6.out.size (.cells #[.int .i64 964071050, .int .i64 1833238780] 24))
  have e20 := HE8.out.cell (g := w2.heap.size) (i := 0) (cs := #[.int .i64 964071050, .int .i64 759496991]) (t := 24) (by simp) rfl
  have e21 := HE8.out.cell (g := w2.heap.size) (i := 1) (cs := #[.int .i64 964071050, .int .i64 759496991]) (t := 24) (by simp) rfl
  go_wp2_with fail
  refine (ver_at 1024 964071050 759496991 true _ _ _ _ _ ex5 HE8.out.isb (by decide) HE8.out.glob).mono ?_
  rintro e w9 ⟨rfl, hb⟩
  have HE9 := Seal.mk (HE8.out.below hb)
  have HB9 := Seal.mk (HB8.out.trans (hb.mono HB8.out.size))
  clear hb HE8 HB8
  have e20 := HE9.out.cell (g := w2.heap.size) (i := 0) (cs := #[.int .i64 964071050, .int .i64 759496991]) (t := 24) (by simp) rfl
  have e21 := HE9.out.cell (g := w2.heap.size) (i := 1) (cs := #[.int .i64 964071050, .int .i64 759496991]) (t := 24) (by simp) rfl
  go_wp2_with fail
  refine (ver_at 2 964071050 759496991 false _ _ _ _ _ ex6 HE9.out.isb (by decide) HE9.out.glob).mono ?_
  rintro e w10 ⟨rfl, hb⟩
  have HE10 := Seal.mk (HE9.out.below hb)
  have HB10 := Seal.mk (HB9.out.trans (hb.mono HB9.out.size))
  clear hb HE9 HB9
  have e20 := HE10.out.cell (g := w6.heap.size + 1) (i := 0) (cs := #[.int .i64 964071050, .int .i64 1833238780]) (t := 24) (by simp) rfl
  have e21 := HE10.out.cell (g := w6.heap.size + 1) (i := 1) (cs := #[.int .i64 964071050, .int .i64 1833238780]) (t := 24) (by simp) rfl
  go_wp2_with fail
  refine (ver_at 1024 964071050 1833238780 false _ _ _ _ _ ex7 HE10.out.isb (by decide) HE10.out.glob).mono ?_
  rintro e w11 ⟨rfl, hb⟩
  have HE11 := Seal.mk (HE10.out.below hb)
  have HB11 := Seal.mk (HB10.out.trans (hb.mono HB10.out.size))
  clear hb HE10 HB10
  have e20 := HE11.out.cell (g := w6.heap.size) (i := 0) (cs := #[.int .i64 238075162, .int .i64 124230148]) (t := 24) (by simp) rfl
  have e21 := HE11.out.cell (g := w6.heap.size) (i := 1) (cs := #[.int .i64 238075162, .int .i64 124230148]) (t := 24) (by simp) rfl
  go_wp2_with fail
  refine (ver_at 536870895 238075162 124230148 true none 0 0 [] _ ex8 (isB_nil _) (by decide) HE11.out.glob).mono ?_
  rintro e w12 ⟨rfl, hb⟩
  have HE12 := Seal.mk (HE11.out.below hb)
  have HB12 := Seal.mk (HB11.out.trans (hb.mono HB11.out.size))
  clear hb HE11 HB11
  have e20 := HE12.out.cell (g := w6.heap.size) (i := 0) (cs := #[.int .i64 238075162, .int .i64 124230148]) (t := 24) (by simp) rfl
  have e21 := HE12.out.cell (g := w6.heap.size) (i := 1) (cs := #[.int .i64 238075162, .int .i64 124230148]) (t := 24) (by simp) rfl
  go_wp2_with fail
  refine (ver_at 0 238075162 124230148 false none 0 0 [] _ ex9 (isB_nil _) (by decide) HE12.out.glob).mono ?_
  rintro e w13 ⟨rfl, hb⟩
  have HE13 := Seal.mk (HE12.out.below hb)
  have HB13 := Seal.mk (HB12.out.trans (hb.mono HB12.out.size))
  clear hb HE12 HB12
  go_wp2_with fail
  go_ret
  exact ⟨rfl, HB13.out⟩
end Frk
