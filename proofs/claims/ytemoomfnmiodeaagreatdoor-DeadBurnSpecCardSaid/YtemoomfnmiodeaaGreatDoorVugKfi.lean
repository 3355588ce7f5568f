/- Parts of the proof, joined. -/
import Derived.Test.YtemoomfnmiodeaaGreatDoorVuKec
/- Law 45: the search of kept letters. -/
namespace Frk
open Go Go.RowKit Go.Proofs
set_option maxRecDepth 100000

theorem kletter_any (x : Ltr) (w : World) :
    Calls Tryz.prog 31 #[.agg x.C.toArray] w fun e w' => e = .returned (.int .i64 x.N) ∧ Below w.heap.size w w' := by
  obtain ⟨X, hX⟩ : ∃ X : World, X = w.alloc (.cells x.C.toArray 30) := ⟨_, rfl⟩
  have HB : Seal (Below w.heap.size w X) := ⟨by rw [hX]; exact below_alloc _ _⟩
  have hr : X.rangeAt w.heap.size 0 x.C := rangeAt_row (by rw [hX]; exact heap_alloc_new w _)
  have c0 : X.cell? ⟨w.heap.size, 0, none⟩ = some (.int .i64 x.N) := by have := hr 0 (.int .i64 x.N) rfl; simpa using this
  obtain ⟨C, hC⟩ : ∃ C, C = x.C := ⟨_, rfl⟩
  rw [← hC] at hX ⊢
  clear hr hC
  go_enter Tryz.func31, Tryz.ntmps31
  go_upto_region 1 with (fail)
  rw [← hX]
  clear hX
  go_wp2
  go_ret
  exact ⟨rfl, HB.out⟩

theorem ksub_any (x : Ltr) (n : Int) (gb : Nat) (w : World) (hb : w.cell? ⟨gb, 0, none⟩ = some (.func (.func 31) #[] #[])) (h32 : x.T.length = 32) (h : I64 (x.N - n)) :
    Calls Tryz.prog 56 #[.agg x.C.toArray, .int .i64 n, .pointer (some ⟨gb, 0, none⟩)] w fun e w' => e = .returned (.int .i64 (x.N - n)) ∧ Below w.heap.size w w' := by
  obtain ⟨X, hX⟩ : ∃ X : World, X = w.alloc (.cells x.C.toArray 30) := ⟨_, rfl⟩
  have HB : Seal (Below w.heap.size w X) := ⟨by rw [hX]; exact below_alloc _ _⟩
  have hr : X.rangeAt w.heap.size 0 x.C := rangeAt_row (by rw [hX]; exact heap_alloc_new w _)
  have c0 : X.cell? ⟨gb, 0, none⟩ = some (.func (.func 31) #[] #[]) := (HB.out.cell (p := ⟨gb, 0, none⟩) (block_lt_of_cell hb)).trans hb
  obtain ⟨C, hC⟩ : ∃ C, C = x.C := ⟨_, rfl⟩
  have HC : Seal (Calls Tryz.prog 31 #[.agg C.toArray] X fun e w' => e = .returned (.int .i64 x.N) ∧ Below X.heap.size X w') := ⟨by rw [hC]; exact kletter_any x X⟩
  have iX : (Tryz.prog.info? 30).map (·.size) = some C.length := by rw [hC]; exact Ltr.info h32
  have ut := Tryz.underlying30
  have q1 : IntKind.i64.wrap (x.N - n) = x.N - n := IntWalk.i64_in _ h
  rw [← hC] at hX hr ⊢
  clear hC hb h
  go_enter Tryz.func56, Tryz.ntmps56
  go_upto_region 1 with (fail)
  rw [← hX]
  clear hX
  go_wp2_with (refine wpList_load_mid rfl 30 (.tmp 3) rfl w.heap.size 0 rfl C _ hr ut rfl iX ?_; (try simp only [Act.put, List.setIfInBounds_toArray, List.set_cons_zero, List.set_cons_succ]))
  refine HC.out.mono ?_
  rintro e w1 ⟨rfl, hb⟩
  have HB1 := Seal.mk (HB.out.trans (hb.mono HB.out.size))
  clear hb HC hr c0
  go_wp2
  go_ret
  exact ⟨rfl, HB1.out⟩
end Frk

/- Law 45: the search (under way: printed by genksr.py, the body still to be turned: no boxed target, the call's third argument) -/
namespace Frk
open Go Go.RowKit Go.Proofs
set_option maxRecDepth 100000

theorem midZ_bits (i j : Nat) (_h : i + j < 9223372036854775808) : ((i : Int) + (j : Int)) / 2 = (((i + j) / 2 : Nat) : Int) := by omega

set_option maxHeartbeats 2000000 in
theorem ksearch_any (a : Option Addr) (len cap : Nat) (l : List Ltr) (n : Int) (gb : Nat) (w : World) (hd : IsC Ltr.C 38 w a len cap l) (h32 : ∀ x ∈ l, x.T.length = 32) (hdf : ∀ x ∈ l, I64 (x.N - n)) (hb : w.cell? ⟨gb, 0, none⟩ = some (.func (.func 31) #[] #[])) (hu : RisK Ltr.N l) :
    Calls Tryz.prog 55 #[.slice a len cap, .int .i64 n, .func (.func 56) #[] #[.pointer (some ⟨gb, 0, none⟩)]] w fun e w' => e = .returned (.tuple #[.int .i64 (atK Ltr.N l n : Nat), .bool (hasK Ltr.N l n)]) ∧ Below w.heap.size w w' := by
  have HL := Seal.mk hd.llen
  have hlm := hd.lmax
  have HU := Seal.mk hu
  have H32 := Seal.mk h32
  have ut := Tryz.underlying30
  have HC : Seal (∀ (x : Ltr) W, x ∈ l → Below w.heap.size w W → Calls Tryz.prog 56 #[.agg x.C.toArray, .int .i64 n, .pointer (some ⟨gb, 0, none⟩)] W fun e w' => e = .returned (.int .i64 (x.N - n)) ∧ Below W.heap.size W w') := ⟨fun x W hx hW => ksub_any x n gb W ((hW.cell (p := ⟨gb, 0, none⟩) (block_lt_of_cell hb)).trans hb) (h32 x hx) (hdf x hx)⟩
  have HD : Seal (IsC Ltr.C 38 w a len cap l) := ⟨hd⟩
  clear hd hu h32 hdf hb
  go_enter Tryz.func55, Tryz.ntmps55
  go_wp2
  go_loopw [9, 10] (fun lo hi wr => ∃ i j : Nat, i ≤ j ∧ j ≤ len ∧ lo = .int .i64 i ∧ hi = .int .i64 j ∧ Seal (Below w.heap.size w wr ∧ (∀ t x, t < i → l[t]? = some x → x.N < n) ∧ (∀ x, l[j]? = some x → ¬ x.N < n))) (fun lo hi _ => (intOf hi - intOf lo).toNat)
  case atStart => exact ⟨0, len, by omega, by omega, rfl, rfl, ⟨Below.refl _ _, fun t x ht => by omega, fun x hx => by have := (List.getElem?_eq_some_iff.1 hx).1; have := HL.out; omega⟩⟩
  case round =>
    obtain ⟨wo, rfl⟩ : ∃ z, z = wr := ⟨_, rfl⟩
    obtain ⟨i, j, hij, hj, rfl, rfl, hH⟩ := hrel
    by_cases hlt : i < j
    · have HDr := HD.out.below hH.out.1
      rcases HDr.at_ with h0 | ⟨g, off, rfl, hr, hg⟩
      · omega
      · obtain ⟨m, hm⟩ : ∃ m, m = (i + j) / 2 := ⟨_, rfl⟩
        have hm1 : i ≤ m ∧ m < j := by omega
        have q0 := midZ_bits i j (by omega)
        rw [← hm] at q0
        obtain ⟨x, hx⟩ : ∃ x, l[m]? = some x := ⟨_, List.getElem?_eq_getElem (by have := HL.out; omega)⟩
        have r1 := rangeC_row hr HDr.each hx
        have hxl := List.mem_of_getElem? hx
        obtain ⟨CX, hCX⟩ : ∃ C, C = x.C := ⟨_, rfl⟩
        obtain ⟨d, hd⟩ : ∃ d, d = x.N - n := ⟨_, rfl⟩
        have HC1 : Seal (Calls Tryz.prog 56 #[.agg CX.toArray, .int .i64 n, .pointer (some ⟨gb, 0, none⟩)] wo fun e w' => e = .returned (.int .i64 d) ∧ Below wo.heap.size wo w') := ⟨by rw [hCX, hd]; exact HC.out x wo hxl hH.out.1⟩
        have i2 : (Tryz.prog.info? 30).map (·.size) = some CX.length := by rw [hCX]; exact Ltr.info (H32.out x hxl)
        rw [← hCX] at r1
        have HX := Seal.mk hx
        have HDd := Seal.mk hd
        have q5 : (m : Int) < (len : Int) := by omega
        have q6 : (0 : Int) ≤ (m : Int) := by omega
        clear hr HDr hx hm hCX hd hxl
        go_wp2_with (refine wpList_load_mid rfl 30 (.tmp 27) rfl g (off + m * 38) rfl CX _ r1 ut rfl i2 ?_; (try simp only [Act.put, List.setIfInBounds_toArray, List.set_cons_zero, List.set_cons_succ]))
        refine HC1.out.mono ?_
        rintro e w1 ⟨rfl, hb1⟩
        have HB1 : Seal (Below w.heap.size w w1) := ⟨hH.out.1.trans (hb1.mono hH.out.1.size)⟩
        clear hb1 HC1 r1 q0
        by_cases hc : d < 0
        · have HL1 : Seal (x.N < n) := ⟨by have := HDd.out; omega⟩
          clear HDd
          go_wp2
          go_roundw
          case rel =>
            refine ⟨m + 1, j, by omega, hj, by go_num, rfl, ⟨HB1.out, fun t y ht hy => ?_, fun y hy => by have := hH.out.2.2 y hy; omega⟩⟩
            by_cases htm : t = m
            · subst htm
              rw [HX.out] at hy
              cases hy
              exact HL1.out
            · have := HU.out.lt (show t < m by omega) hy HX.out
              have := HL1.out
              omega
          case measure => simp [intOf]; omega
        · have HL1 : Seal (¬ x.N < n) := ⟨by have := HDd.out; omega⟩
          clear HDd
          go_wp2
          go_roundw
          case rel => exact ⟨i, m, hm1.1, by omega, rfl, rfl, ⟨HB1.out, hH.out.2.1, fun y hy => by rw [HX.out] at hy; cases hy; have := HL1.out; omega⟩⟩
          case measure => simp [intOf]; omega
    · obtain rfl : i = j := by omega
      have HA : Seal (i = atK Ltr.N l n) := ⟨atK_unique (by rw [HL.out]; exact hj) hH.out.2.1 hH.out.2.2⟩
      have HBw := Seal.mk hH.out.1
      by_cases hil : i < len
      · have HDr := HD.out.below hH.out.1
        rcases HDr.at_ with h0 | ⟨g, off, rfl, hr, hg⟩
        · omega
        · obtain ⟨x, hx⟩ : ∃ x, l[i]? = some x := ⟨_, List.getElem?_eq_getElem (by have := HL.out; omega)⟩
          have r1 := rangeC_row hr HDr.each hx
          have hxl := List.mem_of_getElem? hx
          obtain ⟨CX, hCX⟩ : ∃ C, C = x.C := ⟨_, rfl⟩
          obtain ⟨d, hd⟩ : ∃ d, d = x.N - n := ⟨_, rfl⟩
          have HC1 : Seal (Calls Tryz.prog 56 #[.agg CX.toArray, .int .i64 n, .pointer (some ⟨gb, 0, none⟩)] wo fun e w' => e = .returned (.int .i64 d) ∧ Below wo.heap.size wo w') := ⟨by rw [hCX, hd]; exact HC.out x wo hxl hH.out.1⟩
          have i2 : (Tryz.prog.info? 30).map (·.size) = some CX.length := by rw [hCX]; exact Ltr.info (H32.out x hxl)
          rw [← hCX] at r1
          have HF : Seal ((d == 0) = hasK Ltr.N l n) := ⟨by
            rw [Bool.eq_iff_iff, hasK_at HU.out, ← HA.out, beq_iff_eq]
            constructor
            · intro h; exact ⟨x, hx, by omega⟩
            · rintro ⟨y, hy, e⟩
              rw [hx] at hy
              cases hy
              omega⟩
          have q5 : (i : Int) < (len : Int) := by omega
          have q6 : (0 : Int) ≤ (i : Int) := by omega
          clear hr HDr hx hlt hCX hd hxl hH
          go_wp2_with (refine wpList_load_mid_g (by kernel_rfl) 30 (.tmp 43) rfl g (off + i * 38) rfl CX _ r1 ut rfl i2 ?_; (try simp only [Act.put, List.setIfInBounds_toArray, List.set_cons_zero, List.set_cons_succ]))
          refine HC1.out.mono ?_
          rintro e w1 ⟨rfl, hb1⟩
          have HB1 : Seal (Below w.heap.size w w1) := ⟨HBw.out.trans (hb1.mono HBw.out.size)⟩
          clear hb1 HC1 r1
          go_wp2
          go_ret2
          exact ⟨by rw [← HA.out, ← HF.out]; rfl, HB1.out⟩
      · have HF : Seal (hasK Ltr.N l n = false) := ⟨by
          cases h : hasK Ltr.N l n with
          | false => rfl
          | true =>
            obtain ⟨x, hx, _⟩ := (hasK_at HU.out).1 h
            rw [← HA.out] at hx
            have := (List.getElem?_eq_some_iff.1 hx).1
            have := HL.out
            omega⟩
        have q5 : ¬ (i : Int) < (len : Int) := by omega
        clear hH hlt
        go_wp2
        go_ret2
        exact ⟨by rw [← HA.out, HF.out]; rfl, HBw.out⟩
end Frk

/- Law 45: dead.search at kept letters. -/
namespace Frk
open Go Go.RowKit Go.Proofs
set_option maxRecDepth 100000

theorem kfind_any (a : Option Addr) (len cap : Nat) (l : List Ltr) (n : Int) (w : World) (hd : IsC Ltr.C 38 w a len cap l) (h32 : ∀ x ∈ l, x.T.length = 32) (hdf : ∀ x ∈ l, I64 (x.N - n)) (hu : RisK Ltr.N l) :
    Calls Tryz.prog 30 #[.slice a len cap, .int .i64 n, .func (.func 31) #[] #[]] w fun e w' => e = .returned (.tuple #[.int .i64 (atK Ltr.N l n : Nat), .bool (hasK Ltr.N l n)]) ∧ Below w.heap.size w w' := by
  obtain ⟨X, hX⟩ : ∃ X : World, X = w.alloc (.cells #[.func (.func 31) #[] #[]] 66) := ⟨_, rfl⟩
  have HB : Seal (Below w.heap.size w X) := ⟨by rw [hX]; exact below_alloc _ _⟩
  have c0 : X.cell? ⟨w.heap.size, 0, none⟩ = some (.func (.func 31) #[] #[]) := by rw [hX, cell_of_row _ _ _ _ _ _ (heap_alloc_new w _)]; rfl
  obtain ⟨i, hi⟩ : ∃ i, i = atK Ltr.N l n := ⟨_, rfl⟩
  obtain ⟨b, hb⟩ : ∃ b, b = hasK Ltr.N l n := ⟨_, rfl⟩
  have HS := Seal.mk (ksearch_any a len cap l n w.heap.size X (hd.below HB.out) h32 hdf c0 hu)
  rw [← hi, ← hb] at HS ⊢
  clear hd h32 hdf hu hi hb c0
  go_enter Tryz.func30, Tryz.ntmps30
  go_upto_region 1 with (fail)
  rw [← hX]
  clear hX
  go_wp2_with fail
  refine HS.out.mono ?_
  rintro e w1 ⟨rfl, hb⟩
  have HB1 := Seal.mk (HB.out.trans (hb.mono HB.out.size))
  clear hb HS
  go_wp2
  go_ret2
  exact ⟨rfl, HB1.out⟩
end Frk

