/- Parts of the proof, joined. -/
import Derived.Test.YtllbjakfjpjfnaaGreatDoorVxFdg
/- Law 57: between, slices.Contains of numbers, formed. -/
namespace Frk
open Go Go.RowKit Go.Proofs
set_option maxRecDepth 100000

theorem fbetween_any (n m : Int) (w : World) : Calls Tryz.prog 20 #[.int .i64 n, .int .i64 m] w fun e w' => e = .returned (.bool (betw n m)) ∧ w = w' := by
  by_cases h1 : 0 ≤ n
  · by_cases h2 : n < m
    · have HR : Seal (betw n m = true) := ⟨betw_iff.2 ⟨h1, h2⟩⟩
      go_enter Tryz.func20, Tryz.ntmps20
      go_wp2
      go_ret
      exact ⟨by rw [HR.out]; rfl, rfl⟩
    · have HR : Seal (betw n m = false) := ⟨by cases h : betw n m with | false => rfl | true => exact absurd (betw_iff.1 h).2 h2⟩
      go_enter Tryz.func20, Tryz.ntmps20
      go_wp2
      go_ret
      exact ⟨by rw [HR.out]; rfl, rfl⟩
  · have HR : Seal (betw n m = false) := ⟨by cases h : betw n m with | false => rfl | true => exact absurd (betw_iff.1 h).1 h1⟩
    go_enter Tryz.func20, Tryz.ntmps20
    go_wp2
    go_ret
    exact ⟨by rw [HR.out]; rfl, rfl⟩

/-- what Index tells -/
def MemI (l : List Int) (x i : Int) : Prop := 0 ≤ i ↔ x ∈ l
theorem findex_any (a : Option Addr) (n c : Nat) (l : List Int) (x : Int) (w : World) (hd : IsIs w a n c l) :
    Calls Tryz.prog 78 #[.slice a n c, .int .i64 x] w fun e w' => ∃ i : Int, e = .returned (.int .i64 i) ∧ Seal (MemI l x i ∧ Below w.heap.size w w') := by
  have HD := Seal.mk hd
  have hll := hd.llen
  have hlm := hd.lmax
  clear hd
  go_enter Tryz.func78, Tryz.ntmps78
  go_wp2
  go_loopw [8] (fun i wr => ∃ k : Nat, k ≤ n ∧ i = .int .i64 k ∧ Seal (Below w.heap.size w wr ∧ x ∉ l.take k)) (fun i _ => n - (intOf i).toNat)
  case atStart => exact ⟨0, by omega, rfl, ⟨Below.refl _ _, by simp⟩⟩
  case round =>
    obtain ⟨wo, rfl⟩ : ∃ z, z = wr := ⟨_, rfl⟩
    obtain ⟨k, hk, rfl, hH⟩ := hrel
    by_cases hlt : k < n
    · have hD := HD.out.below hH.out.1
      rcases hD.at_ with hz | ⟨g, off, rfl, hr, hg⟩
      · omega
      · obtain ⟨y, hy⟩ : ∃ y, l[k]? = some y := ⟨_, List.getElem?_eq_getElem (by omega)⟩
        have cY : wo.cell? ⟨g, off + k, none⟩ = some (.int .i64 y) := by have := rangeC_row hr hD.each hy 0 (.int .i64 y) rfl; simpa using this
        have q5 : (k : Int) < (n : Int) := by omega
        have q6 : (0 : Int) ≤ (k : Int) := by omega
        have HY := Seal.mk hy
        clear hr hg hy hD
        by_cases he : x = y
        · have qe : (x == y) = true := by rw [beq_iff_eq]; exact he
          have HN : Seal (MemI l x k ∧ Below w.heap.size w wo) := ⟨⟨fun _ => by rw [he]; exact List.mem_of_getElem? HY.out, fun _ => q6⟩, hH.out.1⟩
          clear hH he
          go_wp2
          go_ret
          exact ⟨_, rfl, HN⟩
        · have qe : (x == y) = false := by rw [beq_eq_false_iff_ne]; exact he
          have HN : Seal (Below w.heap.size w wo ∧ x ∉ l.take (k + 1)) := ⟨hH.out.1, by rw [List.take_add_one, HY.out]; simp [he]; exact hH.out.2⟩
          clear hH he
          go_wp2
          go_roundw
          case rel => exact ⟨k + 1, by omega, by go_num, HN⟩
          case measure => simp [intOf]; omega
    · obtain rfl : k = n := by omega
      have q5 : ¬ (k : Int) < (k : Int) := by omega
      have HN : Seal (MemI l x (-1) ∧ Below w.heap.size w wo) := ⟨by
        have h := hH.out.2
        rw [List.take_of_length_le (by omega)] at h
        exact ⟨fun h0 => by omega, fun h0 => absurd h0 h⟩, hH.out.1⟩
      clear hH
      go_wp2
      go_ret
      exact ⟨_, rfl, HN⟩
theorem fcontains_any (a : Option Addr) (n c : Nat) (l : List Int) (x : Int) (w : World) (hd : IsIs w a n c l) :
    Calls Tryz.prog 48 #[.slice a n c, .int .i64 x] w fun e w' => e = .returned (.bool (decide (x ∈ l))) ∧ Below w.heap.size w w' := by
  have HI := Seal.mk (findex_any a n c l x w hd)
  obtain ⟨b, hb⟩ : ∃ b, b = decide (x ∈ l) := ⟨_, rfl⟩
  have HB0 := Seal.mk hb
  rw [← hb]
  clear hd hb
  go_enter Tryz.func48, Tryz.ntmps48
  go_wp2_with fail
  refine HI.out.mono ?_
  rintro e w1 ⟨i, rfl, hi⟩
  clear HI
  by_cases h0 : 0 ≤ i
  · have HB : Seal (b = true) := ⟨by rw [HB0.out]; exact decide_eq_true (hi.out.1.1 h0)⟩
    have HBe := Seal.mk hi.out.2
    clear HB0 hi
    go_wp2
    go_ret
    exact ⟨by rw [HB.out]; rfl, HBe.out⟩
  · have HB : Seal (b = false) := ⟨by rw [HB0.out]; exact decide_eq_false (fun h => h0 (hi.out.1.2 h))⟩
    have HBe := Seal.mk hi.out.2
    clear HB0 hi
    go_wp2
    go_ret
    exact ⟨by rw [HB.out]; simp [h0], HBe.out⟩
end Frk

/- Law 57: formed. -/
namespace Frk
open Go Go.RowKit Go.Proofs
set_option maxRecDepth 100000

theorem isIs_take {w : World} {a : Option Addr} {n c : Nat} {l : List Int} (h : IsIs w a n c l) {i : Nat} (hi : i ≤ n) : IsIs w a i c (l.take i) := by
  refine ⟨by rw [List.length_take, h.llen]; omega, by have := h.lcap; omega, by have := h.lmax; omega, h.cmax, fun x hx => h.each x (List.mem_of_mem_take hx), ?_⟩
  rcases h.at_ with h0 | ⟨g, o, e, hr, hg⟩
  · exact .inl (by omega)
  · refine .inr ⟨g, o, e, ?_, hg⟩
    rw [intC_flat, List.map_take] at *
    exact rangeAt_take hr i
theorem nodup_of_takes {l : List Int} (h : ∀ (j : Nat) (x : Int), l[j]? = some x → x ∉ l.take j) : l.Nodup := by
  rw [List.nodup_iff_pairwise_ne, List.pairwise_iff_getElem]
  intro i j hi hj hij e
  refine h j l[j] (List.getElem?_eq_getElem hj) ?_
  rw [← e]
  exact List.mem_iff_getElem?.2 ⟨i, by rw [List.getElem?_take_of_lt hij]; exact List.getElem?_eq_getElem hi⟩
theorem takes_of_nodup {l : List Int} (h : l.Nodup) (j : Nat) (x : Int) (hx : l[j]? = some x) : x ∉ l.take j := by
  intro hm
  obtain ⟨i, hi⟩ := List.mem_iff_getElem?.1 hm
  rw [List.getElem?_take] at hi
  split at hi
  · rename_i hij
    obtain ⟨h1, e1⟩ := List.getElem?_eq_some_iff.1 hx
    obtain ⟨h2, e2⟩ := List.getElem?_eq_some_iff.1 hi
    rw [List.nodup_iff_pairwise_ne, List.pairwise_iff_getElem] at h
    exact h i j h2 h1 hij (e2.trans e1.symm)
  · cases hi

set_option maxHeartbeats 8000000 in
theorem fformed_any (a : Option Addr) (n c : Nat) (off : List Int) (x : CaX) (w : World) (hO : IsIs w a n c off) (hK : IsIs w x.aK x.nK x.cK x.c.K) (hF : x.nF = x.c.F.length) :
    Calls Tryz.prog 22 #[.slice a n c, .agg x.C.toArray] w fun e w' => e = .returned (.bool (formB off x.c)) ∧ Below w.heap.size w w' := by
  obtain ⟨X, hX⟩ : ∃ X : World, X = w.alloc (.cells x.C.toArray 35) := ⟨_, rfl⟩
  have HB : Seal (Below w.heap.size w X) := ⟨by rw [hX]; exact below_alloc _ _⟩
  obtain ⟨gx, hgx⟩ : ∃ g, g = w.heap.size := ⟨_, rfl⟩
  have HC : Seal (Kf X fun W => CaAt W gx x) := ⟨fun W hW => by rw [hgx]; exact (caAt_of (rangeAt_row (by rw [hX]; exact heap_alloc_new w _)) : CaAt X w.heap.size x).below hW⟩
  have HO := Seal.mk hO
  have hll := hO.llen
  have hlm := hO.lmax
  obtain ⟨RB, hRB⟩ : ∃ R, R = formB off x.c := ⟨_, rfl⟩
  have HRB := Seal.mk hRB
  have HNo : Seal ((formB off x.c = true → False) → RB = false) := ⟨fun h => by
    cases hr : RB with
    | false => rfl
    | true => exact (h (hRB.symm.trans hr)).elim⟩
  have hKl := hK.llen
  obtain ⟨A, hA⟩ : ∃ A, A = x.c.A := ⟨_, rfl⟩
  obtain ⟨R, hR⟩ : ∃ A, A = x.c.R := ⟨_, rfl⟩
  obtain ⟨T, hT⟩ : ∃ A, A = x.c.T := ⟨_, rfl⟩
  obtain ⟨Ln, hLn⟩ : ∃ A, A = x.c.L := ⟨_, rfl⟩
  obtain ⟨Pl, hPl⟩ : ∃ A, A = x.c.P := ⟨_, rfl⟩
  obtain ⟨nF, hnF⟩ : ∃ A, A = x.nF := ⟨_, rfl⟩
  obtain ⟨nK, hnK⟩ : ∃ A, A = x.nK := ⟨_, rfl⟩
  have HX : Seal (A = x.c.A ∧ R = x.c.R ∧ T = x.c.T ∧ Ln = x.c.L ∧ Pl = x.c.P ∧ nF = x.c.F.length ∧ nK = x.c.K.length) := ⟨hA, hR, hT, hLn, hPl, hnF.trans hF, hnK.trans hKl.symm⟩
  have HCc : Seal (Kf X fun W => W.cell? ⟨gx, 0, none⟩ = some (.int .i64 Ln) ∧ W.cell? ⟨gx, 1, none⟩ = some (.int .i64 A) ∧ W.cell? ⟨gx, 2, none⟩ = some (.int .i64 R) ∧ W.cell? ⟨gx, 3, none⟩ = some (.slice x.aF nF x.cF) ∧ W.cell? ⟨gx, 4, none⟩ = some (.slice x.aK nK x.cK) ∧ W.cell? ⟨gx, 6, none⟩ = some (.int .i64 Pl) ∧ W.cell? ⟨gx, 14, none⟩ = some (.int .i64 T)) := ⟨fun W hW => by
    have h := HC.out W hW
    rw [hLn, hA, hR, hnF, hnK, hPl, hT]
    exact ⟨h.L, h.A, h.R, h.F, h.K, h.P, h.T⟩⟩
  obtain ⟨k0, k1, k2, k3, k4, k6, k14⟩ := HCc.out.at
  obtain ⟨CX, hCX⟩ : ∃ C, C = x.C.toArray := ⟨_, rfl⟩
  rw [← hCX] at hX ⊢
  rw [← hRB]
  clear hO hK hF hRB hKl hA hR hT hLn hPl hnF hnK hCX HC
  go_enter Tryz.func22, Tryz.ntmps22
  go_upto_region 1 with (fail)
  rw [← hX, ← hgx]
  clear hX hgx
  by_cases a1 : n < 2
  · have q1 : (n : Int) < 2 := by omega
    have HF : Seal (RB = false) := ⟨HNo.out (fun h => by
      obtain ⟨⟨h1, h2, h3⟩, ⟨h4, h5⟩, ⟨h6, h7, h8⟩, h9, h10, h11⟩ := formB_iff.1 h
      obtain ⟨e1, e2, e3, e4, e5, e6, e7⟩ := HX.out
      omega)⟩
    clear HNo
    go_wp2
    go_ret
    exact ⟨by rw [HF.out]; rfl, HB.out⟩
  · by_cases a2 : 9 < n
    · have q1 : ¬ (n : Int) < 2 := by omega
      have q2 : (9 : Int) < (n : Int) := by omega
      have HF : Seal (RB = false) := ⟨HNo.out (fun h => by
        obtain ⟨⟨h1, h2, h3⟩, ⟨h4, h5⟩, ⟨h6, h7, h8⟩, h9, h10, h11⟩ := formB_iff.1 h
        obtain ⟨e1, e2, e3, e4, e5, e6, e7⟩ := HX.out
        omega)⟩
      clear HNo
      go_wp2
      go_ret
      exact ⟨by rw [HF.out]; rfl, HB.out⟩
    · have q1 : ¬ (n : Int) < 2 := by omega
      have q2 : ¬ (9 : Int) < (n : Int) := by omega
      by_cases a3 : nK = n
      rotate_left
      · have q3 : ((nK : Int) == (n : Int)) = false := by rw [beq_eq_false_iff_ne]; omega
        have q4 : ((nK : Int) != (n : Int)) = true := by rw [bne_iff_ne]; omega
        have q5 : ¬ nK = n := a3
        have HF : Seal (RB = false) := ⟨HNo.out (fun h => by
          obtain ⟨⟨h1, h2, h3⟩, ⟨h4, h5⟩, ⟨h6, h7, h8⟩, h9, h10, h11⟩ := formB_iff.1 h
          obtain ⟨e1, e2, e3, e4, e5, e6, e7⟩ := HX.out
          omega)⟩
        clear HNo
        go_wp2
        go_ret
        exact ⟨by rw [HF.out]; rfl, HB.out⟩
      · have HLn : Seal (2 ≤ off.length ∧ off.length ≤ 9 ∧ x.c.K.length = off.length) := ⟨by have := HX.out.2.2.2.2.2.2; omega⟩
        have hn9 : n ≤ 9 := by omega
        subst a3
        have HS : Seal (Below w.heap.size w X ∧ Below X.heap.size X X ∧ ∀ (j : Nat) (y : Int), j < 0 → off[j]? = some y → betw y 24 = true ∧ y ∉ off.take j) := ⟨HB.out, Below.refl _ _, fun j y hj => by omega⟩
        clear a1 a2 HB
        go_wp2
        go_loopw [26] (fun i wr => ∃ k : Nat, k ≤ nK ∧ i = .int .i64 k ∧ Seal (Below w.heap.size w wr ∧ Below X.heap.size X wr ∧ ∀ (j : Nat) (y : Int), j < k → off[j]? = some y → betw y 24 = true ∧ y ∉ off.take j)) (fun i _ => nK - (intOf i).toNat)
        case atStart => exact ⟨0, by omega, rfl, HS⟩
        case round =>
          obtain ⟨wo, rfl⟩ : ∃ z, z = wr := ⟨_, rfl⟩
          obtain ⟨k, hk, rfl, hH⟩ := hrel
          clear HS k0 k1 k2 k3 k4 k6 k14
          by_cases hlt : k < nK
          · have hD := HO.out.below hH.out.1
            have hSub := isIs_take hD (show k ≤ nK by omega)
            rcases hD.at_ with hz | ⟨g, o, rfl, hr, hg⟩
            · omega
            obtain ⟨y, hy⟩ : ∃ y, off[k]? = some y := ⟨_, List.getElem?_eq_getElem (by omega)⟩
            have cY : wo.cell? ⟨g, o + k, none⟩ = some (.int .i64 y) := by have := rangeC_row hr hD.each hy 0 (.int .i64 y) rfl; simpa using this
            have q5 : (k : Int) < (nK : Int) := by omega
            have q6 : (0 : Int) ≤ (k : Int) := by omega
            have hcap := hD.lcap
            have q7 : (k : Int) ≤ (c : Int) := by omega
            obtain ⟨b, hb⟩ : ∃ b, b = betw y 24 := ⟨_, rfl⟩
            obtain ⟨m, hm⟩ : ∃ m, m = decide (y ∈ off.take k) := ⟨_, rfl⟩
            have HBt : Seal (Calls Tryz.prog 20 #[.int .i64 y, .int .i64 24] wo fun e w' => e = .returned (.bool b) ∧ wo = w') := ⟨by rw [hb]; exact fbetween_any y 24 wo⟩
            have HCo : Seal (Calls Tryz.prog 48 #[.slice (some ⟨g, o, none⟩) k c, .int .i64 y] wo fun e w' => e = .returned (.bool m) ∧ Below wo.heap.size wo w') := ⟨by rw [hm]; exact fcontains_any _ k c _ y wo hSub⟩
            have HY : Seal (off[k]? = some y ∧ b = betw y 24 ∧ m = decide (y ∈ off.take k)) := ⟨hy, hb, hm⟩
            have HB := Seal.mk hH.out.1
            clear hr hg hy hb hm hD hSub
            go_wp2_with fail
            refine HBt.out.mono ?_
            rintro e w1 ⟨rfl, rfl⟩
            clear HBt
            cases b with
            | false =>
              clear hH
              have HF : Seal (RB = false) := ⟨HNo.out (fun h => by
                obtain ⟨⟨h1, h2, h3⟩, ⟨h4, h5⟩, ⟨h6, h7, h8⟩, h9, h10, h11⟩ := formB_iff.1 h
                obtain ⟨e1, e2, e3, e4, e5, e6, e7⟩ := HX.out
                have h12 := h4 y (List.mem_of_getElem? HY.out.1); rw [← HY.out.2.1] at h12; cases h12)⟩
              clear HNo
              go_wp2
              go_ret
              exact ⟨by rw [HF.out]; rfl, HB.out⟩
            | true =>
              go_wp2_with fail
              refine HCo.out.mono ?_
              rintro e w1 ⟨rfl, hb⟩
              have HB1 := Seal.mk (HB.out.trans (hb.mono HB.out.size))
              have HX1 := Seal.mk (hH.out.2.1.trans (hb.mono hH.out.2.1.size))
              clear hb HCo HB
              cases m with
              | true =>
                have HB := HB1
                clear hH
                have HF : Seal (RB = false) := ⟨HNo.out (fun h => by
                  obtain ⟨⟨h1, h2, h3⟩, ⟨h4, h5⟩, ⟨h6, h7, h8⟩, h9, h10, h11⟩ := formB_iff.1 h
                  obtain ⟨e1, e2, e3, e4, e5, e6, e7⟩ := HX.out
                  have h12 := takes_of_nodup h5 k y HY.out.1; exact h12 (of_decide_eq_true HY.out.2.2.symm))⟩
                clear HNo
                go_wp2
                go_ret
                exact ⟨by rw [HF.out]; rfl, HB.out⟩
              | false =>
                have HN : Seal (Below w.heap.size w w1 ∧ Below X.heap.size X w1 ∧ ∀ (j : Nat) (y : Int), j < k + 1 → off[j]? = some y → betw y 24 = true ∧ y ∉ off.take j) := ⟨HB1.out, HX1.out, fun j z hj hz => by
                  rcases Nat.lt_or_ge j k with h | h
                  · exact hH.out.2.2 j z h hz
                  · obtain rfl : j = k := by omega
                    rw [HY.out.1] at hz
                    cases hz
                    exact ⟨HY.out.2.1.symm, of_decide_eq_false HY.out.2.2.symm⟩⟩
                clear hH
                go_wp2
                go_roundw
                case rel => exact ⟨k + 1, by omega, by go_num, HN⟩
                case measure => simp [intOf]; omega
          · obtain rfl : k = nK := by omega
            have q5 : ¬ (k : Int) < (k : Int) := by omega
            have HOf : Seal ((∀ y ∈ off, betw y 24 = true) ∧ off.Nodup) := ⟨by
              have h := hH.out.2.2
              refine ⟨fun y hy => ?_, nodup_of_takes fun j y hy => (h j y (by have := (List.getElem?_eq_some_iff.1 hy).1; omega) hy).2⟩
              obtain ⟨j, hj⟩ := List.mem_iff_getElem?.1 hy
              exact (h j y (by have := (List.getElem?_eq_some_iff.1 hj).1; omega) hj).1⟩
            have HB := Seal.mk hH.out.1
            obtain ⟨k0, k1, k2, k3, k4, k6, k14⟩ := HCc.out wo hH.out.2.1
            clear hH
            obtain ⟨b1, hb1⟩ : ∃ b, b = betw A R := ⟨_, rfl⟩
            obtain ⟨b3, hb3⟩ : ∃ b, b = betw T 2097152 := ⟨_, rfl⟩
            obtain ⟨b4, hb4⟩ : ∃ b, b = betw Ln 64 := ⟨_, rfl⟩
            obtain ⟨b6, hb6⟩ : ∃ b, b = betw Pl nF := ⟨_, rfl⟩
            have HBs : Seal (b1 = betw A R ∧ b3 = betw T 2097152 ∧ b4 = betw Ln 64 ∧ b6 = betw Pl nF) := ⟨hb1, hb3, hb4, hb6⟩
            have C1 : Seal (Calls Tryz.prog 20 #[.int .i64 A, .int .i64 R] wo fun e w' => e = .returned (.bool b1) ∧ wo = w') := ⟨by rw [hb1]; exact fbetween_any A R wo⟩
            have C3 : Seal (Calls Tryz.prog 20 #[.int .i64 T, .int .i64 2097152] wo fun e w' => e = .returned (.bool b3) ∧ wo = w') := ⟨by rw [hb3]; exact fbetween_any T _ wo⟩
            have C4 : Seal (Calls Tryz.prog 20 #[.int .i64 Ln, .int .i64 64] wo fun e w' => e = .returned (.bool b4) ∧ wo = w') := ⟨by rw [hb4]; exact fbetween_any Ln _ wo⟩
            have C6 : Seal (Calls Tryz.prog 20 #[.int .i64 Pl, .int .i64 (nF : Nat)] wo fun e w' => e = .returned (.bool b6) ∧ wo = w') := ⟨by rw [hb6]; exact fbetween_any Pl _ wo⟩
            clear hb1 hb3 hb4 hb6
            go_wp2_with fail
            refine C1.out.mono ?_
            rintro e w1 ⟨rfl, rfl⟩
            clear C1
            cases b1 with
            | false =>
              have HF : Seal (RB = false) := ⟨HNo.out (fun h => by
                obtain ⟨⟨h1, h2, h3⟩, ⟨h4, h5⟩, ⟨h6, h7, h8⟩, h9, h10, h11⟩ := formB_iff.1 h
                obtain ⟨e1, e2, e3, e4, e5, e6, e7⟩ := HX.out
                rw [e1, e2, h6] at HBs; cases HBs.out.1)⟩
              clear HNo
              go_wp2
              go_ret
              exact ⟨by rw [HF.out]; rfl, HB.out⟩
            | true =>
              by_cases a5 : R < 2097152
              rotate_left
              · skip
                have HF : Seal (RB = false) := ⟨HNo.out (fun h => by
                  obtain ⟨⟨h1, h2, h3⟩, ⟨h4, h5⟩, ⟨h6, h7, h8⟩, h9, h10, h11⟩ := formB_iff.1 h
                  obtain ⟨e1, e2, e3, e4, e5, e6, e7⟩ := HX.out
                  omega)⟩
                clear HNo
                go_wp2
                go_ret
                exact ⟨by rw [HF.out]; rfl, HB.out⟩
              · go_wp2_with fail
                refine C3.out.mono ?_
                rintro e w1 ⟨rfl, rfl⟩
                clear C3
                cases b3 with
                | false =>
                  have HF : Seal (RB = false) := ⟨HNo.out (fun h => by
                    obtain ⟨⟨h1, h2, h3⟩, ⟨h4, h5⟩, ⟨h6, h7, h8⟩, h9, h10, h11⟩ := formB_iff.1 h
                    obtain ⟨e1, e2, e3, e4, e5, e6, e7⟩ := HX.out
                    rw [e3, h8] at HBs; cases HBs.out.2.1)⟩
                  clear HNo
                  go_wp2
                  go_ret
                  exact ⟨by rw [HF.out]; rfl, HB.out⟩
                | true =>
                  go_wp2_with fail
                  refine C4.out.mono ?_
                  rintro e w1 ⟨rfl, rfl⟩
                  clear C4
                  cases b4 with
                  | false =>
                    have HF : Seal (RB = false) := ⟨HNo.out (fun h => by
                      obtain ⟨⟨h1, h2, h3⟩, ⟨h4, h5⟩, ⟨h6, h7, h8⟩, h9, h10, h11⟩ := formB_iff.1 h
                      obtain ⟨e1, e2, e3, e4, e5, e6, e7⟩ := HX.out
                      rw [e4, h9] at HBs; cases HBs.out.2.2.1)⟩
                    clear HNo
                    go_wp2
                    go_ret
                    exact ⟨by rw [HF.out]; rfl, HB.out⟩
                  | true =>
                    by_cases a7 : nF ≤ 64
                    rotate_left
                    · have q8 : ¬ (nF : Int) ≤ 64 := by omega
                      have HF : Seal (RB = false) := ⟨HNo.out (fun h => by
                        obtain ⟨⟨h1, h2, h3⟩, ⟨h4, h5⟩, ⟨h6, h7, h8⟩, h9, h10, h11⟩ := formB_iff.1 h
                        obtain ⟨e1, e2, e3, e4, e5, e6, e7⟩ := HX.out
                        omega)⟩
                      clear HNo
                      go_wp2
                      go_ret
                      exact ⟨by rw [HF.out]; rfl, HB.out⟩
                    · have q8 : (nF : Int) ≤ 64 := by omega
                      go_wp2_with fail
                      refine C6.out.mono ?_
                      rintro e w1 ⟨rfl, rfl⟩
                      clear C6
                      cases b6 with
                      | false =>
                        have HF : Seal (RB = false) := ⟨HNo.out (fun h => by
                          obtain ⟨⟨h1, h2, h3⟩, ⟨h4, h5⟩, ⟨h6, h7, h8⟩, h9, h10, h11⟩ := formB_iff.1 h
                          obtain ⟨e1, e2, e3, e4, e5, e6, e7⟩ := HX.out
                          rw [e5, e6, h11] at HBs; cases HBs.out.2.2.2)⟩
                        clear HNo
                        go_wp2
                        go_ret
                        exact ⟨by rw [HF.out]; rfl, HB.out⟩
                      | true =>
                        have HF : Seal (RB = true) := ⟨by
                          obtain ⟨e1, e2, e3, e4, e5, e6, e7⟩ := HX.out
                          obtain ⟨f1, f3, f4, f6⟩ := HBs.out
                          rw [e1, e2] at f1
                          rw [e3] at f3
                          rw [e4] at f4
                          rw [e5, e6] at f6
                          rw [HRB.out]
                          exact formB_iff.2 ⟨HLn.out, HOf.out, ⟨f1.symm, by omega, f3.symm⟩, f4.symm, by omega, f6.symm⟩⟩
                        go_wp2
                        go_ret
                        exact ⟨by rw [HF.out]; rfl, HB.out⟩
end Frk

