/- Law 45: slices.IndexFunc at kept letters. -/
import Derived.Test.YtemoomfnmiodeaaGreatDoorVuKdl
namespace Frk
open Go Go.RowKit Go.Proofs
set_option maxRecDepth 100000

/-- the first that answers, or -1 -/
def fstI (p : Ltr → Bool) (l : List Ltr) : Int := if l.findIdx p < l.length then ((l.findIdx p : Nat) : Int) else -1
theorem fstI_hit {p : Ltr → Bool} {l : List Ltr} {k : Nat} {x : Ltr} (hx : l[k]? = some x) (hp : p x = true) (h : ∀ j y, j < k → l[j]? = some y → p y = false) : fstI p l = (k : Int) := by
  obtain ⟨hk, ex⟩ := List.getElem?_eq_some_iff.1 hx
  have e : l.findIdx p = k := by
    rw [List.findIdx_eq hk]
    exact ⟨by rw [ex]; exact hp, fun j hj => by
      have := h j _ hj (List.getElem?_eq_getElem (by omega))
      simpa using this⟩
  unfold fstI
  rw [e, if_pos hk]
theorem fstI_miss {p : Ltr → Bool} {l : List Ltr} (h : ∀ x ∈ l, p x = false) : fstI p l = -1 := by
  have e : l.findIdx p = l.length := by
    rw [List.findIdx_eq_length]
    exact fun x hx => by have := h x hx; simpa using this
  unfold fstI
  rw [e, if_neg (by omega)]

theorem ksame_any (x : Ltr) (no : Int) (gb : Nat) (w : World) (hb : w.cell? ⟨gb, 0, none⟩ = some (.int .i64 no)) :
    Calls Tryz.prog 36 #[.agg x.C.toArray, .pointer (some ⟨gb, 0, none⟩)] w fun e w' => e = .returned (.bool (x.N == no)) ∧ Below w.heap.size w w' := by
  obtain ⟨X, hX⟩ : ∃ X : World, X = w.alloc (.cells x.C.toArray 30) := ⟨_, rfl⟩
  have HB : Seal (Below w.heap.size w X) := ⟨by rw [hX]; exact below_alloc _ _⟩
  have hr : X.rangeAt w.heap.size 0 x.C := rangeAt_row (by rw [hX]; exact heap_alloc_new w _)
  have c0 : X.cell? ⟨w.heap.size, 0, none⟩ = some (.int .i64 x.N) := by have := hr 0 (.int .i64 x.N) rfl; simpa using this
  have c1 : X.cell? ⟨gb, 0, none⟩ = some (.int .i64 no) := (HB.out.cell (p := ⟨gb, 0, none⟩) (block_lt_of_cell hb)).trans hb
  obtain ⟨C, hC⟩ : ∃ C, C = x.C := ⟨_, rfl⟩
  rw [← hC] at hX ⊢
  clear hr hC hb
  go_enter Tryz.func36, Tryz.ntmps36
  go_upto_region 1 with (fail)
  rw [← hX]
  clear hX
  go_wp2
  go_ret
  exact ⟨rfl, HB.out⟩

theorem kover_any (x : Ltr) (t : Int) (w : World) :
    Calls Tryz.prog 39 #[.int .i64 t, .agg x.C.toArray] w fun e w' => e = .returned (.bool (decide (x.U ≤ t))) ∧ Below w.heap.size w w' := by
  obtain ⟨X, hX⟩ : ∃ X : World, X = w.alloc (.cells x.C.toArray 30) := ⟨_, rfl⟩
  have HB : Seal (Below w.heap.size w X) := ⟨by rw [hX]; exact below_alloc _ _⟩
  have hr : X.rangeAt w.heap.size 0 x.C := rangeAt_row (by rw [hX]; exact heap_alloc_new w _)
  have c1 : X.cell? ⟨w.heap.size, 1, none⟩ = some (.int .i64 x.U) := by have := hr 1 (.int .i64 x.U) rfl; simpa using this
  obtain ⟨C, hC⟩ : ∃ C, C = x.C := ⟨_, rfl⟩
  rw [← hC] at hX ⊢
  clear hr hC
  go_enter Tryz.func39, Tryz.ntmps39
  go_upto_region 1 with (fail)
  rw [← hX]
  clear hX
  go_wp2
  go_ret
  exact ⟨rfl, HB.out⟩

set_option maxHeartbeats 2000000 in
theorem kindex_same (a : Option Addr) (n c : Nat) (l : List Ltr) (no : Int) (gb : Nat) (w : World) (hd : IsC Ltr.C 38 w a n c l) (h32 : ∀ x ∈ l, x.T.length = 32) (hb : w.cell? ⟨gb, 0, none⟩ = some (.int .i64 no)) :
    Calls Tryz.prog 35 #[.slice a n c, .func (.func 36) #[] #[.pointer (some ⟨gb, 0, none⟩)]] w fun e w' => e = .returned (.int .i64 (fstI (fun x => x.N == no) l)) ∧ Below w.heap.size w w' := by
  obtain ⟨p, hp⟩ : ∃ p : Ltr → Bool, p = fun x => x.N == no := ⟨_, rfl⟩
  have HC : Seal (∀ (x : Ltr) W, Below w.heap.size w W → Calls Tryz.prog 36 #[.agg x.C.toArray, .pointer (some ⟨gb, 0, none⟩)] W fun e w' => e = .returned (.bool (p x)) ∧ Below W.heap.size W w') := ⟨fun x W hW => by rw [hp]; exact ksame_any x no gb W ((hW.cell (p := ⟨gb, 0, none⟩) (block_lt_of_cell hb)).trans hb)⟩
  have HD := Seal.mk hd
  have H32 := Seal.mk h32
  have hll := hd.llen
  have hlm := hd.lmax
  have ut := Tryz.underlying30
  rw [← hp]
  clear hd h32 hp hb
  go_enter Tryz.func35, Tryz.ntmps35
  go_wp2
  go_loopw [8] (fun i wr => ∃ k : Nat, k ≤ n ∧ i = .int .i64 k ∧ Seal (Below w.heap.size w wr ∧ ∀ j y, j < k → l[j]? = some y → p y = false)) (fun i _ => n - (intOf i).toNat)
  case atStart => exact ⟨0, by omega, rfl, ⟨Below.refl _ _, fun j y h => by omega⟩⟩
  case round =>
    obtain ⟨wo, rfl⟩ : ∃ z, z = wr := ⟨_, rfl⟩
    obtain ⟨k, hk, rfl, hH⟩ := hrel
    by_cases hlt : k < n
    · have HDr := HD.out.below hH.out.1
      rcases HDr.at_ with h0 | ⟨g, off, rfl, hr, hg⟩
      · omega
      · obtain ⟨x, hx⟩ : ∃ x, l[k]? = some x := ⟨_, List.getElem?_eq_getElem (by omega)⟩
        have r1 := rangeC_row hr HDr.each hx
        obtain ⟨CX, hCX⟩ : ∃ C, C = x.C := ⟨_, rfl⟩
        obtain ⟨b, hb⟩ : ∃ b, b = p x := ⟨_, rfl⟩
        have HC1 : Seal (Calls Tryz.prog 36 #[.agg CX.toArray, .pointer (some ⟨gb, 0, none⟩)] wo fun e w' => e = .returned (.bool b) ∧ Below wo.heap.size wo w') := ⟨by rw [hCX, hb]; exact HC.out x wo hH.out.1⟩
        have i2 : (Tryz.prog.info? 30).map (·.size) = some CX.length := by rw [hCX]; exact Ltr.info (H32.out x (List.mem_of_getElem? hx))
        rw [← hCX] at r1
        have HX := Seal.mk hx
        have HBb := Seal.mk hb
        have q5 : (k : Int) < (n : Int) := by omega
        have q6 : (0 : Int) ≤ (k : Int) := by omega
        clear hr HDr hx hCX hb hg
        go_wp2_with (refine wpList_load_mid rfl 30 (.tmp 14) rfl g (off + k * 38) rfl CX _ r1 ut rfl i2 ?_; (try simp only [Act.put, List.setIfInBounds_toArray, List.set_cons_zero, List.set_cons_succ]))
        refine HC1.out.mono ?_
        rintro e w1 ⟨rfl, hb1⟩
        have HB1 : Seal (Below w.heap.size w w1) := ⟨hH.out.1.trans (hb1.mono hH.out.1.size)⟩
        clear hb1 HC1 r1
        cases b with
        | true =>
          go_wp2
          go_ret
          exact ⟨by rw [fstI_hit HX.out HBb.out.symm hH.out.2]; rfl, HB1.out⟩
        | false =>
          go_wp2
          go_roundw
          case rel =>
            refine ⟨k + 1, by omega, by go_num, ⟨HB1.out, fun j y hj hy => ?_⟩⟩
            rcases Nat.lt_or_ge j k with h | h
            · exact hH.out.2 j y h hy
            · obtain rfl : j = k := by omega
              rw [HX.out] at hy
              cases hy
              exact HBb.out.symm
          case measure => simp [intOf]; omega
    · obtain rfl : k = n := by omega
      have q5 : ¬ (k : Int) < (k : Int) := by omega
      have HR : Seal (fstI p l = -1) := ⟨fstI_miss fun x hx => by
        obtain ⟨j, hj⟩ := List.mem_iff_getElem?.1 hx
        exact hH.out.2 j x (by have := (List.getElem?_eq_some_iff.1 hj).1; omega) hj⟩
      have HBw := Seal.mk hH.out.1
      clear hH
      go_wp2
      go_ret
      exact ⟨by rw [HR.out]; rfl, HBw.out⟩
set_option maxHeartbeats 2000000 in
theorem kindex_over (a : Option Addr) (n c : Nat) (l : List Ltr) (t : Int) (w : World) (hd : IsC Ltr.C 38 w a n c l) (h32 : ∀ x ∈ l, x.T.length = 32)  :
    Calls Tryz.prog 35 #[.slice a n c, .func (.func 39) #[.int .i64 t] #[]] w fun e w' => e = .returned (.int .i64 (fstI (fun x => decide (x.U ≤ t)) l)) ∧ Below w.heap.size w w' := by
  obtain ⟨p, hp⟩ : ∃ p : Ltr → Bool, p = fun x => decide (x.U ≤ t) := ⟨_, rfl⟩
  have HC : Seal (∀ (x : Ltr) W, Below w.heap.size w W → Calls Tryz.prog 39 #[.int .i64 t, .agg x.C.toArray] W fun e w' => e = .returned (.bool (p x)) ∧ Below W.heap.size W w') := ⟨fun x W hW => by rw [hp]; exact kover_any x t W⟩
  have HD := Seal.mk hd
  have H32 := Seal.mk h32
  have hll := hd.llen
  have hlm := hd.lmax
  have ut := Tryz.underlying30
  rw [← hp]
  clear hd h32 hp 
  go_enter Tryz.func35, Tryz.ntmps35
  go_wp2
  go_loopw [8] (fun i wr => ∃ k : Nat, k ≤ n ∧ i = .int .i64 k ∧ Seal (Below w.heap.size w wr ∧ ∀ j y, j < k → l[j]? = some y → p y = false)) (fun i _ => n - (intOf i).toNat)
  case atStart => exact ⟨0, by omega, rfl, ⟨Below.refl _ _, fun j y h => by omega⟩⟩
  case round =>
    obtain ⟨wo, rfl⟩ : ∃ z, z = wr := ⟨_, rfl⟩
    obtain ⟨k, hk, rfl, hH⟩ := hrel
    by_cases hlt : k < n
    · have HDr := HD.out.below hH.out.1
      rcases HDr.at_ with h0 | ⟨g, off, rfl, hr, hg⟩
      · omega
      · obtain ⟨x, hx⟩ : ∃ x, l[k]? = some x := ⟨_, List.getElem?_eq_getElem (by omega)⟩
        have r1 := rangeC_row hr HDr.each hx
        obtain ⟨CX, hCX⟩ : ∃ C, C = x.C := ⟨_, rfl⟩
        obtain ⟨b, hb⟩ : ∃ b, b = p x := ⟨_, rfl⟩
        have HC1 : Seal (Calls Tryz.prog 39 #[.int .i64 t, .agg CX.toArray] wo fun e w' => e = .returned (.bool b) ∧ Below wo.heap.size wo w') := ⟨by rw [hCX, hb]; exact HC.out x wo hH.out.1⟩
        have i2 : (Tryz.prog.info? 30).map (·.size) = some CX.length := by rw [hCX]; exact Ltr.info (H32.out x (List.mem_of_getElem? hx))
        rw [← hCX] at r1
        have HX := Seal.mk hx
        have HBb := Seal.mk hb
        have q5 : (k : Int) < (n : Int) := by omega
        have q6 : (0 : Int) ≤ (k : Int) := by omega
        clear hr HDr hx hCX hb hg
        go_wp2_with (refine wpList_load_mid rfl 30 (.tmp 14) rfl g (off + k * 38) rfl CX _ r1 ut rfl i2 ?_; (try simp only [Act.put, List.setIfInBounds_toArray, List.set_cons_zero, List.set_cons_succ]))
        refine HC1.out.mono ?_
        rintro e w1 ⟨rfl, hb1⟩
        have HB1 : Seal (Below w.heap.size w w1) := ⟨hH.out.1.trans (hb1.mono hH.out.1.size)⟩
        clear hb1 HC1 r1
        cases b with
        | true =>
          go_wp2
          go_ret
          exact ⟨by rw [fstI_hit HX.out HBb.out.symm hH.out.2]; rfl, HB1.out⟩
        | false =>
          go_wp2
          go_roundw
          case rel =>
            refine ⟨k + 1, by omega, by go_num, ⟨HB1.out, fun j y hj hy => ?_⟩⟩
            rcases Nat.lt_or_ge j k with h | h
            · exact hH.out.2 j y h hy
            · obtain rfl : j = k := by omega
              rw [HX.out] at hy
              cases hy
              exact HBb.out.symm
          case measure => simp [intOf]; omega
    · obtain rfl : k = n := by omega
      have q5 : ¬ (k : Int) < (k : Int) := by omega
      have HR : Seal (fstI p l = -1) := ⟨fstI_miss fun x hx => by
        obtain ⟨j, hj⟩ := List.mem_iff_getElem?.1 hx
        exact hH.out.2 j x (by have := (List.getElem?_eq_some_iff.1 hj).1; omega) hj⟩
      have HBw := Seal.mk hH.out.1
      clear hH
      go_wp2
      go_ret
      exact ⟨by rw [HR.out]; rfl, HBw.out⟩
end Frk
