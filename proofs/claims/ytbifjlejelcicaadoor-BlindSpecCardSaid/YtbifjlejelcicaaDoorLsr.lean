/- The law SignRight, walked. -/
import Derived.Test.YtbifjlejelcicaaDoorLawA
namespace Frk
open Go Go.RowKit Go.Proofs
set_option maxRecDepth 100000

theorem ver_right (x : Int) (a : Option Addr) (len cap : Nat) (b : Bytes) (w : World) (hb : IsB w a len cap b) (hl : len ≤ 1099511627776) (hG : Glob w) :
    Calls Tryd.prog 16 #[.int .i64 (pw 4 x : Nat), .slice a len cap, .agg #[.int .i64 (sgE x b : Nat), .int .i64 (sgS x b)]] w fun e w' => e = .returned (.bool true) ∧ Below w.heap.size w w' :=
  ver_at _ _ _ true a len cap b w (sign_right x b) hb hl hG

theorem pow_four (n : Int) (w : World) (h1 : -9223372036854775808 ≤ n) (h2 : n ≤ 9223372036854775807) :
    Calls Tryd.prog 18 #[.int .i64 4, .int .i64 n] w fun e w' => e = .returned (.tuple #[.int .i64 (pw 4 n), .int .i64 0]) ∧ Below w.heap.size w w' :=
  pow_yes 4 n w (by decide +kernel) h1 h2

theorem sign_eq (x : Int) (a : Option Addr) (len cap : Nat) (b : Bytes) (w : World) (E : Int) (S : Int) (hE : Seal (((sgE x b : Nat) : Int) = E)) (hS : Seal (sgS x b = S)) (h0 : 1 ≤ x) (h1 : x < 1073741789) (hb : IsB w a len cap b) (hl : len ≤ 1099511627776) (hG : Glob w) :
    Calls Tryd.prog 14 #[.int .i64 x, .slice a len cap] w fun e w' => e = .returned (.tuple #[.agg #[.int .i64 E, .int .i64 S], .int .i64 0]) ∧ Below w.heap.size w w' := by
  rw [← hE.out, ← hS.out]; exact sign_yes x a len cap b w h0 h1 hb hl hG

theorem ver_eq (x : Int) (a : Option Addr) (len cap : Nat) (b : Bytes) (w : World) (E p : Int) (S : Int) (hE : Seal (((sgE x b : Nat) : Int) = E)) (hS : Seal (sgS x b = S)) (hp : Seal (((pw 4 x : Nat) : Int) = p)) (hb : IsB w a len cap b) (hl : len ≤ 1099511627776) (hG : Glob w) :
    Calls Tryd.prog 16 #[.int .i64 p, .slice a len cap, .agg #[.int .i64 E, .int .i64 S]] w fun e w' => e = .returned (.bool true) ∧ Below w.heap.size w w' := by
  rw [← hE.out, ← hS.out, ← hp.out]; exact ver_right x a len cap b w hb hl hG

theorem pow_eq4 (n : Int) (w : World) (p : Int) (hp : Seal (((pw 4 n : Nat) : Int) = p)) (h1 : -9223372036854775808 ≤ n) (h2 : n ≤ 9223372036854775807) :
    Calls Tryd.prog 18 #[.int .i64 4, .int .i64 n] w fun e w' => e = .returned (.tuple #[.int .i64 p, .int .i64 0]) ∧ Below w.heap.size w w' := by
  rw [← hp.out]; exact pow_four n w h1 h2

set_option maxHeartbeats 2000000 in
theorem law_signRight (x : Int) (a : Option Addr) (len cap : Nat) (b : Bytes) (w : World) (hx1 : -9223372036854775808 ≤ x) (hx2 : x ≤ 9223372036854775807) (hlm : (len : Int) ≤ 9223372036854775807) (hb : len ≤ 600 → IsB w a len cap b) (hG : Glob w) :
    Calls Tryd.prog 4 #[.int .i64 x, .slice a len cap] w fun e w' => e = .returned (.bool true) ∧ Below w.heap.size w w' := by
  by_cases hl : len ≤ 600
  · have HE1 : Seal (Env w a len cap b []) := ⟨⟨hG, hb hl, by intro p hp; cases hp⟩⟩
    have hl6 : len ≤ 1099511627776 := by omega
    clear hb hG
    by_cases h1 : x < 1
    · go_enter Tryd.func4, Tryd.ntmps4
      go_wp2_with (first | (go_at_call 13; refine (sane_any _ HE1.out.glob).mono ?_; rintro e w2 ⟨rfl, hb2⟩) | (go_at_call 14; refine (sign_no _ _ _ (by omega)).mono ?_; rintro e w3 ⟨rfl, hb3⟩))
      go_ret
      exact ⟨rfl, (hb2.trans (hb3.mono hb2.size)).alloc (Nat.le_trans hb2.size hb3.size) _⟩
    · by_cases h2 : 1073741789 ≤ x
      · go_enter Tryd.func4, Tryd.ntmps4
        go_wp2_with (first | (go_at_call 13; refine (sane_any _ HE1.out.glob).mono ?_; rintro e w2 ⟨rfl, hb2⟩) | (go_at_call 14; refine (sign_no _ _ _ (by omega)).mono ?_; rintro e w3 ⟨rfl, hb3⟩))
        go_ret
        exact ⟨rfl, (hb2.trans (hb3.mono hb2.size)).alloc (Nat.le_trans hb2.size hb3.size) _⟩
      · have he := sgE_lt x b
        have hs := sgS_rng x b
        obtain ⟨hs1, hs2⟩ := hs
        obtain ⟨E, hE⟩ : ∃ E : Int, ((sgE x b : Nat) : Int) = E := ⟨_, rfl⟩
        obtain ⟨S, hS⟩ : ∃ S, sgS x b = S := ⟨_, rfl⟩
        obtain ⟨p, hp⟩ : ∃ p : Int, ((pw 4 x : Nat) : Int) = p := ⟨_, rfl⟩
        have he' : E < 1073741789 := by omega
        have he0 : 0 ≤ E := by omega
        clear he
        rw [hS] at hs1 hs2
        have HE := Seal.mk hE
        have HS := Seal.mk hS
        have HP := Seal.mk hp
        clear hE hS hp
        go_enter Tryd.func4, Tryd.ntmps4
        go_wp2_with fail
        refine (sane_any _ HE1.out.glob).mono ?_
        rintro e w2 ⟨rfl, hb⟩
        have HE2 := Seal.mk (HE1.out.below hb)
        have HB2 := Seal.mk hb
        clear hb HE1
        go_wp2_with fail
        refine (sign_eq x _ _ _ b _ E S HE HS (by omega) (by omega) HE2.out.isb (by omega) HE2.out.glob).mono ?_
        rintro e w3 ⟨rfl, hb⟩
        have HE3 := Seal.mk ((HE2.out.below hb).push (.cells #[.int .i64 E, .int .i64 S] 24))
        have HB3 := Seal.mk ((HB2.out.trans (hb.mono HB2.out.size)).alloc (Nat.le_trans HB2.out.size hb.size) (.cells #[.int .i64 E, .int .i64 S] 24))
        clear hb HE2 HB2
        go_wp2_with fail
        refine (sign_eq x _ _ _ b _ E S HE HS (by omega) (by omega) HE3.out.isb (by omega) HE3.out.glob).mono ?_
        rintro e w4 ⟨rfl, hb⟩
        have HE4 := Seal.mk ((HE3.out.below hb).push (.cells #[.int .i64 E, .int .i64 S] 24))
        have HB4 := Seal.mk ((HB3.out.trans (hb.mono HB3.out.size)).alloc (Nat.le_trans HB3.out.size hb.size) (.cells #[.int .i64 E, .int .i64 S] 24))
        clear hb HE3 HB3
        go_wp2_with fail
        refine (pow_eq4 x _ p HP (by omega) (by omega)).mono ?_
        rintro e w5 ⟨rfl, hb⟩
        have HE5 := Seal.mk (HE4.out.below hb)
        have HB5 := Seal.mk (HB4.out.trans (hb.mono HB4.out.size))
        clear hb HE4 HB4
        have c0 := HE5.out.cell (g := w3.heap.size) (i := 0) (cs := #[.int .i64 E, .int .i64 S]) (t := 24) (by simp) rfl
        have c1 := HE5.out.cell (g := w3.heap.size) (i := 1) (cs := #[.int .i64 E, .int .i64 S]) (t := 24) (by simp) rfl
        have d0 := HE5.out.cell (g := w4.heap.size) (i := 0) (cs := #[.int .i64 E, .int .i64 S]) (t := 24) (by simp) rfl
        have d1 := HE5.out.cell (g := w4.heap.size) (i := 1) (cs := #[.int .i64 E, .int .i64 S]) (t := 24) (by simp) rfl
        have heq := fun W => eqSig_same E S W
        go_wp2_with fail
        refine (ver_eq x a len cap b w5 E p S HE HS HP HE5.out.isb (by omega) HE5.out.glob).mono ?_
        rintro e w6 ⟨rfl, hb⟩
        have HB6 := Seal.mk (HB5.out.trans (hb.mono HB5.out.size))
        clear hb
        go_wp2_with fail
        go_ret
        exact ⟨rfl, HB6.out⟩
  · have hl' : 600 < (len : Int) := by omega
    clear hb
    go_enter Tryd.func4, Tryd.ntmps4
    go_wp2_with (go_at_call 13; refine (sane_any _ hG).mono ?_; rintro e w2 ⟨rfl, hb2⟩)
    go_ret
    exact ⟨rfl, hb2⟩
end Frk
