/- The law OnetimeHidden, walked. -/
import Derived.Test.YtcioeedlfbioaaaDoorSao
import Derived.Test.YtcioeedlfbioaaaDoorElm
import Derived.Test.YtcioeedlfbioaaaDoorHdp
import Derived.Test.YtcioeedlfbioaaaDoorHor
import Derived.Test.YtcioeedlfbioaaaDoorGrd
namespace Frk
open Go Go.RowKit Go.Proofs
set_option maxRecDepth 100000

theorem nmB_range {u : Int} (h : vd u = true) : 1 ≤ nmB u ∧ nmB u ≤ 1073741789 := by
  have := vd_range h
  unfold nmB
  split <;> omega
theorem elB_nmB {u : Int} (h : vd u = true) : elB (nmB u) = u := by
  have hr := vd_range h
  unfold nmB elB
  by_cases hc : u ≤ 1073741789
  · rw [if_pos hc, if_pos h]
  · rw [if_neg hc]
    obtain ⟨m, rfl⟩ : ∃ m : Nat, u = m := ⟨u.toNat, by omega⟩
    have hV := (vd_iff m).1 h
    have hm : 0 < m ∧ m < P := ⟨by omega, by show m < 2147483579; omega⟩
    have hn : ¬ Vd (P - m) := fun hv => (vd_opp hm.1 hm.2).1 hv hV
    have : vd (2147483579 - (m : Int)) = false := by
      cases hv : vd (2147483579 - (m : Int)) with
      | false => rfl
      | true =>
        rw [show (2147483579 - (m : Int)) = ((P - m : Nat) : Int) from by have := hm.2; unfold P at *; omega] at hv
        exact absurd ((vd_iff _).1 hv) hn
    rw [if_neg (by rw [this]; decide)]
    omega

theorem qpow_odd (c a n : Nat) (h : n % 2 = 1) : (c * a % Q) * (a * a % Q) ^ (n / 2) % Q = c * a ^ n % Q := by
  rw [Nat.mul_mod, pow_mod', ← Nat.pow_two, ← Nat.pow_mul, Nat.mod_mod, ← Nat.mul_mod, Nat.mul_assoc, ← Nat.pow_succ', show (2 * (n / 2)).succ = n from by omega]
theorem qpow_even (c a n : Nat) (h : n % 2 = 0) : c * (a * a % Q) ^ (n / 2) % Q = c * a ^ n % Q := by
  rw [Nat.mul_mod, pow_mod', ← Nat.pow_two, ← Nat.pow_mul, ← Nat.mul_mod, show 2 * (n / 2) = n from by omega]
theorem mul_bdQ {a c : Nat} (ha : a < 1073741789) (hc : c < 1073741789) : 0 ≤ (c : Int) * (a : Int) ∧ (c : Int) * (a : Int) ≤ 1152921427297436944 := by
  have h : c * a ≤ 1073741788 * 1073741788 := Nat.mul_le_mul (by omega) (by omega)
  have e : (c : Int) * (a : Int) = ((c * a : Nat) : Int) := by simp
  rw [e]
  omega

theorem q_of {r : Int} {d c q : Nat} (h1 : 0 ≤ r) (h2 : r < 1073741789) (hd : d < 1073741789) (hc : c < 1073741789) (hq : (r.toNat + d * c % Q) % Q = q) :
    (wrap64 (r + (wrap64 ((d : Int) * (c : Int))).tmod 1073741789)).tmod 1073741789 = (q : Int) := by
  obtain ⟨n, rfl⟩ : ∃ n : Nat, r = n := ⟨r.toNat, by omega⟩
  obtain ⟨b1, b2⟩ := mul_bdQ hc hd
  obtain ⟨m, hm⟩ : ∃ m : Nat, d * c = m := ⟨_, rfl⟩
  rw [show (d : Int) * (c : Int) = (m : Int) from by rw [← hm]; simp] at b1 b2 ⊢
  rw [Int.toNat_natCast, hm] at hq
  unfold Q at hq
  rw [IntWalk.wrap64_in (m : Int) ⟨by omega, by omega⟩, Int.tmod_eq_emod_of_nonneg (a := (m : Int)) (by omega), IntWalk.wrap64_in ((n : Int) + (m : Int) % 1073741789) ⟨by omega, by omega⟩, Int.tmod_eq_emod_of_nonneg (by omega)]
  omega

theorem hidden_a (L S x y r : Int) (w : World) (hG : Glob w) (h1 : S < 1) :
    Calls Tryd.prog 5 #[.int .i64 L, .int .i64 S, .int .i64 x, .int .i64 y, .int .i64 r] w fun e w' => e = .returned (.bool true) ∧ Below w.heap.size w w' := by
  have HG := Seal.mk hG
  clear hG
  go_enter Tryd.func5, Tryd.ntmps5
  go_wp2_with fail
  refine (osane_any _ HG.out).mono ?_
  rintro e w2 ⟨rfl, hb⟩
  have HB2 := Seal.mk hb
  clear hb HG
  go_wp2
  go_ret
  exact ⟨rfl, HB2.out⟩
theorem hidden_b (L S x y r : Int) (w : World) (hG : Glob w) (h1 : ¬ S < 1) (h2 : 1073741789 ≤ S) :
    Calls Tryd.prog 5 #[.int .i64 L, .int .i64 S, .int .i64 x, .int .i64 y, .int .i64 r] w fun e w' => e = .returned (.bool true) ∧ Below w.heap.size w w' := by
  have HG := Seal.mk hG
  clear hG
  go_enter Tryd.func5, Tryd.ntmps5
  go_wp2_with fail
  refine (osane_any _ HG.out).mono ?_
  rintro e w2 ⟨rfl, hb⟩
  have HB2 := Seal.mk hb
  clear hb HG
  go_wp2
  go_ret
  exact ⟨rfl, HB2.out⟩
theorem hidden_c (L S x y r : Int) (w : World) (hG : Glob w) (h1 : ¬ S < 1) (h2 : ¬ 1073741789 ≤ S) (h3 : L < 0) :
    Calls Tryd.prog 5 #[.int .i64 L, .int .i64 S, .int .i64 x, .int .i64 y, .int .i64 r] w fun e w' => e = .returned (.bool true) ∧ Below w.heap.size w w' := by
  have HG := Seal.mk hG
  clear hG
  go_enter Tryd.func5, Tryd.ntmps5
  go_wp2_with fail
  refine (osane_any _ HG.out).mono ?_
  rintro e w2 ⟨rfl, hb⟩
  have HB2 := Seal.mk hb
  clear hb HG
  go_wp2
  go_ret
  exact ⟨rfl, HB2.out⟩
theorem hidden_d (L S x y r : Int) (w : World) (hG : Glob w) (h1 : ¬ S < 1) (h2 : ¬ 1073741789 ≤ S) (h3 : ¬ L < 0) (h4 : 64 ≤ L) :
    Calls Tryd.prog 5 #[.int .i64 L, .int .i64 S, .int .i64 x, .int .i64 y, .int .i64 r] w fun e w' => e = .returned (.bool true) ∧ Below w.heap.size w w' := by
  have HG := Seal.mk hG
  clear hG
  go_enter Tryd.func5, Tryd.ntmps5
  go_wp2_with fail
  refine (osane_any _ HG.out).mono ?_
  rintro e w2 ⟨rfl, hb⟩
  have HB2 := Seal.mk hb
  clear hb HG
  go_wp2
  go_ret
  exact ⟨rfl, HB2.out⟩
theorem hidden_e (L S x y r : Int) (w : World) (hG : Glob w) (h1 : ¬ S < 1) (h2 : ¬ 1073741789 ≤ S) (h3 : ¬ L < 0) (h4 : ¬ 64 ≤ L) (h5 : r < 0) :
    Calls Tryd.prog 5 #[.int .i64 L, .int .i64 S, .int .i64 x, .int .i64 y, .int .i64 r] w fun e w' => e = .returned (.bool true) ∧ Below w.heap.size w w' := by
  have HG := Seal.mk hG
  clear hG
  go_enter Tryd.func5, Tryd.ntmps5
  go_wp2_with fail
  refine (osane_any _ HG.out).mono ?_
  rintro e w2 ⟨rfl, hb⟩
  have HB2 := Seal.mk hb
  clear hb HG
  go_wp2
  go_ret
  exact ⟨rfl, HB2.out⟩
theorem hidden_f (L S x y r : Int) (w : World) (hG : Glob w) (h1 : ¬ S < 1) (h2 : ¬ 1073741789 ≤ S) (h3 : ¬ L < 0) (h4 : ¬ 64 ≤ L) (h5 : ¬ r < 0) (h6 : 1073741789 ≤ r) :
    Calls Tryd.prog 5 #[.int .i64 L, .int .i64 S, .int .i64 x, .int .i64 y, .int .i64 r] w fun e w' => e = .returned (.bool true) ∧ Below w.heap.size w w' := by
  have HG := Seal.mk hG
  clear hG
  go_enter Tryd.func5, Tryd.ntmps5
  go_wp2_with fail
  refine (osane_any _ HG.out).mono ?_
  rintro e w2 ⟨rfl, hb⟩
  have HB2 := Seal.mk hb
  clear hb HG
  go_wp2
  go_ret
  exact ⟨rfl, HB2.out⟩
theorem hidden_g (L S x y r : Int) (w : World) (hG : Glob w) (h1 : ¬ S < 1) (h2 : ¬ 1073741789 ≤ S) (h3 : ¬ L < 0) (h4 : ¬ 64 ≤ L) (h5 : ¬ r < 0) (h6 : ¬ 1073741789 ≤ r) (h7 : x < 0) :
    Calls Tryd.prog 5 #[.int .i64 L, .int .i64 S, .int .i64 x, .int .i64 y, .int .i64 r] w fun e w' => e = .returned (.bool true) ∧ Below w.heap.size w w' := by
  have HG := Seal.mk hG
  clear hG
  go_enter Tryd.func5, Tryd.ntmps5
  go_wp2_with fail
  refine (osane_any _ HG.out).mono ?_
  rintro e w2 ⟨rfl, hb⟩
  have HB2 := Seal.mk hb
  clear hb HG
  go_wp2
  go_ret
  exact ⟨rfl, HB2.out⟩
theorem hidden_h (L S x y r : Int) (w : World) (hG : Glob w) (h1 : ¬ S < 1) (h2 : ¬ 1073741789 ≤ S) (h3 : ¬ L < 0) (h4 : ¬ 64 ≤ L) (h5 : ¬ r < 0) (h6 : ¬ 1073741789 ≤ r) (h7 : ¬ x < 0) (h8 : 1073741789 ≤ x) :
    Calls Tryd.prog 5 #[.int .i64 L, .int .i64 S, .int .i64 x, .int .i64 y, .int .i64 r] w fun e w' => e = .returned (.bool true) ∧ Below w.heap.size w w' := by
  have HG := Seal.mk hG
  clear hG
  go_enter Tryd.func5, Tryd.ntmps5
  go_wp2_with fail
  refine (osane_any _ HG.out).mono ?_
  rintro e w2 ⟨rfl, hb⟩
  have HB2 := Seal.mk hb
  clear hb HG
  go_wp2
  go_ret
  exact ⟨rfl, HB2.out⟩
theorem hidden_i (L S x y r : Int) (w : World) (hG : Glob w) (h1 : ¬ S < 1) (h2 : ¬ 1073741789 ≤ S) (h3 : ¬ L < 0) (h4 : ¬ 64 ≤ L) (h5 : ¬ r < 0) (h6 : ¬ 1073741789 ≤ r) (h7 : ¬ x < 0) (h8 : ¬ 1073741789 ≤ x) (h9 : y < 0) :
    Calls Tryd.prog 5 #[.int .i64 L, .int .i64 S, .int .i64 x, .int .i64 y, .int .i64 r] w fun e w' => e = .returned (.bool true) ∧ Below w.heap.size w w' := by
  have HG := Seal.mk hG
  clear hG
  go_enter Tryd.func5, Tryd.ntmps5
  go_wp2_with fail
  refine (osane_any _ HG.out).mono ?_
  rintro e w2 ⟨rfl, hb⟩
  have HB2 := Seal.mk hb
  clear hb HG
  go_wp2
  go_ret
  exact ⟨rfl, HB2.out⟩
theorem hidden_j (L S x y r : Int) (w : World) (hG : Glob w) (h1 : ¬ S < 1) (h2 : ¬ 1073741789 ≤ S) (h3 : ¬ L < 0) (h4 : ¬ 64 ≤ L) (h5 : ¬ r < 0) (h6 : ¬ 1073741789 ≤ r) (h7 : ¬ x < 0) (h8 : ¬ 1073741789 ≤ x) (h9 : ¬ y < 0) (h0 : 1073741789 ≤ y) :
    Calls Tryd.prog 5 #[.int .i64 L, .int .i64 S, .int .i64 x, .int .i64 y, .int .i64 r] w fun e w' => e = .returned (.bool true) ∧ Below w.heap.size w w' := by
  have HG := Seal.mk hG
  clear hG
  go_enter Tryd.func5, Tryd.ntmps5
  go_wp2_with fail
  refine (osane_any _ HG.out).mono ?_
  rintro e w2 ⟨rfl, hb⟩
  have HB2 := Seal.mk hb
  clear hb HG
  go_wp2
  go_ret
  exact ⟨rfl, HB2.out⟩

set_option maxHeartbeats 2000000 in
theorem hidden_in (L S x y r : Int) (S' K u v V : Nat) (a b : Int) (w : World) (hG : Glob w) (g3 : ¬ L < 0) (g4 : ¬ 64 ≤ L) (g1 : ¬ S < 1) (g2 : ¬ 1073741789 ≤ S) (g7 : ¬ x < 0) (g8 : ¬ 1073741789 ≤ x) (g9 : ¬ y < 0) (g0 : ¬ 1073741789 ≤ y) (g5 : ¬ r < 0) (g6 : ¬ 1073741789 ≤ r) (HS0 : Seal (S = (S' : Int)))
    (HK : Seal (((pw (4 : Int).toNat S : Nat) : Int) = K)) (HU : Seal (((pw (4 : Int).toNat x : Nat) : Int) = u)) (HW : Seal (((pw (4 : Int).toNat y : Nat) : Int) = v)) (HVu : Seal (vd u = true)) (HVv : Seal (vd v = true))
    (HNu : Seal (nmB u = a)) (HNv : Seal (nmB v = b)) (N : Nat) (hN : Seal (N = 1073741787)) (HV : Seal (S' ^ N % Q = V))
    (d q : Nat) (HD : Seal ((x - y) % 1073741789 = (d : Int))) (HdQ : Seal (d < 1073741789)) (HQ : Seal ((r.toNat + d * V % Q) % Q = q)) (C D : List Value) (A1 A2 B1 : Int) (t : Bool)
    (HM1 : Seal (∀ W, Glob W → Calls Tryd.prog 13 #[.int .i64 L, .int .i64 K, .int .i64 a, .int .i64 r] W fun e' w' => e' = .returned (.tuple #[.agg C.toArray, .int .i64 0]) ∧ Below W.heap.size W w'))
    (HM2 : Seal (∀ W, Glob W → Calls Tryd.prog 13 #[.int .i64 L, .int .i64 K, .int .i64 b, .int .i64 q] W fun e' w' => e' = .returned (.tuple #[.agg D.toArray, .int .i64 0]) ∧ Below W.heap.size W w'))
    (IC : Seal ((Tryd.prog.info? 27).map (·.size) = some C.length)) (ID : Seal ((Tryd.prog.info? 27).map (·.size) = some D.length)) (LC : Seal ((.int .i64 0 :: .int .i64 0 :: .int .i64 0 :: .int .i64 0 :: .int .u8 0 :: .int .u8 0 :: .int .u8 0 :: .int .u8 0 :: .int .u8 0 :: .int .u8 0 :: .int .u8 0 :: .int .u8 0 :: .int .u8 0 :: .int .u8 0 :: .int .u8 0 :: .int .u8 0 :: .int .u8 0 :: .int .u8 0 :: .int .u8 0 :: .int .u8 0 :: .int .u8 0 :: .int .u8 0 :: .int .u8 0 :: .int .u8 0 :: .int .u8 0 :: .int .u8 0 :: .int .u8 0 :: .int .u8 0 :: .int .u8 0 :: .int .u8 0 :: .int .u8 0 :: .int .u8 0 :: .int .u8 0 :: .int .u8 0 :: .int .u8 0 :: .int .u8 0 :: [] : List Value).length = C.length)) (LD : Seal ((.int .i64 0 :: .int .i64 0 :: .int .i64 0 :: .int .i64 0 :: .int .u8 0 :: .int .u8 0 :: .int .u8 0 :: .int .u8 0 :: .int .u8 0 :: .int .u8 0 :: .int .u8 0 :: .int .u8 0 :: .int .u8 0 :: .int .u8 0 :: .int .u8 0 :: .int .u8 0 :: .int .u8 0 :: .int .u8 0 :: .int .u8 0 :: .int .u8 0 :: .int .u8 0 :: .int .u8 0 :: .int .u8 0 :: .int .u8 0 :: .int .u8 0 :: .int .u8 0 :: .int .u8 0 :: .int .u8 0 :: .int .u8 0 :: .int .u8 0 :: .int .u8 0 :: .int .u8 0 :: .int .u8 0 :: .int .u8 0 :: .int .u8 0 :: .int .u8 0 :: [] : List Value).length = D.length)) (OC : Seal (∀ u ∈ C, u.oneCell' = true)) (OD : Seal (∀ u ∈ D, u.oneCell' = true))
    (cC2 : C.toArray[2]? = some (.int .i64 A1)) (cC3 : C.toArray[3]? = some (.int .i64 B1)) (cD2 : D.toArray[2]? = some (.int .i64 A2)) (cD3 : D.toArray[3]? = some (.int .i64 B1))
    (heq : ∀ W, (Op.equalIn 10000 27 (.agg C.toArray) (.agg D.toArray)).run Tryd.prog W = .ok t W)
    (HF : Seal ((t = true ∧ A1 = A2 ∧ x = y) ∨ (t = false ∧ ¬ A1 = A2 ∧ ¬ x = y))) :
    Calls Tryd.prog 5 #[.int .i64 L, .int .i64 S, .int .i64 x, .int .i64 y, .int .i64 r] w fun e w' => e = .returned (.bool true) ∧ Below w.heap.size w w' := by
  have HG := Seal.mk hG
  have HE : Seal (Env w none 0 0 [] []) := ⟨hG, isB_nil w, by intro p hp; cases hp⟩
  have HN : Seal (S' < 1073741789) := ⟨by have := HS0.out; omega⟩
  clear hG
  go_enter Tryd.func5, Tryd.ntmps5
  go_wp2_with fail
  refine (osane_any _ HG.out).mono ?_
  rintro e w2 ⟨rfl, hb⟩
  have HE2 := Seal.mk (HE.out.below hb)
  have HB2 := Seal.mk hb
  clear hb HG HE
  go_wp2_with fail
  refine (rpow_yes 4 S K _ (by decide +kernel) HK).mono ?_
  rintro e w' ⟨rfl, rfl⟩
  go_wp2_with fail
  refine (rpow_yes 4 x u _ (by decide +kernel) HU).mono ?_
  rintro e w' ⟨rfl, rfl⟩
  go_wp2_with fail
  refine (rpow_yes 4 y v _ (by decide +kernel) HW).mono ?_
  rintro e w' ⟨rfl, rfl⟩
  go_wp2_with fail
  refine (rnumber_yes u a _ HVu.out HNu).mono ?_
  rintro e w' ⟨rfl, rfl⟩
  go_wp2_with fail
  refine (rnumber_yes v b _ HVv.out HNv).mono ?_
  rintro e w' ⟨rfl, rfl⟩
  go_wp2_with fail
  go_loop [21, 22, 23] (fun i j k => ∃ c n' s : Nat, c < 1073741789 ∧ n' ≤ 1073741787 ∧ s < 1073741789 ∧ i = .int .i64 c ∧ j = .int .i64 n' ∧ k = .int .i64 s ∧ Seal (c * s ^ n' % Q = V)) (fun _ j _ => (intOf j).toNat)
  case atStart => exact ⟨1, N, S', by omega, by have := hN.out; omega, HN.out, rfl, by rw [hN.out]; rfl, by rw [HS0.out], ⟨by rw [Nat.one_mul]; exact HV.out⟩⟩
  case round =>
    obtain ⟨c, n', s, h1, h2, h3, rfl, rfl, rfl, hS'⟩ := hrel
    obtain ⟨b1, b2⟩ := mul_bdQ h3 h1
    obtain ⟨b3, b4⟩ := mul_bdQ h3 h3
    by_cases h0 : n' = 0
    · subst h0
      have HC : Seal (c = V) := ⟨by have := hS'.out; rwa [Nat.pow_zero, Nat.mul_one, Nat.mod_eq_of_lt (show c < Q from h1)] at this⟩
      rw [show ((0 : Nat) : Int) = 0 from rfl]
      have hc := HC.out
      subst hc
      clear HC hS' HV HK HU HW HVu HVv HNu HNv HN HS0
      have IC2 : Seal ((Tryd.prog.info? 27).map (·.size) = some C.toArray.size) := ⟨by rw [List.size_toArray]; exact IC.out⟩
      have ID2 : Seal ((Tryd.prog.info? 27).map (·.size) = some D.toArray.size) := ⟨by rw [List.size_toArray]; exact ID.out⟩
      have CC := Seal.mk (And.intro cC2 (And.intro cC3 (And.intro cD2 cD3)))
      have HEQ := Seal.mk heq
      clear heq cC2 cC3 cD2 cD3 b1 b2 b3 b4
      go_wp2_with fail
      refine (HM1.out _ HE2.out.glob).mono ?_
      rintro e w3 ⟨rfl, hb⟩
      have HE3 := Seal.mk ((HE2.out.below hb).push (.cells C.toArray 27))
      have HB3 := Seal.mk ((HB2.out.trans (hb.mono HB2.out.size)).alloc (Nat.le_trans HB2.out.size hb.size) (.cells C.toArray 27))
      clear hb HE2 HB2
      go_wp2_with (refine wpList_store_new rfl 27 (.tmp 25) (.tmp 127) rfl (.int .i64 0 :: .int .i64 0 :: .int .i64 0 :: .int .i64 0 :: .int .u8 0 :: .int .u8 0 :: .int .u8 0 :: .int .u8 0 :: .int .u8 0 :: .int .u8 0 :: .int .u8 0 :: .int .u8 0 :: .int .u8 0 :: .int .u8 0 :: .int .u8 0 :: .int .u8 0 :: .int .u8 0 :: .int .u8 0 :: .int .u8 0 :: .int .u8 0 :: .int .u8 0 :: .int .u8 0 :: .int .u8 0 :: .int .u8 0 :: .int .u8 0 :: .int .u8 0 :: .int .u8 0 :: .int .u8 0 :: .int .u8 0 :: .int .u8 0 :: .int .u8 0 :: .int .u8 0 :: .int .u8 0 :: .int .u8 0 :: .int .u8 0 :: .int .u8 0 :: [] : List Value) C 27 rfl rfl IC.out LC.out OC.out ?_)
      rw [HD.out, q_of (by omega) (by omega) HdQ.out h1 HQ.out]
      refine (HM2.out _ HE3.out.glob).mono ?_
      rintro e w4 ⟨rfl, hb⟩
      have HE4 := Seal.mk ((HE3.out.below hb).push (.cells D.toArray 27))
      have HB4 := Seal.mk ((HB3.out.trans (hb.mono HB3.out.size)).alloc (Nat.le_trans HB3.out.size hb.size) (.cells D.toArray 27))
      clear hb HE3 HB3 HM1 HM2
      have k0 := HE4.out.cell (g := w3.heap.size) (i := 2) (cs := C.toArray) (t := 27) (by simp) CC.out.1
      have k1 := HE4.out.cell (g := w3.heap.size) (i := 3) (cs := C.toArray) (t := 27) (by simp) CC.out.2.1
      have k2 := HE4.out.cell (g := w4.heap.size) (i := 2) (cs := D.toArray) (t := 27) (by simp) CC.out.2.2.1
      have k3 := HE4.out.cell (g := w4.heap.size) (i := 3) (cs := D.toArray) (t := 27) (by simp) CC.out.2.2.2
      have R1 := Seal.mk (HE4.out.keep (w3.heap.size, .cells C.toArray 27) (by simp))
      have R2 := Seal.mk (HE4.out.keep (w4.heap.size, .cells D.toArray 27) (by simp))
      clear HE4
      go_upto_region 20 with (refine wpList_store_new rfl 27 (.tmp 27) (.tmp 135) rfl (.int .i64 0 :: .int .i64 0 :: .int .i64 0 :: .int .i64 0 :: .int .u8 0 :: .int .u8 0 :: .int .u8 0 :: .int .u8 0 :: .int .u8 0 :: .int .u8 0 :: .int .u8 0 :: .int .u8 0 :: .int .u8 0 :: .int .u8 0 :: .int .u8 0 :: .int .u8 0 :: .int .u8 0 :: .int .u8 0 :: .int .u8 0 :: .int .u8 0 :: .int .u8 0 :: .int .u8 0 :: .int .u8 0 :: .int .u8 0 :: .int .u8 0 :: .int .u8 0 :: .int .u8 0 :: .int .u8 0 :: .int .u8 0 :: .int .u8 0 :: .int .u8 0 :: .int .u8 0 :: .int .u8 0 :: .int .u8 0 :: .int .u8 0 :: .int .u8 0 :: [] : List Value) D 27 rfl rfl ID.out LD.out OD.out ?_)
      obtain ⟨X, hX⟩ : ∃ X, X = w4.alloc (.cells D.toArray 27) := ⟨_, rfl⟩
      rw [← hX] at k0 k1 k2 k3 R1 R2 HB4 ⊢
      clear hX
      have heq := HEQ.out
      clear HEQ
      rcases HF.out with ⟨rfl, rfl, rfl⟩ | ⟨rfl, hA', hxy'⟩
      · clear HF
        go_wp2_with (first | (refine wpList_load_row_g (by rfl) 27 (.tmp 25) rfl (w3.heap.size) rfl 27 C.toArray (0, 0) _ R1.out Tryd.underlying27 rfl IC2.out ?_) | (refine wpList_load_row_g (by rfl) 27 (.tmp 27) rfl (w4.heap.size) rfl 27 D.toArray (0, 0) _ R2.out Tryd.underlying27 rfl ID2.out ?_))
        go_ret
        exact ⟨rfl, HB4.out⟩
      · clear HF
        have hA : (A1 == A2) = false := by simpa using hA'
        have hxy : (x == y) = false := by simpa using hxy'
        clear hA' hxy'
        go_wp2_with (first | (refine wpList_load_row_g (by rfl) 27 (.tmp 25) rfl (w3.heap.size) rfl 27 C.toArray (0, 0) _ R1.out Tryd.underlying27 rfl IC2.out ?_) | (refine wpList_load_row_g (by rfl) 27 (.tmp 27) rfl (w4.heap.size) rfl 27 D.toArray (0, 0) _ R2.out Tryd.underlying27 rfl ID2.out ?_))
        go_ret
        exact ⟨rfl, HB4.out⟩
    · by_cases hp : n' % 2 = 1
      · have hp' : (n' : Int) % 2 = 1 := by omega
        have HS : Seal ((c * s % Q) * (s * s % Q) ^ (n' / 2) % Q = V) := ⟨by rw [qpow_odd _ _ _ hp]; exact hS'.out⟩
        clear hp hS'
        go_wp2
        go_round
        case rel => exact ⟨c * s % Q, n' / 2, s * s % Q, Nat.mod_lt _ Q_pos, by omega, Nat.mod_lt _ Q_pos, by go_num, by go_num, by go_num, HS⟩
        case measure => simp [intOf]; omega
      · have hp' : (n' : Int) % 2 = 0 := by omega
        have HS : Seal (c * (s * s % Q) ^ (n' / 2) % Q = V) := ⟨by rw [qpow_even _ _ _ (by omega)]; exact hS'.out⟩
        clear hp hS'
        go_wp2
        go_round
        case rel => exact ⟨c, n' / 2, s * s % Q, h1, by omega, Nat.mod_lt _ Q_pos, rfl, by go_num, by go_num, HS⟩
        case measure => simp [intOf]; omega

theorem law_onetimeHidden (L S x y r : Int) (w : World) (hG : Glob w) (hr' : I64 r) :
    Calls Tryd.prog 5 #[.int .i64 L, .int .i64 S, .int .i64 x, .int .i64 y, .int .i64 r] w fun e w' => e = .returned (.bool true) ∧ Below w.heap.size w w' := by
  by_cases h1 : S < 1
  · exact hidden_a L S x y r w hG h1
  by_cases h2 : 1073741789 ≤ S
  · exact hidden_b L S x y r w hG h1 h2
  by_cases h3 : L < 0
  · exact hidden_c L S x y r w hG h1 h2 h3
  by_cases h4 : 64 ≤ L
  · exact hidden_d L S x y r w hG h1 h2 h3 h4
  by_cases h5 : r < 0
  · exact hidden_e L S x y r w hG h1 h2 h3 h4 h5
  by_cases h6 : 1073741789 ≤ r
  · exact hidden_f L S x y r w hG h1 h2 h3 h4 h5 h6
  by_cases h7 : x < 0
  · exact hidden_g L S x y r w hG h1 h2 h3 h4 h5 h6 h7
  by_cases h8 : 1073741789 ≤ x
  · exact hidden_h L S x y r w hG h1 h2 h3 h4 h5 h6 h7 h8
  by_cases h9 : y < 0
  · exact hidden_i L S x y r w hG h1 h2 h3 h4 h5 h6 h7 h8 h9
  by_cases h0 : 1073741789 ≤ y
  · exact hidden_j L S x y r w hG h1 h2 h3 h4 h5 h6 h7 h8 h9 h0
  obtain ⟨S', rfl⟩ : ∃ n : Nat, S = n := ⟨S.toNat, by omega⟩
  obtain ⟨x', rfl⟩ : ∃ n : Nat, x = n := ⟨x.toNat, by omega⟩
  obtain ⟨y', rfl⟩ : ∃ n : Nat, y = n := ⟨y.toNat, by omega⟩
  obtain ⟨r', rfl⟩ : ∃ n : Nat, r = n := ⟨r.toNat, by omega⟩
  obtain ⟨K, hK⟩ : ∃ K, pw 4 (S' : Int) = K := ⟨_, rfl⟩
  obtain ⟨u, hu⟩ : ∃ u, pw 4 (x' : Int) = u := ⟨_, rfl⟩
  obtain ⟨v, hv⟩ : ∃ v, pw 4 (y' : Int) = v := ⟨_, rfl⟩
  have vK : vd (K : Int) = true := (vd_iff K).2 (by rw [← hK]; exact vd4.pw _)
  have vu : vd (u : Int) = true := (vd_iff u).2 (by rw [← hu]; exact vd4.pw _)
  have vv : vd (v : Int) = true := (vd_iff v).2 (by rw [← hv]; exact vd4.pw _)
  obtain ⟨N, hN⟩ : ∃ N : Nat, N = 1073741787 := ⟨_, rfl⟩
  obtain ⟨V, hV⟩ : ∃ V : Nat, S' ^ N % Q = V := ⟨_, rfl⟩
  have hinv : S' * V % Q = 1 := by
    have hN2 : N = Q - 2 := hN
    rw [← hV, Nat.mul_mod_mod, hN2]
    exact inv_Q (by rw [Nat.mod_eq_of_lt (by unfold Q; omega)]; omega)
  obtain ⟨d, hd⟩ : ∃ d : Nat, d = (x' + Q - y') % Q := ⟨_, rfl⟩
  have hd2 : ((x' : Int) - y') % 1073741789 = (d : Int) := by rw [hd]; unfold Q; omega
  have hdQ : d < 1073741789 := by rw [hd]; exact Nat.mod_lt _ Q_pos
  obtain ⟨q, hq⟩ : ∃ q : Nat, (r' + d * V % Q) % Q = q := ⟨_, rfl⟩
  have hqQ : q < 1073741789 := by rw [← hq]; exact Nat.mod_lt _ Q_pos
  obtain ⟨p1, p2⟩ := hid_plain S' x' y' r' d V q (by unfold Q; omega) (by unfold Q; omega) (by unfold Q; omega) hinv hd hq.symm
  rw [hK, hu, hv] at p1
  obtain ⟨nu1, nu2⟩ := nmB_range vu
  obtain ⟨nv1, nv2⟩ := nmB_range vv
  have eu := elB_nmB vu
  have ev := elB_nmB vv
  have hKP : K < 2147483579 := by have := vd_range vK; omega
  have b1 : pw 4 (r' : Int) < 2147483579 := pw_lt 4 r'
  have b2 : pw 4 (q : Int) < 2147483579 := pw_lt 4 q
  have b3 : mp u (pw K (r' : Int)) < 2147483579 := mp_lt _ _
  have mk : ∀ (z n : Nat), vd (z : Int) = true → elB (nmB z) = z → 1 ≤ nmB z → nmB z ≤ 1073741789 →
      makeF L K (nmB z) (n : Int) = (L, (K : Int), (pw 4 (n : Int) : Int), ((mp z (pw K (n : Int)) : Nat) : Int), rtag L K (pw 4 (n : Int)) ((mp z (pw K (n : Int)) : Nat) : Int), 0) := fun z n hz ez z1 z2 => by
    unfold makeF
    rw [if_neg (by omega), if_pos vK, if_pos ⟨z1, z2⟩, ez, Int.toNat_natCast, Int.toNat_natCast, show (1 : Int).toNat = 1 from rfl, one_mp (pw_lt 4 n)]
  have m1 := mk u r' vu eu nu1 nu2
  have m2 := mk v q vv ev nv1 nv2
  rw [← p1] at m2
  generalize ha : nmB (u : Int) = a at *
  generalize hb : nmB (v : Int) = b at *
  obtain ⟨B1, hB1⟩ : ∃ B1 : Nat, mp u (pw K (r' : Int)) = B1 := ⟨_, rfl⟩
  obtain ⟨A1, hA1⟩ : ∃ A1 : Nat, pw 4 (r' : Int) = A1 := ⟨_, rfl⟩
  obtain ⟨A2, hA2⟩ : ∃ A2 : Nat, pw 4 (q : Int) = A2 := ⟨_, rfl⟩
  rw [hB1, hA1] at m1
  rw [hB1, hA2] at m2
  rw [hA1, hA2] at p2
  rw [hA1] at b1
  rw [hA2] at b2
  rw [hB1] at b3
  have iL : I64 L := ⟨by omega, by omega⟩
  have iK : I64 (K : Int) := ⟨by omega, by omega⟩
  have t1 : (rtag L K A1 B1).length = 32 := sha_length _
  have t2 : (rtag L K A2 B1).length = 32 := sha_length _
  have zl : ∀ T : Bytes, T.length = 32 → (.int .i64 0 :: .int .i64 0 :: .int .i64 0 :: .int .i64 0 :: .int .u8 0 :: .int .u8 0 :: .int .u8 0 :: .int .u8 0 :: .int .u8 0 :: .int .u8 0 :: .int .u8 0 :: .int .u8 0 :: .int .u8 0 :: .int .u8 0 :: .int .u8 0 :: .int .u8 0 :: .int .u8 0 :: .int .u8 0 :: .int .u8 0 :: .int .u8 0 :: .int .u8 0 :: .int .u8 0 :: .int .u8 0 :: .int .u8 0 :: .int .u8 0 :: .int .u8 0 :: .int .u8 0 :: .int .u8 0 :: .int .u8 0 :: .int .u8 0 :: .int .u8 0 :: .int .u8 0 :: .int .u8 0 :: .int .u8 0 :: .int .u8 0 :: .int .u8 0 :: [] : List Value).length = (retC L K A1 B1 T).length := fun T h => by rw [retC_len h]; rfl
  have zl2 : ∀ T : Bytes, T.length = 32 → (.int .i64 0 :: .int .i64 0 :: .int .i64 0 :: .int .i64 0 :: .int .u8 0 :: .int .u8 0 :: .int .u8 0 :: .int .u8 0 :: .int .u8 0 :: .int .u8 0 :: .int .u8 0 :: .int .u8 0 :: .int .u8 0 :: .int .u8 0 :: .int .u8 0 :: .int .u8 0 :: .int .u8 0 :: .int .u8 0 :: .int .u8 0 :: .int .u8 0 :: .int .u8 0 :: .int .u8 0 :: .int .u8 0 :: .int .u8 0 :: .int .u8 0 :: .int .u8 0 :: .int .u8 0 :: .int .u8 0 :: .int .u8 0 :: .int .u8 0 :: .int .u8 0 :: .int .u8 0 :: .int .u8 0 :: .int .u8 0 :: .int .u8 0 :: .int .u8 0 :: [] : List Value).length = (retC L K A2 B1 T).length := fun T h => by rw [retC_len h]; rfl
  have heq : ∃ t : Bool, (∀ W, (Op.equalIn 10000 27 (.agg (retC L K A1 B1 (rtag L K A1 B1)).toArray) (.agg (retC L K A2 B1 (rtag L K A2 B1)).toArray)).run Tryd.prog W = .ok t W) ∧ ((t = true ∧ (A1 : Int) = A2 ∧ (x' : Int) = y') ∨ (t = false ∧ ¬ (A1 : Int) = A2 ∧ ¬ (x' : Int) = y')) := by
    by_cases hxy : x' = y'
    · have hA := p2.2 hxy
      refine ⟨true, fun W => ?_, .inl ⟨rfl, by rw [hA], by rw [hxy]⟩⟩
      rw [eqRet _ _ _ _ _ _ _ _ _ _ t1 t2 W, hA]
      simp
    · have hA : ¬ A1 = A2 := fun h => hxy (p2.1 h)
      refine ⟨false, fun W => ?_, .inr ⟨rfl, by omega, by omega⟩⟩
      rw [eqRet _ _ _ _ _ _ _ _ _ _ t1 t2 W, show ((A1 : Int) == (A2 : Int)) = false from beq_false_of_ne (by omega)]
      simp
  obtain ⟨t, he1, he2⟩ := heq
  exact hidden_in L S' x' y' r' S' K u v V a b w hG h3 h4 h1 h2 h7 h8 h9 h0 h5 h6 ⟨rfl⟩ ⟨by rw [show (4 : Int).toNat = 4 from rfl, hK]⟩ ⟨by rw [show (4 : Int).toNat = 4 from rfl, hu]⟩ ⟨by rw [show (4 : Int).toNat = 4 from rfl, hv]⟩ ⟨vu⟩ ⟨vv⟩ ⟨ha⟩ ⟨hb⟩ N ⟨hN⟩ ⟨hV⟩ d q ⟨hd2⟩ ⟨hdQ⟩ ⟨by rw [Int.toNat_natCast]; exact hq⟩
    (retC L K A1 B1 (rtag L K A1 B1)) (retC L K A2 B1 (rtag L K A2 B1)) A1 A2 B1 t
    ⟨fun W h => omake_at L K a r' L K A1 B1 0 _ W h iL iK (by omega) (by omega) ⟨m1⟩⟩
    ⟨fun W h => omake_at L K b q L K A2 B1 0 _ W h iL iK (by omega) (by omega) ⟨m2⟩⟩
    ⟨retC_info t1⟩ ⟨retC_info t2⟩ ⟨zl _ t1⟩ ⟨zl2 _ t2⟩ ⟨retC_one _ _ _ _ _⟩ ⟨retC_one _ _ _ _ _⟩ rfl rfl rfl rfl he1 ⟨he2⟩
end Frk
