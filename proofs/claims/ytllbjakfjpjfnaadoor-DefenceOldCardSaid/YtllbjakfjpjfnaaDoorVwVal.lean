/- The program's group.Valid computes whether a number is an element (by reciprocity). -/
import Derived.Test.YtllbjakfjpjfnaaDoorVwgGpr
import Derived.Deep.LoopGhost
import Derived.WalkMore
namespace Frk
open Go Go.RowKit Go.Proofs
set_option maxRecDepth 100000

def par (x n : Nat) : Bool := up x n % 2 == 0

theorem par_one (n : Nat) (h : n % 2 = 1) : par 1 n = true := by unfold par; rw [up_one n h]; rfl

theorem par_half (x n : Nat) (hn : n % 2 = 1) (hx : x % 2 = 0) (hc : Nat.gcd x n = 1) (sq : Bool) :
    (sq == par x n) = ((if n % 8 = 3 ∨ n % 8 = 5 then !sq else sq) == par (x / 2) n) := by
  have h := up_half x n hn hx hc
  unfold par
  split at h <;> rename_i h8
  · rw [if_pos h8]
    cases sq <;> rw [Bool.eq_iff_iff] <;> simp <;> omega
  · rw [if_neg h8]
    cases sq <;> rw [Bool.eq_iff_iff] <;> simp <;> omega

theorem par_turn (x n : Nat) (hn : n % 2 = 1) (hx : x % 2 = 1) (hc : Nat.gcd x n = 1) (sq : Bool) :
    (sq == par x n) = ((if x % 4 = 3 ∧ n % 4 = 3 then !sq else sq) == par (n % x) x) := by
  have h := up_turn x n hn hx hc
  unfold par
  split at h <;> rename_i h8
  · rw [if_pos h8]
    cases sq <;> rw [Bool.eq_iff_iff] <;> simp <;> omega
  · rw [if_neg h8]
    cases sq <;> rw [Bool.eq_iff_iff] <;> simp <;> omega

theorem gcd_half (x n : Nat) (h : Nat.gcd x n = 1) : Nat.gcd (x / 2) n = 1 ∨ x % 2 = 1 := by
  by_cases hx : x % 2 = 1
  · exact .inr hx
  · left
    obtain ⟨y, rfl⟩ : ∃ y, x = 2 * y := ⟨x / 2, by omega⟩
    rw [show 2 * y / 2 = y from by omega]
    exact Nat.Coprime.coprime_mul_left h

theorem gcd_turn (x n : Nat) (h : Nat.gcd x n = 1) : Nat.gcd (n % x) x = 1 := by
  rw [← Nat.gcd_rec]; exact h

/-- what holds at the head of both loops -/
structure VInv (v : Bool) (x n : Nat) (sq : Bool) : Prop where
  pos : 0 < x
  odd : n % 2 = 1
  gcd : Nat.gcd x n = 1
  val : (sq == par x n) = v

theorem VInv.half {v : Bool} {x n : Nat} {sq : Bool} (h : VInv v x n sq) (hx : x % 2 = 0) : VInv v (x / 2) n (if n % 8 = 3 ∨ n % 8 = 5 then !sq else sq) :=
  ⟨by have := h.pos; omega, h.odd, (gcd_half x n h.gcd).resolve_right (by omega), by rw [← par_half x n h.odd hx h.gcd]; exact h.val⟩

theorem VInv.turn {v : Bool} {x n : Nat} {sq : Bool} (h : VInv v x n sq) (hx : x % 2 = 1) (h1 : 1 < x) : VInv v (n % x) x (if x % 4 = 3 ∧ n % 4 = 3 then !sq else sq) :=
  ⟨by
    rcases Nat.eq_zero_or_pos (n % x) with e | e
    · have := gcd_turn x n h.gcd
      rw [e, Nat.gcd_zero_left] at this
      omega
    · exact e, hx, gcd_turn x n h.gcd, by rw [← par_turn x n h.odd hx h.gcd]; exact h.val⟩

theorem VInv.one {v : Bool} {n : Nat} {sq : Bool} (h : VInv v 1 n sq) : sq = v := by
  have := h.val
  rw [par_one n h.odd] at this
  cases sq <;> simpa using this

theorem VInv.start {x : Nat} (h0 : 0 < x) (h1 : x < 2147483579) : VInv (vd x) x 2147483579 true := by
  refine ⟨h0, rfl, prime_P.gcd (not_dvd_of_lt h0 h1), ?_⟩
  rw [Bool.eq_iff_iff, vd_iff, vd_iff_up h0 h1]
  unfold par
  simp
  rfl

def VRel (v : Bool) (K : Nat) (a b c : Value) : Prop := ∃ (x n : Nat) (sq : Bool), x < K ∧ n ≤ K ∧ a = .int .i64 x ∧ b = .int .i64 n ∧ c = .bool sq ∧ Seal (VInv v x n sq)
def VRin (v : Bool) (n x : Nat) (a c : Value) : Prop := ∃ (x' : Nat) (sq' : Bool), x' ≤ x ∧ a = .int .i64 x' ∧ c = .bool sq' ∧ Seal (VInv v x' n sq')

theorem meas_half (x : Nat) (h : 0 < x) : (intOf (.int .i64 ((x : Int) / 2))).toNat < (intOf (.int .i64 (x : Int))).toNat := by
  simp only [intOf]; omega

set_option maxHeartbeats 1000000 in
theorem valid_any (x : Int) (w : World) : Calls Tryd.prog 43 #[.int .i64 x] w fun e w' => e = .returned (.bool (vd x)) ∧ w = w' := by
  by_cases h0 : 0 < x
  · by_cases h1 : x < 2147483579
    · have HI := Seal.mk (fun (y : Nat) (e : x = y) => VInv.start (x := y) (by omega) (by omega))
      have HX := Seal.mk (And.intro h0 h1)
      have h0' : ¬ x < 1 := by omega
      have h1' : ¬ 2147483579 ≤ x := by omega
      have HV : Seal (∀ y : Nat, x = y → vd x = vd (y : Int)) := ⟨fun y e => by rw [e]⟩
      clear h0 h1
      generalize vd x = v at HV ⊢
      go_enter Tryd.func43, Tryd.ntmps43
      go_wp2
      go_step3
      go_wp2
      go_step3
      go_wp2
      obtain ⟨y, rfl⟩ := Int.eq_ofNat_of_zero_le (Int.le_of_lt HX.out.1)
      have HJ := HI.out y rfl
      rw [← HV.out y rfl] at HJ
      obtain ⟨K, hK⟩ : ∃ K : Nat, K = 2147483579 := ⟨_, rfl⟩
      have hKi : (2147483579 : Int) = (K : Int) := by omega
      have hy : y < K := by have := HX.out.2; omega
      rw [← hK] at HJ
      have HJ := Seal.mk HJ
      have hKS := Seal.mk hK
      rw [hKi]
      clear h1' HI HV hK hKi HX
      go_loop [0, 3, 4] (fun a b c => VRel v K a b c) (fun a _ _ => (intOf a).toNat)
      case atStart => exact ⟨y, K, true, hy, Nat.le_refl _, rfl, rfl, rfl, HJ⟩
      case round =>
        obtain ⟨x, n, sq, hx, hn, rfl, rfl, rfl, HX⟩ := hrel
        have hB := Seal.mk (And.intro hx hn)
        have hKi : (K : Int) = 2147483579 := by have := hKS.out; omega
        clear hx hn hy HJ h0'
        by_cases h1 : 1 < x
        · have hx1 : (1 : Int) < (x : Int) := by omega
          have HT := Seal.mk h1
          clear h1
          have HG : ∃ wo : World, wo = w := ⟨_, rfl⟩
          go_wp2
          go_loop [0, 4] (fun a c => VRin v n x a c) (fun a _ => (intOf a).toNat)
          case atStart => exact ⟨x, sq, Nat.le_refl _, rfl, rfl, HX⟩
          case round =>
            obtain ⟨x', sq', hx', rfl, rfl, HX'⟩ := hrel
            have hC := Seal.mk hx'
            have hwr : wrap64 ((x' : Int) / 2) = (x' : Int) / 2 := IntWalk.wrap64_in _ (by have := hB.out; omega)
            clear hx' HG
            by_cases h2 : x' % 2 = 0
            · have h2' : (x' : Int) % 2 = 0 := by omega
              have HH := Seal.mk (HX'.out.half h2)
              have hpos := HX'.out.pos
              have hlt : x' / 2 < x' := by omega
              have HL := Seal.mk (show x' / 2 ≤ x from by have := hC.out; omega)
              have hn0 := Seal.mk (show (n % 8 = 3) = ((n : Int) % 8 = 3) ∧ (n % 8 = 5) = ((n : Int) % 8 = 5) from by constructor <;> rw [eq_iff_iff] <;> omega)
              clear h2 hC HX'
              by_cases h3 : n % 8 = 3
              · have h3' : (n : Int) % 8 = 3 := by omega
                rw [if_pos (.inl h3)] at HH
                clear h3
                go_wp2
                go_round
                case rel => exact ⟨x' / 2, !sq', HL.out, by go_num, by simp, HH⟩
                case measure => rw [hwr]; exact meas_half _ hpos
              · by_cases h5 : n % 8 = 5
                · have h5' : (n : Int) % 8 = 5 := by omega
                  rw [if_pos (.inr h5)] at HH
                  have h3' : ((n : Int) % 8 == 3) = false := by simp; omega
                  clear h3 h5
                  go_wp2
                  go_round
                  case rel => exact ⟨x' / 2, !sq', HL.out, by go_num, by simp, HH⟩
                  case measure => rw [hwr]; exact meas_half _ hpos
                · have h5' : ((n : Int) % 8 == 5) = false := by simp; omega
                  rw [if_neg (by rintro (h | h); exact h3 h; exact h5 h)] at HH
                  have h3' : ((n : Int) % 8 == 3) = false := by simp; omega
                  clear h3 h5
                  go_wp2
                  go_round
                  case rel => exact ⟨x' / 2, sq', HL.out, by go_num, rfl, HH⟩
                  case measure => rw [hwr]; exact meas_half _ hpos
            · have h2' : ¬ (x' : Int) % 2 = 0 := by omega
              by_cases h4 : x' = 1
              · subst h4
                have HE := Seal.mk HX'.out.one
                clear h2 hC HX'
                rw [show ((1 : Nat) : Int) = 1 from rfl]
                go_wp2
                go_ret
                exact ⟨ret_bool HE.out, rfl⟩
              · have h4' : ¬ (x' : Int) = 1 := by omega
                have hgt : 1 < x' := by have := HX'.out.pos; omega
                have HH := Seal.mk (HX'.out.turn (by omega) hgt)
                have HL := Seal.mk (show n % x' < K ∧ x' ≤ K ∧ n % x' < x from by have := Nat.mod_lt n (show 0 < x' from by omega); have := hC.out; have := hB.out; omega)
                have hx0 : ¬ (x' : Int) = 0 := by omega
                clear h2 h4 hgt HX' hC
                by_cases h5 : x' % 4 = 3 ∧ n % 4 = 3
                · have h5' : (x' : Int) % 4 = 3 := by omega
                  have h6' : (n : Int) % 4 = 3 := by omega
                  rw [if_pos h5] at HH
                  clear h5
                  go_wp2
                  go_round
                  case rel => exact ⟨_, _, _, ⟨n % x', x', !sq', HL.out.1, HL.out.2.1, rfl, rfl, rfl, HH⟩, by simp, rfl, rfl⟩
                  case measure => have := HL.out.2.2; rw [show (n : Int) % (x' : Int) = ((n % x' : Nat) : Int) from by simp]; simp only [intOf]; omega
                · rw [if_neg h5] at HH
                  by_cases h6 : x' % 4 = 3
                  · have h5' : (x' : Int) % 4 = 3 := by omega
                    have h6' : ¬ (n : Int) % 4 = 3 := by omega
                    clear h5 h6
                    go_wp2
                    go_round
                    case rel => exact ⟨_, _, _, ⟨n % x', x', sq', HL.out.1, HL.out.2.1, rfl, rfl, rfl, HH⟩, by simp, rfl, rfl⟩
                    case measure => have := HL.out.2.2; rw [show (n : Int) % (x' : Int) = ((n % x' : Nat) : Int) from by simp]; simp only [intOf]; omega
                  · have h5' : ¬ (x' : Int) % 4 = 3 := by omega
                    clear h5 h6
                    go_wp2
                    go_round
                    case rel => exact ⟨_, _, _, ⟨n % x', x', sq', HL.out.1, HL.out.2.1, rfl, rfl, rfl, HH⟩, by simp, rfl, rfl⟩
                    case measure => have := HL.out.2.2; rw [show (n : Int) % (x' : Int) = ((n % x' : Nat) : Int) from by simp]; simp only [intOf]; omega
        · have hx1 : ¬ (1 : Int) < (x : Int) := by omega
          have HE : Seal (sq = v) := ⟨by
            have e : x = 1 := by have := HX.out.pos; omega
            have := HX.out; rw [e] at this; exact this.one⟩
          clear h1
          go_wp2
          go_ret
          exact ⟨ret_bool HE.out, rfl⟩
    · have HV := Seal.mk (vd_high (x := x) (by omega))
      have h0' : ¬ x < 1 := by omega
      have h1' : 2147483579 ≤ x := by omega
      clear h0 h1
      go_enter Tryd.func43, Tryd.ntmps43
      go_wp2
      go_step3
      go_wp2
      try rw [Exit.noGoto_ret]
      go_ret
      exact ⟨ret_bool (by rw [HV.out]), rfl⟩
  · have HV := Seal.mk (vd_low (x := x) (by omega))
    have h0' : x < 1 := by omega
    clear h0
    go_enter Tryd.func43, Tryd.ntmps43
    go_wp2
    go_step3
    go_wp2
    try rw [Exit.noGoto_ret]
    go_ret
    exact ⟨ret_bool (by rw [HV.out]), rfl⟩
end Frk
