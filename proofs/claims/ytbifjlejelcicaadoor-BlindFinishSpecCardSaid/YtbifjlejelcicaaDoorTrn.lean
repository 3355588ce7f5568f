/- The reference's Transcript. -/
import Derived.Test.YtbifjlejelcicaaDoorAns
import Derived.Test.YtbifjlejelcicaaDoorRpw
namespace Frk
open Go Go.RowKit Go.Proofs
set_option maxRecDepth 100000

/-- a transcript -/
def trC (key r c s : Int) : Bool := vd key && vd r && decide (pw 4 s = mp r.toNat (pw key.toNat c))

theorem transcript_any (key r c s : Int) (w : World) : Calls Tryd.prog 36 #[.int .i64 key, .int .i64 r, .int .i64 c, .int .i64 s] w fun e w' => e = .returned (.bool (trC key r c s)) ∧ w = w' := by
  unfold trC
  cases hk : vd key with
  | false =>
    go_enter Tryd.func36, Tryd.ntmps36
    go_wp2_with (go_at_call 50; refine (rvalid_at _ _ _ hk).mono ?_; rintro e w' ⟨rfl, rfl⟩)
    go_ret
    exact ⟨ret_bool (by simp), rfl⟩
  | true =>
    cases hr : vd r with
    | false =>
      go_enter Tryd.func36, Tryd.ntmps36
      go_wp2_with fail
      refine (rvalid_at _ _ _ hk).mono ?_
      rintro e w' ⟨rfl, rfl⟩
      go_wp2_with fail
      refine (rvalid_at _ _ _ hr).mono ?_
      rintro e w' ⟨rfl, rfl⟩
      go_wp2_with fail
      go_ret
      exact ⟨ret_bool (by simp), rfl⟩
    | true =>
      have h4 : vd 4 = true := by decide +kernel
      have hp := vd_pw hk c
      obtain ⟨p1, hp1⟩ : ∃ p1 : Int, Seal (((pw 4 s : Nat) : Int) = p1) := ⟨_, ⟨rfl⟩⟩
      obtain ⟨p2, hp2⟩ : ∃ p2 : Int, Seal (((pw key.toNat c : Nat) : Int) = p2) := ⟨_, ⟨rfl⟩⟩
      obtain ⟨p3, hp3⟩ : ∃ p3 : Int, Seal (((mp r.toNat p2.toNat : Nat) : Int) = p3) := ⟨_, ⟨rfl⟩⟩
      rw [hp2.out] at hp
      have HD : Seal (decide (pw 4 s = mp r.toNat (pw key.toNat c)) = decide (p1 = p3)) := ⟨by
        rw [← hp1.out, ← hp3.out, ← hp2.out, Int.toNat_natCast]
        simp only [Int.ofNat_inj]⟩
      have HK := Seal.mk hk
      have HR := Seal.mk hr
      have H4 := Seal.mk h4
      have HP := Seal.mk hp
      clear hk hr h4 hp
      go_enter Tryd.func36, Tryd.ntmps36
      go_wp2_with fail
      refine (rvalid_at _ _ _ HK.out).mono ?_
      rintro e w' ⟨rfl, rfl⟩
      go_wp2_with fail
      refine (rvalid_at _ _ _ HR.out).mono ?_
      rintro e w' ⟨rfl, rfl⟩
      go_wp2_with fail
      refine (rpow_yes 4 s p1 _ H4.out hp1).mono ?_
      rintro e w' ⟨rfl, rfl⟩
      go_wp2_with fail
      refine (rpow_yes key c p2 _ HK.out hp2).mono ?_
      rintro e w' ⟨rfl, rfl⟩
      go_wp2_with fail
      refine (rmul_yes r p2 p3 _ HR.out HP.out hp3).mono ?_
      rintro e w' ⟨rfl, rfl⟩
      go_wp2_with fail
      go_ret
      exact ⟨ret_bool (by rw [HD.out]; by_cases h : p1 = p3 <;> simp [h]), rfl⟩
end Frk
