/- Parts of the proof, joined. -/
import Derived.Test.YtemoomfnmiodeaaDoorVrgElm
import Derived.Test.YtemoomfnmiodeaaDoorVrPow
import Derived.Test.YtemoomfnmiodeaaDoorVrgKsh
import Derived.Test.YtemoomfnmiodeaaDoorVrEak
/- elgamal's Public. -/
namespace Frk
open Go Go.RowKit Go.Proofs
set_option maxRecDepth 100000

def secB (n : Int) : Bool := decide (0 < n) && decide (n < 1073741789)

theorem esecret_any (n : Int) (t : Bool) (w : World) (ht : secB n = t) : Calls Tryd.prog 26 #[.int .i64 n] w fun e w' => e = .returned (.bool t) ∧ w = w' := by
  unfold secB at ht
  have HT := Seal.mk ht
  clear ht
  by_cases h0 : 1 ≤ n
  · by_cases h1 : n < 1073741789
    · have HF : Seal (t = true) := ⟨by rw [← HT.out, decide_eq_true (show 0 < n by omega), decide_eq_true h1]; rfl⟩
      go_enter Tryd.func26, Tryd.ntmps26
      go_wp2
      go_ret
      exact ⟨ret_bool HF.out.symm, rfl⟩
    · have HF : Seal (t = false) := ⟨by rw [← HT.out, decide_eq_false h1]; simp⟩
      go_enter Tryd.func26, Tryd.ntmps26
      go_wp2
      go_ret
      exact ⟨ret_bool HF.out.symm, rfl⟩
  · have HF : Seal (t = false) := ⟨by rw [← HT.out, decide_eq_false (show ¬ 0 < n by omega)]; simp⟩
    go_enter Tryd.func26, Tryd.ntmps26
    go_wp2
    go_ret
    exact ⟨ret_bool HF.out.symm, rfl⟩

/-- what Public returns (and blind's Begin) -/
def pubF (n : Int) : Int × Int := if secB n = true then (((pw 4 n : Nat) : Int), 0) else (0, 110)

theorem public_at (n d e0 : Int) (w : World) (h : Seal (pubF n = (d, e0))) (h1 : -9223372036854775808 ≤ n) (h2 : n ≤ 9223372036854775807) : Calls Tryd.prog 9 #[.int .i64 n] w fun e w' => e = .returned (.tuple #[.int .i64 d, .int .i64 e0]) ∧ Below w.heap.size w w' := by
  have h' := h.out
  unfold pubF at h'
  cases hs : secB n with
  | false =>
    rw [hs, if_neg (by decide)] at h'
    obtain ⟨rfl, rfl⟩ := Prod.mk.inj h'
    have HS := Seal.mk hs
    clear h h' hs h1 h2
    go_enter Tryd.func9, Tryd.ntmps9
    go_wp2_with (go_at_call 26; refine (esecret_any _ _ _ HS.out).mono ?_; rintro e w' ⟨rfl, rfl⟩)
    go_ret2
    exact ⟨rfl, Below.refl _ _⟩
  | true =>
    rw [hs, if_pos rfl] at h'
    obtain ⟨rfl, rfl⟩ := Prod.mk.inj h'
    have HS := Seal.mk hs
    have HP : Seal _ := ⟨pow_yes 4 n w (by decide +kernel) h1 h2⟩
    clear h h' hs h1 h2
    go_enter Tryd.func9, Tryd.ntmps9
    go_wp2_with (first | (go_at_call 26; refine (esecret_any _ _ _ HS.out).mono ?_; rintro e w' ⟨rfl, rfl⟩) | (go_at_call 27; refine HP.out.mono ?_; rintro e w' ⟨rfl, hb⟩))
    go_ret2
    exact ⟨rfl, hb⟩

end Frk

/- Law 45: what is sealed for a return address is read with the key's secret. -/
namespace Frk
open Go Go.RowKit Go.Proofs
set_option maxRecDepth 100000

theorem k_pwneg {a : Nat} (ha : Vd a) {e : Nat} (he : e < P) (n : Int) : mp (mp e (pw a n)) (pw a (-n)) = e := by
  rw [mp_assoc, show mp (pw a n) (pw a (-n)) = 1 from pw_neg ha n, mp_one he]
theorem k_nuB_elB {n : Int} (h1 : 1 ≤ n) (h2 : n ≤ 1073741789) : nuB (elB n) = n := by
  unfold nuB elB
  split <;> split <;> omega
theorem k_off_seal {n r : Int} {a e : Nat} (ha : a = pw 4 r) (he : e < P) {b : Nat} (hb : b = mp e (pw (pw 4 n) r)) :
    ((mp b (pw a (-n)) : Nat) : Int) = e := by
  rw [hb, ha, pw_pw vd4, pw_pw vd4, Int.mul_comm n r, show r * -n = -(r * n) from by rw [Int.mul_neg], k_pwneg vd4 he]
/-- a word, sealed for the key of a secret -/
def selP (s t v : Int) : Int × Int := (((pw 4 t : Nat) : Int), ((mp (elB v).toNat (pw (pw 4 s) t) : Nat) : Int))
theorem selP_ok (s t : Int) {v : Int} (h1 : 1 ≤ v) (h2 : v ≤ 1073741789) : vd (selP s t v).1 = true ∧ vd (selP s t v).2 = true := by
  obtain ⟨a, e, ha, _⟩ := k_vd_cast (elB_vd h1 h2)
  refine ⟨(vd_iff _).2 (Vd.pw vd4 t), ?_⟩
  show vd ((mp (elB v).toNat (pw (pw 4 s) t) : Nat) : Int) = true
  rw [e, Int.toNat_natCast]
  exact (vd_iff _).2 (ha.mp ((Vd.pw vd4 s).pw t))
theorem selP_read (s t : Int) {v : Int} (h1 : 1 ≤ v) (h2 : v ≤ 1073741789) : nuB (offP s (selP s t v)).2 = v := by
  obtain ⟨a, e, _, ha⟩ := k_vd_cast (elB_vd h1 h2)
  have h : (offP s (selP s t v)).2 = (a : Int) := by
    unfold offP selP
    show ((mp (mp (elB v).toNat (pw (pw 4 s) t)) (pw (pw 4 t) (-s)) : Nat) : Int) = _
    rw [show (elB v).toNat = a from by rw [e, Int.toNat_natCast]]
    exact k_off_seal (n := s) (r := t) rfl ha rfl
  rw [h, ← e, k_nuB_elB h1 h2]
/-- the letter with the return address -/
def bkK (n u s al r : Int) : Ltr := ⟨n, u, 5, ((pw 4 s : Nat) : Int), ((mp (1 : Int).toNat (pw 4 r) : Nat) : Int), ((mp (elB al).toNat (pw ((pw 4 s : Nat) : Int).toNat r) : Nat) : Int), rtag 5 ((pw 4 s : Nat) : Int) ((mp (1 : Int).toNat (pw 4 r) : Nat) : Int) ((mp (elB al).toNat (pw ((pw 4 s : Nat) : Int).toNat r) : Nat) : Int)⟩
theorem bkK_make (n u s r : Int) {al : Int} (h1 : 1 ≤ al) (h2 : al ≤ 1073741789) : makeF 5 ((pw 4 s : Nat) : Int) al r = (5, ((pw 4 s : Nat) : Int), (bkK n u s al r).P, (bkK n u s al r).Q, (bkK n u s al r).T, 0) := by
  unfold makeF
  rw [if_neg (by omega), if_pos ((vd_iff _).2 (Vd.pw vd4 s)), if_pos ⟨h1, h2⟩]
  rfl
theorem i64_pw (a : Nat) (n : Int) : I64 ((pw a n : Nat) : Int) := by
  have h := pw_lt a n
  have hP : P = 2147483579 := rfl
  exact ⟨by omega, by omega⟩
theorem bkK_ok {n u : Int} (s al r : Int) (hn : I64 n) (hu : I64 u) : (bkK n u s al r).ok := ⟨hn, hu, (⟨by decide, by decide⟩ : I64 5), i64_pw _ _, k_i64_mp _ _, k_i64_mp _ _, sha_length _⟩
theorem bkK_chk (n u s r : Int) {al : Int} (h1 : 1 ≤ al) (h2 : al ≤ 1073741789) : chkB (bkK n u s al r).L (bkK n u s al r).K (bkK n u s al r).P (bkK n u s al r).Q (bkK n u s al r).T = true := k_make_chk (bkK_make n u s r h1 h2)
theorem bkK_okK {n u al : Int} (s r : Int) (h1 : 1 ≤ al) (h2 : al ≤ 1073741789) (n0 : 0 ≤ n) (n1 : n ≤ 1048576) (u0 : 0 ≤ u) (u1 : u < 2097152) : okK (bkK n u s al r) = true := by
  unfold okK
  have h := bkK_chk n u s r h1 h2
  rw [h, show (bkK n u s al r).N = n from rfl, show (bkK n u s al r).U = u from rfl, decide_eq_true n0, decide_eq_true u0, decide_eq_true n1, decide_eq_true u1]
  rfl
/-- what is sent back -/
def rtL (s al r a b n0 n1 n2 : Int) : Fin 3 → Int × Int
  | 0 => selP s (r + n0) al
  | 1 => selP s n1 a
  | 2 => selP s n2 b
theorem rtL_ok (s r n0 n1 n2 : Int) {al a b : Int} (l1 : 1 ≤ al) (l2 : al ≤ 1073741789) (a1 : 1 ≤ a) (a2 : a ≤ 1073741789) (b1 : 1 ≤ b) (b2 : b ≤ 1073741789) : okL (rtL s al r a b n0 n1 n2) := fun j =>
  match j with
  | 0 => selP_ok s _ l1 l2
  | 1 => selP_ok s _ a1 a2
  | 2 => selP_ok s _ b1 b2
theorem bkK_use (n u s r n0 n1 n2 : Int) {al a b : Int} (l1 : 1 ≤ al) (l2 : al ≤ 1073741789) (a1 : 1 ≤ a) (a2 : a ≤ 1073741789) (b1 : 1 ≤ b) (b2 : b ≤ 1073741789) :
    useF (chkB (bkK n u s al r).L (bkK n u s al r).K (bkK n u s al r).P (bkK n u s al r).Q (bkK n u s al r).T) (bkK n u s al r).K (bkK n u s al r).P (bkK n u s al r).Q a b n0 n1 n2 =
      ((rtL s al r a b n0 n1 n2 0).1, (rtL s al r a b n0 n1 n2 0).2, (rtL s al r a b n0 n1 n2 1).1, (rtL s al r a b n0 n1 n2 1).2, (rtL s al r a b n0 n1 n2 2).1, (rtL s al r a b n0 n1 n2 2).2, 0) := by
  rw [bkK_chk n u s r l1 l2]
  unfold useF
  rw [if_pos rfl, if_pos ⟨a1, a2⟩, if_pos ⟨b1, b2⟩]
  have e1 : mp (1 : Int).toNat (pw 4 r) = pw 4 r := one_mp (pw_lt _ _)
  have e2 : mp (1 : Int).toNat (pw 4 n1) = pw 4 n1 := one_mp (pw_lt _ _)
  have e3 : mp (1 : Int).toNat (pw 4 n2) = pw 4 n2 := one_mp (pw_lt _ _)
  have f1 : mp (bkK n u s al r).P.toNat (pw 4 n0) = pw 4 (r + n0) := by
    show mp ((mp (1 : Int).toNat (pw 4 r) : Nat) : Int).toNat (pw 4 n0) = _
    rw [Int.toNat_natCast, e1, pw_add vd4 r n0]
    rfl
  have f2 : mp (bkK n u s al r).Q.toNat (pw (bkK n u s al r).K.toNat n0) = mp (elB al).toNat (pw (pw 4 s) (r + n0)) := by
    show mp ((mp (elB al).toNat (pw ((pw 4 s : Nat) : Int).toNat r) : Nat) : Int).toNat (pw ((pw 4 s : Nat) : Int).toNat n0) = _
    rw [Int.toNat_natCast, Int.toNat_natCast, mp_assoc, pw_add (Vd.pw vd4 s) r n0]
    rfl
  rw [f1, f2, e2, e3]
  rfl
end Frk

