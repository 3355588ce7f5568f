/- The reference's blind: Begin, Ask, Answer, Finish, Link. -/
import Derived.Test.YtbifjlejelcicaaDoorRsg
import Derived.Test.YtbifjlejelcicaaDoorBpl
namespace Frk
open Go Go.RowKit Go.Proofs
set_option maxRecDepth 100000

theorem rsecret_any (n : Int) (w : World) : Calls Tryd.prog 59 #[.int .i64 n] w fun e w' => e = .returned (.bool (secB n)) ∧ w = w' := by
  by_cases h1 : 1 ≤ n
  · by_cases h2 : n < 1073741789
    · have hs : secB n = true := by unfold secB; rw [decide_eq_true (show 0 < n by omega), decide_eq_true h2]; rfl
      rw [hs]; clear hs
      go_enter Tryd.func59, Tryd.ntmps59
      go_wp2
      go_ret
      exact ⟨rfl, rfl⟩
    · have hs : secB n = false := by unfold secB; rw [decide_eq_false h2]; simp
      rw [hs]; clear hs
      go_enter Tryd.func59, Tryd.ntmps59
      go_wp2
      go_ret
      exact ⟨rfl, rfl⟩
  · have hs : secB n = false := by unfold secB; rw [decide_eq_false (show ¬ 0 < n by omega)]; rfl
    rw [hs]; clear hs
    go_enter Tryd.func59, Tryd.ntmps59
    go_wp2
    go_ret
    exact ⟨rfl, rfl⟩

theorem rsecret_at (n : Int) (t : Bool) (w : World) (h : secB n = t) : Calls Tryd.prog 59 #[.int .i64 n] w fun e w' => e = .returned (.bool t) ∧ w = w' := by
  rw [← h]; exact rsecret_any n w

theorem rbegin_at (n d e0 : Int) (w : World) (h : Seal ((if secB n = true then (((pw 4 n : Nat) : Int), (0 : Int)) else (0, 110)) = (d, e0))) : Calls Tryd.prog 27 #[.int .i64 n] w fun e w' => e = .returned (.tuple #[.int .i64 d, .int .i64 e0]) ∧ Below w.heap.size w w' := by
  have h' := h.out
  cases hs : secB n with
  | true =>
    rw [if_pos hs] at h'
    obtain ⟨hp, rfl⟩ := Prod.mk.inj h'
    have HP := Seal.mk hp
    have HS := Seal.mk hs
    clear h h' hp hs
    go_enter Tryd.func27, Tryd.ntmps27
    go_wp2_with fail
    refine (rsecret_at n true _ HS.out).mono ?_
    rintro e w' ⟨rfl, rfl⟩
    go_wp2_with fail
    refine (rp4 n _ d HP).mono ?_
    rintro e w' ⟨rfl, rfl⟩
    go_wp2
    go_ret2
    exact ⟨rfl, Below.refl _ _⟩
  | false =>
    rw [if_neg (by rw [hs]; decide)] at h'
    obtain ⟨rfl, rfl⟩ := Prod.mk.inj h'
    have HS := Seal.mk hs
    clear h h' hs
    go_enter Tryd.func27, Tryd.ntmps27
    go_wp2_with fail
    refine (rsecret_at n false _ HS.out).mono ?_
    rintro e w' ⟨rfl, rfl⟩
    go_wp2
    go_ret2
    exact ⟨rfl, Below.refl _ _⟩

set_option maxHeartbeats 1000000 in
theorem rblhash_at (key r u v h : Int) (a : Option Addr) (len cap : Nat) (b : Bytes) (w : World) (hk : vd key = true) (hr : vd r = true) (hh : Seal (((blHash key r b u v : Nat) : Int) = h)) (hb : IsB w a len cap b) (hl : len ≤ 1099511627776) :
    Calls Tryd.prog 63 #[.int .i64 key, .int .i64 r, .slice a len cap, .int .i64 u, .int .i64 v] w fun e w' => e = .returned (.int .i64 h) ∧ Below w.heap.size w w' := by
  obtain ⟨x, hx⟩ : ∃ x : Int, ((pw 4 u : Nat) : Int) = x := ⟨_, rfl⟩
  obtain ⟨y, hy⟩ : ∃ y : Int, ((pw key.toNat v : Nat) : Int) = y := ⟨_, rfl⟩
  obtain ⟨z, hz⟩ : ∃ z : Int, ((mp x.toNat y.toNat : Nat) : Int) = z := ⟨_, rfl⟩
  obtain ⟨p, hp⟩ : ∃ p : Int, ((mp r.toNat z.toNat : Nat) : Int) = p := ⟨_, rfl⟩
  have vx : vd x = true := by rw [← hx]; exact vd_pw (a := 4) (by decide +kernel) u
  have vy : vd y = true := by rw [← hy]; exact vd_pw hk v
  have vz : vd z = true := by
    obtain ⟨X, rfl, hX⟩ := vd_of_vd vx
    obtain ⟨Y, rfl, hY⟩ := vd_of_vd vy
    rw [← hz]; exact vd_of_nat (hX.mp hY)
  have hpl := mp_lt r.toNat z.toNat
  rw [show P = 2147483579 from rfl] at hpl
  have hpb : 0 ≤ p ∧ p < 2147483579 := by omega
  have hkr := vd_range hk
  have HPB : Seal (blPoint key r u v = p.toNat) := ⟨by
    unfold blPoint
    rw [← hp, ← hz, ← hx, ← hy]; rfl⟩
  have HHC : Seal (Calls Tryd.prog 47 #[.int .i64 p, .int .i64 key, .slice a len cap] w fun e w' => e = .returned (.int .i64 h) ∧ Below w.heap.size w w') := ⟨by
    have e1 : ((sgHash p key b : Nat) : Int) = h := by
      rw [← hh.out]; unfold blHash; rw [HPB.out, show ((p.toNat : Nat) : Int) = p from by omega]
    rw [← e1]; exact rhash_any p key a len cap b w hb hl (by omega) (by omega) (by omega) (by omega)⟩
  have HX := Seal.mk hx
  have HY := Seal.mk hy
  have HZ := Seal.mk hz
  have HP := Seal.mk hp
  have HV := Seal.mk (And.intro hk (And.intro hr (And.intro vx (And.intro vy vz))))
  clear hx hy hz hp vx vy vz hpl hpb hkr hk hr hb hh
  go_enter Tryd.func63, Tryd.ntmps63
  go_wp2_with fail
  refine (rp4 u _ x HX).mono ?_
  rintro e w' ⟨rfl, rfl⟩
  go_wp2_with fail
  refine (rpow_yes key v y _ HV.out.1 HY).mono ?_
  rintro e w' ⟨rfl, rfl⟩
  go_wp2_with fail
  refine (rmul_yes x y z _ HV.out.2.2.1 HV.out.2.2.2.1 HZ).mono ?_
  rintro e w' ⟨rfl, rfl⟩
  go_wp2_with fail
  refine (rmul_yes r z p _ HV.out.2.1 HV.out.2.2.2.2 HP).mono ?_
  rintro e w' ⟨rfl, rfl⟩
  go_wp2_with fail
  refine HHC.out.mono ?_
  rintro e w1 ⟨rfl, hb1⟩
  have HB1 := Seal.mk hb1
  clear hb1
  go_wp2
  go_ret
  exact ⟨rfl, HB1.out⟩

set_option maxHeartbeats 1000000 in
theorem rask_at (key r u v d e0 : Int) (a : Option Addr) (len cap : Nat) (b : Bytes) (w : World) (h : Seal (askC key r b u v = (d, e0))) (hb : IsB w a len cap b) (hl : len ≤ 1099511627776) :
    Calls Tryd.prog 29 #[.int .i64 key, .int .i64 r, .slice a len cap, .int .i64 u, .int .i64 v] w fun e w' => e = .returned (.tuple #[.int .i64 d, .int .i64 e0]) ∧ Below w.heap.size w w' := by
  have h' := h.out
  unfold askC at h'
  cases hk : vd key with
  | false =>
    rw [if_neg (by simp [hk])] at h'
    obtain ⟨rfl, rfl⟩ := Prod.mk.inj h'
    have HK := Seal.mk hk
    clear hk h h' hb
    go_enter Tryd.func29, Tryd.ntmps29
    go_wp2_with fail
    refine (rvalid_at key false _ HK.out).mono ?_
    rintro e w' ⟨rfl, rfl⟩
    go_wp2
    go_ret2
    exact ⟨rfl, Below.refl _ _⟩
  | true =>
    cases hr : vd r with
    | false =>
      rw [if_neg (by simp [hr])] at h'
      obtain ⟨rfl, rfl⟩ := Prod.mk.inj h'
      have HK := Seal.mk hk
      have HR := Seal.mk hr
      clear hk hr h h' hb
      go_enter Tryd.func29, Tryd.ntmps29
      go_wp2_with fail
      refine (rvalid_at key true _ HK.out).mono ?_
      rintro e w' ⟨rfl, rfl⟩
      go_wp2_with fail
      refine (rvalid_at r false _ HR.out).mono ?_
      rintro e w' ⟨rfl, rfl⟩
      go_wp2
      go_ret2
      exact ⟨rfl, Below.refl _ _⟩
    | true =>
      rw [if_pos (by rw [hk, hr]; rfl)] at h'
      obtain ⟨hd, rfl⟩ := Prod.mk.inj h'
      obtain ⟨H, hH⟩ : ∃ H : Int, ((blHash key r b u v : Nat) : Int) = H := ⟨_, rfl⟩
      have hHl : blHash key r b u v < 1073741789 := ghash_lt _ _
      obtain ⟨V, hV⟩ : ∃ V : Int, ((lq v : Nat) : Int) = V := ⟨_, rfl⟩
      have hvl := lq_rng v
      rw [hV] at hvl
      obtain ⟨v0, v9⟩ := hvl
      rw [hH, hV, lq_cast] at hd
      have HD := Seal.mk hd
      have hHb : 0 ≤ H ∧ H < 1073741789 := by omega
      obtain ⟨H0, H9⟩ := hHb
      have HC := Seal.mk (rblhash_at key r u v H a len cap b w hk hr ⟨hH⟩ hb hl)
      have HM : Seal (∀ w, Calls Tryd.prog 23 #[.int .i64 v] w fun e w' => e = .returned (.int .i64 V) ∧ w = w') := ⟨fun w => by rw [← hV]; exact mod_any v w⟩
      have HK := Seal.mk hk
      have HR := Seal.mk hr
      clear hk hr h h' hb hd hH hV hHl
      go_enter Tryd.func29, Tryd.ntmps29
      go_wp2_with fail
      refine (rvalid_at key true _ HK.out).mono ?_
      rintro e w' ⟨rfl, rfl⟩
      go_wp2_with fail
      refine (rvalid_at r true _ HR.out).mono ?_
      rintro e w' ⟨rfl, rfl⟩
      go_wp2_with fail
      refine HC.out.mono ?_
      rintro e w1 ⟨rfl, hb1⟩
      have HB1 := Seal.mk hb1
      clear hb1
      go_wp2_with fail
      refine (HM.out _).mono ?_
      rintro e w' ⟨rfl, rfl⟩
      go_wp2
      go_ret2
      exact ⟨by rw [← HD.out]; rfl, HB1.out⟩

theorem lq_answer (n c key : Int) : (n + ((lq c * lq key % 1073741789 : Nat) : Int)) % 1073741789 = ((lq (n + (lq c : Nat) * key) : Nat) : Int) := by
  have e1 : ((lq c * lq key % 1073741789 : Nat) : Int) = ((lq c : Nat) : Int) * ((lq key : Nat) : Int) % 1073741789 := by rw [Int.natCast_emod, Int.natCast_mul]; rfl
  have e2 : ((lq key : Nat) : Int) = key % 1073741789 := lq_cast key
  have e3 : ((lq (n + (lq c : Nat) * key) : Nat) : Int) = (n + (lq c : Nat) * key) % 1073741789 := lq_cast _
  rw [e1, e3, e2]
  simp [Int.add_emod, Int.mul_emod]

set_option maxHeartbeats 1000000 in
theorem ranswer_at (key n c d e0 : Int) (w : World) (h : Seal (answerC key n c = (d, e0))) :
    Calls Tryd.prog 31 #[.int .i64 key, .int .i64 n, .int .i64 c] w fun e w' => e = .returned (.tuple #[.int .i64 d, .int .i64 e0]) ∧ Below w.heap.size w w' := by
  have h' := h.out
  unfold answerC at h'
  cases hk : secB key with
  | false =>
    rw [if_neg (by simp [hk])] at h'
    obtain ⟨rfl, rfl⟩ := Prod.mk.inj h'
    have HK := Seal.mk hk
    clear hk h h'
    go_enter Tryd.func31, Tryd.ntmps31
    go_wp2_with fail
    refine (rsecret_at key false _ HK.out).mono ?_
    rintro e w' ⟨rfl, rfl⟩
    go_wp2
    go_ret2
    exact ⟨rfl, Below.refl _ _⟩
  | true =>
    cases hr : secB n with
    | false =>
      rw [if_neg (by simp [hr])] at h'
      obtain ⟨rfl, rfl⟩ := Prod.mk.inj h'
      have HK := Seal.mk hk
      have HR := Seal.mk hr
      clear hk hr h h'
      go_enter Tryd.func31, Tryd.ntmps31
      go_wp2_with fail
      refine (rsecret_at key true _ HK.out).mono ?_
      rintro e w' ⟨rfl, rfl⟩
      go_wp2_with fail
      refine (rsecret_at n false _ HR.out).mono ?_
      rintro e w' ⟨rfl, rfl⟩
      go_wp2
      go_ret2
      exact ⟨rfl, Below.refl _ _⟩
    | true =>
      rw [if_pos (by rw [hk, hr]; rfl)] at h'
      obtain ⟨hd, rfl⟩ := Prod.mk.inj h'
      have hn : 0 < n ∧ n < 1073741789 := by unfold secB at hr; simpa using hr
      obtain ⟨n0, n9⟩ := hn
      rw [← lq_answer] at hd
      have HD := Seal.mk hd
      have hT : lq c * lq key % 1073741789 < 1073741789 := Nat.mod_lt _ (by decide)
      have HK := Seal.mk hk
      have HR := Seal.mk hr
      clear hk hr h h' hd
      go_enter Tryd.func31, Tryd.ntmps31
      go_wp2_with fail
      refine (rsecret_at key true _ HK.out).mono ?_
      rintro e w' ⟨rfl, rfl⟩
      go_wp2_with fail
      refine (rsecret_at n true _ HR.out).mono ?_
      rintro e w' ⟨rfl, rfl⟩
      go_wp2_with fail
      refine (rtimes_any _ _ _).mono ?_
      rintro e w' ⟨rfl, rfl⟩
      generalize lq c * lq key % 1073741789 = T at *
      go_wp2
      go_ret2
      exact ⟨by rw [← HD.out]; rfl, Below.refl _ _⟩

set_option maxHeartbeats 2000000 in
theorem rfinish_at (key r u v s d0 d1 e0 : Int) (a : Option Addr) (len cap : Nat) (b : Bytes) (w : World) (h : Seal (finishC key r b u v s = (d0, d1, e0))) (hb : IsB w a len cap b) (hl : len ≤ 1099511627776) :
    Calls Tryd.prog 33 #[.int .i64 key, .int .i64 r, .slice a len cap, .int .i64 u, .int .i64 v, .int .i64 s] w fun e w' => e = .returned (.tuple #[.agg #[.int .i64 d0, .int .i64 d1], .int .i64 e0]) ∧ Below w.heap.size w w' := by
  have h' := h.out
  unfold finishC at h'
  cases hk : vd key with
  | false =>
    rw [if_neg (by simp [hk])] at h'
    obtain ⟨rfl, h3⟩ := Prod.mk.inj h'
    obtain ⟨rfl, rfl⟩ := Prod.mk.inj h3
    have HK := Seal.mk hk
    clear hk h h' hb h3
    go_enter Tryd.func33, Tryd.ntmps33
    go_wp2_with fail
    refine (rvalid_at key false _ HK.out).mono ?_
    rintro e w' ⟨rfl, rfl⟩
    go_wp2
    refine bodyPost_ret (v := .tuple #[.agg #[.int .i64 0, .int .i64 0], .int .i64 90]) (by simp [results, Tryd.results33, go_sem]) rfl ⟨rfl, below_alloc _ _⟩
  | true =>
    cases hr : vd r with
    | false =>
      rw [if_neg (by simp [hr])] at h'
      obtain ⟨rfl, h3⟩ := Prod.mk.inj h'
      obtain ⟨rfl, rfl⟩ := Prod.mk.inj h3
      have HK := Seal.mk hk
      have HR := Seal.mk hr
      clear hk hr h h' hb h3
      go_enter Tryd.func33, Tryd.ntmps33
      go_wp2_with fail
      refine (rvalid_at key true _ HK.out).mono ?_
      rintro e w' ⟨rfl, rfl⟩
      go_wp2_with fail
      refine (rvalid_at r false _ HR.out).mono ?_
      rintro e w' ⟨rfl, rfl⟩
      go_wp2
      refine bodyPost_ret (v := .tuple #[.agg #[.int .i64 0, .int .i64 0], .int .i64 90]) (by simp [results, Tryd.results33, go_sem]) rfl ⟨rfl, below_alloc _ _⟩
    | true =>
      rw [if_pos (by rw [hk, hr]; rfl)] at h'
      obtain ⟨H, hH⟩ : ∃ H : Int, ((blHash key r b u v : Nat) : Int) = H := ⟨_, rfl⟩
      have hHl : blHash key r b u v < 1073741789 := ghash_lt _ _
      obtain ⟨V, hV⟩ : ∃ V : Int, ((lq s : Nat) : Int) = V := ⟨_, rfl⟩
      have hvl := lq_rng s
      rw [hV] at hvl
      obtain ⟨v0, v9⟩ := hvl
      obtain ⟨U, hU⟩ : ∃ U : Int, ((lq u : Nat) : Int) = U := ⟨_, rfl⟩
      have hul := lq_rng u
      rw [hU] at hul
      obtain ⟨u0, u9⟩ := hul
      have hHb : 0 ≤ H ∧ H < 1073741789 := by omega
      obtain ⟨H0, H9⟩ := hHb
      have hS : ((lq ((lq s : Nat) + (lq u : Nat)) : Nat) : Int) = (V + U) % 1073741789 := by rw [lq_cast, hV, hU]; rfl
      unfold finH at h'
      rw [hH, hS] at h'
      obtain ⟨S, hSS⟩ : ∃ S : Int, (V + U) % 1073741789 = S := ⟨_, rfl⟩
      rw [hSS] at h'
      obtain ⟨X, hX⟩ : ∃ X : World, Seal (X = w.alloc (.cells #[.int .i64 0, .int .i64 0] 24)) := ⟨_, ⟨rfl⟩⟩
      have hXb : Seal (Below w.heap.size w X) := ⟨by rw [hX.out]; exact below_alloc _ _⟩
      have hXs : Seal (X.heap.size = w.heap.size + 1) := ⟨by rw [hX.out, size_alloc]⟩
      have hXr : Seal (X.heap[w.heap.size]? = some (.cells #[.int .i64 0, .int .i64 0] 24 (0, 0))) := ⟨by rw [hX.out]; exact heap_alloc_new w _⟩
      have HI : Seal (IsB X a len cap b) := ⟨hb.below hXb.out⟩
      have HC := Seal.mk (rblhash_at key r u v H a len cap b X hk hr ⟨hH⟩ HI.out hl)
      have HMs : Seal (∀ w, Calls Tryd.prog 23 #[.int .i64 s] w fun e w' => e = .returned (.int .i64 V) ∧ w = w') := ⟨fun w => by rw [← hV]; exact mod_any s w⟩
      have HMu : Seal (∀ w, Calls Tryd.prog 23 #[.int .i64 u] w fun e w' => e = .returned (.int .i64 U) ∧ w = w') := ⟨fun w => by rw [← hU]; exact mod_any u w⟩
      have HV : Seal (∀ w, IsB w a len cap b → Calls Tryd.prog 17 #[.int .i64 key, .slice a len cap, .agg #[.int .i64 H, .int .i64 S]] w fun e w' => e = .returned (.bool (vrB key b H S)) ∧ Below w.heap.size w w') := ⟨fun w h => rverify_any key H S a len cap b w h hl⟩
      have HSS := Seal.mk hSS
      have HK := Seal.mk hk
      have HR := Seal.mk hr
      have H' := Seal.mk h'
      clear hk hr h h' hb hS hSS hH hV hHl hU
      go_enter Tryd.func33, Tryd.ntmps33
      go_wp2_with fail
      refine (rvalid_at key true _ HK.out).mono ?_
      rintro e w' ⟨rfl, rfl⟩
      go_wp2_with fail
      refine (rvalid_at r true _ HR.out).mono ?_
      rintro e w' ⟨rfl, rfl⟩
      go_wp2_with fail
      rw [← hX.out]
      refine HC.out.mono ?_
      rintro e w1 ⟨rfl, hb1⟩
      have HB1 : Seal (Below w.heap.size w w1) := ⟨hXb.out.trans (hb1.mono hXb.out.size)⟩
      have HR1 : Seal (w1.heap[w.heap.size]? = some (.cells #[.int .i64 0, .int .i64 0] 24 (0, 0))) := ⟨(hb1.block _ (by rw [hXs.out]; omega)).trans hXr.out⟩
      have HI1 : Seal (IsB w1 a len cap b) := ⟨HI.out.below hb1⟩
      clear hb1 HC
      go_wp2_with (go_at_call 23; first
        | (with_reducible refine (HMs.out _).mono ?_; rintro e w' ⟨rfl, rfl⟩)
        | (with_reducible refine (HMu.out _).mono ?_; rintro e w' ⟨rfl, rfl⟩))
      rw [HSS.out]
      have HI2 : Seal (IsB (w1.alloc (.cells #[.int .i64 H, .int .i64 S] 24)) a len cap b) := ⟨HI1.out.below (below_alloc _ _)⟩
      refine (HV.out _ HI2.out).mono ?_
      rintro e w2 ⟨rfl, hb2⟩
      have hlt := (Array.getElem?_eq_some_iff.1 HR1.out).1
      have HR2 : Seal (w2.heap[w.heap.size]? = some (.cells #[.int .i64 0, .int .i64 0] 24 (0, 0))) := ⟨(hb2.block _ (by rw [size_alloc]; omega)).trans ((Below.heap_alloc _ _ _ hlt).trans HR1.out)⟩
      have HR3 : Seal (w2.heap[w1.heap.size]? = some (.cells #[.int .i64 H, .int .i64 S] 24 (0, 0))) := ⟨(hb2.block _ (by rw [size_alloc]; omega)).trans (heap_alloc_new w1 _)⟩
      have HB2 : Seal (Below w.heap.size w w2) := ⟨(HB1.out.alloc (Nat.le_of_lt hlt) _).trans (hb2.mono (by rw [size_alloc]; omega))⟩
      have c0 : w2.cell? ⟨w.heap.size, 0, none⟩ = some (.int .i64 0) := by rw [cell_of_row _ _ _ _ _ _ HR2.out]; rfl
      have c1 : w2.cell? ⟨w.heap.size, 1, none⟩ = some (.int .i64 0) := by rw [cell_of_row _ _ _ _ _ _ HR2.out]; rfl
      have f0 : w2.frozen? ⟨w.heap.size, 0, none⟩ = false := frozen_of_row _ _ _ _ _ HR2.out
      have f1 : w2.frozen? ⟨w.heap.size, 1, none⟩ = false := frozen_of_row _ _ _ _ _ HR2.out
      have e0' : w2.cell? ⟨w1.heap.size, 0, none⟩ = some (.int .i64 H) := by rw [cell_of_row _ _ _ _ _ _ HR3.out]; rfl
      have e1' : w2.cell? ⟨w1.heap.size, 1, none⟩ = some (.int .i64 S) := by rw [cell_of_row _ _ _ _ _ _ HR3.out]; rfl
      clear hb2
      cases hvr : vrB key b H S with
      | true =>
        have h' := H'.out
        rw [if_pos hvr] at h'
        obtain ⟨rfl, h3⟩ := Prod.mk.inj h'
        obtain ⟨rfl, rfl⟩ := Prod.mk.inj h3
        clear h' h3 H' hvr
        go_wp2
        have hr9 := heap_setCell_row (cs := [.int .i64 H, .int .i64 0]) (i := 1) (.int .i64 S) (heap_setCell_row (cs := [.int .i64 0, .int .i64 0]) (i := 0) (.int .i64 H) HR2.out)
        have hd0 := cell_of_row _ _ 0 _ _ _ hr9
        have hd1 := cell_of_row _ _ 1 _ _ _ hr9
        simp only [List.set_cons_zero, List.set_cons_succ] at hd0 hd1
        refine bodyPost_ret (v := .tuple #[.agg #[.int .i64 H, .int .i64 S], .int .i64 0]) (by simp [results, Tryd.results33, go_sem, hd0, hd1]) rfl ⟨rfl, ?_⟩
        exact (HB2.out.setCell (p := ⟨w.heap.size, 0, none⟩) (Nat.le_refl _) _).setCell (p := ⟨w.heap.size, 1, none⟩) (Nat.le_refl _) _
      | false =>
        have h' := H'.out
        rw [if_neg (by rw [hvr]; decide)] at h'
        obtain ⟨rfl, h3⟩ := Prod.mk.inj h'
        obtain ⟨rfl, rfl⟩ := Prod.mk.inj h3
        clear h' h3 H' hvr
        go_wp2
        have hr9 := heap_setCell_row (cs := [.int .i64 0, .int .i64 0]) (i := 1) (.int .i64 0) (heap_setCell_row (cs := [.int .i64 0, .int .i64 0]) (i := 0) (.int .i64 0) HR2.out)
        have hd0 := cell_of_row _ _ 0 _ _ _ hr9
        have hd1 := cell_of_row _ _ 1 _ _ _ hr9
        simp only [List.set_cons_zero, List.set_cons_succ] at hd0 hd1
        refine bodyPost_ret (v := .tuple #[.agg #[.int .i64 0, .int .i64 0], .int .i64 150]) (by simp [results, Tryd.results33, go_sem, hd0, hd1]) rfl ⟨rfl, ?_⟩
        exact (HB2.out.setCell (p := ⟨w.heap.size, 0, none⟩) (Nat.le_refl _) _).setCell (p := ⟨w.heap.size, 1, none⟩) (Nat.le_refl _) _

theorem link_cond (key r c s : Int) (b : Bytes) (E S : Int) : ((vd key && vd r) && linkT key r c s b E S) = (trC key r c s && vrB key b E S) := by
  unfold linkT trC
  rw [blPoint_zero]
  cases vd key <;> cases vd r <;> cases vrB key b E S <;> cases decide (pw 4 s = mp r.toNat (pw key.toNat c)) <;> rfl

theorem tr_at (key r c s : Int) (t : Bool) (w : World) (h : trC key r c s = t) : Calls Tryd.prog 36 #[.int .i64 key, .int .i64 r, .int .i64 c, .int .i64 s] w fun e w' => e = .returned (.bool t) ∧ w = w' := by
  rw [← h]; exact transcript_any key r c s w

theorem vrB_rng {key : Int} {b : Bytes} {E S : Int} (h : vrB key b E S = true) : (0 ≤ E ∧ E < 1073741789) ∧ (0 ≤ S ∧ S < 1073741789) := by
  unfold vrB at h
  simp only [Bool.and_eq_true] at h
  exact ⟨(inQ_iff E).1 h.1.1.1, (inQ_iff S).1 h.1.1.2⟩

theorem rmod_quiet (n : Int) (v : Int) (w : World) (d : Nat) (h : ((lq n : Nat) : Int) = v) : Calls Tryd.prog 23 #[.int .i64 n] (w.drewN d) fun e w' => e = .returned (.int .i64 v) ∧ ∃ m, w' = w.drewN m := by
  rw [← h]; exact quiet_left (mod_any n (w.drewN d))

set_option maxHeartbeats 2000000 in
theorem rlink_at (key r c s E S d0 d1 : Int) (t : Bool) (a : Option Addr) (len cap : Nat) (b : Bytes) (w : World) (h : Seal (linkC key r c s b E S = (d0, d1, t))) (hb : IsB w a len cap b) (hl : len ≤ 1099511627776) :
    Calls Tryd.prog 35 #[.int .i64 key, .int .i64 r, .int .i64 c, .int .i64 s, .slice a len cap, .agg #[.int .i64 E, .int .i64 S]] w fun e w' => e = .returned (.tuple #[.int .i64 d0, .int .i64 d1, .bool t]) ∧ Below w.heap.size w w' := by
  have h' := h.out
  unfold linkC at h'
  rw [link_cond] at h'
  cases hk : trC key r c s with
  | false =>
    rw [if_neg (by simp [hk])] at h'
    obtain ⟨rfl, h3⟩ := Prod.mk.inj h'
    obtain ⟨rfl, rfl⟩ := Prod.mk.inj h3
    have HK := Seal.mk hk
    clear hk h h' hb h3
    go_enter Tryd.func35, Tryd.ntmps35
    go_wp2_with fail
    refine (tr_at key r c s false _ HK.out).mono ?_
    rintro e w' ⟨rfl, rfl⟩
    go_wp2
    go_ret3
    exact ⟨rfl, below_alloc _ _⟩
  | true =>
    have HK := Seal.mk hk
    have HI : Seal (IsB (w.alloc (.cells #[.int .i64 E, .int .i64 S] 24)) a len cap b) := ⟨hb.below (below_alloc _ _)⟩
    have HC := Seal.mk (rverify_any key E S a len cap b (w.alloc (.cells #[.int .i64 E, .int .i64 S] 24)) HI.out hl)
    cases hr : vrB key b E S with
    | false =>
      rw [if_neg (by simp [hr])] at h'
      obtain ⟨rfl, h3⟩ := Prod.mk.inj h'
      obtain ⟨rfl, rfl⟩ := Prod.mk.inj h3
      rw [hr] at HC
      clear hk hr h h' hb h3
      go_enter Tryd.func35, Tryd.ntmps35
      go_wp2_with fail
      refine (tr_at key r c s true _ HK.out).mono ?_
      rintro e w' ⟨rfl, rfl⟩
      go_wp2_with fail
      refine HC.out.mono ?_
      rintro e w1 ⟨rfl, hb1⟩
      have HB1 : Seal (Below w.heap.size w w1) := ⟨(below_alloc _ _).trans (hb1.mono (by rw [size_alloc]; omega))⟩
      clear hb1
      go_wp2
      go_ret3
      exact ⟨rfl, HB1.out⟩
    | true =>
      rw [if_pos (by rw [hk, hr]; rfl)] at h'
      obtain ⟨hd0, h3⟩ := Prod.mk.inj h'
      obtain ⟨hd1, rfl⟩ := Prod.mk.inj h3
      rw [hr] at HC
      have hrg := vrB_rng hr
      obtain ⟨⟨E0, E9⟩, S0, S9⟩ := hrg
      obtain ⟨U, hU⟩ : ∃ U : Int, ((lq s : Nat) : Int) = U := ⟨_, rfl⟩
      obtain ⟨V, hV⟩ : ∃ V : Int, ((lq c : Nat) : Int) = V := ⟨_, rfl⟩
      have hul := lq_rng s
      rw [hU] at hul
      obtain ⟨u0, u9⟩ := hul
      have hvl := lq_rng c
      rw [hV] at hvl
      obtain ⟨v0, v9⟩ := hvl
      rw [hU] at hd0
      rw [hV] at hd1
      have HU := Seal.mk hU
      have HV := Seal.mk hV
      have HD0 := Seal.mk hd0
      have HD1 := Seal.mk hd1
      have q1 : IntKind.i64.wrap (S - U) = S - U := IntWalk.i64_in _ (by omega)
      have q2 : IntKind.i64.wrap (V - E) = V - E := IntWalk.i64_in _ (by omega)
      clear hk hr h h' hb h3 hd0 hd1 hU hV
      go_enter Tryd.func35, Tryd.ntmps35
      go_wp2_with fail
      refine (tr_at key r c s true _ HK.out).mono ?_
      rintro e w' ⟨rfl, rfl⟩
      go_wp2_with fail
      refine HC.out.mono ?_
      rintro e w1 ⟨rfl, hb1⟩
      have HB1 : Seal (Below w.heap.size w w1) := ⟨(below_alloc _ _).trans (hb1.mono (by rw [size_alloc]; omega))⟩
      have hrow : w1.heap[w.heap.size]? = some (.cells #[.int .i64 E, .int .i64 S] 24 (0, 0)) := (hb1.block _ (by rw [size_alloc]; omega)).trans (heap_alloc_new w _)
      have k0 : w1.cell? ⟨w.heap.size, 0, none⟩ = some (.int .i64 E) := by rw [cell_of_row _ _ _ _ _ _ hrow]; rfl
      have k1 : w1.cell? ⟨w.heap.size, 1, none⟩ = some (.int .i64 S) := by rw [cell_of_row _ _ _ _ _ _ hrow]; rfl
      clear hb1 hrow
      go_wp2_with fail
      go_quiet ((go_at_call 23; first
        | with_reducible exact rmod_quiet s U _ _ HU.out | with_reducible exact rmod_quiet c V _ _ HV.out | with_reducible exact rmod_quiet (S - U) d0 _ _ HD0.out | with_reducible exact rmod_quiet (V - E) d1 _ _ HD1.out))
      go_wp2
      go_ret3
      exact ⟨rfl, ⟨HB1.out.os, HB1.out.tape, HB1.out.output, HB1.out.size, HB1.out.block⟩⟩
end Frk
