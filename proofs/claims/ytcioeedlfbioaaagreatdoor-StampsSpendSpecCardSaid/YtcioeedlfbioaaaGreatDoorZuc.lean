/- The statement StampsSpendSpec of frankinglaw37 holds: for every input the law returns true, and each argument reads afterwards as it read before. Conditions: those of the row (the listed variables start as the program's text lays them; the card ties them). -/
import Derived.Test.YtcioeedlfbioaaaGreatDoorRsg
import Derived.Test.YtcioeedlfbioaaaGreatDoorBla
import Derived.Test.YtcioeedlfbioaaaGreatDoorStp
import Derived.Test.YtcioeedlfbioaaaGreatDoorRpu
import Derived.Test.YtcioeedlfbioaaaGreatDoorGrd
import Derived.Test.YtcioeedlfbioaaaGreatDoorHol
namespace Frk
open Go Go.RowKit Go.Proofs
set_option maxRecDepth 100000

set_option maxHeartbeats 1000000 in
theorem rblhash_at (key r u v h : Int) (a : Option Addr) (len cap : Nat) (b : Bytes) (w : World) (hk : vd key = true) (hr : vd r = true) (hh : Seal (((blHash key r b u v : Nat) : Int) = h)) (hb : IsB w a len cap b) (hl : len ≤ 1099511627776) :
    Calls Tryz.prog 49 #[.int .i64 key, .int .i64 r, .slice a len cap, .int .i64 u, .int .i64 v] w fun e w' => e = .returned (.int .i64 h) ∧ Below w.heap.size w w' := by
  obtain ⟨x, hx⟩ : ∃ x : Int, ((pw 4 u : Nat) : Int) = x := ⟨_, rfl⟩
  obtain ⟨y, hy⟩ : ∃ y : Int, ((pw key.toNat v : Nat) : Int) = y := ⟨_, rfl⟩
  obtain ⟨z, hz⟩ : ∃ z : Int, ((mp x.toNat y.toNat : Nat) : Int) = z := ⟨_, rfl⟩
  obtain ⟨p, hp⟩ : ∃ p : Int, ((mp r.toNat z.toNat : Nat) : Int) = p := ⟨_, rfl⟩
  have vx : vd x = true := by rw [← hx]; exact vd_pw (a := 4) (by decide +kernel) u
  have vy : vd y = true := by rw [← hy]; exact vd_pw hk v
  have vz : vd z = true := by
    obtain ⟨X, rfl, hX⟩ := vd_of_vd vx
    obtain ⟨Y, rfl, hY⟩ := vd_of_vd vy
    rw [← hz]; exact vd_of_nat (hX.mp hY)
  have hpl := mp_lt r.toNat z.toNat
  rw [show P = 2147483579 from rfl] at hpl
  have hpb : 0 ≤ p ∧ p < 2147483579 := by omega
  have hkr := vd_range hk
  have HPB : Seal (blPoint key r u v = p.toNat) := ⟨by
    unfold blPoint
    rw [← hp, ← hz, ← hx, ← hy]; rfl⟩
  have HHC : Seal (Calls Tryz.prog 60 #[.int .i64 p, .int .i64 key, .slice a len cap] w fun e w' => e = .returned (.int .i64 h) ∧ Below w.heap.size w w') := ⟨by
    have e1 : ((sgHash p key b : Nat) : Int) = h := by
      rw [← hh.out]; unfold blHash; rw [HPB.out, show ((p.toNat : Nat) : Int) = p from by omega]
    rw [← e1]; exact rhash_any p key a len cap b w hb hl (by omega) (by omega) (by omega) (by omega)⟩
  have HX := Seal.mk hx
  have HY := Seal.mk hy
  have HZ := Seal.mk hz
  have HP := Seal.mk hp
  have HV := Seal.mk (And.intro hk (And.intro hr (And.intro vx (And.intro vy vz))))
  clear hx hy hz hp vx vy vz hpl hpb hkr hk hr hb hh
  go_enter Tryz.func49, Tryz.ntmps49
  go_wp2_with fail
  refine (rp4 u _ x HX).mono ?_
  rintro e w' ⟨rfl, rfl⟩
  go_wp2_with fail
  refine (rpow_yes key v y _ HV.out.1 HY).mono ?_
  rintro e w' ⟨rfl, rfl⟩
  go_wp2_with fail
  refine (rmul_yes x y z _ HV.out.2.2.1 HV.out.2.2.2.1 HZ).mono ?_
  rintro e w' ⟨rfl, rfl⟩
  go_wp2_with fail
  refine (rmul_yes r z p _ HV.out.2.1 HV.out.2.2.2.2 HP).mono ?_
  rintro e w' ⟨rfl, rfl⟩
  go_wp2_with fail
  refine HHC.out.mono ?_
  rintro e w1 ⟨rfl, hb1⟩
  have HB1 := Seal.mk hb1
  clear hb1
  go_wp2
  go_ret
  exact ⟨rfl, HB1.out⟩

set_option maxHeartbeats 1000000 in
theorem rask_at (key r u v d e0 : Int) (a : Option Addr) (len cap : Nat) (b : Bytes) (w : World) (h : Seal (askC key r b u v = (d, e0))) (hb : IsB w a len cap b) (hl : len ≤ 1099511627776) :
    Calls Tryz.prog 24 #[.int .i64 key, .int .i64 r, .slice a len cap, .int .i64 u, .int .i64 v] w fun e w' => e = .returned (.tuple #[.int .i64 d, .int .i64 e0]) ∧ Below w.heap.size w w' := by
  have h' := h.out
  unfold askC at h'
  cases hk : vd key with
  | false =>
    rw [if_neg (by simp [hk])] at h'
    obtain ⟨rfl, rfl⟩ := Prod.mk.inj h'
    have HK := Seal.mk hk
    clear hk h h' hb
    go_enter Tryz.func24, Tryz.ntmps24
    go_wp2_with fail
    refine (rvalid_at key false _ HK.out).mono ?_
    rintro e w' ⟨rfl, rfl⟩
    go_wp2
    go_ret2
    exact ⟨rfl, Below.refl _ _⟩
  | true =>
    cases hr : vd r with
    | false =>
      rw [if_neg (by simp [hr])] at h'
      obtain ⟨rfl, rfl⟩ := Prod.mk.inj h'
      have HK := Seal.mk hk
      have HR := Seal.mk hr
      clear hk hr h h' hb
      go_enter Tryz.func24, Tryz.ntmps24
      go_wp2_with fail
      refine (rvalid_at key true _ HK.out).mono ?_
      rintro e w' ⟨rfl, rfl⟩
      go_wp2_with fail
      refine (rvalid_at r false _ HR.out).mono ?_
      rintro e w' ⟨rfl, rfl⟩
      go_wp2
      go_ret2
      exact ⟨rfl, Below.refl _ _⟩
    | true =>
      rw [if_pos (by rw [hk, hr]; rfl)] at h'
      obtain ⟨hd, rfl⟩ := Prod.mk.inj h'
      obtain ⟨H, hH⟩ : ∃ H : Int, ((blHash key r b u v : Nat) : Int) = H := ⟨_, rfl⟩
      have hHl : blHash key r b u v < 1073741789 := ghash_lt _ _
      obtain ⟨V, hV⟩ : ∃ V : Int, ((lq v : Nat) : Int) = V := ⟨_, rfl⟩
      have hvl := lq_rng v
      rw [hV] at hvl
      obtain ⟨v0, v9⟩ := hvl
      rw [hH, hV, lq_cast] at hd
      have HD := Seal.mk hd
      have hHb : 0 ≤ H ∧ H < 1073741789 := by omega
      obtain ⟨H0, H9⟩ := hHb
      have HC := Seal.mk (rblhash_at key r u v H a len cap b w hk hr ⟨hH⟩ hb hl)
      have HM : Seal (∀ w, Calls Tryz.prog 50 #[.int .i64 v] w fun e w' => e = .returned (.int .i64 V) ∧ w = w') := ⟨fun w => by rw [← hV]; exact mod_any v w⟩
      have HK := Seal.mk hk
      have HR := Seal.mk hr
      clear hk hr h h' hb hd hH hV hHl
      go_enter Tryz.func24, Tryz.ntmps24
      go_wp2_with fail
      refine (rvalid_at key true _ HK.out).mono ?_
      rintro e w' ⟨rfl, rfl⟩
      go_wp2_with fail
      refine (rvalid_at r true _ HR.out).mono ?_
      rintro e w' ⟨rfl, rfl⟩
      go_wp2_with fail
      refine HC.out.mono ?_
      rintro e w1 ⟨rfl, hb1⟩
      have HB1 := Seal.mk hb1
      clear hb1
      go_wp2_with fail
      refine (HM.out _).mono ?_
      rintro e w' ⟨rfl, rfl⟩
      go_wp2
      go_ret2
      exact ⟨by rw [← HD.out]; rfl, HB1.out⟩

theorem lq_answer (n c key : Int) : (n + ((lq c * lq key % 1073741789 : Nat) : Int)) % 1073741789 = ((lq (n + (lq c : Nat) * key) : Nat) : Int) := by
  have e1 : ((lq c * lq key % 1073741789 : Nat) : Int) = ((lq c : Nat) : Int) * ((lq key : Nat) : Int) % 1073741789 := by rw [Int.natCast_emod, Int.natCast_mul]; rfl
  have e2 : ((lq key : Nat) : Int) = key % 1073741789 := lq_cast key
  have e3 : ((lq (n + (lq c : Nat) * key) : Nat) : Int) = (n + (lq c : Nat) * key) % 1073741789 := lq_cast _
  rw [e1, e3, e2]
  simp [Int.add_emod, Int.mul_emod]

set_option maxHeartbeats 2000000 in
theorem rfinish_at (key r u v s d0 d1 e0 : Int) (a : Option Addr) (len cap : Nat) (b : Bytes) (w : World) (h : Seal (finishC key r b u v s = (d0, d1, e0))) (hb : IsB w a len cap b) (hl : len ≤ 1099511627776) :
    Calls Tryz.prog 28 #[.int .i64 key, .int .i64 r, .slice a len cap, .int .i64 u, .int .i64 v, .int .i64 s] w fun e w' => e = .returned (.tuple #[.agg #[.int .i64 d0, .int .i64 d1], .int .i64 e0]) ∧ Below w.heap.size w w' := by
  have h' := h.out
  unfold finishC at h'
  cases hk : vd key with
  | false =>
    rw [if_neg (by simp [hk])] at h'
    obtain ⟨rfl, h3⟩ := Prod.mk.inj h'
    obtain ⟨rfl, rfl⟩ := Prod.mk.inj h3
    have HK := Seal.mk hk
    clear hk h h' hb h3
    go_enter Tryz.func28, Tryz.ntmps28
    go_wp2_with fail
    refine (rvalid_at key false _ HK.out).mono ?_
    rintro e w' ⟨rfl, rfl⟩
    go_wp2
    refine bodyPost_ret (v := .tuple #[.agg #[.int .i64 0, .int .i64 0], .int .i64 90]) (by simp [results, Tryz.results28, go_sem]) rfl ⟨rfl, below_alloc _ _⟩
  | true =>
    cases hr : vd r with
    | false =>
      rw [if_neg (by simp [hr])] at h'
      obtain ⟨rfl, h3⟩ := Prod.mk.inj h'
      obtain ⟨rfl, rfl⟩ := Prod.mk.inj h3
      have HK := Seal.mk hk
      have HR := Seal.mk hr
      clear hk hr h h' hb h3
      go_enter Tryz.func28, Tryz.ntmps28
      go_wp2_with fail
      refine (rvalid_at key true _ HK.out).mono ?_
      rintro e w' ⟨rfl, rfl⟩
      go_wp2_with fail
      refine (rvalid_at r false _ HR.out).mono ?_
      rintro e w' ⟨rfl, rfl⟩
      go_wp2
      refine bodyPost_ret (v := .tuple #[.agg #[.int .i64 0, .int .i64 0], .int .i64 90]) (by simp [results, Tryz.results28, go_sem]) rfl ⟨rfl, below_alloc _ _⟩
    | true =>
      rw [if_pos (by rw [hk, hr]; rfl)] at h'
      obtain ⟨H, hH⟩ : ∃ H : Int, ((blHash key r b u v : Nat) : Int) = H := ⟨_, rfl⟩
      have hHl : blHash key r b u v < 1073741789 := ghash_lt _ _
      obtain ⟨V, hV⟩ : ∃ V : Int, ((lq s : Nat) : Int) = V := ⟨_, rfl⟩
      have hvl := lq_rng s
      rw [hV] at hvl
      obtain ⟨v0, v9⟩ := hvl
      obtain ⟨U, hU⟩ : ∃ U : Int, ((lq u : Nat) : Int) = U := ⟨_, rfl⟩
      have hul := lq_rng u
      rw [hU] at hul
      obtain ⟨u0, u9⟩ := hul
      have hHb : 0 ≤ H ∧ H < 1073741789 := by omega
      obtain ⟨H0, H9⟩ := hHb
      have hS : ((lq ((lq s : Nat) + (lq u : Nat)) : Nat) : Int) = (V + U) % 1073741789 := by rw [lq_cast, hV, hU]; rfl
      unfold finH at h'
      rw [hH, hS] at h'
      obtain ⟨S, hSS⟩ : ∃ S : Int, (V + U) % 1073741789 = S := ⟨_, rfl⟩
      rw [hSS] at h'
      obtain ⟨X, hX⟩ : ∃ X : World, Seal (X = w.alloc (.cells #[.int .i64 0, .int .i64 0] 25)) := ⟨_, ⟨rfl⟩⟩
      have hXb : Seal (Below w.heap.size w X) := ⟨by rw [hX.out]; exact below_alloc _ _⟩
      have hXs : Seal (X.heap.size = w.heap.size + 1) := ⟨by rw [hX.out, size_alloc]⟩
      have hXr : Seal (X.heap[w.heap.size]? = some (.cells #[.int .i64 0, .int .i64 0] 25 (0, 0))) := ⟨by rw [hX.out]; exact heap_alloc_new w _⟩
      have HI : Seal (IsB X a len cap b) := ⟨hb.below hXb.out⟩
      have HC := Seal.mk (rblhash_at key r u v H a len cap b X hk hr ⟨hH⟩ HI.out hl)
      have HMs : Seal (∀ w, Calls Tryz.prog 50 #[.int .i64 s] w fun e w' => e = .returned (.int .i64 V) ∧ w = w') := ⟨fun w => by rw [← hV]; exact mod_any s w⟩
      have HMu : Seal (∀ w, Calls Tryz.prog 50 #[.int .i64 u] w fun e w' => e = .returned (.int .i64 U) ∧ w = w') := ⟨fun w => by rw [← hU]; exact mod_any u w⟩
      have HV : Seal (∀ w, IsB w a len cap b → Calls Tryz.prog 30 #[.int .i64 key, .slice a len cap, .agg #[.int .i64 H, .int .i64 S]] w fun e w' => e = .returned (.bool (vrB key b H S)) ∧ Below w.heap.size w w') := ⟨fun w h => rverify_any key H S a len cap b w h hl⟩
      have HSS := Seal.mk hSS
      have HK := Seal.mk hk
      have HR := Seal.mk hr
      have H' := Seal.mk h'
      clear hk hr h h' hb hS hSS hH hV hHl hU
      go_enter Tryz.func28, Tryz.ntmps28
      go_wp2_with fail
      refine (rvalid_at key true _ HK.out).mono ?_
      rintro e w' ⟨rfl, rfl⟩
      go_wp2_with fail
      refine (rvalid_at r true _ HR.out).mono ?_
      rintro e w' ⟨rfl, rfl⟩
      go_wp2_with fail
      rw [← hX.out]
      refine HC.out.mono ?_
      rintro e w1 ⟨rfl, hb1⟩
      have HB1 : Seal (Below w.heap.size w w1) := ⟨hXb.out.trans (hb1.mono hXb.out.size)⟩
      have HR1 : Seal (w1.heap[w.heap.size]? = some (.cells #[.int .i64 0, .int .i64 0] 25 (0, 0))) := ⟨(hb1.block _ (by rw [hXs.out]; omega)).trans hXr.out⟩
      have HI1 : Seal (IsB w1 a len cap b) := ⟨HI.out.below hb1⟩
      clear hb1 HC
      go_wp2_with (go_at_call 50; first
        | (with_reducible refine (HMs.out _).mono ?_; rintro e w' ⟨rfl, rfl⟩)
        | (with_reducible refine (HMu.out _).mono ?_; rintro e w' ⟨rfl, rfl⟩))
      rw [HSS.out]
      have HI2 : Seal (IsB (w1.alloc (.cells #[.int .i64 H, .int .i64 S] 25)) a len cap b) := ⟨HI1.out.below (below_alloc _ _)⟩
      refine (HV.out _ HI2.out).mono ?_
      rintro e w2 ⟨rfl, hb2⟩
      have hlt := (Array.getElem?_eq_some_iff.1 HR1.out).1
      have HR2 : Seal (w2.heap[w.heap.size]? = some (.cells #[.int .i64 0, .int .i64 0] 25 (0, 0))) := ⟨(hb2.block _ (by rw [size_alloc]; omega)).trans ((Below.heap_alloc _ _ _ hlt).trans HR1.out)⟩
      have HR3 : Seal (w2.heap[w1.heap.size]? = some (.cells #[.int .i64 H, .int .i64 S] 25 (0, 0))) := ⟨(hb2.block _ (by rw [size_alloc]; omega)).trans (heap_alloc_new w1 _)⟩
      have HB2 : Seal (Below w.heap.size w w2) := ⟨(HB1.out.alloc (Nat.le_of_lt hlt) _).trans (hb2.mono (by rw [size_alloc]; omega))⟩
      have c0 : w2.cell? ⟨w.heap.size, 0, none⟩ = some (.int .i64 0) := by rw [cell_of_row _ _ _ _ _ _ HR2.out]; rfl
      have c1 : w2.cell? ⟨w.heap.size, 1, none⟩ = some (.int .i64 0) := by rw [cell_of_row _ _ _ _ _ _ HR2.out]; rfl
      have f0 : w2.frozen? ⟨w.heap.size, 0, none⟩ = false := frozen_of_row _ _ _ _ _ HR2.out
      have f1 : w2.frozen? ⟨w.heap.size, 1, none⟩ = false := frozen_of_row _ _ _ _ _ HR2.out
      have e0' : w2.cell? ⟨w1.heap.size, 0, none⟩ = some (.int .i64 H) := by rw [cell_of_row _ _ _ _ _ _ HR3.out]; rfl
      have e1' : w2.cell? ⟨w1.heap.size, 1, none⟩ = some (.int .i64 S) := by rw [cell_of_row _ _ _ _ _ _ HR3.out]; rfl
      clear hb2
      cases hvr : vrB key b H S with
      | true =>
        have h' := H'.out
        rw [if_pos hvr] at h'
        obtain ⟨rfl, h3⟩ := Prod.mk.inj h'
        obtain ⟨rfl, rfl⟩ := Prod.mk.inj h3
        clear h' h3 H' hvr
        go_wp2
        have hr9 := heap_setCell_row (cs := [.int .i64 H, .int .i64 0]) (i := 1) (.int .i64 S) (heap_setCell_row (cs := [.int .i64 0, .int .i64 0]) (i := 0) (.int .i64 H) HR2.out)
        have hd0 := cell_of_row _ _ 0 _ _ _ hr9
        have hd1 := cell_of_row _ _ 1 _ _ _ hr9
        simp only [List.set_cons_zero, List.set_cons_succ] at hd0 hd1
        refine bodyPost_ret (v := .tuple #[.agg #[.int .i64 H, .int .i64 S], .int .i64 0]) (by simp [results, Tryz.results28, go_sem, hd0, hd1]) rfl ⟨rfl, ?_⟩
        exact (HB2.out.setCell (p := ⟨w.heap.size, 0, none⟩) (Nat.le_refl _) _).setCell (p := ⟨w.heap.size, 1, none⟩) (Nat.le_refl _) _
      | false =>
        have h' := H'.out
        rw [if_neg (by rw [hvr]; decide)] at h'
        obtain ⟨rfl, h3⟩ := Prod.mk.inj h'
        obtain ⟨rfl, rfl⟩ := Prod.mk.inj h3
        clear h' h3 H' hvr
        go_wp2
        have hr9 := heap_setCell_row (cs := [.int .i64 0, .int .i64 0]) (i := 1) (.int .i64 0) (heap_setCell_row (cs := [.int .i64 0, .int .i64 0]) (i := 0) (.int .i64 0) HR2.out)
        have hd0 := cell_of_row _ _ 0 _ _ _ hr9
        have hd1 := cell_of_row _ _ 1 _ _ _ hr9
        simp only [List.set_cons_zero, List.set_cons_succ] at hd0 hd1
        refine bodyPost_ret (v := .tuple #[.agg #[.int .i64 0, .int .i64 0], .int .i64 150]) (by simp [results, Tryz.results28, go_sem, hd0, hd1]) rfl ⟨rfl, ?_⟩
        exact (HB2.out.setCell (p := ⟨w.heap.size, 0, none⟩) (Nat.le_refl _) _).setCell (p := ⟨w.heap.size, 1, none⟩) (Nat.le_refl _) _

theorem link_cond (key r c s : Int) (b : Bytes) (E S : Int) : ((vd key && vd r) && linkT key r c s b E S) = (trC key r c s && vrB key b E S) := by
  unfold linkT trC
  rw [blPoint_zero]
  cases vd key <;> cases vd r <;> cases vrB key b E S <;> cases decide (pw 4 s = mp r.toNat (pw key.toNat c)) <;> rfl

theorem vrB_rng {key : Int} {b : Bytes} {E S : Int} (h : vrB key b E S = true) : (0 ≤ E ∧ E < 1073741789) ∧ (0 ≤ S ∧ S < 1073741789) := by
  unfold vrB at h
  simp only [Bool.and_eq_true] at h
  exact ⟨(inQ_iff E).1 h.1.1.1, (inQ_iff S).1 h.1.1.2⟩

theorem rmod_quiet (n : Int) (v : Int) (w : World) (d : Nat) (h : ((lq n : Nat) : Int) = v) : Calls Tryz.prog 50 #[.int .i64 n] (w.drewN d) fun e w' => e = .returned (.int .i64 v) ∧ ∃ m, w' = w.drewN m := by
  rw [← h]; exact quiet_left (mod_any n (w.drewN d))

theorem esecret_any (n : Int) (t : Bool) (w : World) (ht : secB n = t) : Calls Tryz.prog 39 #[.int .i64 n] w fun e w' => e = .returned (.bool t) ∧ w = w' := by
  unfold secB at ht
  have HT := Seal.mk ht
  clear ht
  by_cases h0 : 1 ≤ n
  · by_cases h1 : n < 1073741789
    · have HF : Seal (t = true) := ⟨by rw [← HT.out, decide_eq_true (show 0 < n by omega), decide_eq_true h1]; rfl⟩
      go_enter Tryz.func39, Tryz.ntmps39
      go_wp2
      go_ret
      exact ⟨ret_bool HF.out.symm, rfl⟩
    · have HF : Seal (t = false) := ⟨by rw [← HT.out, decide_eq_false h1]; simp⟩
      go_enter Tryz.func39, Tryz.ntmps39
      go_wp2
      go_ret
      exact ⟨ret_bool HF.out.symm, rfl⟩
  · have HF : Seal (t = false) := ⟨by rw [← HT.out, decide_eq_false (show ¬ 0 < n by omega)]; simp⟩
    go_enter Tryz.func39, Tryz.ntmps39
    go_wp2
    go_ret
    exact ⟨ret_bool HF.out.symm, rfl⟩

/-- what Public returns (and blind's Begin) -/
def pubF (n : Int) : Int × Int := if secB n = true then (((pw 4 n : Nat) : Int), 0) else (0, 110)

theorem public_at (n d e0 : Int) (w : World) (h : Seal (pubF n = (d, e0))) (h1 : -9223372036854775808 ≤ n) (h2 : n ≤ 9223372036854775807) : Calls Tryz.prog 16 #[.int .i64 n] w fun e w' => e = .returned (.tuple #[.int .i64 d, .int .i64 e0]) ∧ Below w.heap.size w w' := by
  have h' := h.out
  unfold pubF at h'
  cases hs : secB n with
  | false =>
    rw [hs, if_neg (by decide)] at h'
    obtain ⟨rfl, rfl⟩ := Prod.mk.inj h'
    have HS := Seal.mk hs
    clear h h' hs h1 h2
    go_enter Tryz.func16, Tryz.ntmps16
    go_wp2_with (go_at_call 39; refine (esecret_any _ _ _ HS.out).mono ?_; rintro e w' ⟨rfl, rfl⟩)
    go_ret2
    exact ⟨rfl, Below.refl _ _⟩
  | true =>
    rw [hs, if_pos rfl] at h'
    obtain ⟨rfl, rfl⟩ := Prod.mk.inj h'
    have HS := Seal.mk hs
    have HP : Seal _ := ⟨pow_yes 4 n w (by decide +kernel) h1 h2⟩
    clear h h' hs h1 h2
    go_enter Tryz.func16, Tryz.ntmps16
    go_wp2_with (first | (go_at_call 39; refine (esecret_any _ _ _ HS.out).mono ?_; rintro e w' ⟨rfl, rfl⟩) | (go_at_call 40; refine HP.out.mono ?_; rintro e w' ⟨rfl, hb⟩))
    go_ret2
    exact ⟨rfl, hb⟩

/-- a secret, a value from any number -/
def secF (a : Int) : Int := 1 + a % 1073741788
def valF (n : Int) : Int := n % 18446744073709551616 % 1099511627777
theorem secF_ok (a : Int) : secB (secF a) = true := by unfold secB secF; simp; omega
theorem valF_ok (n : Int) : fitB (valF n) = true := by unfold fitB valF; simp; omega

/-- results that lie in a block known whole, and in four slots -/
theorem results_row_tmp4 {P : Program} {fn : Func} {p q1 q2 q3 q4 : Tmp} {ty : TypeId} (h : fn.results = #[.cell p ty, .tmp q1, .tmp q2, .tmp q3, .tmp q4]) (tmps : Array Value) (w : World) (g : Nat) (t : TypeId) (cs : Array Value) (fr : Nat × Nat) (d : TypeDesc) (v1 v2 v3 v4 : Value)
    (hp : tmps.getD p undef = .pointer (some ⟨g, 0, none⟩)) (h1 : tmps.getD q1 undef = v1) (h2 : tmps.getD q2 undef = v2) (h3 : tmps.getD q3 undef = v3) (h4 : tmps.getD q4 undef = v4) (hg : w.heap[g]? = some (.cells cs t fr))
    (hu : P.underlying ty = some d) (hd : (match d with | .struct _ | .array _ _ => true | _ => false) = true) (hi : (P.info? ty).map (·.size) = some cs.size) :
    (results fn tmps).run P w = .ok (.tuple #[.agg cs, v1, v2, v3, v4]) w := by
  have hp' : tmps[p]?.getD undef = .pointer (some ⟨g, 0, none⟩) := by simpa using hp
  have h1' : tmps[q1]?.getD undef = v1 := by simpa using h1
  have h2' : tmps[q2]?.getD undef = v2 := by simpa using h2
  have h3' : tmps[q3]?.getD undef = v3 := by simpa using h3
  have h4' : tmps[q4]?.getD undef = v4 := by simpa using h4
  simp [results, h, hp', h1', h2', h3', h4', asAddr, run_loadVar_row w g t ty cs fr d hg hu hd hi]

set_option maxHeartbeats 2000000 in
theorem issued_any (x n key r c s E Sg val u v : Int) (T : Bytes) (w : World) (hG : Glob w) (hT : T.length = 32) (x1 : -9223372036854775808 ≤ x) (x2 : x ≤ 9223372036854775807) (n1 : -9223372036854775808 ≤ n) (n2 : n ≤ 9223372036854775807) (u1 : -9223372036854775808 ≤ u) (u2 : u ≤ 9223372036854775807) (v1 : -9223372036854775808 ≤ v) (v2 : v ≤ 9223372036854775807)
    (HP : Seal (pubF x = (key, 0))) (HB : Seal (pubF n = (r, 0))) (HA : Seal (saskF key r T val u v = (c, 0))) (HN : Seal (answerC x n c = (s, 0))) (HK : Seal (stakeF key r T val u v s = (T, val, E, Sg, 0))) :
    Calls Tryz.prog 17 #[.int .i64 x, .int .i64 n, .agg (T.map B).toArray, .int .i64 val, .int .i64 u, .int .i64 v] w fun e w' => e = .returned (.tuple #[.agg (stC T val E Sg).toArray, .int .i64 r, .int .i64 c, .int .i64 s, .bool true]) ∧ Below w.heap.size w w' := by
  have C1 : Seal (∀ W, Calls Tryz.prog 16 #[.int .i64 x] W fun e w' => e = .returned (.tuple #[.int .i64 key, .int .i64 0]) ∧ Below W.heap.size W w') := ⟨fun W => public_at x key 0 W HP x1 x2⟩
  have C2 : Seal (∀ W, Calls Tryz.prog 41 #[.int .i64 n] W fun e w' => e = .returned (.tuple #[.int .i64 r, .int .i64 0]) ∧ Below W.heap.size W w') := ⟨fun W => begin_at n r 0 W HB n1 n2⟩
  obtain ⟨TC, hTC⟩ : ∃ TC, TC = T.map B := ⟨_, rfl⟩
  have C3 : Seal (∀ W, Glob W → Calls Tryz.prog 6 #[.int .i64 key, .int .i64 r, .agg TC.toArray, .int .i64 val, .int .i64 u, .int .i64 v] W fun e w' => e = .returned (.tuple #[.int .i64 c, .int .i64 0]) ∧ Below W.heap.size W w') := ⟨fun W h => by rw [hTC]; exact sask_any key r u v c 0 val T W HA u1 u2 v1 v2 h hT⟩
  have C4 : Seal (∀ W, Calls Tryz.prog 42 #[.int .i64 x, .int .i64 n, .int .i64 c] W fun e w' => e = .returned (.tuple #[.int .i64 s, .int .i64 0]) ∧ Below W.heap.size W w') := ⟨fun W => answer_at x n c s 0 W HN⟩
  obtain ⟨F, hF⟩ : ∃ F, F = stC T val E Sg := ⟨_, rfl⟩
  have C5 : Seal (∀ W, Glob W → Calls Tryz.prog 8 #[.int .i64 key, .int .i64 r, .agg TC.toArray, .int .i64 val, .int .i64 u, .int .i64 v, .int .i64 s] W fun e w' => e = .returned (.tuple #[.agg F.toArray, .int .i64 0]) ∧ Below W.heap.size W w') := ⟨fun W h => by rw [hTC, hF]; exact stake_any key r u v s val val E Sg 0 T T W HK u1 u2 v1 v2 h hT⟩
  have IT : Seal ((Tryz.prog.info? 23).map (·.size) = some TC.toArray.size) := ⟨by rw [hTC, List.size_toArray]; exact dg_info T hT⟩
  have IF : Seal ((Tryz.prog.info? 27).map (·.size) = some F.toArray.size) := ⟨by rw [hF, List.size_toArray]; exact stC_info hT⟩
  have SF : Seal ((List.toArray (.int .u8 0 :: .int .u8 0 :: .int .u8 0 :: .int .u8 0 :: .int .u8 0 :: .int .u8 0 :: .int .u8 0 :: .int .u8 0 :: .int .u8 0 :: .int .u8 0 :: .int .u8 0 :: .int .u8 0 :: .int .u8 0 :: .int .u8 0 :: .int .u8 0 :: .int .u8 0 :: .int .u8 0 :: .int .u8 0 :: .int .u8 0 :: .int .u8 0 :: .int .u8 0 :: .int .u8 0 :: .int .u8 0 :: .int .u8 0 :: .int .u8 0 :: .int .u8 0 :: .int .u8 0 :: .int .u8 0 :: .int .u8 0 :: .int .u8 0 :: .int .u8 0 :: .int .u8 0 :: .int .i64 0 :: .int .i64 0 :: .int .i64 0 :: [] : List Value) : Array Value).size = F.toArray.size) := ⟨by show 35 = F.toArray.size; rw [hF, List.size_toArray, stC_len hT]⟩
  have AF : Seal (F.toArray.all (·.oneCell') = true) := ⟨by rw [hF]; exact all_oneCell_toArray (stC_one _ _ _ _)⟩
  have HE0 : Seal (Env ((w.alloc (.cells TC.toArray 23)).alloc (.cells (List.toArray (.int .u8 0 :: .int .u8 0 :: .int .u8 0 :: .int .u8 0 :: .int .u8 0 :: .int .u8 0 :: .int .u8 0 :: .int .u8 0 :: .int .u8 0 :: .int .u8 0 :: .int .u8 0 :: .int .u8 0 :: .int .u8 0 :: .int .u8 0 :: .int .u8 0 :: .int .u8 0 :: .int .u8 0 :: .int .u8 0 :: .int .u8 0 :: .int .u8 0 :: .int .u8 0 :: .int .u8 0 :: .int .u8 0 :: .int .u8 0 :: .int .u8 0 :: .int .u8 0 :: .int .u8 0 :: .int .u8 0 :: .int .u8 0 :: .int .u8 0 :: .int .u8 0 :: .int .u8 0 :: .int .i64 0 :: .int .i64 0 :: .int .i64 0 :: [] : List Value) : Array Value) 27)) none 0 0 [] [(w.heap.size + 1, .cells (List.toArray (.int .u8 0 :: .int .u8 0 :: .int .u8 0 :: .int .u8 0 :: .int .u8 0 :: .int .u8 0 :: .int .u8 0 :: .int .u8 0 :: .int .u8 0 :: .int .u8 0 :: .int .u8 0 :: .int .u8 0 :: .int .u8 0 :: .int .u8 0 :: .int .u8 0 :: .int .u8 0 :: .int .u8 0 :: .int .u8 0 :: .int .u8 0 :: .int .u8 0 :: .int .u8 0 :: .int .u8 0 :: .int .u8 0 :: .int .u8 0 :: .int .u8 0 :: .int .u8 0 :: .int .u8 0 :: .int .u8 0 :: .int .u8 0 :: .int .u8 0 :: .int .u8 0 :: .int .u8 0 :: .int .i64 0 :: .int .i64 0 :: .int .i64 0 :: [] : List Value) : Array Value) 27), (w.heap.size, .cells TC.toArray 23)]) := ⟨by
    have h := Env.push (Env.push (bs := []) ⟨hG, isB_nil w, by intro p hp; cases hp⟩ (.cells TC.toArray 23)) (.cells (List.toArray (.int .u8 0 :: .int .u8 0 :: .int .u8 0 :: .int .u8 0 :: .int .u8 0 :: .int .u8 0 :: .int .u8 0 :: .int .u8 0 :: .int .u8 0 :: .int .u8 0 :: .int .u8 0 :: .int .u8 0 :: .int .u8 0 :: .int .u8 0 :: .int .u8 0 :: .int .u8 0 :: .int .u8 0 :: .int .u8 0 :: .int .u8 0 :: .int .u8 0 :: .int .u8 0 :: .int .u8 0 :: .int .u8 0 :: .int .u8 0 :: .int .u8 0 :: .int .u8 0 :: .int .u8 0 :: .int .u8 0 :: .int .u8 0 :: .int .u8 0 :: .int .u8 0 :: .int .u8 0 :: .int .i64 0 :: .int .i64 0 :: .int .i64 0 :: [] : List Value) : Array Value) 27)
    simp only [size_alloc] at h
    exact h⟩
  have HB0 : Seal (Below w.heap.size w ((w.alloc (.cells TC.toArray 23)).alloc (.cells (List.toArray (.int .u8 0 :: .int .u8 0 :: .int .u8 0 :: .int .u8 0 :: .int .u8 0 :: .int .u8 0 :: .int .u8 0 :: .int .u8 0 :: .int .u8 0 :: .int .u8 0 :: .int .u8 0 :: .int .u8 0 :: .int .u8 0 :: .int .u8 0 :: .int .u8 0 :: .int .u8 0 :: .int .u8 0 :: .int .u8 0 :: .int .u8 0 :: .int .u8 0 :: .int .u8 0 :: .int .u8 0 :: .int .u8 0 :: .int .u8 0 :: .int .u8 0 :: .int .u8 0 :: .int .u8 0 :: .int .u8 0 :: .int .u8 0 :: .int .u8 0 :: .int .u8 0 :: .int .u8 0 :: .int .i64 0 :: .int .i64 0 :: .int .i64 0 :: [] : List Value) : Array Value) 27))) := ⟨((Below.refl _ w).alloc (Nat.le_refl _) _).alloc (by simp) _⟩
  rw [← hTC, ← hF]
  clear hG hT hTC hF x1 x2 n1 n2 u1 u2 v1 v2 HP HB HA HN HK
  go_enter Tryz.func17, Tryz.ntmps17
  go_wp2_with fail
  refine (C1.out _).mono ?_
  rintro e w1 ⟨rfl, hb⟩
  have HE1 := Seal.mk (HE0.out.below hb)
  have HB1 := Seal.mk (HB0.out.trans (hb.mono HB0.out.size))
  clear hb HE0 HB0 C1
  go_wp2_with fail
  refine (C2.out _).mono ?_
  rintro e w2 ⟨rfl, hb⟩
  have HE2 := Seal.mk (HE1.out.below hb)
  have HB2 := Seal.mk (HB1.out.trans (hb.mono HB1.out.size))
  clear hb HE1 HB1 C2
  have R1 := Seal.mk (HE2.out.keep (w.heap.size, .cells TC.toArray 23) (by simp))
  go_wp2_with (refine wpList_load_row rfl 23 (.tmp 8) rfl w.heap.size rfl 23 TC.toArray (0, 0) _ R1.out Tryz.underlying23 rfl IT.out ?_)
  refine (C3.out _ HE2.out.glob).mono ?_
  rintro e w3 ⟨rfl, hb⟩
  have HE3 := Seal.mk (HE2.out.below hb)
  have HB3 := Seal.mk (HB2.out.trans (hb.mono HB2.out.size))
  clear hb HE2 HB2 C3 R1
  go_wp2_with fail
  refine (C4.out _).mono ?_
  rintro e w4 ⟨rfl, hb⟩
  have HE4 := Seal.mk (HE3.out.below hb)
  have HB4 := Seal.mk (HB3.out.trans (hb.mono HB3.out.size))
  clear hb HE3 HB3 C4
  have R1 := Seal.mk (HE4.out.keep (w.heap.size, .cells TC.toArray 23) (by simp))
  go_wp2_with (refine wpList_load_row rfl 23 (.tmp 8) rfl w.heap.size rfl 23 TC.toArray (0, 0) _ R1.out Tryz.underlying23 rfl IT.out ?_)
  refine (C5.out _ HE4.out.glob).mono ?_
  rintro e w5 ⟨rfl, hb⟩
  have HE5 := Seal.mk (HE4.out.below hb)
  have HB5 := Seal.mk (HB4.out.trans (hb.mono HB4.out.size))
  clear hb HE4 HB4 C5 R1
  have RZ := Seal.mk (HE5.out.keep (w.heap.size + 1, .cells (List.toArray (.int .u8 0 :: .int .u8 0 :: .int .u8 0 :: .int .u8 0 :: .int .u8 0 :: .int .u8 0 :: .int .u8 0 :: .int .u8 0 :: .int .u8 0 :: .int .u8 0 :: .int .u8 0 :: .int .u8 0 :: .int .u8 0 :: .int .u8 0 :: .int .u8 0 :: .int .u8 0 :: .int .u8 0 :: .int .u8 0 :: .int .u8 0 :: .int .u8 0 :: .int .u8 0 :: .int .u8 0 :: .int .u8 0 :: .int .u8 0 :: .int .u8 0 :: .int .u8 0 :: .int .u8 0 :: .int .u8 0 :: .int .u8 0 :: .int .u8 0 :: .int .u8 0 :: .int .u8 0 :: .int .i64 0 :: .int .i64 0 :: .int .i64 0 :: [] : List Value) : Array Value) 27) (by simp))
  have RF : Seal ((w5.setRow (w.heap.size + 1) F.toArray).heap[w.heap.size + 1]? = some (.cells F.toArray 27 (0, 0))) := ⟨setRow_heap _ _ _ _ _ _ RZ.out⟩
  have HB6 : Seal (Below w.heap.size w (w5.setRow (w.heap.size + 1) F.toArray)) := ⟨below_row HB5.out (Nat.le_add_right _ _) _⟩
  clear HE5
  go_wp2_with (first | (refine wpList_store_row rfl 27 (.tmp 12) (.tmp 59) rfl (w.heap.size + 1) F.toArray rfl rfl 27 (List.toArray (.int .u8 0 :: .int .u8 0 :: .int .u8 0 :: .int .u8 0 :: .int .u8 0 :: .int .u8 0 :: .int .u8 0 :: .int .u8 0 :: .int .u8 0 :: .int .u8 0 :: .int .u8 0 :: .int .u8 0 :: .int .u8 0 :: .int .u8 0 :: .int .u8 0 :: .int .u8 0 :: .int .u8 0 :: .int .u8 0 :: .int .u8 0 :: .int .u8 0 :: .int .u8 0 :: .int .u8 0 :: .int .u8 0 :: .int .u8 0 :: .int .u8 0 :: .int .u8 0 :: .int .u8 0 :: .int .u8 0 :: .int .u8 0 :: .int .u8 0 :: .int .u8 0 :: .int .u8 0 :: .int .i64 0 :: .int .i64 0 :: .int .i64 0 :: [] : List Value) : Array Value) RZ.out IF.out SF.out AF.out ?_) | (refine wpList_load_row rfl 27 (.tmp 12) rfl (w.heap.size + 1) rfl 27 F.toArray (0, 0) _ RF.out Tryz.underlying27 rfl IF.out ?_) | (refine wpList_store_row rfl 27 (.tmp 12) (.tmp 61) rfl (w.heap.size + 1) F.toArray rfl rfl 27 F.toArray RF.out IF.out rfl AF.out ?_))
  exact bodyPost_ret (results_row_tmp4 (fn := Tryz.f17) rfl _ _ (w.heap.size + 1) 27 F.toArray (0, 0) _ _ _ _ _ rfl rfl rfl rfl rfl (setRow_heap _ _ _ _ _ _ RF.out) Tryz.underlying27 rfl IF.out) rfl ⟨rfl, below_row HB6.out (Nat.le_add_right _ _) _⟩

/-- what a stamp is made of that a bank issues -/
structure Issue (x n : Int) (T : Bytes) (val u v key r c s E Sg : Int) : Prop where
  pub : pubF x = (key, 0)
  beg : pubF n = (r, 0)
  ask : saskF key r T val u v = (c, 0)
  ans : answerC x n c = (s, 0)
  take : stakeF key r T val u v s = (T, val, E, Sg, 0)
  right : vrB key (stT T val) E Sg = true
  fits : trC key r c s = true
  hc : 0 ≤ c ∧ c < 1073741789
  hs : 0 ≤ s ∧ s < 1073741789
  hkey : ((pw 4 x : Nat) : Int) = key

theorem issue_plain (x n u v val : Int) (T : Bytes) (hx : secB x = true) (hn : secB n = true) (hv : fitB val = true) : ∃ key r c s E Sg, Issue x n T val u v key r c s E Sg := by
  have v1 : vd ((pw 4 x : Nat) : Int) = true := vd_of_nat (vd4.pw x)
  have v2 : vd ((pw 4 n : Nat) : Int) = true := vd_of_nat (vd4.pw n)
  obtain ⟨c, hc⟩ : ∃ c : Int, c = (lq ((blHash (pw 4 x : Nat) (pw 4 n : Nat) (stT T val) u v : Nat) + (lq v : Nat)) : Nat) := ⟨_, rfl⟩
  obtain ⟨s, hs⟩ : ∃ s : Int, s = (lq (n + (lq c : Nat) * x) : Nat) := ⟨_, rfl⟩
  have hf := right_fin x n u v (stT T val) c s hc hs
  have ht := right_tr x n c
  rw [← hs] at ht
  refine ⟨((pw 4 x : Nat) : Int), ((pw 4 n : Nat) : Int), c, s, ((blHash (pw 4 x : Nat) (pw 4 n : Nat) (stT T val) u v : Nat) : Int), ((lq ((lq s : Nat) + (lq u : Nat)) : Nat) : Int), ⟨?_, ?_, ?_, ?_, ?_, hf, ht, by rw [hc]; exact lq_rng _, by rw [hs]; exact lq_rng _, rfl⟩⟩
  · unfold pubF; rw [if_pos hx]
  · unfold pubF; rw [if_pos hn]
  · unfold saskF askC; rw [if_pos hv, if_pos (by rw [v1, v2]; rfl), hc]
  · unfold answerC; rw [if_pos (by rw [hx, hn]; rfl), hs]
  · have e1 : finishC (pw 4 x : Nat) (pw 4 n : Nat) (stT T val) u v s = (((blHash (pw 4 x : Nat) (pw 4 n : Nat) (stT T val) u v : Nat) : Int), ((lq ((lq s : Nat) + (lq u : Nat)) : Nat) : Int), 0) := by
      unfold finishC
      rw [if_pos (by rw [v1, v2]; rfl), if_pos hf]
    unfold stakeF
    rw [if_pos hv, e1, if_pos rfl]

def dS : Bytes := [1, 0, 0, 0, 0, 0, 0, 0, 0, 0, 0, 0, 0, 0, 0, 0, 0, 0, 0, 0, 0, 0, 0, 0, 0, 0, 0, 0, 0, 0, 0, 0]
def oS : Bytes := [0, 7, 0, 0, 0, 0, 0, 0, 0, 0, 0, 0, 0, 0, 0, 0, 0, 0, 0, 0, 0, 0, 0, 0, 0, 0, 0, 0, 0, 0, 0, 0]
theorem dS_len : dS.length = 32 := rfl
theorem oS_len : oS.length = 32 := rfl
theorem dS_lit : (.int .u8 1 :: .int .u8 0 :: .int .u8 0 :: .int .u8 0 :: .int .u8 0 :: .int .u8 0 :: .int .u8 0 :: .int .u8 0 :: .int .u8 0 :: .int .u8 0 :: .int .u8 0 :: .int .u8 0 :: .int .u8 0 :: .int .u8 0 :: .int .u8 0 :: .int .u8 0 :: .int .u8 0 :: .int .u8 0 :: .int .u8 0 :: .int .u8 0 :: .int .u8 0 :: .int .u8 0 :: .int .u8 0 :: .int .u8 0 :: .int .u8 0 :: .int .u8 0 :: .int .u8 0 :: .int .u8 0 :: .int .u8 0 :: .int .u8 0 :: .int .u8 0 :: .int .u8 0 :: [] : List Value) = dS.map B := by rfl
theorem oS_lit : (.int .u8 0 :: .int .u8 7 :: .int .u8 0 :: .int .u8 0 :: .int .u8 0 :: .int .u8 0 :: .int .u8 0 :: .int .u8 0 :: .int .u8 0 :: .int .u8 0 :: .int .u8 0 :: .int .u8 0 :: .int .u8 0 :: .int .u8 0 :: .int .u8 0 :: .int .u8 0 :: .int .u8 0 :: .int .u8 0 :: .int .u8 0 :: .int .u8 0 :: .int .u8 0 :: .int .u8 0 :: .int .u8 0 :: .int .u8 0 :: .int .u8 0 :: .int .u8 0 :: .int .u8 0 :: .int .u8 0 :: .int .u8 0 :: .int .u8 0 :: .int .u8 0 :: .int .u8 0 :: [] : List Value) = oS.map B := by rfl

theorem isD_new (w : World) (l : List Bytes) (n : Nat) (t : TypeId) (hn : l.length = n) (he : ∀ d ∈ l, d.length = 32) (hm : n ≤ 1099511627776) : IsD (w.alloc (.cells (dcells l).toArray t)) (some ⟨w.heap.size, 0, none⟩) n n l :=
  ⟨hn, Nat.le_refl _, hm, by omega, he, .inr ⟨_, 0, rfl, rangeAt_new w _ _ _, by rw [size_alloc]; omega⟩⟩

theorem fold_lay_at (k : Nat) : ∀ (L : List Value) (j : Nat) (Z : List Value), k + j + L.length ≤ Z.length → (L.zipIdx j).foldl (fun cs x => cs.setIfInBounds (k + x.2) x.1) Z.toArray = (lay Z (k + j) L).toArray
  | [], j, Z, _ => by rw [lay_nil]; rfl
  | v :: L, j, Z, h => by
    have hk : k + j < Z.length := by simp at h; omega
    rw [List.zipIdx_cons, List.foldl_cons, List.setIfInBounds_toArray, fold_lay_at k L (j + 1) (Z.set (k + j) v) (by simp at h ⊢; omega), ← Nat.add_assoc, lay_cons hk]

theorem fold_two {A C : List Value} (ha : A.length = 32) (hc : C.length = 32) : ∃ D0 : List Value, A.zipIdx.foldl (fun (cs : Array Value) (x : Value × Nat) => cs.setIfInBounds x.2 x.1) (.int .u8 0 :: .int .u8 0 :: .int .u8 0 :: .int .u8 0 :: .int .u8 0 :: .int .u8 0 :: .int .u8 0 :: .int .u8 0 :: .int .u8 0 :: .int .u8 0 :: .int .u8 0 :: .int .u8 0 :: .int .u8 0 :: .int .u8 0 :: .int .u8 0 :: .int .u8 0 :: .int .u8 0 :: .int .u8 0 :: .int .u8 0 :: .int .u8 0 :: .int .u8 0 :: .int .u8 0 :: .int .u8 0 :: .int .u8 0 :: .int .u8 0 :: .int .u8 0 :: .int .u8 0 :: .int .u8 0 :: .int .u8 0 :: .int .u8 0 :: .int .u8 0 :: .int .u8 0 :: .int .u8 0 :: .int .u8 0 :: .int .u8 0 :: .int .u8 0 :: .int .u8 0 :: .int .u8 0 :: .int .u8 0 :: .int .u8 0 :: .int .u8 0 :: .int .u8 0 :: .int .u8 0 :: .int .u8 0 :: .int .u8 0 :: .int .u8 0 :: .int .u8 0 :: .int .u8 0 :: .int .u8 0 :: .int .u8 0 :: .int .u8 0 :: .int .u8 0 :: .int .u8 0 :: .int .u8 0 :: .int .u8 0 :: .int .u8 0 :: .int .u8 0 :: .int .u8 0 :: .int .u8 0 :: .int .u8 0 :: .int .u8 0 :: .int .u8 0 :: .int .u8 0 :: .int .u8 0 :: [] : List Value).toArray = D0.toArray ∧ D0.length = 64 ∧ C.zipIdx.foldl (fun (cs : Array Value) (x : Value × Nat) => cs.setIfInBounds (32 + x.2) x.1) D0.toArray = (A ++ C).toArray := by
  refine ⟨lay (.int .u8 0 :: .int .u8 0 :: .int .u8 0 :: .int .u8 0 :: .int .u8 0 :: .int .u8 0 :: .int .u8 0 :: .int .u8 0 :: .int .u8 0 :: .int .u8 0 :: .int .u8 0 :: .int .u8 0 :: .int .u8 0 :: .int .u8 0 :: .int .u8 0 :: .int .u8 0 :: .int .u8 0 :: .int .u8 0 :: .int .u8 0 :: .int .u8 0 :: .int .u8 0 :: .int .u8 0 :: .int .u8 0 :: .int .u8 0 :: .int .u8 0 :: .int .u8 0 :: .int .u8 0 :: .int .u8 0 :: .int .u8 0 :: .int .u8 0 :: .int .u8 0 :: .int .u8 0 :: .int .u8 0 :: .int .u8 0 :: .int .u8 0 :: .int .u8 0 :: .int .u8 0 :: .int .u8 0 :: .int .u8 0 :: .int .u8 0 :: .int .u8 0 :: .int .u8 0 :: .int .u8 0 :: .int .u8 0 :: .int .u8 0 :: .int .u8 0 :: .int .u8 0 :: .int .u8 0 :: .int .u8 0 :: .int .u8 0 :: .int .u8 0 :: .int .u8 0 :: .int .u8 0 :: .int .u8 0 :: .int .u8 0 :: .int .u8 0 :: .int .u8 0 :: .int .u8 0 :: .int .u8 0 :: .int .u8 0 :: .int .u8 0 :: .int .u8 0 :: .int .u8 0 :: .int .u8 0 :: [] : List Value) 0 A, fold_lay A 0 (.int .u8 0 :: .int .u8 0 :: .int .u8 0 :: .int .u8 0 :: .int .u8 0 :: .int .u8 0 :: .int .u8 0 :: .int .u8 0 :: .int .u8 0 :: .int .u8 0 :: .int .u8 0 :: .int .u8 0 :: .int .u8 0 :: .int .u8 0 :: .int .u8 0 :: .int .u8 0 :: .int .u8 0 :: .int .u8 0 :: .int .u8 0 :: .int .u8 0 :: .int .u8 0 :: .int .u8 0 :: .int .u8 0 :: .int .u8 0 :: .int .u8 0 :: .int .u8 0 :: .int .u8 0 :: .int .u8 0 :: .int .u8 0 :: .int .u8 0 :: .int .u8 0 :: .int .u8 0 :: .int .u8 0 :: .int .u8 0 :: .int .u8 0 :: .int .u8 0 :: .int .u8 0 :: .int .u8 0 :: .int .u8 0 :: .int .u8 0 :: .int .u8 0 :: .int .u8 0 :: .int .u8 0 :: .int .u8 0 :: .int .u8 0 :: .int .u8 0 :: .int .u8 0 :: .int .u8 0 :: .int .u8 0 :: .int .u8 0 :: .int .u8 0 :: .int .u8 0 :: .int .u8 0 :: .int .u8 0 :: .int .u8 0 :: .int .u8 0 :: .int .u8 0 :: .int .u8 0 :: .int .u8 0 :: .int .u8 0 :: .int .u8 0 :: .int .u8 0 :: .int .u8 0 :: .int .u8 0 :: [] : List Value) (by rw [ha]; decide), by rw [length_lay (by rw [ha]; decide)]; rfl, ?_⟩
  have h := fold_lay_at 32 C 0 (lay (.int .u8 0 :: .int .u8 0 :: .int .u8 0 :: .int .u8 0 :: .int .u8 0 :: .int .u8 0 :: .int .u8 0 :: .int .u8 0 :: .int .u8 0 :: .int .u8 0 :: .int .u8 0 :: .int .u8 0 :: .int .u8 0 :: .int .u8 0 :: .int .u8 0 :: .int .u8 0 :: .int .u8 0 :: .int .u8 0 :: .int .u8 0 :: .int .u8 0 :: .int .u8 0 :: .int .u8 0 :: .int .u8 0 :: .int .u8 0 :: .int .u8 0 :: .int .u8 0 :: .int .u8 0 :: .int .u8 0 :: .int .u8 0 :: .int .u8 0 :: .int .u8 0 :: .int .u8 0 :: .int .u8 0 :: .int .u8 0 :: .int .u8 0 :: .int .u8 0 :: .int .u8 0 :: .int .u8 0 :: .int .u8 0 :: .int .u8 0 :: .int .u8 0 :: .int .u8 0 :: .int .u8 0 :: .int .u8 0 :: .int .u8 0 :: .int .u8 0 :: .int .u8 0 :: .int .u8 0 :: .int .u8 0 :: .int .u8 0 :: .int .u8 0 :: .int .u8 0 :: .int .u8 0 :: .int .u8 0 :: .int .u8 0 :: .int .u8 0 :: .int .u8 0 :: .int .u8 0 :: .int .u8 0 :: .int .u8 0 :: .int .u8 0 :: .int .u8 0 :: .int .u8 0 :: .int .u8 0 :: [] : List Value) 0 A) (by rw [length_lay (by rw [ha]; decide), hc]; decide)
  rw [Nat.add_zero] at h
  rw [h]
  unfold lay
  rw [List.take_zero, List.nil_append, List.take_left' ha, hc]
  have : (A ++ List.drop (0 + A.length) (.int .u8 0 :: .int .u8 0 :: .int .u8 0 :: .int .u8 0 :: .int .u8 0 :: .int .u8 0 :: .int .u8 0 :: .int .u8 0 :: .int .u8 0 :: .int .u8 0 :: .int .u8 0 :: .int .u8 0 :: .int .u8 0 :: .int .u8 0 :: .int .u8 0 :: .int .u8 0 :: .int .u8 0 :: .int .u8 0 :: .int .u8 0 :: .int .u8 0 :: .int .u8 0 :: .int .u8 0 :: .int .u8 0 :: .int .u8 0 :: .int .u8 0 :: .int .u8 0 :: .int .u8 0 :: .int .u8 0 :: .int .u8 0 :: .int .u8 0 :: .int .u8 0 :: .int .u8 0 :: .int .u8 0 :: .int .u8 0 :: .int .u8 0 :: .int .u8 0 :: .int .u8 0 :: .int .u8 0 :: .int .u8 0 :: .int .u8 0 :: .int .u8 0 :: .int .u8 0 :: .int .u8 0 :: .int .u8 0 :: .int .u8 0 :: .int .u8 0 :: .int .u8 0 :: .int .u8 0 :: .int .u8 0 :: .int .u8 0 :: .int .u8 0 :: .int .u8 0 :: .int .u8 0 :: .int .u8 0 :: .int .u8 0 :: .int .u8 0 :: .int .u8 0 :: .int .u8 0 :: .int .u8 0 :: .int .u8 0 :: .int .u8 0 :: .int .u8 0 :: .int .u8 0 :: .int .u8 0 :: [] : List Value)).drop (32 + 32) = [] := List.drop_of_length_le (by rw [List.length_append, List.length_drop, ha]; decide)
  rw [this, List.append_nil]

set_option maxHeartbeats 16000000 in
theorem ssane_core (key r c s : Int) (X1 Zs : List Value) (w : World) (hG : Glob w)
    (IX : Seal ((Tryz.prog.info? 27).map (·.size) = some X1.length)) (IXa : Seal ((Tryz.prog.info? 27).map (·.size) = some X1.toArray.size)) (LX : Seal ((.int .u8 0 :: .int .u8 0 :: .int .u8 0 :: .int .u8 0 :: .int .u8 0 :: .int .u8 0 :: .int .u8 0 :: .int .u8 0 :: .int .u8 0 :: .int .u8 0 :: .int .u8 0 :: .int .u8 0 :: .int .u8 0 :: .int .u8 0 :: .int .u8 0 :: .int .u8 0 :: .int .u8 0 :: .int .u8 0 :: .int .u8 0 :: .int .u8 0 :: .int .u8 0 :: .int .u8 0 :: .int .u8 0 :: .int .u8 0 :: .int .u8 0 :: .int .u8 0 :: .int .u8 0 :: .int .u8 0 :: .int .u8 0 :: .int .u8 0 :: .int .u8 0 :: .int .u8 0 :: .int .i64 0 :: .int .i64 0 :: .int .i64 0 :: [] : List Value).length = X1.length)) (OX : Seal (∀ u ∈ X1, u.oneCell' = true))
    (IZ : Seal ((Tryz.prog.info? 27).map (·.size) = some Zs.length)) (LZ : Seal ((.int .u8 0 :: .int .u8 0 :: .int .u8 0 :: .int .u8 0 :: .int .u8 0 :: .int .u8 0 :: .int .u8 0 :: .int .u8 0 :: .int .u8 0 :: .int .u8 0 :: .int .u8 0 :: .int .u8 0 :: .int .u8 0 :: .int .u8 0 :: .int .u8 0 :: .int .u8 0 :: .int .u8 0 :: .int .u8 0 :: .int .u8 0 :: .int .u8 0 :: .int .u8 0 :: .int .u8 0 :: .int .u8 0 :: .int .u8 0 :: .int .u8 0 :: .int .u8 0 :: .int .u8 0 :: .int .u8 0 :: .int .u8 0 :: .int .u8 0 :: .int .u8 0 :: .int .u8 0 :: .int .i64 0 :: .int .i64 0 :: .int .i64 0 :: [] : List Value).length = Zs.length)) (OZ : Seal (∀ u ∈ Zs, u.oneCell' = true))
    (Bd : List Value) (hBd : Seal (X1.set 32 (.int .i64 (-1)) = Bd)) (IBa : Seal ((Tryz.prog.info? 27).map (·.size) = some Bd.toArray.size))
    (rX : Seal (X1.take 32 = dS.map B)) (cX : Seal (X1.toArray[32]? = some (.int .i64 20)))
    (HP : Seal (∀ W, Calls Tryz.prog 16 #[.int .i64 5] W fun e w' => e = .returned (.tuple #[.int .i64 key, .int .i64 0]) ∧ Below W.heap.size W w'))
    (HI : Seal (∀ W, Glob W → Calls Tryz.prog 17 #[.int .i64 5, .int .i64 9, .agg (dS.map B).toArray, .int .i64 20, .int .i64 3, .int .i64 4] W fun e w' => e = .returned (.tuple #[.agg X1.toArray, .int .i64 r, .int .i64 c, .int .i64 s, .bool true]) ∧ Below W.heap.size W w'))
    (HC1 : Seal (∀ W, Glob W → Calls Tryz.prog 10 #[.int .i64 key, .agg X1.toArray] W fun e w' => e = .returned (.bool true) ∧ Below W.heap.size W w'))
    (HC2 : Seal (∀ W, Glob W → Calls Tryz.prog 10 #[.int .i64 2, .agg X1.toArray] W fun e w' => e = .returned (.bool false) ∧ Below W.heap.size W w'))
    (HC3 : Seal (∀ W, Glob W → Calls Tryz.prog 10 #[.int .i64 key, .agg Bd.toArray] W fun e w' => e = .returned (.bool false) ∧ Below W.heap.size W w'))
    (HS : Seal (∀ (W : World) (a : Option Addr) (n c : Nat) (l' r' : List Bytes) (x : Int), Glob W → IsD W a n c l' → Seal (spendF true l' dS 370 = (r', x)) → Calls Tryz.prog 13 #[.slice a n c, .int .i64 key, .agg X1.toArray] W (DigPost r' x W)))
    (HS2 : Seal (∀ (W : World) (a : Option Addr) (n c : Nat) (l' : List Bytes), Glob W → IsD W a n c l' → Calls Tryz.prog 13 #[.slice a n c, .int .i64 2, .agg X1.toArray] W (DigPost [] 370 W)))
    (HA1 : Seal (∀ W, Glob W → Calls Tryz.prog 6 #[.int .i64 4, .int .i64 4, .agg (dS.map B).toArray, .int .i64 (-1), .int .i64 0, .int .i64 0] W fun e w' => e = .returned (.tuple #[.int .i64 0, .int .i64 370]) ∧ Below W.heap.size W w'))
    (HT1 : Seal (∀ W, Glob W → Calls Tryz.prog 8 #[.int .i64 4, .int .i64 4, .agg (dS.map B).toArray, .int .i64 1099511627777, .int .i64 0, .int .i64 0, .int .i64 0] W fun e w' => e = .returned (.tuple #[.agg Zs.toArray, .int .i64 370]) ∧ Below W.heap.size W w'))
    (HT2 : Seal (∀ W, Glob W → Calls Tryz.prog 8 #[.int .i64 2, .int .i64 4, .agg (dS.map B).toArray, .int .i64 5, .int .i64 0, .int .i64 0, .int .i64 0] W fun e w' => e = .returned (.tuple #[.agg Zs.toArray, .int .i64 90]) ∧ Below W.heap.size W w'))
    (HA2 : Seal (∀ W, Glob W → Calls Tryz.prog 6 #[.int .i64 4, .int .i64 2, .agg (dS.map B).toArray, .int .i64 5, .int .i64 0, .int .i64 0] W fun e w' => e = .returned (.tuple #[.int .i64 0, .int .i64 90]) ∧ Below W.heap.size W w')) :
    Calls Tryz.prog 5 #[] w fun e w' => e = .returned (.bool true) ∧ Below w.heap.size w w' := by
  obtain ⟨D1, hD1⟩ : ∃ D1, D1 = dS.map B := ⟨_, rfl⟩
  obtain ⟨O1, hO1⟩ : ∃ O1, O1 = oS.map B := ⟨_, rfl⟩
  have lD : D1.length = 32 := by rw [hD1, List.length_map]; rfl
  have lO : O1.length = 32 := by rw [hO1, List.length_map]; rfl
  have irD : (Tryz.prog.info? 23).map (·.size) = some 32 := by kernel_rfl
  have IDa : Seal ((Tryz.prog.info? 23).map (·.size) = some D1.toArray.size) := ⟨by rw [List.size_toArray, lD]; exact irD⟩
  have IOa : Seal ((Tryz.prog.info? 23).map (·.size) = some O1.toArray.size) := ⟨by rw [List.size_toArray, lO]; exact irD⟩
  have ID : Seal ((Tryz.prog.info? 23).map (·.size) = some D1.length) := ⟨by rw [lD]; exact irD⟩
  have hDL : Seal ((.int .u8 1 :: .int .u8 0 :: .int .u8 0 :: .int .u8 0 :: .int .u8 0 :: .int .u8 0 :: .int .u8 0 :: .int .u8 0 :: .int .u8 0 :: .int .u8 0 :: .int .u8 0 :: .int .u8 0 :: .int .u8 0 :: .int .u8 0 :: .int .u8 0 :: .int .u8 0 :: .int .u8 0 :: .int .u8 0 :: .int .u8 0 :: .int .u8 0 :: .int .u8 0 :: .int .u8 0 :: .int .u8 0 :: .int .u8 0 :: .int .u8 0 :: .int .u8 0 :: .int .u8 0 :: .int .u8 0 :: .int .u8 0 :: .int .u8 0 :: .int .u8 0 :: .int .u8 0 :: [] : List Value) = D1) := ⟨by rw [hD1]; exact dS_lit⟩
  have hOL : Seal ((.int .u8 0 :: .int .u8 7 :: .int .u8 0 :: .int .u8 0 :: .int .u8 0 :: .int .u8 0 :: .int .u8 0 :: .int .u8 0 :: .int .u8 0 :: .int .u8 0 :: .int .u8 0 :: .int .u8 0 :: .int .u8 0 :: .int .u8 0 :: .int .u8 0 :: .int .u8 0 :: .int .u8 0 :: .int .u8 0 :: .int .u8 0 :: .int .u8 0 :: .int .u8 0 :: .int .u8 0 :: .int .u8 0 :: .int .u8 0 :: .int .u8 0 :: .int .u8 0 :: .int .u8 0 :: .int .u8 0 :: .int .u8 0 :: .int .u8 0 :: .int .u8 0 :: .int .u8 0 :: [] : List Value) = O1) := ⟨by rw [hO1]; exact oS_lit⟩
  have KD : Seal (D1.toArray.all (·.oneCell') = true) := ⟨by rw [hD1]; exact all_oneCell_toArray (digest_one dS)⟩
  have KO : Seal (O1.toArray.all (·.oneCell') = true) := ⟨by rw [hO1]; exact all_oneCell_toArray (digest_one oS)⟩
  have SD : Seal ((.int .u8 0 :: .int .u8 0 :: .int .u8 0 :: .int .u8 0 :: .int .u8 0 :: .int .u8 0 :: .int .u8 0 :: .int .u8 0 :: .int .u8 0 :: .int .u8 0 :: .int .u8 0 :: .int .u8 0 :: .int .u8 0 :: .int .u8 0 :: .int .u8 0 :: .int .u8 0 :: .int .u8 0 :: .int .u8 0 :: .int .u8 0 :: .int .u8 0 :: .int .u8 0 :: .int .u8 0 :: .int .u8 0 :: .int .u8 0 :: .int .u8 0 :: .int .u8 0 :: .int .u8 0 :: .int .u8 0 :: .int .u8 0 :: .int .u8 0 :: .int .u8 0 :: .int .u8 0 :: [] : List Value).toArray.size = D1.toArray.size) := ⟨by show 32 = D1.toArray.size; rw [List.size_toArray, lD]⟩
  have SO : Seal ((.int .u8 0 :: .int .u8 0 :: .int .u8 0 :: .int .u8 0 :: .int .u8 0 :: .int .u8 0 :: .int .u8 0 :: .int .u8 0 :: .int .u8 0 :: .int .u8 0 :: .int .u8 0 :: .int .u8 0 :: .int .u8 0 :: .int .u8 0 :: .int .u8 0 :: .int .u8 0 :: .int .u8 0 :: .int .u8 0 :: .int .u8 0 :: .int .u8 0 :: .int .u8 0 :: .int .u8 0 :: .int .u8 0 :: .int .u8 0 :: .int .u8 0 :: .int .u8 0 :: .int .u8 0 :: .int .u8 0 :: .int .u8 0 :: .int .u8 0 :: .int .u8 0 :: .int .u8 0 :: [] : List Value).toArray.size = O1.toArray.size) := ⟨by show 32 = O1.toArray.size; rw [List.size_toArray, lO]⟩
  have HD1 := Seal.mk hD1
  have HO1 := Seal.mk hO1
  rw [← hD1] at HI HA1 HA2 HT1 HT2 rX
  obtain ⟨W0, hW0⟩ : ∃ W0, W0 = (w.alloc (.cells (.int .u8 0 :: .int .u8 0 :: .int .u8 0 :: .int .u8 0 :: .int .u8 0 :: .int .u8 0 :: .int .u8 0 :: .int .u8 0 :: .int .u8 0 :: .int .u8 0 :: .int .u8 0 :: .int .u8 0 :: .int .u8 0 :: .int .u8 0 :: .int .u8 0 :: .int .u8 0 :: .int .u8 0 :: .int .u8 0 :: .int .u8 0 :: .int .u8 0 :: .int .u8 0 :: .int .u8 0 :: .int .u8 0 :: .int .u8 0 :: .int .u8 0 :: .int .u8 0 :: .int .u8 0 :: .int .u8 0 :: .int .u8 0 :: .int .u8 0 :: .int .u8 0 :: .int .u8 0 :: [] : List Value).toArray 23)).alloc (.cells (.int .u8 0 :: .int .u8 0 :: .int .u8 0 :: .int .u8 0 :: .int .u8 0 :: .int .u8 0 :: .int .u8 0 :: .int .u8 0 :: .int .u8 0 :: .int .u8 0 :: .int .u8 0 :: .int .u8 0 :: .int .u8 0 :: .int .u8 0 :: .int .u8 0 :: .int .u8 0 :: .int .u8 0 :: .int .u8 0 :: .int .u8 0 :: .int .u8 0 :: .int .u8 0 :: .int .u8 0 :: .int .u8 0 :: .int .u8 0 :: .int .u8 0 :: .int .u8 0 :: .int .u8 0 :: .int .u8 0 :: .int .u8 0 :: .int .u8 0 :: .int .u8 0 :: .int .u8 0 :: [] : List Value).toArray 23) := ⟨_, rfl⟩
  have hz0 : W0.heap[w.heap.size]? = some (.cells (.int .u8 0 :: .int .u8 0 :: .int .u8 0 :: .int .u8 0 :: .int .u8 0 :: .int .u8 0 :: .int .u8 0 :: .int .u8 0 :: .int .u8 0 :: .int .u8 0 :: .int .u8 0 :: .int .u8 0 :: .int .u8 0 :: .int .u8 0 :: .int .u8 0 :: .int .u8 0 :: .int .u8 0 :: .int .u8 0 :: .int .u8 0 :: .int .u8 0 :: .int .u8 0 :: .int .u8 0 :: .int .u8 0 :: .int .u8 0 :: .int .u8 0 :: .int .u8 0 :: .int .u8 0 :: .int .u8 0 :: .int .u8 0 :: .int .u8 0 :: .int .u8 0 :: .int .u8 0 :: [] : List Value).toArray 23 (0, 0)) := by rw [hW0]; exact heap_alloc2_old w _ _
  have hz1 : W0.heap[w.heap.size + 1]? = some (.cells (.int .u8 0 :: .int .u8 0 :: .int .u8 0 :: .int .u8 0 :: .int .u8 0 :: .int .u8 0 :: .int .u8 0 :: .int .u8 0 :: .int .u8 0 :: .int .u8 0 :: .int .u8 0 :: .int .u8 0 :: .int .u8 0 :: .int .u8 0 :: .int .u8 0 :: .int .u8 0 :: .int .u8 0 :: .int .u8 0 :: .int .u8 0 :: .int .u8 0 :: .int .u8 0 :: .int .u8 0 :: .int .u8 0 :: .int .u8 0 :: .int .u8 0 :: .int .u8 0 :: .int .u8 0 :: .int .u8 0 :: .int .u8 0 :: .int .u8 0 :: .int .u8 0 :: .int .u8 0 :: [] : List Value).toArray 23 (0, 0)) := by rw [hW0]; exact heap_alloc2_new w _ _
  have HB00 : Below w.heap.size w W0 := by rw [hW0]; exact ((Below.refl _ w).alloc (Nat.le_refl _) _).alloc (by simp) _
  have HZ0 := Seal.mk hz0
  have HZ1 : Seal ((W0.setRow w.heap.size D1.toArray).heap[w.heap.size + 1]? = some (.cells (.int .u8 0 :: .int .u8 0 :: .int .u8 0 :: .int .u8 0 :: .int .u8 0 :: .int .u8 0 :: .int .u8 0 :: .int .u8 0 :: .int .u8 0 :: .int .u8 0 :: .int .u8 0 :: .int .u8 0 :: .int .u8 0 :: .int .u8 0 :: .int .u8 0 :: .int .u8 0 :: .int .u8 0 :: .int .u8 0 :: .int .u8 0 :: .int .u8 0 :: .int .u8 0 :: .int .u8 0 :: .int .u8 0 :: .int .u8 0 :: .int .u8 0 :: .int .u8 0 :: .int .u8 0 :: .int .u8 0 :: .int .u8 0 :: .int .u8 0 :: .int .u8 0 :: .int .u8 0 :: [] : List Value).toArray 23 (0, 0))) := ⟨(setRow_other W0 w.heap.size (w.heap.size + 1) D1.toArray (by omega)).trans hz1⟩
  obtain ⟨W2, hW2⟩ : ∃ W2, W2 = (W0.setRow w.heap.size D1.toArray).setRow (w.heap.size + 1) O1.toArray := ⟨_, rfl⟩
  have HB2 : Seal (Below w.heap.size w W2) := ⟨by rw [hW2]; exact below_row (below_row HB00 (Nat.le_refl _) _) (Nat.le_add_right _ _) _⟩
  have HE2 : Seal (Env W2 none 0 0 [] [(w.heap.size + 1, .cells O1.toArray 23), (w.heap.size, .cells D1.toArray 23)]) := ⟨hG.below HB2.out, isB_nil _, by
    intro p hp
    simp only [List.mem_cons, List.not_mem_nil, or_false] at hp
    rcases hp with rfl | rfl
    · rw [hW2]; exact setRow_heap _ _ _ _ _ _ HZ1.out
    · rw [hW2]
      exact (setRow_other _ (w.heap.size + 1) w.heap.size _ (by omega)).trans (setRow_heap _ _ _ _ _ _ HZ0.out)⟩
  have HW2 := Seal.mk hW2
  have HW0 := Seal.mk hW0
  have heq : ∀ W, (Op.equalIn 10000 23 (.agg D1.toArray) (.agg D1.toArray)).run Tryz.prog W = .ok true W := fun W => by rw [hD1, eqDig dS dS rfl rfl W]; simp
  obtain ⟨DO, hDO1, hDO2, hDO3⟩ := fold_two lO lD
  obtain ⟨DD, hDD1, hDD2, hDD3⟩ := fold_two lD lD
  have hO32 := fold_all (L := O1) (Z := (.int .u8 0 :: .int .u8 0 :: .int .u8 0 :: .int .u8 0 :: .int .u8 0 :: .int .u8 0 :: .int .u8 0 :: .int .u8 0 :: .int .u8 0 :: .int .u8 0 :: .int .u8 0 :: .int .u8 0 :: .int .u8 0 :: .int .u8 0 :: .int .u8 0 :: .int .u8 0 :: .int .u8 0 :: .int .u8 0 :: .int .u8 0 :: .int .u8 0 :: .int .u8 0 :: .int .u8 0 :: .int .u8 0 :: .int .u8 0 :: .int .u8 0 :: .int .u8 0 :: .int .u8 0 :: .int .u8 0 :: .int .u8 0 :: .int .u8 0 :: .int .u8 0 :: .int .u8 0 :: [] : List Value)) (by rw [lO]; rfl)
  have HF := Seal.mk (And.intro hDO1 (And.intro hDO2 (And.intro hDO3 (And.intro hDD1 (And.intro hDD2 (And.intro hDD3 hO32))))))
  clear hG hz0 hz1 HB00 hW2 hW0 hD1 hO1 hDO1 hDO2 hDO3 hDD1 hDD2 hDD3 hO32 irD
  go_enter Tryz.func5, Tryz.ntmps5
  go_upto_region 2 with (first | (refine wpList_store_row rfl 23 (.tmp 1) (.tmp 27) rfl w.heap.size (.int .u8 1 :: .int .u8 0 :: .int .u8 0 :: .int .u8 0 :: .int .u8 0 :: .int .u8 0 :: .int .u8 0 :: .int .u8 0 :: .int .u8 0 :: .int .u8 0 :: .int .u8 0 :: .int .u8 0 :: .int .u8 0 :: .int .u8 0 :: .int .u8 0 :: .int .u8 0 :: .int .u8 0 :: .int .u8 0 :: .int .u8 0 :: .int .u8 0 :: .int .u8 0 :: .int .u8 0 :: .int .u8 0 :: .int .u8 0 :: .int .u8 0 :: .int .u8 0 :: .int .u8 0 :: .int .u8 0 :: .int .u8 0 :: .int .u8 0 :: .int .u8 0 :: .int .u8 0 :: [] : List Value).toArray rfl rfl 23 (.int .u8 0 :: .int .u8 0 :: .int .u8 0 :: .int .u8 0 :: .int .u8 0 :: .int .u8 0 :: .int .u8 0 :: .int .u8 0 :: .int .u8 0 :: .int .u8 0 :: .int .u8 0 :: .int .u8 0 :: .int .u8 0 :: .int .u8 0 :: .int .u8 0 :: .int .u8 0 :: .int .u8 0 :: .int .u8 0 :: .int .u8 0 :: .int .u8 0 :: .int .u8 0 :: .int .u8 0 :: .int .u8 0 :: .int .u8 0 :: .int .u8 0 :: .int .u8 0 :: .int .u8 0 :: .int .u8 0 :: .int .u8 0 :: .int .u8 0 :: .int .u8 0 :: .int .u8 0 :: [] : List Value).toArray (by rw [← HW0.out]; exact HZ0.out) (by rw [hDL.out]; exact IDa.out) (by rw [hDL.out]; exact SD.out) (by rw [hDL.out]; exact KD.out) ?_; rw [hDL.out]) | (refine wpList_store_row rfl 23 (.tmp 2) (.tmp 28) rfl (w.heap.size + 1) (.int .u8 0 :: .int .u8 7 :: .int .u8 0 :: .int .u8 0 :: .int .u8 0 :: .int .u8 0 :: .int .u8 0 :: .int .u8 0 :: .int .u8 0 :: .int .u8 0 :: .int .u8 0 :: .int .u8 0 :: .int .u8 0 :: .int .u8 0 :: .int .u8 0 :: .int .u8 0 :: .int .u8 0 :: .int .u8 0 :: .int .u8 0 :: .int .u8 0 :: .int .u8 0 :: .int .u8 0 :: .int .u8 0 :: .int .u8 0 :: .int .u8 0 :: .int .u8 0 :: .int .u8 0 :: .int .u8 0 :: .int .u8 0 :: .int .u8 0 :: .int .u8 0 :: .int .u8 0 :: [] : List Value).toArray rfl rfl 23 (.int .u8 0 :: .int .u8 0 :: .int .u8 0 :: .int .u8 0 :: .int .u8 0 :: .int .u8 0 :: .int .u8 0 :: .int .u8 0 :: .int .u8 0 :: .int .u8 0 :: .int .u8 0 :: .int .u8 0 :: .int .u8 0 :: .int .u8 0 :: .int .u8 0 :: .int .u8 0 :: .int .u8 0 :: .int .u8 0 :: .int .u8 0 :: .int .u8 0 :: .int .u8 0 :: .int .u8 0 :: .int .u8 0 :: .int .u8 0 :: .int .u8 0 :: .int .u8 0 :: .int .u8 0 :: .int .u8 0 :: .int .u8 0 :: .int .u8 0 :: .int .u8 0 :: .int .u8 0 :: [] : List Value).toArray (by rw [← HW0.out]; exact HZ1.out) (by rw [hOL.out]; exact IOa.out) (by rw [hOL.out]; exact SO.out) (by rw [hOL.out]; exact KO.out) ?_; rw [hOL.out]))
  rw [← HW0.out, ← HW2.out]
  clear HW0 HW2 HZ0 HZ1
  go_wp2_with fail
  refine (HP.out _).mono ?_
  rintro e w3 ⟨rfl, hb⟩
  have HE3 := Seal.mk (HE2.out.below hb)
  have HB3 := Seal.mk (HB2.out.trans (hb.mono HB2.out.size))
  clear hb HE2 HB2
  have RD := Seal.mk (HE3.out.keep (w.heap.size, .cells D1.toArray 23) (by simp))
  go_wp2_with (refine wpList_load_row rfl 23 (.tmp 1) rfl w.heap.size rfl 23 D1.toArray (0, 0) _ RD.out Tryz.underlying23 rfl IDa.out ?_)
  refine (HI.out _ HE3.out.glob).mono ?_
  rintro e w4 ⟨rfl, hb⟩
  have HE4 := Seal.mk (HE3.out.below hb)
  have HB4 := Seal.mk (HB3.out.trans (hb.mono HB3.out.size))
  clear hb HE3 HB3 RD
  obtain ⟨g5, hg5⟩ : ∃ g5, g5 = w4.heap.size := ⟨_, rfl⟩
  have HE5 := Seal.mk (HE4.out.push (.cells X1.toArray 27))
  have HB5 := Seal.mk (HB4.out.alloc HB4.out.size (.cells X1.toArray 27))
  go_upto_region 4 with (refine wpList_store_new rfl 27 (.tmp 5) (.tmp 36) rfl (.int .u8 0 :: .int .u8 0 :: .int .u8 0 :: .int .u8 0 :: .int .u8 0 :: .int .u8 0 :: .int .u8 0 :: .int .u8 0 :: .int .u8 0 :: .int .u8 0 :: .int .u8 0 :: .int .u8 0 :: .int .u8 0 :: .int .u8 0 :: .int .u8 0 :: .int .u8 0 :: .int .u8 0 :: .int .u8 0 :: .int .u8 0 :: .int .u8 0 :: .int .u8 0 :: .int .u8 0 :: .int .u8 0 :: .int .u8 0 :: .int .u8 0 :: .int .u8 0 :: .int .u8 0 :: .int .u8 0 :: .int .u8 0 :: .int .u8 0 :: .int .u8 0 :: .int .u8 0 :: .int .i64 0 :: .int .i64 0 :: .int .i64 0 :: [] : List Value) X1 27 rfl rfl IX.out LX.out OX.out ?_)
  rw [← hg5] at HE5 ⊢
  obtain ⟨W5, hW5⟩ : ∃ W5, W5 = w4.alloc (.cells X1.toArray 27) := ⟨_, rfl⟩
  rw [← hW5] at HE5 HB5 ⊢
  clear hW5 hg5 HE4 HB4
  have RD := Seal.mk (HE5.out.keep (w.heap.size, .cells D1.toArray 23) (by simp))
  have RX := Seal.mk (HE5.out.keep (g5, .cells X1.toArray 27) (by simp))
  have rx : W5.rangeAt g5 0 D1 := by
    have := rangeAt_take (rangeAt_row RX.out) 32
    rwa [rX.out] at this
  have k0 : W5.cell? ⟨g5, 32, none⟩ = some (.int .i64 20) := by rw [cell_of_row _ _ _ _ _ _ RX.out]; exact cX.out
  go_wp2_with (first | (refine wpList_load_mid_g (by rfl) 23 (.tmp 48) rfl g5 0 rfl D1 _ rx Tryz.underlying23 rfl ID.out ?_) | (refine wpList_load_row_g (by rfl) 23 (.tmp 1) rfl w.heap.size rfl 23 D1.toArray (0, 0) _ RD.out Tryz.underlying23 rfl IDa.out ?_) | (refine wpList_load_row_g (by rfl) 27 (.tmp 5) rfl g5 rfl 27 X1.toArray (0, 0) _ RX.out Tryz.underlying27 rfl IXa.out ?_))
  refine (HC1.out _ HE5.out.glob).mono ?_
  rintro e w6 ⟨rfl, hb⟩
  have HE6 := Seal.mk (HE5.out.below hb)
  have HB6 := Seal.mk (HB5.out.trans (hb.mono HB5.out.size))
  clear hb HE5 HB5 RD RX rx k0 heq
  have RX := Seal.mk (HE6.out.keep (g5, .cells X1.toArray 27) (by simp))
  go_wp2_with (refine wpList_load_row_g (by rfl) 27 (.tmp 5) rfl g5 rfl 27 X1.toArray (0, 0) _ RX.out Tryz.underlying27 rfl IXa.out ?_)
  refine (HC2.out _ HE6.out.glob).mono ?_
  rintro e w7 ⟨rfl, hb⟩
  have HE7 := Seal.mk (HE6.out.below hb)
  have HB7 := Seal.mk (HB6.out.trans (hb.mono HB6.out.size))
  clear hb HE6 HB6 RX HC1 HC2 HP HI
  have RX := Seal.mk (HE7.out.keep (g5, .cells X1.toArray 27) (by simp))
  go_upto_region 7 with (first | (refine wpList_load_row rfl 27 (.tmp 5) rfl g5 rfl 27 X1.toArray (0, 0) _ RX.out Tryz.underlying27 rfl IXa.out ?_) | (refine wpList_store_new rfl 27 (.tmp 10) (.tmp 68) rfl (.int .u8 0 :: .int .u8 0 :: .int .u8 0 :: .int .u8 0 :: .int .u8 0 :: .int .u8 0 :: .int .u8 0 :: .int .u8 0 :: .int .u8 0 :: .int .u8 0 :: .int .u8 0 :: .int .u8 0 :: .int .u8 0 :: .int .u8 0 :: .int .u8 0 :: .int .u8 0 :: .int .u8 0 :: .int .u8 0 :: .int .u8 0 :: .int .u8 0 :: .int .u8 0 :: .int .u8 0 :: .int .u8 0 :: .int .u8 0 :: .int .u8 0 :: .int .u8 0 :: .int .u8 0 :: .int .u8 0 :: .int .u8 0 :: .int .u8 0 :: .int .u8 0 :: .int .u8 0 :: .int .i64 0 :: .int .i64 0 :: .int .i64 0 :: [] : List Value) X1 27 rfl rfl IX.out LX.out OX.out ?_))
  have kb : (w7.alloc (.cells X1.toArray 27)).cell? ⟨w7.heap.size, 32, none⟩ = some (.int .i64 20) := by rw [cell_of_row _ _ _ _ _ _ (heap_alloc_new w7 _)]; exact cX.out
  have fb : (w7.alloc (.cells X1.toArray 27)).frozen? ⟨w7.heap.size, 32, none⟩ = false := frozen_of_row _ _ _ _ _ (heap_alloc_new w7 _)
  go_upto_region 8 with (fail)
  rw [hBd.out]
  clear kb fb RX
  have HE8 := Seal.mk (HE7.out.push (.cells Bd.toArray 27))
  have HB8 := Seal.mk (HB7.out.alloc HB7.out.size (.cells Bd.toArray 27))
  obtain ⟨gb, hgb⟩ : ∃ gb, gb = w7.heap.size := ⟨_, rfl⟩
  obtain ⟨W8, hW8⟩ : ∃ W8, W8 = w7.alloc (.cells Bd.toArray 27) := ⟨_, rfl⟩
  rw [← hW8] at HE8 HB8 ⊢
  rw [← hgb] at HE8 ⊢
  clear hW8 hgb HE7 HB7
  have HE9 := Seal.mk (HE8.out.push (.cells O1.toArray 23))
  have HB9 := Seal.mk (HB8.out.alloc HB8.out.size (.cells O1.toArray 23))
  have RO := Seal.mk (HE8.out.keep (w.heap.size + 1, .cells O1.toArray 23) (by simp))
  have RX := Seal.mk (HE9.out.keep (g5, .cells X1.toArray 27) (by simp))
  have hf := HF.out.2.2.2.2.2.2
  go_wp2_with (first | (refine wpList_load_row rfl 23 (.tmp 2) rfl (w.heap.size + 1) rfl 23 O1.toArray (0, 0) _ RO.out Tryz.underlying23 rfl IOa.out ?_) | (refine wpList_load_row rfl 27 (.tmp 5) rfl g5 rfl 27 X1.toArray (0, 0) _ RX.out Tryz.underlying27 rfl IXa.out ?_))
  have hs1 : spendF true [oS] dS 370 = ([oS, dS], 0) := by decide +kernel
  have hs2 : spendF true [oS, dS] dS 370 = ([], 161) := by decide +kernel
  have hs3 : spendF true [dS, dS] dS 370 = ([], 370) := by decide +kernel
  have hd1 : dcells [oS] = O1 := by rw [HO1.out]; simp [dcells]
  have hd2 : dcells [oS, dS] = O1 ++ D1 := by rw [HO1.out, HD1.out]; simp [dcells]
  have hd3 : dcells [dS, dS] = D1 ++ D1 := by rw [HD1.out]; simp [dcells]
  have e1 : ∀ d ∈ [oS], d.length = 32 := by intro d h; simp at h; rw [h]; rfl
  have e2 : ∀ d ∈ [oS, dS], d.length = 32 := by intro d h; simp at h; rcases h with h | h <;> (rw [h]; rfl)
  have e3 : ∀ d ∈ [dS, dS], d.length = 32 := by intro d h; simp at h; rw [h]; rfl
  have I1 := isD_new W8 [oS] 1 23 rfl e1 (by decide)
  rw [hd1] at I1
  refine (HS.out _ _ 1 1 [oS] [oS, dS] 0 HE9.out.glob I1 ⟨hs1⟩).mono ?_
  rintro e v0 ⟨a1, n1, c1, rfl, HL, hb⟩
  have HE0 := Seal.mk (HE9.out.below hb)
  have HB0 := Seal.mk (HB9.out.trans (hb.mono HB9.out.size))
  clear hb HE9 HB9 RX RO I1 hd1 hs1 e1 hf
  have RX := Seal.mk (HE0.out.keep (g5, .cells X1.toArray 27) (by simp))
  go_wp2_with (refine wpList_load_row rfl 27 (.tmp 5) rfl g5 rfl 27 X1.toArray (0, 0) _ RX.out Tryz.underlying27 rfl IXa.out ?_)
  refine (HS.out _ _ n1 c1 [oS, dS] [] 161 HE0.out.glob HL.out ⟨hs2⟩).mono ?_
  rintro e v1 ⟨a2, n2, c2, rfl, _, hb⟩
  have HE1 := Seal.mk (HE0.out.below hb)
  have HB1 := Seal.mk (HB0.out.trans (hb.mono HB0.out.size))
  have HL := Seal.mk (HL.out.of_heap hb)
  clear hb HE0 HB0 RX
  clear hs2
  have HE2 := Seal.mk (HE1.out.push (.cells (D1 ++ D1).toArray 23))
  have HB2 := Seal.mk (HB1.out.alloc HB1.out.size (.cells (D1 ++ D1).toArray 23))
  have RD := Seal.mk (HE1.out.keep (w.heap.size, .cells D1.toArray 23) (by simp))
  have RX := Seal.mk (HE2.out.keep (g5, .cells X1.toArray 27) (by simp))
  have hf1 := HF.out.2.2.2.1
  have hf2 := HF.out.2.2.2.2.1
  have hf3 := HF.out.2.2.2.2.2.1
  go_wp2_with (first | (refine wpList_load_row rfl 23 (.tmp 1) rfl w.heap.size rfl 23 D1.toArray (0, 0) _ RD.out Tryz.underlying23 rfl IDa.out ?_) | (refine wpList_load_row rfl 27 (.tmp 5) rfl g5 rfl 27 X1.toArray (0, 0) _ RX.out Tryz.underlying27 rfl IXa.out ?_))
  have I3 := isD_new v1 [dS, dS] 2 23 rfl e3 (by decide)
  rw [hd3] at I3
  refine (HS.out _ _ 2 2 [dS, dS] [] 370 HE2.out.glob I3 ⟨hs3⟩).mono ?_
  rintro e v3 ⟨a3, n3, c3, rfl, _, hb⟩
  have HE3 := Seal.mk (HE2.out.below hb)
  have HB3 := Seal.mk (HB2.out.trans (hb.mono HB2.out.size))
  have HL := Seal.mk ((HL.out.of_heap (below_alloc v1 _)).of_heap hb)
  clear hb HE2 HB2 HE1 HB1 RX RD I3 hd3 hs3 e3 hf1 hf2 hf3
  have RX := Seal.mk (HE3.out.keep (g5, .cells X1.toArray 27) (by simp))
  go_wp2_with (refine wpList_load_row rfl 27 (.tmp 5) rfl g5 rfl 27 X1.toArray (0, 0) _ RX.out Tryz.underlying27 rfl IXa.out ?_)
  refine (HS2.out _ _ 0 0 [] HE3.out.glob (isD_nil _)).mono ?_
  rintro e v4 ⟨a4, n4, c4, rfl, _, hb⟩
  have HE4 := Seal.mk (HE3.out.below hb)
  have HB4 := Seal.mk (HB3.out.trans (hb.mono HB3.out.size))
  have HL := Seal.mk (HL.out.of_heap hb)
  clear hb HE3 HB3 RX
  have RD := Seal.mk (HE4.out.keep (w.heap.size, .cells D1.toArray 23) (by simp))
  go_wp2_with (refine wpList_load_row rfl 23 (.tmp 1) rfl w.heap.size rfl 23 D1.toArray (0, 0) _ RD.out Tryz.underlying23 rfl IDa.out ?_)
  refine (HA1.out _ HE4.out.glob).mono ?_
  rintro e v5 ⟨rfl, hb⟩
  have HE5 := Seal.mk (HE4.out.below hb)
  have HB5 := Seal.mk (HB4.out.trans (hb.mono HB4.out.size))
  have HL := Seal.mk (HL.out.of_heap hb)
  clear hb HE4 HB4 RD
  have RD := Seal.mk (HE5.out.keep (w.heap.size, .cells D1.toArray 23) (by simp))
  go_wp2_with (refine wpList_load_row rfl 23 (.tmp 1) rfl w.heap.size rfl 23 D1.toArray (0, 0) _ RD.out Tryz.underlying23 rfl IDa.out ?_)
  refine (HT1.out _ HE5.out.glob).mono ?_
  rintro e v6 ⟨rfl, hb⟩
  have HE6 := Seal.mk (HE5.out.below hb)
  have HB6 := Seal.mk (HB5.out.trans (hb.mono HB5.out.size))
  have HL := Seal.mk (HL.out.of_heap hb)
  clear hb HE5 HB5 RD
  have HE7 := Seal.mk (HE6.out.push (.cells Zs.toArray 27))
  have HB7 := Seal.mk (HB6.out.alloc HB6.out.size (.cells Zs.toArray 27))
  have HL := Seal.mk (HL.out.of_heap (below_alloc v6 (.cells Zs.toArray 27)))
  clear HE6 HB6
  have RD := Seal.mk (HE7.out.keep (w.heap.size, .cells D1.toArray 23) (by simp))
  go_wp2_with (first | (refine wpList_store_new rfl 27 (.tmp 21) (.tmp 107) rfl (.int .u8 0 :: .int .u8 0 :: .int .u8 0 :: .int .u8 0 :: .int .u8 0 :: .int .u8 0 :: .int .u8 0 :: .int .u8 0 :: .int .u8 0 :: .int .u8 0 :: .int .u8 0 :: .int .u8 0 :: .int .u8 0 :: .int .u8 0 :: .int .u8 0 :: .int .u8 0 :: .int .u8 0 :: .int .u8 0 :: .int .u8 0 :: .int .u8 0 :: .int .u8 0 :: .int .u8 0 :: .int .u8 0 :: .int .u8 0 :: .int .u8 0 :: .int .u8 0 :: .int .u8 0 :: .int .u8 0 :: .int .u8 0 :: .int .u8 0 :: .int .u8 0 :: .int .u8 0 :: .int .i64 0 :: .int .i64 0 :: .int .i64 0 :: [] : List Value) Zs 27 rfl rfl IZ.out LZ.out OZ.out ?_) | (refine wpList_load_row rfl 23 (.tmp 1) rfl w.heap.size rfl 23 D1.toArray (0, 0) _ RD.out Tryz.underlying23 rfl IDa.out ?_))
  refine (HT2.out _ HE7.out.glob).mono ?_
  rintro e v8 ⟨rfl, hb⟩
  have HE8 := Seal.mk (HE7.out.below hb)
  have HB8 := Seal.mk (HB7.out.trans (hb.mono HB7.out.size))
  have HL := Seal.mk (HL.out.of_heap hb)
  clear hb HE7 HB7 RD
  have HE9 := Seal.mk (HE8.out.push (.cells Zs.toArray 27))
  have HB9 := Seal.mk (HB8.out.alloc HB8.out.size (.cells Zs.toArray 27))
  have HL := Seal.mk (HL.out.of_heap (below_alloc v8 (.cells Zs.toArray 27)))
  clear HE8 HB8
  have RD := Seal.mk (HE9.out.keep (w.heap.size, .cells D1.toArray 23) (by simp))
  go_wp2_with (first | (refine wpList_store_new rfl 27 (.tmp 23) (.tmp 112) rfl (.int .u8 0 :: .int .u8 0 :: .int .u8 0 :: .int .u8 0 :: .int .u8 0 :: .int .u8 0 :: .int .u8 0 :: .int .u8 0 :: .int .u8 0 :: .int .u8 0 :: .int .u8 0 :: .int .u8 0 :: .int .u8 0 :: .int .u8 0 :: .int .u8 0 :: .int .u8 0 :: .int .u8 0 :: .int .u8 0 :: .int .u8 0 :: .int .u8 0 :: .int .u8 0 :: .int .u8 0 :: .int .u8 0 :: .int .u8 0 :: .int .u8 0 :: .int .u8 0 :: .int .u8 0 :: .int .u8 0 :: .int .u8 0 :: .int .u8 0 :: .int .u8 0 :: .int .u8 0 :: .int .i64 0 :: .int .i64 0 :: .int .i64 0 :: [] : List Value) Zs 27 rfl rfl IZ.out LZ.out OZ.out ?_) | (refine wpList_load_row rfl 23 (.tmp 1) rfl w.heap.size rfl 23 D1.toArray (0, 0) _ RD.out Tryz.underlying23 rfl IDa.out ?_))
  refine (HA2.out _ HE9.out.glob).mono ?_
  rintro e u0 ⟨rfl, hb⟩
  have HE0 := Seal.mk (HE9.out.below hb)
  have HB0 := Seal.mk (HB9.out.trans (hb.mono HB9.out.size))
  have HL := Seal.mk (HL.out.of_heap hb)
  clear hb HE9 HB9 RD HA1 HA2 HT1 HT2 HS HS2
  have RD := Seal.mk (HE0.out.keep (w.heap.size, .cells D1.toArray 23) (by simp))
  have RO := Seal.mk (HE0.out.keep (w.heap.size + 1, .cells O1.toArray 23) (by simp))
  have hf1 := HF.out.1
  have hf2 := HF.out.2.1
  have hf3 := HF.out.2.2.1
  go_wp2_with (first | (refine wpList_load_row_g (by rfl) 23 (.tmp 1) rfl w.heap.size rfl 23 D1.toArray (0, 0) _ RD.out Tryz.underlying23 rfl IDa.out ?_) | (refine wpList_load_row_g (by rfl) 23 (.tmp 2) rfl (w.heap.size + 1) rfl 23 O1.toArray (0, 0) _ RO.out Tryz.underlying23 rfl IOa.out ?_))
  have I2 := isD_new u0 [oS, dS] 2 23 rfl e2 (by decide)
  rw [hd2] at I2
  have HE1 := Seal.mk (HE0.out.push (.cells (O1 ++ D1).toArray 23))
  have HB1 := Seal.mk (HB0.out.alloc HB0.out.size (.cells (O1 ++ D1).toArray 23))
  refine (rsame_any a1 _ n1 c1 2 2 [oS, dS] [oS, dS] _ (HL.out.of_heap (below_alloc u0 _)) I2).mono ?_
  rintro e u1 ⟨rfl, hb⟩
  rw [show ([oS, dS] == [oS, dS]) = true from by simp]
  have HE2 := Seal.mk (HE1.out.below hb)
  have HB2 := Seal.mk (HB1.out.trans (hb.mono HB1.out.size))
  clear hb HE0 HB0 HE1 HB1 RD RO I2 HL hf1 hf2 hf3
  have RB := Seal.mk (HE2.out.keep (gb, .cells Bd.toArray 27) (by simp))
  go_wp2_with (refine wpList_load_row_g (by rfl) 27 (.tmp 10) rfl gb rfl 27 Bd.toArray (0, 0) _ RB.out Tryz.underlying27 rfl IBa.out ?_)
  refine (HC3.out _ HE2.out.glob).mono ?_
  rintro e u2 ⟨rfl, hb⟩
  have HB3 := Seal.mk (HB2.out.trans (hb.mono HB2.out.size))
  clear hb HE2 HB2 RB
  go_wp2
  go_ret
  exact ⟨rfl, HB3.out⟩

theorem vdTwo : vd 2 = false := by decide +kernel

theorem stC_set {T : Bytes} (hT : T.length = 32) (v E S x : Int) : (stC T v E S).set 32 (.int .i64 x) = stC T x E S := by
  unfold stC
  rw [List.set_append_right 32 _ (by rw [List.length_map, hT]; exact Nat.le_refl _), List.length_map, hT]
  rfl

theorem skB_two (T : Bytes) (v E S : Int) : skB 2 T v E S = false := by
  unfold skB vrB
  rw [show vd 2 = false from vdTwo]
  simp

theorem ssane_any (w : World) (hG : Glob w) : Calls Tryz.prog 5 #[] w fun e w' => e = .returned (.bool true) ∧ Below w.heap.size w w' := by
  obtain ⟨key, r, c, s, E, Sg, I⟩ := issue_plain 5 9 3 4 20 dS (by decide) (by decide) (by decide)
  have hsk : skB key dS 20 E Sg = true := by unfold skB; rw [I.right]; rfl
  have hZ : ∀ T : Bytes, T.length = 32 → (.int .u8 0 :: .int .u8 0 :: .int .u8 0 :: .int .u8 0 :: .int .u8 0 :: .int .u8 0 :: .int .u8 0 :: .int .u8 0 :: .int .u8 0 :: .int .u8 0 :: .int .u8 0 :: .int .u8 0 :: .int .u8 0 :: .int .u8 0 :: .int .u8 0 :: .int .u8 0 :: .int .u8 0 :: .int .u8 0 :: .int .u8 0 :: .int .u8 0 :: .int .u8 0 :: .int .u8 0 :: .int .u8 0 :: .int .u8 0 :: .int .u8 0 :: .int .u8 0 :: .int .u8 0 :: .int .u8 0 :: .int .u8 0 :: .int .u8 0 :: .int .u8 0 :: .int .u8 0 :: .int .i64 0 :: .int .i64 0 :: .int .i64 0 :: [] : List Value).length = (stC T 20 E Sg).length := fun T h => by rw [stC_len h]; rfl
  exact ssane_core key r c s (stC dS 20 E Sg) (stC zb32 0 0 0) w hG ⟨stC_info dS_len⟩ ⟨by rw [List.size_toArray]; exact stC_info dS_len⟩ ⟨hZ dS dS_len⟩ ⟨stC_one _ _ _ _⟩ ⟨stC_info zb32_len⟩ ⟨by rw [stC_len zb32_len]; rfl⟩ ⟨stC_one _ _ _ _⟩
    (stC dS (-1) E Sg) ⟨stC_set dS_len _ _ _ _⟩ ⟨by rw [List.size_toArray]; exact stC_info dS_len⟩ ⟨(stC_head dS_len).text⟩ ⟨by rw [List.getElem?_toArray]; exact (stC_head dS_len).value⟩
    ⟨fun W => public_at 5 key 0 W ⟨I.pub⟩ (by decide) (by decide)⟩
    ⟨fun W h => issued_any 5 9 key r c s E Sg 20 3 4 dS W h dS_len (by decide) (by decide) (by decide) (by decide) (by decide) (by decide) (by decide) (by decide) ⟨I.pub⟩ ⟨I.beg⟩ ⟨I.ask⟩ ⟨I.ans⟩ ⟨I.take⟩⟩
    ⟨fun W h => scheck_any key dS 20 E Sg true W dS_len h ⟨hsk⟩⟩
    ⟨fun W h => scheck_any 2 dS 20 E Sg false W dS_len h ⟨skB_two _ _ _ _⟩⟩
    ⟨fun W h => scheck_any key dS (-1) E Sg false W dS_len h ⟨rfl⟩⟩
    ⟨fun W a n c l' r' x h hi hs => sspend_any a n c l' r' key 20 E Sg x dS W h hi dS_len ⟨by rw [hsk]; exact hs.out⟩⟩
    ⟨fun W a n c l' h hi => sspend_any a n c l' [] 2 20 E Sg 370 dS W h hi dS_len ⟨by rw [skB_two]; rfl⟩⟩
    ⟨fun W h => sask_any 4 4 0 0 0 370 (-1) dS W ⟨rfl⟩ (by decide) (by decide) (by decide) (by decide) h dS_len⟩
    ⟨fun W h => stake_any 4 4 0 0 0 1099511627777 0 0 0 370 dS zb32 W ⟨rfl⟩ (by decide) (by decide) (by decide) (by decide) h dS_len⟩
    ⟨fun W h => stake_any 2 4 0 0 0 5 0 0 0 90 dS zb32 W ⟨by
      have e1 : finishC 2 4 (stT dS 5) 0 0 0 = (0, 0, 90) := by unfold finishC; rw [show vd 2 = false from vdTwo, Bool.false_and, if_neg (by decide)]
      unfold stakeF
      rw [if_pos (by decide), e1, if_neg (by decide)]⟩ (by decide) (by decide) (by decide) (by decide) h dS_len⟩
    ⟨fun W h => sask_any 4 2 0 0 0 90 5 dS W ⟨by unfold saskF askC; rw [if_pos (by decide), show vd 2 = false from vdTwo, Bool.and_false, if_neg (by decide)]⟩ (by decide) (by decide) (by decide) (by decide) h dS_len⟩
theorem exec_store_row {P : Program} {o : Oper} {a : Act} {w : World} (ty : TypeId) (x y : Operand) (ho : o.op = .store ty x y)
    (g : Nat) (cells : Array Value) (hx : a.eval x = .pointer (some ⟨g, 0, none⟩)) (hy : a.eval y = .agg cells)
    (t : TypeId) (old : Array Value) (hg : w.heap[g]? = some (.cells old t (0, 0))) (hi : (P.info? ty).map (·.size) = some cells.size)
    (hold : old.size = cells.size) (h1 : cells.all (·.oneCell') = true) : (execOp a.eval o).run P w = .ok .skip (w.setRow g cells) := by
  unfold execOp
  simp only [ho, hx, hy, Instr.storeAt, Instr.sureAddr, Sem.run_bind, Sem.run_pure, Result.andThen_ok, run_storeVar_row w g t ty old cells hg hi hold h1]

theorem rangeAt_setRow {w : World} {g b off : Nat} {cs : List Value} {ds : Array Value} (h : w.rangeAt b off cs) (hne : b ≠ g) : (w.setRow g ds).rangeAt b off cs :=
  fun j u hu => (cell_setRow_other w g ds ⟨b, off + j, none⟩ hne).trans (h j u hu)

/-- a stretch of a walk, ended by what its slots and its world are -/
def CutQ (F : Nat → Act) (R : Nat → World → Prop) : Exit → Act → World → Prop
  | .normal, a, W => ∃ g, a = F g ∧ R g W
  | _, _, _ => False
theorem wp_cut {P : Program} {c : Code} {Q : Exit → Act → World → Prop} {a : Act} {w : World} (F : Nat → Act) (R : Nat → World → Prop)
    (h : c.wp P (CutQ F R) a w) (hQ : ∀ g W, R g W → Q .normal (F g) W) : c.wp P Q a w :=
  Code.wp_mono (fun e a W hq => by
    cases e with
    | normal => obtain ⟨g, ha, hR⟩ := hq; subst ha; exact hQ g W hR
    | _ => exact hq.elim) h

theorem rnumber13_any (n : Int) (w : World) : Calls Tryz.prog 54 #[.int .i64 n] w fun e w' => e = .returned (.agg #[.int .i64 1, .int .i64 n, .string ByteArray.empty, .slice none 0 0]) ∧ Below w.heap.size w w' := by
  go_enter Tryz.func54, Tryz.ntmps54
  go_wp2
  refine bodyPost_ret (results_cell_row (fn := Tryz.f54) rfl _ _ w.heap.size 71 _ (0, 0) _ rfl (heap_alloc_new w _) Tryz.underlying71 rfl (by kernel_rfl)) rfl ⟨rfl, below_alloc _ _⟩

theorem rlist13_any (a : Option Addr) (n c : Nat) (w : World) : Calls Tryz.prog 52 #[.slice a n c] w fun e w' => e = .returned (.agg #[.int .i64 3, .int .i64 0, .string ByteArray.empty, .slice a n c]) ∧ Below w.heap.size w w' := by
  go_enter Tryz.func52, Tryz.ntmps52
  go_wp2
  refine bodyPost_ret (results_cell_row (fn := Tryz.f52) rfl _ _ w.heap.size 71 _ (0, 0) _ rfl (heap_alloc_new w _) Tryz.underlying71 rfl (by kernel_rfl)) rfl ⟨rfl, below_alloc _ _⟩

set_option maxHeartbeats 2000000 in
theorem rtext13_any (T : Bytes) (w : World) (hT : T.length = 32) : Calls Tryz.prog 53 #[.agg (T.map B).toArray] w fun e w' => e = .returned (.agg #[.int .i64 2, .int .i64 0, .string ⟨T.toArray⟩, .slice none 0 0]) ∧ Below w.heap.size w w' := by
  obtain ⟨Y, hY⟩ : ∃ Y : World, Y = (w.alloc (.cells (T.map B).toArray 23)).alloc (.cells #[.int .i64 0, .int .i64 0, .string ⟨#[]⟩, .slice none 0 0] 71) := ⟨_, rfl⟩
  have hYb : Seal (Below w.heap.size w Y) := ⟨by rw [hY]; exact ((Below.refl _ w).alloc (Nat.le_refl _) _).alloc (by simp) _⟩
  have hYr : Seal (Y.rangeAt w.heap.size 0 (T.map B)) := ⟨rangeAt_row (by rw [hY]; exact heap_alloc2_old w _ _)⟩
  have hYz : Seal (Y.heap[w.heap.size + 1]? = some (.cells #[.int .i64 0, .int .i64 0, .string ⟨#[]⟩, .slice none 0 0] 71 (0, 0))) := ⟨by rw [hY]; exact heap_alloc2_new w _ _⟩
  have hYs : Seal (Y.heap.size = w.heap.size + 2) := ⟨by rw [hY, size_alloc, size_alloc]⟩
  have HT := Seal.mk hT
  clear hT
  go_enter Tryz.func53, Tryz.ntmps53
  go_upto_region 1 with (fail)
  rw [← hY]
  clear hY
  go_wp2
  go_loopw [3, 4] (fun s i wr => ∃ k g c : Nat, k ≤ 32 ∧ s = .slice (some ⟨g, 0, none⟩) k c ∧ i = .int .i64 k ∧ Seal (Stg Y wr g k c (T.take k))) (fun _ i _ => 32 - (intOf i).toNat)
  case atStart => exact ⟨0, Y.heap.size, 0, by omega, rfl, rfl, ⟨stg_new Y [] 0 rfl (by decide)⟩⟩
  case round =>
    obtain ⟨k, g, c, hk, rfl, rfl, hS⟩ := hrel
    by_cases hlt : k < 32
    · have cc : wr.cell? ⟨w.heap.size, k, none⟩ = some (.int .u8 ((T.getD k 0).toNat : Int)) := by
        have := cellB (rangeAt_below' hYr.out hS.out.bel) (i := k) (by rw [HT.out]; exact hlt)
        rwa [Nat.zero_add] at this
      have q1 : (k : Int) < 32 := by omega
      have q2 : (0 : Int) ≤ (k : Int) := by omega
      obtain ⟨b, hb⟩ : ∃ b, b = T.getD k 0 := ⟨_, rfl⟩
      rw [← hb] at cc
      have HTK : Seal (T.take (k + 1) = T.take k ++ [b]) := ⟨by
        rw [hb, List.take_succ_eq_append_getElem (by rw [HT.out]; exact hlt), List.getD_eq_getElem?_getD, List.getElem?_eq_getElem (by rw [HT.out]; exact hlt)]
        rfl⟩
      have hSa : Seal (Stg Y (wr.alloc (.cells #[.int .u8 (b.toNat : Int)] 5)) g k c (T.take k)) := ⟨hS.out.alloc _⟩
      have hI : Seal (IsB (wr.alloc (.cells #[.int .u8 (b.toNat : Int)] 5)) (some ⟨wr.heap.size, 0, none⟩) 1 1 [b]) := ⟨isB_new wr [b] 1 5 (0, 0) rfl (by decide)⟩
      clear hb
      go_wp2_with (at_builtin; refine wpList_append_st rfl (.tmp 10) (.tmp 14) rfl Y g k c (T.take k) (some ⟨wr.heap.size, 0, none⟩) 1 1 [b] rfl rfl hSa hI (by omega) ?_; intro g3 cap3 w3 hS3 _ _; clear hS hSa hI cc)
      go_roundw
      case rel => exact ⟨k + 1, g3, cap3, by omega, rfl, by go_num, ⟨by rw [HTK.out]; exact hS3.out⟩⟩
      case measure => simp [intOf]; omega
    · obtain rfl : k = 32 := by omega
      have hq : ¬ (((32 : Nat) : Int) < 32) := by omega
      rw [List.take_of_length_le (by rw [HT.out]; exact Nat.le_refl _)] at hS
      have hcv := IsB.conv (hS.out.isB (by decide))
      have RZ : Seal (wr.heap[w.heap.size + 1]? = some (.cells #[.int .i64 0, .int .i64 0, .string ⟨#[]⟩, .slice none 0 0] 71 (0, 0))) := ⟨(hS.out.bel.block _ (by rw [hYs.out]; omega)).trans hYz.out⟩
      have HB : Seal (Below w.heap.size w wr) := ⟨hYb.out.trans (hS.out.bel.mono hYb.out.size)⟩
      have i4 : (Tryz.prog.info? 71).map (·.size) = some (#[Value.int .i64 2, .int .i64 0, .string ⟨T.toArray⟩, .slice none 0 0]).size := by kernel_rfl
      have a4 : (#[Value.int .i64 2, .int .i64 0, .string ⟨T.toArray⟩, .slice none 0 0]).all (·.oneCell') = true := by simp [Value.oneCell']
      rw [show ((32 : Nat) : Int) = 32 from rfl]
      clear hS
      go_wp2_with (refine wpList_store_row rfl 71 (.tmp 2) (.tmp 18) rfl (w.heap.size + 1) #[.int .i64 2, .int .i64 0, .string ⟨T.toArray⟩, .slice none 0 0] rfl rfl 71 #[.int .i64 0, .int .i64 0, .string ⟨#[]⟩, .slice none 0 0] RZ.out i4 rfl a4 ?_)
      refine bodyPost_ret (results_cell_row (fn := Tryz.f53) rfl _ _ (w.heap.size + 1) 71 #[.int .i64 2, .int .i64 0, .string ⟨T.toArray⟩, .slice none 0 0] (0, 0) _ rfl (setRow_heap _ _ _ _ _ _ RZ.out) Tryz.underlying71 rfl i4) rfl ⟨rfl, below_row HB.out (Nat.le_add_right _ _) _⟩

set_option maxHeartbeats 1000000 in
theorem rtext37_any (T : Bytes) (v : Int) (w : World) (hT : T.length = 32) (v1 : -9223372036854775808 ≤ v) (v2 : v ≤ 9223372036854775807) :
    Calls Tryz.prog 25 #[.agg (T.map B).toArray, .int .i64 v] w (ListPost (stT T v) w) := by
  obtain ⟨TC, hTC⟩ : ∃ TC, TC = T.map B := ⟨_, rfl⟩
  have HC1 : Seal (∀ W, Calls Tryz.prog 53 #[.agg TC.toArray] W fun e w' => e = .returned (.agg #[.int .i64 2, .int .i64 0, .string ⟨T.toArray⟩, .slice none 0 0]) ∧ Below W.heap.size W w') := ⟨fun W => by rw [hTC]; exact rtext13_any T W hT⟩
  have IT : Seal ((Tryz.prog.info? 23).map (·.size) = some TC.toArray.size) := ⟨by rw [hTC, List.size_toArray]; exact dg_info T hT⟩
  have HT := Seal.mk hT
  have HV := Seal.mk (And.intro v1 v2)
  obtain ⟨X, hX⟩ : ∃ X : World, X = w.alloc (.cells TC.toArray 23) := ⟨_, rfl⟩
  have hXb : Seal (Below w.heap.size w X) := ⟨by rw [hX]; exact below_alloc _ _⟩
  have hXn : Seal (X.heap[w.heap.size]? = some (.cells TC.toArray 23 (0, 0))) := ⟨by rw [hX]; exact heap_alloc_new w _⟩
  rw [← hTC]
  clear hT hTC v1 v2
  go_enter Tryz.func25, Tryz.ntmps25
  go_upto_region 1 with (fail)
  rw [← hX]
  clear hX
  go_wp2_with (refine wpList_load_row rfl 23 (.tmp 2) rfl w.heap.size rfl 23 TC.toArray (0, 0) _ hXn.out Tryz.underlying23 rfl IT.out ?_)
  refine (HC1.out _).mono ?_
  rintro e w1 ⟨rfl, hb⟩
  have HB1 : Seal (Below w.heap.size w w1) := ⟨hXb.out.trans (hb.mono hXb.out.size)⟩
  clear hb
  go_wp2_with fail
  refine (rnumber13_any v w1).mono ?_
  rintro e w2 ⟨rfl, hb⟩
  have HB2 : Seal (Below w.heap.size w w2) := ⟨HB1.out.trans (hb.mono HB1.out.size)⟩
  clear hb
  have HL : Seal (LeavesAt (w2.alloc (.cells #[.int .i64 2, .int .i64 0, .string ⟨T.toArray⟩, .slice none 0 0, .int .i64 1, .int .i64 v, .string ByteArray.empty, .slice none 0 0] 71)) w2.heap.size 0 [.t T, .i v]) := ⟨leavesAt_new w2 [.t T, .i v] (0, 0) _⟩
  go_wp2_with fail
  refine (rlist13_any _ _ _ _).mono ?_
  rintro e w3 ⟨rfl, hb⟩
  have HL3 : Seal (LeavesAt w3 w2.heap.size 0 [.t T, .i v] ∧ w2.heap.size < w3.heap.size) := ⟨HL.out.below hb (by rw [size_alloc]; omega), by have := hb.size; rw [size_alloc] at this; omega⟩
  have HB3 : Seal (Below w.heap.size w w3) := ⟨(HB2.out.alloc HB2.out.size _).trans (hb.mono (by rw [size_alloc]; have := HB2.out.size; omega))⟩
  clear hb HL
  have HE : Seal _ := ⟨rencode_any w2.heap.size 0 2 2 [.t T, .i v] w3 rfl (Nat.le_refl _) (by simp [wgts, Lf.wgt, HT.out]) HL3.out.1 HL3.out.2 (fun y hy => by
    simp only [List.mem_cons, List.not_mem_nil, or_false] at hy
    rcases hy with rfl | rfl
    · show T.length < 2 ^ 63; rw [HT.out]; decide
    · exact HV.out)⟩
  go_wp2_with fail
  refine HE.out.mono ?_
  rintro e w4 ⟨g', n', c', rfl, hS⟩
  have hlen := stT_length (v := v) HT.out
  unfold stT at hlen
  have hIB := hS.out.isB (by rw [← hS.out.len]; omega)
  have HF : Seal ((encL [.t T, .i v]).length = n' ∧ n' ≤ c' ∧ c' ≤ 9223372036854775807 ∧ Below w.heap.size w w4) := ⟨hS.out.len, hIB.lcap, hIB.cmax, HB3.out.trans (hS.out.bel.mono HB3.out.size)⟩
  have HA : Seal (g' < w4.heap.size ∧ w4.rangeAt g' 0 ((encL [.t T, .i v]).map B)) := ⟨by
    rcases hIB.at_ with h0 | ⟨g0, o0, e, hr, hg⟩
    · exfalso
      have h1 := hS.out.len
      rw [h0] at h1
      simp [encL] at h1
    · cases e
      exact ⟨hg, hr⟩⟩
  clear HE hS hIB hlen
  go_wp2
  go_ret
  exact ⟨g', n', c', ⟨HF.out.1⟩, rfl, ⟨HF.out.2.1, HF.out.2.2.1, HA.out.1, HA.out.2, HF.out.2.2.2⟩⟩

theorem fold_sg {E S : Int} {T : Bytes} {v : Int} (hT : T.length = 32) : ((stC T v 0 0).set 33 (.int .i64 E)).set 34 (.int .i64 S) = stC T v E S := by
  have hm : (T.map B).length = 32 := by rw [List.length_map, hT]
  unfold stC
  rw [List.set_append_right 33 _ (by omega), hm, List.set_append_right 34 _ (by omega), hm]
  rfl

theorem rvalue37_any (v : Int) (t : Bool) (w : World) (ht : fitB v = t) :
    Calls Tryz.prog 23 #[.int .i64 v] w fun e w' => e = .returned (.bool t) ∧ w = w' := by
  unfold fitB at ht
  have HT := Seal.mk ht
  clear ht
  by_cases h0 : 0 ≤ v
  · by_cases h1 : v ≤ 1099511627776
    · have HF : Seal (t = true) := ⟨by rw [← HT.out, decide_eq_true h0, decide_eq_true h1]; rfl⟩
      go_enter Tryz.func23, Tryz.ntmps23
      go_wp2
      go_ret
      exact ⟨ret_bool HF.out.symm, rfl⟩
    · have HF : Seal (t = false) := ⟨by rw [← HT.out, decide_eq_false h1]; simp⟩
      go_enter Tryz.func23, Tryz.ntmps23
      go_wp2
      go_ret
      exact ⟨ret_bool HF.out.symm, rfl⟩
  · have HF : Seal (t = false) := ⟨by rw [← HT.out, decide_eq_false h0]; simp⟩
    go_enter Tryz.func23, Tryz.ntmps23
    go_wp2
    go_ret
    exact ⟨ret_bool HF.out.symm, rfl⟩

set_option maxHeartbeats 1000000 in
theorem rcheck37_no (key : Int) (T : Bytes) (v E S : Int) (w : World) (hT : T.length = 32) (ht : fitB v = false) :
    Calls Tryz.prog 11 #[.int .i64 key, .agg (stC T v E S).toArray] w fun e w' => e = .returned (.bool false) ∧ Below w.heap.size w w' := by
  obtain ⟨C, hC⟩ : ∃ C, C = stC T v E S := ⟨_, rfl⟩
  obtain ⟨TC, hTC⟩ : ∃ TC, TC = T.map B := ⟨_, rfl⟩
  have cT : TC.length = 32 := by rw [hTC, List.length_map, hT]
  have iT : (Tryz.prog.info? 23).map (·.size) = some TC.length := by rw [cT]; kernel_rfl
  have uT := Tryz.underlying23
  have iS : (Tryz.prog.info? 25).map (·.size) = some [Value.int .i64 E, .int .i64 S].length := by kernel_rfl
  have uS := Tryz.underlying25
  obtain ⟨X, hX⟩ : ∃ X : World, X = w.alloc (.cells C.toArray 27) := ⟨_, rfl⟩
  have hXb : Seal (Below w.heap.size w X) := ⟨by rw [hX]; exact below_alloc _ _⟩
  have hXn : X.heap[w.heap.size]? = some (.cells C.toArray 27 (0, 0)) := by rw [hX]; exact heap_alloc_new w _
  have rT : X.rangeAt w.heap.size 0 TC := by
    have := rangeAt_take (rangeAt_row hXn) 32
    rw [hC, (stC_head hT).text, ← hTC] at this
    exact this
  have rV : X.cell? ⟨w.heap.size, 32, none⟩ = some (.int .i64 v) := by rw [cell_of_row _ _ _ _ _ _ hXn, hC]; simpa using (stC_head (E := E) (S := S) hT).value
  have rS : X.rangeAt w.heap.size 33 [.int .i64 E, .int .i64 S] := by
    have := rangeAt_drop (rangeAt_row hXn) 33
    rw [hC] at this
    have e : (stC T v E S).drop 33 = [.int .i64 E, .int .i64 S] := by
      unfold stC
      rw [List.drop_append, List.drop_of_length_le (by rw [List.length_map, hT]; decide), List.length_map, hT]
      rfl
    rw [e] at this
    simpa using this
  rw [← hC]
  clear hXn hC
  go_enter Tryz.func11, Tryz.ntmps11
  go_upto_region 1 with (fail)
  rw [← hX]
  clear hX
  refine wp_region_held_drew (S := fun w' => w'.rangeAt w.heap.size 0 TC ∧ w'.cell? ⟨w.heap.size, 32, none⟩ = some (.int .i64 v) ∧ w'.rangeAt w.heap.size 33 [.int .i64 E, .int .i64 S]) (by kernel_rfl) ⟨rT, rV, rS⟩ (fun hHeld => ?_)
  refine take_h 0 ?_ rfl (by kernel_rfl) (by kernel_rfl) (by kernel_rfl) (fun _ _ _ h => h) (Or.inl ⟨by kernel_rfl, ?_⟩) (by assumption) ?_
  rotate_left
  · (intro w hSw; (try dsimp only at hSw); go_simp; try (with_reducible rfl))
  try simp only [Act.put, List.setIfInBounds_toArray, List.set_cons_zero, List.set_cons_succ]
  refine take_h 1 ?_ rfl (by kernel_rfl) (by kernel_rfl) (by kernel_rfl) (fun _ _ _ h => h) (Or.inl ⟨by kernel_rfl, ?_⟩) (by assumption) ?_
  rotate_left
  · (intro w hSw; (try dsimp only at hSw); go_simp; try (with_reducible rfl))
  try simp only [Act.put, List.setIfInBounds_toArray, List.set_cons_zero, List.set_cons_succ]
  refine call_h 2 rfl (by kernel_rfl) 23 #[.int .i64 v] (by kernel_rfl) (by go_simp) ?_
  refine (rvalue37_any v _ X.drew ht).mono ?_
  rintro e w1 ⟨rfl, rfl⟩
  refine ⟨_, rfl, hHeld, fun hHeld2 => ?_⟩
  have HB1 : Seal (Below w.heap.size w X.drew) := ⟨hXb.out.os, hXb.out.tape, hXb.out.output, hXb.out.size, hXb.out.block⟩
  have rT1 := hHeld2.1
  have rV1 := hHeld2.2.1
  have rS1 := hHeld2.2.2
  obtain ⟨w1, hw1⟩ : ∃ w1, w1 = X.drew := ⟨_, rfl⟩
  rw [← hw1] at HB1 rT1 rV1 rS1 hHeld2 ⊢
  clear hHeld rT rV rS hw1
  try simp only [Act.put, List.setIfInBounds_toArray, List.set_cons_zero, List.set_cons_succ]
  refine take_h 3 ?_ rfl (by kernel_rfl) (by kernel_rfl) (by kernel_rfl) (fun _ _ _ h => h) (Or.inl ⟨by kernel_rfl, ?_⟩) (by assumption) ?_
  rotate_left
  · (intro w hSw; (try dsimp only at hSw); go_simp; try (with_reducible rfl))
  try simp only [Act.put, List.setIfInBounds_toArray, List.set_cons_zero, List.set_cons_succ]
  refine take_h 4 undef rfl (by kernel_rfl) (by kernel_rfl) (by kernel_rfl) (fun _ _ _ h => h) (Or.inr ⟨by kernel_rfl, rfl⟩) (by assumption) ?_
  try simp only [Act.put, List.setIfInBounds_toArray, List.set_cons_zero, List.set_cons_succ]
  refine take_h 5 undef rfl (by kernel_rfl) (by kernel_rfl) (by kernel_rfl) (fun _ _ _ h => h) (Or.inr ⟨by kernel_rfl, rfl⟩) (by assumption) ?_
  try simp only [Act.put, List.setIfInBounds_toArray, List.set_cons_zero, List.set_cons_succ]
  refine take_h 6 undef rfl (by kernel_rfl) (by kernel_rfl) (by kernel_rfl) (fun _ _ _ h => h) (Or.inr ⟨by kernel_rfl, rfl⟩) (by assumption) ?_
  try simp only [Act.put, List.setIfInBounds_toArray, List.set_cons_zero, List.set_cons_succ]
  refine take_h 7 undef rfl (by kernel_rfl) (by kernel_rfl) (by kernel_rfl) (fun _ _ _ h => h) (Or.inr ⟨by kernel_rfl, rfl⟩) (by assumption) ?_
  try simp only [Act.put, List.setIfInBounds_toArray, List.set_cons_zero, List.set_cons_succ]
  refine take_h 8 undef rfl (by kernel_rfl) (by kernel_rfl) (by kernel_rfl) (fun _ _ _ h => h) (Or.inr ⟨by kernel_rfl, rfl⟩) (by assumption) ?_
  try simp only [Act.put, List.setIfInBounds_toArray, List.set_cons_zero, List.set_cons_succ]
  refine take_h 9 undef rfl (by kernel_rfl) (by kernel_rfl) (by kernel_rfl) (fun _ _ _ h => h) (Or.inr ⟨by kernel_rfl, rfl⟩) (by assumption) ?_
  try simp only [Act.put, List.setIfInBounds_toArray, List.set_cons_zero, List.set_cons_succ]
  refine take_h 10 undef rfl (by kernel_rfl) (by kernel_rfl) (by kernel_rfl) (fun _ _ _ h => h) (Or.inr ⟨by kernel_rfl, rfl⟩) (by assumption) ?_
  try simp only [Act.put, List.setIfInBounds_toArray, List.set_cons_zero, List.set_cons_succ]
  refine take_h 11 undef rfl (by kernel_rfl) (by kernel_rfl) (by kernel_rfl) (fun _ _ _ h => h) (Or.inr ⟨by kernel_rfl, rfl⟩) (by assumption) ?_
  try simp only [Act.put, List.setIfInBounds_toArray, List.set_cons_zero, List.set_cons_succ]
  refine take_h 12 undef rfl (by kernel_rfl) (by kernel_rfl) (by kernel_rfl) (fun _ _ _ h => h) (Or.inr ⟨by kernel_rfl, rfl⟩) (by assumption) ?_
  try simp only [Act.put, List.setIfInBounds_toArray, List.set_cons_zero, List.set_cons_succ]
  refine take_h 13 ?_ rfl (by kernel_rfl) (by kernel_rfl) (by kernel_rfl) (fun _ _ _ h => h) (Or.inl ⟨by kernel_rfl, ?_⟩) (by assumption) ?_
  rotate_left
  · (intro w hSw; (try dsimp only at hSw); go_simp; try (with_reducible rfl))
  try simp only [Act.put, List.setIfInBounds_toArray, List.set_cons_zero, List.set_cons_succ]
  refine take_h 14 ?_ rfl (by kernel_rfl) (by kernel_rfl) (by kernel_rfl) (fun _ _ _ h => h) (Or.inl ⟨by kernel_rfl, ?_⟩) (by assumption) ?_
  rotate_left
  · (intro w hSw; (try dsimp only at hSw); go_simp; try (with_reducible rfl))
  try simp only [Act.put, List.setIfInBounds_toArray, List.set_cons_zero, List.set_cons_succ]
  refine wpAnyH_done (by kernel_rfl) ?_ _
  clear hHeld2 rT1 rV1 rS1
  go_wp2
  go_ret
  exact ⟨rfl, HB1.out⟩

set_option maxHeartbeats 2000000 in
theorem rcheck37_yes (key : Int) (T : Bytes) (v E S : Int) (t : Bool) (w : World) (hT : T.length = 32) (ht : fitB v = true) (hv : Seal (vrB key (stT T v) E S = t)) :
    Calls Tryz.prog 11 #[.int .i64 key, .agg (stC T v E S).toArray] w fun e w' => e = .returned (.bool t) ∧ Below w.heap.size w w' := by
  have HT := Seal.mk hT
  have hv1 : -9223372036854775808 ≤ v ∧ v ≤ 9223372036854775807 := by
    unfold fitB at ht
    simp at ht
    omega
  have HTx : Seal (∀ W, Calls Tryz.prog 25 #[.agg (T.map B).toArray, .int .i64 v] W (ListPost (stT T v) W)) := ⟨fun W => rtext37_any T v W hT hv1.1 hv1.2⟩
  clear hv1
  obtain ⟨C, hC⟩ : ∃ C, C = stC T v E S := ⟨_, rfl⟩
  obtain ⟨TC, hTC⟩ : ∃ TC, TC = T.map B := ⟨_, rfl⟩
  have cT : TC.length = 32 := by rw [hTC, List.length_map, hT]
  have iT : (Tryz.prog.info? 23).map (·.size) = some TC.length := by rw [cT]; kernel_rfl
  have uT := Tryz.underlying23
  have iS : (Tryz.prog.info? 25).map (·.size) = some [Value.int .i64 E, .int .i64 S].length := by kernel_rfl
  have uS := Tryz.underlying25
  obtain ⟨X, hX⟩ : ∃ X : World, X = w.alloc (.cells C.toArray 27) := ⟨_, rfl⟩
  have hXb : Seal (Below w.heap.size w X) := ⟨by rw [hX]; exact below_alloc _ _⟩
  have hXn : X.heap[w.heap.size]? = some (.cells C.toArray 27 (0, 0)) := by rw [hX]; exact heap_alloc_new w _
  have rT : X.rangeAt w.heap.size 0 TC := by
    have := rangeAt_take (rangeAt_row hXn) 32
    rw [hC, (stC_head hT).text, ← hTC] at this
    exact this
  have rV : X.cell? ⟨w.heap.size, 32, none⟩ = some (.int .i64 v) := by rw [cell_of_row _ _ _ _ _ _ hXn, hC]; simpa using (stC_head (E := E) (S := S) hT).value
  have rS : X.rangeAt w.heap.size 33 [.int .i64 E, .int .i64 S] := by
    have := rangeAt_drop (rangeAt_row hXn) 33
    rw [hC] at this
    have e : (stC T v E S).drop 33 = [.int .i64 E, .int .i64 S] := by
      unfold stC
      rw [List.drop_append, List.drop_of_length_le (by rw [List.length_map, hT]; decide), List.length_map, hT]
      rfl
    rw [e] at this
    simpa using this
  rw [← hC]
  clear hXn hC
  go_enter Tryz.func11, Tryz.ntmps11
  go_upto_region 1 with (fail)
  rw [← hX]
  clear hX
  refine wp_region_held_drew (S := fun w' => w'.rangeAt w.heap.size 0 TC ∧ w'.cell? ⟨w.heap.size, 32, none⟩ = some (.int .i64 v) ∧ w'.rangeAt w.heap.size 33 [.int .i64 E, .int .i64 S]) (by kernel_rfl) ⟨rT, rV, rS⟩ (fun hHeld => ?_)
  refine take_h 0 ?_ rfl (by kernel_rfl) (by kernel_rfl) (by kernel_rfl) (fun _ _ _ h => h) (Or.inl ⟨by kernel_rfl, ?_⟩) (by assumption) ?_
  rotate_left
  · (intro w hSw; (try dsimp only at hSw); go_simp; try (with_reducible rfl))
  try simp only [Act.put, List.setIfInBounds_toArray, List.set_cons_zero, List.set_cons_succ]
  refine take_h 1 ?_ rfl (by kernel_rfl) (by kernel_rfl) (by kernel_rfl) (fun _ _ _ h => h) (Or.inl ⟨by kernel_rfl, ?_⟩) (by assumption) ?_
  rotate_left
  · (intro w hSw; (try dsimp only at hSw); go_simp; try (with_reducible rfl))
  try simp only [Act.put, List.setIfInBounds_toArray, List.set_cons_zero, List.set_cons_succ]
  refine call_h 2 rfl (by kernel_rfl) 23 #[.int .i64 v] (by kernel_rfl) (by go_simp) ?_
  refine (rvalue37_any v _ X.drew ht).mono ?_
  rintro e w1 ⟨rfl, rfl⟩
  refine ⟨_, rfl, hHeld, fun hHeld2 => ?_⟩
  have HB1 : Seal (Below w.heap.size w X.drew) := ⟨hXb.out.os, hXb.out.tape, hXb.out.output, hXb.out.size, hXb.out.block⟩
  have rT1 := hHeld2.1
  have rV1 := hHeld2.2.1
  have rS1 := hHeld2.2.2
  obtain ⟨w1, hw1⟩ : ∃ w1, w1 = X.drew := ⟨_, rfl⟩
  rw [← hw1] at HB1 rT1 rV1 rS1 hHeld2 ⊢
  clear hHeld rT rV rS hw1
  try simp only [Act.put, List.setIfInBounds_toArray, List.set_cons_zero, List.set_cons_succ]
  rw [← hTC] at HTx
  refine take_h 3 ?_ rfl (by kernel_rfl) (by kernel_rfl) (by kernel_rfl) (fun _ _ _ h => h) (Or.inl ⟨by kernel_rfl, ?_⟩) (by assumption) ?_
  rotate_left
  · (intro w hSw; (try dsimp only at hSw); go_simp; try (with_reducible rfl))
  try simp only [Act.put, List.setIfInBounds_toArray, List.set_cons_zero, List.set_cons_succ]
  refine take_h 4 ?_ rfl (by kernel_rfl) (by kernel_rfl) (by kernel_rfl) (fun _ _ _ h => h) (Or.inl ⟨by kernel_rfl, ?_⟩) (by assumption) ?_
  rotate_left
  · (intro w hSw; (try dsimp only at hSw); go_simp; try (with_reducible rfl))
  try simp only [Act.put, List.setIfInBounds_toArray, List.set_cons_zero, List.set_cons_succ]
  refine take_h 5 ?_ rfl (by kernel_rfl) (by kernel_rfl) (by kernel_rfl) (fun _ _ _ h => h) (Or.inl ⟨by kernel_rfl, ?_⟩) (by assumption) ?_
  rotate_left
  · (intro w hSw; (try dsimp only at hSw); go_simp; try (with_reducible rfl))
  try simp only [Act.put, List.setIfInBounds_toArray, List.set_cons_zero, List.set_cons_succ]
  refine take_h 6 _ rfl (by kernel_rfl) (by kernel_rfl) (by kernel_rfl) (fun _ _ _ h => h) (yieldsIf_load_mid (by kernel_rfl) 23 (.tmp 10) rfl w.heap.size 0 rfl TC _ (fun w hSw => hSw.1) uT rfl iT) (by assumption) ?_
  try simp only [Act.put, List.setIfInBounds_toArray, List.set_cons_zero, List.set_cons_succ]
  refine take_h 7 ?_ rfl (by kernel_rfl) (by kernel_rfl) (by kernel_rfl) (fun _ _ _ h => h) (Or.inl ⟨by kernel_rfl, ?_⟩) (by assumption) ?_
  rotate_left
  · (intro w hSw; (try dsimp only at hSw); go_simp; try (with_reducible rfl))
  try simp only [Act.put, List.setIfInBounds_toArray, List.set_cons_zero, List.set_cons_succ]
  refine take_h 8 ?_ rfl (by kernel_rfl) (by kernel_rfl) (by kernel_rfl) (fun _ _ _ h => h) (Or.inl ⟨by kernel_rfl, ?_⟩) (by assumption) ?_
  rotate_left
  · (intro w hSw; (try dsimp only at hSw); go_simp; try (with_reducible rfl))
  try simp only [Act.put, List.setIfInBounds_toArray, List.set_cons_zero, List.set_cons_succ]
  refine take_h 10 ?_ rfl (by kernel_rfl) (by kernel_rfl) (by kernel_rfl) (fun _ _ _ h => h) (Or.inl ⟨by kernel_rfl, ?_⟩) (by assumption) ?_
  rotate_left
  · (intro w hSw; (try dsimp only at hSw); go_simp; try (with_reducible rfl))
  try simp only [Act.put, List.setIfInBounds_toArray, List.set_cons_zero, List.set_cons_succ]
  refine take_h 11 _ rfl (by kernel_rfl) (by kernel_rfl) (by kernel_rfl) (fun _ _ _ h => h) (yieldsIf_load_mid (by kernel_rfl) 25 (.tmp 15) rfl w.heap.size 33 rfl [.int .i64 E, .int .i64 S] _ (fun w hSw => hSw.2.2) uS rfl iS) (by assumption) ?_
  try simp only [Act.put, List.setIfInBounds_toArray, List.set_cons_zero, List.set_cons_succ]
  refine call_h 9 rfl (by kernel_rfl) 25 #[.agg TC.toArray, .int .i64 v] (by kernel_rfl) (by go_simp) ?_
  refine (HTx.out w1).mono ?_
  rintro e w2 ⟨g', n', c', hn, rfl, hf⟩
  have hb2 := hf.out.2.2.2.2
  have HB2 : Seal (Below w.heap.size w w2) := ⟨HB1.out.trans (hb2.mono HB1.out.size)⟩
  refine ⟨_, rfl, ⟨rangeAt_below' rT1 hb2, cell_below' hb2 rV1, rangeAt_below' rS1 hb2⟩, fun hHeld3 => ?_⟩
  have hlen := stT_length (v := v) HT.out
  have hIB : IsB w2 (some ⟨g', 0, none⟩) n' c' (stT T v) := ⟨hn.out, hf.out.1, by rw [← hn.out]; omega, hf.out.2.1, .inr ⟨g', 0, rfl, hf.out.2.2.2.1, hf.out.2.2.1⟩⟩
  have HVC : Seal _ := ⟨rverify_any key E S (some ⟨g', 0, none⟩) n' c' (stT T v) w2 hIB (by rw [← hn.out]; omega)⟩
  have rT2 := hHeld3.1
  have rV2 := hHeld3.2.1
  have rS2 := hHeld3.2.2
  clear hHeld2 hb2 hlen hIB rT1 rV1 rS1
  try simp only [Act.put, List.setIfInBounds_toArray, List.set_cons_zero, List.set_cons_succ]
  refine call_h 12 rfl (by kernel_rfl) 30 #[.int .i64 key, .slice (some ⟨g', 0, none⟩) n' c', .agg #[.int .i64 E, .int .i64 S]] (by kernel_rfl) (by go_simp) ?_
  refine HVC.out.mono ?_
  rw [hv.out]
  rintro e w3 ⟨rfl, hb3⟩
  have HB3 : Seal (Below w.heap.size w w3) := ⟨HB2.out.trans (hb3.mono HB2.out.size)⟩
  refine ⟨_, rfl, ⟨rangeAt_below' rT2 hb3, cell_below' hb3 rV2, rangeAt_below' rS2 hb3⟩, fun hHeld4 => ?_⟩
  clear hHeld3 hb3 rT2 rV2 rS2 HVC
  try simp only [Act.put, List.setIfInBounds_toArray, List.set_cons_zero, List.set_cons_succ]
  refine take_h 13 ?_ rfl (by kernel_rfl) (by kernel_rfl) (by kernel_rfl) (fun _ _ _ h => h) (Or.inl ⟨by kernel_rfl, ?_⟩) (by assumption) ?_
  rotate_left
  · (intro w hSw; (try dsimp only at hSw); go_simp; try (with_reducible rfl))
  try simp only [Act.put, List.setIfInBounds_toArray, List.set_cons_zero, List.set_cons_succ]
  refine take_h 14 ?_ rfl (by kernel_rfl) (by kernel_rfl) (by kernel_rfl) (fun _ _ _ h => h) (Or.inl ⟨by kernel_rfl, ?_⟩) (by assumption) ?_
  rotate_left
  · (intro w hSw; (try dsimp only at hSw); go_simp; try (with_reducible rfl))
  try simp only [Act.put, List.setIfInBounds_toArray, List.set_cons_zero, List.set_cons_succ]
  refine wpAnyH_done (by kernel_rfl) ?_ _
  clear hHeld4
  go_wp2
  go_ret
  exact ⟨rfl, HB3.out⟩

theorem rcheck37_any (key : Int) (T : Bytes) (v E S : Int) (t : Bool) (w : World) (hT : T.length = 32) (hv : Seal (skB key T v E S = t)) :
    Calls Tryz.prog 11 #[.int .i64 key, .agg (stC T v E S).toArray] w fun e w' => e = .returned (.bool t) ∧ Below w.heap.size w w' := by
  have hv' := hv.out
  unfold skB at hv'
  cases ht : fitB v with
  | false =>
    rw [ht, Bool.false_and] at hv'
    subst hv'
    exact rcheck37_no key T v E S w hT ht
  | true =>
    rw [ht, Bool.true_and] at hv'
    exact rcheck37_yes key T v E S t w hT ht ⟨hv'⟩

set_option maxHeartbeats 1000000 in
theorem rask37_no (key r u v val : Int) (T : Bytes) (w : World) (ht : fitB val = false) :
    Calls Tryz.prog 7 #[.int .i64 key, .int .i64 r, .agg (T.map B).toArray, .int .i64 val, .int .i64 u, .int .i64 v] w fun e w' => e = .returned (.tuple #[.int .i64 0, .int .i64 370]) ∧ Below w.heap.size w w' := by
  obtain ⟨TC, hTC⟩ : ∃ TC, TC = T.map B := ⟨_, rfl⟩
  obtain ⟨X, hX⟩ : ∃ X : World, X = w.alloc (.cells TC.toArray 23) := ⟨_, rfl⟩
  have hXb : Seal (Below w.heap.size w X) := ⟨by rw [hX]; exact below_alloc _ _⟩
  have hXn : Seal (X.heap[w.heap.size]? = some (.cells TC.toArray 23 (0, 0))) := ⟨by rw [hX]; exact heap_alloc_new w _⟩
  rw [← hTC]
  clear hTC hXn
  go_enter Tryz.func7, Tryz.ntmps7
  go_upto_region 1 with (fail)
  rw [← hX]
  clear hX
  go_wp2_with fail
  refine (rvalue37_any val _ X ht).mono ?_
  rintro e w1 ⟨rfl, rfl⟩
  go_wp2
  go_ret2
  exact ⟨rfl, hXb.out⟩

set_option maxHeartbeats 1000000 in
theorem rask37_yes (key r u v d e0 val : Int) (T : Bytes) (w : World) (h : Seal (askC key r (stT T val) u v = (d, e0))) (hT : T.length = 32) (ht : fitB val = true) :
    Calls Tryz.prog 7 #[.int .i64 key, .int .i64 r, .agg (T.map B).toArray, .int .i64 val, .int .i64 u, .int .i64 v] w fun e w' => e = .returned (.tuple #[.int .i64 d, .int .i64 e0]) ∧ Below w.heap.size w w' := by
  have hv1 : -9223372036854775808 ≤ val ∧ val ≤ 9223372036854775807 := by
    unfold fitB at ht
    simp at ht
    omega
  have HTx : Seal (∀ W, Calls Tryz.prog 25 #[.agg (T.map B).toArray, .int .i64 val] W (ListPost (stT T val) W)) := ⟨fun W => rtext37_any T val W hT hv1.1 hv1.2⟩
  have HSL : Seal ((stT T val).length ≤ 65) := ⟨stT_length hT⟩
  clear hv1
  obtain ⟨TC, hTC⟩ : ∃ TC, TC = T.map B := ⟨_, rfl⟩
  obtain ⟨X, hX⟩ : ∃ X : World, X = w.alloc (.cells TC.toArray 23) := ⟨_, rfl⟩
  have hXb : Seal (Below w.heap.size w X) := ⟨by rw [hX]; exact below_alloc _ _⟩
  have hXn : Seal (X.heap[w.heap.size]? = some (.cells TC.toArray 23 (0, 0))) := ⟨by rw [hX]; exact heap_alloc_new w _⟩
  have IT : Seal ((Tryz.prog.info? 23).map (·.size) = some TC.toArray.size) := ⟨by rw [hTC, List.size_toArray]; exact dg_info T hT⟩
  rw [← hTC] at HTx ⊢
  clear hTC hT
  go_enter Tryz.func7, Tryz.ntmps7
  go_upto_region 1 with (fail)
  rw [← hX]
  clear hX
  go_wp2_with fail
  refine (rvalue37_any val _ X ht).mono ?_
  rintro e w1 ⟨rfl, rfl⟩
  go_wp2_with (refine wpList_load_row rfl 23 (.tmp 8) rfl w.heap.size rfl 23 TC.toArray (0, 0) _ hXn.out Tryz.underlying23 rfl IT.out ?_)
  refine (HTx.out X).mono ?_
  rintro e w1 ⟨g', n', c', hn, rfl, hf⟩
  have hb1 := hf.out.2.2.2.2
  have HIB : Seal (IsB w1 (some ⟨g', 0, none⟩) n' c' (stT T val) ∧ n' ≤ 1099511627776) := ⟨⟨hn.out, hf.out.1, by rw [← hn.out]; have := HSL.out; omega, hf.out.2.1, .inr ⟨g', 0, rfl, hf.out.2.2.2.1, hf.out.2.2.1⟩⟩, by rw [← hn.out]; have := HSL.out; omega⟩
  have HB1 : Seal (Below w.heap.size w w1) := ⟨hXb.out.trans (hb1.mono hXb.out.size)⟩
  clear hf hb1
  go_wp2_with fail
  refine (rask_at key r u v d e0 _ n' c' (stT T val) w1 h HIB.out.1 HIB.out.2).mono ?_
  rintro e w2 ⟨rfl, hb2⟩
  have HB2 : Seal (Below w.heap.size w w2) := ⟨HB1.out.trans (hb2.mono HB1.out.size)⟩
  clear hb2
  go_wp2
  go_ret2
  exact ⟨rfl, HB2.out⟩

theorem rask37_any (key r u v d e0 val : Int) (T : Bytes) (w : World) (h : Seal (saskF key r T val u v = (d, e0))) (hT : T.length = 32) :
    Calls Tryz.prog 7 #[.int .i64 key, .int .i64 r, .agg (T.map B).toArray, .int .i64 val, .int .i64 u, .int .i64 v] w fun e w' => e = .returned (.tuple #[.int .i64 d, .int .i64 e0]) ∧ Below w.heap.size w w' := by
  have h' := h.out
  unfold saskF at h'
  cases ht : fitB val with
  | false =>
    rw [ht, if_neg (by decide)] at h'
    obtain ⟨rfl, rfl⟩ := Prod.mk.inj h'
    exact rask37_no key r u v val T w ht
  | true =>
    rw [ht, if_pos rfl] at h'
    exact rask37_yes key r u v d e0 val T w ⟨h'⟩ hT ht

set_option maxHeartbeats 1000000 in
theorem rspend37_wrong (a : Option Addr) (len cap : Nat) (l : List Bytes) (key v E S : Int) (T : Bytes) (t : Bool) (w : World) (hd : IsD w a len cap l) (HA : Seal (cap = 0 ∨ ∃ g off, a = some ⟨g, off, none⟩)) (hT : T.length = 32) (ht : skB key T v E S = t) (h0 : t = false)  :
    Calls Tryz.prog 14 #[.slice a len cap, .int .i64 key, .agg (stC T v E S).toArray] w (DigPost [] 370 w) := by
  have _ := HA
  obtain ⟨C, hC⟩ : ∃ C, C = stC T v E S := ⟨_, rfl⟩
  have I1 : Seal ((Tryz.prog.info? 27).map (·.size) = some C.toArray.size) := ⟨by rw [hC, List.size_toArray]; exact stC_info hT⟩
  obtain ⟨X, hX⟩ : ∃ X : World, X = w.alloc (.cells C.toArray 27) := ⟨_, rfl⟩
  have hXb : Seal (Below w.heap.size w X) := ⟨by rw [hX]; exact below_alloc _ _⟩
  have hXn : Seal (X.heap[w.heap.size]? = some (.cells C.toArray 27 (0, 0))) := ⟨by rw [hX]; exact heap_alloc_new w _⟩
  have HK0 : Seal (Calls Tryz.prog 11 #[.int .i64 key, .agg C.toArray] X fun e w' => e = .returned (.bool t) ∧ Below X.heap.size X w') := ⟨by rw [hC]; exact rcheck37_any key T v E S t X hT ⟨ht⟩⟩
  have HT := Seal.mk hT
  have hXd : Seal (X.rangeAt w.heap.size 0 (T.map B)) := ⟨by
    have := rangeAt_take (rangeAt_row hXn.out) 32
    rw [hC, (stC_head (v := v) (E := E) (S := S) hT).text] at this
    exact this⟩
  have HD := Seal.mk hd
  rw [← hC]
  subst h0
  clear hT hd hC ht
  go_enter Tryz.func14, Tryz.ntmps14
  go_upto_region 1 with (fail)
  rw [← hX]
  clear hX
  go_wp2_with (refine wpList_load_row rfl 27 (.tmp 5) rfl w.heap.size rfl 27 C.toArray (0, 0) _ hXn.out Tryz.underlying27 rfl I1.out ?_)
  refine HK0.out.mono ?_
  rintro e w1 ⟨rfl, hb1⟩
  have HB1 : Seal (Below w.heap.size w w1) := ⟨hXb.out.trans (hb1.mono hXb.out.size)⟩
  have HR1 : Seal (w1.rangeAt w.heap.size 0 (T.map B)) := ⟨rangeAt_below' hXd.out hb1⟩
  have HD1 : Seal (IsD w1 a len cap l) := ⟨HD.out.of_heap HB1.out⟩
  clear hb1 HK0
  go_wp2
  go_ret2
  exact digPost_nil HB1.out
set_option maxHeartbeats 1000000 in
theorem rspend37_mess (a : Option Addr) (len cap : Nat) (l : List Bytes) (key v E S : Int) (T : Bytes) (t : Bool) (w : World) (hd : IsD w a len cap l) (HA : Seal (cap = 0 ∨ ∃ g off, a = some ⟨g, off, none⟩)) (hT : T.length = 32) (ht : skB key T v E S = t) (h0 : t = true) (hu : Seal (usedB l = false)) :
    Calls Tryz.prog 14 #[.slice a len cap, .int .i64 key, .agg (stC T v E S).toArray] w (DigPost [] 370 w) := by
  have _ := HA
  obtain ⟨C, hC⟩ : ∃ C, C = stC T v E S := ⟨_, rfl⟩
  have I1 : Seal ((Tryz.prog.info? 27).map (·.size) = some C.toArray.size) := ⟨by rw [hC, List.size_toArray]; exact stC_info hT⟩
  obtain ⟨X, hX⟩ : ∃ X : World, X = w.alloc (.cells C.toArray 27) := ⟨_, rfl⟩
  have hXb : Seal (Below w.heap.size w X) := ⟨by rw [hX]; exact below_alloc _ _⟩
  have hXn : Seal (X.heap[w.heap.size]? = some (.cells C.toArray 27 (0, 0))) := ⟨by rw [hX]; exact heap_alloc_new w _⟩
  have HK0 : Seal (Calls Tryz.prog 11 #[.int .i64 key, .agg C.toArray] X fun e w' => e = .returned (.bool t) ∧ Below X.heap.size X w') := ⟨by rw [hC]; exact rcheck37_any key T v E S t X hT ⟨ht⟩⟩
  have HT := Seal.mk hT
  have hXd : Seal (X.rangeAt w.heap.size 0 (T.map B)) := ⟨by
    have := rangeAt_take (rangeAt_row hXn.out) 32
    rw [hC, (stC_head (v := v) (E := E) (S := S) hT).text] at this
    exact this⟩
  have HD := Seal.mk hd
  rw [← hC]
  subst h0
  clear hT hd hC ht
  go_enter Tryz.func14, Tryz.ntmps14
  go_upto_region 1 with (fail)
  rw [← hX]
  clear hX
  go_wp2_with (refine wpList_load_row rfl 27 (.tmp 5) rfl w.heap.size rfl 27 C.toArray (0, 0) _ hXn.out Tryz.underlying27 rfl I1.out ?_)
  refine HK0.out.mono ?_
  rintro e w1 ⟨rfl, hb1⟩
  have HB1 : Seal (Below w.heap.size w w1) := ⟨hXb.out.trans (hb1.mono hXb.out.size)⟩
  have HR1 : Seal (w1.rangeAt w.heap.size 0 (T.map B)) := ⟨rangeAt_below' hXd.out hb1⟩
  have HD1 : Seal (IsD w1 a len cap l) := ⟨HD.out.of_heap HB1.out⟩
  clear hb1 HK0
  go_wp2_with fail
  refine (rused_any a len cap l w1 HD1.out).mono ?_
  rintro e w2 ⟨rfl, hb2⟩
  have HB2 : Seal (Below w.heap.size w w2) := ⟨HB1.out.trans (hb2.mono HB1.out.size)⟩
  have HR2 : Seal (w2.rangeAt w.heap.size 0 (T.map B)) := ⟨rangeAt_below' HR1.out hb2⟩
  have HD2 : Seal (IsD w2 a len cap l) := ⟨HD.out.of_heap HB2.out⟩
  clear hb2
  rw [hu.out]
  go_wp2
  go_ret2
  exact digPost_nil HB2.out
set_option maxHeartbeats 1000000 in
theorem rspend37_used (a : Option Addr) (len cap : Nat) (l : List Bytes) (key v E S : Int) (T : Bytes) (t : Bool) (w : World) (hd : IsD w a len cap l) (HA : Seal (cap = 0 ∨ ∃ g off, a = some ⟨g, off, none⟩)) (hT : T.length = 32) (ht : skB key T v E S = t) (h0 : t = true) (hu : Seal (usedB l = true)) (hh : Seal (hasB l T = true)) :
    Calls Tryz.prog 14 #[.slice a len cap, .int .i64 key, .agg (stC T v E S).toArray] w (DigPost [] 161 w) := by
  have _ := HA
  obtain ⟨C, hC⟩ : ∃ C, C = stC T v E S := ⟨_, rfl⟩
  have I1 : Seal ((Tryz.prog.info? 27).map (·.size) = some C.toArray.size) := ⟨by rw [hC, List.size_toArray]; exact stC_info hT⟩
  obtain ⟨X, hX⟩ : ∃ X : World, X = w.alloc (.cells C.toArray 27) := ⟨_, rfl⟩
  have hXb : Seal (Below w.heap.size w X) := ⟨by rw [hX]; exact below_alloc _ _⟩
  have hXn : Seal (X.heap[w.heap.size]? = some (.cells C.toArray 27 (0, 0))) := ⟨by rw [hX]; exact heap_alloc_new w _⟩
  have HK0 : Seal (Calls Tryz.prog 11 #[.int .i64 key, .agg C.toArray] X fun e w' => e = .returned (.bool t) ∧ Below X.heap.size X w') := ⟨by rw [hC]; exact rcheck37_any key T v E S t X hT ⟨ht⟩⟩
  have HT := Seal.mk hT
  have hXd : Seal (X.rangeAt w.heap.size 0 (T.map B)) := ⟨by
    have := rangeAt_take (rangeAt_row hXn.out) 32
    rw [hC, (stC_head (v := v) (E := E) (S := S) hT).text] at this
    exact this⟩
  have HD := Seal.mk hd
  rw [← hC]
  subst h0
  clear hT hd hC ht
  go_enter Tryz.func14, Tryz.ntmps14
  go_upto_region 1 with (fail)
  rw [← hX]
  clear hX
  go_wp2_with (refine wpList_load_row rfl 27 (.tmp 5) rfl w.heap.size rfl 27 C.toArray (0, 0) _ hXn.out Tryz.underlying27 rfl I1.out ?_)
  refine HK0.out.mono ?_
  rintro e w1 ⟨rfl, hb1⟩
  have HB1 : Seal (Below w.heap.size w w1) := ⟨hXb.out.trans (hb1.mono hXb.out.size)⟩
  have HR1 : Seal (w1.rangeAt w.heap.size 0 (T.map B)) := ⟨rangeAt_below' hXd.out hb1⟩
  have HD1 : Seal (IsD w1 a len cap l) := ⟨HD.out.of_heap HB1.out⟩
  clear hb1 HK0
  go_wp2_with fail
  refine (rused_any a len cap l w1 HD1.out).mono ?_
  rintro e w2 ⟨rfl, hb2⟩
  have HB2 : Seal (Below w.heap.size w w2) := ⟨HB1.out.trans (hb2.mono HB1.out.size)⟩
  have HR2 : Seal (w2.rangeAt w.heap.size 0 (T.map B)) := ⟨rangeAt_below' HR1.out hb2⟩
  have HD2 : Seal (IsD w2 a len cap l) := ⟨HD.out.of_heap HB2.out⟩
  clear hb2
  rw [hu.out]
  have i1 := dg_info T HT.out
  go_wp2_with (refine wpList_load_mid rfl 23 (.tmp 18) rfl w.heap.size 0 rfl (T.map B) _ HR2.out Tryz.underlying23 rfl i1 ?_)
  refine (rhas_any a len cap l T w2 HD2.out HT.out).mono ?_
  rintro e w3 ⟨rfl, hb3⟩
  have HB3 : Seal (Below w.heap.size w w3) := ⟨HB2.out.trans (hb3.mono HB2.out.size)⟩
  have HR3 : Seal (w3.rangeAt w.heap.size 0 (T.map B)) := ⟨rangeAt_below' HR2.out hb3⟩
  have HD3 : Seal (IsD w3 a len cap l) := ⟨HD.out.of_heap HB3.out⟩
  clear hb3
  rw [hh.out]
  go_wp2
  go_ret2
  exact digPost_nil HB3.out
set_option maxHeartbeats 1000000 in
theorem rspend37_limit (a : Option Addr) (len cap : Nat) (l : List Bytes) (key v E S : Int) (T : Bytes) (t : Bool) (w : World) (hd : IsD w a len cap l) (HA : Seal (cap = 0 ∨ ∃ g off, a = some ⟨g, off, none⟩)) (hT : T.length = 32) (ht : skB key T v E S = t) (h0 : t = true) (hu : Seal (usedB l = true)) (hh : Seal (hasB l T = false)) (hx : 4096 ≤ len) :
    Calls Tryz.prog 14 #[.slice a len cap, .int .i64 key, .agg (stC T v E S).toArray] w (DigPost [] 2 w) := by
  have hx' : (4096 : Int) ≤ (len : Int) := by omega
  have _ := HA
  obtain ⟨C, hC⟩ : ∃ C, C = stC T v E S := ⟨_, rfl⟩
  have I1 : Seal ((Tryz.prog.info? 27).map (·.size) = some C.toArray.size) := ⟨by rw [hC, List.size_toArray]; exact stC_info hT⟩
  obtain ⟨X, hX⟩ : ∃ X : World, X = w.alloc (.cells C.toArray 27) := ⟨_, rfl⟩
  have hXb : Seal (Below w.heap.size w X) := ⟨by rw [hX]; exact below_alloc _ _⟩
  have hXn : Seal (X.heap[w.heap.size]? = some (.cells C.toArray 27 (0, 0))) := ⟨by rw [hX]; exact heap_alloc_new w _⟩
  have HK0 : Seal (Calls Tryz.prog 11 #[.int .i64 key, .agg C.toArray] X fun e w' => e = .returned (.bool t) ∧ Below X.heap.size X w') := ⟨by rw [hC]; exact rcheck37_any key T v E S t X hT ⟨ht⟩⟩
  have HT := Seal.mk hT
  have hXd : Seal (X.rangeAt w.heap.size 0 (T.map B)) := ⟨by
    have := rangeAt_take (rangeAt_row hXn.out) 32
    rw [hC, (stC_head (v := v) (E := E) (S := S) hT).text] at this
    exact this⟩
  have HD := Seal.mk hd
  rw [← hC]
  subst h0
  clear hT hd hC ht
  go_enter Tryz.func14, Tryz.ntmps14
  go_upto_region 1 with (fail)
  rw [← hX]
  clear hX
  go_wp2_with (refine wpList_load_row rfl 27 (.tmp 5) rfl w.heap.size rfl 27 C.toArray (0, 0) _ hXn.out Tryz.underlying27 rfl I1.out ?_)
  refine HK0.out.mono ?_
  rintro e w1 ⟨rfl, hb1⟩
  have HB1 : Seal (Below w.heap.size w w1) := ⟨hXb.out.trans (hb1.mono hXb.out.size)⟩
  have HR1 : Seal (w1.rangeAt w.heap.size 0 (T.map B)) := ⟨rangeAt_below' hXd.out hb1⟩
  have HD1 : Seal (IsD w1 a len cap l) := ⟨HD.out.of_heap HB1.out⟩
  clear hb1 HK0
  go_wp2_with fail
  refine (rused_any a len cap l w1 HD1.out).mono ?_
  rintro e w2 ⟨rfl, hb2⟩
  have HB2 : Seal (Below w.heap.size w w2) := ⟨HB1.out.trans (hb2.mono HB1.out.size)⟩
  have HR2 : Seal (w2.rangeAt w.heap.size 0 (T.map B)) := ⟨rangeAt_below' HR1.out hb2⟩
  have HD2 : Seal (IsD w2 a len cap l) := ⟨HD.out.of_heap HB2.out⟩
  clear hb2
  rw [hu.out]
  have i1 := dg_info T HT.out
  go_wp2_with (refine wpList_load_mid rfl 23 (.tmp 18) rfl w.heap.size 0 rfl (T.map B) _ HR2.out Tryz.underlying23 rfl i1 ?_)
  refine (rhas_any a len cap l T w2 HD2.out HT.out).mono ?_
  rintro e w3 ⟨rfl, hb3⟩
  have HB3 : Seal (Below w.heap.size w w3) := ⟨HB2.out.trans (hb3.mono HB2.out.size)⟩
  have HR3 : Seal (w3.rangeAt w.heap.size 0 (T.map B)) := ⟨rangeAt_below' HR2.out hb3⟩
  have HD3 : Seal (IsD w3 a len cap l) := ⟨HD.out.of_heap HB3.out⟩
  clear hb3
  rw [hh.out]
  go_wp2
  go_ret2
  exact digPost_nil HB3.out
set_option maxHeartbeats 4000000 in
theorem rspend37_ok (a : Option Addr) (len cap : Nat) (l : List Bytes) (key v E S : Int) (T : Bytes) (t : Bool) (w : World) (hd : IsD w a len cap l) (HA : Seal (cap = 0 ∨ ∃ g off, a = some ⟨g, off, none⟩)) (hT : T.length = 32) (ht : skB key T v E S = t) (h0 : t = true) (hu : Seal (usedB l = true)) (hh : Seal (hasB l T = false)) (hx : len < 4096) :
    Calls Tryz.prog 14 #[.slice a len cap, .int .i64 key, .agg (stC T v E S).toArray] w (DigPost (putB l T) 0 w) := by
  have hx' : ¬ (4096 : Int) ≤ (len : Int) := by omega
  have _ := HA
  obtain ⟨C, hC⟩ : ∃ C, C = stC T v E S := ⟨_, rfl⟩
  have I1 : Seal ((Tryz.prog.info? 27).map (·.size) = some C.toArray.size) := ⟨by rw [hC, List.size_toArray]; exact stC_info hT⟩
  obtain ⟨X, hX⟩ : ∃ X : World, X = w.alloc (.cells C.toArray 27) := ⟨_, rfl⟩
  have hXb : Seal (Below w.heap.size w X) := ⟨by rw [hX]; exact below_alloc _ _⟩
  have hXn : Seal (X.heap[w.heap.size]? = some (.cells C.toArray 27 (0, 0))) := ⟨by rw [hX]; exact heap_alloc_new w _⟩
  have HK0 : Seal (Calls Tryz.prog 11 #[.int .i64 key, .agg C.toArray] X fun e w' => e = .returned (.bool t) ∧ Below X.heap.size X w') := ⟨by rw [hC]; exact rcheck37_any key T v E S t X hT ⟨ht⟩⟩
  have HT := Seal.mk hT
  have hXd : Seal (X.rangeAt w.heap.size 0 (T.map B)) := ⟨by
    have := rangeAt_take (rangeAt_row hXn.out) 32
    rw [hC, (stC_head (v := v) (E := E) (S := S) hT).text] at this
    exact this⟩
  have HD := Seal.mk hd
  rw [← hC]
  subst h0
  clear hT hd hC ht
  go_enter Tryz.func14, Tryz.ntmps14
  go_upto_region 1 with (fail)
  rw [← hX]
  clear hX
  go_wp2_with (refine wpList_load_row rfl 27 (.tmp 5) rfl w.heap.size rfl 27 C.toArray (0, 0) _ hXn.out Tryz.underlying27 rfl I1.out ?_)
  refine HK0.out.mono ?_
  rintro e w1 ⟨rfl, hb1⟩
  have HB1 : Seal (Below w.heap.size w w1) := ⟨hXb.out.trans (hb1.mono hXb.out.size)⟩
  have HR1 : Seal (w1.rangeAt w.heap.size 0 (T.map B)) := ⟨rangeAt_below' hXd.out hb1⟩
  have HD1 : Seal (IsD w1 a len cap l) := ⟨HD.out.of_heap HB1.out⟩
  clear hb1 HK0
  go_wp2_with fail
  refine (rused_any a len cap l w1 HD1.out).mono ?_
  rintro e w2 ⟨rfl, hb2⟩
  have HB2 : Seal (Below w.heap.size w w2) := ⟨HB1.out.trans (hb2.mono HB1.out.size)⟩
  have HR2 : Seal (w2.rangeAt w.heap.size 0 (T.map B)) := ⟨rangeAt_below' HR1.out hb2⟩
  have HD2 : Seal (IsD w2 a len cap l) := ⟨HD.out.of_heap HB2.out⟩
  clear hb2
  rw [hu.out]
  have i1 := dg_info T HT.out
  go_wp2_with (refine wpList_load_mid rfl 23 (.tmp 18) rfl w.heap.size 0 rfl (T.map B) _ HR2.out Tryz.underlying23 rfl i1 ?_)
  refine (rhas_any a len cap l T w2 HD2.out HT.out).mono ?_
  rintro e w3 ⟨rfl, hb3⟩
  have HB3 : Seal (Below w.heap.size w w3) := ⟨HB2.out.trans (hb3.mono HB2.out.size)⟩
  have HR3 : Seal (w3.rangeAt w.heap.size 0 (T.map B)) := ⟨rangeAt_below' HR2.out hb3⟩
  have HD3 : Seal (IsD w3 a len cap l) := ⟨HD.out.of_heap HB3.out⟩
  clear hb3
  rw [hh.out]
  have i2 := dg_info T HT.out
  go_wp2_with (refine wpList_load_mid rfl 23 (.tmp 25) rfl w.heap.size 0 rfl (T.map B) _ HR3.out Tryz.underlying23 rfl i2 ?_)
  refine (rput_any a len cap l T w3 HD3.out HA.out HT.out hx).mono ?_
  rintro e w4 ⟨g, n, c, rfl, hD, hb⟩
  go_wp2
  go_ret2
  exact ⟨_, _, _, rfl, hD, HB3.out.trans (hb.mono HB3.out.size)⟩
theorem rspend37_any (a : Option Addr) (len cap : Nat) (l r : List Bytes) (key v E S x : Int) (T : Bytes) (w : World) (hd : IsD w a len cap l) (HA : Seal (cap = 0 ∨ ∃ g off, a = some ⟨g, off, none⟩)) (hT : T.length = 32)
    (h : Seal (spendF (skB key T v E S) l T 370 = (r, x))) :
    Calls Tryz.prog 14 #[.slice a len cap, .int .i64 key, .agg (stC T v E S).toArray] w (DigPost r x w) := by
  have h' := h.out
  unfold spendF at h'
  cases hc : skB key T v E S with
  | false =>
    rw [hc, if_neg (by decide)] at h'
    obtain ⟨rfl, rfl⟩ := Prod.mk.inj h'
    exact rspend37_wrong a len cap l key v E S T false w hd HA hT hc rfl
  | true =>
    rw [hc, if_pos rfl] at h'
    cases hu : usedB l with
    | false =>
      rw [hu, if_neg (by decide)] at h'
      obtain ⟨rfl, rfl⟩ := Prod.mk.inj h'
      exact rspend37_mess a len cap l key v E S T true w hd HA hT hc rfl ⟨hu⟩
    | true =>
      rw [hu, if_pos rfl] at h'
      cases hh : hasB l T with
      | true =>
        rw [hh, if_pos rfl] at h'
        obtain ⟨rfl, rfl⟩ := Prod.mk.inj h'
        exact rspend37_used a len cap l key v E S T true w hd HA hT hc rfl ⟨hu⟩ ⟨hh⟩
      | false =>
        rw [hh, if_neg (by decide)] at h'
        by_cases hx : 4096 ≤ l.length
        · rw [if_pos hx] at h'
          obtain ⟨rfl, rfl⟩ := Prod.mk.inj h'
          exact rspend37_limit a len cap l key v E S T true w hd HA hT hc rfl ⟨hu⟩ ⟨hh⟩ (by rw [← hd.llen]; exact hx)
        · rw [if_neg hx] at h'
          obtain ⟨rfl, rfl⟩ := Prod.mk.inj h'
          exact rspend37_ok a len cap l key v E S T true w hd HA hT hc rfl ⟨hu⟩ ⟨hh⟩ (by rw [← hd.llen]; omega)

theorem stampsSpend_many (key : Int) (A : Array Value) (s : Option Addr) (len cap : Nat) (w : World) (hG : Glob w) (hm : (len : Int) ≤ 9223372036854775807) (hx : ¬ (len : Int) ≤ 40) :
    Calls Tryz.prog 4 #[.slice s len cap, .int .i64 key, .agg A] w fun e w' => e = .returned (.bool true) ∧ Below w.heap.size w w' := by
  obtain ⟨X, hX⟩ : ∃ X : World, X = w.alloc (.cells A 27) := ⟨_, rfl⟩
  have HB1 : Seal (Below w.heap.size w X) := ⟨by rw [hX]; exact below_alloc _ _⟩
  have HG : Seal (Glob X) := ⟨hG.below HB1.out⟩
  have ht : decide ((len : Int) ≤ 40) = false := decide_eq_false hx
  go_enter Tryz.func4, Tryz.ntmps4
  go_wp2_with fail
  rw [← hX]
  clear hX
  refine (ssane_any _ HG.out).mono ?_
  rintro e w2 ⟨rfl, hb⟩
  have HB2 := Seal.mk (HB1.out.trans (hb.mono HB1.out.size))
  clear hb
  go_wp2_with fail
  refine (rfew_any s len cap false w2 hm ht).mono ?_
  rintro e w3 ⟨rfl, rfl⟩
  go_wp2
  go_ret
  exact ⟨rfl, HB2.out⟩

set_option maxHeartbeats 4000000 in
theorem stampsSpend_core (key x : Int) (C : List Value) (l r : List Bytes) (s : Option Addr) (len cap : Nat) (w : World) (hG : Glob w) (hd : Seal (IsD w s len cap l)) (hx : (len : Int) ≤ 40)
    (IC : Seal ((Tryz.prog.info? 27).map (·.size) = some C.toArray.size))
    (HS1 : Seal (∀ W, Glob W → IsD W s len cap l → Calls Tryz.prog 13 #[.slice s len cap, .int .i64 key, .agg C.toArray] W (DigPost r x W)))
    (HS2 : Seal (∀ W, Glob W → IsD W s len cap l → Calls Tryz.prog 14 #[.slice s len cap, .int .i64 key, .agg C.toArray] W (DigPost r x W))) :
    Calls Tryz.prog 4 #[.slice s len cap, .int .i64 key, .agg C.toArray] w fun e w' => e = .returned (.bool true) ∧ Below w.heap.size w w' := by
  have HE0 : Seal (Env (w.alloc (.cells C.toArray 27)) none 0 0 [] [(w.heap.size, .cells C.toArray 27)]) := ⟨Env.push (bs := []) ⟨hG, isB_nil w, by intro p hp; cases hp⟩ _⟩
  have HB1 : Seal (Below w.heap.size w (w.alloc (.cells C.toArray 27))) := ⟨below_alloc _ _⟩
  have ht : decide ((len : Int) ≤ 40) = true := decide_eq_true hx
  clear hG
  go_enter Tryz.func4, Tryz.ntmps4
  go_wp2_with fail
  refine (ssane_any _ HE0.out.glob).mono ?_
  rintro e1 w2 ⟨rfl, hb⟩
  have HE := Seal.mk (HE0.out.below hb)
  have HB2 := Seal.mk (HB1.out.trans (hb.mono HB1.out.size))
  clear hb HE0 HB1
  go_wp2_with fail
  refine (rfew_any s len cap true w2 (by omega) ht).mono ?_
  rintro e1 w3 ⟨rfl, rfl⟩
  have R1 := Seal.mk (HE.out.keep (w.heap.size, .cells C.toArray 27) (by simp))
  go_wp2_with (refine wpList_load_row rfl 27 (.tmp 5) rfl (w.heap.size) rfl 27 C.toArray (0, 0) _ R1.out Tryz.underlying27 rfl IC.out ?_)
  refine (HS1.out _ HE.out.glob (hd.out.of_heap HB2.out)).mono ?_
  rintro e1 w6 ⟨a1, n1, c1, rfl, D1, hb⟩
  have HE6 := Seal.mk (HE.out.below hb)
  have HB6 := Seal.mk (HB2.out.trans (hb.mono HB2.out.size))
  clear hb HE HB2 R1
  have R1 := Seal.mk (HE6.out.keep (w.heap.size, .cells C.toArray 27) (by simp))
  go_wp2_with (refine wpList_load_row rfl 27 (.tmp 5) rfl (w.heap.size) rfl 27 C.toArray (0, 0) _ R1.out Tryz.underlying27 rfl IC.out ?_)
  refine (HS2.out _ HE6.out.glob (hd.out.of_heap HB6.out)).mono ?_
  rintro e1 w7 ⟨a2, n2, c2, rfl, D2, hb⟩
  have HB7 := Seal.mk (HB6.out.trans (hb.mono HB6.out.size))
  have D1' := Seal.mk (D1.out.of_heap hb)
  clear hb HE6 HB6 R1 D1
  go_wp2_with fail
  refine (rsame_any a1 a2 n1 c1 n2 c2 r r w7 D1'.out D2.out).mono ?_
  rintro e1 w8 ⟨rfl, hb⟩
  have HB8 := Seal.mk (HB7.out.trans (hb.mono HB7.out.size))
  rw [show (r == r) = true from by simp]
  clear hb
  go_wp2
  go_ret
  exact ⟨by simp, HB8.out⟩

theorem law_stampsSpendSpec (key v E S : Int) (T : Bytes) (s : Option Addr) (len cap : Nat) (l : List Bytes) (w : World) (hG : Glob w) (hT : T.length = 32)
    (hm : (len : Int) ≤ 9223372036854775807) (hd : len ≤ 1099511627776 → IsD w s len cap l) (ha : cap = 0 ∨ ∃ g off, s = some ⟨g, off, none⟩) :
    Calls Tryz.prog 4 #[.slice s len cap, .int .i64 key, .agg (stC T v E S).toArray] w fun e w' => e = .returned (.bool true) ∧ Below w.heap.size w w' := by
  by_cases hx : (len : Int) ≤ 40
  · have hD := hd (by omega)
    obtain ⟨r, x, hS⟩ : ∃ r x, spendF (skB key T v E S) l T 370 = (r, x) := ⟨_, _, rfl⟩
    exact stampsSpend_core key x (stC T v E S) l r s len cap w hG ⟨hD⟩ hx ⟨by rw [List.size_toArray]; exact stC_info hT⟩
      ⟨fun W h hi => sspend_any s len cap l r key v E S x T W h hi hT ⟨hS⟩⟩
      ⟨fun W _ hi => rspend37_any s len cap l r key v E S x T W hi ⟨ha⟩ hT ⟨hS⟩⟩
  · exact stampsSpend_many key (stC T v E S).toArray s len cap w hG hm hx

open Go.ChangeShapes Go.WideShapes Go.ChangeAt
section
variable {H : Type} {enc : TypeId × Value → H} {W : World} {base : Nat} {sp : Nat → Bool} {hd : Bool} {fuel : Nat} {cs : List Value} {x : DataW H × List MemPlace}

theorem cells_ints {t e : TypeId} {k : IntKind} {n : Nat} (ht : Tryz.prog.underlying t = some (.array n e)) (he : Tryz.prog.underlying e = some (.int k)) (hc : Tryz.prog.cellsOf e = 1) (hn : Tryz.prog.cellsOf t = n)
    (h : DataW.trod enc Tryz.prog W base sp hd fuel t cs = some x) : ∃ zs : List Int, zs.length = n ∧ cs = zs.map (fun z => .int k z) ∧ ∀ z ∈ zs, (Lit.int k z).wf = true := by
  obtain ⟨xs, m, _, _, hlen, hxl, hel⟩ := DataW.trod_array ht h
  rw [hn] at hlen
  have key : ∀ i, i < n → ∃ z, cs[i]? = some (.int k z) ∧ (Lit.int k z).wf = true := fun i hi => by
    have h1 := hel i hi
    rw [hc, List.getElem?_eq_getElem (by omega), Nat.mul_one] at h1
    obtain ⟨z, e1, _, hw⟩ := DataW.trod_int he h1
    refine ⟨z, ?_, hw⟩
    have := congrArg (·[0]?) e1
    simp only [List.getElem?_take, List.getElem?_drop] at this
    simpa using this
  refine ⟨cs.map intOf, by simp [hlen], ?_, ?_⟩
  · apply List.ext_getElem?
    intro i
    by_cases hi : i < n
    · obtain ⟨z, e1, _⟩ := key i hi
      simp [e1, intOf]
    · rw [List.getElem?_eq_none (by omega), List.getElem?_eq_none (by simp; omega)]
  · intro z hz
    obtain ⟨v, hv, rfl⟩ := List.mem_map.1 hz
    obtain ⟨i, hi, e⟩ := List.getElem_of_mem hv
    obtain ⟨z, e1, hw⟩ := key i (by omega)
    rw [List.getElem?_eq_getElem hi, e] at e1
    cases e1
    exact hw

theorem cells_digest (h : DataW.trod enc Tryz.prog W base sp hd fuel 23 cs = some x) : ∃ T : Bytes, T.length = 32 ∧ cs = T.map B := by
  obtain ⟨zs, hl, e, hw⟩ := cells_ints Tryz.underlying23 Tryz.underlying5 (by kernel_rfl) (by kernel_rfl) h
  refine ⟨zs.map fun z => UInt8.ofNat z.toNat, by simpa using hl, ?_⟩
  rw [e, List.map_map]
  apply List.map_congr_left
  intro z hz
  have := hw z hz
  simp [Lit.wf] at this
  have h1 : IntKind.u8.min = 0 := by decide
  have h2 : IntKind.u8.max = 255 := by decide
  show Value.int .u8 z = .int .u8 _
  congr 1
  rw [UInt8.toNat_ofNat_of_lt' (Nat.lt_of_lt_of_le (show z.toNat < 256 by omega) (by decide))]
  omega
end

theorem okWide_array' {w : World} {r : Reach} {base n : Nat} {t e : TypeId} {v : Value} (ht : Tryz.prog.underlying t = some (.array n e)) (h : Value.okWide Tryz.prog w r base t v) : ∃ cs, v = .agg cs ∧ cs.size = Tryz.prog.cellsOf t := by
  simp only [Value.okWide, ht] at h
  obtain ⟨cs, h1, h2, _⟩ := h
  exact ⟨cs, h1, h2⟩

theorem digest_open {H : Type} {enc : TypeId × Value → H} {W : World} {base : Nat} {v : Value} {d : DataW H} {p : List MemPlace} (hval : Value.okWide Tryz.prog W .any base 23 v) (h1 : DataW.Trod enc Tryz.prog W 0 (fun _ => true) true 23 v d p) :
    ∃ T : Bytes, v = .agg (T.map B).toArray ∧ T.length = 32 := by
  obtain ⟨cs, rfl, hsz⟩ := okWide_array' Tryz.underlying23 hval
  obtain ⟨fuel, hf⟩ := h1
  obtain ⟨T, hT, e⟩ := cells_digest hf
  have e' : cs.toList = T.map B := e
  exact ⟨T, by rw [← e'], hT⟩

theorem u32_open {H : Type} {enc : TypeId × Value → H} {W : World} {base : Nat} {v : Value} {d : DataW H} {p : List MemPlace} (hval : Value.okWide Tryz.prog W .any base 122 v) (h1 : DataW.Trod enc Tryz.prog W 0 (fun _ => true) true 122 v d p) :
    ∃ x, v = .int .u32 x ∧ 0 ≤ x ∧ x < 4294967296 := by
  obtain ⟨x, rfl, _, _, hw⟩ := open_int Tryz.underlying122 hval h1
  refine ⟨x, rfl, ?_⟩
  simp [Lit.wf] at hw
  have h1 : IntKind.u32.min = 0 := by decide
  have h2 : IntKind.u32.max = 4294967295 := by decide
  omega

theorem i64_wf {n : Int} (h : (Lit.int .i64 n).wf = true) : I64 n := by
  simp [Lit.wf] at h
  have h1 := i64min
  have h2 := i64max
  exact ⟨by omega, by omega⟩

section
variable {H : Type} {enc : TypeId × Value → H} {W : World} {base : Nat} {sp : Nat → Bool} {hd : Bool} {fuel : Nat} {cs : List Value} {x : DataW H × List MemPlace}

theorem cells_int (h : DataW.trod enc Tryz.prog W base sp hd fuel 3 cs = some x) : ∃ n, cs = [.int .i64 n] ∧ I64 n := by
  obtain ⟨n, e, _, hw⟩ := DataW.trod_int Tryz.underlying3 h
  exact ⟨n, e, i64_wf hw⟩

theorem cells_sig (h : DataW.trod enc Tryz.prog W base sp hd fuel 25 cs = some x) : ∃ P Q, cs = [.int .i64 P, .int .i64 Q] ∧ I64 P ∧ I64 Q := by
  obtain ⟨y0, y1, n, _, hl, h0, h1⟩ := trod_struct2 Tryz.underlying25 h
  have c1 : Tryz.prog.cellsOf 3 = 1 := by kernel_rfl
  have c2 : Tryz.prog.cellsOf 25 = 2 := by kernel_rfl
  rw [c2] at hl
  simp only [c1] at h0 h1
  obtain ⟨P, e0, hP⟩ := cells_int h0
  obtain ⟨Q, e1, hQ⟩ := cells_int h1
  match cs, hl with
  | [a, b], _ =>
    simp at e0 e1
    subst e0; subst e1
    exact ⟨P, Q, rfl, hP, hQ⟩

theorem cells_stamp (h : DataW.trod enc Tryz.prog W base sp hd fuel 27 cs = some x) : ∃ T v E S, cs = stC T v E S ∧ T.length = 32 := by
  obtain ⟨xs, n, _, _, hl, hlen, hg⟩ := DataW.trod_struct Tryz.underlying27 h
  have c1 : Tryz.prog.cellsOf 3 = 1 := by kernel_rfl
  have c2 : Tryz.prog.cellsOf 25 = 2 := by kernel_rfl
  have c3 : Tryz.prog.cellsOf 23 = 32 := by kernel_rfl
  have c4 : Tryz.prog.cellsOf 27 = 35 := by kernel_rfl
  rw [c4] at hl
  match xs, hlen with
  | [y0, y1, y2], _ =>
    have g0 : DataW.trod enc Tryz.prog W base sp hd n 23 ((cs.drop 0).take (Tryz.prog.cellsOf 23)) = some y0 := hg 0 _ rfl
    have g1 : DataW.trod enc Tryz.prog W base sp hd n 3 ((cs.drop 32).take (Tryz.prog.cellsOf 3)) = some y1 := hg 1 _ rfl
    have g2 : DataW.trod enc Tryz.prog W base sp hd n 25 ((cs.drop 33).take (Tryz.prog.cellsOf 25)) = some y2 := hg 2 _ rfl
    rw [c3] at g0
    rw [c1] at g1
    rw [c2] at g2
    obtain ⟨T, hT, e0⟩ := cells_digest g0
    obtain ⟨v, e1, _⟩ := cells_int g1
    obtain ⟨E, S, e2, _, _⟩ := cells_sig g2
    refine ⟨T, v, E, S, ?_, hT⟩
    unfold stC
    rw [List.take_of_length_le (by rw [List.length_drop]; omega)] at e2
    rw [← e0]
    show cs = List.take 32 (List.drop 0 cs) ++ ([.int .i64 v] ++ [.int .i64 E, .int .i64 S])
    rw [← e1, ← e2, List.drop_zero]
    have h33 : cs.drop 33 = (cs.drop 32).drop 1 := by rw [List.drop_drop]
    rw [h33, List.take_append_drop, List.take_append_drop]
end

theorem stamp_open {H : Type} {enc : TypeId × Value → H} {W : World} {base : Nat} {v : Value} {d : DataW H} {p : List MemPlace} (hval : Value.okWide Tryz.prog W .any base 27 v) (h1 : DataW.Trod enc Tryz.prog W 0 (fun _ => true) true 27 v d p) :
    ∃ T x E S, v = .agg (stC T x E S).toArray ∧ T.length = 32 := by
  obtain ⟨cs, rfl, hsz⟩ := okWide_struct Tryz.underlying27 hval
  obtain ⟨fuel, hf⟩ := h1
  obtain ⟨T, x, E, S, e, h⟩ := cells_stamp hf
  have e' : cs.toList = stC T x E S := e
  exact ⟨T, x, E, S, by rw [← e'], h⟩

theorem dcells_snoc (l : List Bytes) (T : Bytes) : dcells (l ++ [T]) = dcells l ++ T.map B := by
  unfold dcells; simp

/-- a slice of digests that came in -/
theorem digests_open {H : Type} {enc : TypeId × Value → H} {W : World} {base : Nat} {v : Value} {d : DataW H} {p : List MemPlace} (hval : Value.okWide Tryz.prog W .any base 36 v) (h1 : DataW.Trod enc Tryz.prog W 0 (fun _ => true) true 36 v d p) :
    ∃ a len cap l, v = .slice a len cap ∧ (len : Int) ≤ 9223372036854775807 ∧ (len ≤ 1099511627776 → IsD W a len cap l) ∧ (cap = 0 ∨ ∃ g off, a = some ⟨g, off, none⟩) := by
  obtain ⟨a1, len, cap, rfl⟩ := okWide_slice Tryz.underlying36 hval
  obtain ⟨fuel, hf⟩ := h1
  have c1 : Tryz.prog.cellsOf 23 = 32 := by kernel_rfl
  rcases DataW.trod_slice Tryz.underlying36 hf with ⟨hcs, hx⟩ | ⟨a, len', cap', elems, rest, n, hn, hcs, hx, hb, hl, hm, hel, hat, hsp, _⟩
  · simp [Value.cells] at hcs
    obtain ⟨rfl, rfl, rfl⟩ := hcs
    exact ⟨none, 0, 0, [], rfl, by decide, fun _ => isD_nil W, .inl rfl⟩
  · simp [Value.cells] at hcs
    obtain ⟨rfl, rfl, rfl⟩ := hcs
    rw [c1] at hat hsp
    obtain ⟨hrl, hrest⟩ := hsp rfl
    unfold maxLen at hm
    have hall : ∀ i, i < cap → ∃ T : Bytes, T.length = 32 ∧ W.cells? 0 (a.add (i * 32)) 32 = some (T.map B) := fun i hi => by
      have key : ∃ e, (W.cells? 0 (a.add (i * 32)) 32).bind (DataW.trod enc Tryz.prog W 0 (fun _ => true) true n 23) = some e := by
        by_cases h : i < len
        · exact ⟨_, (hat i h).trans (List.getElem?_eq_getElem (by omega))⟩
        · have := hrest (i - len) (by omega)
          rw [show len + (i - len) = i from by omega] at this
          exact ⟨_, this.trans (List.getElem?_eq_getElem (by omega))⟩
      obtain ⟨e, he⟩ := key
      obtain ⟨cs, h1, h2⟩ := Option.bind_eq_some_iff.1 he
      obtain ⟨T, hT, rfl⟩ := cells_digest h2
      exact ⟨T, hT, h1⟩
    have hrow : ∀ m, m ≤ len → ∃ l : List Bytes, l.length = m ∧ (∀ d ∈ l, d.length = 32) ∧ ∀ j u, (dcells l)[j]? = some u → W.cell? (a.add j) = some u := by
      intro m
      induction m with
      | zero => exact fun _ => ⟨[], rfl, by simp, fun j u h => by simp [dcells] at h⟩
      | succ m ih =>
        intro hm'
        obtain ⟨l, h1, h2, h3⟩ := ih (by omega)
        obtain ⟨T, hT, hc⟩ := hall m (by omega)
        refine ⟨l ++ [T], by simp [h1], ?_, fun j u hj => ?_⟩
        · intro d hd
          rcases List.mem_append.1 hd with h | h
          · exact h2 d h
          · rw [List.mem_singleton.1 h]; exact hT
        · rw [dcells_snoc] at hj
          have hdl := dcells_length l h2
          by_cases hjl : j < m * 32
          · rw [List.getElem?_append_left (by omega)] at hj
            exact h3 j u hj
          · rw [List.getElem?_append_right (by omega), hdl, h1] at hj
            have hj32 : j - m * 32 < 32 := by have := (List.getElem?_eq_some_iff.1 hj).1; rwa [List.length_map, hT] at this
            have := (World.cells?_some hc).2.2 (j - m * 32) hj32
            rw [hj] at this
            rw [Addr.add_add, show m * 32 + (j - m * 32) = j from by omega] at this
            exact this
    obtain ⟨l, hl1, hl2, hl3⟩ := hrow len (Nat.le_refl _)
    have hspot : 0 < cap → a = ⟨a.block, a.off, none⟩ := fun h => by
      obtain ⟨T, hT, hc⟩ := hall 0 h
      have h0 := (World.cells?_some hc).2.2 0 (by decide)
      rw [List.getElem?_eq_getElem (show 0 < (T.map B).length by rw [List.length_map, hT]; decide)] at h0
      obtain ⟨ab, ao, spot⟩ := a
      have hspot : spot = none := by simpa [Addr.add] using World.cell?_spot h0
      rw [hspot]
    refine ⟨some a, len, cap, l, rfl, by omega, fun h40 => ⟨hl1, hl, h40, by omega, hl2, ?_⟩, ?_⟩
    · rcases Nat.eq_zero_or_pos len with h0 | h0
      · exact .inl h0
      · right
        have ea := hspot (by omega)
        obtain ⟨T, hT, hc⟩ := hall 0 (by omega)
        refine ⟨a.block, a.off, by rw [← ea], fun j u hu => ?_, ?_⟩
        · have := hl3 j u hu
          rw [ea, Addr.add_mid] at this
          exact this
        · have h0 := (World.cells?_some hc).2.2 0 (by decide)
          rw [List.getElem?_eq_getElem (show 0 < (T.map B).length by rw [List.length_map, hT]; decide), ea, Addr.add_add, Addr.add_mid] at h0
          have := block_lt_of_cell h0
          exact this
    · rcases Nat.eq_zero_or_pos cap with h0 | h0
      · exact .inl h0
      · exact .inr ⟨a.block, a.off, by rw [← hspot h0]⟩
end Frk
namespace Go.Proofs.YtcioeedlfbioaaaGreatDoor
open Go Go.RowKit Go.Proofs Go.ChangeShapes Go.WideShapes Go.ChangeAt Frk
set_option maxRecDepth 100000

theorem lifted (os : Os) (started : os.Started) (H : Type) (enc : TypeId × Value → H) :
    ReturnsInHanded {} Tryz.checked os 4 .any (fun w args => (Rows.stampsSpendSpecSpec.pre enc Tryz.prog Tryz.f4 [] false w args ∧ laidMetH Tryz.prog laid w) ∧ sizedMet enc Tryz.prog Tryz.f4 (OpenSpec.ofChange Rows.stampsSpendSpecSpec) false w args)
      (Rows.stampsSpendSpecSpec.post enc Tryz.prog Tryz.f4 false true false false) := by
  refine returnsInHanded_of_change_and (C := Tryz.checked) (X := fun w _ => laidMetH Tryz.prog laid w) (fun _ _ _ hh h => h.of_heap hh) own started (by kernel_rfl) Tryz.func4
    (ChangeSpec.witness_shaped (enc := enc) (C := Tryz.checked) (os := os) (X := fun w _ => laidMetH Tryz.prog laid w) false (World.doorLaid Tryz.prog 400 os) #[.slice none 0 0, .int .i64 0, .agg (List.toArray (.int .u8 0 :: .int .u8 0 :: .int .u8 0 :: .int .u8 0 :: .int .u8 0 :: .int .u8 0 :: .int .u8 0 :: .int .u8 0 :: .int .u8 0 :: .int .u8 0 :: .int .u8 0 :: .int .u8 0 :: .int .u8 0 :: .int .u8 0 :: .int .u8 0 :: .int .u8 0 :: .int .u8 0 :: .int .u8 0 :: .int .u8 0 :: .int .u8 0 :: .int .u8 0 :: .int .u8 0 :: .int .u8 0 :: .int .u8 0 :: .int .u8 0 :: .int .u8 0 :: .int .u8 0 :: .int .u8 0 :: .int .u8 0 :: .int .u8 0 :: .int .u8 0 :: .int .u8 0 :: .int .i64 0 :: .int .i64 0 :: .int .i64 0 :: [] : List Value) : Array Value)] 8 rfl (World.shaped_of_RefB (by kernel_rfl) (by kernel_rfl)) (by kernel_rfl) (by kernel_rfl) (by kernel_rfl) (door_met os _)) ?_
  intro W base args ds gs before hval0 hW _ _ hL _
  have hval : ∀ (j : Nat) t v, Tryz.f4.params[j]? = some t → args[j]? = some v → Value.okWide Tryz.prog W .any base t v := hval0
  have hW' := hW
  obtain ⟨p, q, hA0, hV, rfl, hfz, hnd⟩ := hW
  have hA : DataW.TrodAll enc Tryz.prog W 0 (fun _ => true) true Tryz.f4.params.toList args.toList ds p := hA0
  rw [Tryz.params4] at hA hval
  obtain ⟨args⟩ := args
  obtain ⟨v0, vs0, d0, ds0, p0, q0, e0, rfl, rfl, h0, hr0⟩ := trodAll_cons hA
  obtain ⟨v1, vs1, d1, ds1, p1, q1, e1, rfl, rfl, h1, hr1⟩ := trodAll_cons hr0
  obtain ⟨v2, vs2, d2, ds2, p2, q2, e2, rfl, rfl, h2, hr2⟩ := trodAll_cons hr1
  obtain ⟨rfl, rfl, rfl⟩ := trodAll_nil hr2
  obtain rfl : args = [v0, v1, v2] := by simpa [e1, e2] using e0
  obtain ⟨a0, n0, c0, l0, rfl, m0, wx0, ha0⟩ := digests_open (hval 0 36 v0 rfl rfl) h0
  obtain ⟨x1, rfl, wx1⟩ := int_open (hval 1 3 v1 rfl rfl) h1
  obtain ⟨T2, V2, E2, S2, rfl, rT2⟩ := stamp_open (hval 2 27 v2 rfl rfl) h2
  obtain ⟨rfl, rfl⟩ := trodVars_none hV
  have hG := glob_of_laid hL
  refine (law_stampsSpendSpec x1 V2 E2 S2 T2 a0 n0 c0 l0 W hG rT2 m0 wx0 ha0).mono fun e W' ⟨he, hb⟩ => ?_
  subst he
  exact ⟨_, rfl, law_fin (by rw [Tryz.params4]; simp only [List.mem_cons, List.not_mem_nil, or_false]; intro t ht; rcases ht with rfl | rfl | rfl <;> exact ⟨by kernel_rfl, of_decide_eq_true (by kernel_rfl)⟩) (by kernel_rfl) rfl rfl hW' hb⟩

theorem stampsSpendSpec_row : Rows.StampsSpendSpecSaid :=
  OpenClaim.holds_of_wide 4 Tryz.f4 rfl rfl rfl rfl rfl rfl rfl ⟨rfl, rfl, rfl, rfl, rfl⟩ rfl rfl rfl rfl rfl (by kernel_rfl) Tryz.func4 (by kernel_rfl)
    (of_decide_eq_true (by kernel_rfl)) (by unfold Func.isWrapper; first | (rw [if_pos (by decide +kernel)]; kernel_rfl) | (rw [if_neg (by decide +kernel)]; exact ⟨rfl, rfl⟩))
    (fun os started H enc _ => lifted os started H enc)

theorem stampsSpendSpec_holds : Rows.StampsSpendSpecCardSaid :=
  Claim7.holds_tied_plain_at .later [] [.data, .data] true Rows.stampsSpendSpecCard.stood.harness true
    stampsSpendSpec_row (fun _ h => by cases h) (by kernel_rfl) (fun _ h => by cases h) stampsSpendSpec_row_tie rfl ⟨rfl, rfl⟩ (by kernel_rfl) rfl
    (fun f fn hf hfn => by
      obtain rfl : f = 4 := Option.some.inj ((show Tryz.prog.funcNamed "franking/frankinglaw37.StampsSpendSpec" = some 4 by kernel_rfl).symm.trans hf) |>.symm
      obtain rfl : fn = Tryz.f4 := (Option.some.inj (Tryz.func4.symm.trans hfn)).symm
      exact ⟨by kernel_rfl, fun j t ht => by
        rw [Tryz.params4] at ht
        have hm : t ∈ [36, 3, 27] := by simpa using Array.mem_of_getElem? ht
        have hall : ([36, 3, 27].all fun u => !Tryz.prog.wantsStandIn u) = true := by kernel_rfl
        exact (show Tryz.prog.wantsStandIn t = false by simpa using List.all_eq_true.1 hall t hm)⟩)
    (by kernel_rfl)
#print axioms stampsSpendSpec_holds
end Go.Proofs.YtcioeedlfbioaaaGreatDoor
