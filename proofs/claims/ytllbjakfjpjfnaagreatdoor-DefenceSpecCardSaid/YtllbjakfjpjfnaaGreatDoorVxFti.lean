/- Law 57: timely. -/
import Derived.Test.YtllbjakfjpjfnaaGreatDoorVxgFfm
import Derived.Test.YtllbjakfjpjfnaaGreatDoorVxFky
namespace Frk
open Go Go.RowKit Go.Proofs
set_option maxRecDepth 100000

theorem fholds_any (g : Nat) (a : Option Addr) (n c : Nat) (l : List Ep) (o t k : Int) (w : World) (h0 : w.cell? ⟨g, 0, none⟩ = some (.slice a n c)) (hd : IsE w a n c l) :
    Calls Tryz.prog 49 #[.int .i64 o, .int .i64 t, .int .i64 k, .pointer (some ⟨g, 0, none⟩)] w fun e w' => e = .returned (.bool (holdB l o t k)) ∧ Below w.heap.size w w' := by
  have HK := Seal.mk (fkey_any a n c l o t w hd)
  obtain ⟨kv, hkv⟩ : ∃ k, k = (keyR l o t).1 := ⟨_, rfl⟩
  obtain ⟨kb, hkb⟩ : ∃ k, k = (keyR l o t).2.1 := ⟨_, rfl⟩
  obtain ⟨ke, hke⟩ : ∃ k, k = (keyR l o t).2.2 := ⟨_, rfl⟩
  rw [← hkv, ← hkb, ← hke] at HK
  have HR : Seal (holdB l o t k = (kb && (decide (ke = 0) && decide (kv = k)))) := ⟨by unfold holdB; rw [hkv, hkb, hke]⟩
  obtain ⟨R, hR⟩ : ∃ R, R = holdB l o t k := ⟨_, rfl⟩
  rw [← hR] at HR ⊢
  clear hd hkv hkb hke hR
  go_enter Tryz.func49, Tryz.ntmps49
  go_wp2_with fail
  refine HK.out.mono ?_
  rintro e w1 ⟨rfl, hb⟩
  have HB := Seal.mk hb
  clear hb HK h0
  cases kb with
  | false =>
    go_wp2
    go_ret
    exact ⟨by rw [HR.out]; rfl, HB.out⟩
  | true =>
    by_cases h1 : ke = 0
    · subst h1
      by_cases h2 : kv = k
      · have q2 : (kv == k) = true := by rw [beq_iff_eq]; exact h2
        have HF : Seal (R = true) := ⟨by rw [HR.out, decide_eq_true h2]; rfl⟩
        clear h2 HR
        go_wp2
        go_ret
        exact ⟨by rw [HF.out]; rfl, HB.out⟩
      · have q2 : (kv == k) = false := by rw [beq_eq_false_iff_ne]; exact h2
        have HF : Seal (R = false) := ⟨by rw [HR.out, decide_eq_false h2]; rfl⟩
        clear h2 HR
        go_wp2
        go_ret
        exact ⟨by rw [HF.out]; rfl, HB.out⟩
    · have q1 : (ke == 0) = false := by rw [beq_eq_false_iff_ne]; exact h1
      have HF : Seal (R = false) := ⟨by rw [HR.out, decide_eq_false h1]; rfl⟩
      clear HR
      go_wp2
      go_ret
      exact ⟨by rw [HF.out]; rfl, HB.out⟩

set_option maxHeartbeats 8000000 in
theorem ftimely_any (aE aO : Option Addr) (nE cE n c : Nat) (l : List Ep) (off : List Int) (x : CaX) (now term : Int) (w : World) (hE : IsE w aE nE cE l) (hO : IsIs w aO n c off) (hK : IsIs w x.aK x.nK x.cK x.c.K) (hn : x.c.K.length = off.length)
    (hT : 0 ≤ x.c.T ∧ x.c.T < 2097152) (hw : 0 ≤ now ∧ now < 2097152) :
    Calls Tryz.prog 26 #[.slice aE nE cE, .slice aO n c, .agg x.C.toArray, .int .i64 now, .int .i64 term] w fun e w' => e = .returned (.bool (timeB l off x.c now term)) ∧ Below w.heap.size w w' := by
  have hmf : ∀ (fn : Fn) (first cap : Array Value) (w : World), (Instr.makeFunc fn first cap).run Tryz.prog w = .ok (.func fn first cap) w := fun _ _ _ _ => rfl
  obtain ⟨X1, hX1⟩ : ∃ X : World, X = w.alloc (.cells #[.slice aE nE cE] 22) := ⟨_, rfl⟩
  obtain ⟨X, hX⟩ : ∃ X : World, X = X1.alloc (.cells x.C.toArray 35) := ⟨_, rfl⟩
  have b1 : Below w.heap.size w X1 := by rw [hX1]; exact below_alloc _ _
  have b2 : Below X1.heap.size X1 X := by rw [hX]; exact below_alloc _ _
  have s1 : X1.heap.size = w.heap.size + 1 := by rw [hX1, size_alloc]
  obtain ⟨g5, h5⟩ : ∃ g, g = w.heap.size := ⟨_, rfl⟩
  obtain ⟨g7, h7⟩ : ∃ g, g = w.heap.size + 1 := ⟨_, rfl⟩
  have p1 : X1.heap[g5]? = some (.cells #[.slice aE nE cE] 22 (0, 0)) := by rw [h5, hX1]; exact heap_alloc_new w _
  have p2 : X.heap[g5]? = some (.cells #[.slice aE nE cE] 22 (0, 0)) := (b2.block _ (by omega)).trans p1
  have p3 : CaAt X g7 x := caAt_of (rangeAt_row (by rw [h7, ← s1, hX]; exact heap_alloc_new X1 _))
  have HB : Seal (Below w.heap.size w X) := ⟨b1.trans (b2.mono b1.size)⟩
  obtain ⟨A, hA⟩ : ∃ A, A = x.c.A := ⟨_, rfl⟩
  obtain ⟨T, hTt⟩ : ∃ A, A = x.c.T := ⟨_, rfl⟩
  obtain ⟨vK, hvK⟩ : ∃ v, v = Value.slice x.aK x.nK x.cK := ⟨_, rfl⟩
  have HC : Seal (Kf X fun W => W.cell? ⟨g5, 0, none⟩ = some (.slice aE nE cE) ∧ W.cell? ⟨g7, 1, none⟩ = some (.int .i64 A) ∧ W.cell? ⟨g7, 4, none⟩ = some vK ∧ W.cell? ⟨g7, 14, none⟩ = some (.int .i64 T)) := ⟨fun W hW => by
    have h := p3.below hW
    have h2 := (hW.block _ (Array.getElem?_eq_some_iff.1 p2).1).trans p2
    rw [hA, hTt, hvK]
    exact ⟨by rw [cell_of_row _ _ _ _ _ _ h2]; rfl, h.A, h.K, h.T⟩⟩
  have HE := Seal.mk hE
  have HO := Seal.mk hO
  have HK := Seal.mk hK
  have hll := hO.llen
  have hlm := hO.lmax
  have hKl := hK.llen
  have HN : Seal (x.nK = n ∧ off.length = n ∧ x.c.K.length = n) := ⟨by omega⟩
  have HX : Seal (A = x.c.A ∧ T = x.c.T ∧ vK = .slice x.aK x.nK x.cK) := ⟨hA, hTt, hvK⟩
  have z1 : 0 ≤ T ∧ T < 2097152 := by rw [hTt]; exact hT
  obtain ⟨RB, hRB⟩ : ∃ R, R = timeB l off x.c now term := ⟨_, rfl⟩
  have HRB := Seal.mk hRB
  have hXX : X = (w.alloc (.cells #[.slice aE nE cE] 22)).alloc (.cells x.C.toArray 35) := by rw [hX, hX1]
  obtain ⟨CX, hCX⟩ : ∃ C, C = x.C.toArray := ⟨_, rfl⟩
  rw [← hCX] at hXX ⊢
  rw [← hRB]
  clear hE hO hK hn hT hRB hX hX1 b1 b2 s1 p1 p2 p3 hCX hA hTt hvK hKl
  go_enter Tryz.func26, Tryz.ntmps26
  go_upto_region 1 with (fail)
  rw [← hXX, ← h7, ← h5]
  clear hXX h7 h5
  have HS : Seal (Below w.heap.size w X ∧ Below X.heap.size X X ∧ keysB l off x.c.K x.c.A now 0) := ⟨HB.out, Below.refl _ _, keysB_zero _ _ _ _ _⟩
  clear HB
  go_wp2
  go_loopw [17] (fun i wr => ∃ k : Nat, k ≤ n ∧ i = .int .i64 k ∧ Seal (Below w.heap.size w wr ∧ Below X.heap.size X wr ∧ keysB l off x.c.K x.c.A now k)) (fun i _ => n - (intOf i).toNat)
  case atStart => exact ⟨0, by omega, rfl, HS⟩
  case round =>
    obtain ⟨wo, rfl⟩ : ∃ z, z = wr := ⟨_, rfl⟩
    obtain ⟨k, hk, rfl, hH⟩ := hrel
    clear HS
    by_cases hlt : k < n
    · have hD := HO.out.below hH.out.1
      rcases hD.at_ with hz | ⟨g, o, rfl, hr, hg⟩
      · omega
      obtain ⟨y, hy⟩ : ∃ y, off[k]? = some y := ⟨_, List.getElem?_eq_getElem (by omega)⟩
      have cY : wo.cell? ⟨g, o + k, none⟩ = some (.int .i64 y) := by have := rangeC_row hr hD.each hy 0 (.int .i64 y) rfl; simpa using this
      have q5 : (k : Int) < (n : Int) := by omega
      have q6 : (0 : Int) ≤ (k : Int) := by omega
      have hDK := HK.out.below hH.out.1
      obtain ⟨gk, ok, eK, hrk, hgk⟩ : ∃ gk ok, x.aK = some ⟨gk, ok, none⟩ ∧ wo.rangeAt gk ok (x.c.K.flatMap intC) ∧ gk < wo.heap.size := by
        rcases hDK.at_ with hz | ⟨gk, ok, e1, e2, e3⟩
        · have := HN.out; omega
        · exact ⟨gk, ok, e1, e2, e3⟩
      obtain ⟨kk, hkk⟩ : ∃ y, x.c.K[k]? = some y := ⟨_, List.getElem?_eq_getElem (by have := HN.out; omega)⟩
      have cK : wo.cell? ⟨gk, ok + k, none⟩ = some (.int .i64 kk) := by have := rangeC_row hrk hDK.each hkk 0 (.int .i64 kk) rfl; simpa using this
      have HvK : vK = .slice (some ⟨gk, ok, none⟩) n x.cK := by rw [HX.out.2.2, eK, HN.out.1]
      obtain ⟨k5, k1, k4, k14⟩ := HC.out wo hH.out.2.1
      rw [HvK] at k4
      obtain ⟨b, hb⟩ : ∃ b, b = holdB l y A kk := ⟨_, rfl⟩
      obtain ⟨d, hd⟩ : ∃ b, b = holdB l y now kk := ⟨_, rfl⟩
      have HH1 : Seal (∀ W, Below X.heap.size X W → Below w.heap.size w W → Calls Tryz.prog 49 #[.int .i64 y, .int .i64 A, .int .i64 kk, .pointer (some ⟨g5, 0, none⟩)] W fun e w' => e = .returned (.bool b) ∧ Below W.heap.size W w') := ⟨fun W h1 h2 => by rw [hb]; exact fholds_any g5 aE nE cE l y A kk W (HC.out W h1).1 (HE.out.below h2)⟩
      have HH2 : Seal (∀ W, Below X.heap.size X W → Below w.heap.size w W → Calls Tryz.prog 49 #[.int .i64 y, .int .i64 now, .int .i64 kk, .pointer (some ⟨g5, 0, none⟩)] W fun e w' => e = .returned (.bool d) ∧ Below W.heap.size W w') := ⟨fun W h1 h2 => by rw [hd]; exact fholds_any g5 aE nE cE l y now kk W (HC.out W h1).1 (HE.out.below h2)⟩
      have HY : Seal (off.getD k 0 = y ∧ x.c.K.getD k 0 = kk ∧ b = holdB l y x.c.A kk ∧ d = holdB l y now kk) := ⟨by rw [List.getD_eq_getElem?_getD, hy]; rfl, by rw [List.getD_eq_getElem?_getD, hkk]; rfl, by rw [hb, HX.out.1], hd⟩
      have HV : Seal (Below w.heap.size w wo.drew ∧ Below X.heap.size X wo.drew ∧ keysB l off x.c.K x.c.A now k) := ⟨hH.out.1.trans ((below_drewn_f _).mono hH.out.1.size), hH.out.2.1.trans ((below_drewn_f _).mono hH.out.2.1.size), hH.out.2.2⟩
      clear hr hg hy hrk hgk hkk hD hDK hb hd eK HvK hH
      go_wp2_with fail
      refine wp_region_held_drew (S := fun W => W.cell? ⟨g7, 1, none⟩ = some (.int .i64 A) ∧ W.cell? ⟨g7, 4, none⟩ = some (.slice (some ⟨gk, ok, none⟩) n x.cK) ∧ W.cell? ⟨gk, ok + k, none⟩ = some (.int .i64 kk)) (by kernel_rfl) ⟨k1, k4, cK⟩ (fun hHeld => ?_)
      obtain ⟨V, hV⟩ : ∃ V, V = wo.drew := ⟨_, rfl⟩
      rw [← hV] at hHeld HV ⊢
      clear hV k1 k4 k5 k14 cK cY
      refine take_h 0 ?_ rfl (by kernel_rfl) (by kernel_rfl) (by kernel_rfl) (fun _ _ _ h => h) (Or.inl ⟨by kernel_rfl, ?_⟩) (by assumption) ?_
      rotate_left
      · (intro w hSw; (try dsimp only at hSw); go_simp; try (with_reducible rfl))
      try simp only [Act.put, List.setIfInBounds_toArray, List.set_cons_zero, List.set_cons_succ]
      refine take_h 1 ?_ rfl (by kernel_rfl) (by kernel_rfl) (by kernel_rfl) (fun _ _ _ h => h) (Or.inl ⟨by kernel_rfl, ?_⟩) (by assumption) ?_
      rotate_left
      · (intro w hSw; (try dsimp only at hSw); go_simp; try (with_reducible rfl))
      try simp only [Act.put, List.setIfInBounds_toArray, List.set_cons_zero, List.set_cons_succ]
      refine take_h 2 ?_ rfl (by kernel_rfl) (by kernel_rfl) (by kernel_rfl) (fun _ _ _ h => h) (Or.inl ⟨by kernel_rfl, ?_⟩) (by assumption) ?_
      rotate_left
      · (intro w hSw; (try dsimp only at hSw); go_simp; try (with_reducible rfl))
      try simp only [Act.put, List.setIfInBounds_toArray, List.set_cons_zero, List.set_cons_succ]
      refine take_h 3 ?_ rfl (by kernel_rfl) (by kernel_rfl) (by kernel_rfl) (fun _ _ _ h => h) (Or.inl ⟨by kernel_rfl, ?_⟩) (by assumption) ?_
      rotate_left
      · (intro w hSw; (try dsimp only at hSw); go_simp; try (with_reducible rfl))
      try simp only [Act.put, List.setIfInBounds_toArray, List.set_cons_zero, List.set_cons_succ]
      refine take_h 4 ?_ rfl (by kernel_rfl) (by kernel_rfl) (by kernel_rfl) (fun _ _ _ h => h) (Or.inl ⟨by kernel_rfl, ?_⟩) (by assumption) ?_
      rotate_left
      · (intro w hSw; (try dsimp only at hSw); go_simp; try (with_reducible rfl))
      try simp only [Act.put, List.setIfInBounds_toArray, List.set_cons_zero, List.set_cons_succ]
      refine take_h 5 ?_ rfl (by kernel_rfl) (by kernel_rfl) (by kernel_rfl) (fun _ _ _ h => h) (Or.inl ⟨by kernel_rfl, ?_⟩) (by assumption) ?_
      rotate_left
      · (intro w hSw; (try dsimp only at hSw); go_simp; try (with_reducible rfl))
      try simp only [Act.put, List.setIfInBounds_toArray, List.set_cons_zero, List.set_cons_succ]
      refine take_h 6 ?_ rfl (by kernel_rfl) (by kernel_rfl) (by kernel_rfl) (fun _ _ _ h => h) (Or.inl ⟨by kernel_rfl, ?_⟩) (by assumption) ?_
      rotate_left
      · (intro w hSw; (try dsimp only at hSw); go_simp; try (with_reducible rfl))
      try simp only [Act.put, List.setIfInBounds_toArray, List.set_cons_zero, List.set_cons_succ]
      refine take_h 7 ?_ rfl (by kernel_rfl) (by kernel_rfl) (by kernel_rfl) (fun _ _ _ h => h) (Or.inl ⟨by kernel_rfl, ?_⟩) (by assumption) ?_
      rotate_left
      · (intro w hSw; (try dsimp only at hSw); go_simp; try (with_reducible rfl))
      try simp only [Act.put, List.setIfInBounds_toArray, List.set_cons_zero, List.set_cons_succ]
      refine take_h 8 ?_ rfl (by kernel_rfl) (by kernel_rfl) (by kernel_rfl) (fun _ _ _ h => h) (Or.inl ⟨by kernel_rfl, ?_⟩) (by assumption) ?_
      rotate_left
      · (intro w hSw; (try dsimp only at hSw); go_simp; try (with_reducible rfl))
      try simp only [Act.put, List.setIfInBounds_toArray, List.set_cons_zero, List.set_cons_succ]
      refine take_h 9 ?_ rfl (by kernel_rfl) (by kernel_rfl) (by kernel_rfl) (fun _ _ _ h => h) (Or.inl ⟨by kernel_rfl, ?_⟩) (by assumption) ?_
      rotate_left
      · (intro w hSw; (try dsimp only at hSw); go_simp; try (with_reducible rfl))
      try simp only [Act.put, List.setIfInBounds_toArray, List.set_cons_zero, List.set_cons_succ]
      refine call_h 10 rfl (by kernel_rfl) 49 #[.int .i64 y, .int .i64 A, .int .i64 kk, .pointer (some ⟨g5, 0, none⟩)] (by kernel_rfl) (by go_simp) ?_
      refine (HH1.out V HV.out.2.1 HV.out.1).mono ?_
      rintro e V1 ⟨rfl, hb⟩
      have HV2 : Seal (Below w.heap.size w V1 ∧ Below X.heap.size X V1 ∧ keysB l off x.c.K x.c.A now k) := ⟨HV.out.1.trans (hb.mono HV.out.1.size), HV.out.2.1.trans (hb.mono HV.out.2.1.size), HV.out.2.2⟩
      refine ⟨_, rfl, ⟨cell_below' hb hHeld.1, cell_below' hb hHeld.2.1, cell_below' hb hHeld.2.2⟩, fun hHeld2 => ?_⟩
      clear HV hHeld hb
      have HV := HV2
      have hHeld := hHeld2
      clear HV2 hHeld2
      try simp only [Act.put, List.setIfInBounds_toArray, List.set_cons_zero, List.set_cons_succ]
      cases b with
      | false =>
        refine take_h 11 ?_ rfl (by kernel_rfl) (by kernel_rfl) (by kernel_rfl) (fun _ _ _ h => h) (Or.inl ⟨by kernel_rfl, ?_⟩) (by assumption) ?_
        rotate_left
        · (intro w hSw; (try dsimp only at hSw); go_simp; try (with_reducible rfl))
        try simp only [Act.put, List.setIfInBounds_toArray, List.set_cons_zero, List.set_cons_succ]
        refine take_h 12 (.bool true) rfl (by kernel_rfl) (by kernel_rfl) (by kernel_rfl) (fun _ _ _ h => h) (Or.inl ⟨by kernel_rfl, fun w hSw => by (try dsimp only at hSw); go_simp; try omega⟩) (by assumption) ?_
        try simp only [Act.put, List.setIfInBounds_toArray, List.set_cons_zero, List.set_cons_succ]
        refine take_h 13 undef rfl (by kernel_rfl) (by kernel_rfl) (by kernel_rfl) (fun _ _ _ h => h) (Or.inr ⟨by kernel_rfl, rfl⟩) (by assumption) ?_
        try simp only [Act.put, List.setIfInBounds_toArray, List.set_cons_zero, List.set_cons_succ]
        refine take_h 14 undef rfl (by kernel_rfl) (by kernel_rfl) (by kernel_rfl) (fun _ _ _ h => h) (Or.inr ⟨by kernel_rfl, rfl⟩) (by assumption) ?_
        try simp only [Act.put, List.setIfInBounds_toArray, List.set_cons_zero, List.set_cons_succ]
        refine take_h 15 undef rfl (by kernel_rfl) (by kernel_rfl) (by kernel_rfl) (fun _ _ _ h => h) (Or.inr ⟨by kernel_rfl, rfl⟩) (by assumption) ?_
        try simp only [Act.put, List.setIfInBounds_toArray, List.set_cons_zero, List.set_cons_succ]
        refine take_h 16 undef rfl (by kernel_rfl) (by kernel_rfl) (by kernel_rfl) (fun _ _ _ h => h) (Or.inr ⟨by kernel_rfl, rfl⟩) (by assumption) ?_
        try simp only [Act.put, List.setIfInBounds_toArray, List.set_cons_zero, List.set_cons_succ]
        refine take_h 17 undef rfl (by kernel_rfl) (by kernel_rfl) (by kernel_rfl) (fun _ _ _ h => h) (Or.inr ⟨by kernel_rfl, rfl⟩) (by assumption) ?_
        try simp only [Act.put, List.setIfInBounds_toArray, List.set_cons_zero, List.set_cons_succ]
        refine take_h 18 undef rfl (by kernel_rfl) (by kernel_rfl) (by kernel_rfl) (fun _ _ _ h => h) (Or.inr ⟨by kernel_rfl, rfl⟩) (by assumption) ?_
        try simp only [Act.put, List.setIfInBounds_toArray, List.set_cons_zero, List.set_cons_succ]
        refine take_h 19 undef rfl (by kernel_rfl) (by kernel_rfl) (by kernel_rfl) (fun _ _ _ h => h) (Or.inr ⟨by kernel_rfl, rfl⟩) (by assumption) ?_
        try simp only [Act.put, List.setIfInBounds_toArray, List.set_cons_zero, List.set_cons_succ]
        refine take_h 20 undef rfl (by kernel_rfl) (by kernel_rfl) (by kernel_rfl) (fun _ _ _ h => h) (Or.inr ⟨by kernel_rfl, rfl⟩) (by assumption) ?_
        try simp only [Act.put, List.setIfInBounds_toArray, List.set_cons_zero, List.set_cons_succ]
        refine take_h 21 undef rfl (by kernel_rfl) (by kernel_rfl) (by kernel_rfl) (fun _ _ _ h => h) (Or.inr ⟨by kernel_rfl, rfl⟩) (by assumption) ?_
        try simp only [Act.put, List.setIfInBounds_toArray, List.set_cons_zero, List.set_cons_succ]
        refine take_h 22 undef rfl (by kernel_rfl) (by kernel_rfl) (by kernel_rfl) (fun _ _ _ h => h) (Or.inr ⟨by kernel_rfl, rfl⟩) (by assumption) ?_
        try simp only [Act.put, List.setIfInBounds_toArray, List.set_cons_zero, List.set_cons_succ]
        refine take_h 23 ?_ rfl (by kernel_rfl) (by kernel_rfl) (by kernel_rfl) (fun _ _ _ h => h) (Or.inl ⟨by kernel_rfl, ?_⟩) (by assumption) ?_
        rotate_left
        · (intro w hSw; (try dsimp only at hSw); go_simp; try (with_reducible rfl))
        try simp only [Act.put, List.setIfInBounds_toArray, List.set_cons_zero, List.set_cons_succ]
        refine wpAnyH_done (by kernel_rfl) ?_ _
        clear hHeld
        have HF : Seal (RB = false) := ⟨by
          rw [HRB.out]
          unfold timeB
          rw [decide_eq_false (fun h => by
            have h2 := h k (by have := HN.out; omega)
            rw [HY.out.1, HY.out.2.1, ← HY.out.2.2.1, ← HY.out.2.2.2] at h2
            cases h2.1)]
          rfl⟩
        go_wp2
        go_ret
        exact ⟨by rw [HF.out]; rfl, HV.out.1⟩
      | true =>
        refine take_h 11 ?_ rfl (by kernel_rfl) (by kernel_rfl) (by kernel_rfl) (fun _ _ _ h => h) (Or.inl ⟨by kernel_rfl, ?_⟩) (by assumption) ?_
        rotate_left
        · (intro w hSw; (try dsimp only at hSw); go_simp; try (with_reducible rfl))
        try simp only [Act.put, List.setIfInBounds_toArray, List.set_cons_zero, List.set_cons_succ]
        refine take_h 12 (.bool false) rfl (by kernel_rfl) (by kernel_rfl) (by kernel_rfl) (fun _ _ _ h => h) (Or.inl ⟨by kernel_rfl, fun w hSw => by (try dsimp only at hSw); go_simp; try omega⟩) (by assumption) ?_
        try simp only [Act.put, List.setIfInBounds_toArray, List.set_cons_zero, List.set_cons_succ]
        refine take_h 13 ?_ rfl (by kernel_rfl) (by kernel_rfl) (by kernel_rfl) (fun _ _ _ h => h) (Or.inl ⟨by kernel_rfl, ?_⟩) (by assumption) ?_
        rotate_left
        · (intro w hSw; (try dsimp only at hSw); go_simp; try (with_reducible rfl))
        try simp only [Act.put, List.setIfInBounds_toArray, List.set_cons_zero, List.set_cons_succ]
        refine take_h 14 ?_ rfl (by kernel_rfl) (by kernel_rfl) (by kernel_rfl) (fun _ _ _ h => h) (Or.inl ⟨by kernel_rfl, ?_⟩) (by assumption) ?_
        rotate_left
        · (intro w hSw; (try dsimp only at hSw); go_simp; try (with_reducible rfl))
        try simp only [Act.put, List.setIfInBounds_toArray, List.set_cons_zero, List.set_cons_succ]
        refine take_h 15 ?_ rfl (by kernel_rfl) (by kernel_rfl) (by kernel_rfl) (fun _ _ _ h => h) (Or.inl ⟨by kernel_rfl, ?_⟩) (by assumption) ?_
        rotate_left
        · (intro w hSw; (try dsimp only at hSw); go_simp; try (with_reducible rfl))
        try simp only [Act.put, List.setIfInBounds_toArray, List.set_cons_zero, List.set_cons_succ]
        refine take_h 16 ?_ rfl (by kernel_rfl) (by kernel_rfl) (by kernel_rfl) (fun _ _ _ h => h) (Or.inl ⟨by kernel_rfl, ?_⟩) (by assumption) ?_
        rotate_left
        · (intro w hSw; (try dsimp only at hSw); go_simp; try (with_reducible rfl))
        try simp only [Act.put, List.setIfInBounds_toArray, List.set_cons_zero, List.set_cons_succ]
        refine take_h 17 ?_ rfl (by kernel_rfl) (by kernel_rfl) (by kernel_rfl) (fun _ _ _ h => h) (Or.inl ⟨by kernel_rfl, ?_⟩) (by assumption) ?_
        rotate_left
        · (intro w hSw; (try dsimp only at hSw); go_simp; try (with_reducible rfl))
        try simp only [Act.put, List.setIfInBounds_toArray, List.set_cons_zero, List.set_cons_succ]
        refine take_h 18 ?_ rfl (by kernel_rfl) (by kernel_rfl) (by kernel_rfl) (fun _ _ _ h => h) (Or.inl ⟨by kernel_rfl, ?_⟩) (by assumption) ?_
        rotate_left
        · (intro w hSw; (try dsimp only at hSw); go_simp; try (with_reducible rfl))
        try simp only [Act.put, List.setIfInBounds_toArray, List.set_cons_zero, List.set_cons_succ]
        refine take_h 19 ?_ rfl (by kernel_rfl) (by kernel_rfl) (by kernel_rfl) (fun _ _ _ h => h) (Or.inl ⟨by kernel_rfl, ?_⟩) (by assumption) ?_
        rotate_left
        · (intro w hSw; (try dsimp only at hSw); go_simp; try (with_reducible rfl))
        try simp only [Act.put, List.setIfInBounds_toArray, List.set_cons_zero, List.set_cons_succ]
        refine take_h 20 ?_ rfl (by kernel_rfl) (by kernel_rfl) (by kernel_rfl) (fun _ _ _ h => h) (Or.inl ⟨by kernel_rfl, ?_⟩) (by assumption) ?_
        rotate_left
        · (intro w hSw; (try dsimp only at hSw); go_simp; try (with_reducible rfl))
        try simp only [Act.put, List.setIfInBounds_toArray, List.set_cons_zero, List.set_cons_succ]
        refine call_h 21 rfl (by kernel_rfl) 49 #[.int .i64 y, .int .i64 now, .int .i64 kk, .pointer (some ⟨g5, 0, none⟩)] (by kernel_rfl) (by go_simp) ?_
        refine (HH2.out V1 HV.out.2.1 HV.out.1).mono ?_
        rintro e V2 ⟨rfl, hb⟩
        have HV2 : Seal (Below w.heap.size w V2 ∧ Below X.heap.size X V2 ∧ keysB l off x.c.K x.c.A now k) := ⟨HV.out.1.trans (hb.mono HV.out.1.size), HV.out.2.1.trans (hb.mono HV.out.2.1.size), HV.out.2.2⟩
        refine ⟨_, rfl, ⟨cell_below' hb hHeld.1, cell_below' hb hHeld.2.1, cell_below' hb hHeld.2.2⟩, fun hHeld2 => ?_⟩
        clear HV hHeld hb
        have HV := HV2
        have hHeld := hHeld2
        clear HV2 hHeld2
        try simp only [Act.put, List.setIfInBounds_toArray, List.set_cons_zero, List.set_cons_succ]
        cases d with
        | false =>
          refine take_h 22 ?_ rfl (by kernel_rfl) (by kernel_rfl) (by kernel_rfl) (fun _ _ _ h => h) (Or.inl ⟨by kernel_rfl, ?_⟩) (by assumption) ?_
          rotate_left
          · (intro w hSw; (try dsimp only at hSw); go_simp; try (with_reducible rfl))
          try simp only [Act.put, List.setIfInBounds_toArray, List.set_cons_zero, List.set_cons_succ]
          refine take_h 23 ?_ rfl (by kernel_rfl) (by kernel_rfl) (by kernel_rfl) (fun _ _ _ h => h) (Or.inl ⟨by kernel_rfl, ?_⟩) (by assumption) ?_
          rotate_left
          · (intro w hSw; (try dsimp only at hSw); go_simp; try (with_reducible rfl))
          try simp only [Act.put, List.setIfInBounds_toArray, List.set_cons_zero, List.set_cons_succ]
          refine wpAnyH_done (by kernel_rfl) ?_ _
          clear hHeld
          have HF : Seal (RB = false) := ⟨by
            rw [HRB.out]
            unfold timeB
            rw [decide_eq_false (fun h => by
              have h2 := h k (by have := HN.out; omega)
              rw [HY.out.1, HY.out.2.1, ← HY.out.2.2.1, ← HY.out.2.2.2] at h2
              cases h2.2)]
            rfl⟩
          go_wp2
          go_ret
          exact ⟨by rw [HF.out]; rfl, HV.out.1⟩
        | true =>
          refine take_h 22 ?_ rfl (by kernel_rfl) (by kernel_rfl) (by kernel_rfl) (fun _ _ _ h => h) (Or.inl ⟨by kernel_rfl, ?_⟩) (by assumption) ?_
          rotate_left
          · (intro w hSw; (try dsimp only at hSw); go_simp; try (with_reducible rfl))
          try simp only [Act.put, List.setIfInBounds_toArray, List.set_cons_zero, List.set_cons_succ]
          refine take_h 23 ?_ rfl (by kernel_rfl) (by kernel_rfl) (by kernel_rfl) (fun _ _ _ h => h) (Or.inl ⟨by kernel_rfl, ?_⟩) (by assumption) ?_
          rotate_left
          · (intro w hSw; (try dsimp only at hSw); go_simp; try (with_reducible rfl))
          try simp only [Act.put, List.setIfInBounds_toArray, List.set_cons_zero, List.set_cons_succ]
          refine wpAnyH_done (by kernel_rfl) ?_ _
          clear hHeld
          have HN2 : Seal (Below w.heap.size w V2 ∧ Below X.heap.size X V2 ∧ keysB l off x.c.K x.c.A now (k + 1)) := ⟨HV.out.1, HV.out.2.1, keysB_succ.2 ⟨HV.out.2.2, by rw [HY.out.1, HY.out.2.1]; exact ⟨HY.out.2.2.1.symm, HY.out.2.2.2.symm⟩⟩⟩
          go_wp2
          go_roundw
          case rel => exact ⟨k + 1, by omega, by go_num, HN2⟩
          case measure => simp [intOf]; omega
    · obtain rfl : k = n := by omega
      have q5 : ¬ (k : Int) < (k : Int) := by omega
      obtain ⟨k5, k1, k4, k14⟩ := HC.out wo hH.out.2.1
      have HB := Seal.mk hH.out.1
      have HT : Seal (timeB l off x.c now term = (decide (T ≤ now) && decide (now - T ≤ term))) := ⟨by unfold timeB; rw [HN.out.2.1, decide_eq_true hH.out.2.2, HX.out.2.1]; rfl⟩
      have q7 : IntKind.i64.wrap (now - T) = now - T := IntWalk.i64_in _ (by omega)
      clear hH
      by_cases h1 : T ≤ now
      · by_cases h2 : now - T ≤ term
        · have HF : Seal (RB = true) := ⟨by rw [HRB.out, HT.out, decide_eq_true h1, decide_eq_true h2]; rfl⟩
          go_wp2
          go_ret
          exact ⟨by rw [HF.out]; simp, HB.out⟩
        · have HF : Seal (RB = false) := ⟨by rw [HRB.out, HT.out, decide_eq_false h2]; simp⟩
          go_wp2
          go_ret
          exact ⟨by rw [HF.out]; simp, HB.out⟩
      · have HF : Seal (RB = false) := ⟨by rw [HRB.out, HT.out, decide_eq_false h1]; rfl⟩
        go_wp2
        go_ret
        exact ⟨by rw [HF.out]; rfl, HB.out⟩
end Frk
