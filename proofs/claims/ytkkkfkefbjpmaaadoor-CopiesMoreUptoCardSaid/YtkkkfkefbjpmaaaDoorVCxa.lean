/- Law 51: orders, maps, clashes, slices: joined. -/
import Derived.Test.YtkkkfkefbjpmaaaDoorVMka
import Derived.Maps.OwnIn
import Derived.DeepKeys4
import Derived.Test.YtkkkfkefbjpmaaaDoorVMem
import Derived.RangeFuncCalls
namespace Frk
open Go Go.RowKit Go.Proofs
set_option maxRecDepth 100000

/-- a slot's cells -/
def slC (h : Hd) : List Value := [.int .i64 h.fr, .int .i64 h.L, .int .i64 h.A, .int .i64 h.R, .int .i64 h.leg]

theorem cof_any (h : Hd) (w : World) (k : h.T.length = 32) :
    Calls Tryd.prog 106 #[.agg h.C.toArray] w fun e w' => e = .returned (.agg (slC h).toArray) ∧ Below w.heap.size w w' := by
  unfold slC
  obtain ⟨C, hC⟩ : ∃ C, C = h.C.toArray := ⟨_, rfl⟩
  obtain ⟨X, hX⟩ : ∃ X : World, X = (w.alloc (.cells C 29)).alloc (.cells #[.int .i64 0, .int .i64 0, .int .i64 0, .int .i64 0, .int .i64 0] 152) := ⟨_, rfl⟩
  have hXb : Seal (Below w.heap.size w X) := ⟨by rw [hX]; exact ((Below.refl _ w).alloc (Nat.le_refl _) _).alloc (by simp) _⟩
  have hXn : X.heap[w.heap.size]? = some (.cells h.C.toArray 29 (0, 0)) := by rw [hX, hC]; exact heap_alloc2_old w _ _
  have hXz : Seal (X.heap[w.heap.size + 1]? = some (.cells #[.int .i64 0, .int .i64 0, .int .i64 0, .int .i64 0, .int .i64 0] 152 (0, 0))) := ⟨by rw [hX]; exact heap_alloc2_new w _ _⟩
  obtain ⟨c0, c1, c2, c3, c4, c5, c6, c39, c40, c41, ctx⟩ := hdAt_of k hXn
  have i4 : (Tryd.prog.info? 152).map (·.size) = some (#[Value.int .i64 h.fr, .int .i64 h.L, .int .i64 h.A, .int .i64 h.R, .int .i64 h.leg]).size := by kernel_rfl
  have a4 : (#[Value.int .i64 h.fr, .int .i64 h.L, .int .i64 h.A, .int .i64 h.R, .int .i64 h.leg]).all (·.oneCell') = true := by simp [Value.oneCell']
  rw [← hC]
  clear hXn hC k c5 c6 c39 c40 c41 ctx
  go_enter Tryd.func106, Tryd.ntmps106
  go_upto_region 1 with (fail)
  rw [← hX]
  clear hX
  go_wp2_with (refine wpList_store_row rfl 152 (.tmp 2) (.tmp 9) rfl (w.heap.size + 1) #[.int .i64 h.fr, .int .i64 h.L, .int .i64 h.A, .int .i64 h.R, .int .i64 h.leg] rfl rfl 152 #[.int .i64 0, .int .i64 0, .int .i64 0, .int .i64 0, .int .i64 0] hXz.out i4 rfl a4 ?_)
  refine bodyPost_ret (results_cell_row (fn := Tryd.f106) rfl _ _ (w.heap.size + 1) 152 #[.int .i64 h.fr, .int .i64 h.L, .int .i64 h.A, .int .i64 h.R, .int .i64 h.leg] (0, 0) _ rfl (setRow_heap _ _ _ _ _ _ hXz.out) Tryd.underlying152 rfl i4) rfl ⟨rfl, below_row hXb.out (Nat.le_add_right _ _) _⟩

theorem isnan_any (x : Int) (w : World) : Calls Tryd.prog 138 #[.int .i64 x] w fun e w' => e = .returned (.bool false) ∧ w = w' := by
  go_enter Tryd.func138, Tryd.ntmps138
  go_wp2
  go_ret
  exact ⟨ret_bool (by simp), rfl⟩

def cmpI (x y : Int) : Int := if x < y then -1 else if x > y then 1 else 0
theorem ccmp_any (x y : Int) (w : World) : Calls Tryd.prog 128 #[.int .i64 x, .int .i64 y] w fun e w' => e = .returned (.int .i64 (cmpI x y)) ∧ w = w' := by
  rcases Int.lt_trichotomy x y with h | h | h
  · have e : cmpI x y = -1 := by unfold cmpI; rw [if_pos h]
    rw [e]
    clear e
    go_enter Tryd.func128, Tryd.ntmps128
    go_wp2_with (first | (go_at_call 138; refine (isnan_any _ _).mono ?_; rintro e w' ⟨rfl, rfl⟩))
    go_ret
    exact ⟨rfl, rfl⟩
  · have e : cmpI x y = 0 := by unfold cmpI; rw [if_neg (by omega), if_neg (by omega)]
    rw [e]
    have h1 : ¬ x < y := by omega
    have h2 : ¬ y < x := by omega
    clear e h
    go_enter Tryd.func128, Tryd.ntmps128
    go_wp2_with (first | (go_at_call 138; refine (isnan_any _ _).mono ?_; rintro e w' ⟨rfl, rfl⟩))
    go_ret
    exact ⟨rfl, rfl⟩
  · have e : cmpI x y = 1 := by unfold cmpI; rw [if_neg (by omega), if_pos h]
    rw [e]
    have h1 : ¬ x < y := by omega
    clear e
    go_enter Tryd.func128, Tryd.ntmps128
    go_wp2_with (first | (go_at_call 138; refine (isnan_any _ _).mono ?_; rintro e w' ⟨rfl, rfl⟩))
    go_ret
    exact ⟨rfl, rfl⟩

def orL : List Int → Int
  | [] => 0
  | x :: r => if x = 0 then orL r else x
theorem cor_any (g n : Nat) (l : List Int) (w : World) (hl : l.length = n) (hn : n ≤ 1000) (hr : w.rangeAt g 0 (l.map (Value.int .i64))) :
    Calls Tryd.prog 127 #[.slice (some ⟨g, 0, none⟩) n n] w fun e w' => e = .returned (.int .i64 (orL l)) ∧ w = w' := by
  have HR := Seal.mk (And.intro hr hl)
  clear hr hl
  go_enter Tryd.func127, Tryd.ntmps127
  go_wp2
  go_loop [8] (fun i => ∃ k, k ≤ n ∧ i = .int .i64 (k : Nat) ∧ orL l = orL (l.drop k)) (fun i => n - (intOf i).toNat)
  case atStart => exact ⟨0, by omega, rfl, rfl⟩
  case round =>
    obtain ⟨k, hk, rfl, he⟩ := hrel
    by_cases hlt : k < n
    · have hq : (k : Int) < (n : Int) := by omega
      obtain ⟨x, hx⟩ : ∃ x, l[k]? = some x := ⟨_, List.getElem?_eq_getElem (by have := HR.out.2; omega)⟩
      have cx : w.cell? ⟨g, k, none⟩ = some (.int .i64 x) := by have := HR.out.1 k (.int .i64 x) (by rw [List.getElem?_map, hx]; rfl); simpa using this
      have hd : l.drop k = x :: l.drop (k + 1) := by
        obtain ⟨h1, h2⟩ := List.getElem?_eq_some_iff.1 hx
        rw [List.drop_eq_getElem_cons h1, h2]
      have HE : Seal (orL l = if x = 0 then orL (l.drop (k + 1)) else x) := ⟨by rw [he, hd]; rfl⟩
      clear he hd hx
      by_cases h0 : x = 0
      · subst h0
        go_wp2
        go_round
        case rel => exact ⟨k + 1, by omega, by go_num, by rw [HE.out, if_pos rfl]⟩
        case measure => simp [intOf]; omega
      · go_wp2
        go_ret
        rw [HE.out, if_neg h0]
        exact ⟨rfl, rfl⟩
    · obtain rfl : k = n := by omega
      have hq : ¬ (k : Int) < (k : Int) := by omega
      have HE : Seal (orL l = 0) := ⟨by rw [he, List.drop_of_length_le (by have := HR.out.2; omega)]; rfl⟩
      clear he
      go_wp2
      go_ret
      rw [HE.out]
      exact ⟨rfl, rfl⟩

def CutA {α : Type} (F : α → Act) (R : α → World → Prop) : Exit → Act → World → Prop
  | .normal, a, W => ∃ x, a = F x ∧ R x W
  | _, _, _ => False
theorem wp_cutA {α : Type} {P : Program} {c : Code} {Q : Exit → Act → World → Prop} {a : Act} {w : World} (F : α → Act) (R : α → World → Prop)
    (h : c.wp P (CutA F R) a w) (hQ : ∀ x W, R x W → Q .normal (F x) W) : c.wp P Q a w :=
  Code.wp_mono (fun e a W hq => by
    cases e with
    | normal => obtain ⟨x, ha, hR⟩ := hq; subst ha; exact hQ x W hR
    | _ => exact hq.elim) h

/-- the order of slots of one office -/
def ordI (a b : Hd) : Int := orL [cmpI a.A b.A, cmpI a.L b.L, cmpI a.R b.R, cmpI a.leg b.leg]
def lieC (a b : Hd) : List Value := a.C ++ b.C
theorem lieC_len {a b : Hd} (ka : a.T.length = 32) (kb : b.T.length = 32) : (lieC a b).length = 84 := by unfold lieC; rw [List.length_append, Hd.C_len ka, Hd.C_len kb]

set_option maxHeartbeats 4000000 in
theorem corder_any (a b c d : Hd) (w : World) (ka : a.T.length = 32) (_kb : b.T.length = 32) (kc : c.T.length = 32) (_kd : d.T.length = 32) :
    Calls Tryd.prog 108 #[.agg (lieC a b).toArray, .agg (lieC c d).toArray] w fun e w' => e = .returned (.int .i64 (ordI a c)) ∧ Below w.heap.size w w' := by
  obtain ⟨CA, hCA⟩ : ∃ CA, CA = lieC a b := ⟨_, rfl⟩
  obtain ⟨CC, hCC⟩ : ∃ CC, CC = lieC c d := ⟨_, rfl⟩
  obtain ⟨X, hX⟩ : ∃ X : World, X = (w.alloc (.cells CA.toArray 74)).alloc (.cells CC.toArray 74) := ⟨_, rfl⟩
  have hXb : Seal (Below w.heap.size w X) := ⟨by rw [hX]; exact ((Below.refl _ w).alloc (Nat.le_refl _) _).alloc (by simp) _⟩
  have hXs : Seal (X.heap.size = w.heap.size + 2) := ⟨by rw [hX]; simp⟩
  have rA0 : X.rangeAt w.heap.size 0 CA := by rw [hX]; exact World.rangeAt_alloc (rangeAt_row (heap_alloc_new w _)) _
  have rC0 : X.rangeAt (w.heap.size + 1) 0 CC := by
    rw [hX]
    have := heap_alloc_new (w.alloc (.cells CA.toArray 74)) (.cells CC.toArray 74)
    rw [size_alloc] at this
    exact rangeAt_row this
  have rA : X.rangeAt w.heap.size 0 a.C := by have := rangeAt_take rA0 42; rw [hCA] at this; unfold lieC at this; rwa [List.take_left' (Hd.C_len ka)] at this
  have rC : X.rangeAt (w.heap.size + 1) 0 c.C := by have := rangeAt_take rC0 42; rw [hCC] at this; unfold lieC at this; rwa [List.take_left' (Hd.C_len kc)] at this
  obtain ⟨HA, hHA⟩ : ∃ x, x = a.C := ⟨_, rfl⟩
  obtain ⟨HC, hHC⟩ : ∃ x, x = c.C := ⟨_, rfl⟩
  have iA : (Tryd.prog.info? 29).map (·.size) = some HA.length := by rw [hHA]; exact Hd.C_info ka
  have iC : (Tryd.prog.info? 29).map (·.size) = some HC.length := by rw [hHC]; exact Hd.C_info kc
  have HO1 : Seal (∀ W, Calls Tryd.prog 106 #[.agg HA.toArray] W fun e w' => e = .returned (.agg (slC a).toArray) ∧ Below W.heap.size W w') := ⟨fun W => by rw [hHA]; exact cof_any a W ka⟩
  have HO2 : Seal (∀ W, Calls Tryd.prog 106 #[.agg HC.toArray] W fun e w' => e = .returned (.agg (slC c).toArray) ∧ Below W.heap.size W w') := ⟨fun W => by rw [hHC]; exact cof_any c W kc⟩
  have uH := Tryd.underlying29
  rw [← hHA] at rA
  rw [← hHC] at rC
  rw [← hCA, ← hCC]
  clear hCA hCC hHA hHC ka kc rA0 rC0
  go_enter Tryd.func108, Tryd.ntmps108
  go_upto_region 1 with (fail)
  rw [← hX]
  have i5 : (Tryd.prog.info? 152).map (·.size) = some 5 := by kernel_rfl
  obtain ⟨SA, hSA⟩ : ∃ x, x = (slC a).toArray := ⟨_, rfl⟩
  obtain ⟨SC, hSC⟩ : ∃ x, x = (slC c).toArray := ⟨_, rfl⟩
  have HSA : Seal ((Tryd.prog.info? 152).map (·.size) = some SA.size ∧ (#[.int .i64 0, .int .i64 0, .int .i64 0, .int .i64 0, .int .i64 0] : Array Value).size = SA.size ∧ SA.all (·.oneCell') = true) := ⟨by rw [hSA]; exact i5, by rw [hSA]; rfl, by rw [hSA]; simp [slC, Value.oneCell']⟩
  have HSC : Seal ((Tryd.prog.info? 152).map (·.size) = some SC.size ∧ (#[.int .i64 0, .int .i64 0, .int .i64 0, .int .i64 0, .int .i64 0] : Array Value).size = SC.size ∧ SC.all (·.oneCell') = true) := ⟨by rw [hSC]; exact i5, by rw [hSC]; rfl, by rw [hSC]; simp [slC, Value.oneCell']⟩
  rw [← hSA] at HO1
  rw [← hSC] at HO2
  have HSq := Seal.mk (And.intro hSA hSC)
  clear hSA hSC i5
  refine wp_cutA (fun x : Nat × Nat => { tmps := #[.agg CA.toArray, .agg CC.toArray, .pointer (some ⟨w.heap.size, 0, none⟩), .pointer (some ⟨w.heap.size + 1, 0, none⟩), .int .i64 0, .pointer (some ⟨x.1, 0, none⟩), .pointer (some ⟨x.2, 0, none⟩), .pointer (some ⟨w.heap.size, 0, none⟩), .agg HA.toArray, .agg SA, .pointer (some ⟨w.heap.size + 1, 0, none⟩), .agg HC.toArray, .agg SC, undef, undef, undef, undef, undef, undef, undef, undef, undef, undef, undef, undef, undef, undef, undef, undef, undef, undef, undef, undef, undef, undef, undef, undef, undef, undef, undef, undef], defers := [] })
    (fun x W => W.heap[x.1]? = some (.cells SA 152 (0, 0)) ∧ W.heap[x.2]? = some (.cells SC 152 (0, 0)) ∧ Below w.heap.size w W) ?_ ?_
  rotate_left
  · rintro ⟨g5, g6⟩ W ⟨h5, h6, hb⟩
    dsimp only at h5 h6 ⊢
    rw [HSq.out.1] at h5
    rw [HSq.out.2] at h6
    have a1 : W.cell? ⟨g5, 1, none⟩ = some (.int .i64 a.L) := by rw [cell_of_row _ _ _ _ _ _ h5]; rfl
    have a2 : W.cell? ⟨g5, 2, none⟩ = some (.int .i64 a.A) := by rw [cell_of_row _ _ _ _ _ _ h5]; rfl
    have a3 : W.cell? ⟨g5, 3, none⟩ = some (.int .i64 a.R) := by rw [cell_of_row _ _ _ _ _ _ h5]; rfl
    have a4 : W.cell? ⟨g5, 4, none⟩ = some (.int .i64 a.leg) := by rw [cell_of_row _ _ _ _ _ _ h5]; rfl
    have b1 : W.cell? ⟨g6, 1, none⟩ = some (.int .i64 c.L) := by rw [cell_of_row _ _ _ _ _ _ h6]; rfl
    have b2 : W.cell? ⟨g6, 2, none⟩ = some (.int .i64 c.A) := by rw [cell_of_row _ _ _ _ _ _ h6]; rfl
    have b3 : W.cell? ⟨g6, 3, none⟩ = some (.int .i64 c.R) := by rw [cell_of_row _ _ _ _ _ _ h6]; rfl
    have b4 : W.cell? ⟨g6, 4, none⟩ = some (.int .i64 c.leg) := by rw [cell_of_row _ _ _ _ _ _ h6]; rfl
    have HBW := Seal.mk hb
    clear h5 h6 hb HO1 HO2 HSA HSC hXb rA rC iA iC uH hX
    go_wp2_with fail
    refine wp_region_held_drew (S := fun w' => (w'.cell? ⟨g5, 1, none⟩ = some (.int .i64 a.L) ∧ w'.cell? ⟨g5, 2, none⟩ = some (.int .i64 a.A) ∧ w'.cell? ⟨g5, 3, none⟩ = some (.int .i64 a.R) ∧ w'.cell? ⟨g5, 4, none⟩ = some (.int .i64 a.leg)) ∧ (w'.cell? ⟨g6, 1, none⟩ = some (.int .i64 c.L) ∧ w'.cell? ⟨g6, 2, none⟩ = some (.int .i64 c.A) ∧ w'.cell? ⟨g6, 3, none⟩ = some (.int .i64 c.R) ∧ w'.cell? ⟨g6, 4, none⟩ = some (.int .i64 c.leg))) (by kernel_rfl) ⟨⟨a1, a2, a3, a4⟩, ⟨b1, b2, b3, b4⟩⟩ (fun hHeld => ?_)
    obtain ⟨V, hV⟩ : ∃ V, V = W.drew := ⟨_, rfl⟩
    have HV : Seal (Below w.heap.size w V) := ⟨by rw [hV]; exact HBW.out.trans ((below_drewn W).mono HBW.out.size)⟩
    rw [← hV] at hHeld ⊢
    clear hV a1 a2 a3 a4 b1 b2 b3 b4
    refine take_h 0 ?_ rfl (by kernel_rfl) (by kernel_rfl) (by kernel_rfl) (fun _ _ _ h => h) (Or.inl ⟨by kernel_rfl, ?_⟩) (by assumption) ?_
    rotate_left
    · (intro w hSw; (try dsimp only at hSw); go_simp; try (with_reducible rfl))
    try simp only [Act.put, List.setIfInBounds_toArray, List.set_cons_zero, List.set_cons_succ]
    refine take_h 1 ?_ rfl (by kernel_rfl) (by kernel_rfl) (by kernel_rfl) (fun _ _ _ h => h) (Or.inl ⟨by kernel_rfl, ?_⟩) (by assumption) ?_
    rotate_left
    · (intro w hSw; (try dsimp only at hSw); go_simp; try (with_reducible rfl))
    try simp only [Act.put, List.setIfInBounds_toArray, List.set_cons_zero, List.set_cons_succ]
    refine take_h 2 ?_ rfl (by kernel_rfl) (by kernel_rfl) (by kernel_rfl) (fun _ _ _ h => h) (Or.inl ⟨by kernel_rfl, ?_⟩) (by assumption) ?_
    rotate_left
    · (intro w hSw; (try dsimp only at hSw); go_simp; try (with_reducible rfl))
    try simp only [Act.put, List.setIfInBounds_toArray, List.set_cons_zero, List.set_cons_succ]
    refine take_h 3 ?_ rfl (by kernel_rfl) (by kernel_rfl) (by kernel_rfl) (fun _ _ _ h => h) (Or.inl ⟨by kernel_rfl, ?_⟩) (by assumption) ?_
    rotate_left
    · (intro w hSw; (try dsimp only at hSw); go_simp; try (with_reducible rfl))
    try simp only [Act.put, List.setIfInBounds_toArray, List.set_cons_zero, List.set_cons_succ]
    refine take_h 4 ?_ rfl (by kernel_rfl) (by kernel_rfl) (by kernel_rfl) (fun _ _ _ h => h) (Or.inl ⟨by kernel_rfl, ?_⟩) (by assumption) ?_
    rotate_left
    · (intro w hSw; (try dsimp only at hSw); go_simp; try (with_reducible rfl))
    try simp only [Act.put, List.setIfInBounds_toArray, List.set_cons_zero, List.set_cons_succ]
    refine take_h 5 ?_ rfl (by kernel_rfl) (by kernel_rfl) (by kernel_rfl) (fun _ _ _ h => h) (Or.inl ⟨by kernel_rfl, ?_⟩) (by assumption) ?_
    rotate_left
    · (intro w hSw; (try dsimp only at hSw); go_simp; try (with_reducible rfl))
    try simp only [Act.put, List.setIfInBounds_toArray, List.set_cons_zero, List.set_cons_succ]
    refine take_h 7 ?_ rfl (by kernel_rfl) (by kernel_rfl) (by kernel_rfl) (fun _ _ _ h => h) (Or.inl ⟨by kernel_rfl, ?_⟩) (by assumption) ?_
    rotate_left
    · (intro w hSw; (try dsimp only at hSw); go_simp; try (with_reducible rfl))
    try simp only [Act.put, List.setIfInBounds_toArray, List.set_cons_zero, List.set_cons_succ]
    refine take_h 8 ?_ rfl (by kernel_rfl) (by kernel_rfl) (by kernel_rfl) (fun _ _ _ h => h) (Or.inl ⟨by kernel_rfl, ?_⟩) (by assumption) ?_
    rotate_left
    · (intro w hSw; (try dsimp only at hSw); go_simp; try (with_reducible rfl))
    try simp only [Act.put, List.setIfInBounds_toArray, List.set_cons_zero, List.set_cons_succ]
    refine take_h 9 ?_ rfl (by kernel_rfl) (by kernel_rfl) (by kernel_rfl) (fun _ _ _ h => h) (Or.inl ⟨by kernel_rfl, ?_⟩) (by assumption) ?_
    rotate_left
    · (intro w hSw; (try dsimp only at hSw); go_simp; try (with_reducible rfl))
    try simp only [Act.put, List.setIfInBounds_toArray, List.set_cons_zero, List.set_cons_succ]
    refine take_h 10 ?_ rfl (by kernel_rfl) (by kernel_rfl) (by kernel_rfl) (fun _ _ _ h => h) (Or.inl ⟨by kernel_rfl, ?_⟩) (by assumption) ?_
    rotate_left
    · (intro w hSw; (try dsimp only at hSw); go_simp; try (with_reducible rfl))
    try simp only [Act.put, List.setIfInBounds_toArray, List.set_cons_zero, List.set_cons_succ]
    refine take_h 11 ?_ rfl (by kernel_rfl) (by kernel_rfl) (by kernel_rfl) (fun _ _ _ h => h) (Or.inl ⟨by kernel_rfl, ?_⟩) (by assumption) ?_
    rotate_left
    · (intro w hSw; (try dsimp only at hSw); go_simp; try (with_reducible rfl))
    try simp only [Act.put, List.setIfInBounds_toArray, List.set_cons_zero, List.set_cons_succ]
    refine take_h 12 ?_ rfl (by kernel_rfl) (by kernel_rfl) (by kernel_rfl) (fun _ _ _ h => h) (Or.inl ⟨by kernel_rfl, ?_⟩) (by assumption) ?_
    rotate_left
    · (intro w hSw; (try dsimp only at hSw); go_simp; try (with_reducible rfl))
    try simp only [Act.put, List.setIfInBounds_toArray, List.set_cons_zero, List.set_cons_succ]
    refine take_h 14 ?_ rfl (by kernel_rfl) (by kernel_rfl) (by kernel_rfl) (fun _ _ _ h => h) (Or.inl ⟨by kernel_rfl, ?_⟩) (by assumption) ?_
    rotate_left
    · (intro w hSw; (try dsimp only at hSw); go_simp; try (with_reducible rfl))
    try simp only [Act.put, List.setIfInBounds_toArray, List.set_cons_zero, List.set_cons_succ]
    refine take_h 15 ?_ rfl (by kernel_rfl) (by kernel_rfl) (by kernel_rfl) (fun _ _ _ h => h) (Or.inl ⟨by kernel_rfl, ?_⟩) (by assumption) ?_
    rotate_left
    · (intro w hSw; (try dsimp only at hSw); go_simp; try (with_reducible rfl))
    try simp only [Act.put, List.setIfInBounds_toArray, List.set_cons_zero, List.set_cons_succ]
    refine take_h 16 ?_ rfl (by kernel_rfl) (by kernel_rfl) (by kernel_rfl) (fun _ _ _ h => h) (Or.inl ⟨by kernel_rfl, ?_⟩) (by assumption) ?_
    rotate_left
    · (intro w hSw; (try dsimp only at hSw); go_simp; try (with_reducible rfl))
    try simp only [Act.put, List.setIfInBounds_toArray, List.set_cons_zero, List.set_cons_succ]
    refine take_h 17 ?_ rfl (by kernel_rfl) (by kernel_rfl) (by kernel_rfl) (fun _ _ _ h => h) (Or.inl ⟨by kernel_rfl, ?_⟩) (by assumption) ?_
    rotate_left
    · (intro w hSw; (try dsimp only at hSw); go_simp; try (with_reducible rfl))
    try simp only [Act.put, List.setIfInBounds_toArray, List.set_cons_zero, List.set_cons_succ]
    refine take_h 18 ?_ rfl (by kernel_rfl) (by kernel_rfl) (by kernel_rfl) (fun _ _ _ h => h) (Or.inl ⟨by kernel_rfl, ?_⟩) (by assumption) ?_
    rotate_left
    · (intro w hSw; (try dsimp only at hSw); go_simp; try (with_reducible rfl))
    try simp only [Act.put, List.setIfInBounds_toArray, List.set_cons_zero, List.set_cons_succ]
    refine take_h 19 ?_ rfl (by kernel_rfl) (by kernel_rfl) (by kernel_rfl) (fun _ _ _ h => h) (Or.inl ⟨by kernel_rfl, ?_⟩) (by assumption) ?_
    rotate_left
    · (intro w hSw; (try dsimp only at hSw); go_simp; try (with_reducible rfl))
    try simp only [Act.put, List.setIfInBounds_toArray, List.set_cons_zero, List.set_cons_succ]
    refine take_h 21 ?_ rfl (by kernel_rfl) (by kernel_rfl) (by kernel_rfl) (fun _ _ _ h => h) (Or.inl ⟨by kernel_rfl, ?_⟩) (by assumption) ?_
    rotate_left
    · (intro w hSw; (try dsimp only at hSw); go_simp; try (with_reducible rfl))
    try simp only [Act.put, List.setIfInBounds_toArray, List.set_cons_zero, List.set_cons_succ]
    refine take_h 22 ?_ rfl (by kernel_rfl) (by kernel_rfl) (by kernel_rfl) (fun _ _ _ h => h) (Or.inl ⟨by kernel_rfl, ?_⟩) (by assumption) ?_
    rotate_left
    · (intro w hSw; (try dsimp only at hSw); go_simp; try (with_reducible rfl))
    try simp only [Act.put, List.setIfInBounds_toArray, List.set_cons_zero, List.set_cons_succ]
    refine take_h 23 ?_ rfl (by kernel_rfl) (by kernel_rfl) (by kernel_rfl) (fun _ _ _ h => h) (Or.inl ⟨by kernel_rfl, ?_⟩) (by assumption) ?_
    rotate_left
    · (intro w hSw; (try dsimp only at hSw); go_simp; try (with_reducible rfl))
    try simp only [Act.put, List.setIfInBounds_toArray, List.set_cons_zero, List.set_cons_succ]
    refine take_h 24 ?_ rfl (by kernel_rfl) (by kernel_rfl) (by kernel_rfl) (fun _ _ _ h => h) (Or.inl ⟨by kernel_rfl, ?_⟩) (by assumption) ?_
    rotate_left
    · (intro w hSw; (try dsimp only at hSw); go_simp; try (with_reducible rfl))
    try simp only [Act.put, List.setIfInBounds_toArray, List.set_cons_zero, List.set_cons_succ]
    refine call_h 6 rfl (by kernel_rfl) 128 #[.int .i64 a.A, .int .i64 c.A] (by kernel_rfl) (by go_simp) ?_
    refine (ccmp_any a.A c.A V).mono ?_
    rintro e w' ⟨rfl, rfl⟩
    refine ⟨_, rfl, hHeld, fun _ => ?_⟩
    try simp only [Act.put, List.setIfInBounds_toArray, List.set_cons_zero, List.set_cons_succ]
    refine call_h 13 rfl (by kernel_rfl) 128 #[.int .i64 a.L, .int .i64 c.L] (by kernel_rfl) (by go_simp) ?_
    refine (ccmp_any a.L c.L V).mono ?_
    rintro e w' ⟨rfl, rfl⟩
    refine ⟨_, rfl, hHeld, fun _ => ?_⟩
    try simp only [Act.put, List.setIfInBounds_toArray, List.set_cons_zero, List.set_cons_succ]
    refine call_h 20 rfl (by kernel_rfl) 128 #[.int .i64 a.R, .int .i64 c.R] (by kernel_rfl) (by go_simp) ?_
    refine (ccmp_any a.R c.R V).mono ?_
    rintro e w' ⟨rfl, rfl⟩
    refine ⟨_, rfl, hHeld, fun _ => ?_⟩
    try simp only [Act.put, List.setIfInBounds_toArray, List.set_cons_zero, List.set_cons_succ]
    refine call_h 25 rfl (by kernel_rfl) 128 #[.int .i64 a.leg, .int .i64 c.leg] (by kernel_rfl) (by go_simp) ?_
    refine (ccmp_any a.leg c.leg V).mono ?_
    rintro e w' ⟨rfl, rfl⟩
    refine ⟨_, rfl, hHeld, fun _ => ?_⟩
    try simp only [Act.put, List.setIfInBounds_toArray, List.set_cons_zero, List.set_cons_succ]
    obtain ⟨x1, hx1⟩ : ∃ x, x = cmpI a.A c.A := ⟨_, rfl⟩
    obtain ⟨x2, hx2⟩ : ∃ x, x = cmpI a.L c.L := ⟨_, rfl⟩
    obtain ⟨x3, hx3⟩ : ∃ x, x = cmpI a.R c.R := ⟨_, rfl⟩
    obtain ⟨x4, hx4⟩ : ∃ x, x = cmpI a.leg c.leg := ⟨_, rfl⟩
    have HE : Seal (ordI a c = orL [x1, x2, x3, x4]) := ⟨by rw [hx1, hx2, hx3, hx4]; rfl⟩
    rw [← hx1, ← hx2, ← hx3, ← hx4]
    clear hx1 hx2 hx3 hx4
    have rN : (V.alloc (.cells #[.int .i64 x1, .int .i64 x2, .int .i64 x3, .int .i64 x4] 3)).rangeAt V.heap.size 0 ([x1, x2, x3, x4].map (Value.int .i64)) := rangeAt_row (heap_alloc_new V _)
    refine oper_h 26 (.slice (some ⟨V.heap.size, 0, none⟩) 4 4) (V.alloc (.cells #[.int .i64 x1, .int .i64 x2, .int .i64 x3, .int .i64 x4] 3)) rfl (by kernel_rfl) (by kernel_rfl) (by go_simp) ⟨⟨cell_allocd hHeld.1.1 _, cell_allocd hHeld.1.2.1 _, cell_allocd hHeld.1.2.2.1 _, cell_allocd hHeld.1.2.2.2 _⟩, ⟨cell_allocd hHeld.2.1 _, cell_allocd hHeld.2.2.1 _, cell_allocd hHeld.2.2.2.1 _, cell_allocd hHeld.2.2.2.2 _⟩⟩ (fun hHeld2 => ?_)
    try simp only [Act.put, List.setIfInBounds_toArray, List.set_cons_zero, List.set_cons_succ]
    refine call_h 27 rfl (by kernel_rfl) 127 #[.slice (some ⟨V.heap.size, 0, none⟩) 4 4] (by kernel_rfl) (by go_simp) ?_
    refine (cor_any V.heap.size 4 [x1, x2, x3, x4] _ rfl (by decide) rN).mono ?_
    rintro e w' ⟨rfl, rfl⟩
    refine ⟨_, rfl, hHeld2, fun _ => ?_⟩
    try simp only [Act.put, List.setIfInBounds_toArray, List.set_cons_zero, List.set_cons_succ]
    rw [← HE.out]
    refine take_h 28 ?_ rfl (by kernel_rfl) (by kernel_rfl) (by kernel_rfl) (fun _ _ _ h => h) (Or.inl ⟨by kernel_rfl, ?_⟩) (by assumption) ?_
    rotate_left
    · (intro w hSw; (try dsimp only at hSw); go_simp; try (with_reducible rfl))
    try simp only [Act.put, List.setIfInBounds_toArray, List.set_cons_zero, List.set_cons_succ]
    refine wpAnyH_done (by kernel_rfl) ?_ _
    clear hHeld hHeld2 rN HE
    go_wp2
    go_ret
    exact ⟨rfl, HV.out.alloc HV.out.size _⟩
  refine wp_region_held_drew (S := fun w' => w'.rangeAt w.heap.size 0 HA ∧ w'.rangeAt (w.heap.size + 1) 0 HC) (by kernel_rfl) ⟨rA, rC⟩ (fun hHeld => ?_)
  obtain ⟨V, hV⟩ : ∃ V, V = X.drew := ⟨_, rfl⟩
  have HV : Seal (Below X.heap.size X V) := ⟨by rw [hV]; exact below_drewn X⟩
  rw [← hV] at hHeld ⊢
  clear hV hX rA rC
  refine take_h 0 ?_ rfl (by kernel_rfl) (by kernel_rfl) (by kernel_rfl) (fun _ _ _ h => h) (Or.inl ⟨by kernel_rfl, ?_⟩) (by assumption) ?_
  rotate_left
  · (intro w hSw; (try dsimp only at hSw); go_simp; try (with_reducible rfl))
  try simp only [Act.put, List.setIfInBounds_toArray, List.set_cons_zero, List.set_cons_succ]
  refine take_h 1 _ rfl (by kernel_rfl) (by kernel_rfl) (by kernel_rfl) (fun _ _ _ h => h) (yieldsIf_load_mid (by kernel_rfl) 29 (.tmp 7) rfl w.heap.size 0 rfl HA _ (fun w hSw => hSw.1) uH rfl iA) (by assumption) ?_
  try simp only [Act.put, List.setIfInBounds_toArray, List.set_cons_zero, List.set_cons_succ]
  refine take_h 3 ?_ rfl (by kernel_rfl) (by kernel_rfl) (by kernel_rfl) (fun _ _ _ h => h) (Or.inl ⟨by kernel_rfl, ?_⟩) (by assumption) ?_
  rotate_left
  · (intro w hSw; (try dsimp only at hSw); go_simp; try (with_reducible rfl))
  try simp only [Act.put, List.setIfInBounds_toArray, List.set_cons_zero, List.set_cons_succ]
  refine take_h 4 _ rfl (by kernel_rfl) (by kernel_rfl) (by kernel_rfl) (fun _ _ _ h => h) (yieldsIf_load_mid (by kernel_rfl) 29 (.tmp 10) rfl (w.heap.size + 1) 0 rfl HC _ (fun w hSw => hSw.2) uH rfl iC) (by assumption) ?_
  try simp only [Act.put, List.setIfInBounds_toArray, List.set_cons_zero, List.set_cons_succ]
  refine wpAnyH_ready (rs := [2, 6, 7]) (by kernel_rfl) (by simp) (call_b 2 rfl 106 #[.agg HA.toArray] (by kernel_rfl) (by go_simp) ?_ (oper_b 6 (.pointer (some ⟨V.heap.size, 0, none⟩)) (V.alloc (.cells #[.int .i64 0, .int .i64 0, .int .i64 0, .int .i64 0, .int .i64 0] 152)) rfl (by kernel_rfl) (by go_simp) ⟨World.rangeAt_alloc hHeld.1 _, World.rangeAt_alloc hHeld.2 _⟩ ?_ (oper_b 7 (.pointer (some ⟨V.heap.size, 0, none⟩)) (V.alloc (.cells #[.int .i64 0, .int .i64 0, .int .i64 0, .int .i64 0, .int .i64 0] 152)) rfl (by kernel_rfl) (by go_simp) ⟨World.rangeAt_alloc hHeld.1 _, World.rangeAt_alloc hHeld.2 _⟩ ?_ AllReadyH.nil)))
  · refine (HO1.out V).mono ?_
    rintro e v1 ⟨rfl, hbv1⟩
    refine ⟨_, rfl, ⟨rangeAt_below' hHeld.1 hbv1, rangeAt_below' hHeld.2 hbv1⟩, fun hH2 => ?_⟩
    have HB3 : Seal (Below X.heap.size X v1) := ⟨HV.out.trans (hbv1.mono HV.out.size)⟩
    clear hbv1 hHeld
    try simp only [Act.put, List.setIfInBounds_toArray, List.set_cons_zero, List.set_cons_succ]
    refine wpAnyH_ready (rs := [5, 6, 7]) (by kernel_rfl) (by simp) (call_b 5 rfl 106 #[.agg HC.toArray] (by kernel_rfl) (by go_simp) ?_ (oper_b 6 (.pointer (some ⟨v1.heap.size, 0, none⟩)) (v1.alloc (.cells #[.int .i64 0, .int .i64 0, .int .i64 0, .int .i64 0, .int .i64 0] 152)) rfl (by kernel_rfl) (by go_simp) ⟨World.rangeAt_alloc hH2.1 _, World.rangeAt_alloc hH2.2 _⟩ ?_ (oper_b 7 (.pointer (some ⟨v1.heap.size, 0, none⟩)) (v1.alloc (.cells #[.int .i64 0, .int .i64 0, .int .i64 0, .int .i64 0, .int .i64 0] 152)) rfl (by kernel_rfl) (by go_simp) ⟨World.rangeAt_alloc hH2.1 _, World.rangeAt_alloc hH2.2 _⟩ ?_ AllReadyH.nil)))
    · refine (HO2.out v1).mono ?_
      rintro e v4 ⟨rfl, hbv4⟩
      refine ⟨_, rfl, ⟨rangeAt_below' hH2.1 hbv4, rangeAt_below' hH2.2 hbv4⟩, fun hH5 => ?_⟩
      have HB6 : Seal (Below X.heap.size X v4) := ⟨HB3.out.trans (hbv4.mono HB3.out.size)⟩
      clear hbv4 hH2
      try simp only [Act.put, List.setIfInBounds_toArray, List.set_cons_zero, List.set_cons_succ]
      refine wpAnyH_ready (rs := [6, 7]) (by kernel_rfl) (by simp) (oper_b 6 (.pointer (some ⟨v4.heap.size, 0, none⟩)) (v4.alloc (.cells #[.int .i64 0, .int .i64 0, .int .i64 0, .int .i64 0, .int .i64 0] 152)) rfl (by kernel_rfl) (by go_simp) ⟨World.rangeAt_alloc hH5.1 _, World.rangeAt_alloc hH5.2 _⟩ ?_ (oper_b 7 (.pointer (some ⟨v4.heap.size, 0, none⟩)) (v4.alloc (.cells #[.int .i64 0, .int .i64 0, .int .i64 0, .int .i64 0, .int .i64 0] 152)) rfl (by kernel_rfl) (by go_simp) ⟨World.rangeAt_alloc hH5.1 _, World.rangeAt_alloc hH5.2 _⟩ ?_ AllReadyH.nil))
      · intro _
        obtain ⟨v7, hqv7⟩ : ∃ x, x = v4.alloc (.cells #[.int .i64 0, .int .i64 0, .int .i64 0, .int .i64 0, .int .i64 0] 152) := ⟨_, rfl⟩
        obtain ⟨g10, hqg10⟩ : ∃ x, x = v4.heap.size := ⟨_, rfl⟩
        have z11 : Seal (v7.heap[g10]? = some (.cells #[.int .i64 0, .int .i64 0, .int .i64 0, .int .i64 0, .int .i64 0] 152 (0, 0))) := ⟨by rw [hqv7, hqg10]; exact heap_alloc_new v4 _⟩
        have HB9 : Seal (Below X.heap.size X v7) := ⟨by rw [hqv7]; exact HB6.out.alloc HB6.out.size _⟩
        have hgwg10 : Seal (X.heap.size ≤ g10) := ⟨by rw [hqg10]; exact HB6.out.size⟩
        have hH8 : v7.rangeAt w.heap.size 0 HA ∧ v7.rangeAt (w.heap.size + 1) 0 HC := ⟨by rw [hqv7]; exact World.rangeAt_alloc hH5.1 _, by rw [hqv7]; exact World.rangeAt_alloc hH5.2 _⟩
        rw [← hqv7, ← hqg10]
        clear hqv7 hqg10 hH5
        try simp only [Act.put, List.setIfInBounds_toArray, List.set_cons_zero, List.set_cons_succ]
        refine wpAnyH_ready (rs := [7]) (by kernel_rfl) (by simp) (oper_b 7 (.pointer (some ⟨v7.heap.size, 0, none⟩)) (v7.alloc (.cells #[.int .i64 0, .int .i64 0, .int .i64 0, .int .i64 0, .int .i64 0] 152)) rfl (by kernel_rfl) (by go_simp) ⟨World.rangeAt_alloc hH8.1 _, World.rangeAt_alloc hH8.2 _⟩ ?_ AllReadyH.nil)
        intro _
        obtain ⟨v12, hqv12⟩ : ∃ x, x = v7.alloc (.cells #[.int .i64 0, .int .i64 0, .int .i64 0, .int .i64 0, .int .i64 0] 152) := ⟨_, rfl⟩
        obtain ⟨g15, hqg15⟩ : ∃ x, x = v7.heap.size := ⟨_, rfl⟩
        have z16 : Seal (v12.heap[g15]? = some (.cells #[.int .i64 0, .int .i64 0, .int .i64 0, .int .i64 0, .int .i64 0] 152 (0, 0))) := ⟨by rw [hqv12, hqg15]; exact heap_alloc_new v7 _⟩
        have z17 : Seal (v12.heap[g10]? = some (.cells #[.int .i64 0, .int .i64 0, .int .i64 0, .int .i64 0, .int .i64 0] 152 (0, 0))) := ⟨by rw [hqv12]; exact (Below.heap_alloc v7 _ _ (Array.getElem?_eq_some_iff.1 z11.out).1).trans z11.out⟩
        have hne : Seal (g10 ≠ g15) := ⟨by have := (Array.getElem?_eq_some_iff.1 z11.out).1; omega⟩
        have HB14 : Seal (Below X.heap.size X v12) := ⟨by rw [hqv12]; exact HB9.out.alloc HB9.out.size _⟩
        have hgwg15 : Seal (X.heap.size ≤ g15) := ⟨by rw [hqg15]; exact HB9.out.size⟩
        have hH13 : v12.rangeAt w.heap.size 0 HA ∧ v12.rangeAt (w.heap.size + 1) 0 HC := ⟨by rw [hqv12]; exact World.rangeAt_alloc hH8.1 _, by rw [hqv12]; exact World.rangeAt_alloc hH8.2 _⟩
        rw [← hqv12, ← hqg15]
        clear hqv12 hqg15 hH8
        try simp only [Act.put, List.setIfInBounds_toArray, List.set_cons_zero, List.set_cons_succ]
        refine skip_h 8 (v12.setRow g10 SA) rfl (by kernel_rfl) (by kernel_rfl) (exec_store_row 152 (.tmp 5) (.tmp 9) rfl g10 SA rfl rfl 152 _ z17.out HSA.out.1 HSA.out.2.1 HSA.out.2.2) ⟨rangeAt_setRow hH13.1 (by have := hgwg10.out; have := hXs.out; omega), rangeAt_setRow hH13.2 (by have := hgwg10.out; have := hXs.out; omega)⟩ (fun hL1 => ?_)
        try simp only [Act.put]
        have y6 : (v12.setRow g10 SA).heap[g15]? = _ := (setRow_other v12 g10 g15 SA (fun e => hne.out e.symm)).trans z16.out
        refine skip_h 9 ((v12.setRow g10 SA).setRow g15 SC) rfl (by kernel_rfl) (by kernel_rfl) (exec_store_row 152 (.tmp 6) (.tmp 12) rfl g15 SC rfl rfl 152 _ y6 HSC.out.1 HSC.out.2.1 HSC.out.2.2) ⟨rangeAt_setRow hL1.1 (by have := hgwg15.out; have := hXs.out; omega), rangeAt_setRow hL1.2 (by have := hgwg15.out; have := hXs.out; omega)⟩ (fun hL2 => ?_)
        try simp only [Act.put]
        refine wpAnyH_done (by kernel_rfl) ?_ _
        exact ⟨(g10, g15), rfl, (setRow_other _ g15 g10 SC hne.out).trans (setRow_heap _ _ _ _ _ _ z17.out), setRow_heap _ _ _ _ _ _ y6, hXb.out.trans ((below_row (below_row HB14.out hgwg10.out _) hgwg15.out _).mono hXb.out.size)⟩
      · intro _
        obtain ⟨v18, hqv18⟩ : ∃ x, x = v4.alloc (.cells #[.int .i64 0, .int .i64 0, .int .i64 0, .int .i64 0, .int .i64 0] 152) := ⟨_, rfl⟩
        obtain ⟨g21, hqg21⟩ : ∃ x, x = v4.heap.size := ⟨_, rfl⟩
        have z22 : Seal (v18.heap[g21]? = some (.cells #[.int .i64 0, .int .i64 0, .int .i64 0, .int .i64 0, .int .i64 0] 152 (0, 0))) := ⟨by rw [hqv18, hqg21]; exact heap_alloc_new v4 _⟩
        have HB20 : Seal (Below X.heap.size X v18) := ⟨by rw [hqv18]; exact HB6.out.alloc HB6.out.size _⟩
        have hgwg21 : Seal (X.heap.size ≤ g21) := ⟨by rw [hqg21]; exact HB6.out.size⟩
        have hH19 : v18.rangeAt w.heap.size 0 HA ∧ v18.rangeAt (w.heap.size + 1) 0 HC := ⟨by rw [hqv18]; exact World.rangeAt_alloc hH5.1 _, by rw [hqv18]; exact World.rangeAt_alloc hH5.2 _⟩
        rw [← hqv18, ← hqg21]
        clear hqv18 hqg21 hH5
        try simp only [Act.put, List.setIfInBounds_toArray, List.set_cons_zero, List.set_cons_succ]
        refine wpAnyH_ready (rs := [6]) (by kernel_rfl) (by simp) (oper_b 6 (.pointer (some ⟨v18.heap.size, 0, none⟩)) (v18.alloc (.cells #[.int .i64 0, .int .i64 0, .int .i64 0, .int .i64 0, .int .i64 0] 152)) rfl (by kernel_rfl) (by go_simp) ⟨World.rangeAt_alloc hH19.1 _, World.rangeAt_alloc hH19.2 _⟩ ?_ AllReadyH.nil)
        intro _
        obtain ⟨v23, hqv23⟩ : ∃ x, x = v18.alloc (.cells #[.int .i64 0, .int .i64 0, .int .i64 0, .int .i64 0, .int .i64 0] 152) := ⟨_, rfl⟩
        obtain ⟨g26, hqg26⟩ : ∃ x, x = v18.heap.size := ⟨_, rfl⟩
        have z27 : Seal (v23.heap[g26]? = some (.cells #[.int .i64 0, .int .i64 0, .int .i64 0, .int .i64 0, .int .i64 0] 152 (0, 0))) := ⟨by rw [hqv23, hqg26]; exact heap_alloc_new v18 _⟩
        have z28 : Seal (v23.heap[g21]? = some (.cells #[.int .i64 0, .int .i64 0, .int .i64 0, .int .i64 0, .int .i64 0] 152 (0, 0))) := ⟨by rw [hqv23]; exact (Below.heap_alloc v18 _ _ (Array.getElem?_eq_some_iff.1 z22.out).1).trans z22.out⟩
        have hne : Seal (g26 ≠ g21) := ⟨by have := (Array.getElem?_eq_some_iff.1 z22.out).1; omega⟩
        have HB25 : Seal (Below X.heap.size X v23) := ⟨by rw [hqv23]; exact HB20.out.alloc HB20.out.size _⟩
        have hgwg26 : Seal (X.heap.size ≤ g26) := ⟨by rw [hqg26]; exact HB20.out.size⟩
        have hH24 : v23.rangeAt w.heap.size 0 HA ∧ v23.rangeAt (w.heap.size + 1) 0 HC := ⟨by rw [hqv23]; exact World.rangeAt_alloc hH19.1 _, by rw [hqv23]; exact World.rangeAt_alloc hH19.2 _⟩
        rw [← hqv23, ← hqg26]
        clear hqv23 hqg26 hH19
        try simp only [Act.put, List.setIfInBounds_toArray, List.set_cons_zero, List.set_cons_succ]
        refine skip_h 8 (v23.setRow g26 SA) rfl (by kernel_rfl) (by kernel_rfl) (exec_store_row 152 (.tmp 5) (.tmp 9) rfl g26 SA rfl rfl 152 _ z27.out HSA.out.1 HSA.out.2.1 HSA.out.2.2) ⟨rangeAt_setRow hH24.1 (by have := hgwg26.out; have := hXs.out; omega), rangeAt_setRow hH24.2 (by have := hgwg26.out; have := hXs.out; omega)⟩ (fun hL1 => ?_)
        try simp only [Act.put]
        have y6 : (v23.setRow g26 SA).heap[g21]? = _ := (setRow_other v23 g26 g21 SA (fun e => hne.out e.symm)).trans z28.out
        refine skip_h 9 ((v23.setRow g26 SA).setRow g21 SC) rfl (by kernel_rfl) (by kernel_rfl) (exec_store_row 152 (.tmp 6) (.tmp 12) rfl g21 SC rfl rfl 152 _ y6 HSC.out.1 HSC.out.2.1 HSC.out.2.2) ⟨rangeAt_setRow hL1.1 (by have := hgwg21.out; have := hXs.out; omega), rangeAt_setRow hL1.2 (by have := hgwg21.out; have := hXs.out; omega)⟩ (fun hL2 => ?_)
        try simp only [Act.put]
        refine wpAnyH_done (by kernel_rfl) ?_ _
        exact ⟨(g26, g21), rfl, (setRow_other _ g21 g26 SC hne.out).trans (setRow_heap _ _ _ _ _ _ z27.out), setRow_heap _ _ _ _ _ _ y6, hXb.out.trans ((below_row (below_row HB25.out hgwg26.out _) hgwg21.out _).mono hXb.out.size)⟩
    · intro _
      obtain ⟨v29, hqv29⟩ : ∃ x, x = v1.alloc (.cells #[.int .i64 0, .int .i64 0, .int .i64 0, .int .i64 0, .int .i64 0] 152) := ⟨_, rfl⟩
      obtain ⟨g32, hqg32⟩ : ∃ x, x = v1.heap.size := ⟨_, rfl⟩
      have z33 : Seal (v29.heap[g32]? = some (.cells #[.int .i64 0, .int .i64 0, .int .i64 0, .int .i64 0, .int .i64 0] 152 (0, 0))) := ⟨by rw [hqv29, hqg32]; exact heap_alloc_new v1 _⟩
      have HB31 : Seal (Below X.heap.size X v29) := ⟨by rw [hqv29]; exact HB3.out.alloc HB3.out.size _⟩
      have hgwg32 : Seal (X.heap.size ≤ g32) := ⟨by rw [hqg32]; exact HB3.out.size⟩
      have hH30 : v29.rangeAt w.heap.size 0 HA ∧ v29.rangeAt (w.heap.size + 1) 0 HC := ⟨by rw [hqv29]; exact World.rangeAt_alloc hH2.1 _, by rw [hqv29]; exact World.rangeAt_alloc hH2.2 _⟩
      rw [← hqv29, ← hqg32]
      clear hqv29 hqg32 hH2
      try simp only [Act.put, List.setIfInBounds_toArray, List.set_cons_zero, List.set_cons_succ]
      refine wpAnyH_ready (rs := [5, 7]) (by kernel_rfl) (by simp) (call_b 5 rfl 106 #[.agg HC.toArray] (by kernel_rfl) (by go_simp) ?_ (oper_b 7 (.pointer (some ⟨v29.heap.size, 0, none⟩)) (v29.alloc (.cells #[.int .i64 0, .int .i64 0, .int .i64 0, .int .i64 0, .int .i64 0] 152)) rfl (by kernel_rfl) (by go_simp) ⟨World.rangeAt_alloc hH30.1 _, World.rangeAt_alloc hH30.2 _⟩ ?_ AllReadyH.nil))
      · refine (HO2.out v29).mono ?_
        rintro e v34 ⟨rfl, hbv34⟩
        refine ⟨_, rfl, ⟨rangeAt_below' hH30.1 hbv34, rangeAt_below' hH30.2 hbv34⟩, fun hH35 => ?_⟩
        have HB36 : Seal (Below X.heap.size X v34) := ⟨HB31.out.trans (hbv34.mono HB31.out.size)⟩
        have z37 := Seal.mk (blk hbv34 (Array.getElem?_eq_some_iff.1 z33.out).1 z33.out)
        clear hbv34 hH30
        try simp only [Act.put, List.setIfInBounds_toArray, List.set_cons_zero, List.set_cons_succ]
        refine wpAnyH_ready (rs := [7]) (by kernel_rfl) (by simp) (oper_b 7 (.pointer (some ⟨v34.heap.size, 0, none⟩)) (v34.alloc (.cells #[.int .i64 0, .int .i64 0, .int .i64 0, .int .i64 0, .int .i64 0] 152)) rfl (by kernel_rfl) (by go_simp) ⟨World.rangeAt_alloc hH35.1 _, World.rangeAt_alloc hH35.2 _⟩ ?_ AllReadyH.nil)
        intro _
        obtain ⟨v38, hqv38⟩ : ∃ x, x = v34.alloc (.cells #[.int .i64 0, .int .i64 0, .int .i64 0, .int .i64 0, .int .i64 0] 152) := ⟨_, rfl⟩
        obtain ⟨g41, hqg41⟩ : ∃ x, x = v34.heap.size := ⟨_, rfl⟩
        have z42 : Seal (v38.heap[g41]? = some (.cells #[.int .i64 0, .int .i64 0, .int .i64 0, .int .i64 0, .int .i64 0] 152 (0, 0))) := ⟨by rw [hqv38, hqg41]; exact heap_alloc_new v34 _⟩
        have z43 : Seal (v38.heap[g32]? = some (.cells #[.int .i64 0, .int .i64 0, .int .i64 0, .int .i64 0, .int .i64 0] 152 (0, 0))) := ⟨by rw [hqv38]; exact (Below.heap_alloc v34 _ _ (Array.getElem?_eq_some_iff.1 z37.out).1).trans z37.out⟩
        have hne : Seal (g32 ≠ g41) := ⟨by have := (Array.getElem?_eq_some_iff.1 z37.out).1; omega⟩
        have HB40 : Seal (Below X.heap.size X v38) := ⟨by rw [hqv38]; exact HB36.out.alloc HB36.out.size _⟩
        have hgwg41 : Seal (X.heap.size ≤ g41) := ⟨by rw [hqg41]; exact HB36.out.size⟩
        have hH39 : v38.rangeAt w.heap.size 0 HA ∧ v38.rangeAt (w.heap.size + 1) 0 HC := ⟨by rw [hqv38]; exact World.rangeAt_alloc hH35.1 _, by rw [hqv38]; exact World.rangeAt_alloc hH35.2 _⟩
        rw [← hqv38, ← hqg41]
        clear hqv38 hqg41 hH35
        try simp only [Act.put, List.setIfInBounds_toArray, List.set_cons_zero, List.set_cons_succ]
        refine skip_h 8 (v38.setRow g32 SA) rfl (by kernel_rfl) (by kernel_rfl) (exec_store_row 152 (.tmp 5) (.tmp 9) rfl g32 SA rfl rfl 152 _ z43.out HSA.out.1 HSA.out.2.1 HSA.out.2.2) ⟨rangeAt_setRow hH39.1 (by have := hgwg32.out; have := hXs.out; omega), rangeAt_setRow hH39.2 (by have := hgwg32.out; have := hXs.out; omega)⟩ (fun hL1 => ?_)
        try simp only [Act.put]
        have y6 : (v38.setRow g32 SA).heap[g41]? = _ := (setRow_other v38 g32 g41 SA (fun e => hne.out e.symm)).trans z42.out
        refine skip_h 9 ((v38.setRow g32 SA).setRow g41 SC) rfl (by kernel_rfl) (by kernel_rfl) (exec_store_row 152 (.tmp 6) (.tmp 12) rfl g41 SC rfl rfl 152 _ y6 HSC.out.1 HSC.out.2.1 HSC.out.2.2) ⟨rangeAt_setRow hL1.1 (by have := hgwg41.out; have := hXs.out; omega), rangeAt_setRow hL1.2 (by have := hgwg41.out; have := hXs.out; omega)⟩ (fun hL2 => ?_)
        try simp only [Act.put]
        refine wpAnyH_done (by kernel_rfl) ?_ _
        exact ⟨(g32, g41), rfl, (setRow_other _ g41 g32 SC hne.out).trans (setRow_heap _ _ _ _ _ _ z43.out), setRow_heap _ _ _ _ _ _ y6, hXb.out.trans ((below_row (below_row HB40.out hgwg32.out _) hgwg41.out _).mono hXb.out.size)⟩
      · intro _
        obtain ⟨v44, hqv44⟩ : ∃ x, x = v29.alloc (.cells #[.int .i64 0, .int .i64 0, .int .i64 0, .int .i64 0, .int .i64 0] 152) := ⟨_, rfl⟩
        obtain ⟨g47, hqg47⟩ : ∃ x, x = v29.heap.size := ⟨_, rfl⟩
        have z48 : Seal (v44.heap[g47]? = some (.cells #[.int .i64 0, .int .i64 0, .int .i64 0, .int .i64 0, .int .i64 0] 152 (0, 0))) := ⟨by rw [hqv44, hqg47]; exact heap_alloc_new v29 _⟩
        have z49 : Seal (v44.heap[g32]? = some (.cells #[.int .i64 0, .int .i64 0, .int .i64 0, .int .i64 0, .int .i64 0] 152 (0, 0))) := ⟨by rw [hqv44]; exact (Below.heap_alloc v29 _ _ (Array.getElem?_eq_some_iff.1 z33.out).1).trans z33.out⟩
        have hne : Seal (g32 ≠ g47) := ⟨by have := (Array.getElem?_eq_some_iff.1 z33.out).1; omega⟩
        have HB46 : Seal (Below X.heap.size X v44) := ⟨by rw [hqv44]; exact HB31.out.alloc HB31.out.size _⟩
        have hgwg47 : Seal (X.heap.size ≤ g47) := ⟨by rw [hqg47]; exact HB31.out.size⟩
        have hH45 : v44.rangeAt w.heap.size 0 HA ∧ v44.rangeAt (w.heap.size + 1) 0 HC := ⟨by rw [hqv44]; exact World.rangeAt_alloc hH30.1 _, by rw [hqv44]; exact World.rangeAt_alloc hH30.2 _⟩
        rw [← hqv44, ← hqg47]
        clear hqv44 hqg47 hH30
        try simp only [Act.put, List.setIfInBounds_toArray, List.set_cons_zero, List.set_cons_succ]
        refine wpAnyH_ready (rs := [5]) (by kernel_rfl) (by simp) (call_b 5 rfl 106 #[.agg HC.toArray] (by kernel_rfl) (by go_simp) ?_ AllReadyH.nil)
        refine (HO2.out v44).mono ?_
        rintro e v50 ⟨rfl, hbv50⟩
        refine ⟨_, rfl, ⟨rangeAt_below' hH45.1 hbv50, rangeAt_below' hH45.2 hbv50⟩, fun hH51 => ?_⟩
        have HB52 : Seal (Below X.heap.size X v50) := ⟨HB46.out.trans (hbv50.mono HB46.out.size)⟩
        have z53 := Seal.mk (blk hbv50 (Array.getElem?_eq_some_iff.1 z49.out).1 z49.out)
        have z54 := Seal.mk (blk hbv50 (Array.getElem?_eq_some_iff.1 z48.out).1 z48.out)
        clear hbv50 hH45
        try simp only [Act.put, List.setIfInBounds_toArray, List.set_cons_zero, List.set_cons_succ]
        refine skip_h 8 (v50.setRow g32 SA) rfl (by kernel_rfl) (by kernel_rfl) (exec_store_row 152 (.tmp 5) (.tmp 9) rfl g32 SA rfl rfl 152 _ z53.out HSA.out.1 HSA.out.2.1 HSA.out.2.2) ⟨rangeAt_setRow hH51.1 (by have := hgwg32.out; have := hXs.out; omega), rangeAt_setRow hH51.2 (by have := hgwg32.out; have := hXs.out; omega)⟩ (fun hL1 => ?_)
        try simp only [Act.put]
        have y6 : (v50.setRow g32 SA).heap[g47]? = _ := (setRow_other v50 g32 g47 SA (fun e => hne.out e.symm)).trans z54.out
        refine skip_h 9 ((v50.setRow g32 SA).setRow g47 SC) rfl (by kernel_rfl) (by kernel_rfl) (exec_store_row 152 (.tmp 6) (.tmp 12) rfl g47 SC rfl rfl 152 _ y6 HSC.out.1 HSC.out.2.1 HSC.out.2.2) ⟨rangeAt_setRow hL1.1 (by have := hgwg47.out; have := hXs.out; omega), rangeAt_setRow hL1.2 (by have := hgwg47.out; have := hXs.out; omega)⟩ (fun hL2 => ?_)
        try simp only [Act.put]
        refine wpAnyH_done (by kernel_rfl) ?_ _
        exact ⟨(g32, g47), rfl, (setRow_other _ g47 g32 SC hne.out).trans (setRow_heap _ _ _ _ _ _ z53.out), setRow_heap _ _ _ _ _ _ y6, hXb.out.trans ((below_row (below_row HB52.out hgwg32.out _) hgwg47.out _).mono hXb.out.size)⟩
    · intro _
      obtain ⟨v55, hqv55⟩ : ∃ x, x = v1.alloc (.cells #[.int .i64 0, .int .i64 0, .int .i64 0, .int .i64 0, .int .i64 0] 152) := ⟨_, rfl⟩
      obtain ⟨g58, hqg58⟩ : ∃ x, x = v1.heap.size := ⟨_, rfl⟩
      have z59 : Seal (v55.heap[g58]? = some (.cells #[.int .i64 0, .int .i64 0, .int .i64 0, .int .i64 0, .int .i64 0] 152 (0, 0))) := ⟨by rw [hqv55, hqg58]; exact heap_alloc_new v1 _⟩
      have HB57 : Seal (Below X.heap.size X v55) := ⟨by rw [hqv55]; exact HB3.out.alloc HB3.out.size _⟩
      have hgwg58 : Seal (X.heap.size ≤ g58) := ⟨by rw [hqg58]; exact HB3.out.size⟩
      have hH56 : v55.rangeAt w.heap.size 0 HA ∧ v55.rangeAt (w.heap.size + 1) 0 HC := ⟨by rw [hqv55]; exact World.rangeAt_alloc hH2.1 _, by rw [hqv55]; exact World.rangeAt_alloc hH2.2 _⟩
      rw [← hqv55, ← hqg58]
      clear hqv55 hqg58 hH2
      try simp only [Act.put, List.setIfInBounds_toArray, List.set_cons_zero, List.set_cons_succ]
      refine wpAnyH_ready (rs := [5, 6]) (by kernel_rfl) (by simp) (call_b 5 rfl 106 #[.agg HC.toArray] (by kernel_rfl) (by go_simp) ?_ (oper_b 6 (.pointer (some ⟨v55.heap.size, 0, none⟩)) (v55.alloc (.cells #[.int .i64 0, .int .i64 0, .int .i64 0, .int .i64 0, .int .i64 0] 152)) rfl (by kernel_rfl) (by go_simp) ⟨World.rangeAt_alloc hH56.1 _, World.rangeAt_alloc hH56.2 _⟩ ?_ AllReadyH.nil))
      · refine (HO2.out v55).mono ?_
        rintro e v60 ⟨rfl, hbv60⟩
        refine ⟨_, rfl, ⟨rangeAt_below' hH56.1 hbv60, rangeAt_below' hH56.2 hbv60⟩, fun hH61 => ?_⟩
        have HB62 : Seal (Below X.heap.size X v60) := ⟨HB57.out.trans (hbv60.mono HB57.out.size)⟩
        have z63 := Seal.mk (blk hbv60 (Array.getElem?_eq_some_iff.1 z59.out).1 z59.out)
        clear hbv60 hH56
        try simp only [Act.put, List.setIfInBounds_toArray, List.set_cons_zero, List.set_cons_succ]
        refine wpAnyH_ready (rs := [6]) (by kernel_rfl) (by simp) (oper_b 6 (.pointer (some ⟨v60.heap.size, 0, none⟩)) (v60.alloc (.cells #[.int .i64 0, .int .i64 0, .int .i64 0, .int .i64 0, .int .i64 0] 152)) rfl (by kernel_rfl) (by go_simp) ⟨World.rangeAt_alloc hH61.1 _, World.rangeAt_alloc hH61.2 _⟩ ?_ AllReadyH.nil)
        intro _
        obtain ⟨v64, hqv64⟩ : ∃ x, x = v60.alloc (.cells #[.int .i64 0, .int .i64 0, .int .i64 0, .int .i64 0, .int .i64 0] 152) := ⟨_, rfl⟩
        obtain ⟨g67, hqg67⟩ : ∃ x, x = v60.heap.size := ⟨_, rfl⟩
        have z68 : Seal (v64.heap[g67]? = some (.cells #[.int .i64 0, .int .i64 0, .int .i64 0, .int .i64 0, .int .i64 0] 152 (0, 0))) := ⟨by rw [hqv64, hqg67]; exact heap_alloc_new v60 _⟩
        have z69 : Seal (v64.heap[g58]? = some (.cells #[.int .i64 0, .int .i64 0, .int .i64 0, .int .i64 0, .int .i64 0] 152 (0, 0))) := ⟨by rw [hqv64]; exact (Below.heap_alloc v60 _ _ (Array.getElem?_eq_some_iff.1 z63.out).1).trans z63.out⟩
        have hne : Seal (g67 ≠ g58) := ⟨by have := (Array.getElem?_eq_some_iff.1 z63.out).1; omega⟩
        have HB66 : Seal (Below X.heap.size X v64) := ⟨by rw [hqv64]; exact HB62.out.alloc HB62.out.size _⟩
        have hgwg67 : Seal (X.heap.size ≤ g67) := ⟨by rw [hqg67]; exact HB62.out.size⟩
        have hH65 : v64.rangeAt w.heap.size 0 HA ∧ v64.rangeAt (w.heap.size + 1) 0 HC := ⟨by rw [hqv64]; exact World.rangeAt_alloc hH61.1 _, by rw [hqv64]; exact World.rangeAt_alloc hH61.2 _⟩
        rw [← hqv64, ← hqg67]
        clear hqv64 hqg67 hH61
        try simp only [Act.put, List.setIfInBounds_toArray, List.set_cons_zero, List.set_cons_succ]
        refine skip_h 8 (v64.setRow g67 SA) rfl (by kernel_rfl) (by kernel_rfl) (exec_store_row 152 (.tmp 5) (.tmp 9) rfl g67 SA rfl rfl 152 _ z68.out HSA.out.1 HSA.out.2.1 HSA.out.2.2) ⟨rangeAt_setRow hH65.1 (by have := hgwg67.out; have := hXs.out; omega), rangeAt_setRow hH65.2 (by have := hgwg67.out; have := hXs.out; omega)⟩ (fun hL1 => ?_)
        try simp only [Act.put]
        have y6 : (v64.setRow g67 SA).heap[g58]? = _ := (setRow_other v64 g67 g58 SA (fun e => hne.out e.symm)).trans z69.out
        refine skip_h 9 ((v64.setRow g67 SA).setRow g58 SC) rfl (by kernel_rfl) (by kernel_rfl) (exec_store_row 152 (.tmp 6) (.tmp 12) rfl g58 SC rfl rfl 152 _ y6 HSC.out.1 HSC.out.2.1 HSC.out.2.2) ⟨rangeAt_setRow hL1.1 (by have := hgwg58.out; have := hXs.out; omega), rangeAt_setRow hL1.2 (by have := hgwg58.out; have := hXs.out; omega)⟩ (fun hL2 => ?_)
        try simp only [Act.put]
        refine wpAnyH_done (by kernel_rfl) ?_ _
        exact ⟨(g67, g58), rfl, (setRow_other _ g58 g67 SC hne.out).trans (setRow_heap _ _ _ _ _ _ z68.out), setRow_heap _ _ _ _ _ _ y6, hXb.out.trans ((below_row (below_row HB66.out hgwg67.out _) hgwg58.out _).mono hXb.out.size)⟩
      · intro _
        obtain ⟨v70, hqv70⟩ : ∃ x, x = v55.alloc (.cells #[.int .i64 0, .int .i64 0, .int .i64 0, .int .i64 0, .int .i64 0] 152) := ⟨_, rfl⟩
        obtain ⟨g73, hqg73⟩ : ∃ x, x = v55.heap.size := ⟨_, rfl⟩
        have z74 : Seal (v70.heap[g73]? = some (.cells #[.int .i64 0, .int .i64 0, .int .i64 0, .int .i64 0, .int .i64 0] 152 (0, 0))) := ⟨by rw [hqv70, hqg73]; exact heap_alloc_new v55 _⟩
        have z75 : Seal (v70.heap[g58]? = some (.cells #[.int .i64 0, .int .i64 0, .int .i64 0, .int .i64 0, .int .i64 0] 152 (0, 0))) := ⟨by rw [hqv70]; exact (Below.heap_alloc v55 _ _ (Array.getElem?_eq_some_iff.1 z59.out).1).trans z59.out⟩
        have hne : Seal (g73 ≠ g58) := ⟨by have := (Array.getElem?_eq_some_iff.1 z59.out).1; omega⟩
        have HB72 : Seal (Below X.heap.size X v70) := ⟨by rw [hqv70]; exact HB57.out.alloc HB57.out.size _⟩
        have hgwg73 : Seal (X.heap.size ≤ g73) := ⟨by rw [hqg73]; exact HB57.out.size⟩
        have hH71 : v70.rangeAt w.heap.size 0 HA ∧ v70.rangeAt (w.heap.size + 1) 0 HC := ⟨by rw [hqv70]; exact World.rangeAt_alloc hH56.1 _, by rw [hqv70]; exact World.rangeAt_alloc hH56.2 _⟩
        rw [← hqv70, ← hqg73]
        clear hqv70 hqg73 hH56
        try simp only [Act.put, List.setIfInBounds_toArray, List.set_cons_zero, List.set_cons_succ]
        refine wpAnyH_ready (rs := [5]) (by kernel_rfl) (by simp) (call_b 5 rfl 106 #[.agg HC.toArray] (by kernel_rfl) (by go_simp) ?_ AllReadyH.nil)
        refine (HO2.out v70).mono ?_
        rintro e v76 ⟨rfl, hbv76⟩
        refine ⟨_, rfl, ⟨rangeAt_below' hH71.1 hbv76, rangeAt_below' hH71.2 hbv76⟩, fun hH77 => ?_⟩
        have HB78 : Seal (Below X.heap.size X v76) := ⟨HB72.out.trans (hbv76.mono HB72.out.size)⟩
        have z79 := Seal.mk (blk hbv76 (Array.getElem?_eq_some_iff.1 z75.out).1 z75.out)
        have z80 := Seal.mk (blk hbv76 (Array.getElem?_eq_some_iff.1 z74.out).1 z74.out)
        clear hbv76 hH71
        try simp only [Act.put, List.setIfInBounds_toArray, List.set_cons_zero, List.set_cons_succ]
        refine skip_h 8 (v76.setRow g73 SA) rfl (by kernel_rfl) (by kernel_rfl) (exec_store_row 152 (.tmp 5) (.tmp 9) rfl g73 SA rfl rfl 152 _ z80.out HSA.out.1 HSA.out.2.1 HSA.out.2.2) ⟨rangeAt_setRow hH77.1 (by have := hgwg73.out; have := hXs.out; omega), rangeAt_setRow hH77.2 (by have := hgwg73.out; have := hXs.out; omega)⟩ (fun hL1 => ?_)
        try simp only [Act.put]
        have y6 : (v76.setRow g73 SA).heap[g58]? = _ := (setRow_other v76 g73 g58 SA (fun e => hne.out e.symm)).trans z79.out
        refine skip_h 9 ((v76.setRow g73 SA).setRow g58 SC) rfl (by kernel_rfl) (by kernel_rfl) (exec_store_row 152 (.tmp 6) (.tmp 12) rfl g58 SC rfl rfl 152 _ y6 HSC.out.1 HSC.out.2.1 HSC.out.2.2) ⟨rangeAt_setRow hL1.1 (by have := hgwg58.out; have := hXs.out; omega), rangeAt_setRow hL1.2 (by have := hgwg58.out; have := hXs.out; omega)⟩ (fun hL2 => ?_)
        try simp only [Act.put]
        refine wpAnyH_done (by kernel_rfl) ?_ _
        exact ⟨(g73, g58), rfl, (setRow_other _ g58 g73 SC hne.out).trans (setRow_heap _ _ _ _ _ _ z80.out), setRow_heap _ _ _ _ _ _ y6, hXb.out.trans ((below_row (below_row HB78.out hgwg73.out _) hgwg58.out _).mono hXb.out.size)⟩
  · intro _
    obtain ⟨v81, hqv81⟩ : ∃ x, x = V.alloc (.cells #[.int .i64 0, .int .i64 0, .int .i64 0, .int .i64 0, .int .i64 0] 152) := ⟨_, rfl⟩
    obtain ⟨g84, hqg84⟩ : ∃ x, x = V.heap.size := ⟨_, rfl⟩
    have z85 : Seal (v81.heap[g84]? = some (.cells #[.int .i64 0, .int .i64 0, .int .i64 0, .int .i64 0, .int .i64 0] 152 (0, 0))) := ⟨by rw [hqv81, hqg84]; exact heap_alloc_new V _⟩
    have HB83 : Seal (Below X.heap.size X v81) := ⟨by rw [hqv81]; exact HV.out.alloc HV.out.size _⟩
    have hgwg84 : Seal (X.heap.size ≤ g84) := ⟨by rw [hqg84]; exact HV.out.size⟩
    have hH82 : v81.rangeAt w.heap.size 0 HA ∧ v81.rangeAt (w.heap.size + 1) 0 HC := ⟨by rw [hqv81]; exact World.rangeAt_alloc hHeld.1 _, by rw [hqv81]; exact World.rangeAt_alloc hHeld.2 _⟩
    rw [← hqv81, ← hqg84]
    clear hqv81 hqg84 hHeld
    try simp only [Act.put, List.setIfInBounds_toArray, List.set_cons_zero, List.set_cons_succ]
    refine wpAnyH_ready (rs := [2, 7]) (by kernel_rfl) (by simp) (call_b 2 rfl 106 #[.agg HA.toArray] (by kernel_rfl) (by go_simp) ?_ (oper_b 7 (.pointer (some ⟨v81.heap.size, 0, none⟩)) (v81.alloc (.cells #[.int .i64 0, .int .i64 0, .int .i64 0, .int .i64 0, .int .i64 0] 152)) rfl (by kernel_rfl) (by go_simp) ⟨World.rangeAt_alloc hH82.1 _, World.rangeAt_alloc hH82.2 _⟩ ?_ AllReadyH.nil))
    · refine (HO1.out v81).mono ?_
      rintro e v86 ⟨rfl, hbv86⟩
      refine ⟨_, rfl, ⟨rangeAt_below' hH82.1 hbv86, rangeAt_below' hH82.2 hbv86⟩, fun hH87 => ?_⟩
      have HB88 : Seal (Below X.heap.size X v86) := ⟨HB83.out.trans (hbv86.mono HB83.out.size)⟩
      have z89 := Seal.mk (blk hbv86 (Array.getElem?_eq_some_iff.1 z85.out).1 z85.out)
      clear hbv86 hH82
      try simp only [Act.put, List.setIfInBounds_toArray, List.set_cons_zero, List.set_cons_succ]
      refine wpAnyH_ready (rs := [5, 7]) (by kernel_rfl) (by simp) (call_b 5 rfl 106 #[.agg HC.toArray] (by kernel_rfl) (by go_simp) ?_ (oper_b 7 (.pointer (some ⟨v86.heap.size, 0, none⟩)) (v86.alloc (.cells #[.int .i64 0, .int .i64 0, .int .i64 0, .int .i64 0, .int .i64 0] 152)) rfl (by kernel_rfl) (by go_simp) ⟨World.rangeAt_alloc hH87.1 _, World.rangeAt_alloc hH87.2 _⟩ ?_ AllReadyH.nil))
      · refine (HO2.out v86).mono ?_
        rintro e v90 ⟨rfl, hbv90⟩
        refine ⟨_, rfl, ⟨rangeAt_below' hH87.1 hbv90, rangeAt_below' hH87.2 hbv90⟩, fun hH91 => ?_⟩
        have HB92 : Seal (Below X.heap.size X v90) := ⟨HB88.out.trans (hbv90.mono HB88.out.size)⟩
        have z93 := Seal.mk (blk hbv90 (Array.getElem?_eq_some_iff.1 z89.out).1 z89.out)
        clear hbv90 hH87
        try simp only [Act.put, List.setIfInBounds_toArray, List.set_cons_zero, List.set_cons_succ]
        refine wpAnyH_ready (rs := [7]) (by kernel_rfl) (by simp) (oper_b 7 (.pointer (some ⟨v90.heap.size, 0, none⟩)) (v90.alloc (.cells #[.int .i64 0, .int .i64 0, .int .i64 0, .int .i64 0, .int .i64 0] 152)) rfl (by kernel_rfl) (by go_simp) ⟨World.rangeAt_alloc hH91.1 _, World.rangeAt_alloc hH91.2 _⟩ ?_ AllReadyH.nil)
        intro _
        obtain ⟨v94, hqv94⟩ : ∃ x, x = v90.alloc (.cells #[.int .i64 0, .int .i64 0, .int .i64 0, .int .i64 0, .int .i64 0] 152) := ⟨_, rfl⟩
        obtain ⟨g97, hqg97⟩ : ∃ x, x = v90.heap.size := ⟨_, rfl⟩
        have z98 : Seal (v94.heap[g97]? = some (.cells #[.int .i64 0, .int .i64 0, .int .i64 0, .int .i64 0, .int .i64 0] 152 (0, 0))) := ⟨by rw [hqv94, hqg97]; exact heap_alloc_new v90 _⟩
        have z99 : Seal (v94.heap[g84]? = some (.cells #[.int .i64 0, .int .i64 0, .int .i64 0, .int .i64 0, .int .i64 0] 152 (0, 0))) := ⟨by rw [hqv94]; exact (Below.heap_alloc v90 _ _ (Array.getElem?_eq_some_iff.1 z93.out).1).trans z93.out⟩
        have hne : Seal (g84 ≠ g97) := ⟨by have := (Array.getElem?_eq_some_iff.1 z93.out).1; omega⟩
        have HB96 : Seal (Below X.heap.size X v94) := ⟨by rw [hqv94]; exact HB92.out.alloc HB92.out.size _⟩
        have hgwg97 : Seal (X.heap.size ≤ g97) := ⟨by rw [hqg97]; exact HB92.out.size⟩
        have hH95 : v94.rangeAt w.heap.size 0 HA ∧ v94.rangeAt (w.heap.size + 1) 0 HC := ⟨by rw [hqv94]; exact World.rangeAt_alloc hH91.1 _, by rw [hqv94]; exact World.rangeAt_alloc hH91.2 _⟩
        rw [← hqv94, ← hqg97]
        clear hqv94 hqg97 hH91
        try simp only [Act.put, List.setIfInBounds_toArray, List.set_cons_zero, List.set_cons_succ]
        refine skip_h 8 (v94.setRow g84 SA) rfl (by kernel_rfl) (by kernel_rfl) (exec_store_row 152 (.tmp 5) (.tmp 9) rfl g84 SA rfl rfl 152 _ z99.out HSA.out.1 HSA.out.2.1 HSA.out.2.2) ⟨rangeAt_setRow hH95.1 (by have := hgwg84.out; have := hXs.out; omega), rangeAt_setRow hH95.2 (by have := hgwg84.out; have := hXs.out; omega)⟩ (fun hL1 => ?_)
        try simp only [Act.put]
        have y6 : (v94.setRow g84 SA).heap[g97]? = _ := (setRow_other v94 g84 g97 SA (fun e => hne.out e.symm)).trans z98.out
        refine skip_h 9 ((v94.setRow g84 SA).setRow g97 SC) rfl (by kernel_rfl) (by kernel_rfl) (exec_store_row 152 (.tmp 6) (.tmp 12) rfl g97 SC rfl rfl 152 _ y6 HSC.out.1 HSC.out.2.1 HSC.out.2.2) ⟨rangeAt_setRow hL1.1 (by have := hgwg97.out; have := hXs.out; omega), rangeAt_setRow hL1.2 (by have := hgwg97.out; have := hXs.out; omega)⟩ (fun hL2 => ?_)
        try simp only [Act.put]
        refine wpAnyH_done (by kernel_rfl) ?_ _
        exact ⟨(g84, g97), rfl, (setRow_other _ g97 g84 SC hne.out).trans (setRow_heap _ _ _ _ _ _ z99.out), setRow_heap _ _ _ _ _ _ y6, hXb.out.trans ((below_row (below_row HB96.out hgwg84.out _) hgwg97.out _).mono hXb.out.size)⟩
      · intro _
        obtain ⟨v100, hqv100⟩ : ∃ x, x = v86.alloc (.cells #[.int .i64 0, .int .i64 0, .int .i64 0, .int .i64 0, .int .i64 0] 152) := ⟨_, rfl⟩
        obtain ⟨g103, hqg103⟩ : ∃ x, x = v86.heap.size := ⟨_, rfl⟩
        have z104 : Seal (v100.heap[g103]? = some (.cells #[.int .i64 0, .int .i64 0, .int .i64 0, .int .i64 0, .int .i64 0] 152 (0, 0))) := ⟨by rw [hqv100, hqg103]; exact heap_alloc_new v86 _⟩
        have z105 : Seal (v100.heap[g84]? = some (.cells #[.int .i64 0, .int .i64 0, .int .i64 0, .int .i64 0, .int .i64 0] 152 (0, 0))) := ⟨by rw [hqv100]; exact (Below.heap_alloc v86 _ _ (Array.getElem?_eq_some_iff.1 z89.out).1).trans z89.out⟩
        have hne : Seal (g84 ≠ g103) := ⟨by have := (Array.getElem?_eq_some_iff.1 z89.out).1; omega⟩
        have HB102 : Seal (Below X.heap.size X v100) := ⟨by rw [hqv100]; exact HB88.out.alloc HB88.out.size _⟩
        have hgwg103 : Seal (X.heap.size ≤ g103) := ⟨by rw [hqg103]; exact HB88.out.size⟩
        have hH101 : v100.rangeAt w.heap.size 0 HA ∧ v100.rangeAt (w.heap.size + 1) 0 HC := ⟨by rw [hqv100]; exact World.rangeAt_alloc hH87.1 _, by rw [hqv100]; exact World.rangeAt_alloc hH87.2 _⟩
        rw [← hqv100, ← hqg103]
        clear hqv100 hqg103 hH87
        try simp only [Act.put, List.setIfInBounds_toArray, List.set_cons_zero, List.set_cons_succ]
        refine wpAnyH_ready (rs := [5]) (by kernel_rfl) (by simp) (call_b 5 rfl 106 #[.agg HC.toArray] (by kernel_rfl) (by go_simp) ?_ AllReadyH.nil)
        refine (HO2.out v100).mono ?_
        rintro e v106 ⟨rfl, hbv106⟩
        refine ⟨_, rfl, ⟨rangeAt_below' hH101.1 hbv106, rangeAt_below' hH101.2 hbv106⟩, fun hH107 => ?_⟩
        have HB108 : Seal (Below X.heap.size X v106) := ⟨HB102.out.trans (hbv106.mono HB102.out.size)⟩
        have z109 := Seal.mk (blk hbv106 (Array.getElem?_eq_some_iff.1 z105.out).1 z105.out)
        have z110 := Seal.mk (blk hbv106 (Array.getElem?_eq_some_iff.1 z104.out).1 z104.out)
        clear hbv106 hH101
        try simp only [Act.put, List.setIfInBounds_toArray, List.set_cons_zero, List.set_cons_succ]
        refine skip_h 8 (v106.setRow g84 SA) rfl (by kernel_rfl) (by kernel_rfl) (exec_store_row 152 (.tmp 5) (.tmp 9) rfl g84 SA rfl rfl 152 _ z109.out HSA.out.1 HSA.out.2.1 HSA.out.2.2) ⟨rangeAt_setRow hH107.1 (by have := hgwg84.out; have := hXs.out; omega), rangeAt_setRow hH107.2 (by have := hgwg84.out; have := hXs.out; omega)⟩ (fun hL1 => ?_)
        try simp only [Act.put]
        have y6 : (v106.setRow g84 SA).heap[g103]? = _ := (setRow_other v106 g84 g103 SA (fun e => hne.out e.symm)).trans z110.out
        refine skip_h 9 ((v106.setRow g84 SA).setRow g103 SC) rfl (by kernel_rfl) (by kernel_rfl) (exec_store_row 152 (.tmp 6) (.tmp 12) rfl g103 SC rfl rfl 152 _ y6 HSC.out.1 HSC.out.2.1 HSC.out.2.2) ⟨rangeAt_setRow hL1.1 (by have := hgwg103.out; have := hXs.out; omega), rangeAt_setRow hL1.2 (by have := hgwg103.out; have := hXs.out; omega)⟩ (fun hL2 => ?_)
        try simp only [Act.put]
        refine wpAnyH_done (by kernel_rfl) ?_ _
        exact ⟨(g84, g103), rfl, (setRow_other _ g103 g84 SC hne.out).trans (setRow_heap _ _ _ _ _ _ z109.out), setRow_heap _ _ _ _ _ _ y6, hXb.out.trans ((below_row (below_row HB108.out hgwg84.out _) hgwg103.out _).mono hXb.out.size)⟩
    · intro _
      obtain ⟨v111, hqv111⟩ : ∃ x, x = v81.alloc (.cells #[.int .i64 0, .int .i64 0, .int .i64 0, .int .i64 0, .int .i64 0] 152) := ⟨_, rfl⟩
      obtain ⟨g114, hqg114⟩ : ∃ x, x = v81.heap.size := ⟨_, rfl⟩
      have z115 : Seal (v111.heap[g114]? = some (.cells #[.int .i64 0, .int .i64 0, .int .i64 0, .int .i64 0, .int .i64 0] 152 (0, 0))) := ⟨by rw [hqv111, hqg114]; exact heap_alloc_new v81 _⟩
      have z116 : Seal (v111.heap[g84]? = some (.cells #[.int .i64 0, .int .i64 0, .int .i64 0, .int .i64 0, .int .i64 0] 152 (0, 0))) := ⟨by rw [hqv111]; exact (Below.heap_alloc v81 _ _ (Array.getElem?_eq_some_iff.1 z85.out).1).trans z85.out⟩
      have hne : Seal (g84 ≠ g114) := ⟨by have := (Array.getElem?_eq_some_iff.1 z85.out).1; omega⟩
      have HB113 : Seal (Below X.heap.size X v111) := ⟨by rw [hqv111]; exact HB83.out.alloc HB83.out.size _⟩
      have hgwg114 : Seal (X.heap.size ≤ g114) := ⟨by rw [hqg114]; exact HB83.out.size⟩
      have hH112 : v111.rangeAt w.heap.size 0 HA ∧ v111.rangeAt (w.heap.size + 1) 0 HC := ⟨by rw [hqv111]; exact World.rangeAt_alloc hH82.1 _, by rw [hqv111]; exact World.rangeAt_alloc hH82.2 _⟩
      rw [← hqv111, ← hqg114]
      clear hqv111 hqg114 hH82
      try simp only [Act.put, List.setIfInBounds_toArray, List.set_cons_zero, List.set_cons_succ]
      refine wpAnyH_ready (rs := [2]) (by kernel_rfl) (by simp) (call_b 2 rfl 106 #[.agg HA.toArray] (by kernel_rfl) (by go_simp) ?_ AllReadyH.nil)
      refine (HO1.out v111).mono ?_
      rintro e v117 ⟨rfl, hbv117⟩
      refine ⟨_, rfl, ⟨rangeAt_below' hH112.1 hbv117, rangeAt_below' hH112.2 hbv117⟩, fun hH118 => ?_⟩
      have HB119 : Seal (Below X.heap.size X v117) := ⟨HB113.out.trans (hbv117.mono HB113.out.size)⟩
      have z120 := Seal.mk (blk hbv117 (Array.getElem?_eq_some_iff.1 z116.out).1 z116.out)
      have z121 := Seal.mk (blk hbv117 (Array.getElem?_eq_some_iff.1 z115.out).1 z115.out)
      clear hbv117 hH112
      try simp only [Act.put, List.setIfInBounds_toArray, List.set_cons_zero, List.set_cons_succ]
      refine wpAnyH_ready (rs := [5]) (by kernel_rfl) (by simp) (call_b 5 rfl 106 #[.agg HC.toArray] (by kernel_rfl) (by go_simp) ?_ AllReadyH.nil)
      refine (HO2.out v117).mono ?_
      rintro e v122 ⟨rfl, hbv122⟩
      refine ⟨_, rfl, ⟨rangeAt_below' hH118.1 hbv122, rangeAt_below' hH118.2 hbv122⟩, fun hH123 => ?_⟩
      have HB124 : Seal (Below X.heap.size X v122) := ⟨HB119.out.trans (hbv122.mono HB119.out.size)⟩
      have z125 := Seal.mk (blk hbv122 (Array.getElem?_eq_some_iff.1 z120.out).1 z120.out)
      have z126 := Seal.mk (blk hbv122 (Array.getElem?_eq_some_iff.1 z121.out).1 z121.out)
      clear hbv122 hH118
      try simp only [Act.put, List.setIfInBounds_toArray, List.set_cons_zero, List.set_cons_succ]
      refine skip_h 8 (v122.setRow g84 SA) rfl (by kernel_rfl) (by kernel_rfl) (exec_store_row 152 (.tmp 5) (.tmp 9) rfl g84 SA rfl rfl 152 _ z125.out HSA.out.1 HSA.out.2.1 HSA.out.2.2) ⟨rangeAt_setRow hH123.1 (by have := hgwg84.out; have := hXs.out; omega), rangeAt_setRow hH123.2 (by have := hgwg84.out; have := hXs.out; omega)⟩ (fun hL1 => ?_)
      try simp only [Act.put]
      have y6 : (v122.setRow g84 SA).heap[g114]? = _ := (setRow_other v122 g84 g114 SA (fun e => hne.out e.symm)).trans z126.out
      refine skip_h 9 ((v122.setRow g84 SA).setRow g114 SC) rfl (by kernel_rfl) (by kernel_rfl) (exec_store_row 152 (.tmp 6) (.tmp 12) rfl g114 SC rfl rfl 152 _ y6 HSC.out.1 HSC.out.2.1 HSC.out.2.2) ⟨rangeAt_setRow hL1.1 (by have := hgwg114.out; have := hXs.out; omega), rangeAt_setRow hL1.2 (by have := hgwg114.out; have := hXs.out; omega)⟩ (fun hL2 => ?_)
      try simp only [Act.put]
      refine wpAnyH_done (by kernel_rfl) ?_ _
      exact ⟨(g84, g114), rfl, (setRow_other _ g114 g84 SC hne.out).trans (setRow_heap _ _ _ _ _ _ z125.out), setRow_heap _ _ _ _ _ _ y6, hXb.out.trans ((below_row (below_row HB124.out hgwg84.out _) hgwg114.out _).mono hXb.out.size)⟩
  · intro _
    obtain ⟨v127, hqv127⟩ : ∃ x, x = V.alloc (.cells #[.int .i64 0, .int .i64 0, .int .i64 0, .int .i64 0, .int .i64 0] 152) := ⟨_, rfl⟩
    obtain ⟨g130, hqg130⟩ : ∃ x, x = V.heap.size := ⟨_, rfl⟩
    have z131 : Seal (v127.heap[g130]? = some (.cells #[.int .i64 0, .int .i64 0, .int .i64 0, .int .i64 0, .int .i64 0] 152 (0, 0))) := ⟨by rw [hqv127, hqg130]; exact heap_alloc_new V _⟩
    have HB129 : Seal (Below X.heap.size X v127) := ⟨by rw [hqv127]; exact HV.out.alloc HV.out.size _⟩
    have hgwg130 : Seal (X.heap.size ≤ g130) := ⟨by rw [hqg130]; exact HV.out.size⟩
    have hH128 : v127.rangeAt w.heap.size 0 HA ∧ v127.rangeAt (w.heap.size + 1) 0 HC := ⟨by rw [hqv127]; exact World.rangeAt_alloc hHeld.1 _, by rw [hqv127]; exact World.rangeAt_alloc hHeld.2 _⟩
    rw [← hqv127, ← hqg130]
    clear hqv127 hqg130 hHeld
    try simp only [Act.put, List.setIfInBounds_toArray, List.set_cons_zero, List.set_cons_succ]
    refine wpAnyH_ready (rs := [2, 6]) (by kernel_rfl) (by simp) (call_b 2 rfl 106 #[.agg HA.toArray] (by kernel_rfl) (by go_simp) ?_ (oper_b 6 (.pointer (some ⟨v127.heap.size, 0, none⟩)) (v127.alloc (.cells #[.int .i64 0, .int .i64 0, .int .i64 0, .int .i64 0, .int .i64 0] 152)) rfl (by kernel_rfl) (by go_simp) ⟨World.rangeAt_alloc hH128.1 _, World.rangeAt_alloc hH128.2 _⟩ ?_ AllReadyH.nil))
    · refine (HO1.out v127).mono ?_
      rintro e v132 ⟨rfl, hbv132⟩
      refine ⟨_, rfl, ⟨rangeAt_below' hH128.1 hbv132, rangeAt_below' hH128.2 hbv132⟩, fun hH133 => ?_⟩
      have HB134 : Seal (Below X.heap.size X v132) := ⟨HB129.out.trans (hbv132.mono HB129.out.size)⟩
      have z135 := Seal.mk (blk hbv132 (Array.getElem?_eq_some_iff.1 z131.out).1 z131.out)
      clear hbv132 hH128
      try simp only [Act.put, List.setIfInBounds_toArray, List.set_cons_zero, List.set_cons_succ]
      refine wpAnyH_ready (rs := [5, 6]) (by kernel_rfl) (by simp) (call_b 5 rfl 106 #[.agg HC.toArray] (by kernel_rfl) (by go_simp) ?_ (oper_b 6 (.pointer (some ⟨v132.heap.size, 0, none⟩)) (v132.alloc (.cells #[.int .i64 0, .int .i64 0, .int .i64 0, .int .i64 0, .int .i64 0] 152)) rfl (by kernel_rfl) (by go_simp) ⟨World.rangeAt_alloc hH133.1 _, World.rangeAt_alloc hH133.2 _⟩ ?_ AllReadyH.nil))
      · refine (HO2.out v132).mono ?_
        rintro e v136 ⟨rfl, hbv136⟩
        refine ⟨_, rfl, ⟨rangeAt_below' hH133.1 hbv136, rangeAt_below' hH133.2 hbv136⟩, fun hH137 => ?_⟩
        have HB138 : Seal (Below X.heap.size X v136) := ⟨HB134.out.trans (hbv136.mono HB134.out.size)⟩
        have z139 := Seal.mk (blk hbv136 (Array.getElem?_eq_some_iff.1 z135.out).1 z135.out)
        clear hbv136 hH133
        try simp only [Act.put, List.setIfInBounds_toArray, List.set_cons_zero, List.set_cons_succ]
        refine wpAnyH_ready (rs := [6]) (by kernel_rfl) (by simp) (oper_b 6 (.pointer (some ⟨v136.heap.size, 0, none⟩)) (v136.alloc (.cells #[.int .i64 0, .int .i64 0, .int .i64 0, .int .i64 0, .int .i64 0] 152)) rfl (by kernel_rfl) (by go_simp) ⟨World.rangeAt_alloc hH137.1 _, World.rangeAt_alloc hH137.2 _⟩ ?_ AllReadyH.nil)
        intro _
        obtain ⟨v140, hqv140⟩ : ∃ x, x = v136.alloc (.cells #[.int .i64 0, .int .i64 0, .int .i64 0, .int .i64 0, .int .i64 0] 152) := ⟨_, rfl⟩
        obtain ⟨g143, hqg143⟩ : ∃ x, x = v136.heap.size := ⟨_, rfl⟩
        have z144 : Seal (v140.heap[g143]? = some (.cells #[.int .i64 0, .int .i64 0, .int .i64 0, .int .i64 0, .int .i64 0] 152 (0, 0))) := ⟨by rw [hqv140, hqg143]; exact heap_alloc_new v136 _⟩
        have z145 : Seal (v140.heap[g130]? = some (.cells #[.int .i64 0, .int .i64 0, .int .i64 0, .int .i64 0, .int .i64 0] 152 (0, 0))) := ⟨by rw [hqv140]; exact (Below.heap_alloc v136 _ _ (Array.getElem?_eq_some_iff.1 z139.out).1).trans z139.out⟩
        have hne : Seal (g143 ≠ g130) := ⟨by have := (Array.getElem?_eq_some_iff.1 z139.out).1; omega⟩
        have HB142 : Seal (Below X.heap.size X v140) := ⟨by rw [hqv140]; exact HB138.out.alloc HB138.out.size _⟩
        have hgwg143 : Seal (X.heap.size ≤ g143) := ⟨by rw [hqg143]; exact HB138.out.size⟩
        have hH141 : v140.rangeAt w.heap.size 0 HA ∧ v140.rangeAt (w.heap.size + 1) 0 HC := ⟨by rw [hqv140]; exact World.rangeAt_alloc hH137.1 _, by rw [hqv140]; exact World.rangeAt_alloc hH137.2 _⟩
        rw [← hqv140, ← hqg143]
        clear hqv140 hqg143 hH137
        try simp only [Act.put, List.setIfInBounds_toArray, List.set_cons_zero, List.set_cons_succ]
        refine skip_h 8 (v140.setRow g143 SA) rfl (by kernel_rfl) (by kernel_rfl) (exec_store_row 152 (.tmp 5) (.tmp 9) rfl g143 SA rfl rfl 152 _ z144.out HSA.out.1 HSA.out.2.1 HSA.out.2.2) ⟨rangeAt_setRow hH141.1 (by have := hgwg143.out; have := hXs.out; omega), rangeAt_setRow hH141.2 (by have := hgwg143.out; have := hXs.out; omega)⟩ (fun hL1 => ?_)
        try simp only [Act.put]
        have y6 : (v140.setRow g143 SA).heap[g130]? = _ := (setRow_other v140 g143 g130 SA (fun e => hne.out e.symm)).trans z145.out
        refine skip_h 9 ((v140.setRow g143 SA).setRow g130 SC) rfl (by kernel_rfl) (by kernel_rfl) (exec_store_row 152 (.tmp 6) (.tmp 12) rfl g130 SC rfl rfl 152 _ y6 HSC.out.1 HSC.out.2.1 HSC.out.2.2) ⟨rangeAt_setRow hL1.1 (by have := hgwg130.out; have := hXs.out; omega), rangeAt_setRow hL1.2 (by have := hgwg130.out; have := hXs.out; omega)⟩ (fun hL2 => ?_)
        try simp only [Act.put]
        refine wpAnyH_done (by kernel_rfl) ?_ _
        exact ⟨(g143, g130), rfl, (setRow_other _ g130 g143 SC hne.out).trans (setRow_heap _ _ _ _ _ _ z144.out), setRow_heap _ _ _ _ _ _ y6, hXb.out.trans ((below_row (below_row HB142.out hgwg143.out _) hgwg130.out _).mono hXb.out.size)⟩
      · intro _
        obtain ⟨v146, hqv146⟩ : ∃ x, x = v132.alloc (.cells #[.int .i64 0, .int .i64 0, .int .i64 0, .int .i64 0, .int .i64 0] 152) := ⟨_, rfl⟩
        obtain ⟨g149, hqg149⟩ : ∃ x, x = v132.heap.size := ⟨_, rfl⟩
        have z150 : Seal (v146.heap[g149]? = some (.cells #[.int .i64 0, .int .i64 0, .int .i64 0, .int .i64 0, .int .i64 0] 152 (0, 0))) := ⟨by rw [hqv146, hqg149]; exact heap_alloc_new v132 _⟩
        have z151 : Seal (v146.heap[g130]? = some (.cells #[.int .i64 0, .int .i64 0, .int .i64 0, .int .i64 0, .int .i64 0] 152 (0, 0))) := ⟨by rw [hqv146]; exact (Below.heap_alloc v132 _ _ (Array.getElem?_eq_some_iff.1 z135.out).1).trans z135.out⟩
        have hne : Seal (g149 ≠ g130) := ⟨by have := (Array.getElem?_eq_some_iff.1 z135.out).1; omega⟩
        have HB148 : Seal (Below X.heap.size X v146) := ⟨by rw [hqv146]; exact HB134.out.alloc HB134.out.size _⟩
        have hgwg149 : Seal (X.heap.size ≤ g149) := ⟨by rw [hqg149]; exact HB134.out.size⟩
        have hH147 : v146.rangeAt w.heap.size 0 HA ∧ v146.rangeAt (w.heap.size + 1) 0 HC := ⟨by rw [hqv146]; exact World.rangeAt_alloc hH133.1 _, by rw [hqv146]; exact World.rangeAt_alloc hH133.2 _⟩
        rw [← hqv146, ← hqg149]
        clear hqv146 hqg149 hH133
        try simp only [Act.put, List.setIfInBounds_toArray, List.set_cons_zero, List.set_cons_succ]
        refine wpAnyH_ready (rs := [5]) (by kernel_rfl) (by simp) (call_b 5 rfl 106 #[.agg HC.toArray] (by kernel_rfl) (by go_simp) ?_ AllReadyH.nil)
        refine (HO2.out v146).mono ?_
        rintro e v152 ⟨rfl, hbv152⟩
        refine ⟨_, rfl, ⟨rangeAt_below' hH147.1 hbv152, rangeAt_below' hH147.2 hbv152⟩, fun hH153 => ?_⟩
        have HB154 : Seal (Below X.heap.size X v152) := ⟨HB148.out.trans (hbv152.mono HB148.out.size)⟩
        have z155 := Seal.mk (blk hbv152 (Array.getElem?_eq_some_iff.1 z151.out).1 z151.out)
        have z156 := Seal.mk (blk hbv152 (Array.getElem?_eq_some_iff.1 z150.out).1 z150.out)
        clear hbv152 hH147
        try simp only [Act.put, List.setIfInBounds_toArray, List.set_cons_zero, List.set_cons_succ]
        refine skip_h 8 (v152.setRow g149 SA) rfl (by kernel_rfl) (by kernel_rfl) (exec_store_row 152 (.tmp 5) (.tmp 9) rfl g149 SA rfl rfl 152 _ z156.out HSA.out.1 HSA.out.2.1 HSA.out.2.2) ⟨rangeAt_setRow hH153.1 (by have := hgwg149.out; have := hXs.out; omega), rangeAt_setRow hH153.2 (by have := hgwg149.out; have := hXs.out; omega)⟩ (fun hL1 => ?_)
        try simp only [Act.put]
        have y6 : (v152.setRow g149 SA).heap[g130]? = _ := (setRow_other v152 g149 g130 SA (fun e => hne.out e.symm)).trans z155.out
        refine skip_h 9 ((v152.setRow g149 SA).setRow g130 SC) rfl (by kernel_rfl) (by kernel_rfl) (exec_store_row 152 (.tmp 6) (.tmp 12) rfl g130 SC rfl rfl 152 _ y6 HSC.out.1 HSC.out.2.1 HSC.out.2.2) ⟨rangeAt_setRow hL1.1 (by have := hgwg130.out; have := hXs.out; omega), rangeAt_setRow hL1.2 (by have := hgwg130.out; have := hXs.out; omega)⟩ (fun hL2 => ?_)
        try simp only [Act.put]
        refine wpAnyH_done (by kernel_rfl) ?_ _
        exact ⟨(g149, g130), rfl, (setRow_other _ g130 g149 SC hne.out).trans (setRow_heap _ _ _ _ _ _ z156.out), setRow_heap _ _ _ _ _ _ y6, hXb.out.trans ((below_row (below_row HB154.out hgwg149.out _) hgwg130.out _).mono hXb.out.size)⟩
    · intro _
      obtain ⟨v157, hqv157⟩ : ∃ x, x = v127.alloc (.cells #[.int .i64 0, .int .i64 0, .int .i64 0, .int .i64 0, .int .i64 0] 152) := ⟨_, rfl⟩
      obtain ⟨g160, hqg160⟩ : ∃ x, x = v127.heap.size := ⟨_, rfl⟩
      have z161 : Seal (v157.heap[g160]? = some (.cells #[.int .i64 0, .int .i64 0, .int .i64 0, .int .i64 0, .int .i64 0] 152 (0, 0))) := ⟨by rw [hqv157, hqg160]; exact heap_alloc_new v127 _⟩
      have z162 : Seal (v157.heap[g130]? = some (.cells #[.int .i64 0, .int .i64 0, .int .i64 0, .int .i64 0, .int .i64 0] 152 (0, 0))) := ⟨by rw [hqv157]; exact (Below.heap_alloc v127 _ _ (Array.getElem?_eq_some_iff.1 z131.out).1).trans z131.out⟩
      have hne : Seal (g160 ≠ g130) := ⟨by have := (Array.getElem?_eq_some_iff.1 z131.out).1; omega⟩
      have HB159 : Seal (Below X.heap.size X v157) := ⟨by rw [hqv157]; exact HB129.out.alloc HB129.out.size _⟩
      have hgwg160 : Seal (X.heap.size ≤ g160) := ⟨by rw [hqg160]; exact HB129.out.size⟩
      have hH158 : v157.rangeAt w.heap.size 0 HA ∧ v157.rangeAt (w.heap.size + 1) 0 HC := ⟨by rw [hqv157]; exact World.rangeAt_alloc hH128.1 _, by rw [hqv157]; exact World.rangeAt_alloc hH128.2 _⟩
      rw [← hqv157, ← hqg160]
      clear hqv157 hqg160 hH128
      try simp only [Act.put, List.setIfInBounds_toArray, List.set_cons_zero, List.set_cons_succ]
      refine wpAnyH_ready (rs := [2]) (by kernel_rfl) (by simp) (call_b 2 rfl 106 #[.agg HA.toArray] (by kernel_rfl) (by go_simp) ?_ AllReadyH.nil)
      refine (HO1.out v157).mono ?_
      rintro e v163 ⟨rfl, hbv163⟩
      refine ⟨_, rfl, ⟨rangeAt_below' hH158.1 hbv163, rangeAt_below' hH158.2 hbv163⟩, fun hH164 => ?_⟩
      have HB165 : Seal (Below X.heap.size X v163) := ⟨HB159.out.trans (hbv163.mono HB159.out.size)⟩
      have z166 := Seal.mk (blk hbv163 (Array.getElem?_eq_some_iff.1 z162.out).1 z162.out)
      have z167 := Seal.mk (blk hbv163 (Array.getElem?_eq_some_iff.1 z161.out).1 z161.out)
      clear hbv163 hH158
      try simp only [Act.put, List.setIfInBounds_toArray, List.set_cons_zero, List.set_cons_succ]
      refine wpAnyH_ready (rs := [5]) (by kernel_rfl) (by simp) (call_b 5 rfl 106 #[.agg HC.toArray] (by kernel_rfl) (by go_simp) ?_ AllReadyH.nil)
      refine (HO2.out v163).mono ?_
      rintro e v168 ⟨rfl, hbv168⟩
      refine ⟨_, rfl, ⟨rangeAt_below' hH164.1 hbv168, rangeAt_below' hH164.2 hbv168⟩, fun hH169 => ?_⟩
      have HB170 : Seal (Below X.heap.size X v168) := ⟨HB165.out.trans (hbv168.mono HB165.out.size)⟩
      have z171 := Seal.mk (blk hbv168 (Array.getElem?_eq_some_iff.1 z166.out).1 z166.out)
      have z172 := Seal.mk (blk hbv168 (Array.getElem?_eq_some_iff.1 z167.out).1 z167.out)
      clear hbv168 hH164
      try simp only [Act.put, List.setIfInBounds_toArray, List.set_cons_zero, List.set_cons_succ]
      refine skip_h 8 (v168.setRow g160 SA) rfl (by kernel_rfl) (by kernel_rfl) (exec_store_row 152 (.tmp 5) (.tmp 9) rfl g160 SA rfl rfl 152 _ z172.out HSA.out.1 HSA.out.2.1 HSA.out.2.2) ⟨rangeAt_setRow hH169.1 (by have := hgwg160.out; have := hXs.out; omega), rangeAt_setRow hH169.2 (by have := hgwg160.out; have := hXs.out; omega)⟩ (fun hL1 => ?_)
      try simp only [Act.put]
      have y6 : (v168.setRow g160 SA).heap[g130]? = _ := (setRow_other v168 g160 g130 SA (fun e => hne.out e.symm)).trans z171.out
      refine skip_h 9 ((v168.setRow g160 SA).setRow g130 SC) rfl (by kernel_rfl) (by kernel_rfl) (exec_store_row 152 (.tmp 6) (.tmp 12) rfl g130 SC rfl rfl 152 _ y6 HSC.out.1 HSC.out.2.1 HSC.out.2.2) ⟨rangeAt_setRow hL1.1 (by have := hgwg130.out; have := hXs.out; omega), rangeAt_setRow hL1.2 (by have := hgwg130.out; have := hXs.out; omega)⟩ (fun hL2 => ?_)
      try simp only [Act.put]
      refine wpAnyH_done (by kernel_rfl) ?_ _
      exact ⟨(g160, g130), rfl, (setRow_other _ g130 g160 SC hne.out).trans (setRow_heap _ _ _ _ _ _ z172.out), setRow_heap _ _ _ _ _ _ y6, hXb.out.trans ((below_row (below_row HB170.out hgwg160.out _) hgwg130.out _).mono hXb.out.size)⟩


theorem lieC_info {a b : Hd} (ka : a.T.length = 32) (kb : b.T.length = 32) : (Tryd.prog.info? 74).map (·.size) = some (lieC a b).length := by rw [lieC_len ka kb]; kernel_rfl
theorem lieC_one (a b : Hd) : ∀ u ∈ lieC a b, u.oneCell' = true := by
  intro u hu
  rcases List.mem_append.1 hu with h | h
  · exact Hd.C_one a u h
  · exact Hd.C_one b u h

set_option maxHeartbeats 4000000 in
theorem cfirst_any (a b c d : Hd) (w : World) (ka : a.T.length = 32) (kb : b.T.length = 32) (kc : c.T.length = 32) (kd : d.T.length = 32) :
    Calls Tryd.prog 107 #[.agg (lieC a b).toArray, .agg (lieC c d).toArray, .func (.func 108) #[] #[]] w fun e w' => e = .returned (.agg (if ordI c a < 0 then lieC c d else lieC a b).toArray) ∧ Below w.heap.size w w' := by
  obtain ⟨CA, hCA⟩ : ∃ CA, CA = lieC a b := ⟨_, rfl⟩
  obtain ⟨CC, hCC⟩ : ∃ CC, CC = lieC c d := ⟨_, rfl⟩
  obtain ⟨Z, hZ⟩ : ∃ Z : Array Value, Z = Tryd.zeroCells74 := ⟨_, rfl⟩
  have hZs : Z.size = 84 := by rw [hZ]; kernel_rfl
  obtain ⟨X, hX⟩ : ∃ X : World, X = ((w.alloc (.cells CA.toArray 74)).alloc (.cells CC.toArray 74)).alloc (.cells Tryd.zeroCells74 74) := ⟨_, rfl⟩
  have hXb : Seal (Below w.heap.size w X) := ⟨by rw [hX]; exact (((Below.refl _ w).alloc (Nat.le_refl _) _).alloc (by simp) _).alloc (by simp; omega) _⟩
  have rA : X.rangeAt w.heap.size 0 CA := by rw [hX]; exact World.rangeAt_alloc (World.rangeAt_alloc (rangeAt_row (heap_alloc_new w _)) _) _
  have rC : X.rangeAt (w.heap.size + 1) 0 CC := by
    rw [hX]
    have := heap_alloc_new (w.alloc (.cells CA.toArray 74)) (.cells CC.toArray 74)
    rw [size_alloc] at this
    exact World.rangeAt_alloc (rangeAt_row this) _
  have hz : Seal (X.heap[w.heap.size + 1 + 1]? = some (.cells Z 74 (0, 0))) := ⟨by
    rw [hX, hZ]
    have := heap_alloc_new ((w.alloc (.cells CA.toArray 74)).alloc (.cells CC.toArray 74)) (.cells Tryd.zeroCells74 74)
    rwa [size_alloc, size_alloc] at this⟩
  have HO : Seal (∀ W, Calls Tryd.prog 108 #[.agg CC.toArray, .agg CA.toArray] W fun e w' => e = .returned (.int .i64 (ordI c a)) ∧ Below W.heap.size W w') := ⟨fun W => by rw [hCA, hCC]; exact corder_any c d a b W kc kd ka kb⟩
  have iA : (Tryd.prog.info? 74).map (·.size) = some CA.length := by rw [hCA]; exact lieC_info ka kb
  have iC : (Tryd.prog.info? 74).map (·.size) = some CC.length := by rw [hCC]; exact lieC_info kc kd
  have HSA : Seal ((Tryd.prog.info? 74).map (·.size) = some CA.toArray.size ∧ Z.size = CA.toArray.size ∧ CA.toArray.all (·.oneCell') = true) := ⟨by rw [List.size_toArray]; exact iA, hZs.trans (by rw [List.size_toArray, hCA, lieC_len ka kb]), by rw [hCA]; exact all_oneCell_toArray (lieC_one a b)⟩
  have HSC : Seal ((Tryd.prog.info? 74).map (·.size) = some CC.toArray.size ∧ Z.size = CC.toArray.size ∧ CC.toArray.all (·.oneCell') = true) := ⟨by rw [List.size_toArray]; exact iC, hZs.trans (by rw [List.size_toArray, hCC, lieC_len kc kd]), by rw [hCC]; exact all_oneCell_toArray (lieC_one c d)⟩
  have uL := Tryd.underlying74
  rw [← hCA, ← hCC]
  obtain ⟨CR, hCR⟩ : ∃ CR, CR = (if ordI c a < 0 then CC else CA) := ⟨_, rfl⟩
  rw [← hCR]
  have HCR := Seal.mk hCR
  clear hCA hCC hZ hZs ka kb kc kd hCR
  go_enter Tryd.func107, Tryd.ntmps107
  go_upto_region 1 with (fail)
  rw [← hX]
  clear hX
  go_wp2_with (first | (refine wpList_load_mid rfl 74 (.tmp 4) rfl (w.heap.size + 1) 0 rfl CC _ rC uL rfl iC ?_) | (refine wpList_load_mid rfl 74 (.tmp 3) rfl w.heap.size 0 rfl CA _ rA uL rfl iA ?_))
  refine (HO.out X).mono ?_
  rintro e w1 ⟨rfl, hb1⟩
  have rA1 := rangeAt_below' rA hb1
  have rC1 := rangeAt_below' rC hb1
  have hz1 := Seal.mk (blk hb1 (Array.getElem?_eq_some_iff.1 hz.out).1 hz.out)
  have HB1 : Seal (Below w.heap.size w w1) := ⟨hXb.out.trans (hb1.mono hXb.out.size)⟩
  clear hb1 rA rC
  by_cases hlt : ordI c a < 0
  · have hq : Seal (CR = CC) := ⟨by rw [HCR.out, if_pos hlt]⟩
    go_wp2_with (first | (refine wpList_load_mid rfl 74 (.tmp 4) rfl (w.heap.size + 1) 0 rfl CC _ rC1 uL rfl iC ?_) | (refine wpList_store_row rfl 74 (.tmp 6) (.tmp 12) rfl (w.heap.size + 1 + 1) CC.toArray rfl rfl 74 Z hz1.out HSC.out.1 HSC.out.2.1 HSC.out.2.2 ?_))
    refine bodyPost_ret (results_cell_row (fn := Tryd.f107) rfl _ _ (w.heap.size + 1 + 1) 74 CC.toArray (0, 0) _ rfl (setRow_heap _ _ _ _ _ _ hz1.out) uL rfl HSC.out.1) rfl ⟨by rw [hq.out], below_row HB1.out (by omega) _⟩
  · have hq : Seal (CR = CA) := ⟨by rw [HCR.out, if_neg hlt]⟩
    go_wp2_with (first | (refine wpList_load_mid rfl 74 (.tmp 3) rfl w.heap.size 0 rfl CA _ rA1 uL rfl iA ?_) | (refine wpList_store_row rfl 74 (.tmp 6) (.tmp 13) rfl (w.heap.size + 1 + 1) CA.toArray rfl rfl 74 Z hz1.out HSA.out.1 HSA.out.2.1 HSA.out.2.2 ?_))
    refine bodyPost_ret (results_cell_row (fn := Tryd.f107) rfl _ _ (w.heap.size + 1 + 1) 74 CA.toArray (0, 0) _ rfl (setRow_heap _ _ _ _ _ _ hz1.out) uL rfl HSA.out.1) rfl ⟨by rw [hq.out], below_row HB1.out (by omega) _⟩
end Frk

namespace Frk
open Go Go.RowKit Go.Proofs
set_option maxRecDepth 100000

theorem cq_slB_comm (a b : Hd) : slB a b = slB b a := by
  unfold slB
  rw [Bool.beq_comm (a := a.L), Bool.beq_comm (a := a.A), Bool.beq_comm (a := a.R), Bool.beq_comm (a := a.leg), Bool.beq_comm (a := a.fr)]
theorem cq_hdB_comm (a b : Hd) : hdB a b = hdB b a := by
  cases h : hdB a b with
  | true => exact ((hdB_iff b a).2 ((hdB_iff a b).1 h).symm).symm
  | false =>
    cases h2 : hdB b a with
    | false => rfl
    | true => rw [(hdB_iff a b).2 ((hdB_iff b a).1 h2).symm] at h; cases h
theorem cq_comm (a b : Hd) : clB a b = clB b a := by
  unfold clB
  rw [cq_slB_comm a b, cq_hdB_comm (a.sg 0 0) (b.sg 0 0)]
  cases a.fm <;> cases b.fm <;> rfl
theorem cq_self (a : Hd) : clB a a = false := by
  unfold clB
  rw [(hdB_iff _ _).2 rfl]; simp
theorem cq_sl (a b : Hd) : slB a b = true ↔ a.L = b.L ∧ a.A = b.A ∧ a.R = b.R ∧ a.leg = b.leg ∧ a.fr = b.fr := by
  unfold slB
  simp only [Bool.and_eq_true, beq_iff_eq]
  constructor
  · rintro ⟨⟨h1, h2, h3⟩, h4, h5⟩; exact ⟨h1, h2, h3, h4, h5⟩
  · rintro ⟨h1, h2, h3, h4, h5⟩; exact ⟨⟨h1, h2, h3⟩, h4, h5⟩
theorem cq_cl {a b : Hd} (h : clB a b = true) : a.fm = true ∧ b.fm = true ∧ slB a b = true := by
  unfold clB at h
  simp only [Bool.and_eq_true] at h
  exact ⟨h.1, h.2.1, h.2.2.1⟩
theorem cq_refl (a : Hd) : slB a a = true := (cq_sl a a).2 ⟨rfl, rfl, rfl, rfl, rfl⟩
theorem cq_trans {a b c : Hd} (h : slB a b = true) (h' : slB b c = true) : slB a c = true := by
  rw [cq_sl] at h h' ⊢
  obtain ⟨h1, h2, h3, h4, h5⟩ := h
  obtain ⟨k1, k2, k3, k4, k5⟩ := h'
  exact ⟨h1.trans k1, h2.trans k2, h3.trans k3, h4.trans k4, h5.trans k5⟩
/-- of three hand-overs for one slot -/
theorem cq_third {a b c : Hd} (h : clB a b = true) (hc : c.fm = true) (hs : slB c a = true) : clB c a = true ∨ clB c b = true := by
  cases h1 : clB c a with
  | true => exact .inl rfl
  | false =>
    right
    unfold clB at h h1 ⊢
    simp only [Bool.and_eq_true] at h
    obtain ⟨fa, fb, hs2, hd⟩ := h
    rw [fa, hc, hs] at h1
    simp only [Bool.true_and, Bool.not_eq_false'] at h1
    have e := (hdB_iff _ _).1 h1
    rw [hc, fb, cq_trans hs hs2, e, hd]
    rfl

/-- which slot of one office comes first -/
def befB (a b : Hd) : Bool := if a.A ≠ b.A then decide (a.A < b.A) else if a.L ≠ b.L then decide (a.L < b.L) else if a.R ≠ b.R then decide (a.R < b.R) else decide (a.leg < b.leg)
theorem befB_iff (a b : Hd) : befB a b = true ↔ a.A < b.A ∨ a.A = b.A ∧ (a.L < b.L ∨ a.L = b.L ∧ (a.R < b.R ∨ a.R = b.R ∧ a.leg < b.leg)) := by
  unfold befB
  split
  · simp; omega
  · split
    · simp; omega
    · split
      · simp; omega
      · simp; omega
theorem ordI_iff (a b : Hd) : ordI a b < 0 ↔ befB a b = true := by
  rw [befB_iff]
  unfold ordI
  simp only [orL]
  have key : ∀ x y : Int, (cmpI x y = 0 ↔ x = y) ∧ (cmpI x y < 0 ↔ x < y) := fun x y => by
    unfold cmpI
    constructor <;> split <;> (try split) <;> omega
  have k1 := key a.A b.A
  have k2 := key a.L b.L
  have k3 := key a.R b.R
  have k4 := key a.leg b.leg
  split <;> (try split) <;> (try split) <;> (try split) <;> omega
theorem befB_irr (a : Hd) : befB a a = false := by
  cases h : befB a a with
  | false => rfl
  | true => rw [befB_iff] at h; omega
theorem befB_trans {a b c : Hd} (h : befB a b = true) (h' : befB b c = true) : befB a c = true := by
  rw [befB_iff] at *; omega
theorem befB_slot {a a' : Hd} (b : Hd) (h : slB a a' = true) : befB a b = befB a' b := by
  obtain ⟨h1, h2, h3, h4, _⟩ := (cq_sl a a').1 h
  unfold befB
  rw [h1, h2, h3, h4]
theorem befB_tie {a b : Hd} (h : befB a b = false) (h' : befB b a = false) (hf : a.fr = b.fr) : slB a b = true := by
  have h1 : ¬ befB a b = true := by rw [h]; simp
  have h2 : ¬ befB b a = true := by rw [h']; simp
  rw [befB_iff] at h1 h2
  rw [cq_sl]
  omega

/-! ## what a lie of an office is -/

/-- r is what is found for the office o among the hand-overs s -/
def LieP (s : List Hd) (o : Int) : Option (Hd × Hd) → Prop
  | none => ∀ a ∈ s, ∀ b ∈ s, a.fr = o → clB a b = false
  | some (a, b) => a.fr = o ∧ s.find? (fun x => slB x a) = some a ∧ s.find? (fun x => clB a x) = some b ∧ ∀ a' ∈ s, ∀ b' ∈ s, a'.fr = o → clB a' b' = true → befB a' a = false

theorem LieP.some_mem {s : List Hd} {o : Int} {a b : Hd} (h : LieP s o (some (a, b))) : a ∈ s ∧ b ∈ s ∧ clB a b = true :=
  ⟨List.mem_of_find?_eq_some h.2.1, List.mem_of_find?_eq_some h.2.2.1, by have := List.find?_some h.2.2.1; simpa using this⟩

theorem LieP.unique {s : List Hd} {o : Int} {r r' : Option (Hd × Hd)} (h : LieP s o r) (h' : LieP s o r') : r = r' := by
  have key : ∀ a b, LieP s o (some (a, b)) → LieP s o none → False := fun a b h1 h2 => by
    obtain ⟨m1, m2, m3⟩ := h1.some_mem
    have := h2 a m1 b m2 h1.1
    rw [this] at m3; cases m3
  cases r with
  | none =>
    cases r' with
    | none => rfl
    | some x => exact (key x.1 x.2 h' h).elim
  | some x =>
    obtain ⟨a, b⟩ := x
    cases r' with
    | none => exact (key a b h h').elim
    | some y =>
      obtain ⟨c, d⟩ := y
      obtain ⟨m1, m2, m3⟩ := h.some_mem
      obtain ⟨n1, n2, n3⟩ := h'.some_mem
      have t1 := h'.2.2.2 a m1 b m2 h.1 m3
      have t2 := h.2.2.2 c n1 d n2 h'.1 n3
      have hs := befB_tie t1 t2 (h.1.trans h'.1.symm)
      have e : (fun x => slB x a) = (fun x => slB x c) := by
        funext x
        cases hx : slB x a with
        | true => exact (cq_trans hx hs).symm
        | false =>
          cases hy : slB x c with
          | false => rfl
          | true => rw [cq_trans hy (by rw [cq_slB_comm]; exact hs)] at hx; cases hx
      have ea : a = c := by
        have := h.2.1
        rw [e, h'.2.1] at this
        exact (Option.some.inj this).symm
      subst ea
      have := h.2.2.1
      rw [h'.2.2.1] at this
      rw [Option.some.inj this]

/-! ## the program's way: three maps -/

/-- the first one of a slot -/
def bgP (pre : List Hd) (h : Hd) : Option Hd := pre.find? (fun x => slB x h)
/-- is its lie met? -/
def mtP (pre : List Hd) (h : Hd) : Bool := match bgP pre h with | none => false | some a => pre.any (fun x => clB a x)
/-- what comes of one more -/
def fdStep (pre : List Hd) (h : Hd) (F : Int → Option (Hd × Hd)) : Int → Option (Hd × Hd) :=
  match bgP pre h with
  | none => F
  | some a => if mtP pre h = true ∨ clB a h = false then F else fun o => if o = h.fr then (match F o with | some old => if ordI a old.1 < 0 then some (a, h) else some old | none => some (a, h)) else F o
def fdGo : List Hd → List Hd → (Int → Option (Hd × Hd)) → Int → Option (Hd × Hd)
  | _, [], F => F
  | pre, h :: r, F => fdGo (pre ++ [h]) r (fdStep pre h F)
def fdF (s : List Hd) : Int → Option (Hd × Hd) := fdGo [] s (fun _ => none)
theorem fdGo_snoc : ∀ (r pre : List Hd) (h : Hd) (F : Int → Option (Hd × Hd)), fdGo pre (r ++ [h]) F = fdStep (pre ++ r) h (fdGo pre r F)
  | [], pre, h, F => by simp [fdGo]
  | x :: r, pre, h, F => by
    show fdGo (pre ++ [x]) (r ++ [h]) _ = _
    rw [fdGo_snoc r]
    simp [fdGo]
theorem fdF_snoc (s : List Hd) (h : Hd) : fdF (s ++ [h]) = fdStep s h (fdF s) := by
  unfold fdF
  rw [fdGo_snoc]; simp

theorem find_snoc_some {p : Hd → Bool} {s : List Hd} {a h : Hd} (e : s.find? p = some a) : (s ++ [h]).find? p = some a := by
  rw [List.find?_append, e]; rfl

theorem LieP_step {s : List Hd} {h : Hd} (hs : ∀ x ∈ s, x.fm = true) {F : Int → Option (Hd × Hd)} (hF : ∀ o, LieP s o (F o)) (o : Int) : LieP (s ++ [h]) o (fdStep s h F o) := by
  -- pairs of the longer list
  have pairs : ∀ {a' b' : Hd}, a' ∈ s ++ [h] → b' ∈ s ++ [h] → clB a' b' = true → (a' ∈ s ∧ b' ∈ s) ∨ ∃ x ∈ s, clB x h = true ∧ slB x a' = true := by
    intro a' b' ha hb hc
    rcases List.mem_append.1 ha with ha1 | ha1
    · rcases List.mem_append.1 hb with hb1 | hb1
      · exact .inl ⟨ha1, hb1⟩
      · have e : b' = h := by simpa using hb1
        rw [e] at hc
        exact .inr ⟨a', ha1, hc, cq_refl _⟩
    · have e : a' = h := by simpa using ha1
      rw [e] at hc
      rw [e]
      rcases List.mem_append.1 hb with hb1 | hb1
      · exact .inr ⟨b', hb1, by rw [cq_comm]; exact hc, by rw [cq_slB_comm]; exact (cq_cl hc).2.2⟩
      · have e2 : b' = h := by simpa using hb1
        rw [e2, cq_self] at hc; cases hc
  -- what stays as it is: if each clash with h has one of its slot ahead
  have stays : (∀ x ∈ s, clB x h = true → ∃ y ∈ s, ∃ z ∈ s, clB y z = true ∧ slB y h = true) → LieP (s ++ [h]) o (F o) := by
    intro H
    have hP := hF o
    cases hr : F o with
    | none =>
      rw [hr] at hP
      intro a ha b hb hf
      cases hc : clB a b with
      | false => rfl
      | true =>
        rcases pairs ha hb hc with ⟨h1, h2⟩ | ⟨x, hx, hxh, hsx⟩
        · rw [hP a h1 b h2 hf] at hc; cases hc
        · obtain ⟨y, hy, z, hz, hyz, hyh⟩ := H x hx hxh
          have e : y.fr = o := by
            have e1 := ((cq_sl _ _).1 hyh).2.2.2.2
            have e2 := ((cq_sl _ _).1 (cq_cl hxh).2.2).2.2.2.2
            have e3 := ((cq_sl _ _).1 hsx).2.2.2.2
            omega
          rw [hP y hy z hz e] at hyz; cases hyz
    | some r =>
      obtain ⟨a, b⟩ := r
      rw [hr] at hP
      refine ⟨hP.1, find_snoc_some hP.2.1, find_snoc_some hP.2.2.1, fun a' ha' b' hb' hf hc => ?_⟩
      rcases pairs ha' hb' hc with ⟨h1, h2⟩ | ⟨x, hx, hxh, hsx⟩
      · exact hP.2.2.2 a' h1 b' h2 hf hc
      · obtain ⟨y, hy, z, hz, hyz, hyh⟩ := H x hx hxh
        have s1 : slB y a' = true := cq_trans hyh (cq_trans (by rw [cq_slB_comm]; exact (cq_cl hxh).2.2) hsx)
        rw [← befB_slot a s1]
        exact hP.2.2.2 y hy z hz ((((cq_sl _ _).1 s1).2.2.2.2).trans hf) hyz
  unfold fdStep
  cases hb : bgP s h with
  | none =>
    dsimp only
    refine stays (fun x hx hc => ?_)
    have := List.find?_eq_none.1 hb x hx
    rw [(cq_cl hc).2.2] at this; simp at this
  | some a =>
    dsimp only
    have am : a ∈ s := List.mem_of_find?_eq_some hb
    have ah : slB a h = true := by have := List.find?_some hb; simpa using this
    have hm : mtP s h = s.any (fun x => clB a x) := by unfold mtP; rw [hb]
    by_cases hc : mtP s h = true ∨ clB a h = false
    · rw [if_pos hc]
      refine stays (fun x hx hxh => ?_)
      have hmt : mtP s h = true := by
        rcases hc with hc | hc
        · exact hc
        · have hsx : slB a x = true := cq_trans ah (by rw [cq_slB_comm]; exact (cq_cl hxh).2.2)
          rcases cq_third hxh (hs a am) hsx with h1 | h1
          · rw [hm, List.any_eq_true]; exact ⟨x, hx, h1⟩
          · rw [hc] at h1; cases h1
      rw [hm, List.any_eq_true] at hmt
      obtain ⟨z, hz, haz⟩ := hmt
      exact ⟨a, am, z, hz, haz, ah⟩
    · rw [if_neg hc]
      have h1 : mtP s h = false := by cases e : mtP s h <;> simp_all
      have h2 : clB a h = true := by cases e : clB a h <;> simp_all
      rw [hm] at h1
      have h1' : ∀ x ∈ s, clB a x = false := fun x hx => by
        have := List.any_eq_false.1 h1 x hx
        simpa using this
      have fra : a.fr = h.fr := ((cq_sl _ _).1 ah).2.2.2.2
      have e1 : (s ++ [h]).find? (fun x => slB x a) = some a := by
        refine find_snoc_some ?_
        have e : (fun x => slB x a) = (fun x => slB x h) := by
          funext x
          cases hx : slB x a with
          | true => exact (cq_trans hx ah).symm
          | false =>
            cases hy : slB x h with
            | false => rfl
            | true => rw [cq_trans hy (by rw [cq_slB_comm]; exact ah)] at hx; cases hx
        rw [e]; exact hb
      have e2 : (s ++ [h]).find? (fun x => clB a x) = some h := by
        rw [List.find?_append, List.find?_eq_none.2 (fun x hx => by rw [h1' x hx]; simp)]
        simp [List.find?, h2]
      by_cases ho : o = h.fr
      · rw [if_pos ho]
        have hP := hF o
        cases hr : F o with
        | none =>
          rw [hr] at hP
          refine ⟨fra.trans ho.symm, e1, e2, fun a' ha' b' hb' hf hc' => ?_⟩
          rcases pairs ha' hb' hc' with ⟨k1, k2⟩ | ⟨x, hx, hxh, hsx⟩
          · rw [hP a' k1 b' k2 hf] at hc'; cases hc'
          · have s1 : slB a a' = true := cq_trans ah (cq_trans (by rw [cq_slB_comm]; exact (cq_cl hxh).2.2) hsx)
            rw [← befB_slot a s1]; exact befB_irr a
        | some r =>
          obtain ⟨c, d⟩ := r
          rw [hr] at hP
          dsimp only
          by_cases hlt : ordI a c < 0
          · rw [if_pos hlt]
            have hlt' := (ordI_iff a c).1 hlt
            refine ⟨fra.trans ho.symm, e1, e2, fun a' ha' b' hb' hf hc' => ?_⟩
            rcases pairs ha' hb' hc' with ⟨k1, k2⟩ | ⟨x, hx, hxh, hsx⟩
            · cases hq : befB a' a with
              | false => rfl
              | true =>
                have := hP.2.2.2 a' k1 b' k2 hf hc'
                rw [befB_trans hq hlt'] at this; cases this
            · have s1 : slB a a' = true := cq_trans ah (cq_trans (by rw [cq_slB_comm]; exact (cq_cl hxh).2.2) hsx)
              rw [← befB_slot a s1]; exact befB_irr a
          · rw [if_neg hlt]
            have hlt' : befB a c = false := by
              cases hq : befB a c with
              | false => rfl
              | true => exact absurd ((ordI_iff a c).2 hq) hlt
            refine ⟨hP.1, find_snoc_some hP.2.1, find_snoc_some hP.2.2.1, fun a' ha' b' hb' hf hc' => ?_⟩
            rcases pairs ha' hb' hc' with ⟨k1, k2⟩ | ⟨x, hx, hxh, hsx⟩
            · exact hP.2.2.2 a' k1 b' k2 hf hc'
            · have s1 : slB a a' = true := cq_trans ah (cq_trans (by rw [cq_slB_comm]; exact (cq_cl hxh).2.2) hsx)
              rw [← befB_slot c s1]; exact hlt'
      · rw [if_neg ho]
        have hP := hF o
        cases hr : F o with
        | none =>
          rw [hr] at hP
          intro a' ha' b' hb' hf
          cases hc' : clB a' b' with
          | false => rfl
          | true =>
            rcases pairs ha' hb' hc' with ⟨k1, k2⟩ | ⟨x, hx, hxh, hsx⟩
            · rw [hP a' k1 b' k2 hf] at hc'; cases hc'
            · have e3 := ((cq_sl _ _).1 (cq_cl hxh).2.2).2.2.2.2
              have e4 := ((cq_sl _ _).1 hsx).2.2.2.2
              omega
        | some r =>
          obtain ⟨c, d⟩ := r
          rw [hr] at hP
          refine ⟨hP.1, find_snoc_some hP.2.1, find_snoc_some hP.2.2.1, fun a' ha' b' hb' hf hc' => ?_⟩
          rcases pairs ha' hb' hc' with ⟨k1, k2⟩ | ⟨x, hx, hxh, hsx⟩
          · exact hP.2.2.2 a' k1 b' k2 hf hc'
          · have e3 := ((cq_sl _ _).1 (cq_cl hxh).2.2).2.2.2.2
            have e4 := ((cq_sl _ _).1 hsx).2.2.2.2
            omega

theorem fdF_spec : ∀ (n : Nat) (s : List Hd), s.length = n → (∀ x ∈ s, x.fm = true) → ∀ o, LieP s o (fdF s o)
  | 0, s, hn, _, o => by
    obtain rfl := List.length_eq_zero_iff.1 hn
    intro a ha; cases ha
  | n + 1, s, hn, hs, o => by
    have hne : s ≠ [] := by intro e; rw [e] at hn; cases hn
    obtain ⟨p, h, rfl⟩ : ∃ p h, s = p ++ [h] := ⟨s.dropLast, s.getLast hne, (List.dropLast_concat_getLast hne).symm⟩
    rw [fdF_snoc]
    have hp : ∀ x ∈ p, x.fm = true := fun x hx => hs x (List.mem_append_left _ hx)
    exact LieP_step hp (fun o => fdF_spec n p (by simpa using hn) hp o) o

/-! ## the reference's way: all pairs -/

/-- one pair -/
def lbB (a : Hd) : Option (Hd × Hd) → Bool
  | none => true
  | some x => befB a x.1
def lieS (o : Int) (a : Hd) (best : Option (Hd × Hd)) (c : Hd) : Option (Hd × Hd) :=
  if a.fr = o ∧ clB a c = true ∧ lbB a best = true then some (a, c) else best
def lieGo (o : Int) : List Hd → Option (Hd × Hd) → Option (Hd × Hd)
  | [], b => b
  | a :: r, b => lieGo o r (r.foldl (lieS o a) b)
def lieR (s : List Hd) (o : Int) : Option (Hd × Hd) := lieGo o s none

/-- the pairs, in order -/
def prs : List Hd → List (Hd × Hd)
  | [] => []
  | a :: r => r.map (fun c => (a, c)) ++ prs r
def lieT (o : Int) (best : Option (Hd × Hd)) (x : Hd × Hd) : Option (Hd × Hd) := lieS o x.1 best x.2
/-- the least one of a list, the first of its like -/
def BestOf (o : Int) (done : List (Hd × Hd)) : Option (Hd × Hd) → Prop
  | none => ∀ x ∈ done, x.1.fr = o → clB x.1 x.2 = false
  | some y => ∃ L1 L2, done = L1 ++ y :: L2 ∧ y.1.fr = o ∧ clB y.1 y.2 = true ∧ (∀ x ∈ L1, x.1.fr = o → clB x.1 x.2 = true → befB y.1 x.1 = true) ∧ ∀ x ∈ L2, x.1.fr = o → clB x.1 x.2 = true → befB x.1 y.1 = false
/-! ## what is signed; Find, Trust -/

def sgn (ks : List Int) (h : Hd) : Bool := decide (0 ≤ h.fr) && (decide (h.fr < (ks.length : Int)) && chB (ks.getD h.fr.toNat 0) h)
def sgd (ks : List Int) (l : List Hd) : List Hd := l.filter (sgn ks)
theorem sgn_fm {ks : List Int} {h : Hd} (e : sgn ks h = true) : h.fm = true := by
  unfold sgn chB at e
  simp only [Bool.and_eq_true] at e
  exact e.2.2.1
theorem sgd_fm {ks : List Int} {l : List Hd} : ∀ x ∈ sgd ks l, x.fm = true := fun _ hx => sgn_fm (List.mem_filter.1 hx).2
def fndP (ks : List Int) (l : List Hd) : List (Hd × Hd) := (List.range ks.length).filterMap (fun (o : Nat) => fdF (sgd ks l) (o : Int))
def trsP (ks : List Int) (l : List Hd) : List Hd := (sgd ks l).filter (fun h => (fdF (sgd ks l) h.fr).isNone)
end Frk

namespace Frk
open Go Go.RowKit Go.Proofs
open Go.Maps (Keyed)
set_option maxRecDepth 100000

/-- an element reads as itself -/
def rv (v : Value) : Option (DataW Value × List MemPlace) := some (.held v, [])

open Classical in
/-- a function turned at one place -/
noncomputable def upd (f : Value → Option Value) (k v : Value) : Value → Option Value := fun x => if x = k then some v else f x
theorem upd_same (f : Value → Option Value) (k v : Value) : upd f k v k = some v := by unfold upd; rw [if_pos rfl]
theorem upd_other (f : Value → Option Value) {k x : Value} (v : Value) (h : x ≠ k) : upd f k v x = f x := by unfold upd; rw [if_neg h]

/-- block b is a map of at most n entries; at each key it has what f says -/
def MapIs (w : World) (P : Program) (k : TypeId) (b n : Nat) (f : Value → Option Value) : Prop :=
  ∃ D, w.ownsMap P k rv b n D ∧ ∀ kv kl, keyOf P k kv = some kl → (∀ z, D.atKey kl (.held z) = .held ((f kv).getD z)) ∧ Maps.has D kl = (f kv).isSome

variable {P : Program} {k : TypeId} {w : World} {b n : Nat} {f : Value → Option Value}

theorem mapIs_made (w : World) (P : Program) (k : TypeId) : MapIs (w.alloc (.map #[] 0)) P k w.heap.size 0 (fun _ => none) :=
  ⟨_, World.ownsMap_made w P k rv, fun _ _ _ => ⟨fun _ => rfl, rfl⟩⟩
theorem MapIs.lt (h : MapIs w P k b n f) : b < w.heap.size := by obtain ⟨D, h, _⟩ := h; exact h.lt
theorem MapIs.of_block {w' : World} (h : MapIs w P k b n f) (e : w'.heap[b]? = w.heap[b]?) : MapIs w' P k b n f := by
  obtain ⟨D, ⟨es, c, hb, r⟩, h2⟩ := h
  exact ⟨D, ⟨es, c, e.trans hb, r⟩, h2⟩
theorem MapIs.kept {w' : World} {row : Option Nat} (h : MapIs w P k b n f) (hg : w.grownBy w' row) (hne : some b ≠ row) : MapIs w' P k b n f := h.of_block (hg.block b h.lt hne)
theorem MapIs.alloc (h : MapIs w P k b n f) (o : Obj) : MapIs (w.alloc o) P k b n f := h.of_block (Below.heap_alloc w _ _ h.lt)
theorem MapIs.below {w' : World} (h : MapIs w P k b n f) (hb : Below w.heap.size w w') : MapIs w' P k b n f := h.of_block (hb.block b h.lt)
theorem MapIs.congr {g : Value → Option Value} (h : MapIs w P k b n f) (e : ∀ kv kl, keyOf P k kv = some kl → f kv = g kv) : MapIs w P k b n g := by
  obtain ⟨D, h1, h2⟩ := h
  exact ⟨D, h1, fun kv kl hk => by rw [← e kv kl hk]; exact h2 kv kl hk⟩
theorem MapIs.mono (h : MapIs w P k b n f) {n' : Nat} (hn : n ≤ n') : MapIs w P k b n' f := by obtain ⟨D, h1, h2⟩ := h; exact ⟨D, h1.mono hn, h2⟩
theorem MapIs.obj (h : MapIs w P k b n f) : ∃ es c, w.heap[b]? = some (.map es c) := by obtain ⟨D, ⟨es, c, hb, _⟩, _⟩ := h; exact ⟨es, c, hb⟩

theorem MapIs.look {t e : TypeId} (h : MapIs w P k b n f) (K : Keyed P k) (ht : P.underlying t = some (.map k e)) {z : Value} (hz : (zeroValue e).run P w = .ok z w) {key : Value} {kl : Lit} (hkey : keyOf P k key = some kl) :
    (Instr.lookup t (.map (some b)) key true).run P w = .ok (.tuple #[(f key).getD z, .bool (f key).isSome]) w := by
  obtain ⟨D, h1, h2⟩ := h
  obtain ⟨v, ps, hr, hv⟩ := h1.look_ok K ht hz (zd := .held z) (zp := []) rfl hkey
  rw [(h2 key kl hkey).1 z] at hv
  have : v = (f key).getD z := by
    unfold rv at hv
    simp only [Option.some.injEq, Prod.mk.injEq, DataW.held.injEq] at hv
    exact hv.1
  rw [hr, this, (h2 key kl hkey).2]
theorem MapIs.look1 {t e : TypeId} (h : MapIs w P k b n f) (K : Keyed P k) (ht : P.underlying t = some (.map k e)) {z : Value} (hz : (zeroValue e).run P w = .ok z w) {key : Value} {kl : Lit} (hkey : keyOf P k key = some kl) :
    (Instr.lookup t (.map (some b)) key false).run P w = .ok ((f key).getD z) w := by
  obtain ⟨D, h1, h2⟩ := h
  obtain ⟨v, ps, hr, hv⟩ := h1.lookup K ht hz (zd := .held z) (zp := []) rfl hkey
  rw [(h2 key kl hkey).1 z] at hv
  have : v = (f key).getD z := by
    unfold rv at hv
    simp only [Option.some.injEq, Prod.mk.injEq, DataW.held.injEq] at hv
    exact hv.1
  rw [hr, this]
theorem MapIs.store {t e : TypeId} (h : MapIs w P k b n f) (K : Keyed P k) (ht : P.underlying t = some (.map k e)) (hn : n < maxLen) {key : Value} {kl : Lit} (hkey : keyOf P k key = some kl) (v : Value) :
    ∃ w', (Instr.mapUpdate t (.map (some b)) key v).run P w = .ok () w' ∧ MapIs w' P k b (n + 1) (upd f key v) ∧ w.grownBy w' (some b) ∧ w'.heap.size = w.heap.size := by
  obtain ⟨D, h1, h2⟩ := h
  obtain ⟨w', hr, ho, hg⟩ := h1.store K ht hn (d := .held v) (ps := []) hkey rfl
  refine ⟨w', hr, ⟨_, ho, fun kv kl' hk' => ?_⟩, hg.grown, ?_⟩
  · by_cases he : kv = key
    · subst he
      obtain rfl : kl' = kl := by rw [hkey] at hk'; exact (Option.some.inj hk').symm
      rw [upd_same]
      exact ⟨fun z => Maps.atKey_put_same h1.isMap (K.key hkey) _ _, Maps.has_put_same h1.isMap (K.key hkey) _⟩
    · rw [upd_other _ _ he]
      have hne : kl' ≠ kl := fun e => he (K.inj (e ▸ hk') hkey)
      exact ⟨fun z => by rw [Maps.atKey_put_other hne]; exact (h2 kv kl' hk').1 z, by rw [Maps.has_put_other hne]; exact (h2 kv kl' hk').2⟩
  · obtain ⟨_, _, _, _, _, rfl⟩ := hg
    simp [Go.ChangeMaps.setBlock]

/-! ## at the operation -/
section
variable {F : Fence} {nF : Nat} {ops : Array Oper} {rest : List Oper} {o : Oper} {a : Act} {Q : Exit → Act → World → Prop}
theorem wpListIn_look (hg : o.guard = none) (m x : Operand) (t : TypeId) (hop : o.op = Op.lookup t m x true) (k e : TypeId) (K : Keyed P k) (ht : P.underlying t = some (.map k e)) {z : Value} (hz : (zeroValue e).run P w = .ok z w)
    (b n : Nat) (f : Value → Option Value) (hm : a.eval m = .map (some b)) (hown : MapIs w P k b n f) (key : Value) (hx : a.eval x = key) {kl : Lit} (hkey : keyOf P k key = some kl) (v : Value) (ok : Bool) (hv : (f key).getD z = v) (hok : (f key).isSome = ok)
    (hK : wpListIn F nF P ops Q rest (a.put o.dst (.tuple #[v, .bool ok])) w) : wpListIn F nF P ops Q (o :: rest) a w := by
  refine wpListIn_plain hg fun K' hK' => ?_
  have hrun := hown.look K ht hz hkey
  rw [hv, hok] at hrun
  unfold Oper.wpIn
  refine ⟨by simp [Oper.about, hop], ?_⟩
  rw [Oper.semAt_plain F _ _ (by rw [hop]; intro c hc'; cases hc')]
  simp [execOp, hop, hm, hx, hrun, Result.andThen]
  exact hK' _ _ hK
theorem wpListIn_upd (hg : o.guard = none) (m x v : Operand) (t : TypeId) (hop : o.op = Op.mapUpdate t m x v) (k e : TypeId) (K : Keyed P k) (ht : P.underlying t = some (.map k e))
    (b n : Nat) (f : Value → Option Value) (hm : a.eval m = .map (some b)) (hown : MapIs w P k b n f) (hn : n < maxLen) (key val : Value) (hx : a.eval x = key) (hv : a.eval v = val) {kl : Lit} (hkey : keyOf P k key = some kl)
    (hK : ∀ w', MapIs w' P k b (n + 1) (upd f key val) → w.grownBy w' (some b) → w'.heap.size = w.heap.size → wpListIn F nF P ops Q rest (a.put o.dst undef) w') : wpListIn F nF P ops Q (o :: rest) a w := by
  refine wpListIn_plain hg fun K' hK' => ?_
  obtain ⟨w', hrun, r1, r2, r3⟩ := hown.store K ht hn hkey val
  unfold Oper.wpIn
  refine ⟨by simp [Oper.about, hop], ?_⟩
  rw [Oper.semAt_plain F _ _ (by rw [hop]; intro c hc'; cases hc')]
  simp [execOp, hop, hm, hx, hv, hrun, Result.andThen]
  exact hK' _ _ (hK w' r1 r2 r3)
theorem wpList_look (hg : o.guard = none) (m x : Operand) (t : TypeId) (hop : o.op = Op.lookup t m x true) (k e : TypeId) (K : Keyed P k) (ht : P.underlying t = some (.map k e)) {z : Value} (hz : (zeroValue e).run P w = .ok z w)
    (b n : Nat) (f : Value → Option Value) (hm : a.eval m = .map (some b)) (hown : MapIs w P k b n f) (key : Value) (hx : a.eval x = key) {kl : Lit} (hkey : keyOf P k key = some kl) (v : Value) (ok : Bool) (hv : (f key).getD z = v) (hok : (f key).isSome = ok)
    (hK : wpList P ops Q rest (a.put o.dst (.tuple #[v, .bool ok])) w) : wpList P ops Q (o :: rest) a w := by
  refine wpList_plain hg fun K' hK' => ?_
  have hrun := hown.look K ht hz hkey
  rw [hv, hok] at hrun
  unfold Oper.wp
  simp [execOp, hop, hm, hx, hrun, Result.andThen]
  exact hK' _ _ hK
end

/-! ## the keys: slots and offices -/
theorem i64_lit {n : Int} (h : I64 n) : (Lit.int .i64 n).wf = true := by
  unfold I64 at h
  show (decide (IntKind.i64.min ≤ n) && decide (n ≤ IntKind.i64.max)) = true
  rw [show IntKind.i64.min = -9223372036854775808 from by decide, show IntKind.i64.max = 9223372036854775807 from by decide]
  simp only [decide_eq_true_eq, Bool.and_eq_true]
  exact h
theorem keyLits_i64 (d : Nat) {n : Int} (h : I64 n) : Tryd.prog.keyLits (d + 1) 3 [.int .i64 n] = some [.int .i64 n] := by
  unfold Program.keyLits
  simp [Tryd.underlying3, i64_lit h]
theorem int_keys : Keyed Tryd.prog 3 := Maps.int_keyed Tryd.underlying3
theorem keyOf_i64 {n : Int} (h : I64 n) : keyOf Tryd.prog 3 (.int .i64 n) = some (.int .i64 n) := Maps.keyOf_int_mk Tryd.underlying3 (i64_lit h)
theorem slot_keyed : Keyed Tryd.prog 152 := Keyed.of_law (deep_law_laid (by kernel_rfl) (m := 9) (by decide) (by decide +kernel) (by kernel_rfl) (by kernel_rfl))
theorem keyOf_slot {h : Hd} (k : h.ok) : ∃ kl, keyOf Tryd.prog 152 (.agg (slC h).toArray) = some kl := by
  obtain ⟨d, hd⟩ : ∃ d, Tryd.prog.types.size + 1 = d + 1 + 1 + 1 := ⟨Tryd.prog.types.size - 2, by kernel_rfl⟩
  have hr : Tryd.prog.keyLits (d + 1 + 1) 23 [.int .i64 h.L, .int .i64 h.A, .int .i64 h.R] = some [.int .i64 h.L, .int .i64 h.A, .int .i64 h.R] := by
    unfold Program.keyLits
    simp [Tryd.underlying23, keyLits_i64 _ k.iL, keyLits_i64 _ k.iA, keyLits_i64 _ k.iR, show Tryd.prog.cellsOf 23 = 3 from by kernel_rfl, show Tryd.prog.cellsOf 3 = 1 from by kernel_rfl]
  have hs : Tryd.prog.keyLits (d + 1 + 1 + 1) 152 (slC h) = some [.int .i64 h.fr, .int .i64 h.L, .int .i64 h.A, .int .i64 h.R, .int .i64 h.leg] := by
    unfold Program.keyLits slC
    simp [Tryd.underlying152, keyLits_i64 _ k.ifr, keyLits_i64 _ k.ileg, hr, show Tryd.prog.cellsOf 23 = 3 from by kernel_rfl, show Tryd.prog.cellsOf 3 = 1 from by kernel_rfl, show Tryd.prog.cellsOf 152 = 5 from by kernel_rfl]
  unfold keyOf
  rw [Tryd.underlying152]
  dsimp only
  rw [if_pos (by
    rw [Bool.and_eq_true]
    refine ⟨by kernel_rfl, ?_⟩
    unfold Value.formed slC
    simp [Tryd.underlying152, show Tryd.prog.cellsOf 152 = 5 from by kernel_rfl]), hd]
  exact ⟨_, by rw [show (Value.agg (slC h).toArray).cells.toList = slC h from rfl, hs]; rfl⟩
end Frk

namespace Frk
open Go Go.RowKit Go.Proofs
set_option maxRecDepth 100000

/-! ## rows of elements -/
theorem flatC_at {α : Type} (C : α → List Value) (z : Nat) : ∀ (l : List α), (∀ x ∈ l, (C x).length = z) → ∀ (i : Nat) (x : α), l[i]? = some x → ∀ (j : Nat) (v : Value), (C x)[j]? = some v → (l.flatMap C)[i * z + j]? = some v
  | [], _, i, x, h, _, _, _ => by simp at h
  | t :: l, hl, 0, x, h, j, v, hv => by
    obtain rfl : t = x := by simpa using h
    have hj := (List.getElem?_eq_some_iff.1 hv).1
    rw [List.flatMap_cons, Nat.zero_mul, Nat.zero_add, List.getElem?_append_left hj, hv]
  | t :: l, hl, i + 1, x, h, j, v, hv => by
    have ht := hl t (by simp)
    rw [List.flatMap_cons, List.getElem?_append_right (by rw [ht, Nat.succ_mul]; omega), show (i + 1) * z + j - (C t).length = i * z + j from by rw [ht, Nat.succ_mul]; omega]
    exact flatC_at C z l (fun s hs => hl s (by simp [hs])) i x (by simpa using h) j v hv
theorem rangeC_at {α : Type} {C : α → List Value} {z : Nat} {l : List α} {w : World} {g o : Nat} (hr : w.rangeAt g o (l.flatMap C)) (hl : ∀ x ∈ l, (C x).length = z) {i : Nat} {x : α} (hx : l[i]? = some x) : w.rangeAt g (o + i * z) (C x) := by
  intro j v hv
  have := hr (i * z + j) v (flatC_at C z l hl i x hx j v hv)
  rwa [show o + i * z + j = o + (i * z + j) from by omega]
theorem flatC_len {α : Type} {C : α → List Value} {z : Nat} : ∀ {l : List α}, (∀ x ∈ l, (C x).length = z) → (l.flatMap C).length = l.length * z
  | [], _ => by simp
  | t :: l, hl => by
    rw [List.flatMap_cons, List.length_append, hl t (by simp), flatC_len (fun x hx => hl x (by simp [hx])), List.length_cons, Nat.succ_mul]; omega

/-- a slice of hand-overs -/
structure IsHs (w : World) (a : Option Addr) (n c : Nat) (l : List Hd) : Prop where
  llen : l.length = n
  lcap : n ≤ c
  lmax : n ≤ 5000
  cmax : c ≤ 9223372036854775807
  each : ∀ h ∈ l, h.ok
  at_ : n = 0 ∨ ∃ g o, a = some ⟨g, o, none⟩ ∧ w.rangeAt g o (l.flatMap Hd.C) ∧ g < w.heap.size
/-- a slice of keys -/
structure IsKs (w : World) (a : Option Addr) (n c : Nat) (l : List Int) : Prop where
  llen : l.length = n
  lcap : n ≤ c
  lmax : n ≤ 5000
  cmax : c ≤ 9223372036854775807
  at_ : n = 0 ∨ ∃ g o, a = some ⟨g, o, none⟩ ∧ w.rangeAt g o (l.map (Value.int .i64)) ∧ g < w.heap.size
theorem IsHs.same {w w' : World} {a : Option Addr} {n c : Nat} {l : List Hd} (h : IsHs w a n c l) (hk : ∀ g o, 0 < n → a = some ⟨g, o, none⟩ → g < w.heap.size → w'.heap[g]? = w.heap[g]?) (hz : w.heap.size ≤ w'.heap.size) : IsHs w' a n c l :=
  ⟨h.llen, h.lcap, h.lmax, h.cmax, h.each, by
    rcases h.at_ with h0 | ⟨g, o, e, hr, hg⟩
    · exact .inl h0
    · by_cases h0 : n = 0
      · exact .inl h0
      · exact .inr ⟨g, o, e, rangeAt_of_same hr (hk g o (by omega) e hg), by omega⟩⟩
theorem IsHs.below {w w' : World} {a : Option Addr} {n c : Nat} {l : List Hd} (h : IsHs w a n c l) (hb : Below w.heap.size w w') : IsHs w' a n c l := h.same (fun g _ _ _ hg => hb.block g hg) hb.size
theorem IsKs.same {w w' : World} {a : Option Addr} {n c : Nat} {l : List Int} (h : IsKs w a n c l) (hk : ∀ g o, 0 < n → a = some ⟨g, o, none⟩ → g < w.heap.size → w'.heap[g]? = w.heap[g]?) (hz : w.heap.size ≤ w'.heap.size) : IsKs w' a n c l :=
  ⟨h.llen, h.lcap, h.lmax, h.cmax, by
    rcases h.at_ with h0 | ⟨g, o, e, hr, hg⟩
    · exact .inl h0
    · by_cases h0 : n = 0
      · exact .inl h0
      · exact .inr ⟨g, o, e, rangeAt_of_same hr (hk g o (by omega) e hg), by omega⟩⟩
theorem IsKs.below {w w' : World} {a : Option Addr} {n c : Nat} {l : List Int} (h : IsKs w a n c l) (hb : Below w.heap.size w w') : IsKs w' a n c l := h.same (fun g _ _ _ hg => hb.block g hg) hb.size

/-! ## inside the wide fence -/
theorem rowsIn_w {n : Nat} {P : Program} {row : String} {args : Array Value} {w : World} {R : Value → World → Prop} (h : Rows P row args w R) : RowsIn Fence.wide n P row args w R := by
  intro c cs _
  obtain ⟨v, w', r, s⟩ := h c cs
  exact ⟨v, w', r, stepsIn_wide.2 s⟩
theorem opIn_of_op_w {n : Nat} {P : Program} {o : Oper} {a : Act} {w : World} {K : Act → World → Prop} {Q : Exit → Act → World → Prop} (hd : ∀ c, o.op ≠ .defer c) (h : o.wp P a w K Q) : o.wpIn Fence.wide n P a w K Q := by
  refine ⟨fun _ _ => trivial, ?_⟩
  rw [Oper.semAt_eq _ _ _ hd]
  unfold Oper.wp at h
  generalize (execOp a.eval o).run P w = r at h
  cases r with
  | ok x w' =>
    cases x <;> simp only [Oper.upon, Oper.uponIn] at h ⊢ <;> first | exact h | exact h.elim | exact ⟨fun h => (by cases h), callsIn_wide.2 h⟩ | exact ⟨fun h => (by cases h), rowsIn_w h⟩
  | halt x w' => cases x <;> simp only [Oper.upon, Oper.uponIn] at h ⊢ <;> first | exact h | exact h.elim

section
variable {n : Nat} {P : Program} {ops : Array Oper} {rest : List Oper} {o : Oper} {a : Act} {w : World} {Q : Exit → Act → World → Prop}
theorem wpListIn_load_mid_w (hg : o.guard = none) (ty : TypeId) (x : Operand) (ho : o.op = .load ty x)
    (b off : Nat) (hx : a.eval x = .pointer (some ⟨b, off, none⟩)) (cs : List Value) (d : TypeDesc) (hc : w.rangeAt b off cs)
    (hu : P.underlying ty = some d) (hd : d.isRow = true) (hi : (P.info? ty).map (·.size) = some cs.length)
    (h : wpListIn Fence.wide n P ops Q rest (a.put o.dst (.agg cs.toArray)) w) : wpListIn Fence.wide n P ops Q (o :: rest) a w :=
  wpListIn_plain hg fun K hK' => opIn_of_op_w (by rw [ho]; intro c hc'; cases hc') (wp_load_mid ty x ho b off hx cs d hc hu hd hi (hK' _ _ h))
theorem wpListIn_store_row_w (hgd : o.guard = none) (ty : TypeId) (x y : Operand) (ho : o.op = .store ty x y)
    (g : Nat) (cells : Array Value) (hx : a.eval x = .pointer (some ⟨g, 0, none⟩)) (hy : a.eval y = .agg cells)
    (t : TypeId) (old : Array Value) (hg : w.heap[g]? = some (.cells old t (0, 0))) (hi : (P.info? ty).map (·.size) = some cells.size)
    (hold : old.size = cells.size) (h1 : cells.all (·.oneCell') = true)
    (h : wpListIn Fence.wide n P ops Q rest (a.put o.dst undef) (w.setRow g cells)) : wpListIn Fence.wide n P ops Q (o :: rest) a w :=
  wpListIn_plain hgd fun K hK' => opIn_of_op_w (by rw [ho]; intro c hc'; cases hc') (by
    unfold Oper.wp
    rw [exec_store_row ty x y ho g cells hx hy t old hg hi hold h1]
    exact hK' _ _ h)
end

/-! ## a region whose operation number t is a call of yield, and waits for all that is taken ahead of it -/
section
variable {n : Nat} {P : Program} {ops : Array Oper} {Q : Exit → Act → World → Prop} {md : Region.Mode} {S : World → Prop} {t : Nat}

def wpAnyV (n : Nat) (P : Program) (md : Region.Mode) (ops : Array Oper) (Q : Exit → Act → World → Prop) (S : World → Prop) (t : Nat) : Nat → Array Bool → Act → World → Prop
  | 0, listed, a, w => Region.ready md ops listed = [] ∧ Q .normal a w
  | fuel + 1, listed, a, w =>
    (Region.ready md ops listed = [] → Q .normal a w) ∧
    ∀ i ∈ Region.ready md ops listed, (i = t → wpOpIn Fence.wide n P ops Q t (wpAnyIn Fence.wide n P md ops Q fuel (listed.setIfInBounds t true)) a w) ∧
      (i ≠ t → wpOp P ops Q i (fun a' w' => S w' ∧ wpAnyV n P md ops Q S t fuel (listed.setIfInBounds i true) a' w') a w)

theorem anyIn_of_V (hd : noDefer ops = true) (hQ : ¬ LetsOut Q) : ∀ (fuel : Nat) (listed : Array Bool) (a : Act) (w : World), wpAnyV n P md ops Q S t fuel listed a w → wpAnyIn Fence.wide n P md ops Q fuel listed a w
  | 0, _, _, _, h => h
  | fuel + 1, listed, a, w, h => by
    refine ⟨h.1, fun i hi => ?_⟩
    obtain ⟨h1, h2⟩ := h.2 i hi
    by_cases hit : i = t
    · subst hit; exact h1 rfl
    · have h3 := h2 hit
      unfold wpOp at h3
      unfold wpOpIn
      cases ho : ops[i]? with
      | none =>
        rw [ho] at h3
        exact anyIn_of_V hd hQ fuel _ _ _ h3.2
      | some o =>
        rw [ho] at h3
        simp only [] at h3 ⊢
        by_cases hw : Region.wanted o (yielded ops a.tmps) = true
        · rw [if_pos hw] at h3 ⊢
          rcases h3 with h3 | h3
          · exact opIn_of_op_w (noDefer_spec hd ho) (Oper.wp_mono (fun a w h => anyIn_of_V hd hQ fuel _ a w h.2) h3)
          · exact absurd h3.2 hQ
        · rw [if_neg hw] at h3 ⊢
          exact ⟨fun _ _ => trivial, anyIn_of_V hd hQ fuel _ _ _ h3.2⟩

theorem getD_ft {l : Array Bool} {i : Nat} (h : l.getD i false = true) : l.getD i true = true := by
  by_cases hi : i < l.size
  · simp [hi] at h ⊢; exact h
  · simp [Array.getElem?_eq_none (show l.size ≤ i by omega)]
/-- what is listed has all listed that it waits for -/
def closedL (md : Region.Mode) (ops : Array Oper) (listed : Array Bool) : Prop := ∀ j oj, ops[j]? = some oj → listed.getD j true = true → ∀ e ∈ oj.after, Region.binds md e = true → listed.getD e.on true = true
def closedB (md : Region.Mode) (ops : Array Oper) (listed : Array Bool) : Bool := (List.range ops.size).all fun j => !listed.getD j true || (match ops[j]? with | some o => o.after.all (fun e => !Region.binds md e || listed.getD e.on true) | none => true)
theorem closedB_spec {listed : Array Bool} (h : closedB md ops listed = true) : closedL md ops listed := by
  intro j oj hj hl e he hb
  have h1 := List.all_eq_true.1 h j (List.mem_range.2 (Array.getElem?_eq_some_iff.1 hj).1)
  rw [hj] at h1
  simp only [hl, Bool.not_true, Bool.false_or] at h1
  have h2 := Array.all_eq_true'.1 h1 e he
  simpa [hb] using h2
/-- does operation t wait for i, maybe through others? -/
def leadsB (md : Region.Mode) (ops : Array Oper) : Nat → Nat → Nat → Bool
  | 0, _, _ => false
  | f + 1, t, i => match ops[t]? with | some o => o.after.any (fun e => Region.binds md e && (e.on == i || leadsB md ops f e.on i)) | none => false
theorem leadsB_listed {listed : Array Bool} (hc : closedL md ops listed) {i : Nat} : ∀ (f t : Nat), leadsB md ops f t i = true → (∀ o, ops[t]? = some o → ∀ e ∈ o.after, Region.binds md e = true → listed.getD e.on true = true) → listed.getD i true = true
  | 0, _, h, _ => by cases h
  | f + 1, t, h, hd => by
    unfold leadsB at h
    cases ho : ops[t]? with
    | none => rw [ho] at h; cases h
    | some o =>
      rw [ho] at h
      obtain ⟨e, he, hb⟩ := Array.any_eq_true'.1 h
      simp only [Bool.and_eq_true, Bool.or_eq_true, beq_iff_eq] at hb
      have h1 := hd o ho e he hb.1
      rcases hb.2 with h2 | h2
      · rw [← h2]; exact h1
      · exact leadsB_listed hc f e.on h2 (fun o' ho' => hc e.on o' ho' h1)
theorem closedL_set {listed : Array Bool} (hc : closedL md ops listed) {j : Nat} {oj : Oper} (hj : ops[j]? = some oj) (hall : ∀ e ∈ oj.after, Region.binds md e = true → listed.getD e.on true = true) : closedL md ops (listed.setIfInBounds j true) := by
  have up : ∀ k, listed.getD k true = true → (listed.setIfInBounds j true).getD k true = true := fun k h => by
    by_cases e : j = k
    · subst e
      by_cases hl : j < listed.size
      · simp [hl]
      · simp
    · rw [getD_set_ne true e]; exact h
  intro k ok hk hl e he hb
  by_cases hjk : j = k
  · subst hjk
    rw [hj] at hk; cases hk
    exact up _ (hall e he hb)
  · rw [getD_set_ne true hjk] at hl
    exact up _ (hc k ok hk hl e he hb)

theorem anyV_first {i : Nat} {oi : Oper} {v : Value} (hi : ops[i]? = some oi) (hsel : ∀ (j : Nat) (o : Oper) cs b, ops[j]? = some o → o.op ≠ .select cs b)
    (hQ : ∀ c a w, Q (.panic c) (a.put oi.dst v) w → Q (.panic c) a w) (hit : i ≠ t) (hwt : leadsB md ops ops.size t i = true) :
    ∀ (fuel : Nat) (listed : Array Bool) (a : Act) (w : World), closedL md ops listed →
      (∀ j oj, ops[j]? = some oj → j ≠ i → listed.getD j true = false → (∀ e ∈ oj.after, Region.binds md e = true → e.on ≠ i) → oi.apart ops oj = true) →
      i ∈ Region.ready md ops listed → YieldsIf P ops S oi v a → S w →
      wpAnyV n P md ops Q S t fuel (listed.setIfInBounds i true) (a.put oi.dst v) w → wpAnyV n P md ops Q S t (fuel + 1) listed a w := by
  intro fuel
  induction fuel with
  | zero =>
    intro listed a w _ _ hr hy hS H
    refine ⟨fun h => (by rw [h] at hr; cases hr), fun j hj => ?_⟩
    by_cases hji : j = i
    · subst hji; exact ⟨fun e => absurd e hit, fun _ => hy.wpOp hi hS ⟨hS, H⟩⟩
    · have := ready_mono hj hji
      rw [H.1] at this
      cases this
  | succ fuel ih =>
    intro listed a w hcl hfree hr hy hS H
    refine ⟨fun h => (by rw [h] at hr; cases hr), fun j hj => ?_⟩
    by_cases hji : j = i
    · subst hji; exact ⟨fun e => absurd e hit, fun _ => hy.wpOp hi hS ⟨hS, H⟩⟩
    · obtain ⟨hjun, oj, hoj, hall⟩ := mem_ready.1 hj
      have hnot : ∀ e ∈ oj.after, Region.binds md e = true → e.on ≠ i := fun e he hb heq => by
        have h1 := hall e he hb
        have h0 := (mem_ready.1 hr).1
        rw [heq] at h1
        rcases Nat.lt_or_ge i listed.size with h' | h'
        · simp [h'] at h0 h1; rw [h0] at h1; cases h1
        · simp [Array.getElem?_eq_none h'] at h1
      have hjt : j ≠ t := fun e => by
        subst e
        have h1 := leadsB_listed hcl _ _ hwt (fun o' ho' => by rw [hoj] at ho'; cases ho'; exact fun e he hb => getD_ft (hall e he hb))
        have h0 := (mem_ready.1 hr).1
        rw [h0] at h1; cases h1
      have h1 := (H.2 j (ready_mono hj hji)).2 hjt
      have h2 := wpOp_putIf hoj (hfree j oj hoj hji hjun hnot) (fun cs b => hsel i oi cs b hi) (fun cs b => hsel j oj cs b hoj) hQ hy h1
      have hfree' : ∀ k ok, ops[k]? = some ok → k ≠ i → (listed.setIfInBounds j true).getD k true = false →
          (∀ e ∈ ok.after, Region.binds md e = true → e.on ≠ i) → oi.apart ops ok = true := fun k ok hk hki hun hno => by
        refine hfree k ok hk hki ?_ hno
        by_cases hjk : j = k
        · subst hjk; exact hjun
        · rw [getD_set_ne true hjk] at hun; exact hun
      refine ⟨fun e => absurd e hjt, fun _ => wpOp_mono (fun a' w' h3 => ⟨h3.2.1, ih (listed.setIfInBounds j true) a' w' (closedL_set hcl hoj (fun e he hb => getD_ft (hall e he hb))) hfree' (ready_mono hr (Ne.symm hji)) h3.1 h3.2.1 ?_⟩) h2⟩
      rw [Array.setIfInBounds_comm _ _ hji]
      exact h3.2.2

variable {dst : Option Tmp} {op : Op} {ty : TypeId} {pos : String} {after : Array Edge} {guard : Option (Nat × Bool)}
theorem take_v (i : Nat) (v : Value) {fuel : Nat} {listed : Array Bool} {a : Act} {w : World}
    (hi : ops[i]? = some { dst := dst, op := op, type := ty, pos := pos, after := after, guard := guard }) (hs : Region.noSelect ops = true) (hf : Region.free md ops listed i = true) (hr : (Region.ready md ops listed).contains i = true) (hwt : (!(i == t) && leadsB md ops ops.size t i) = true) (hcl : closedB md ops listed = true)
    (hQ : ∀ c a w, Q (.panic c) (a.put dst v) w → Q (.panic c) a w) (hy : YieldsIf P ops S { dst := dst, op := op, type := ty, pos := pos, after := after, guard := guard } v a) (hS : S w)
    (h : wpAnyV n P md ops Q S t fuel (listed.setIfInBounds i true) (a.put dst v) w) : wpAnyV n P md ops Q S t (fuel + 1) listed a w :=
  anyV_first hi (Region.noSelect_spec hs) hQ (by simp only [Bool.and_eq_true, Bool.not_eq_true', beq_eq_false_iff_ne, ne_eq] at hwt; exact hwt.1) (by simp only [Bool.and_eq_true] at hwt; exact hwt.2) fuel listed a w (closedB_spec hcl) (Region.free_spec hi hf) (by simpa using hr) hy hS h

theorem call_v (i : Nat) {fuel : Nat} {listed : Array Bool} {a : Act} {w : World}
    (hi : ops[i]? = some { dst := dst, op := op, type := ty, pos := pos, after := after, guard := guard }) (hr : Region.ready md ops listed = [i]) (hit : (i == t) = false) (f : FuncId) (args : Array Value)
    (hw : Region.wanted { dst := dst, op := op, type := ty, pos := pos, after := after, guard := guard } (yielded ops a.tmps) = true)
    (hrun : (execOp a.eval { dst := dst, op := op, type := ty, pos := pos, after := after, guard := guard }).run P w = .ok (.enter f args) w)
    (hc : Calls P f args w fun e w' => ∃ v, e = .returned v ∧ S w' ∧ (S w' → wpAnyV n P md ops Q S t fuel (listed.setIfInBounds i true) (a.put dst v) w')) : wpAnyV n P md ops Q S t (fuel + 1) listed a w := by
  have hit' : i ≠ t := by simpa using hit
  refine ⟨fun h0 => (by rw [hr] at h0; cases h0), fun j hj => ?_⟩
  rw [hr] at hj
  obtain rfl : j = i := by simpa using hj
  refine ⟨fun e => absurd e hit', fun _ => wpOp_step hi (fun K hK => ?_)⟩
  rw [if_pos hw]
  unfold Oper.wp
  rw [hrun, Oper.upon_enter]
  refine hc.mono ?_
  rintro e w' ⟨v, rfl, hS, hn⟩
  exact hK _ _ ⟨hS, hn hS⟩

/-- the call of yield itself -/
theorem yield_v {fuel : Nat} {listed : Array Bool} {a : Act} {w : World}
    (hi : ops[t]? = some { dst := dst, op := op, type := ty, pos := pos, after := after, guard := guard }) (hr : Region.ready md ops listed = [t]) {l : Nat} {args : Array Value}
    (hw : Region.wanted { dst := dst, op := op, type := ty, pos := pos, after := after, guard := guard } (yielded ops a.tmps) = true) (hd : ∀ c, op ≠ .defer c)
    (hrun : (execOp a.eval { dst := dst, op := op, type := ty, pos := pos, after := after, guard := guard }) = Instr.yield l args)
    (hc : YieldAt Fence.wide (n - 1) P l args w fun e w' => ∃ v, e = .returned v ∧ wpAnyIn Fence.wide n P md ops Q fuel (listed.setIfInBounds t true) (a.put dst v) w') : wpAnyV n P md ops Q S t (fuel + 1) listed a w := by
  refine ⟨fun h0 => (by rw [hr] at h0; cases h0), fun j hj => ?_⟩
  rw [hr] at hj
  obtain rfl : j = t := by simpa using hj
  refine ⟨fun _ => wpOpIn_step hi (fun K hK => ?_), fun e => absurd rfl e⟩
  rw [if_pos hw]
  unfold Oper.wpIn
  refine ⟨fun _ _ => trivial, ?_⟩
  rw [Oper.semAt_eq _ _ _ hd, hrun]
  obtain ⟨fn, tmps, asg, body, hy, hR⟩ := hc
  rw [hy]
  refine ⟨fun h => (by cases h), hR.mono ?_⟩
  rintro e w' ⟨v, rfl, h⟩
  exact hK _ _ h

/-- behind it: an operation that alone may come up, and yields its value -/
theorem val_in (i : Nat) (v : Value) {fuel : Nat} {listed : Array Bool} {a : Act} {w : World}
    (hi : ops[i]? = some { dst := dst, op := op, type := ty, pos := pos, after := after, guard := guard }) (hr : Region.ready md ops listed = [i])
    (hw : Region.wanted { dst := dst, op := op, type := ty, pos := pos, after := after, guard := guard } (yielded ops a.tmps) = true) (hd : ∀ c, op ≠ .defer c)
    (hrun : (execOp a.eval { dst := dst, op := op, type := ty, pos := pos, after := after, guard := guard }).run P w = .ok (.value v) w)
    (h : wpAnyIn Fence.wide n P md ops Q fuel (listed.setIfInBounds i true) (a.put dst v) w) : wpAnyIn Fence.wide n P md ops Q (fuel + 1) listed a w :=
  wpAnyIn_ready hr (by simp) (AllReadyIn.cons hi (fun K hK => by
    rw [if_pos hw]
    refine opIn_of_op_w hd ?_
    unfold Oper.wp
    rw [hrun]
    exact hK _ _ h) AllReadyIn.nil)

theorem wpIn_region_V (t : Nat) {id : Nat} {a : Act} {w : World} (hd : noDefer ops = true) (hQ : ¬ LetsOut Q) (hm : P.follows .mixedOrders = true) (hS : S w.drew)
    (h : S w.drew → wpAnyV n P .any ops Q S t ops.size (Array.replicate ops.size false) a w.drew) : (Code.region id ops true).wpIn Fence.wide n P Q a w :=
  wpIn_region_any hm (anyIn_of_V hd hQ _ _ _ _ (h hS))
end
end Frk

namespace Frk
open Go Go.RowKit Go.Proofs
set_option maxRecDepth 100000

def encH (x : Hd) : Array Value := #[.agg x.C.toArray]
/-- what is yielded: the next of those that are signed -/
def GS (ks : List Int) (l : List Hd) (_ : Nat) (pre : List Hd) (x : Hd) (_ : World) : Prop := ∃ r, sgd ks l = pre ++ x :: r

/-- what the iterator reads -/
structure SgA (w : World) (b1 b2 : Nat) (a : Option Addr) (n c : Nat) (l : List Hd) (ka : Option Addr) (kn kc : Nat) (ks : List Int) : Prop where
  c1 : w.cell? ⟨b1, 0, none⟩ = some (.slice a n c)
  c2 : w.cell? ⟨b2, 0, none⟩ = some (.slice ka kn kc)
  hs : IsHs w a n c l
  ki : IsKs w ka kn kc ks
  gl : Glob w
def SgM (b1 b2 : Nat) (a : Option Addr) (n : Nat) (ka : Option Addr) (kn : Nat) (r : Nat) : Prop := r = b1 ∨ r = b2 ∨ (0 < n ∧ ∃ o, a = some ⟨r, o, none⟩) ∨ (0 < kn ∧ ∃ o, ka = some ⟨r, o, none⟩) ∨ globB r

section
variable {w : World} {b1 b2 n c kn kc : Nat} {a ka : Option Addr} {l : List Hd} {ks : List Int}
theorem SgA.mine {w' : World} (h : SgA w b1 b2 a n c l ka kn kc ks) (hk : ∀ r, SgM b1 b2 a n ka kn r → w'.heap[r]? = w.heap[r]?) (hz : w.heap.size ≤ w'.heap.size) : SgA w' b1 b2 a n c l ka kn kc ks :=
  ⟨(World.cell?_of_block (w := w) (hk b1 (.inl rfl))).trans h.c1, (World.cell?_of_block (w := w) (hk b2 (.inr (.inl rfl)))).trans h.c2,
    h.hs.same (fun g o h0 e _ => hk g (.inr (.inr (.inl ⟨h0, o, e⟩)))) hz, h.ki.same (fun g o h0 e _ => hk g (.inr (.inr (.inr (.inl ⟨h0, o, e⟩))))) hz,
    h.gl.of_mine (fun r hr => hk r (.inr (.inr (.inr (.inr hr)))))⟩
theorem SgA.lt (h : SgA w b1 b2 a n c l ka kn kc ks) {r : Nat} (hr : SgM b1 b2 a n ka kn r) : r < w.heap.size := by
  rcases hr with rfl | rfl | ⟨h0, o, e⟩ | ⟨h0, o, e⟩ | rfl | rfl
  · exact block_lt_of_cell h.c1
  · exact block_lt_of_cell h.c2
  · rcases h.hs.at_ with h1 | ⟨g, o', e', _, hg⟩
    · omega
    · rw [e] at e'; cases e'; exact hg
  · rcases h.ki.at_ with h1 | ⟨g, o', e', _, hg⟩
    · omega
    · rw [e] at e'; cases e'; exact hg
  · exact block_lt_of_cell (h.gl.start 0 _ (List.getElem?_eq_getElem (by decide)))
  · exact block_lt_of_cell (h.gl.nums 0 _ (List.getElem?_eq_getElem (by decide)))
theorem SgA.below {w' : World} (h : SgA w b1 b2 a n c l ka kn kc ks) (hb : Below w.heap.size w w') : SgA w' b1 b2 a n c l ka kn kc ks := h.mine (fun r hr => hb.block r (h.lt hr)) hb.size
end

theorem sgd_take {ks : List Int} {l : List Hd} {k : Nat} {h : Hd} (hk : l[k]? = some h) : sgd ks (l.take (k + 1)) = sgd ks (l.take k) ++ (if sgn ks h = true then [h] else []) := by
  unfold sgd
  rw [List.take_add_one, hk, List.filter_append]
  cases e : sgn ks h <;> simp [e]
theorem sgd_pre (ks : List Int) (l : List Hd) (k : Nat) : ∃ r, sgd ks l = sgd ks (l.take k) ++ r := ⟨sgd ks (l.drop k), by unfold sgd; rw [← List.filter_append, List.take_append_drop]⟩

set_option maxHeartbeats 4000000 in
theorem signed_mem (m b1 b2 n c kn kc : Nat) (a ka : Option Addr) (l : List Hd) (ks : List Int) (w : World) (hA : SgA w b1 b2 a n c l ka kn kc ks) :
    SeqMem Fence.wide m Tryd.prog 110 #[.pointer (some ⟨b1, 0, none⟩), .pointer (some ⟨b2, 0, none⟩)] encH (GS ks l) (SgM b1 b2 a n ka kn) (fun xs => xs = sgd ks l) n w := by
  intro t J W hW hY hJ0
  refine callsIn_of_wp Tryd.func110 rfl trivial ?_ rfl
  simp only [Tryd.ntmps110, List.size_toArray, List.length_cons, List.length_nil, Nat.reduceAdd, Nat.reduceSub, Array.replicate_succ, Array.replicate_zero, List.push_toArray, List.append_toArray, List.nil_append, List.cons_append]
  have hAW := hA.below hW
  have c1 := hAW.c1
  have HA := Seal.mk hAW
  have HY := Seal.mk hY
  have HJ0 := Seal.mk hJ0
  have hll := hAW.hs.llen
  have hmx := hAW.hs.lmax
  clear hY hJ0 hA hAW hW
  gi_wp2
  gi_loopw [8] (fun i Wk => ∃ k : Nat, k ≤ n ∧ i = .int .i64 k ∧ Seal (SgA Wk b1 b2 a n c l ka kn kc ks ∧ ∃ W0, J (sgd ks (l.take k)) W0 ∧ Below W0.heap.size W0 Wk ∧ W.heap.size ≤ W0.heap.size)) (fun i _ => n - (intOf i).toNat)
  case atStart => exact ⟨0, by omega, rfl, ⟨HA.out, W, HJ0.out, Below.refl _ _, Nat.le_refl _⟩⟩
  case round =>
    obtain ⟨Wk, rfl⟩ : ∃ z, z = wr := ⟨_, rfl⟩
    obtain ⟨k, hk, rfl, hH⟩ := hrel
    clear c1 HA HJ0
    by_cases hlt : k < n
    · rcases hH.out.1.hs.at_ with hz | ⟨g, off, rfl, hr, hg⟩
      · omega
      · obtain ⟨h, hs⟩ : ∃ h, l[k]? = some h := ⟨_, List.getElem?_eq_getElem (by omega)⟩
        have ok := hH.out.1.hs.each h (List.mem_of_getElem? hs)
        have rC := rangeC_at hr (fun x hx => Hd.C_len (hH.out.1.hs.each x hx).t32) hs
        have q5 : (k : Int) < (n : Int) := by omega
        have q6 : (0 : Int) ≤ (k : Int) := by omega
        have uH := Tryd.underlying29
        obtain ⟨C, hC⟩ : ∃ C, C = h.C := ⟨_, rfl⟩
        have iC : (Tryd.prog.info? 29).map (·.size) = some C.length := by rw [hC]; exact Hd.C_info ok.t32
        have hn5 := heap_alloc_new Wk (.cells (List.toArray (.int .i64 0 :: .int .i64 0 :: .int .i64 0 :: .int .i64 0 :: .int .i64 0 :: .int .i64 0 :: .int .i64 0 :: .int .u8 0 :: .int .u8 0 :: .int .u8 0 :: .int .u8 0 :: .int .u8 0 :: .int .u8 0 :: .int .u8 0 :: .int .u8 0 :: .int .u8 0 :: .int .u8 0 :: .int .u8 0 :: .int .u8 0 :: .int .u8 0 :: .int .u8 0 :: .int .u8 0 :: .int .u8 0 :: .int .u8 0 :: .int .u8 0 :: .int .u8 0 :: .int .u8 0 :: .int .u8 0 :: .int .u8 0 :: .int .u8 0 :: .int .u8 0 :: .int .u8 0 :: .int .u8 0 :: .int .u8 0 :: .int .u8 0 :: .int .u8 0 :: .int .u8 0 :: .int .u8 0 :: .int .u8 0 :: .int .i64 0 :: .int .i64 0 :: .int .i64 0 :: [] : List Value) : Array Value) 29)
        have HC : Seal (C = h.C ∧ h.ok ∧ l[k]? = some h) := ⟨hC, ok, hs⟩
        have SZ : Seal (((List.toArray (.int .i64 0 :: .int .i64 0 :: .int .i64 0 :: .int .i64 0 :: .int .i64 0 :: .int .i64 0 :: .int .i64 0 :: .int .u8 0 :: .int .u8 0 :: .int .u8 0 :: .int .u8 0 :: .int .u8 0 :: .int .u8 0 :: .int .u8 0 :: .int .u8 0 :: .int .u8 0 :: .int .u8 0 :: .int .u8 0 :: .int .u8 0 :: .int .u8 0 :: .int .u8 0 :: .int .u8 0 :: .int .u8 0 :: .int .u8 0 :: .int .u8 0 :: .int .u8 0 :: .int .u8 0 :: .int .u8 0 :: .int .u8 0 :: .int .u8 0 :: .int .u8 0 :: .int .u8 0 :: .int .u8 0 :: .int .u8 0 :: .int .u8 0 :: .int .u8 0 :: .int .u8 0 :: .int .u8 0 :: .int .u8 0 :: .int .i64 0 :: .int .i64 0 :: .int .i64 0 :: [] : List Value) : Array Value) : Array Value).size = C.toArray.size ∧ C.toArray.all (·.oneCell') = true) := ⟨by rw [show C.toArray.size = 42 from by rw [List.size_toArray, hC, Hd.C_len ok.t32]]; rfl, by rw [hC]; exact all_oneCell_toArray (Hd.C_one _)⟩
        rw [← hC] at rC
        clear hr hg ok hs hC
        gi_wp2_with (first | (refine wpListIn_load_mid_w rfl 29 (.tmp 10) rfl g (off + k * 42) rfl C _ rC uH rfl iC ?_) | (refine wpListIn_store_row_w rfl 29 (.tmp 5) (.tmp 11) rfl Wk.heap.size C.toArray rfl rfl 29 (List.toArray (.int .i64 0 :: .int .i64 0 :: .int .i64 0 :: .int .i64 0 :: .int .i64 0 :: .int .i64 0 :: .int .i64 0 :: .int .u8 0 :: .int .u8 0 :: .int .u8 0 :: .int .u8 0 :: .int .u8 0 :: .int .u8 0 :: .int .u8 0 :: .int .u8 0 :: .int .u8 0 :: .int .u8 0 :: .int .u8 0 :: .int .u8 0 :: .int .u8 0 :: .int .u8 0 :: .int .u8 0 :: .int .u8 0 :: .int .u8 0 :: .int .u8 0 :: .int .u8 0 :: .int .u8 0 :: .int .u8 0 :: .int .u8 0 :: .int .u8 0 :: .int .u8 0 :: .int .u8 0 :: .int .u8 0 :: .int .u8 0 :: .int .u8 0 :: .int .u8 0 :: .int .u8 0 :: .int .u8 0 :: .int .u8 0 :: .int .i64 0 :: .int .i64 0 :: .int .i64 0 :: [] : List Value) : Array Value) hn5 (by simpa using iC) SZ.out.1 SZ.out.2 ?_))
        obtain ⟨Z, hZ⟩ : ∃ Z, Z = (Wk.alloc (.cells (List.toArray (.int .i64 0 :: .int .i64 0 :: .int .i64 0 :: .int .i64 0 :: .int .i64 0 :: .int .i64 0 :: .int .i64 0 :: .int .u8 0 :: .int .u8 0 :: .int .u8 0 :: .int .u8 0 :: .int .u8 0 :: .int .u8 0 :: .int .u8 0 :: .int .u8 0 :: .int .u8 0 :: .int .u8 0 :: .int .u8 0 :: .int .u8 0 :: .int .u8 0 :: .int .u8 0 :: .int .u8 0 :: .int .u8 0 :: .int .u8 0 :: .int .u8 0 :: .int .u8 0 :: .int .u8 0 :: .int .u8 0 :: .int .u8 0 :: .int .u8 0 :: .int .u8 0 :: .int .u8 0 :: .int .u8 0 :: .int .u8 0 :: .int .u8 0 :: .int .u8 0 :: .int .u8 0 :: .int .u8 0 :: .int .u8 0 :: .int .i64 0 :: .int .i64 0 :: .int .i64 0 :: [] : List Value) : Array Value) 29)).setRow Wk.heap.size C.toArray := ⟨_, rfl⟩
        have hZ2 : Z = Wk.alloc (.cells C.toArray 29) := by rw [hZ]; exact setRow_new Wk (.int .i64 0 :: .int .i64 0 :: .int .i64 0 :: .int .i64 0 :: .int .i64 0 :: .int .i64 0 :: .int .i64 0 :: .int .u8 0 :: .int .u8 0 :: .int .u8 0 :: .int .u8 0 :: .int .u8 0 :: .int .u8 0 :: .int .u8 0 :: .int .u8 0 :: .int .u8 0 :: .int .u8 0 :: .int .u8 0 :: .int .u8 0 :: .int .u8 0 :: .int .u8 0 :: .int .u8 0 :: .int .u8 0 :: .int .u8 0 :: .int .u8 0 :: .int .u8 0 :: .int .u8 0 :: .int .u8 0 :: .int .u8 0 :: .int .u8 0 :: .int .u8 0 :: .int .u8 0 :: .int .u8 0 :: .int .u8 0 :: .int .u8 0 :: .int .u8 0 :: .int .u8 0 :: .int .u8 0 :: .int .u8 0 :: .int .i64 0 :: .int .i64 0 :: .int .i64 0 :: [] : List Value) C _
        have bZ : Below Wk.heap.size Wk Z := by rw [hZ2]; exact below_alloc _ _
        have nZ : Z.heap[Wk.heap.size]? = some (.cells C.toArray 29 (0, 0)) := by rw [hZ2]; exact heap_alloc_new _ _
        have rZ : Z.rangeAt Wk.heap.size 0 C := rangeAt_row nZ
        have k4 : Z.cell? ⟨Wk.heap.size, 4, none⟩ = some (.int .i64 h.fr) := by rw [cell_of_row _ _ _ _ _ _ nZ, HC.out.1]; rfl
        rw [← hZ]
        have AZ := hH.out.1.below bZ
        have c2 := AZ.c2
        have JZ : ∃ W0, J (sgd ks (l.take k)) W0 ∧ Below W0.heap.size W0 Z ∧ W.heap.size ≤ W0.heap.size := by
          obtain ⟨W0, j1, j2, j3⟩ := hH.out.2
          exact ⟨W0, j1, j2.trans (bZ.mono j2.size), j3⟩
        have HJ := Seal.mk (And.intro AZ JZ)
        obtain ⟨g5, hg5⟩ : ∃ g5, g5 = Wk.heap.size := ⟨_, rfl⟩
        rw [← hg5] at nZ rZ k4 ⊢
        obtain ⟨fr, hfr⟩ : ∃ fr, fr = h.fr := ⟨_, rfl⟩
        rw [← hfr] at k4
        have HF := Seal.mk hfr
        clear hZ hZ2 bZ hH hn5 rC hg5 hfr SZ
        by_cases h0 : 0 ≤ fr
        · by_cases h1 : fr < (kn : Int)
          · rcases HJ.out.1.ki.at_ with hz | ⟨kg, ko, rfl, hkr, hkg⟩
            · omega
            · obtain ⟨f, rfl⟩ : ∃ f : Nat, fr = (f : Int) := ⟨fr.toNat, by omega⟩
              have hkl := HJ.out.1.ki.llen
              obtain ⟨key, hkey⟩ : ∃ key, ks[f]? = some key := ⟨_, List.getElem?_eq_getElem (by omega)⟩
              have ck : Z.cell? ⟨kg, ko + f, none⟩ = some (.int .i64 key) := hkr f _ (by rw [List.getElem?_map, hkey]; rfl)
              have HCk : Seal (∀ W', Glob W' → Calls Tryd.prog 15 #[.int .i64 key, .agg C.toArray] W' fun e w' => e = .returned (.bool (chB key h)) ∧ Below W'.heap.size W' w') := ⟨fun W' hG => by rw [HC.out.1]; exact hcheck_any key h W' HC.out.2.1 hG⟩
              obtain ⟨v, hv⟩ : ∃ v, v = chB key h := ⟨_, rfl⟩
              rw [← hv] at HCk
              have HS : Seal (sgn ks h = v) := ⟨by unfold sgn; rw [← HF.out, hv]; simp [hkey]; omega⟩
              have q7 : (0 : Int) ≤ (f : Int) := by omega
              clear hkr hkg hkey hv
              cases v with
              | false =>
                refine wpIn_wide.2 ?_
                refine wp_region_held_drew (S := fun w' => w'.cell? ⟨g5, 4, none⟩ = some (.int .i64 (f : Int)) ∧ w'.rangeAt g5 0 C ∧ w'.cell? ⟨b2, 0, none⟩ = some (.slice (some ⟨kg, ko, none⟩) kn kc) ∧ w'.cell? ⟨kg, ko + f, none⟩ = some (.int .i64 key)) (by kernel_rfl) ⟨k4, rZ, c2, ck⟩ (fun hHeld => ?_)
                have HV : Seal (SgA Z.drew b1 b2 (some ⟨g, off, none⟩) n c l (some ⟨kg, ko, none⟩) kn kc ks ∧ ∃ W0, J (sgd ks (l.take k)) W0 ∧ Below W0.heap.size W0 Z.drew ∧ W.heap.size ≤ W0.heap.size) := ⟨by
                  obtain ⟨W0, j1, j2, j3⟩ := HJ.out.2
                  exact ⟨HJ.out.1.below (below_drewn _), W0, j1, j2.trans ((below_drewn _).mono j2.size), j3⟩⟩
                obtain ⟨V, hV⟩ : ∃ V, V = Z.drew := ⟨_, rfl⟩
                rw [← hV] at hHeld HV ⊢
                clear hV k4 rZ nZ c2 AZ JZ ck
                refine take_h 0 ?_ rfl (by kernel_rfl) (by kernel_rfl) (by kernel_rfl) (fun _ _ _ h => h) (Or.inl ⟨by kernel_rfl, ?_⟩) (by assumption) ?_
                rotate_left
                · (intro w hSw; (try dsimp only at hSw); go_simp; try (with_reducible rfl))
                try simp only [Act.put, List.setIfInBounds_toArray, List.set_cons_zero, List.set_cons_succ]
                refine take_h 1 ?_ rfl (by kernel_rfl) (by kernel_rfl) (by kernel_rfl) (fun _ _ _ h => h) (Or.inl ⟨by kernel_rfl, ?_⟩) (by assumption) ?_
                rotate_left
                · (intro w hSw; (try dsimp only at hSw); go_simp; try (with_reducible rfl))
                try simp only [Act.put, List.setIfInBounds_toArray, List.set_cons_zero, List.set_cons_succ]
                refine take_h 2 ?_ rfl (by kernel_rfl) (by kernel_rfl) (by kernel_rfl) (fun _ _ _ h => h) (Or.inl ⟨by kernel_rfl, ?_⟩) (by assumption) ?_
                rotate_left
                · (intro w hSw; (try dsimp only at hSw); go_simp; try (with_reducible rfl))
                try simp only [Act.put, List.setIfInBounds_toArray, List.set_cons_zero, List.set_cons_succ]
                refine take_h 3 ?_ rfl (by kernel_rfl) (by kernel_rfl) (by kernel_rfl) (fun _ _ _ h => h) (Or.inl ⟨by kernel_rfl, ?_⟩) (by assumption) ?_
                rotate_left
                · (intro w hSw; (try dsimp only at hSw); go_simp; try (with_reducible rfl))
                try simp only [Act.put, List.setIfInBounds_toArray, List.set_cons_zero, List.set_cons_succ]
                refine take_h 4 ?_ rfl (by kernel_rfl) (by kernel_rfl) (by kernel_rfl) (fun _ _ _ h => h) (Or.inl ⟨by kernel_rfl, ?_⟩) (by assumption) ?_
                rotate_left
                · (intro w hSw; (try dsimp only at hSw); go_simp; try (with_reducible rfl))
                try simp only [Act.put, List.setIfInBounds_toArray, List.set_cons_zero, List.set_cons_succ]
                refine take_h 5 ?_ rfl (by kernel_rfl) (by kernel_rfl) (by kernel_rfl) (fun _ _ _ h => h) (Or.inl ⟨by kernel_rfl, ?_⟩) (by assumption) ?_
                rotate_left
                · (intro w hSw; (try dsimp only at hSw); go_simp; try (with_reducible rfl))
                try simp only [Act.put, List.setIfInBounds_toArray, List.set_cons_zero, List.set_cons_succ]
                refine take_h 6 ?_ rfl (by kernel_rfl) (by kernel_rfl) (by kernel_rfl) (fun _ _ _ h => h) (Or.inl ⟨by kernel_rfl, ?_⟩) (by assumption) ?_
                rotate_left
                · (intro w hSw; (try dsimp only at hSw); go_simp; try (with_reducible rfl))
                try simp only [Act.put, List.setIfInBounds_toArray, List.set_cons_zero, List.set_cons_succ]
                refine take_h 7 ?_ rfl (by kernel_rfl) (by kernel_rfl) (by kernel_rfl) (fun _ _ _ h => h) (Or.inl ⟨by kernel_rfl, ?_⟩) (by assumption) ?_
                rotate_left
                · (intro w hSw; (try dsimp only at hSw); go_simp; try (with_reducible rfl))
                try simp only [Act.put, List.setIfInBounds_toArray, List.set_cons_zero, List.set_cons_succ]
                refine take_h 8 ?_ rfl (by kernel_rfl) (by kernel_rfl) (by kernel_rfl) (fun _ _ _ h => h) (Or.inl ⟨by kernel_rfl, ?_⟩) (by assumption) ?_
                rotate_left
                · (intro w hSw; (try dsimp only at hSw); go_simp; try (with_reducible rfl))
                try simp only [Act.put, List.setIfInBounds_toArray, List.set_cons_zero, List.set_cons_succ]
                refine take_h 9 ?_ rfl (by kernel_rfl) (by kernel_rfl) (by kernel_rfl) (fun _ _ _ h => h) (Or.inl ⟨by kernel_rfl, ?_⟩) (by assumption) ?_
                rotate_left
                · (intro w hSw; (try dsimp only at hSw); go_simp; try (with_reducible rfl))
                try simp only [Act.put, List.setIfInBounds_toArray, List.set_cons_zero, List.set_cons_succ]
                refine take_h 10 ?_ rfl (by kernel_rfl) (by kernel_rfl) (by kernel_rfl) (fun _ _ _ h => h) (Or.inl ⟨by kernel_rfl, ?_⟩) (by assumption) ?_
                rotate_left
                · (intro w hSw; (try dsimp only at hSw); go_simp; try (with_reducible rfl))
                try simp only [Act.put, List.setIfInBounds_toArray, List.set_cons_zero, List.set_cons_succ]
                refine take_h 11 ?_ rfl (by kernel_rfl) (by kernel_rfl) (by kernel_rfl) (fun _ _ _ h => h) (Or.inl ⟨by kernel_rfl, ?_⟩) (by assumption) ?_
                rotate_left
                · (intro w hSw; (try dsimp only at hSw); go_simp; try (with_reducible rfl))
                try simp only [Act.put, List.setIfInBounds_toArray, List.set_cons_zero, List.set_cons_succ]
                refine take_h 12 ?_ rfl (by kernel_rfl) (by kernel_rfl) (by kernel_rfl) (fun _ _ _ h => h) (Or.inl ⟨by kernel_rfl, ?_⟩) (by assumption) ?_
                rotate_left
                · (intro w hSw; (try dsimp only at hSw); go_simp; try (with_reducible rfl))
                try simp only [Act.put, List.setIfInBounds_toArray, List.set_cons_zero, List.set_cons_succ]
                refine take_h 13 ?_ rfl (by kernel_rfl) (by kernel_rfl) (by kernel_rfl) (fun _ _ _ h => h) (Or.inl ⟨by kernel_rfl, ?_⟩) (by assumption) ?_
                rotate_left
                · (intro w hSw; (try dsimp only at hSw); go_simp; try (with_reducible rfl))
                try simp only [Act.put, List.setIfInBounds_toArray, List.set_cons_zero, List.set_cons_succ]
                refine take_h 14 ?_ rfl (by kernel_rfl) (by kernel_rfl) (by kernel_rfl) (fun _ _ _ h => h) (Or.inl ⟨by kernel_rfl, ?_⟩) (by assumption) ?_
                rotate_left
                · (intro w hSw; (try dsimp only at hSw); go_simp; try (with_reducible rfl))
                try simp only [Act.put, List.setIfInBounds_toArray, List.set_cons_zero, List.set_cons_succ]
                refine take_h 15 ?_ rfl (by kernel_rfl) (by kernel_rfl) (by kernel_rfl) (fun _ _ _ h => h) (Or.inl ⟨by kernel_rfl, ?_⟩) (by assumption) ?_
                rotate_left
                · (intro w hSw; (try dsimp only at hSw); go_simp; try (with_reducible rfl))
                try simp only [Act.put, List.setIfInBounds_toArray, List.set_cons_zero, List.set_cons_succ]
                refine take_h 16 _ rfl (by kernel_rfl) (by kernel_rfl) (by kernel_rfl) (fun _ _ _ h => h) (yieldsIf_load_mid (by kernel_rfl) 29 (.tmp 5) rfl g5 0 rfl C _ (fun w hSw => hSw.2.1) uH rfl iC) (by assumption) ?_
                try simp only [Act.put, List.setIfInBounds_toArray, List.set_cons_zero, List.set_cons_succ]
                refine call_h 17 rfl (by kernel_rfl) 15 #[.int .i64 key, .agg C.toArray] (by kernel_rfl) (by go_simp) ?_
                refine (HCk.out V HV.out.1.gl).mono ?_
                rintro e V1 ⟨rfl, hb1⟩
                refine ⟨_, rfl, ⟨(hb1.cell (p := ⟨g5, 4, none⟩) (block_lt_of_cell hHeld.1)).trans hHeld.1, rangeAt_below' hHeld.2.1 hb1, (hb1.cell (p := ⟨b2, 0, none⟩) (block_lt_of_cell hHeld.2.2.1)).trans hHeld.2.2.1, (hb1.cell (p := ⟨kg, ko + f, none⟩) (block_lt_of_cell hHeld.2.2.2)).trans hHeld.2.2.2⟩, fun _ => ?_⟩
                try simp only [Act.put, List.setIfInBounds_toArray, List.set_cons_zero, List.set_cons_succ]
                have HV1 : Seal (SgA V1 b1 b2 (some ⟨g, off, none⟩) n c l (some ⟨kg, ko, none⟩) kn kc ks ∧ ∃ W0, J (sgd ks (l.take (k + 1))) W0 ∧ Below W0.heap.size W0 V1 ∧ W.heap.size ≤ W0.heap.size) := ⟨by
                  rw [sgd_take HC.out.2.2, HS.out]
                  simp only [Bool.false_eq_true, if_false, List.append_nil]
                  obtain ⟨W0, j1, j2, j3⟩ := HV.out.2
                  exact ⟨HV.out.1.below hb1, W0, j1, j2.trans (hb1.mono j2.size), j3⟩⟩
                clear hb1 hHeld
                refine take_h 18 ?_ rfl (by kernel_rfl) (by kernel_rfl) (by kernel_rfl) (fun _ _ _ h => h) (Or.inl ⟨by kernel_rfl, ?_⟩) (by assumption) ?_
                rotate_left
                · (intro w hSw; (try dsimp only at hSw); go_simp; try (with_reducible rfl))
                try simp only [Act.put, List.setIfInBounds_toArray, List.set_cons_zero, List.set_cons_succ]
                refine take_h 19 ?_ rfl (by kernel_rfl) (by kernel_rfl) (by kernel_rfl) (fun _ _ _ h => h) (Or.inl ⟨by kernel_rfl, ?_⟩) (by assumption) ?_
                rotate_left
                · (intro w hSw; (try dsimp only at hSw); go_simp; try (with_reducible rfl))
                try simp only [Act.put, List.setIfInBounds_toArray, List.set_cons_zero, List.set_cons_succ]
                refine take_h 20 undef rfl (by kernel_rfl) (by kernel_rfl) (by kernel_rfl) (fun _ _ _ h => h) (Or.inr ⟨by kernel_rfl, rfl⟩) (by assumption) ?_
                try simp only [Act.put, List.setIfInBounds_toArray, List.set_cons_zero, List.set_cons_succ]
                refine take_h 21 undef rfl (by kernel_rfl) (by kernel_rfl) (by kernel_rfl) (fun _ _ _ h => h) (Or.inr ⟨by kernel_rfl, rfl⟩) (by assumption) ?_
                try simp only [Act.put, List.setIfInBounds_toArray, List.set_cons_zero, List.set_cons_succ]
                refine take_h 22 undef rfl (by kernel_rfl) (by kernel_rfl) (by kernel_rfl) (fun _ _ _ h => h) (Or.inr ⟨by kernel_rfl, rfl⟩) (by assumption) ?_
                try simp only [Act.put, List.setIfInBounds_toArray, List.set_cons_zero, List.set_cons_succ]
                refine take_h 23 undef rfl (by kernel_rfl) (by kernel_rfl) (by kernel_rfl) (fun _ _ _ h => h) (Or.inr ⟨by kernel_rfl, rfl⟩) (by assumption) ?_
                try simp only [Act.put, List.setIfInBounds_toArray, List.set_cons_zero, List.set_cons_succ]
                refine take_h 24 ?_ rfl (by kernel_rfl) (by kernel_rfl) (by kernel_rfl) (fun _ _ _ h => h) (Or.inl ⟨by kernel_rfl, ?_⟩) (by assumption) ?_
                rotate_left
                · (intro w hSw; (try dsimp only at hSw); go_simp; try (with_reducible rfl))
                try simp only [Act.put, List.setIfInBounds_toArray, List.set_cons_zero, List.set_cons_succ]
                refine wpAnyH_done (by kernel_rfl) ?_ _
                gi_wp2
                go_roundw
                case rel => exact ⟨k + 1, by omega, by go_num, HV1⟩
                case measure => simp [intOf]; omega
              | true =>
                refine wpIn_region_V 22 (S := fun w' => w'.cell? ⟨g5, 4, none⟩ = some (.int .i64 (f : Int)) ∧ w'.rangeAt g5 0 C ∧ w'.cell? ⟨b2, 0, none⟩ = some (.slice (some ⟨kg, ko, none⟩) kn kc) ∧ w'.cell? ⟨kg, ko + f, none⟩ = some (.int .i64 key)) (by kernel_rfl) (by rintro ⟨_, _, ⟨⟨v, hv⟩, _⟩⟩; cases hv) (by kernel_rfl) ⟨k4, rZ, c2, ck⟩ (fun hHeld => ?_)
                have HV : Seal (SgA Z.drew b1 b2 (some ⟨g, off, none⟩) n c l (some ⟨kg, ko, none⟩) kn kc ks ∧ ∃ W0, J (sgd ks (l.take k)) W0 ∧ Below W0.heap.size W0 Z.drew ∧ W.heap.size ≤ W0.heap.size) := ⟨by
                  obtain ⟨W0, j1, j2, j3⟩ := HJ.out.2
                  exact ⟨HJ.out.1.below (below_drewn _), W0, j1, j2.trans ((below_drewn _).mono j2.size), j3⟩⟩
                obtain ⟨V, hV⟩ : ∃ V, V = Z.drew := ⟨_, rfl⟩
                rw [← hV] at hHeld HV ⊢
                clear hV k4 rZ nZ c2 AZ JZ ck
                refine take_v 0 ?_ rfl (by kernel_rfl) (by kernel_rfl) (by kernel_rfl) (by kernel_rfl) (by kernel_rfl) (fun _ _ _ h => h) (Or.inl ⟨by kernel_rfl, ?_⟩) (by assumption) ?_
                rotate_left
                · (intro w hSw; (try dsimp only at hSw); go_simp; try (with_reducible rfl))
                try simp only [Act.put, List.setIfInBounds_toArray, List.set_cons_zero, List.set_cons_succ]
                refine take_v 1 ?_ rfl (by kernel_rfl) (by kernel_rfl) (by kernel_rfl) (by kernel_rfl) (by kernel_rfl) (fun _ _ _ h => h) (Or.inl ⟨by kernel_rfl, ?_⟩) (by assumption) ?_
                rotate_left
                · (intro w hSw; (try dsimp only at hSw); go_simp; try (with_reducible rfl))
                try simp only [Act.put, List.setIfInBounds_toArray, List.set_cons_zero, List.set_cons_succ]
                refine take_v 2 ?_ rfl (by kernel_rfl) (by kernel_rfl) (by kernel_rfl) (by kernel_rfl) (by kernel_rfl) (fun _ _ _ h => h) (Or.inl ⟨by kernel_rfl, ?_⟩) (by assumption) ?_
                rotate_left
                · (intro w hSw; (try dsimp only at hSw); go_simp; try (with_reducible rfl))
                try simp only [Act.put, List.setIfInBounds_toArray, List.set_cons_zero, List.set_cons_succ]
                refine take_v 3 ?_ rfl (by kernel_rfl) (by kernel_rfl) (by kernel_rfl) (by kernel_rfl) (by kernel_rfl) (fun _ _ _ h => h) (Or.inl ⟨by kernel_rfl, ?_⟩) (by assumption) ?_
                rotate_left
                · (intro w hSw; (try dsimp only at hSw); go_simp; try (with_reducible rfl))
                try simp only [Act.put, List.setIfInBounds_toArray, List.set_cons_zero, List.set_cons_succ]
                refine take_v 4 ?_ rfl (by kernel_rfl) (by kernel_rfl) (by kernel_rfl) (by kernel_rfl) (by kernel_rfl) (fun _ _ _ h => h) (Or.inl ⟨by kernel_rfl, ?_⟩) (by assumption) ?_
                rotate_left
                · (intro w hSw; (try dsimp only at hSw); go_simp; try (with_reducible rfl))
                try simp only [Act.put, List.setIfInBounds_toArray, List.set_cons_zero, List.set_cons_succ]
                refine take_v 5 ?_ rfl (by kernel_rfl) (by kernel_rfl) (by kernel_rfl) (by kernel_rfl) (by kernel_rfl) (fun _ _ _ h => h) (Or.inl ⟨by kernel_rfl, ?_⟩) (by assumption) ?_
                rotate_left
                · (intro w hSw; (try dsimp only at hSw); go_simp; try (with_reducible rfl))
                try simp only [Act.put, List.setIfInBounds_toArray, List.set_cons_zero, List.set_cons_succ]
                refine take_v 6 ?_ rfl (by kernel_rfl) (by kernel_rfl) (by kernel_rfl) (by kernel_rfl) (by kernel_rfl) (fun _ _ _ h => h) (Or.inl ⟨by kernel_rfl, ?_⟩) (by assumption) ?_
                rotate_left
                · (intro w hSw; (try dsimp only at hSw); go_simp; try (with_reducible rfl))
                try simp only [Act.put, List.setIfInBounds_toArray, List.set_cons_zero, List.set_cons_succ]
                refine take_v 7 ?_ rfl (by kernel_rfl) (by kernel_rfl) (by kernel_rfl) (by kernel_rfl) (by kernel_rfl) (fun _ _ _ h => h) (Or.inl ⟨by kernel_rfl, ?_⟩) (by assumption) ?_
                rotate_left
                · (intro w hSw; (try dsimp only at hSw); go_simp; try (with_reducible rfl))
                try simp only [Act.put, List.setIfInBounds_toArray, List.set_cons_zero, List.set_cons_succ]
                refine take_v 8 ?_ rfl (by kernel_rfl) (by kernel_rfl) (by kernel_rfl) (by kernel_rfl) (by kernel_rfl) (fun _ _ _ h => h) (Or.inl ⟨by kernel_rfl, ?_⟩) (by assumption) ?_
                rotate_left
                · (intro w hSw; (try dsimp only at hSw); go_simp; try (with_reducible rfl))
                try simp only [Act.put, List.setIfInBounds_toArray, List.set_cons_zero, List.set_cons_succ]
                refine take_v 9 ?_ rfl (by kernel_rfl) (by kernel_rfl) (by kernel_rfl) (by kernel_rfl) (by kernel_rfl) (fun _ _ _ h => h) (Or.inl ⟨by kernel_rfl, ?_⟩) (by assumption) ?_
                rotate_left
                · (intro w hSw; (try dsimp only at hSw); go_simp; try (with_reducible rfl))
                try simp only [Act.put, List.setIfInBounds_toArray, List.set_cons_zero, List.set_cons_succ]
                refine take_v 10 ?_ rfl (by kernel_rfl) (by kernel_rfl) (by kernel_rfl) (by kernel_rfl) (by kernel_rfl) (fun _ _ _ h => h) (Or.inl ⟨by kernel_rfl, ?_⟩) (by assumption) ?_
                rotate_left
                · (intro w hSw; (try dsimp only at hSw); go_simp; try (with_reducible rfl))
                try simp only [Act.put, List.setIfInBounds_toArray, List.set_cons_zero, List.set_cons_succ]
                refine take_v 11 ?_ rfl (by kernel_rfl) (by kernel_rfl) (by kernel_rfl) (by kernel_rfl) (by kernel_rfl) (fun _ _ _ h => h) (Or.inl ⟨by kernel_rfl, ?_⟩) (by assumption) ?_
                rotate_left
                · (intro w hSw; (try dsimp only at hSw); go_simp; try (with_reducible rfl))
                try simp only [Act.put, List.setIfInBounds_toArray, List.set_cons_zero, List.set_cons_succ]
                refine take_v 12 ?_ rfl (by kernel_rfl) (by kernel_rfl) (by kernel_rfl) (by kernel_rfl) (by kernel_rfl) (fun _ _ _ h => h) (Or.inl ⟨by kernel_rfl, ?_⟩) (by assumption) ?_
                rotate_left
                · (intro w hSw; (try dsimp only at hSw); go_simp; try (with_reducible rfl))
                try simp only [Act.put, List.setIfInBounds_toArray, List.set_cons_zero, List.set_cons_succ]
                refine take_v 13 ?_ rfl (by kernel_rfl) (by kernel_rfl) (by kernel_rfl) (by kernel_rfl) (by kernel_rfl) (fun _ _ _ h => h) (Or.inl ⟨by kernel_rfl, ?_⟩) (by assumption) ?_
                rotate_left
                · (intro w hSw; (try dsimp only at hSw); go_simp; try (with_reducible rfl))
                try simp only [Act.put, List.setIfInBounds_toArray, List.set_cons_zero, List.set_cons_succ]
                refine take_v 14 ?_ rfl (by kernel_rfl) (by kernel_rfl) (by kernel_rfl) (by kernel_rfl) (by kernel_rfl) (fun _ _ _ h => h) (Or.inl ⟨by kernel_rfl, ?_⟩) (by assumption) ?_
                rotate_left
                · (intro w hSw; (try dsimp only at hSw); go_simp; try (with_reducible rfl))
                try simp only [Act.put, List.setIfInBounds_toArray, List.set_cons_zero, List.set_cons_succ]
                refine take_v 15 ?_ rfl (by kernel_rfl) (by kernel_rfl) (by kernel_rfl) (by kernel_rfl) (by kernel_rfl) (fun _ _ _ h => h) (Or.inl ⟨by kernel_rfl, ?_⟩) (by assumption) ?_
                rotate_left
                · (intro w hSw; (try dsimp only at hSw); go_simp; try (with_reducible rfl))
                try simp only [Act.put, List.setIfInBounds_toArray, List.set_cons_zero, List.set_cons_succ]
                refine take_v 16 _ rfl (by kernel_rfl) (by kernel_rfl) (by kernel_rfl) (by kernel_rfl) (by kernel_rfl) (fun _ _ _ h => h) (yieldsIf_load_mid (by kernel_rfl) 29 (.tmp 5) rfl g5 0 rfl C _ (fun w hSw => hSw.2.1) uH rfl iC) (by assumption) ?_
                try simp only [Act.put, List.setIfInBounds_toArray, List.set_cons_zero, List.set_cons_succ]
                refine call_v 17 rfl (by kernel_rfl) (by kernel_rfl) 15 #[.int .i64 key, .agg C.toArray] (by kernel_rfl) (by go_simp) ?_
                refine (HCk.out V HV.out.1.gl).mono ?_
                rintro e V1 ⟨rfl, hb1⟩
                refine ⟨_, rfl, ⟨(hb1.cell (p := ⟨g5, 4, none⟩) (block_lt_of_cell hHeld.1)).trans hHeld.1, rangeAt_below' hHeld.2.1 hb1, (hb1.cell (p := ⟨b2, 0, none⟩) (block_lt_of_cell hHeld.2.2.1)).trans hHeld.2.2.1, (hb1.cell (p := ⟨kg, ko + f, none⟩) (block_lt_of_cell hHeld.2.2.2)).trans hHeld.2.2.2⟩, fun hHeld1 => ?_⟩
                try simp only [Act.put, List.setIfInBounds_toArray, List.set_cons_zero, List.set_cons_succ]
                have hAV1 := HV.out.1.below hb1
                have HYy : Seal (YieldAt Fence.wide (m - 1) Tryd.prog t (encH h) V1 fun e W' => e = .returned (.bool true) ∧ SgA W' b1 b2 (some ⟨g, off, none⟩) n c l (some ⟨kg, ko, none⟩) kn kc ks ∧ ∃ W0, J (sgd ks (l.take (k + 1))) W0 ∧ Below W0.heap.size W0 W' ∧ W.heap.size ≤ W0.heap.size) := ⟨by
                  obtain ⟨W0, j1, j2, j3⟩ := HV.out.2
                  have e1 := sgd_take (ks := ks) HC.out.2.2
                  rw [HS.out, if_pos rfl] at e1
                  obtain ⟨r, hr⟩ := sgd_pre ks l (k + 1)
                  have hlen : (sgd ks (l.take k)).length < n := by
                    have h2 := List.length_filter_le (sgn ks) (l.take k)
                    rw [List.length_take] at h2
                    unfold sgd
                    omega
                  obtain ⟨fn, tmps, asg, body, hy, hR⟩ := HY.out (sgd ks (l.take k)) h W0 V1 j1 (j2.trans (hb1.mono j2.size)) j3 ⟨r, by rw [hr, e1]; simp⟩ hlen
                  refine ⟨fn, tmps, asg, body, hy, hR.mono ?_⟩
                  rintro e W' ⟨he, k1, k2, k3, k4⟩
                  rw [e1]
                  exact ⟨he, hAV1.mine k4 k3, W', k1, Below.refl _ _, by have := j2.size; have := hb1.size; omega⟩⟩
                have HEh : Seal (encH h = #[.agg C.toArray]) := ⟨by rw [HC.out.1]; rfl⟩
                clear hb1 hHeld hAV1
                refine take_v 18 ?_ rfl (by kernel_rfl) (by kernel_rfl) (by kernel_rfl) (by kernel_rfl) (by kernel_rfl) (fun _ _ _ h => h) (Or.inl ⟨by kernel_rfl, ?_⟩) (by assumption) ?_
                rotate_left
                · (intro w hSw; (try dsimp only at hSw); go_simp; try (with_reducible rfl))
                try simp only [Act.put, List.setIfInBounds_toArray, List.set_cons_zero, List.set_cons_succ]
                refine take_v 19 ?_ rfl (by kernel_rfl) (by kernel_rfl) (by kernel_rfl) (by kernel_rfl) (by kernel_rfl) (fun _ _ _ h => h) (Or.inl ⟨by kernel_rfl, ?_⟩) (by assumption) ?_
                rotate_left
                · (intro w hSw; (try dsimp only at hSw); go_simp; try (with_reducible rfl))
                try simp only [Act.put, List.setIfInBounds_toArray, List.set_cons_zero, List.set_cons_succ]
                refine take_v 20 ?_ rfl (by kernel_rfl) (by kernel_rfl) (by kernel_rfl) (by kernel_rfl) (by kernel_rfl) (fun _ _ _ h => h) (Or.inl ⟨by kernel_rfl, ?_⟩) (by assumption) ?_
                rotate_left
                · (intro w hSw; (try dsimp only at hSw); go_simp; try (with_reducible rfl))
                try simp only [Act.put, List.setIfInBounds_toArray, List.set_cons_zero, List.set_cons_succ]
                refine take_v 21 _ rfl (by kernel_rfl) (by kernel_rfl) (by kernel_rfl) (by kernel_rfl) (by kernel_rfl) (fun _ _ _ h => h) (yieldsIf_load_mid (by kernel_rfl) 29 (.tmp 5) rfl g5 0 rfl C _ (fun w hSw => hSw.2.1) uH rfl iC) (by assumption) ?_
                try simp only [Act.put, List.setIfInBounds_toArray, List.set_cons_zero, List.set_cons_succ]
                rw [HEh.out] at HYy
                refine yield_v rfl (by kernel_rfl) (l := t) (args := #[.agg C.toArray]) (by kernel_rfl) (by intro c hc; cases hc) (by go_simp) ?_
                obtain ⟨fn, tmps, asg, body, hy, hR⟩ := HYy.out
                refine ⟨fn, tmps, asg, body, hy, hR.mono ?_⟩
                rintro e W' ⟨rfl, hN⟩
                have HN := Seal.mk hN
                clear hy hR hN HYy
                refine ⟨_, rfl, ?_⟩
                try simp only [Act.put, List.setIfInBounds_toArray, List.set_cons_zero, List.set_cons_succ]
                refine val_in 23 (.bool false) rfl (by kernel_rfl) (by kernel_rfl) (by intro c hc; cases hc) (by go_simp) ?_
                try simp only [Act.put, List.setIfInBounds_toArray, List.set_cons_zero, List.set_cons_succ]
                refine val_in 24 (.bool false) rfl (by kernel_rfl) (by kernel_rfl) (by intro c hc; cases hc) (by go_simp) ?_
                try simp only [Act.put, List.setIfInBounds_toArray, List.set_cons_zero, List.set_cons_succ]
                refine wpAnyIn_done (by kernel_rfl) ?_ _
                gi_wp2
                go_roundw
                case rel => exact ⟨k + 1, by omega, by go_num, HN⟩
                case measure => simp [intOf]; omega
          · have HS : Seal (sgn ks h = false) := ⟨by unfold sgn; rw [← HF.out, HJ.out.1.ki.llen]; simp [h1]⟩
            refine wpIn_wide.2 ?_
            refine wp_region_held_drew (S := fun w' => w'.cell? ⟨g5, 4, none⟩ = some (.int .i64 fr) ∧ w'.cell? ⟨b2, 0, none⟩ = some (.slice ka kn kc)) (by kernel_rfl) ⟨k4, c2⟩ (fun hHeld => ?_)
            have HV : Seal (SgA Z.drew b1 b2 (some ⟨g, off, none⟩) n c l ka kn kc ks ∧ ∃ W0, J (sgd ks (l.take (k + 1))) W0 ∧ Below W0.heap.size W0 Z.drew ∧ W.heap.size ≤ W0.heap.size) := ⟨by
              rw [sgd_take HC.out.2.2, HS.out]
              simp only [Bool.false_eq_true, if_false, List.append_nil]
              obtain ⟨W0, j1, j2, j3⟩ := HJ.out.2
              exact ⟨HJ.out.1.below (below_drewn _), W0, j1, j2.trans ((below_drewn _).mono j2.size), j3⟩⟩
            obtain ⟨V, hV⟩ : ∃ V, V = Z.drew := ⟨_, rfl⟩
            rw [← hV] at hHeld HV ⊢
            clear hV k4 rZ nZ c2 AZ JZ
            refine take_h 0 ?_ rfl (by kernel_rfl) (by kernel_rfl) (by kernel_rfl) (fun _ _ _ h => h) (Or.inl ⟨by kernel_rfl, ?_⟩) (by assumption) ?_
            rotate_left
            · (intro w hSw; (try dsimp only at hSw); go_simp; try (with_reducible rfl))
            try simp only [Act.put, List.setIfInBounds_toArray, List.set_cons_zero, List.set_cons_succ]
            refine take_h 1 ?_ rfl (by kernel_rfl) (by kernel_rfl) (by kernel_rfl) (fun _ _ _ h => h) (Or.inl ⟨by kernel_rfl, ?_⟩) (by assumption) ?_
            rotate_left
            · (intro w hSw; (try dsimp only at hSw); go_simp; try (with_reducible rfl))
            try simp only [Act.put, List.setIfInBounds_toArray, List.set_cons_zero, List.set_cons_succ]
            refine take_h 2 ?_ rfl (by kernel_rfl) (by kernel_rfl) (by kernel_rfl) (fun _ _ _ h => h) (Or.inl ⟨by kernel_rfl, ?_⟩) (by assumption) ?_
            rotate_left
            · (intro w hSw; (try dsimp only at hSw); go_simp; try (with_reducible rfl))
            try simp only [Act.put, List.setIfInBounds_toArray, List.set_cons_zero, List.set_cons_succ]
            refine take_h 3 ?_ rfl (by kernel_rfl) (by kernel_rfl) (by kernel_rfl) (fun _ _ _ h => h) (Or.inl ⟨by kernel_rfl, ?_⟩) (by assumption) ?_
            rotate_left
            · (intro w hSw; (try dsimp only at hSw); go_simp; try (with_reducible rfl))
            try simp only [Act.put, List.setIfInBounds_toArray, List.set_cons_zero, List.set_cons_succ]
            refine take_h 4 ?_ rfl (by kernel_rfl) (by kernel_rfl) (by kernel_rfl) (fun _ _ _ h => h) (Or.inl ⟨by kernel_rfl, ?_⟩) (by assumption) ?_
            rotate_left
            · (intro w hSw; (try dsimp only at hSw); go_simp; try (with_reducible rfl))
            try simp only [Act.put, List.setIfInBounds_toArray, List.set_cons_zero, List.set_cons_succ]
            refine take_h 5 ?_ rfl (by kernel_rfl) (by kernel_rfl) (by kernel_rfl) (fun _ _ _ h => h) (Or.inl ⟨by kernel_rfl, ?_⟩) (by assumption) ?_
            rotate_left
            · (intro w hSw; (try dsimp only at hSw); go_simp; try (with_reducible rfl))
            try simp only [Act.put, List.setIfInBounds_toArray, List.set_cons_zero, List.set_cons_succ]
            refine take_h 6 ?_ rfl (by kernel_rfl) (by kernel_rfl) (by kernel_rfl) (fun _ _ _ h => h) (Or.inl ⟨by kernel_rfl, ?_⟩) (by assumption) ?_
            rotate_left
            · (intro w hSw; (try dsimp only at hSw); go_simp; try (with_reducible rfl))
            try simp only [Act.put, List.setIfInBounds_toArray, List.set_cons_zero, List.set_cons_succ]
            refine take_h 7 ?_ rfl (by kernel_rfl) (by kernel_rfl) (by kernel_rfl) (fun _ _ _ h => h) (Or.inl ⟨by kernel_rfl, ?_⟩) (by assumption) ?_
            rotate_left
            · (intro w hSw; (try dsimp only at hSw); go_simp; try (with_reducible rfl))
            try simp only [Act.put, List.setIfInBounds_toArray, List.set_cons_zero, List.set_cons_succ]
            refine take_h 8 ?_ rfl (by kernel_rfl) (by kernel_rfl) (by kernel_rfl) (fun _ _ _ h => h) (Or.inl ⟨by kernel_rfl, ?_⟩) (by assumption) ?_
            rotate_left
            · (intro w hSw; (try dsimp only at hSw); go_simp; try (with_reducible rfl))
            try simp only [Act.put, List.setIfInBounds_toArray, List.set_cons_zero, List.set_cons_succ]
            refine take_h 9 ?_ rfl (by kernel_rfl) (by kernel_rfl) (by kernel_rfl) (fun _ _ _ h => h) (Or.inl ⟨by kernel_rfl, ?_⟩) (by assumption) ?_
            rotate_left
            · (intro w hSw; (try dsimp only at hSw); go_simp; try (with_reducible rfl))
            try simp only [Act.put, List.setIfInBounds_toArray, List.set_cons_zero, List.set_cons_succ]
            refine take_h 10 ?_ rfl (by kernel_rfl) (by kernel_rfl) (by kernel_rfl) (fun _ _ _ h => h) (Or.inl ⟨by kernel_rfl, ?_⟩) (by assumption) ?_
            rotate_left
            · (intro w hSw; (try dsimp only at hSw); go_simp; try (with_reducible rfl))
            try simp only [Act.put, List.setIfInBounds_toArray, List.set_cons_zero, List.set_cons_succ]
            refine take_h 11 undef rfl (by kernel_rfl) (by kernel_rfl) (by kernel_rfl) (fun _ _ _ h => h) (Or.inr ⟨by kernel_rfl, rfl⟩) (by assumption) ?_
            try simp only [Act.put, List.setIfInBounds_toArray, List.set_cons_zero, List.set_cons_succ]
            refine take_h 12 undef rfl (by kernel_rfl) (by kernel_rfl) (by kernel_rfl) (fun _ _ _ h => h) (Or.inr ⟨by kernel_rfl, rfl⟩) (by assumption) ?_
            try simp only [Act.put, List.setIfInBounds_toArray, List.set_cons_zero, List.set_cons_succ]
            refine take_h 13 undef rfl (by kernel_rfl) (by kernel_rfl) (by kernel_rfl) (fun _ _ _ h => h) (Or.inr ⟨by kernel_rfl, rfl⟩) (by assumption) ?_
            try simp only [Act.put, List.setIfInBounds_toArray, List.set_cons_zero, List.set_cons_succ]
            refine take_h 14 undef rfl (by kernel_rfl) (by kernel_rfl) (by kernel_rfl) (fun _ _ _ h => h) (Or.inr ⟨by kernel_rfl, rfl⟩) (by assumption) ?_
            try simp only [Act.put, List.setIfInBounds_toArray, List.set_cons_zero, List.set_cons_succ]
            refine take_h 15 undef rfl (by kernel_rfl) (by kernel_rfl) (by kernel_rfl) (fun _ _ _ h => h) (Or.inr ⟨by kernel_rfl, rfl⟩) (by assumption) ?_
            try simp only [Act.put, List.setIfInBounds_toArray, List.set_cons_zero, List.set_cons_succ]
            refine take_h 16 undef rfl (by kernel_rfl) (by kernel_rfl) (by kernel_rfl) (fun _ _ _ h => h) (Or.inr ⟨by kernel_rfl, rfl⟩) (by assumption) ?_
            try simp only [Act.put, List.setIfInBounds_toArray, List.set_cons_zero, List.set_cons_succ]
            refine take_h 17 undef rfl (by kernel_rfl) (by kernel_rfl) (by kernel_rfl) (fun _ _ _ h => h) (Or.inr ⟨by kernel_rfl, rfl⟩) (by assumption) ?_
            try simp only [Act.put, List.setIfInBounds_toArray, List.set_cons_zero, List.set_cons_succ]
            refine take_h 18 ?_ rfl (by kernel_rfl) (by kernel_rfl) (by kernel_rfl) (fun _ _ _ h => h) (Or.inl ⟨by kernel_rfl, ?_⟩) (by assumption) ?_
            rotate_left
            · (intro w hSw; (try dsimp only at hSw); go_simp; try (with_reducible rfl))
            try simp only [Act.put, List.setIfInBounds_toArray, List.set_cons_zero, List.set_cons_succ]
            refine take_h 19 ?_ rfl (by kernel_rfl) (by kernel_rfl) (by kernel_rfl) (fun _ _ _ h => h) (Or.inl ⟨by kernel_rfl, ?_⟩) (by assumption) ?_
            rotate_left
            · (intro w hSw; (try dsimp only at hSw); go_simp; try (with_reducible rfl))
            try simp only [Act.put, List.setIfInBounds_toArray, List.set_cons_zero, List.set_cons_succ]
            refine take_h 20 undef rfl (by kernel_rfl) (by kernel_rfl) (by kernel_rfl) (fun _ _ _ h => h) (Or.inr ⟨by kernel_rfl, rfl⟩) (by assumption) ?_
            try simp only [Act.put, List.setIfInBounds_toArray, List.set_cons_zero, List.set_cons_succ]
            refine take_h 21 undef rfl (by kernel_rfl) (by kernel_rfl) (by kernel_rfl) (fun _ _ _ h => h) (Or.inr ⟨by kernel_rfl, rfl⟩) (by assumption) ?_
            try simp only [Act.put, List.setIfInBounds_toArray, List.set_cons_zero, List.set_cons_succ]
            refine take_h 22 undef rfl (by kernel_rfl) (by kernel_rfl) (by kernel_rfl) (fun _ _ _ h => h) (Or.inr ⟨by kernel_rfl, rfl⟩) (by assumption) ?_
            try simp only [Act.put, List.setIfInBounds_toArray, List.set_cons_zero, List.set_cons_succ]
            refine take_h 23 undef rfl (by kernel_rfl) (by kernel_rfl) (by kernel_rfl) (fun _ _ _ h => h) (Or.inr ⟨by kernel_rfl, rfl⟩) (by assumption) ?_
            try simp only [Act.put, List.setIfInBounds_toArray, List.set_cons_zero, List.set_cons_succ]
            refine take_h 24 ?_ rfl (by kernel_rfl) (by kernel_rfl) (by kernel_rfl) (fun _ _ _ h => h) (Or.inl ⟨by kernel_rfl, ?_⟩) (by assumption) ?_
            rotate_left
            · (intro w hSw; (try dsimp only at hSw); go_simp; try (with_reducible rfl))
            try simp only [Act.put, List.setIfInBounds_toArray, List.set_cons_zero, List.set_cons_succ]
            refine wpAnyH_done (by kernel_rfl) ?_ _
            gi_wp2
            go_roundw
            case rel => exact ⟨k + 1, by omega, by go_num, HV⟩
            case measure => simp [intOf]; omega
        · have HS : Seal (sgn ks h = false) := ⟨by unfold sgn; rw [← HF.out]; simp [h0]⟩
          refine wpIn_wide.2 ?_
          refine wp_region_held_drew (S := fun w' => w'.cell? ⟨g5, 4, none⟩ = some (.int .i64 fr)) (by kernel_rfl) k4 (fun hHeld => ?_)
          have HV : Seal (SgA Z.drew b1 b2 (some ⟨g, off, none⟩) n c l ka kn kc ks ∧ ∃ W0, J (sgd ks (l.take (k + 1))) W0 ∧ Below W0.heap.size W0 Z.drew ∧ W.heap.size ≤ W0.heap.size) := ⟨by
            rw [sgd_take HC.out.2.2, HS.out]
            simp only [Bool.false_eq_true, if_false, List.append_nil]
            obtain ⟨W0, j1, j2, j3⟩ := HJ.out.2
            exact ⟨HJ.out.1.below (below_drewn _), W0, j1, j2.trans ((below_drewn _).mono j2.size), j3⟩⟩
          obtain ⟨V, hV⟩ : ∃ V, V = Z.drew := ⟨_, rfl⟩
          rw [← hV] at hHeld HV ⊢
          clear hV k4 rZ nZ c2 AZ JZ
          refine take_h 0 ?_ rfl (by kernel_rfl) (by kernel_rfl) (by kernel_rfl) (fun _ _ _ h => h) (Or.inl ⟨by kernel_rfl, ?_⟩) (by assumption) ?_
          rotate_left
          · (intro w hSw; (try dsimp only at hSw); go_simp; try (with_reducible rfl))
          try simp only [Act.put, List.setIfInBounds_toArray, List.set_cons_zero, List.set_cons_succ]
          refine take_h 1 ?_ rfl (by kernel_rfl) (by kernel_rfl) (by kernel_rfl) (fun _ _ _ h => h) (Or.inl ⟨by kernel_rfl, ?_⟩) (by assumption) ?_
          rotate_left
          · (intro w hSw; (try dsimp only at hSw); go_simp; try (with_reducible rfl))
          try simp only [Act.put, List.setIfInBounds_toArray, List.set_cons_zero, List.set_cons_succ]
          refine take_h 2 ?_ rfl (by kernel_rfl) (by kernel_rfl) (by kernel_rfl) (fun _ _ _ h => h) (Or.inl ⟨by kernel_rfl, ?_⟩) (by assumption) ?_
          rotate_left
          · (intro w hSw; (try dsimp only at hSw); go_simp; try (with_reducible rfl))
          try simp only [Act.put, List.setIfInBounds_toArray, List.set_cons_zero, List.set_cons_succ]
          refine take_h 3 ?_ rfl (by kernel_rfl) (by kernel_rfl) (by kernel_rfl) (fun _ _ _ h => h) (Or.inl ⟨by kernel_rfl, ?_⟩) (by assumption) ?_
          rotate_left
          · (intro w hSw; (try dsimp only at hSw); go_simp; try (with_reducible rfl))
          try simp only [Act.put, List.setIfInBounds_toArray, List.set_cons_zero, List.set_cons_succ]
          refine take_h 4 undef rfl (by kernel_rfl) (by kernel_rfl) (by kernel_rfl) (fun _ _ _ h => h) (Or.inr ⟨by kernel_rfl, rfl⟩) (by assumption) ?_
          try simp only [Act.put, List.setIfInBounds_toArray, List.set_cons_zero, List.set_cons_succ]
          refine take_h 5 undef rfl (by kernel_rfl) (by kernel_rfl) (by kernel_rfl) (fun _ _ _ h => h) (Or.inr ⟨by kernel_rfl, rfl⟩) (by assumption) ?_
          try simp only [Act.put, List.setIfInBounds_toArray, List.set_cons_zero, List.set_cons_succ]
          refine take_h 6 undef rfl (by kernel_rfl) (by kernel_rfl) (by kernel_rfl) (fun _ _ _ h => h) (Or.inr ⟨by kernel_rfl, rfl⟩) (by assumption) ?_
          try simp only [Act.put, List.setIfInBounds_toArray, List.set_cons_zero, List.set_cons_succ]
          refine take_h 7 undef rfl (by kernel_rfl) (by kernel_rfl) (by kernel_rfl) (fun _ _ _ h => h) (Or.inr ⟨by kernel_rfl, rfl⟩) (by assumption) ?_
          try simp only [Act.put, List.setIfInBounds_toArray, List.set_cons_zero, List.set_cons_succ]
          refine take_h 8 undef rfl (by kernel_rfl) (by kernel_rfl) (by kernel_rfl) (fun _ _ _ h => h) (Or.inr ⟨by kernel_rfl, rfl⟩) (by assumption) ?_
          try simp only [Act.put, List.setIfInBounds_toArray, List.set_cons_zero, List.set_cons_succ]
          refine take_h 9 ?_ rfl (by kernel_rfl) (by kernel_rfl) (by kernel_rfl) (fun _ _ _ h => h) (Or.inl ⟨by kernel_rfl, ?_⟩) (by assumption) ?_
          rotate_left
          · (intro w hSw; (try dsimp only at hSw); go_simp; try (with_reducible rfl))
          try simp only [Act.put, List.setIfInBounds_toArray, List.set_cons_zero, List.set_cons_succ]
          refine take_h 10 ?_ rfl (by kernel_rfl) (by kernel_rfl) (by kernel_rfl) (fun _ _ _ h => h) (Or.inl ⟨by kernel_rfl, ?_⟩) (by assumption) ?_
          rotate_left
          · (intro w hSw; (try dsimp only at hSw); go_simp; try (with_reducible rfl))
          try simp only [Act.put, List.setIfInBounds_toArray, List.set_cons_zero, List.set_cons_succ]
          refine take_h 11 undef rfl (by kernel_rfl) (by kernel_rfl) (by kernel_rfl) (fun _ _ _ h => h) (Or.inr ⟨by kernel_rfl, rfl⟩) (by assumption) ?_
          try simp only [Act.put, List.setIfInBounds_toArray, List.set_cons_zero, List.set_cons_succ]
          refine take_h 12 undef rfl (by kernel_rfl) (by kernel_rfl) (by kernel_rfl) (fun _ _ _ h => h) (Or.inr ⟨by kernel_rfl, rfl⟩) (by assumption) ?_
          try simp only [Act.put, List.setIfInBounds_toArray, List.set_cons_zero, List.set_cons_succ]
          refine take_h 13 undef rfl (by kernel_rfl) (by kernel_rfl) (by kernel_rfl) (fun _ _ _ h => h) (Or.inr ⟨by kernel_rfl, rfl⟩) (by assumption) ?_
          try simp only [Act.put, List.setIfInBounds_toArray, List.set_cons_zero, List.set_cons_succ]
          refine take_h 14 undef rfl (by kernel_rfl) (by kernel_rfl) (by kernel_rfl) (fun _ _ _ h => h) (Or.inr ⟨by kernel_rfl, rfl⟩) (by assumption) ?_
          try simp only [Act.put, List.setIfInBounds_toArray, List.set_cons_zero, List.set_cons_succ]
          refine take_h 15 undef rfl (by kernel_rfl) (by kernel_rfl) (by kernel_rfl) (fun _ _ _ h => h) (Or.inr ⟨by kernel_rfl, rfl⟩) (by assumption) ?_
          try simp only [Act.put, List.setIfInBounds_toArray, List.set_cons_zero, List.set_cons_succ]
          refine take_h 16 undef rfl (by kernel_rfl) (by kernel_rfl) (by kernel_rfl) (fun _ _ _ h => h) (Or.inr ⟨by kernel_rfl, rfl⟩) (by assumption) ?_
          try simp only [Act.put, List.setIfInBounds_toArray, List.set_cons_zero, List.set_cons_succ]
          refine take_h 17 undef rfl (by kernel_rfl) (by kernel_rfl) (by kernel_rfl) (fun _ _ _ h => h) (Or.inr ⟨by kernel_rfl, rfl⟩) (by assumption) ?_
          try simp only [Act.put, List.setIfInBounds_toArray, List.set_cons_zero, List.set_cons_succ]
          refine take_h 18 ?_ rfl (by kernel_rfl) (by kernel_rfl) (by kernel_rfl) (fun _ _ _ h => h) (Or.inl ⟨by kernel_rfl, ?_⟩) (by assumption) ?_
          rotate_left
          · (intro w hSw; (try dsimp only at hSw); go_simp; try (with_reducible rfl))
          try simp only [Act.put, List.setIfInBounds_toArray, List.set_cons_zero, List.set_cons_succ]
          refine take_h 19 ?_ rfl (by kernel_rfl) (by kernel_rfl) (by kernel_rfl) (fun _ _ _ h => h) (Or.inl ⟨by kernel_rfl, ?_⟩) (by assumption) ?_
          rotate_left
          · (intro w hSw; (try dsimp only at hSw); go_simp; try (with_reducible rfl))
          try simp only [Act.put, List.setIfInBounds_toArray, List.set_cons_zero, List.set_cons_succ]
          refine take_h 20 undef rfl (by kernel_rfl) (by kernel_rfl) (by kernel_rfl) (fun _ _ _ h => h) (Or.inr ⟨by kernel_rfl, rfl⟩) (by assumption) ?_
          try simp only [Act.put, List.setIfInBounds_toArray, List.set_cons_zero, List.set_cons_succ]
          refine take_h 21 undef rfl (by kernel_rfl) (by kernel_rfl) (by kernel_rfl) (fun _ _ _ h => h) (Or.inr ⟨by kernel_rfl, rfl⟩) (by assumption) ?_
          try simp only [Act.put, List.setIfInBounds_toArray, List.set_cons_zero, List.set_cons_succ]
          refine take_h 22 undef rfl (by kernel_rfl) (by kernel_rfl) (by kernel_rfl) (fun _ _ _ h => h) (Or.inr ⟨by kernel_rfl, rfl⟩) (by assumption) ?_
          try simp only [Act.put, List.setIfInBounds_toArray, List.set_cons_zero, List.set_cons_succ]
          refine take_h 23 undef rfl (by kernel_rfl) (by kernel_rfl) (by kernel_rfl) (fun _ _ _ h => h) (Or.inr ⟨by kernel_rfl, rfl⟩) (by assumption) ?_
          try simp only [Act.put, List.setIfInBounds_toArray, List.set_cons_zero, List.set_cons_succ]
          refine take_h 24 ?_ rfl (by kernel_rfl) (by kernel_rfl) (by kernel_rfl) (fun _ _ _ h => h) (Or.inl ⟨by kernel_rfl, ?_⟩) (by assumption) ?_
          rotate_left
          · (intro w hSw; (try dsimp only at hSw); go_simp; try (with_reducible rfl))
          try simp only [Act.put, List.setIfInBounds_toArray, List.set_cons_zero, List.set_cons_succ]
          refine wpAnyH_done (by kernel_rfl) ?_ _
          gi_wp2
          go_roundw
          case rel => exact ⟨k + 1, by omega, by go_num, HV⟩
          case measure => simp [intOf]; omega
    · obtain rfl : k = n := by omega
      have q5 : ¬ (k : Int) < (k : Int) := by omega
      obtain ⟨hL, W0, hJ, hb0, hsz⟩ := hH.out
      have e : sgd ks (l.take k) = sgd ks l := by rw [List.take_of_length_le (by omega)]
      rw [e] at hJ
      have HX := Seal.mk (And.intro hJ (And.intro hb0 hsz))
      clear hL hJ hb0 hsz hH e
      gi_wp2
      go_end0
      exact ⟨⟨_, rfl⟩, W0, HX.out.1, HX.out.2.1, HX.out.2.2⟩
end Frk

namespace Frk
open Go Go.RowKit

/-- how a round's body is left: the loop's own two blocks stand az they stood -/
def keptPost {α : Type} (L : Nat) (mine : Nat → Prop) (I : List α → World → Prop) (G : World → Prop) (xs : List α) (W : World) : Exit → Act → World → Prop
  | .normal, _, W' => (W.heap.size ≤ W'.heap.size ∧ ∀ r, r = L ∨ r = L + 1 → W'.heap[r]? = W.heap[r]?) ∧ (∀ r, mine r → W'.heap[r]? = W.heap[r]?) ∧ G W' ∧ I xs W'
  | _, _, _ => False

variable {F : Fence} {n : Nat} {P : Program}
theorem wpIn_rangeFunc_kept {α : Type} {g : Operand} {ps : Array Tmp} {assign body : Code} {Q : Exit → Act → World → Prop} {a : Act} {w : World}
    (hro : F.round = none) (h1 : 1 ≤ n) {gf : Nat} {lb : Array Value} (hg : a.eval g = .func (.func gf) #[] lb) (hFg : F.fn gf) (eg : ∀ args w, (callFunc gf args).run P w = .ok (.enter gf args) w)
    {encs : α → Array Value} {G : Nat → List α → α → World → Prop} {mine : Nat → Prop} {S : List α → Prop} {N : Nat} (hseq : SeqMem F (n - 1) P gf lb encs G mine S N w) (hmine : ∀ r, mine r → r < w.heap.size) (hps : ∀ x, (encs x).size = ps.size)
    (hG : ∀ sz pre x A B, w.heap.size + 1 < sz → G sz pre x A → A.grownBy B (some (w.heap.size + 1)) → (∃ o : Obj, A.heap[w.heap.size + 1]? = some o ∧ o.isCells = false) → G sz pre x B)
    (hGn : ∀ sz pre x A B, G sz pre x A → A.grownBy B none → G sz pre x B)
    (I : List α → World → Prop)
    (hI : ∀ s A B, I s A → A.grownBy B (some (w.heap.size + 1)) → (∃ o : Obj, A.heap[w.heap.size + 1]? = some o ∧ o.isCells = false) → I s B)
    (hIn : ∀ s A B, I s A → A.grownBy B none → I s B)
    (h0 : I [] w) (a₁ : α → World → Act) (az : α → World → World) (has : ∀ x W, Below W.heap.size W (az x W))
    (hassign : ∀ (l sz : Nat) (pre : List α) (x : α) (W : World) (K : Act → World → Prop), G sz pre x W → K (a₁ x W) (az x W) →
      assign.wpIn (F.inRound l) (n - 1 - 1) P (Exit.then K (fun _ _ _ => False)) { tmps := (ps.zip (encs x)).foldl (fun t (p, v) => t.setIfInBounds p v) a.tmps, defers := [] } W)
    (hbody : ∀ (l : Nat) (pre : List α) (x : α) (W0 Wa W : World), I pre W0 → I pre W → (∀ k, k < W0.heap.size → k ≠ w.heap.size + 1 → W.heap[k]? = W0.heap[k]?) → (∀ k, k ≠ w.heap.size + 1 → W.heap[k]? = (az x Wa).heap[k]?) →
      w.heap.size + 1 < W0.heap.size → W0.heap.size ≤ Wa.heap.size → W.heap.size = (az x Wa).heap.size →
      G W0.heap.size pre x W → pre.length < N → body.wpIn (F.inRound l) (n - 1 - 1) P (keptPost w.heap.size mine I (G W0.heap.size pre x) (pre ++ [x]) W) (a₁ x Wa) W)
    (hdone : ∀ (xs : List α) (W : World), S xs → I xs W → w.heap.size + 1 < W.heap.size → W.heap[w.heap.size]? = some (.deferred (some [])) → Q .normal { a with defers := { target := .collected w.heap.size, args := #[] } :: a.defers } W) :
    (Code.rangeFunc g ps assign body).wpIn F n P Q a w := by
  refine wpIn_rangeFunc ?_
  intro fn hfn
  rw [hro]
  obtain ⟨rec, hrec⟩ : ∃ rec : LoopState → Option Code → Loop, rec = fun st pe => { state := st, pending := pe, fn, tmps := a.tmps, params := ps, assign, body, defers := w.heap.size } := ⟨_, rfl⟩
  obtain ⟨W1, hW1⟩ : ∃ W1, (w.alloc (.deferred (some []))).alloc (.loop (rec .ready none)) = W1 := ⟨_, rfl⟩
  have hL1 : W1.heap[w.heap.size + 1]? = some (.loop (rec .ready none)) := by
    rw [← hW1]; have := World.alloc_heap_new (w.alloc (.deferred (some []))) (.loop (rec .ready none)); rwa [World.size_alloc] at this
  have hK1 : W1.heap[w.heap.size]? = some (.deferred (some [])) := by
    rw [← hW1]; exact (Below.heap_alloc _ _ _ (by simp)).trans (World.alloc_heap_new w _)
  have hI1 : I [] W1 := by rw [← hW1]; exact hIn _ _ _ (hIn _ _ _ h0 (World.grownBy_alloc w _ none)) (World.grownBy_alloc _ _ none)
  have hb1 : Below w.heap.size w W1 := by
    rw [← hW1]; exact ((Below.refl _ w).alloc (Nat.le_refl _) _).alloc (by simp) _
  have hz1 : W1.heap.size = w.heap.size + 2 := by rw [← hW1]; simp
  refine ⟨w.heap.size + 1, [{ target := .collected w.heap.size, args := #[] }], W1, { target := .fn (.func gf) lb, args := #[.func (.yield (w.heap.size + 1)) #[] #[]] }, W1, gf,
    #[.func (.yield (w.heap.size + 1)) #[] #[]] ++ lb, W1, ?_, ?_, ?_, ?_, fun _ => h1, ?_⟩
  · rw [← hW1, hrec]; exact run_enterLoop_outer _ _ _ _ _
  · simp only [resolve, hg]
    simp [go_sem]
  · intro f' hf'; simp [Target.leads] at hf'; subst hf'; exact hFg
  · simp [invoke, go_sem, eg]
  · refine (hseq (w.heap.size + 1)
      (fun pre W => I pre W ∧ W.heap[w.heap.size + 1]? = some (.loop (rec .ready none)) ∧ W.heap[w.heap.size]? = some (.deferred (some [])))
      W1 hb1 ?_ ⟨hI1, hL1, hK1⟩).mono ?_
    · rintro pre x W0 W ⟨hi, hl0, hk0⟩ hb hsz hg2 hlen
      have hl : W.heap[w.heap.size + 1]? = some (.loop (rec .ready none)) := (hb.block _ (Array.getElem?_eq_some_iff.1 hl0).1).trans hl0
      have hk : W.heap[w.heap.size]? = some (.deferred (some [])) := (hb.block _ (Array.getElem?_eq_some_iff.1 hk0).1).trans hk0
      have hlt : w.heap.size + 1 < W.heap.size := (Array.getElem?_eq_some_iff.1 hl).1
      have hlt0 : w.heap.size + 1 < W0.heap.size := (Array.getElem?_eq_some_iff.1 hl0).1
      have hy := run_yield (P := P) (args := encs x) hl (by rw [hrec]; exact hps x)
      rw [hrec] at hy
      have ha := has x W
      have hla : (az x W).heap[w.heap.size + 1]? = some (.loop (rec .ready none)) := (ha.block _ hlt).trans hl
      have hka : (az x W).heap[w.heap.size]? = some (.deferred (some [])) := (ha.block _ (by omega)).trans hk
      have hlta : w.heap.size + 1 < (az x W).heap.size := Nat.lt_of_lt_of_le hlt ha.size
      refine ⟨fn, _, assign, body, hy, roundIn_of_wpIn hfn (hassign _ _ _ x W _ hg2 ⟨_, run_beginRound hla (by rw [hrec]), ?_⟩)⟩
      have hl2 : ((az x W).putObj (w.heap.size + 1) (.loop { rec .ready none with state := .busy })).heap[w.heap.size + 1]? = some (.loop { rec .ready none with state := .busy }) := World.putObj_heap_same hlta
      have hk2 : ((az x W).putObj (w.heap.size + 1) (.loop { rec .ready none with state := .busy })).heap[w.heap.size]? = some (.deferred (some [])) := (World.putObj_heap_other (by omega)).trans hka
      have hgp := grownBy_putObj' (az x W) (w.heap.size + 1) (.loop { rec .ready none with state := .busy })
      have hiW : I pre (az x W) := hIn _ _ _ (hIn _ _ _ hi ⟨hb.os, hb.tape, hb.output, hb.size, fun k hk _ => hb.block k hk⟩) ⟨ha.os, ha.tape, ha.output, ha.size, fun k hk _ => ha.block k hk⟩
      have hgW : G W0.heap.size pre x (az x W) := hGn _ _ _ _ _ hg2 ⟨ha.os, ha.tape, ha.output, ha.size, fun k hk _ => ha.block k hk⟩
      refine wpIn_mono (hbody _ pre x W0 W _ hi (hI _ _ _ hiW hgp ⟨_, hla, rfl⟩) (fun k hk1 hk2' => (World.putObj_heap_other hk2').trans ((ha.block k (Nat.lt_of_lt_of_le hk1 hb.size)).trans (hb.block k hk1))) (fun k hk1 => World.putObj_heap_other hk1) hlt0 hb.size (by simp [World.putObj]) (hG _ _ _ _ _ hlt0 hgW hgp ⟨_, hla, rfl⟩) hlen) ?_
      rintro e a3 W3 hp
      cases e with
      | normal =>
        obtain ⟨⟨hs3, hk3⟩, hm3, hg3, hi3⟩ := hp
        have hl3 := (hk3 _ (.inr rfl)).trans hl2
        have hr := run_endRound (P := P) none hl3
        rw [hrec] at hr hl3
        have hs3' : (az x W).heap.size ≤ W3.heap.size := by simpa [World.putObj] using hs3
        refine ⟨_, _, hr, rfl, ⟨hI _ _ _ hi3 (grownBy_putObj' _ _ _) ⟨_, hl3, rfl⟩, ?_, (World.putObj_heap_other (by omega)).trans ((hk3 _ (.inl rfl)).trans hk2)⟩, hG _ _ _ _ _ hlt0 hg3 (grownBy_putObj' _ _ _) ⟨_, hl3, rfl⟩, ?_, fun r h => ?_⟩
        · rw [hrec]; exact World.putObj_heap_same (Array.getElem?_eq_some_iff.1 hl3).1
        · have := ha.size; simp [World.putObj]; omega
        · have := hmine r h
          exact (World.putObj_heap_other (by omega)).trans ((hm3 r h).trans ((World.putObj_heap_other (by omega)).trans (ha.block r (by omega))))
      | ret => exact hp.elim
      | exit id => exact hp.elim
      | goto t => exact hp.elim
      | panic ch => exact hp.elim
      | outgrown => exact hp.elim
    · rintro e W2 ⟨⟨v, rfl⟩, xs, W0, hS, ⟨hi, hl0, hk0⟩, hb, hsz⟩
      have hl : W2.heap[w.heap.size + 1]? = some (.loop (rec .ready none)) := (hb.block _ (Array.getElem?_eq_some_iff.1 hl0).1).trans hl0
      have hk : W2.heap[w.heap.size]? = some (.deferred (some [])) := (hb.block _ (Array.getElem?_eq_some_iff.1 hk0).1).trans hk0
      have hlt0 : w.heap.size + 1 < W0.heap.size := (Array.getElem?_eq_some_iff.1 hl0).1
      refine ⟨none, _, by have := run_endLoop (P := P) hl (by rw [hrec]; simp); rw [hrec] at this; exact this, ?_⟩
      exact hdone xs _ hS (hI _ _ _ (hIn _ _ _ hi ⟨hb.os, hb.tape, hb.output, hb.size, fun k hk _ => hb.block k hk⟩) (grownBy_putObj' W2 _ _) ⟨_, hl, rfl⟩) (by have := hb.size; simp [World.putObj]; omega) ((World.putObj_heap_other (by omega)).trans hk)
end Frk

namespace Frk
open Go Go.RowKit Go.Proofs
set_option maxRecDepth 100000

theorem csigned_any (a ka : Option Addr) (n c kn kc : Nat) (w : World) : Calls Tryd.prog 75 #[.slice ka kn kc, .slice a n c] w fun e w' =>
    e = .returned (.func (.func 110) #[] #[.pointer (some ⟨w.heap.size + 1, 0, none⟩), .pointer (some ⟨w.heap.size, 0, none⟩)]) ∧ (w.alloc (.cells #[.slice ka kn kc] 65)).alloc (.cells #[.slice a n c] 66) = w' := by
  go_enter Tryd.func75, Tryd.ntmps75
  go_wp2
  go_ret
  exact ⟨rfl, rfl⟩

/-! ## the three maps -/
def keyV (h : Hd) : Value := .agg (slC h).toArray
theorem keyV_iff (a b : Hd) : keyV a = keyV b ↔ slB a b = true := by
  rw [cq_sl]
  unfold keyV slC
  constructor
  · intro h
    injection h with h
    have h := congrArg Array.toList h
    simp only [List.cons.injEq, Value.int.injEq, true_and, and_true] at h
    exact ⟨h.2.1, h.2.2.1, h.2.2.2.1, h.2.2.2.2, h.1⟩
  · rintro ⟨h1, h2, h3, h4, h5⟩
    rw [h1, h2, h3, h4, h5]
def bgF (pre : List Hd) (f : Value → Option Value) : Prop := ∀ h : Hd, f (keyV h) = (bgP pre h).map (fun a => .agg a.C.toArray)
def mtF (pre : List Hd) (f : Value → Option Value) : Prop := ∀ h : Hd, (f (keyV h)).getD (.bool false) = .bool (mtP pre h)
def fdV (F : Int → Option (Hd × Hd)) (f : Value → Option Value) : Prop := ∀ o : Int, f (.int .i64 o) = (F o).map (fun x => .agg (lieC x.1 x.2).toArray)

theorem bgP_slot {pre : List Hd} {h x : Hd} (e : slB h x = true) : bgP pre h = bgP pre x := by
  unfold bgP
  congr 1
  funext y
  cases hy : slB y h with
  | true => exact (cq_trans hy e).symm
  | false =>
    cases hz : slB y x with
    | false => rfl
    | true => rw [cq_trans hz (by rw [cq_slB_comm]; exact e)] at hy; cases hy
theorem bgP_snoc_none {pre : List Hd} {h : Hd} (hn : bgP pre h = none) (x : Hd) : bgP (pre ++ [h]) x = if slB x h = true then some h else bgP pre x := by
  by_cases e : slB x h = true
  · rw [if_pos e, ← bgP_slot (by rw [cq_slB_comm]; exact e)]
    unfold bgP at hn ⊢
    rw [List.find?_append, hn]
    simp [List.find?, cq_refl]
  · rw [if_neg e]
    unfold bgP
    rw [List.find?_append]
    have : slB h x = false := by rw [cq_slB_comm]; simpa using e
    cases List.find? (fun y => slB y x) pre <;> simp [List.find?, this]
theorem bgP_snoc_some {pre : List Hd} {h a : Hd} (hs : bgP pre h = some a) (x : Hd) : bgP (pre ++ [h]) x = bgP pre x := by
  by_cases e : slB h x = true
  · rw [← bgP_slot e, ← bgP_slot e, hs]
    unfold bgP at hs ⊢
    rw [List.find?_append, hs]; rfl
  · unfold bgP
    rw [List.find?_append]
    have : slB h x = false := by simpa using e
    cases List.find? (fun y => slB y x) pre <;> simp [List.find?, this]
theorem bgP_mem {pre : List Hd} {h a : Hd} (hs : bgP pre h = some a) : a ∈ pre ∧ slB a h = true := ⟨List.mem_of_find?_eq_some hs, by have := List.find?_some hs; simpa using this⟩
theorem mtP_slot {pre : List Hd} {h x : Hd} (e : slB h x = true) : mtP pre h = mtP pre x := by unfold mtP; rw [bgP_slot e]
theorem cl_diff {a h : Hd} (e : slB a h = false) : clB a h = false := by
  cases hc : clB a h with
  | false => rfl
  | true => rw [(cq_cl hc).2.2] at e; cases e
theorem mtP_snoc_none {pre : List Hd} {h : Hd} (hn : bgP pre h = none) (x : Hd) : mtP (pre ++ [h]) x = mtP pre x := by
  unfold mtP
  rw [bgP_snoc_none hn x]
  by_cases e : slB x h = true
  · rw [if_pos e, bgP_slot e, hn]
    simp only [List.any_append, List.any_cons, List.any_nil, cq_self, Bool.or_false]
    rw [List.any_eq_false]
    intro y hy
    have := List.find?_eq_none.1 hn y hy
    rw [cl_diff (by rw [cq_slB_comm]; simpa using this)]; simp
  · rw [if_neg e]
    cases hb : bgP pre x with
    | none => rfl
    | some a =>
      have : slB a h = false := by
        cases hq : slB a h with
        | false => rfl
        | true => exact absurd (cq_trans (by rw [cq_slB_comm]; exact (bgP_mem hb).2) hq) e
      simp [cl_diff this]
theorem mtP_snoc_some {pre : List Hd} {h a : Hd} (hs : bgP pre h = some a) (x : Hd) : mtP (pre ++ [h]) x = if slB x h = true then mtP pre h || clB a h else mtP pre x := by
  unfold mtP
  rw [bgP_snoc_some hs x]
  by_cases e : slB x h = true
  · rw [if_pos e, bgP_slot e, hs]
    simp
  · rw [if_neg e]
    cases hb : bgP pre x with
    | none => rfl
    | some b =>
      have : slB b h = false := by
        cases hq : slB b h with
        | false => rfl
        | true => exact absurd (cq_trans (by rw [cq_slB_comm]; exact (bgP_mem hb).2) hq) e
      simp [cl_diff this]

theorem bgF_none {pre : List Hd} {f : Value → Option Value} (hf : bgF pre f) {h : Hd} (hn : bgP pre h = none) : bgF (pre ++ [h]) (upd f (keyV h) (.agg h.C.toArray)) := by
  intro x
  rw [bgP_snoc_none hn]
  by_cases e : slB x h = true
  · rw [if_pos e, (keyV_iff x h).2 e, upd_same]; rfl
  · rw [if_neg e, upd_other _ _ (fun e' => e ((keyV_iff x h).1 e'))]
    exact hf x
theorem bgF_some {pre : List Hd} {f : Value → Option Value} (hf : bgF pre f) {h a : Hd} (hs : bgP pre h = some a) : bgF (pre ++ [h]) f := fun x => by rw [bgP_snoc_some hs]; exact hf x
theorem mtF_none {pre : List Hd} {f : Value → Option Value} (hf : mtF pre f) {h : Hd} (hn : bgP pre h = none) : mtF (pre ++ [h]) f := fun x => by rw [mtP_snoc_none hn]; exact hf x
theorem mtF_same {pre : List Hd} {f : Value → Option Value} (hf : mtF pre f) {h a : Hd} (hs : bgP pre h = some a) (hc : mtP pre h = true ∨ clB a h = false) : mtF (pre ++ [h]) f := fun x => by
  rw [mtP_snoc_some hs]
  by_cases e : slB x h = true
  · rw [if_pos e, hf x, mtP_slot e]
    rcases hc with hc | hc
    · rw [hc]; rfl
    · rw [hc, Bool.or_false]
  · rw [if_neg e]; exact hf x
theorem mtF_upd {pre : List Hd} {f : Value → Option Value} (hf : mtF pre f) {h a : Hd} (hs : bgP pre h = some a) (hc : clB a h = true) : mtF (pre ++ [h]) (upd f (keyV h) (.bool true)) := fun x => by
  rw [mtP_snoc_some hs]
  by_cases e : slB x h = true
  · rw [if_pos e, (keyV_iff x h).2 e, upd_same, hc, Bool.or_true]; rfl
  · rw [if_neg e, upd_other _ _ (fun e' => e ((keyV_iff x h).1 e'))]; exact hf x
theorem fdV_same {pre : List Hd} {f : Value → Option Value} (hf : fdV (fdF pre) f) {h : Hd} (hc : bgP pre h = none ∨ ∃ a, bgP pre h = some a ∧ (mtP pre h = true ∨ clB a h = false)) : fdV (fdF (pre ++ [h])) f := by
  have : fdF (pre ++ [h]) = fdF pre := by
    rw [fdF_snoc]
    unfold fdStep
    rcases hc with hc | ⟨a, hc, h1⟩
    · rw [hc]
    · rw [hc]; dsimp only; rw [if_pos h1]
  rw [this]; exact hf
/-- what is stored -/
def fdN (old : Option (Hd × Hd)) (a h : Hd) : Hd × Hd := match old with | some o => if ordI a o.1 < 0 then (a, h) else o | none => (a, h)
theorem fdV_upd {pre : List Hd} {f : Value → Option Value} (hf : fdV (fdF pre) f) {h a : Hd} (hs : bgP pre h = some a) (hm : mtP pre h = false) (hc : clB a h = true) :
    fdV (fdF (pre ++ [h])) (upd f (.int .i64 h.fr) (.agg (lieC (fdN (fdF pre h.fr) a h).1 (fdN (fdF pre h.fr) a h).2).toArray)) := by
  intro o
  rw [fdF_snoc]
  unfold fdStep
  rw [hs]
  dsimp only
  rw [if_neg (by rw [hm, hc]; simp)]
  by_cases e : o = h.fr
  · rw [e, upd_same, if_pos rfl]
    unfold fdN
    cases fdF pre h.fr with
    | none => rfl
    | some x => dsimp only; split <;> rfl
  · rw [if_neg e, upd_other _ _ (fun e' => e (by injection e'))]; exact hf o

/-- what the rounds keep -/
structure LR (w0 : World) (H : Nat) (pre : List Hd) (W : World) : Prop where
  s5 : W.heap[H + 1]? = some (.cells #[.map (some H)] 149 (0, 0))
  s6 : W.heap[H + 3]? = some (.cells #[.map (some (H + 2))] 150 (0, 0))
  s7 : W.heap[H + 5]? = some (.cells #[.map (some (H + 4))] 116 (0, 0))
  m5 : ∃ f, MapIs W Tryd.prog 152 H pre.length f ∧ bgF pre f
  m6 : ∃ f, MapIs W Tryd.prog 152 (H + 2) pre.length f ∧ mtF pre f
  m7 : ∃ f, MapIs W Tryd.prog 3 (H + 4) pre.length f ∧ fdV (fdF pre) f
  bel : Below H w0 W
theorem LR.grown {w0 : World} {H : Nat} {pre : List Hd} {A B' : World} {r : Option Nat} (h : LR w0 H pre A) (hg : A.grownBy B' r) (hr : ∀ b, r = some b → H + 6 ≤ b) : LR w0 H pre B' := by
  have k : ∀ j, j < H + 6 → j < A.heap.size → B'.heap[j]? = A.heap[j]? := fun j h1 h2 => hg.block j h2 (fun e => by have := hr j e.symm; omega)
  have l5 := (Array.getElem?_eq_some_iff.1 h.s5).1
  have l6 := (Array.getElem?_eq_some_iff.1 h.s6).1
  have l7 := (Array.getElem?_eq_some_iff.1 h.s7).1
  refine ⟨(k _ (by omega) l5).trans h.s5, (k _ (by omega) l6).trans h.s6, (k _ (by omega) l7).trans h.s7, ?_, ?_, ?_, h.bel.grown hg (by omega) (fun b e => by have := hr b e; omega)⟩
  · obtain ⟨f, h1, h2⟩ := h.m5; exact ⟨f, h1.of_block (k _ (by omega) h1.lt), h2⟩
  · obtain ⟨f, h1, h2⟩ := h.m6; exact ⟨f, h1.of_block (k _ (by omega) h1.lt), h2⟩
  · obtain ⟨f, h1, h2⟩ := h.m7; exact ⟨f, h1.of_block (k _ (by omega) h1.lt), h2⟩
theorem foldl_one (F : Array Value) (p : Tmp) (v : Value) : (#[p].zip #[v]).foldl (fun t (p, v) => t.setIfInBounds p v) F = F.setIfInBounds p v := by simp
section
variable {l n : Nat} {P : Program} {ops : Array Oper} {rest : List Oper} {o : Oper} {a : Act} {w : World} {Q : Exit → Act → World → Prop}
/-- in a round: a new variable -/
theorem wpListIn_alloc (hg : o.guard = none) (ty : TypeId) (ho : o.op = .alloc ty) (v : Value) (w' : World) (hrun : (execOp a.eval o).run P w = .ok (.value v) w')
    (h : wpListIn (Fence.wide.inRound l) n P ops Q rest (a.put o.dst v) w') : wpListIn (Fence.wide.inRound l) n P ops Q (o :: rest) a w :=
  wpListIn_plain hg fun K hK' => opIn_of_op (by rw [ho]; intro c hc; cases hc) (by unfold Oper.wp; rw [hrun]; exact hK' _ _ h)
theorem wpListIn_wanted {F : Fence} (hw : Region.wanted o (yielded ops a.tmps) = true)
    (h : ∀ K : Act → World → Prop, (∀ a w, wpListIn F n P ops Q rest a w → K a w) → o.wpIn F n P a w K Q) : wpListIn F n P ops Q (o :: rest) a w :=
  wpListIn_step fun K hK => by simp only [hw, if_true]; exact h K hK
/-- in a round: an operation that a guard leaves out -/
theorem wpListIn_out (gd : Nat × Bool) (_hgd : o.guard = some gd) (hw : Region.wanted o (yielded ops a.tmps) = false) (h : wpListIn (Fence.wide.inRound l) n P ops Q rest (a.put o.dst undef) w) : wpListIn (Fence.wide.inRound l) n P ops Q (o :: rest) a w := by
  simp only [wpListIn, hw]
  exact ⟨fun _ _ => trivial, h⟩
theorem wpListIn_call (d : Tmp) (_hdst : o.dst = some d) (hw : Region.wanted o (yielded ops a.tmps) = true) (hd : ∀ c, o.op ≠ .defer c) (f : FuncId) (args : Array Value) (hrun : (execOp a.eval o).run P w = .ok (.enter f args) w)
    (hc : Calls P f args w fun e w' => ∃ v, e = .returned v ∧ wpListIn (Fence.wide.inRound l) n P ops Q rest (a.put o.dst v) w') : wpListIn (Fence.wide.inRound l) n P ops Q (o :: rest) a w :=
  wpListIn_wanted hw fun K hK' => opIn_of_op hd (by
    unfold Oper.wp; rw [hrun, Oper.upon_enter]
    refine hc.mono ?_
    rintro e w' ⟨v, rfl, h⟩
    exact hK' _ _ h)
theorem wpListIn_load_mid_g (hw : Region.wanted o (yielded ops a.tmps) = true) (ty : TypeId) (x : Operand) (ho : o.op = .load ty x)
    (b off : Nat) (hx : a.eval x = .pointer (some ⟨b, off, none⟩)) (cs : List Value) (d : TypeDesc) (hc : w.rangeAt b off cs)
    (hu : P.underlying ty = some d) (hd : d.isRow = true) (hi : (P.info? ty).map (·.size) = some cs.length)
    (h : wpListIn (Fence.wide.inRound l) n P ops Q rest (a.put o.dst (.agg cs.toArray)) w) : wpListIn (Fence.wide.inRound l) n P ops Q (o :: rest) a w :=
  wpListIn_wanted hw fun K hK' => opIn_of_op (by rw [ho]; intro c hc'; cases hc') (wp_load_mid ty x ho b off hx cs d hc hu hd hi (hK' _ _ h))
end

/-- what a round of lies keeps: the world W at its start, the three maps, and the rows of its own variables -/
structure BS (W : World) (H : Nat) (n5 n6 n7 : Nat) (f5 f6 f7 : Value → Option Value) (rs : List (Nat × Obj)) (V : World) : Prop where
  bel : Below H W V
  kept : ∀ r, r < W.heap.size → r ≠ H → r ≠ H + 2 → r ≠ H + 4 → V.heap[r]? = W.heap[r]?
  m5 : MapIs V Tryd.prog 152 H n5 f5
  m6 : MapIs V Tryd.prog 152 (H + 2) n6 f6
  m7 : MapIs V Tryd.prog 3 (H + 4) n7 f7
  rows : ∀ p ∈ rs, V.heap[p.1]? = some p.2
  far : ∀ p ∈ rs, H + 6 ≤ p.1
section
variable {W V V' : World} {H n5 n6 n7 : Nat} {f5 f6 f7 g : Value → Option Value} {rs : List (Nat × Obj)}
theorem BS.lt {p : Nat × Obj} (h : BS W H n5 n6 n7 f5 f6 f7 rs V) (hp : p ∈ rs) : p.1 < V.heap.size := (Array.getElem?_eq_some_iff.1 (h.rows p hp)).1
theorem BS.below (h : BS W H n5 n6 n7 f5 f6 f7 rs V) (hb : Below V.heap.size V V') : BS W H n5 n6 n7 f5 f6 f7 rs V' :=
  ⟨h.bel.trans (hb.mono (Nat.le_of_lt (by have := h.m5.lt; omega))), fun r h1 h2 h3 h4 => (hb.block r (by have := h.bel.size; omega)).trans (h.kept r h1 h2 h3 h4), h.m5.below hb, h.m6.below hb, h.m7.below hb,
    fun p hp => (hb.block _ (h.lt hp)).trans (h.rows p hp), h.far⟩
theorem BS.push (h : BS W H n5 n6 n7 f5 f6 f7 rs V) (hH : H + 6 ≤ V.heap.size) (o : Obj) : BS W H n5 n6 n7 f5 f6 f7 ((V.heap.size, o) :: rs) (V.alloc o) := by
  have h' := h.below (below_alloc V o)
  refine ⟨h'.bel, h'.kept, h'.m5, h'.m6, h'.m7, fun p hp => ?_, fun p hp => ?_⟩
  · rcases List.mem_cons.1 hp with rfl | hp
    · exact heap_alloc_new V o
    · exact h'.rows p hp
  · rcases List.mem_cons.1 hp with rfl | hp
    · exact hH
    · exact h.far p hp
theorem BS.setRow (h : BS W H n5 n6 n7 f5 f6 f7 rs V) {b : Nat} {old C : Array Value} {t : TypeId} (hp : (b, Obj.cells old t (0, 0)) ∈ rs) (hb : W.heap.size ≤ b) (rs' : List (Nat × Obj)) (hs : ∀ p ∈ rs', p ∈ rs ∧ p.1 ≠ b) :
    BS W H n5 n6 n7 f5 f6 f7 ((b, .cells C t (0, 0)) :: rs') (V.setRow b C) := by
  have hf := h.far _ hp
  dsimp only at hf
  have k : ∀ j, j ≠ b → (V.setRow b C).heap[j]? = V.heap[j]? := fun j hj => setRow_other V b j C hj
  refine ⟨below_row h.bel (by omega) _, fun r h1 h2 h3 h4 => (k r (by omega)).trans (h.kept r h1 h2 h3 h4), h.m5.of_block (k _ (by omega)), h.m6.of_block (k _ (by omega)), h.m7.of_block (k _ (by omega)), fun p hq => ?_, fun p hq => ?_⟩
  · rcases List.mem_cons.1 hq with rfl | hq
    · exact setRow_heap _ _ _ _ _ _ (h.rows _ hp)
    · exact (k _ (hs p hq).2).trans (h.rows p (hs p hq).1)
  · rcases List.mem_cons.1 hq with rfl | hq
    · exact hf
    · exact h.far p (hs p hq).1
theorem BS.turn (h : BS W H n5 n6 n7 f5 f6 f7 rs V) {b : Nat} (hb : b = H ∨ b = H + 2 ∨ b = H + 4) (hg : V.grownBy V' (some b)) : Below H W V' ∧ (∀ r, r < W.heap.size → r ≠ H → r ≠ H + 2 → r ≠ H + 4 → V'.heap[r]? = W.heap[r]?) ∧ (∀ p ∈ rs, V'.heap[p.1]? = some p.2) := by
  refine ⟨h.bel.trans ⟨hg.os, hg.tape, hg.output, hg.size, fun k hk => hg.block k (by have := h.m5.lt; omega) (fun e => by have := Option.some.inj e; omega)⟩, fun r h1 h2 h3 h4 => (hg.block r (by have := h.bel.size; omega) (fun e => by have := Option.some.inj e; omega)).trans (h.kept r h1 h2 h3 h4), fun p hp => (hg.block _ (h.lt hp) (fun e => by have := Option.some.inj e; have := h.far p hp; omega)).trans (h.rows p hp)⟩
theorem BS.upd5 (h : BS W H n5 n6 n7 f5 f6 f7 rs V) (hg : V.grownBy V' (some H)) {n : Nat} (hm : MapIs V' Tryd.prog 152 H n g) : BS W H n n6 n7 g f6 f7 rs V' := by
  obtain ⟨a, b, c⟩ := h.turn (.inl rfl) hg
  exact ⟨a, b, hm, h.m6.kept hg (fun e => by have := Option.some.inj e; omega), h.m7.kept hg (fun e => by have := Option.some.inj e; omega), c, h.far⟩
theorem BS.upd6 (h : BS W H n5 n6 n7 f5 f6 f7 rs V) (hg : V.grownBy V' (some (H + 2))) {n : Nat} (hm : MapIs V' Tryd.prog 152 (H + 2) n g) : BS W H n5 n n7 f5 g f7 rs V' := by
  obtain ⟨a, b, c⟩ := h.turn (.inr (.inl rfl)) hg
  exact ⟨a, b, h.m5.kept hg (fun e => by have := Option.some.inj e; omega), hm, h.m7.kept hg (fun e => by have := Option.some.inj e; omega), c, h.far⟩
theorem BS.upd7 (h : BS W H n5 n6 n7 f5 f6 f7 rs V) (hg : V.grownBy V' (some (H + 4))) {n : Nat} (hm : MapIs V' Tryd.prog 3 (H + 4) n g) : BS W H n5 n6 n f5 f6 g rs V' := by
  obtain ⟨a, b, c⟩ := h.turn (.inr (.inr rfl)) hg
  exact ⟨a, b, h.m5.kept hg (fun e => by have := Option.some.inj e; omega), h.m6.kept hg (fun e => by have := Option.some.inj e; omega), hm, c, h.far⟩
/-- how the round ends -/
theorem BS.done {w0 : World} {pre : List Hd} {x : Hd} (h : BS W H n5 n6 n7 f5 f6 f7 rs V) (hA : LR w0 H pre W) (h5 : n5 ≤ pre.length + 1) (h6 : n6 ≤ pre.length + 1) (h7 : n7 ≤ pre.length + 1) (k5 : bgF (pre ++ [x]) f5) (k6 : mtF (pre ++ [x]) f6) (k7 : fdV (fdF (pre ++ [x])) f7) : LR w0 H (pre ++ [x]) V := by
  have l5 := (Array.getElem?_eq_some_iff.1 hA.s5).1
  have l6 := (Array.getElem?_eq_some_iff.1 hA.s6).1
  have l7 := (Array.getElem?_eq_some_iff.1 hA.s7).1
  have e : (pre ++ [x]).length = pre.length + 1 := by simp
  exact ⟨(h.kept _ l5 (by omega) (by omega) (by omega)).trans hA.s5, (h.kept _ l6 (by omega) (by omega) (by omega)).trans hA.s6, (h.kept _ l7 (by omega) (by omega) (by omega)).trans hA.s7,
    ⟨f5, h.m5.mono (by omega), k5⟩, ⟨f6, h.m6.mono (by omega), k6⟩, ⟨f7, h.m7.mono (by omega), k7⟩, hA.bel.trans h.bel⟩
theorem BS.cells {w0 : World} {pre : List Hd} (h : BS W H n5 n6 n7 f5 f6 f7 rs V) (hA : LR w0 H pre W) :
    V.cell? ⟨H + 1, 0, none⟩ = some (.map (some H)) ∧ V.cell? ⟨H + 1 + 1 + 1, 0, none⟩ = some (.map (some (H + 1 + 1))) ∧ V.cell? ⟨H + 1 + 1 + 1 + 1 + 1, 0, none⟩ = some (.map (some (H + 1 + 1 + 1 + 1))) := by
  have l5 := (Array.getElem?_eq_some_iff.1 hA.s5).1
  have l6 := (Array.getElem?_eq_some_iff.1 hA.s6).1
  have l7 := (Array.getElem?_eq_some_iff.1 hA.s7).1
  refine ⟨?_, ?_, ?_⟩
  · rw [cell_of_row _ _ _ _ _ _ ((h.kept _ l5 (by omega) (by omega) (by omega)).trans hA.s5)]; rfl
  · rw [cell_of_row _ _ _ _ _ _ ((h.kept _ l6 (by omega) (by omega) (by omega)).trans hA.s6)]; rfl
  · rw [cell_of_row _ _ _ _ _ _ ((h.kept _ l7 (by omega) (by omega) (by omega)).trans hA.s7)]; rfl
theorem BS.range {b : Nat} {cs : Array Value} {t : TypeId} {fr : Nat × Nat} (h : BS W H n5 n6 n7 f5 f6 f7 rs V) (hp : (b, Obj.cells cs t fr) ∈ rs) : V.rangeAt b 0 cs.toList := rangeAt_row (t := t) (fr := fr) (by rw [Array.toArray_toList]; exact h.rows _ hp)
end

section
variable {l n : Nat} {P : Program} {ops : Array Oper} {rest : List Oper} {o o2 : Oper} {a : Act} {w : World} {Q : Exit → Act → World → Prop}
/-- in a round: a new variable, and what is stored into it -/
theorem wpListIn_newvar (hg : o.guard = none) (hg2 : o2.guard = none) (ty : TypeId) (d : Tmp) (y : Operand) (ho : o.op = .alloc ty) (hod : o.dst = some d) (ho2 : o2.op = .store ty (.tmp d) y) (Z C : List Value)
    (hrun : (execOp a.eval o).run P w = .ok (.value (.pointer (some ⟨w.heap.size, 0, none⟩))) (w.alloc (.cells Z.toArray ty))) (hd : (a.put (some d) (.pointer (some ⟨w.heap.size, 0, none⟩))).eval (.tmp d) = .pointer (some ⟨w.heap.size, 0, none⟩))
    (hy : (a.put (some d) (.pointer (some ⟨w.heap.size, 0, none⟩))).eval y = .agg C.toArray) (hi : (P.info? ty).map (·.size) = some C.length) (hold : Z.length = C.length) (h1 : ∀ v ∈ C, v.oneCell' = true)
    (h : ∀ V, V = w.alloc (.cells C.toArray ty) → wpListIn (Fence.wide.inRound l) n P ops Q rest ((a.put (some d) (.pointer (some ⟨w.heap.size, 0, none⟩))).put o2.dst undef) V) : wpListIn (Fence.wide.inRound l) n P ops Q (o :: o2 :: rest) a w := by
  refine wpListIn_alloc hg ty ho _ _ hrun ?_
  rw [hod]
  refine wpListIn_store_row hg2 ty (.tmp d) y ho2 w.heap.size C.toArray hd hy ty Z.toArray (heap_alloc_new w _) (by simpa using hi) (by simpa using hold) (all_oneCell_toArray h1) ?_
  rw [setRow_new]
  exact h _ rfl
end
end Frk

namespace Frk
open Go Go.RowKit Go.Proofs
set_option maxRecDepth 100000

theorem lie_zero : ∃ zl : List Value, Tryd.zeroCells74 = zl.toArray ∧ zl.length = 84 := ⟨Tryd.zeroCells74.toList, by rw [Array.toArray_toList], by rw [Array.length_toList]; kernel_rfl⟩
theorem zeroLi (w : World) : (zeroValue 74).run Tryd.prog w = .ok (.agg Tryd.zeroCells74) w := by kernel_rfl

theorem run_build_lie (A C : List Value) (hA : A.length = 42) (hC : C.length = 42) (w : World) :
    (Instr.build 74 #[(0, .agg A.toArray), (1, .agg C.toArray)]).run Tryd.prog w = .ok (.agg (A ++ C).toArray) w := by
  obtain ⟨zl, hz, hl⟩ := lie_zero
  have hz' := zeroLi w
  rw [hz] at hz'
  have hs : (Go.sizeOf 29).run Tryd.prog w = .ok 42 w := by kernel_rfl
  have e1 := fold_lay A 0 zl (by omega)
  have e2 := fold_lay_at 42 C 0 (lay zl 0 A) (by rw [length_lay (by omega)]; omega)
  have e3 : lay (lay zl 0 A) (42 + 0) C = A ++ C := by
    unfold lay
    simp only [Nat.zero_add, Nat.add_zero, List.take_zero, List.nil_append]
    rw [List.take_left' (by omega), List.drop_of_length_le (by rw [List.length_append, List.length_drop]; omega), List.append_nil]
  have hsz : (lay zl 0 A).length = 84 := by rw [length_lay (by omega)]; exact hl
  unfold Instr.build
  simp [hz', run_underlying Tryd.underlying74, hs, Result.andThen, Instr.fill, Value.cells, hA, hC, hl]
  rw [e1, e2, e3, List.size_toArray, hsz]
  rfl
theorem exec_build_lie {ρ : Operand → Value} {o : Oper} {x y : Operand} (ho : o.op = .build 74 #[(0, x), (1, y)]) (A C : List Value) (hA : A.length = 42) (hC : C.length = 42) (hx : ρ x = .agg A.toArray) (hy : ρ y = .agg C.toArray) (w : World) :
    (execOp ρ o).run Tryd.prog w = .ok (.value (.agg (A ++ C).toArray)) w := by
  have h := run_build_lie A C hA hC w
  unfold execOp
  rw [ho]
  simp [hx, hy, h, Result.andThen]
theorem wpListIn_build_lie {l n : Nat} {ops : Array Oper} {rest : List Oper} {o : Oper} {a : Act} {w : World} {Q : Exit → Act → World → Prop} (hg : o.guard = none) (x y : Operand) (ho : o.op = .build 74 #[(0, x), (1, y)])
    (A C : List Value) (hA : A.length = 42) (hC : C.length = 42) (hx : a.eval x = .agg A.toArray) (hy : a.eval y = .agg C.toArray) (h : wpListIn (Fence.wide.inRound l) n Tryd.prog ops Q rest (a.put o.dst (.agg (A ++ C).toArray)) w) :
    wpListIn (Fence.wide.inRound l) n Tryd.prog ops Q (o :: rest) a w :=
  wpListIn_plain hg fun K hK' => opIn_of_op (by rw [ho]; intro c hc; cases hc) (by unfold Oper.wp; rw [exec_build_lie ho A C hA hC hx hy]; exact hK' _ _ h)
theorem exec_alloc_lie {ρ : Operand → Value} {o : Oper} (ho : o.op = .alloc 74) (w : World) : (execOp ρ o).run Tryd.prog w = .ok (.value (.pointer (some ⟨w.heap.size, 0, none⟩))) (w.alloc (.cells Tryd.zeroCells74 74)) := by
  unfold execOp
  rw [ho]
  go_simp
theorem exec_alloc_hand {ρ : Operand → Value} {o : Oper} (ho : o.op = .alloc 29) (w : World) : (execOp ρ o).run Tryd.prog w = .ok (.value (.pointer (some ⟨w.heap.size, 0, none⟩))) (w.alloc (.cells (.int .i64 0 :: .int .i64 0 :: .int .i64 0 :: .int .i64 0 :: .int .i64 0 :: .int .i64 0 :: .int .i64 0 :: .int .u8 0 :: .int .u8 0 :: .int .u8 0 :: .int .u8 0 :: .int .u8 0 :: .int .u8 0 :: .int .u8 0 :: .int .u8 0 :: .int .u8 0 :: .int .u8 0 :: .int .u8 0 :: .int .u8 0 :: .int .u8 0 :: .int .u8 0 :: .int .u8 0 :: .int .u8 0 :: .int .u8 0 :: .int .u8 0 :: .int .u8 0 :: .int .u8 0 :: .int .u8 0 :: .int .u8 0 :: .int .u8 0 :: .int .u8 0 :: .int .u8 0 :: .int .u8 0 :: .int .u8 0 :: .int .u8 0 :: .int .u8 0 :: .int .u8 0 :: .int .u8 0 :: .int .u8 0 :: .int .i64 0 :: .int .i64 0 :: .int .i64 0 :: [] : List Value).toArray 29)) := by
  unfold execOp
  rw [ho]
  go_simp
theorem exec_alloc_slot {ρ : Operand → Value} {o : Oper} (ho : o.op = .alloc 152) (w : World) : (execOp ρ o).run Tryd.prog w = .ok (.value (.pointer (some ⟨w.heap.size, 0, none⟩))) (w.alloc (.cells [.int .i64 0, .int .i64 0, .int .i64 0, .int .i64 0, .int .i64 0].toArray 152)) := by
  unfold execOp
  rw [ho]
  go_simp
end Frk

