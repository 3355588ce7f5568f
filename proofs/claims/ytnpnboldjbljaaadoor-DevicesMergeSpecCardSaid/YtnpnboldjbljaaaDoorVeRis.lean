/- Law 44's reference: insert. -/
import Derived.Test.YtnpnboldjbljaaaDoorVeDap
import Derived.Test.YtnpnboldjbljaaaDoorVeDpo
namespace Frk
open Go Go.RowKit Go.Proofs
set_option maxRecDepth 100000

theorem ins_fin {l : List Po} {d : Po} {k len cap : Nat} {a : Option Addr} {V w W : World} {base : Nat} {v : Value} (h : OwnC Po.C 33 31 W base v (k + 1 + (len - k)) (l.take k ++ [d] ++ l.drop k)) (hk : k = atK Po.o l d.o) (hkl : k ≤ len) (hd : IsPs V a len cap l) (hlt : len < 5000) (hC : d.C.length = 33) (hbase : w.heap.size ≤ base) (hb : Below w.heap.size w W) : RowPost Po.C 33 (fun _ => False) (insK Po.o l d) w (.returned v) W := by
  have e : l.take k ++ [d] ++ l.drop k = insK Po.o l d := by unfold insK; rw [← hk]; simp
  rw [e] at h
  have hl := hd.llen
  refine rowPost_of rowT_po h (by omega) (by rw [insK_len, hl]; omega) (fun x hx => ?_) (by omega) hbase hb
  rcases mem_insK.1 hx with rfl | h
  · exact hC
  · exact hd.each x h

set_option maxHeartbeats 4000000 in
theorem rinsert_some (g off : Nat) (len cap : Nat) (l : List Po) (d : Po) (w : World) (hd : IsPs w (some ⟨g, off, none⟩) len cap l) (h32 : d.S.length = 32) (hlen : len < 5000) :
    Calls Tryd.prog 36 #[.slice (some ⟨g, off, none⟩) len cap, .agg d.C.toArray] w (RowPost Po.C 33 (fun _ => False) (insK Po.o l d) w) := by
  have HD := Seal.mk hd
  have hll := hd.llen
  have hlc := hd.lcap
  have hcm := hd.cmax
  have hat := atK_le (key := Po.o) l d.o
  rw [hll] at hat
  have HLT := Seal.mk hlen
  have H32 := Seal.mk h32
  have Hd : Seal (d.C.length = 33) := ⟨Po.C_len h32⟩
  obtain ⟨C, hC⟩ : ∃ C, C = d.C := ⟨_, rfl⟩
  obtain ⟨o, ho⟩ : ∃ o, o = d.o := ⟨_, rfl⟩
  have HO := Seal.mk ho
  have HC := Seal.mk hC
  have HCl : Seal (C.length = 33) := ⟨by rw [hC]; exact Po.C_len h32⟩
  have IC : Seal ((Tryd.prog.info? 31).map (·.size) = some C.length) := ⟨by rw [hC]; exact Po.C_info h32⟩
  obtain ⟨X, hX⟩ : ∃ X : World, X = w.alloc (.cells C.toArray 31) := ⟨_, rfl⟩
  have hXb : Seal (Below w.heap.size w X) := ⟨by rw [hX]; exact below_alloc _ _⟩
  have hXr : Seal (X.rangeAt w.heap.size 0 C) := ⟨by rw [hX]; exact rangeAt_new w _ _ _⟩
  have hXs : Seal (w.heap.size < X.heap.size) := ⟨by rw [hX, size_alloc]; omega⟩
  have hXc : Seal (X.cell? ⟨w.heap.size, 0, none⟩ = some (.int .i64 o)) := ⟨by have := hXr.out 0 (.int .i64 o) (by rw [hC, ho]; rfl); simpa using this⟩
  rw [← hC]
  have HLL := Seal.mk hll
  have HAT : Seal (∀ x : Po, ∀ k : Nat, l[k]? = some x → k < atK Po.o l d.o → x.o < d.o) := ⟨fun x k hx hk => atK_low hk hx⟩
  have HAN : Seal (∀ x : Po, l[atK Po.o l d.o]? = some x → ¬ x.o < d.o) := ⟨fun x hx => atK_not hx⟩
  clear hd h32 hll hC ho
  obtain ⟨at_, hat_⟩ : ∃ k, k = atK Po.o l d.o := ⟨_, rfl⟩
  have HATE := Seal.mk hat_
  rw [← hat_] at hat HAT HAN
  rw [← HO.out] at HAT HAN
  clear hat_
  go_enter Tryd.func36, Tryd.ntmps36
  go_wp2
  rw [← hX]
  clear hX
  go_loopw [5] (fun i wr => ∃ k : Nat, k ≤ at_ ∧ i = .int .i64 k ∧ Seal (Below X.heap.size X wr)) (fun i _ => at_ - (intOf i).toNat)
  case atStart => exact ⟨0, by omega, rfl, ⟨Below.refl _ _⟩⟩
  case round =>
    obtain ⟨k, hk, rfl, hH⟩ := hrel
    have HDr := (HD.out.below hXb.out).below hH.out
    have c3 : wr.cell? ⟨w.heap.size, 0, none⟩ = some (.int .i64 o) := cell_below' hH.out hXc.out
    by_cases hlt : k < len
    · rcases HDr.at_ with h0 | ⟨g', off', eg, hr, hg⟩
      · omega
      · cases eg
        obtain ⟨x, hx⟩ : ∃ x, l[k]? = some x := ⟨_, List.getElem?_eq_getElem (by rw [HLL.out]; exact hlt)⟩
        obtain ⟨q, hq⟩ : ∃ q, q = x.o := ⟨_, rfl⟩
        have c2 : wr.cell? ⟨g, off + k * 33, none⟩ = some (.int .i64 q) := by have := rangeC_row hr HDr.each hx 0 (.int .i64 x.o) rfl; rw [hq]; simpa using this
        have q5 : (k : Int) < (len : Int) := by omega
        have q6 : (0 : Int) ≤ (k : Int) := by omega
        have HX := Seal.mk hx
        have HQ := Seal.mk hq
        have HB1 : Seal (Below X.heap.size X wr.drew) := ⟨hH.out.trans ((below_drewn wr).mono hH.out.size)⟩
        clear hr HDr hx hq
        by_cases hqo : q < o
        · have q7 : (q < o) = True := eq_true hqo
          have hkl : k < at_ := by
            rcases Nat.lt_or_ge k at_ with h1 | h1
            · exact h1
            · have e : k = at_ := by omega
              have := HAN.out x (by rw [← e]; exact HX.out)
              rw [← HQ.out] at this
              omega
          go_wp2_with fail
          refine wp_region_held_drew (S := fun w' => w'.cell? ⟨g, off + k * 33, none⟩ = some (.int .i64 q) ∧ w'.cell? ⟨w.heap.size, 0, none⟩ = some (.int .i64 o)) (by kernel_rfl) ⟨c2, c3⟩ (fun hHeld => ?_)
          refine take_h 0 ?_ rfl (by kernel_rfl) (by kernel_rfl) (by kernel_rfl) (fun _ _ _ h => h) (Or.inl ⟨by kernel_rfl, ?_⟩) (by assumption) ?_
          rotate_left
          · (intro w hSw; (try dsimp only at hSw); go_simp; try (with_reducible rfl))
          try simp only [Act.put, List.setIfInBounds_toArray, List.set_cons_zero, List.set_cons_succ]
          refine take_h 1 ?_ rfl (by kernel_rfl) (by kernel_rfl) (by kernel_rfl) (fun _ _ _ h => h) (Or.inl ⟨by kernel_rfl, ?_⟩) (by assumption) ?_
          rotate_left
          · (intro w hSw; (try dsimp only at hSw); go_simp; try (with_reducible rfl))
          try simp only [Act.put, List.setIfInBounds_toArray, List.set_cons_zero, List.set_cons_succ]
          refine take_h 2 ?_ rfl (by kernel_rfl) (by kernel_rfl) (by kernel_rfl) (fun _ _ _ h => h) (Or.inl ⟨by kernel_rfl, ?_⟩) (by assumption) ?_
          rotate_left
          · (intro w hSw; (try dsimp only at hSw); go_simp; try (with_reducible rfl))
          try simp only [Act.put, List.setIfInBounds_toArray, List.set_cons_zero, List.set_cons_succ]
          refine take_h 3 ?_ rfl (by kernel_rfl) (by kernel_rfl) (by kernel_rfl) (fun _ _ _ h => h) (Or.inl ⟨by kernel_rfl, ?_⟩) (by assumption) ?_
          rotate_left
          · (intro w hSw; (try dsimp only at hSw); go_simp; try (with_reducible rfl))
          try simp only [Act.put, List.setIfInBounds_toArray, List.set_cons_zero, List.set_cons_succ]
          refine take_h 4 ?_ rfl (by kernel_rfl) (by kernel_rfl) (by kernel_rfl) (fun _ _ _ h => h) (Or.inl ⟨by kernel_rfl, ?_⟩) (by assumption) ?_
          rotate_left
          · (intro w hSw; (try dsimp only at hSw); go_simp; try (with_reducible rfl))
          try simp only [Act.put, List.setIfInBounds_toArray, List.set_cons_zero, List.set_cons_succ]
          refine take_h 5 ?_ rfl (by kernel_rfl) (by kernel_rfl) (by kernel_rfl) (fun _ _ _ h => h) (Or.inl ⟨by kernel_rfl, ?_⟩) (by assumption) ?_
          rotate_left
          · (intro w hSw; (try dsimp only at hSw); go_simp; try (with_reducible rfl))
          try simp only [Act.put, List.setIfInBounds_toArray, List.set_cons_zero, List.set_cons_succ]
          refine take_h 6 ?_ rfl (by kernel_rfl) (by kernel_rfl) (by kernel_rfl) (fun _ _ _ h => h) (Or.inl ⟨by kernel_rfl, ?_⟩) (by assumption) ?_
          rotate_left
          · (intro w hSw; (try dsimp only at hSw); go_simp; try (with_reducible rfl))
          try simp only [Act.put, List.setIfInBounds_toArray, List.set_cons_zero, List.set_cons_succ]
          refine take_h 7 ?_ rfl (by kernel_rfl) (by kernel_rfl) (by kernel_rfl) (fun _ _ _ h => h) (Or.inl ⟨by kernel_rfl, ?_⟩) (by assumption) ?_
          rotate_left
          · (intro w hSw; (try dsimp only at hSw); go_simp; try (with_reducible rfl))
          try simp only [Act.put, List.setIfInBounds_toArray, List.set_cons_zero, List.set_cons_succ]
          refine take_h 8 ?_ rfl (by kernel_rfl) (by kernel_rfl) (by kernel_rfl) (fun _ _ _ h => h) (Or.inl ⟨by kernel_rfl, ?_⟩) (by assumption) ?_
          rotate_left
          · (intro w hSw; (try dsimp only at hSw); go_simp; try (with_reducible rfl))
          try simp only [Act.put, List.setIfInBounds_toArray, List.set_cons_zero, List.set_cons_succ]
          refine take_h 9 ?_ rfl (by kernel_rfl) (by kernel_rfl) (by kernel_rfl) (fun _ _ _ h => h) (Or.inl ⟨by kernel_rfl, ?_⟩) (by assumption) ?_
          rotate_left
          · (intro w hSw; (try dsimp only at hSw); go_simp; try (with_reducible rfl))
          try simp only [Act.put, List.setIfInBounds_toArray, List.set_cons_zero, List.set_cons_succ]
          refine take_h 10 ?_ rfl (by kernel_rfl) (by kernel_rfl) (by kernel_rfl) (fun _ _ _ h => h) (Or.inl ⟨by kernel_rfl, ?_⟩) (by assumption) ?_
          rotate_left
          · (intro w hSw; (try dsimp only at hSw); go_simp; try (with_reducible rfl))
          try simp only [Act.put, List.setIfInBounds_toArray, List.set_cons_zero, List.set_cons_succ]
          refine take_h 11 ?_ rfl (by kernel_rfl) (by kernel_rfl) (by kernel_rfl) (fun _ _ _ h => h) (Or.inl ⟨by kernel_rfl, ?_⟩) (by assumption) ?_
          rotate_left
          · (intro w hSw; (try dsimp only at hSw); go_simp; try (with_reducible rfl))
          try simp only [Act.put, List.setIfInBounds_toArray, List.set_cons_zero, List.set_cons_succ]
          refine take_h 12 ?_ rfl (by kernel_rfl) (by kernel_rfl) (by kernel_rfl) (fun _ _ _ h => h) (Or.inl ⟨by kernel_rfl, ?_⟩) (by assumption) ?_
          rotate_left
          · (intro w hSw; (try dsimp only at hSw); go_simp; try (with_reducible rfl))
          try simp only [Act.put, List.setIfInBounds_toArray, List.set_cons_zero, List.set_cons_succ]
          refine take_h 13 ?_ rfl (by kernel_rfl) (by kernel_rfl) (by kernel_rfl) (fun _ _ _ h => h) (Or.inl ⟨by kernel_rfl, ?_⟩) (by assumption) ?_
          rotate_left
          · (intro w hSw; (try dsimp only at hSw); go_simp; try (with_reducible rfl))
          try simp only [Act.put, List.setIfInBounds_toArray, List.set_cons_zero, List.set_cons_succ]
          refine wpAnyH_done (by kernel_rfl) ?_ _
          clear hHeld q7
          go_wp2
          go_roundw
          case rel => exact ⟨k + 1, by omega, by go_num, HB1⟩
          case measure => simp [intOf]; omega
        · have q7 : (q < o) = False := eq_false hqo
          have hke : k = at_ := by
            rcases Nat.lt_or_ge k at_ with h1 | h1
            · have := HAT.out x k HX.out h1
              rw [← HQ.out] at this
              exact absurd this hqo
            · omega
          have HKE : Seal (k = atK Po.o l d.o) := ⟨hke.trans HATE.out⟩
          clear HAT HAN HATE hke
          go_wp2_with fail
          refine wp_region_held_drew (S := fun w' => w'.cell? ⟨g, off + k * 33, none⟩ = some (.int .i64 q) ∧ w'.cell? ⟨w.heap.size, 0, none⟩ = some (.int .i64 o)) (by kernel_rfl) ⟨c2, c3⟩ (fun hHeld => ?_)
          refine take_h 0 ?_ rfl (by kernel_rfl) (by kernel_rfl) (by kernel_rfl) (fun _ _ _ h => h) (Or.inl ⟨by kernel_rfl, ?_⟩) (by assumption) ?_
          rotate_left
          · (intro w hSw; (try dsimp only at hSw); go_simp; try (with_reducible rfl))
          try simp only [Act.put, List.setIfInBounds_toArray, List.set_cons_zero, List.set_cons_succ]
          refine take_h 1 ?_ rfl (by kernel_rfl) (by kernel_rfl) (by kernel_rfl) (fun _ _ _ h => h) (Or.inl ⟨by kernel_rfl, ?_⟩) (by assumption) ?_
          rotate_left
          · (intro w hSw; (try dsimp only at hSw); go_simp; try (with_reducible rfl))
          try simp only [Act.put, List.setIfInBounds_toArray, List.set_cons_zero, List.set_cons_succ]
          refine take_h 2 ?_ rfl (by kernel_rfl) (by kernel_rfl) (by kernel_rfl) (fun _ _ _ h => h) (Or.inl ⟨by kernel_rfl, ?_⟩) (by assumption) ?_
          rotate_left
          · (intro w hSw; (try dsimp only at hSw); go_simp; try (with_reducible rfl))
          try simp only [Act.put, List.setIfInBounds_toArray, List.set_cons_zero, List.set_cons_succ]
          refine take_h 3 ?_ rfl (by kernel_rfl) (by kernel_rfl) (by kernel_rfl) (fun _ _ _ h => h) (Or.inl ⟨by kernel_rfl, ?_⟩) (by assumption) ?_
          rotate_left
          · (intro w hSw; (try dsimp only at hSw); go_simp; try (with_reducible rfl))
          try simp only [Act.put, List.setIfInBounds_toArray, List.set_cons_zero, List.set_cons_succ]
          refine take_h 4 ?_ rfl (by kernel_rfl) (by kernel_rfl) (by kernel_rfl) (fun _ _ _ h => h) (Or.inl ⟨by kernel_rfl, ?_⟩) (by assumption) ?_
          rotate_left
          · (intro w hSw; (try dsimp only at hSw); go_simp; try (with_reducible rfl))
          try simp only [Act.put, List.setIfInBounds_toArray, List.set_cons_zero, List.set_cons_succ]
          refine take_h 5 ?_ rfl (by kernel_rfl) (by kernel_rfl) (by kernel_rfl) (fun _ _ _ h => h) (Or.inl ⟨by kernel_rfl, ?_⟩) (by assumption) ?_
          rotate_left
          · (intro w hSw; (try dsimp only at hSw); go_simp; try (with_reducible rfl))
          try simp only [Act.put, List.setIfInBounds_toArray, List.set_cons_zero, List.set_cons_succ]
          refine take_h 6 ?_ rfl (by kernel_rfl) (by kernel_rfl) (by kernel_rfl) (fun _ _ _ h => h) (Or.inl ⟨by kernel_rfl, ?_⟩) (by assumption) ?_
          rotate_left
          · (intro w hSw; (try dsimp only at hSw); go_simp; try (with_reducible rfl))
          try simp only [Act.put, List.setIfInBounds_toArray, List.set_cons_zero, List.set_cons_succ]
          refine take_h 7 ?_ rfl (by kernel_rfl) (by kernel_rfl) (by kernel_rfl) (fun _ _ _ h => h) (Or.inl ⟨by kernel_rfl, ?_⟩) (by assumption) ?_
          rotate_left
          · (intro w hSw; (try dsimp only at hSw); go_simp; try (with_reducible rfl))
          try simp only [Act.put, List.setIfInBounds_toArray, List.set_cons_zero, List.set_cons_succ]
          refine take_h 8 ?_ rfl (by kernel_rfl) (by kernel_rfl) (by kernel_rfl) (fun _ _ _ h => h) (Or.inl ⟨by kernel_rfl, ?_⟩) (by assumption) ?_
          rotate_left
          · (intro w hSw; (try dsimp only at hSw); go_simp; try (with_reducible rfl))
          try simp only [Act.put, List.setIfInBounds_toArray, List.set_cons_zero, List.set_cons_succ]
          refine take_h 9 ?_ rfl (by kernel_rfl) (by kernel_rfl) (by kernel_rfl) (fun _ _ _ h => h) (Or.inl ⟨by kernel_rfl, ?_⟩) (by assumption) ?_
          rotate_left
          · (intro w hSw; (try dsimp only at hSw); go_simp; try (with_reducible rfl))
          try simp only [Act.put, List.setIfInBounds_toArray, List.set_cons_zero, List.set_cons_succ]
          refine take_h 10 ?_ rfl (by kernel_rfl) (by kernel_rfl) (by kernel_rfl) (fun _ _ _ h => h) (Or.inl ⟨by kernel_rfl, ?_⟩) (by assumption) ?_
          rotate_left
          · (intro w hSw; (try dsimp only at hSw); go_simp; try (with_reducible rfl))
          try simp only [Act.put, List.setIfInBounds_toArray, List.set_cons_zero, List.set_cons_succ]
          refine take_h 11 ?_ rfl (by kernel_rfl) (by kernel_rfl) (by kernel_rfl) (fun _ _ _ h => h) (Or.inl ⟨by kernel_rfl, ?_⟩) (by assumption) ?_
          rotate_left
          · (intro w hSw; (try dsimp only at hSw); go_simp; try (with_reducible rfl))
          try simp only [Act.put, List.setIfInBounds_toArray, List.set_cons_zero, List.set_cons_succ]
          refine take_h 12 ?_ rfl (by kernel_rfl) (by kernel_rfl) (by kernel_rfl) (fun _ _ _ h => h) (Or.inl ⟨by kernel_rfl, ?_⟩) (by assumption) ?_
          rotate_left
          · (intro w hSw; (try dsimp only at hSw); go_simp; try (with_reducible rfl))
          try simp only [Act.put, List.setIfInBounds_toArray, List.set_cons_zero, List.set_cons_succ]
          refine take_h 13 ?_ rfl (by kernel_rfl) (by kernel_rfl) (by kernel_rfl) (fun _ _ _ h => h) (Or.inl ⟨by kernel_rfl, ?_⟩) (by assumption) ?_
          rotate_left
          · (intro w hSw; (try dsimp only at hSw); go_simp; try (with_reducible rfl))
          try simp only [Act.put, List.setIfInBounds_toArray, List.set_cons_zero, List.set_cons_succ]
          refine wpAnyH_done (by kernel_rfl) ?_ _
          clear hHeld q7 c2 c3
          obtain ⟨V, hV⟩ : ∃ V, V = wr.drew := ⟨_, rfl⟩
          rw [← hV] at HB1 ⊢
          clear hV
          go_wp2_with fail
          have HBV : Seal (Below w.heap.size w V) := ⟨hXb.out.trans (HB1.out.mono hXb.out.size)⟩
          have rV : (V).rangeAt w.heap.size 0 C := rangeAt_below' hXr.out HB1.out
          have hVs : w.heap.size < (V).heap.size := Nat.lt_of_lt_of_le hXs.out (HB1.out).size
          have HDV : Seal (IsPs V (some ⟨g, off, none⟩) len cap l) := ⟨(HD.out.below hXb.out).below HB1.out⟩
          have i2 := IC.out
          have ut := Tryd.underlying31
          have s1 : (0 : Int) ≤ (k : Int) := by omega
          have s2 : (k : Int) ≤ (cap : Int) := by omega
          have s3 : (k : Int) ≤ (len : Int) := by omega
          refine wp_region_held_drew (S := fun w' => w'.rangeAt w.heap.size 0 C) (by kernel_rfl) rV (fun hHeld => ?_)
          refine take_h 1 ?_ rfl (by kernel_rfl) (by kernel_rfl) (by kernel_rfl) (fun _ _ _ h => h) (Or.inl ⟨by kernel_rfl, ?_⟩) (by assumption) ?_
          rotate_left
          · (intro w hSw; (try dsimp only at hSw); go_simp; try (with_reducible rfl))
          try simp only [Act.put, List.setIfInBounds_toArray, List.set_cons_zero, List.set_cons_succ]
          refine take_h 2 ?_ rfl (by kernel_rfl) (by kernel_rfl) (by kernel_rfl) (fun _ _ _ h => h) (Or.inl ⟨by kernel_rfl, ?_⟩) (by assumption) ?_
          rotate_left
          · (intro w hSw; (try dsimp only at hSw); go_simp; try (with_reducible rfl))
          try simp only [Act.put, List.setIfInBounds_toArray, List.set_cons_zero, List.set_cons_succ]
          refine take_h 3 ?_ rfl (by kernel_rfl) (by kernel_rfl) (by kernel_rfl) (fun _ _ _ h => h) (Or.inl ⟨by kernel_rfl, ?_⟩) (by assumption) ?_
          rotate_left
          · (intro w hSw; (try dsimp only at hSw); go_simp; try (with_reducible rfl))
          try simp only [Act.put, List.setIfInBounds_toArray, List.set_cons_zero, List.set_cons_succ]
          refine take_h 5 _ rfl (by kernel_rfl) (by kernel_rfl) (by kernel_rfl) (fun _ _ _ h => h) (yieldsIf_load_mid (by kernel_rfl) 31 (.tmp 3) rfl w.heap.size 0 rfl C _ (fun w hSw => hSw) ut rfl i2) (by assumption) ?_
          try simp only [Act.put, List.setIfInBounds_toArray, List.set_cons_zero, List.set_cons_succ]
          refine wpAnyH_ready (rs := [0, 6]) (by kernel_rfl) (by simp) (oper_b 0 (.slice (some ⟨(V).heap.size, 0, none⟩) 0 0) ((V).drew.alloc (.cells #[] 31)) rfl (by kernel_rfl) (by go_simp) (World.rangeAt_alloc hHeld _) (fun hHeld2 => ?_) (oper_b 6 (.slice (some ⟨(V).heap.size, 0, none⟩) 1 1) ((V).drew.alloc (.cells C.toArray 31)) rfl (by kernel_rfl) (exec_bslice_pos rfl C HCl.out rfl _) (World.rangeAt_alloc hHeld _) (fun hHeld2 => ?_) AllReadyH.nil))
          · obtain ⟨W0, hW0⟩ : ∃ W0, W0 = (V).drew.alloc (.cells #[] 31) := ⟨_, rfl⟩
            have o0 : OwnC Po.C 33 31 W0 (V).heap.size (.slice (some ⟨(V).heap.size, 0, none⟩) 0 0) 0 [] := by rw [hW0]; exact own_empty_c rowT_po (V).drew (V).heap.size (Nat.le_refl _)
            have b0 : Below (V).heap.size V W0 := by rw [hW0]; exact (below_drewn V).alloc (Nat.le_refl _) _
            have z0 : W0.heap.size = (V).heap.size + 1 := by rw [hW0]; exact size_alloc (V).drew _
            rw [← hW0] at hHeld2 ⊢
            clear hHeld hW0
            obtain ⟨v1, W1, run1, o1, g1, bl1⟩ := put_head_c rowT_po V g off len cap k l HDV.out (by omega) W0 (V).heap.size 22 o0 b0
            have S1 : W1.rangeAt w.heap.size 0 C := rangeAt_below hHeld2 bl1 hVs
            have zz1 := bl1.size
            try simp only [Act.put, List.setIfInBounds_toArray, List.set_cons_zero, List.set_cons_succ]
            refine wpAnyH_ready (rs := [4, 6]) (by kernel_rfl) (by simp) (oper_b 4 v1 W1 rfl (by kernel_rfl) (exec_append1 (.tmp 23) (.tmp 26) 22 22 22 rfl rfl _ _ _ rfl rfl run1) S1 (fun hHeld3 => ?_) (oper_b 6 (.slice (some ⟨W0.heap.size, 0, none⟩) 1 1) (W0.alloc (.cells C.toArray 31)) rfl (by kernel_rfl) (exec_bslice_pos rfl C HCl.out rfl _) (World.rangeAt_alloc hHeld2 _) (fun hHeld3 => ?_) AllReadyH.nil))
            · clear hHeld2 run1
              try simp only [Act.put, List.setIfInBounds_toArray, List.set_cons_zero, List.set_cons_succ]
              refine oper_h 6 (.slice (some ⟨W1.heap.size, 0, none⟩) 1 1) (W1.alloc (.cells C.toArray 31)) rfl (by kernel_rfl) (by kernel_rfl) (exec_bslice_pos rfl C HCl.out rfl _) (World.rangeAt_alloc hHeld3 _) (fun hHeld4 => ?_)
              clear hHeld3
              try simp only [Act.put, List.setIfInBounds_toArray, List.set_cons_zero, List.set_cons_succ]
              obtain ⟨v2, W3, run7, o7, bl7⟩ := put_one_c rowT_po k (l.take k) d Hd.out (by omega) (W1.alloc (.cells C.toArray 31)) (V).heap.size W1.heap.size v1 22 (World.ownsRow.alloc o1 _) (by rw [← HC.out]; exact heap_alloc_new W1 _) (by rw [size_alloc]; omega)
              have bW3 : Below (V).heap.size V W3 := ((b0.trans bl1).alloc (by omega) _).trans bl7
              clear o0 b0 z0 o1 g1 bl1 S1 zz1
              refine oper_h 7 v2 W3 rfl (by kernel_rfl) (by kernel_rfl) (exec_append1 (.tmp 27) (.tmp 29) 22 22 22 rfl rfl _ _ _ rfl rfl run7) (rangeAt_below hHeld4 bl7 hVs) (fun hHeld5 => ?_)
              clear hHeld4
              try simp only [Act.put, List.setIfInBounds_toArray, List.set_cons_zero, List.set_cons_succ]
              refine take_h 8 ?_ rfl (by kernel_rfl) (by kernel_rfl) (by kernel_rfl) (fun _ _ _ h => h) (Or.inl ⟨by kernel_rfl, ?_⟩) (by assumption) ?_
              rotate_left
              · (intro w hSw; (try dsimp only at hSw); go_simp; try (with_reducible rfl))
              try simp only [Act.put, List.setIfInBounds_toArray, List.set_cons_zero, List.set_cons_succ]
              refine wpAnyH_done (by kernel_rfl) ?_ _
              clear hHeld5 rV i2 ut
              have O7 := Seal.mk o7
              have BW := Seal.mk bW3
              clear o7 bW3 bl7 run7
              by_cases hck : cap = k
              · have hck' : ¬ (k : Int) < (cap : Int) := by omega
                obtain ⟨v3, W4, hr9, o9, bl9⟩ := put_rest_c rowT_po V g off len cap k 0 l (l.take k ++ [d]) (k + 1) HDV.out (by omega) W3 v2 22 O7.out (by omega) BW.out ⟨g, off, none⟩ (fun h => by omega)
                have HR9 := Seal.mk hr9
                clear hr9
                go_wp2_with (refine wpList_append_run1 rfl (.tmp 31) (.tmp 34) 22 22 22 rfl rfl v2 (.slice (some ⟨g, off, none⟩) (len - k) 0) v3 rfl rfl HR9.out ?_)
                go_ret
                exact ins_fin o9 HKE.out (by omega) HD.out HLT.out Hd.out HBV.out.size (HBV.out.trans ((BW.out.trans bl9).mono HBV.out.size))
              · have hck' : (k : Int) < (cap : Int) := by omega
                obtain ⟨v3, W4, hr9, o9, bl9⟩ := put_rest_c rowT_po V g off len cap k (cap - k) l (l.take k ++ [d]) (k + 1) HDV.out (by omega) W3 v2 22 O7.out (by omega) BW.out ⟨g, off + k * 33, none⟩ (fun _ => rfl)
                have HR9 := Seal.mk hr9
                clear hr9
                go_wp2_with (refine wpList_append_run1 rfl (.tmp 31) (.tmp 34) 22 22 22 rfl rfl v2 (.slice (some ⟨g, off + k * 33, none⟩) (len - k) (cap - k)) v3 rfl rfl HR9.out ?_)
                go_ret
                exact ins_fin o9 HKE.out (by omega) HD.out HLT.out Hd.out HBV.out.size (HBV.out.trans ((BW.out.trans bl9).mono HBV.out.size))
            · clear hHeld2 run1 o1 g1 bl1 S1 zz1
              try simp only [Act.put, List.setIfInBounds_toArray, List.set_cons_zero, List.set_cons_succ]
              obtain ⟨v1, W1, run1, o1, g1, bl1⟩ := put_head_c rowT_po V g off len cap k l HDV.out (by omega) (W0.alloc (.cells C.toArray 31)) (V).heap.size 22 (World.ownsRow.alloc o0 _) (b0.alloc (by omega) _)
              have hv1 := row_keeps g1 (heap_alloc_new W0 _) (by omega)
              refine oper_h 4 v1 W1 rfl (by kernel_rfl) (by kernel_rfl) (exec_append1 (.tmp 23) (.tmp 26) 22 22 22 rfl rfl _ _ _ rfl rfl run1) (rangeAt_below hHeld3 bl1 hVs) (fun hHeld4 => ?_)
              clear hHeld3 run1
              try simp only [Act.put, List.setIfInBounds_toArray, List.set_cons_zero, List.set_cons_succ]
              have zz1 := bl1.size
              rw [size_alloc] at zz1
              obtain ⟨v2, W3, run7, o7, bl7⟩ := put_one_c rowT_po k (l.take k) d Hd.out (by omega) W1 (V).heap.size W0.heap.size v1 22 o1 (by rw [← HC.out]; exact hv1) (by omega)
              have bW3 : Below (V).heap.size V W3 := ((b0.alloc (by omega) _).trans bl1).trans bl7
              clear o0 b0 z0 o1 g1 bl1 hv1 zz1
              refine oper_h 7 v2 W3 rfl (by kernel_rfl) (by kernel_rfl) (exec_append1 (.tmp 27) (.tmp 29) 22 22 22 rfl rfl _ _ _ rfl rfl run7) (rangeAt_below hHeld4 bl7 hVs) (fun hHeld5 => ?_)
              clear hHeld4
              try simp only [Act.put, List.setIfInBounds_toArray, List.set_cons_zero, List.set_cons_succ]
              refine take_h 8 ?_ rfl (by kernel_rfl) (by kernel_rfl) (by kernel_rfl) (fun _ _ _ h => h) (Or.inl ⟨by kernel_rfl, ?_⟩) (by assumption) ?_
              rotate_left
              · (intro w hSw; (try dsimp only at hSw); go_simp; try (with_reducible rfl))
              try simp only [Act.put, List.setIfInBounds_toArray, List.set_cons_zero, List.set_cons_succ]
              refine wpAnyH_done (by kernel_rfl) ?_ _
              clear hHeld5 rV i2 ut
              have O7 := Seal.mk o7
              have BW := Seal.mk bW3
              clear o7 bW3 bl7 run7
              by_cases hck : cap = k
              · have hck' : ¬ (k : Int) < (cap : Int) := by omega
                obtain ⟨v3, W4, hr9, o9, bl9⟩ := put_rest_c rowT_po V g off len cap k 0 l (l.take k ++ [d]) (k + 1) HDV.out (by omega) W3 v2 22 O7.out (by omega) BW.out ⟨g, off, none⟩ (fun h => by omega)
                have HR9 := Seal.mk hr9
                clear hr9
                go_wp2_with (refine wpList_append_run1 rfl (.tmp 31) (.tmp 34) 22 22 22 rfl rfl v2 (.slice (some ⟨g, off, none⟩) (len - k) 0) v3 rfl rfl HR9.out ?_)
                go_ret
                exact ins_fin o9 HKE.out (by omega) HD.out HLT.out Hd.out HBV.out.size (HBV.out.trans ((BW.out.trans bl9).mono HBV.out.size))
              · have hck' : (k : Int) < (cap : Int) := by omega
                obtain ⟨v3, W4, hr9, o9, bl9⟩ := put_rest_c rowT_po V g off len cap k (cap - k) l (l.take k ++ [d]) (k + 1) HDV.out (by omega) W3 v2 22 O7.out (by omega) BW.out ⟨g, off + k * 33, none⟩ (fun _ => rfl)
                have HR9 := Seal.mk hr9
                clear hr9
                go_wp2_with (refine wpList_append_run1 rfl (.tmp 31) (.tmp 34) 22 22 22 rfl rfl v2 (.slice (some ⟨g, off + k * 33, none⟩) (len - k) (cap - k)) v3 rfl rfl HR9.out ?_)
                go_ret
                exact ins_fin o9 HKE.out (by omega) HD.out HLT.out Hd.out HBV.out.size (HBV.out.trans ((BW.out.trans bl9).mono HBV.out.size))
          · obtain ⟨W6, hW6⟩ : ∃ W6, W6 = (V).drew.alloc (.cells C.toArray 31) := ⟨_, rfl⟩
            have b6 : Below (V).heap.size V W6 := by rw [hW6]; exact (below_drewn V).alloc (Nat.le_refl _) _
            have n6 : W6.heap[(V).heap.size]? = some (.cells C.toArray 31 (0, 0)) := by rw [hW6]; exact heap_alloc_new (V).drew _
            have z6 : W6.heap.size = (V).heap.size + 1 := by rw [hW6]; exact size_alloc (V).drew _
            rw [← hW6] at hHeld2 ⊢
            clear hHeld hW6
            try simp only [Act.put, List.setIfInBounds_toArray, List.set_cons_zero, List.set_cons_succ]
            refine oper_h 0 (.slice (some ⟨W6.heap.size, 0, none⟩) 0 0) (W6.alloc (.cells #[] 31)) rfl (by kernel_rfl) (by kernel_rfl) (by clear z6; go_simp) (World.rangeAt_alloc hHeld2 _) (fun hHeld3 => ?_)
            clear hHeld2
            try simp only [Act.put, List.setIfInBounds_toArray, List.set_cons_zero, List.set_cons_succ]
            have n7 : (W6.alloc (.cells #[] 31)).heap[(V).heap.size]? = some (.cells C.toArray 31 (0, 0)) := by rw [Below.heap_alloc _ _ _ (by omega)]; exact n6
            obtain ⟨v1, W1, run1, o1, g1, bl1⟩ := put_head_c rowT_po V g off len cap k l HDV.out (by omega) (W6.alloc (.cells #[] 31)) W6.heap.size 22 (own_empty_c rowT_po W6 (V).heap.size (by omega)) (b6.alloc (by omega) _)
            have hv1 := row_keeps g1 n7 (by omega)
            refine oper_h 4 v1 W1 rfl (by kernel_rfl) (by kernel_rfl) (exec_append1 (.tmp 23) (.tmp 26) 22 22 22 rfl rfl _ _ _ rfl rfl run1) (rangeAt_below hHeld3 bl1 hVs) (fun hHeld4 => ?_)
            clear hHeld3 run1
            try simp only [Act.put, List.setIfInBounds_toArray, List.set_cons_zero, List.set_cons_succ]
            have zz1 := bl1.size
            rw [size_alloc] at zz1
            obtain ⟨v2, W3, run7, o7, bl7⟩ := put_one_c rowT_po k (l.take k) d Hd.out (by omega) W1 (V).heap.size (V).heap.size v1 22 o1 (by rw [← HC.out]; exact hv1) (by omega)
            have bW3 : Below (V).heap.size V W3 := ((b6.alloc (by omega) _).trans bl1).trans bl7
            clear b6 n6 n7 z6 o1 g1 bl1 hv1 zz1
            refine oper_h 7 v2 W3 rfl (by kernel_rfl) (by kernel_rfl) (exec_append1 (.tmp 27) (.tmp 29) 22 22 22 rfl rfl _ _ _ rfl rfl run7) (rangeAt_below hHeld4 bl7 hVs) (fun hHeld5 => ?_)
            clear hHeld4
            try simp only [Act.put, List.setIfInBounds_toArray, List.set_cons_zero, List.set_cons_succ]
            refine take_h 8 ?_ rfl (by kernel_rfl) (by kernel_rfl) (by kernel_rfl) (fun _ _ _ h => h) (Or.inl ⟨by kernel_rfl, ?_⟩) (by assumption) ?_
            rotate_left
            · (intro w hSw; (try dsimp only at hSw); go_simp; try (with_reducible rfl))
            try simp only [Act.put, List.setIfInBounds_toArray, List.set_cons_zero, List.set_cons_succ]
            refine wpAnyH_done (by kernel_rfl) ?_ _
            clear hHeld5 rV i2 ut
            have O7 := Seal.mk o7
            have BW := Seal.mk bW3
            clear o7 bW3 bl7 run7
            by_cases hck : cap = k
            · have hck' : ¬ (k : Int) < (cap : Int) := by omega
              obtain ⟨v3, W4, hr9, o9, bl9⟩ := put_rest_c rowT_po V g off len cap k 0 l (l.take k ++ [d]) (k + 1) HDV.out (by omega) W3 v2 22 O7.out (by omega) BW.out ⟨g, off, none⟩ (fun h => by omega)
              have HR9 := Seal.mk hr9
              clear hr9
              go_wp2_with (refine wpList_append_run1 rfl (.tmp 31) (.tmp 34) 22 22 22 rfl rfl v2 (.slice (some ⟨g, off, none⟩) (len - k) 0) v3 rfl rfl HR9.out ?_)
              go_ret
              exact ins_fin o9 HKE.out (by omega) HD.out HLT.out Hd.out HBV.out.size (HBV.out.trans ((BW.out.trans bl9).mono HBV.out.size))
            · have hck' : (k : Int) < (cap : Int) := by omega
              obtain ⟨v3, W4, hr9, o9, bl9⟩ := put_rest_c rowT_po V g off len cap k (cap - k) l (l.take k ++ [d]) (k + 1) HDV.out (by omega) W3 v2 22 O7.out (by omega) BW.out ⟨g, off + k * 33, none⟩ (fun _ => rfl)
              have HR9 := Seal.mk hr9
              clear hr9
              go_wp2_with (refine wpList_append_run1 rfl (.tmp 31) (.tmp 34) 22 22 22 rfl rfl v2 (.slice (some ⟨g, off + k * 33, none⟩) (len - k) (cap - k)) v3 rfl rfl HR9.out ?_)
              go_ret
              exact ins_fin o9 HKE.out (by omega) HD.out HLT.out Hd.out HBV.out.size (HBV.out.trans ((BW.out.trans bl9).mono HBV.out.size))
    · have hke : k = at_ := by omega
      have HKE : Seal (k = atK Po.o l d.o) := ⟨hke.trans HATE.out⟩
      clear HDr HAT HAN HATE hke
      have q5 : ¬ (k : Int) < (len : Int) := by omega
      have q6 : decide ((k : Int) < (len : Int)) = false := decide_eq_false q5
      go_wp2_with fail
      refine wp_region_held_drew (S := fun w' => True) (by kernel_rfl) trivial (fun hHeld => ?_)
      refine take_h 0 ?_ rfl (by kernel_rfl) (by kernel_rfl) (by kernel_rfl) (fun _ _ _ h => h) (Or.inl ⟨by kernel_rfl, ?_⟩) (by assumption) ?_
      rotate_left
      · (intro w hSw; (try dsimp only at hSw); go_simp; try (with_reducible rfl))
      try simp only [Act.put, List.setIfInBounds_toArray, List.set_cons_zero, List.set_cons_succ]
      refine take_h 1 ?_ rfl (by kernel_rfl) (by kernel_rfl) (by kernel_rfl) (fun _ _ _ h => h) (Or.inl ⟨by kernel_rfl, ?_⟩) (by assumption) ?_
      rotate_left
      · (intro w hSw; (try dsimp only at hSw); go_simp; try (with_reducible rfl))
      try simp only [Act.put, List.setIfInBounds_toArray, List.set_cons_zero, List.set_cons_succ]
      refine take_h 2 ?_ rfl (by kernel_rfl) (by kernel_rfl) (by kernel_rfl) (fun _ _ _ h => h) (Or.inl ⟨by kernel_rfl, ?_⟩) (by assumption) ?_
      rotate_left
      · (intro w hSw; (try dsimp only at hSw); go_simp; try (with_reducible rfl))
      try simp only [Act.put, List.setIfInBounds_toArray, List.set_cons_zero, List.set_cons_succ]
      refine take_h 3 ?_ rfl (by kernel_rfl) (by kernel_rfl) (by kernel_rfl) (fun _ _ _ h => h) (Or.inl ⟨by kernel_rfl, ?_⟩) (by assumption) ?_
      rotate_left
      · (intro w hSw; (try dsimp only at hSw); go_simp; try (with_reducible rfl))
      try simp only [Act.put, List.setIfInBounds_toArray, List.set_cons_zero, List.set_cons_succ]
      refine take_h 4 ?_ rfl (by kernel_rfl) (by kernel_rfl) (by kernel_rfl) (fun _ _ _ h => h) (Or.inl ⟨by kernel_rfl, ?_⟩) (by assumption) ?_
      rotate_left
      · (intro w hSw; (try dsimp only at hSw); go_simp; try (with_reducible rfl))
      try simp only [Act.put, List.setIfInBounds_toArray, List.set_cons_zero, List.set_cons_succ]
      refine take_h 5 undef rfl (by kernel_rfl) (by kernel_rfl) (by kernel_rfl) (fun _ _ _ h => h) (Or.inr ⟨by kernel_rfl, rfl⟩) (by assumption) ?_
      try simp only [Act.put, List.setIfInBounds_toArray, List.set_cons_zero, List.set_cons_succ]
      refine take_h 6 undef rfl (by kernel_rfl) (by kernel_rfl) (by kernel_rfl) (fun _ _ _ h => h) (Or.inr ⟨by kernel_rfl, rfl⟩) (by assumption) ?_
      try simp only [Act.put, List.setIfInBounds_toArray, List.set_cons_zero, List.set_cons_succ]
      refine take_h 7 undef rfl (by kernel_rfl) (by kernel_rfl) (by kernel_rfl) (fun _ _ _ h => h) (Or.inr ⟨by kernel_rfl, rfl⟩) (by assumption) ?_
      try simp only [Act.put, List.setIfInBounds_toArray, List.set_cons_zero, List.set_cons_succ]
      refine take_h 8 undef rfl (by kernel_rfl) (by kernel_rfl) (by kernel_rfl) (fun _ _ _ h => h) (Or.inr ⟨by kernel_rfl, rfl⟩) (by assumption) ?_
      try simp only [Act.put, List.setIfInBounds_toArray, List.set_cons_zero, List.set_cons_succ]
      refine take_h 9 undef rfl (by kernel_rfl) (by kernel_rfl) (by kernel_rfl) (fun _ _ _ h => h) (Or.inr ⟨by kernel_rfl, rfl⟩) (by assumption) ?_
      try simp only [Act.put, List.setIfInBounds_toArray, List.set_cons_zero, List.set_cons_succ]
      refine take_h 10 undef rfl (by kernel_rfl) (by kernel_rfl) (by kernel_rfl) (fun _ _ _ h => h) (Or.inr ⟨by kernel_rfl, rfl⟩) (by assumption) ?_
      try simp only [Act.put, List.setIfInBounds_toArray, List.set_cons_zero, List.set_cons_succ]
      refine take_h 11 undef rfl (by kernel_rfl) (by kernel_rfl) (by kernel_rfl) (fun _ _ _ h => h) (Or.inr ⟨by kernel_rfl, rfl⟩) (by assumption) ?_
      try simp only [Act.put, List.setIfInBounds_toArray, List.set_cons_zero, List.set_cons_succ]
      refine take_h 12 undef rfl (by kernel_rfl) (by kernel_rfl) (by kernel_rfl) (fun _ _ _ h => h) (Or.inr ⟨by kernel_rfl, rfl⟩) (by assumption) ?_
      try simp only [Act.put, List.setIfInBounds_toArray, List.set_cons_zero, List.set_cons_succ]
      refine take_h 13 ?_ rfl (by kernel_rfl) (by kernel_rfl) (by kernel_rfl) (fun _ _ _ h => h) (Or.inl ⟨by kernel_rfl, ?_⟩) (by assumption) ?_
      rotate_left
      · (intro w hSw; (try dsimp only at hSw); go_simp; try (with_reducible rfl))
      try simp only [Act.put, List.setIfInBounds_toArray, List.set_cons_zero, List.set_cons_succ]
      refine wpAnyH_done (by kernel_rfl) ?_ _
      have HB1 : Seal (Below X.heap.size X wr.drew) := ⟨hH.out.trans ((below_drewn wr).mono hH.out.size)⟩
      clear hHeld q6 c3
      obtain ⟨V, hV⟩ : ∃ V, V = wr.drew := ⟨_, rfl⟩
      rw [← hV] at HB1 ⊢
      clear hV
      go_wp2_with fail
      have HBV : Seal (Below w.heap.size w V) := ⟨hXb.out.trans (HB1.out.mono hXb.out.size)⟩
      have rV : (V).rangeAt w.heap.size 0 C := rangeAt_below' hXr.out HB1.out
      have hVs : w.heap.size < (V).heap.size := Nat.lt_of_lt_of_le hXs.out (HB1.out).size
      have HDV : Seal (IsPs V (some ⟨g, off, none⟩) len cap l) := ⟨(HD.out.below hXb.out).below HB1.out⟩
      have i2 := IC.out
      have ut := Tryd.underlying31
      have s1 : (0 : Int) ≤ (k : Int) := by omega
      have s2 : (k : Int) ≤ (cap : Int) := by omega
      have s3 : (k : Int) ≤ (len : Int) := by omega
      refine wp_region_held_drew (S := fun w' => w'.rangeAt w.heap.size 0 C) (by kernel_rfl) rV (fun hHeld => ?_)
      refine take_h 1 ?_ rfl (by kernel_rfl) (by kernel_rfl) (by kernel_rfl) (fun _ _ _ h => h) (Or.inl ⟨by kernel_rfl, ?_⟩) (by assumption) ?_
      rotate_left
      · (intro w hSw; (try dsimp only at hSw); go_simp; try (with_reducible rfl))
      try simp only [Act.put, List.setIfInBounds_toArray, List.set_cons_zero, List.set_cons_succ]
      refine take_h 2 ?_ rfl (by kernel_rfl) (by kernel_rfl) (by kernel_rfl) (fun _ _ _ h => h) (Or.inl ⟨by kernel_rfl, ?_⟩) (by assumption) ?_
      rotate_left
      · (intro w hSw; (try dsimp only at hSw); go_simp; try (with_reducible rfl))
      try simp only [Act.put, List.setIfInBounds_toArray, List.set_cons_zero, List.set_cons_succ]
      refine take_h 3 ?_ rfl (by kernel_rfl) (by kernel_rfl) (by kernel_rfl) (fun _ _ _ h => h) (Or.inl ⟨by kernel_rfl, ?_⟩) (by assumption) ?_
      rotate_left
      · (intro w hSw; (try dsimp only at hSw); go_simp; try (with_reducible rfl))
      try simp only [Act.put, List.setIfInBounds_toArray, List.set_cons_zero, List.set_cons_succ]
      refine take_h 5 _ rfl (by kernel_rfl) (by kernel_rfl) (by kernel_rfl) (fun _ _ _ h => h) (yieldsIf_load_mid (by kernel_rfl) 31 (.tmp 3) rfl w.heap.size 0 rfl C _ (fun w hSw => hSw) ut rfl i2) (by assumption) ?_
      try simp only [Act.put, List.setIfInBounds_toArray, List.set_cons_zero, List.set_cons_succ]
      refine wpAnyH_ready (rs := [0, 6]) (by kernel_rfl) (by simp) (oper_b 0 (.slice (some ⟨(V).heap.size, 0, none⟩) 0 0) ((V).drew.alloc (.cells #[] 31)) rfl (by kernel_rfl) (by go_simp) (World.rangeAt_alloc hHeld _) (fun hHeld2 => ?_) (oper_b 6 (.slice (some ⟨(V).heap.size, 0, none⟩) 1 1) ((V).drew.alloc (.cells C.toArray 31)) rfl (by kernel_rfl) (exec_bslice_pos rfl C HCl.out rfl _) (World.rangeAt_alloc hHeld _) (fun hHeld2 => ?_) AllReadyH.nil))
      · obtain ⟨W0, hW0⟩ : ∃ W0, W0 = (V).drew.alloc (.cells #[] 31) := ⟨_, rfl⟩
        have o0 : OwnC Po.C 33 31 W0 (V).heap.size (.slice (some ⟨(V).heap.size, 0, none⟩) 0 0) 0 [] := by rw [hW0]; exact own_empty_c rowT_po (V).drew (V).heap.size (Nat.le_refl _)
        have b0 : Below (V).heap.size V W0 := by rw [hW0]; exact (below_drewn V).alloc (Nat.le_refl _) _
        have z0 : W0.heap.size = (V).heap.size + 1 := by rw [hW0]; exact size_alloc (V).drew _
        rw [← hW0] at hHeld2 ⊢
        clear hHeld hW0
        obtain ⟨v1, W1, run1, o1, g1, bl1⟩ := put_head_c rowT_po V g off len cap k l HDV.out (by omega) W0 (V).heap.size 22 o0 b0
        have S1 : W1.rangeAt w.heap.size 0 C := rangeAt_below hHeld2 bl1 hVs
        have zz1 := bl1.size
        try simp only [Act.put, List.setIfInBounds_toArray, List.set_cons_zero, List.set_cons_succ]
        refine wpAnyH_ready (rs := [4, 6]) (by kernel_rfl) (by simp) (oper_b 4 v1 W1 rfl (by kernel_rfl) (exec_append1 (.tmp 23) (.tmp 26) 22 22 22 rfl rfl _ _ _ rfl rfl run1) S1 (fun hHeld3 => ?_) (oper_b 6 (.slice (some ⟨W0.heap.size, 0, none⟩) 1 1) (W0.alloc (.cells C.toArray 31)) rfl (by kernel_rfl) (exec_bslice_pos rfl C HCl.out rfl _) (World.rangeAt_alloc hHeld2 _) (fun hHeld3 => ?_) AllReadyH.nil))
        · clear hHeld2 run1
          try simp only [Act.put, List.setIfInBounds_toArray, List.set_cons_zero, List.set_cons_succ]
          refine oper_h 6 (.slice (some ⟨W1.heap.size, 0, none⟩) 1 1) (W1.alloc (.cells C.toArray 31)) rfl (by kernel_rfl) (by kernel_rfl) (exec_bslice_pos rfl C HCl.out rfl _) (World.rangeAt_alloc hHeld3 _) (fun hHeld4 => ?_)
          clear hHeld3
          try simp only [Act.put, List.setIfInBounds_toArray, List.set_cons_zero, List.set_cons_succ]
          obtain ⟨v2, W3, run7, o7, bl7⟩ := put_one_c rowT_po k (l.take k) d Hd.out (by omega) (W1.alloc (.cells C.toArray 31)) (V).heap.size W1.heap.size v1 22 (World.ownsRow.alloc o1 _) (by rw [← HC.out]; exact heap_alloc_new W1 _) (by rw [size_alloc]; omega)
          have bW3 : Below (V).heap.size V W3 := ((b0.trans bl1).alloc (by omega) _).trans bl7
          clear o0 b0 z0 o1 g1 bl1 S1 zz1
          refine oper_h 7 v2 W3 rfl (by kernel_rfl) (by kernel_rfl) (exec_append1 (.tmp 27) (.tmp 29) 22 22 22 rfl rfl _ _ _ rfl rfl run7) (rangeAt_below hHeld4 bl7 hVs) (fun hHeld5 => ?_)
          clear hHeld4
          try simp only [Act.put, List.setIfInBounds_toArray, List.set_cons_zero, List.set_cons_succ]
          refine take_h 8 ?_ rfl (by kernel_rfl) (by kernel_rfl) (by kernel_rfl) (fun _ _ _ h => h) (Or.inl ⟨by kernel_rfl, ?_⟩) (by assumption) ?_
          rotate_left
          · (intro w hSw; (try dsimp only at hSw); go_simp; try (with_reducible rfl))
          try simp only [Act.put, List.setIfInBounds_toArray, List.set_cons_zero, List.set_cons_succ]
          refine wpAnyH_done (by kernel_rfl) ?_ _
          clear hHeld5 rV i2 ut
          have O7 := Seal.mk o7
          have BW := Seal.mk bW3
          clear o7 bW3 bl7 run7
          by_cases hck : cap = k
          · have hck' : ¬ (k : Int) < (cap : Int) := by omega
            obtain ⟨v3, W4, hr9, o9, bl9⟩ := put_rest_c rowT_po V g off len cap k 0 l (l.take k ++ [d]) (k + 1) HDV.out (by omega) W3 v2 22 O7.out (by omega) BW.out ⟨g, off, none⟩ (fun h => by omega)
            have HR9 := Seal.mk hr9
            clear hr9
            go_wp2_with (refine wpList_append_run1 rfl (.tmp 31) (.tmp 34) 22 22 22 rfl rfl v2 (.slice (some ⟨g, off, none⟩) (len - k) 0) v3 rfl rfl HR9.out ?_)
            go_ret
            exact ins_fin o9 HKE.out (by omega) HD.out HLT.out Hd.out HBV.out.size (HBV.out.trans ((BW.out.trans bl9).mono HBV.out.size))
          · have hck' : (k : Int) < (cap : Int) := by omega
            obtain ⟨v3, W4, hr9, o9, bl9⟩ := put_rest_c rowT_po V g off len cap k (cap - k) l (l.take k ++ [d]) (k + 1) HDV.out (by omega) W3 v2 22 O7.out (by omega) BW.out ⟨g, off + k * 33, none⟩ (fun _ => rfl)
            have HR9 := Seal.mk hr9
            clear hr9
            go_wp2_with (refine wpList_append_run1 rfl (.tmp 31) (.tmp 34) 22 22 22 rfl rfl v2 (.slice (some ⟨g, off + k * 33, none⟩) (len - k) (cap - k)) v3 rfl rfl HR9.out ?_)
            go_ret
            exact ins_fin o9 HKE.out (by omega) HD.out HLT.out Hd.out HBV.out.size (HBV.out.trans ((BW.out.trans bl9).mono HBV.out.size))
        · clear hHeld2 run1 o1 g1 bl1 S1 zz1
          try simp only [Act.put, List.setIfInBounds_toArray, List.set_cons_zero, List.set_cons_succ]
          obtain ⟨v1, W1, run1, o1, g1, bl1⟩ := put_head_c rowT_po V g off len cap k l HDV.out (by omega) (W0.alloc (.cells C.toArray 31)) (V).heap.size 22 (World.ownsRow.alloc o0 _) (b0.alloc (by omega) _)
          have hv1 := row_keeps g1 (heap_alloc_new W0 _) (by omega)
          refine oper_h 4 v1 W1 rfl (by kernel_rfl) (by kernel_rfl) (exec_append1 (.tmp 23) (.tmp 26) 22 22 22 rfl rfl _ _ _ rfl rfl run1) (rangeAt_below hHeld3 bl1 hVs) (fun hHeld4 => ?_)
          clear hHeld3 run1
          try simp only [Act.put, List.setIfInBounds_toArray, List.set_cons_zero, List.set_cons_succ]
          have zz1 := bl1.size
          rw [size_alloc] at zz1
          obtain ⟨v2, W3, run7, o7, bl7⟩ := put_one_c rowT_po k (l.take k) d Hd.out (by omega) W1 (V).heap.size W0.heap.size v1 22 o1 (by rw [← HC.out]; exact hv1) (by omega)
          have bW3 : Below (V).heap.size V W3 := ((b0.alloc (by omega) _).trans bl1).trans bl7
          clear o0 b0 z0 o1 g1 bl1 hv1 zz1
          refine oper_h 7 v2 W3 rfl (by kernel_rfl) (by kernel_rfl) (exec_append1 (.tmp 27) (.tmp 29) 22 22 22 rfl rfl _ _ _ rfl rfl run7) (rangeAt_below hHeld4 bl7 hVs) (fun hHeld5 => ?_)
          clear hHeld4
          try simp only [Act.put, List.setIfInBounds_toArray, List.set_cons_zero, List.set_cons_succ]
          refine take_h 8 ?_ rfl (by kernel_rfl) (by kernel_rfl) (by kernel_rfl) (fun _ _ _ h => h) (Or.inl ⟨by kernel_rfl, ?_⟩) (by assumption) ?_
          rotate_left
          · (intro w hSw; (try dsimp only at hSw); go_simp; try (with_reducible rfl))
          try simp only [Act.put, List.setIfInBounds_toArray, List.set_cons_zero, List.set_cons_succ]
          refine wpAnyH_done (by kernel_rfl) ?_ _
          clear hHeld5 rV i2 ut
          have O7 := Seal.mk o7
          have BW := Seal.mk bW3
          clear o7 bW3 bl7 run7
          by_cases hck : cap = k
          · have hck' : ¬ (k : Int) < (cap : Int) := by omega
            obtain ⟨v3, W4, hr9, o9, bl9⟩ := put_rest_c rowT_po V g off len cap k 0 l (l.take k ++ [d]) (k + 1) HDV.out (by omega) W3 v2 22 O7.out (by omega) BW.out ⟨g, off, none⟩ (fun h => by omega)
            have HR9 := Seal.mk hr9
            clear hr9
            go_wp2_with (refine wpList_append_run1 rfl (.tmp 31) (.tmp 34) 22 22 22 rfl rfl v2 (.slice (some ⟨g, off, none⟩) (len - k) 0) v3 rfl rfl HR9.out ?_)
            go_ret
            exact ins_fin o9 HKE.out (by omega) HD.out HLT.out Hd.out HBV.out.size (HBV.out.trans ((BW.out.trans bl9).mono HBV.out.size))
          · have hck' : (k : Int) < (cap : Int) := by omega
            obtain ⟨v3, W4, hr9, o9, bl9⟩ := put_rest_c rowT_po V g off len cap k (cap - k) l (l.take k ++ [d]) (k + 1) HDV.out (by omega) W3 v2 22 O7.out (by omega) BW.out ⟨g, off + k * 33, none⟩ (fun _ => rfl)
            have HR9 := Seal.mk hr9
            clear hr9
            go_wp2_with (refine wpList_append_run1 rfl (.tmp 31) (.tmp 34) 22 22 22 rfl rfl v2 (.slice (some ⟨g, off + k * 33, none⟩) (len - k) (cap - k)) v3 rfl rfl HR9.out ?_)
            go_ret
            exact ins_fin o9 HKE.out (by omega) HD.out HLT.out Hd.out HBV.out.size (HBV.out.trans ((BW.out.trans bl9).mono HBV.out.size))
      · obtain ⟨W6, hW6⟩ : ∃ W6, W6 = (V).drew.alloc (.cells C.toArray 31) := ⟨_, rfl⟩
        have b6 : Below (V).heap.size V W6 := by rw [hW6]; exact (below_drewn V).alloc (Nat.le_refl _) _
        have n6 : W6.heap[(V).heap.size]? = some (.cells C.toArray 31 (0, 0)) := by rw [hW6]; exact heap_alloc_new (V).drew _
        have z6 : W6.heap.size = (V).heap.size + 1 := by rw [hW6]; exact size_alloc (V).drew _
        rw [← hW6] at hHeld2 ⊢
        clear hHeld hW6
        try simp only [Act.put, List.setIfInBounds_toArray, List.set_cons_zero, List.set_cons_succ]
        refine oper_h 0 (.slice (some ⟨W6.heap.size, 0, none⟩) 0 0) (W6.alloc (.cells #[] 31)) rfl (by kernel_rfl) (by kernel_rfl) (by clear z6; go_simp) (World.rangeAt_alloc hHeld2 _) (fun hHeld3 => ?_)
        clear hHeld2
        try simp only [Act.put, List.setIfInBounds_toArray, List.set_cons_zero, List.set_cons_succ]
        have n7 : (W6.alloc (.cells #[] 31)).heap[(V).heap.size]? = some (.cells C.toArray 31 (0, 0)) := by rw [Below.heap_alloc _ _ _ (by omega)]; exact n6
        obtain ⟨v1, W1, run1, o1, g1, bl1⟩ := put_head_c rowT_po V g off len cap k l HDV.out (by omega) (W6.alloc (.cells #[] 31)) W6.heap.size 22 (own_empty_c rowT_po W6 (V).heap.size (by omega)) (b6.alloc (by omega) _)
        have hv1 := row_keeps g1 n7 (by omega)
        refine oper_h 4 v1 W1 rfl (by kernel_rfl) (by kernel_rfl) (exec_append1 (.tmp 23) (.tmp 26) 22 22 22 rfl rfl _ _ _ rfl rfl run1) (rangeAt_below hHeld3 bl1 hVs) (fun hHeld4 => ?_)
        clear hHeld3 run1
        try simp only [Act.put, List.setIfInBounds_toArray, List.set_cons_zero, List.set_cons_succ]
        have zz1 := bl1.size
        rw [size_alloc] at zz1
        obtain ⟨v2, W3, run7, o7, bl7⟩ := put_one_c rowT_po k (l.take k) d Hd.out (by omega) W1 (V).heap.size (V).heap.size v1 22 o1 (by rw [← HC.out]; exact hv1) (by omega)
        have bW3 : Below (V).heap.size V W3 := ((b6.alloc (by omega) _).trans bl1).trans bl7
        clear b6 n6 n7 z6 o1 g1 bl1 hv1 zz1
        refine oper_h 7 v2 W3 rfl (by kernel_rfl) (by kernel_rfl) (exec_append1 (.tmp 27) (.tmp 29) 22 22 22 rfl rfl _ _ _ rfl rfl run7) (rangeAt_below hHeld4 bl7 hVs) (fun hHeld5 => ?_)
        clear hHeld4
        try simp only [Act.put, List.setIfInBounds_toArray, List.set_cons_zero, List.set_cons_succ]
        refine take_h 8 ?_ rfl (by kernel_rfl) (by kernel_rfl) (by kernel_rfl) (fun _ _ _ h => h) (Or.inl ⟨by kernel_rfl, ?_⟩) (by assumption) ?_
        rotate_left
        · (intro w hSw; (try dsimp only at hSw); go_simp; try (with_reducible rfl))
        try simp only [Act.put, List.setIfInBounds_toArray, List.set_cons_zero, List.set_cons_succ]
        refine wpAnyH_done (by kernel_rfl) ?_ _
        clear hHeld5 rV i2 ut
        have O7 := Seal.mk o7
        have BW := Seal.mk bW3
        clear o7 bW3 bl7 run7
        by_cases hck : cap = k
        · have hck' : ¬ (k : Int) < (cap : Int) := by omega
          obtain ⟨v3, W4, hr9, o9, bl9⟩ := put_rest_c rowT_po V g off len cap k 0 l (l.take k ++ [d]) (k + 1) HDV.out (by omega) W3 v2 22 O7.out (by omega) BW.out ⟨g, off, none⟩ (fun h => by omega)
          have HR9 := Seal.mk hr9
          clear hr9
          go_wp2_with (refine wpList_append_run1 rfl (.tmp 31) (.tmp 34) 22 22 22 rfl rfl v2 (.slice (some ⟨g, off, none⟩) (len - k) 0) v3 rfl rfl HR9.out ?_)
          go_ret
          exact ins_fin o9 HKE.out (by omega) HD.out HLT.out Hd.out HBV.out.size (HBV.out.trans ((BW.out.trans bl9).mono HBV.out.size))
        · have hck' : (k : Int) < (cap : Int) := by omega
          obtain ⟨v3, W4, hr9, o9, bl9⟩ := put_rest_c rowT_po V g off len cap k (cap - k) l (l.take k ++ [d]) (k + 1) HDV.out (by omega) W3 v2 22 O7.out (by omega) BW.out ⟨g, off + k * 33, none⟩ (fun _ => rfl)
          have HR9 := Seal.mk hr9
          clear hr9
          go_wp2_with (refine wpList_append_run1 rfl (.tmp 31) (.tmp 34) 22 22 22 rfl rfl v2 (.slice (some ⟨g, off + k * 33, none⟩) (len - k) (cap - k)) v3 rfl rfl HR9.out ?_)
          go_ret
          exact ins_fin o9 HKE.out (by omega) HD.out HLT.out Hd.out HBV.out.size (HBV.out.trans ((BW.out.trans bl9).mono HBV.out.size))

set_option maxHeartbeats 4000000 in
theorem rinsert_none (a : Option Addr) (d : Po) (w : World) (h32 : d.S.length = 32) :
    Calls Tryd.prog 36 #[.slice a 0 0, .agg d.C.toArray] w (RowPost Po.C 33 (fun _ => False) [d] w) := by
  have H32 := Seal.mk h32
  have Hd : Seal (d.C.length = 33) := ⟨Po.C_len h32⟩
  obtain ⟨C, hC⟩ : ∃ C, C = d.C := ⟨_, rfl⟩
  obtain ⟨o, ho⟩ : ∃ o, o = d.o := ⟨_, rfl⟩
  have HO := Seal.mk ho
  have HC := Seal.mk hC
  have HCl : Seal (C.length = 33) := ⟨by rw [hC]; exact Po.C_len h32⟩
  have IC : Seal ((Tryd.prog.info? 31).map (·.size) = some C.length) := ⟨by rw [hC]; exact Po.C_info h32⟩
  obtain ⟨X, hX⟩ : ∃ X : World, X = w.alloc (.cells C.toArray 31) := ⟨_, rfl⟩
  have hXb : Seal (Below w.heap.size w X) := ⟨by rw [hX]; exact below_alloc _ _⟩
  have hXr : Seal (X.rangeAt w.heap.size 0 C) := ⟨by rw [hX]; exact rangeAt_new w _ _ _⟩
  have hXs : Seal (w.heap.size < X.heap.size) := ⟨by rw [hX, size_alloc]; omega⟩
  have hXc : Seal (X.cell? ⟨w.heap.size, 0, none⟩ = some (.int .i64 o)) := ⟨by have := hXr.out 0 (.int .i64 o) (by rw [hC, ho]; rfl); simpa using this⟩
  rw [← hC]
  clear h32 hC ho
  go_enter Tryd.func36, Tryd.ntmps36
  go_wp2
  rw [← hX]
  clear hX
  go_loopw [5] (fun i wr => ∃ k : Nat, k ≤ 0 ∧ i = .int .i64 k ∧ Seal (Below X.heap.size X wr)) (fun i _ => 0 - (intOf i).toNat)
  case atStart => exact ⟨0, by omega, rfl, ⟨Below.refl _ _⟩⟩
  case round =>
    obtain ⟨k, hk, rfl, hH⟩ := hrel
    obtain rfl : k = 0 := by omega
    go_wp2_with fail
    refine wp_region_held_drew (S := fun w' => True) (by kernel_rfl) trivial (fun hHeld => ?_)
    refine take_h 0 ?_ rfl (by kernel_rfl) (by kernel_rfl) (by kernel_rfl) (fun _ _ _ h => h) (Or.inl ⟨by kernel_rfl, ?_⟩) (by assumption) ?_
    rotate_left
    · (intro w hSw; (try dsimp only at hSw); go_simp; try (with_reducible rfl))
    try simp only [Act.put, List.setIfInBounds_toArray, List.set_cons_zero, List.set_cons_succ]
    refine take_h 1 ?_ rfl (by kernel_rfl) (by kernel_rfl) (by kernel_rfl) (fun _ _ _ h => h) (Or.inl ⟨by kernel_rfl, ?_⟩) (by assumption) ?_
    rotate_left
    · (intro w hSw; (try dsimp only at hSw); go_simp; try (with_reducible rfl))
    try simp only [Act.put, List.setIfInBounds_toArray, List.set_cons_zero, List.set_cons_succ]
    refine take_h 2 ?_ rfl (by kernel_rfl) (by kernel_rfl) (by kernel_rfl) (fun _ _ _ h => h) (Or.inl ⟨by kernel_rfl, ?_⟩) (by assumption) ?_
    rotate_left
    · (intro w hSw; (try dsimp only at hSw); go_simp; try (with_reducible rfl))
    try simp only [Act.put, List.setIfInBounds_toArray, List.set_cons_zero, List.set_cons_succ]
    refine take_h 3 ?_ rfl (by kernel_rfl) (by kernel_rfl) (by kernel_rfl) (fun _ _ _ h => h) (Or.inl ⟨by kernel_rfl, ?_⟩) (by assumption) ?_
    rotate_left
    · (intro w hSw; (try dsimp only at hSw); go_simp; try (with_reducible rfl))
    try simp only [Act.put, List.setIfInBounds_toArray, List.set_cons_zero, List.set_cons_succ]
    refine take_h 4 ?_ rfl (by kernel_rfl) (by kernel_rfl) (by kernel_rfl) (fun _ _ _ h => h) (Or.inl ⟨by kernel_rfl, ?_⟩) (by assumption) ?_
    rotate_left
    · (intro w hSw; (try dsimp only at hSw); go_simp; try (with_reducible rfl))
    try simp only [Act.put, List.setIfInBounds_toArray, List.set_cons_zero, List.set_cons_succ]
    refine take_h 5 undef rfl (by kernel_rfl) (by kernel_rfl) (by kernel_rfl) (fun _ _ _ h => h) (Or.inr ⟨by kernel_rfl, rfl⟩) (by assumption) ?_
    try simp only [Act.put, List.setIfInBounds_toArray, List.set_cons_zero, List.set_cons_succ]
    refine take_h 6 undef rfl (by kernel_rfl) (by kernel_rfl) (by kernel_rfl) (fun _ _ _ h => h) (Or.inr ⟨by kernel_rfl, rfl⟩) (by assumption) ?_
    try simp only [Act.put, List.setIfInBounds_toArray, List.set_cons_zero, List.set_cons_succ]
    refine take_h 7 undef rfl (by kernel_rfl) (by kernel_rfl) (by kernel_rfl) (fun _ _ _ h => h) (Or.inr ⟨by kernel_rfl, rfl⟩) (by assumption) ?_
    try simp only [Act.put, List.setIfInBounds_toArray, List.set_cons_zero, List.set_cons_succ]
    refine take_h 8 undef rfl (by kernel_rfl) (by kernel_rfl) (by kernel_rfl) (fun _ _ _ h => h) (Or.inr ⟨by kernel_rfl, rfl⟩) (by assumption) ?_
    try simp only [Act.put, List.setIfInBounds_toArray, List.set_cons_zero, List.set_cons_succ]
    refine take_h 9 undef rfl (by kernel_rfl) (by kernel_rfl) (by kernel_rfl) (fun _ _ _ h => h) (Or.inr ⟨by kernel_rfl, rfl⟩) (by assumption) ?_
    try simp only [Act.put, List.setIfInBounds_toArray, List.set_cons_zero, List.set_cons_succ]
    refine take_h 10 undef rfl (by kernel_rfl) (by kernel_rfl) (by kernel_rfl) (fun _ _ _ h => h) (Or.inr ⟨by kernel_rfl, rfl⟩) (by assumption) ?_
    try simp only [Act.put, List.setIfInBounds_toArray, List.set_cons_zero, List.set_cons_succ]
    refine take_h 11 undef rfl (by kernel_rfl) (by kernel_rfl) (by kernel_rfl) (fun _ _ _ h => h) (Or.inr ⟨by kernel_rfl, rfl⟩) (by assumption) ?_
    try simp only [Act.put, List.setIfInBounds_toArray, List.set_cons_zero, List.set_cons_succ]
    refine take_h 12 undef rfl (by kernel_rfl) (by kernel_rfl) (by kernel_rfl) (fun _ _ _ h => h) (Or.inr ⟨by kernel_rfl, rfl⟩) (by assumption) ?_
    try simp only [Act.put, List.setIfInBounds_toArray, List.set_cons_zero, List.set_cons_succ]
    refine take_h 13 ?_ rfl (by kernel_rfl) (by kernel_rfl) (by kernel_rfl) (fun _ _ _ h => h) (Or.inl ⟨by kernel_rfl, ?_⟩) (by assumption) ?_
    rotate_left
    · (intro w hSw; (try dsimp only at hSw); go_simp; try (with_reducible rfl))
    try simp only [Act.put, List.setIfInBounds_toArray, List.set_cons_zero, List.set_cons_succ]
    refine wpAnyH_done (by kernel_rfl) ?_ _
    have HB1 : Seal (Below X.heap.size X wr.drew) := ⟨hH.out.trans ((below_drewn wr).mono hH.out.size)⟩
    clear hHeld
    obtain ⟨V, hV⟩ : ∃ V, V = wr.drew := ⟨_, rfl⟩
    rw [← hV] at HB1 ⊢
    clear hV
    go_wp2_with fail
    have HBV : Seal (Below w.heap.size w V) := ⟨hXb.out.trans (HB1.out.mono hXb.out.size)⟩
    have rV : (V).rangeAt w.heap.size 0 C := rangeAt_below' hXr.out HB1.out
    have hVs : w.heap.size < (V).heap.size := Nat.lt_of_lt_of_le hXs.out (HB1.out).size
    have i2 := IC.out
    have ut := Tryd.underlying31
    refine wp_region_held_drew (S := fun w' => w'.rangeAt w.heap.size 0 C) (by kernel_rfl) rV (fun hHeld => ?_)
    refine take_h 1 ?_ rfl (by kernel_rfl) (by kernel_rfl) (by kernel_rfl) (fun _ _ _ h => h) (Or.inl ⟨by kernel_rfl, ?_⟩) (by assumption) ?_
    rotate_left
    · (intro w hSw; (try dsimp only at hSw); go_simp; try (with_reducible rfl))
    try simp only [Act.put, List.setIfInBounds_toArray, List.set_cons_zero, List.set_cons_succ]
    refine take_h 2 ?_ rfl (by kernel_rfl) (by kernel_rfl) (by kernel_rfl) (fun _ _ _ h => h) (Or.inl ⟨by kernel_rfl, ?_⟩) (by assumption) ?_
    rotate_left
    · (intro w hSw; (try dsimp only at hSw); go_simp; try (with_reducible rfl))
    try simp only [Act.put, List.setIfInBounds_toArray, List.set_cons_zero, List.set_cons_succ]
    refine take_h 3 ?_ rfl (by kernel_rfl) (by kernel_rfl) (by kernel_rfl) (fun _ _ _ h => h) (Or.inl ⟨by kernel_rfl, ?_⟩) (by assumption) ?_
    rotate_left
    · (intro w hSw; (try dsimp only at hSw); go_simp; try (with_reducible rfl))
    try simp only [Act.put, List.setIfInBounds_toArray, List.set_cons_zero, List.set_cons_succ]
    refine take_h 5 _ rfl (by kernel_rfl) (by kernel_rfl) (by kernel_rfl) (fun _ _ _ h => h) (yieldsIf_load_mid (by kernel_rfl) 31 (.tmp 3) rfl w.heap.size 0 rfl C _ (fun w hSw => hSw) ut rfl i2) (by assumption) ?_
    try simp only [Act.put, List.setIfInBounds_toArray, List.set_cons_zero, List.set_cons_succ]
    refine wpAnyH_ready (rs := [0, 6]) (by kernel_rfl) (by simp) (oper_b 0 (.slice (some ⟨(V).heap.size, 0, none⟩) 0 0) ((V).drew.alloc (.cells #[] 31)) rfl (by kernel_rfl) (by go_simp) (World.rangeAt_alloc hHeld _) (fun hHeld2 => ?_) (oper_b 6 (.slice (some ⟨(V).heap.size, 0, none⟩) 1 1) ((V).drew.alloc (.cells C.toArray 31)) rfl (by kernel_rfl) (exec_bslice_pos rfl C HCl.out rfl _) (World.rangeAt_alloc hHeld _) (fun hHeld2 => ?_) AllReadyH.nil))
    · obtain ⟨W0, hW0⟩ : ∃ W0, W0 = (V).drew.alloc (.cells #[] 31) := ⟨_, rfl⟩
      have o0 : OwnC Po.C 33 31 W0 (V).heap.size (.slice (some ⟨(V).heap.size, 0, none⟩) 0 0) 0 [] := by rw [hW0]; exact own_empty_c rowT_po (V).drew (V).heap.size (Nat.le_refl _)
      have b0 : Below (V).heap.size V W0 := by rw [hW0]; exact (below_drewn V).alloc (Nat.le_refl _) _
      have z0 : W0.heap.size = (V).heap.size + 1 := by rw [hW0]; exact size_alloc (V).drew _
      rw [← hW0] at hHeld2 ⊢
      clear hHeld hW0
      obtain ⟨v1, W1, run1, o1, g1, bl1⟩ := put_head0_c rowT_po a (V).heap.size W0 (V).heap.size 22 o0 (by omega)
      have S1 : W1.rangeAt w.heap.size 0 C := rangeAt_below hHeld2 bl1 hVs
      have zz1 := bl1.size
      try simp only [Act.put, List.setIfInBounds_toArray, List.set_cons_zero, List.set_cons_succ]
      refine wpAnyH_ready (rs := [4, 6]) (by kernel_rfl) (by simp) (oper_b 4 v1 W1 rfl (by kernel_rfl) (exec_append1 (.tmp 23) (.tmp 26) 22 22 22 rfl rfl _ _ _ rfl rfl run1) S1 (fun hHeld3 => ?_) (oper_b 6 (.slice (some ⟨W0.heap.size, 0, none⟩) 1 1) (W0.alloc (.cells C.toArray 31)) rfl (by kernel_rfl) (exec_bslice_pos rfl C HCl.out rfl _) (World.rangeAt_alloc hHeld2 _) (fun hHeld3 => ?_) AllReadyH.nil))
      · clear hHeld2 run1
        try simp only [Act.put, List.setIfInBounds_toArray, List.set_cons_zero, List.set_cons_succ]
        refine oper_h 6 (.slice (some ⟨W1.heap.size, 0, none⟩) 1 1) (W1.alloc (.cells C.toArray 31)) rfl (by kernel_rfl) (by kernel_rfl) (exec_bslice_pos rfl C HCl.out rfl _) (World.rangeAt_alloc hHeld3 _) (fun hHeld4 => ?_)
        clear hHeld3
        try simp only [Act.put, List.setIfInBounds_toArray, List.set_cons_zero, List.set_cons_succ]
        obtain ⟨v2, W3, run7, o7, bl7⟩ := put_one_c rowT_po 0 [] d Hd.out (by omega) (W1.alloc (.cells C.toArray 31)) (V).heap.size W1.heap.size v1 22 (World.ownsRow.alloc o1 _) (by rw [← HC.out]; exact heap_alloc_new W1 _) (by rw [size_alloc]; omega)
        have bW3 : Below (V).heap.size V W3 := ((b0.trans bl1).alloc (by omega) _).trans bl7
        clear o0 b0 z0 o1 g1 bl1 S1 zz1
        refine oper_h 7 v2 W3 rfl (by kernel_rfl) (by kernel_rfl) (exec_append1 (.tmp 27) (.tmp 29) 22 22 22 rfl rfl _ _ _ rfl rfl run7) (rangeAt_below hHeld4 bl7 hVs) (fun hHeld5 => ?_)
        clear hHeld4
        try simp only [Act.put, List.setIfInBounds_toArray, List.set_cons_zero, List.set_cons_succ]
        refine take_h 8 ?_ rfl (by kernel_rfl) (by kernel_rfl) (by kernel_rfl) (fun _ _ _ h => h) (Or.inl ⟨by kernel_rfl, ?_⟩) (by assumption) ?_
        rotate_left
        · (intro w hSw; (try dsimp only at hSw); go_simp; try (with_reducible rfl))
        try simp only [Act.put, List.setIfInBounds_toArray, List.set_cons_zero, List.set_cons_succ]
        refine wpAnyH_done (by kernel_rfl) ?_ _
        clear hHeld5 rV i2 ut
        have O7 := Seal.mk o7
        have BW := Seal.mk bW3
        clear o7 bW3 bl7 run7
        obtain ⟨v3, W4, hr9, o9, bl9⟩ := put_rest0_c rowT_po a (V).heap.size W3 v2 1 [d] 22 O7.out (by decide) BW.out.size
        have HR9 := Seal.mk hr9
        clear hr9
        go_wp2_with (refine wpList_append_run1 rfl (.tmp 31) (.tmp 34) 22 22 22 rfl rfl v2 (.slice a 0 0) v3 rfl rfl HR9.out ?_)
        go_ret
        exact rowPost_of rowT_po o9 (by decide) rfl (fun x hx => by rw [List.mem_singleton.1 hx]; exact Hd.out) (by decide) HBV.out.size (HBV.out.trans ((BW.out.trans bl9).mono HBV.out.size))
      · clear hHeld2 run1 o1 g1 bl1 S1 zz1
        try simp only [Act.put, List.setIfInBounds_toArray, List.set_cons_zero, List.set_cons_succ]
        obtain ⟨v1, W1, run1, o1, g1, bl1⟩ := put_head0_c rowT_po a (V).heap.size (W0.alloc (.cells C.toArray 31)) (V).heap.size 22 (World.ownsRow.alloc o0 _) (by rw [size_alloc]; omega)
        have hv1 := row_keeps g1 (heap_alloc_new W0 _) (by omega)
        refine oper_h 4 v1 W1 rfl (by kernel_rfl) (by kernel_rfl) (exec_append1 (.tmp 23) (.tmp 26) 22 22 22 rfl rfl _ _ _ rfl rfl run1) (rangeAt_below hHeld3 bl1 hVs) (fun hHeld4 => ?_)
        clear hHeld3 run1
        try simp only [Act.put, List.setIfInBounds_toArray, List.set_cons_zero, List.set_cons_succ]
        have zz1 := bl1.size
        rw [size_alloc] at zz1
        obtain ⟨v2, W3, run7, o7, bl7⟩ := put_one_c rowT_po 0 [] d Hd.out (by omega) W1 (V).heap.size W0.heap.size v1 22 o1 (by rw [← HC.out]; exact hv1) (by omega)
        have bW3 : Below (V).heap.size V W3 := ((b0.alloc (by omega) _).trans bl1).trans bl7
        clear o0 b0 z0 o1 g1 bl1 hv1 zz1
        refine oper_h 7 v2 W3 rfl (by kernel_rfl) (by kernel_rfl) (exec_append1 (.tmp 27) (.tmp 29) 22 22 22 rfl rfl _ _ _ rfl rfl run7) (rangeAt_below hHeld4 bl7 hVs) (fun hHeld5 => ?_)
        clear hHeld4
        try simp only [Act.put, List.setIfInBounds_toArray, List.set_cons_zero, List.set_cons_succ]
        refine take_h 8 ?_ rfl (by kernel_rfl) (by kernel_rfl) (by kernel_rfl) (fun _ _ _ h => h) (Or.inl ⟨by kernel_rfl, ?_⟩) (by assumption) ?_
        rotate_left
        · (intro w hSw; (try dsimp only at hSw); go_simp; try (with_reducible rfl))
        try simp only [Act.put, List.setIfInBounds_toArray, List.set_cons_zero, List.set_cons_succ]
        refine wpAnyH_done (by kernel_rfl) ?_ _
        clear hHeld5 rV i2 ut
        have O7 := Seal.mk o7
        have BW := Seal.mk bW3
        clear o7 bW3 bl7 run7
        obtain ⟨v3, W4, hr9, o9, bl9⟩ := put_rest0_c rowT_po a (V).heap.size W3 v2 1 [d] 22 O7.out (by decide) BW.out.size
        have HR9 := Seal.mk hr9
        clear hr9
        go_wp2_with (refine wpList_append_run1 rfl (.tmp 31) (.tmp 34) 22 22 22 rfl rfl v2 (.slice a 0 0) v3 rfl rfl HR9.out ?_)
        go_ret
        exact rowPost_of rowT_po o9 (by decide) rfl (fun x hx => by rw [List.mem_singleton.1 hx]; exact Hd.out) (by decide) HBV.out.size (HBV.out.trans ((BW.out.trans bl9).mono HBV.out.size))
    · obtain ⟨W6, hW6⟩ : ∃ W6, W6 = (V).drew.alloc (.cells C.toArray 31) := ⟨_, rfl⟩
      have b6 : Below (V).heap.size V W6 := by rw [hW6]; exact (below_drewn V).alloc (Nat.le_refl _) _
      have n6 : W6.heap[(V).heap.size]? = some (.cells C.toArray 31 (0, 0)) := by rw [hW6]; exact heap_alloc_new (V).drew _
      have z6 : W6.heap.size = (V).heap.size + 1 := by rw [hW6]; exact size_alloc (V).drew _
      rw [← hW6] at hHeld2 ⊢
      clear hHeld hW6
      try simp only [Act.put, List.setIfInBounds_toArray, List.set_cons_zero, List.set_cons_succ]
      refine oper_h 0 (.slice (some ⟨W6.heap.size, 0, none⟩) 0 0) (W6.alloc (.cells #[] 31)) rfl (by kernel_rfl) (by kernel_rfl) (by clear z6; go_simp) (World.rangeAt_alloc hHeld2 _) (fun hHeld3 => ?_)
      clear hHeld2
      try simp only [Act.put, List.setIfInBounds_toArray, List.set_cons_zero, List.set_cons_succ]
      have n7 : (W6.alloc (.cells #[] 31)).heap[(V).heap.size]? = some (.cells C.toArray 31 (0, 0)) := by rw [Below.heap_alloc _ _ _ (by omega)]; exact n6
      obtain ⟨v1, W1, run1, o1, g1, bl1⟩ := put_head0_c rowT_po a (V).heap.size (W6.alloc (.cells #[] 31)) W6.heap.size 22 (own_empty_c rowT_po W6 (V).heap.size (by omega)) (by rw [size_alloc]; omega)
      have hv1 := row_keeps g1 n7 (by omega)
      refine oper_h 4 v1 W1 rfl (by kernel_rfl) (by kernel_rfl) (exec_append1 (.tmp 23) (.tmp 26) 22 22 22 rfl rfl _ _ _ rfl rfl run1) (rangeAt_below hHeld3 bl1 hVs) (fun hHeld4 => ?_)
      clear hHeld3 run1
      try simp only [Act.put, List.setIfInBounds_toArray, List.set_cons_zero, List.set_cons_succ]
      have zz1 := bl1.size
      rw [size_alloc] at zz1
      obtain ⟨v2, W3, run7, o7, bl7⟩ := put_one_c rowT_po 0 [] d Hd.out (by omega) W1 (V).heap.size (V).heap.size v1 22 o1 (by rw [← HC.out]; exact hv1) (by omega)
      have bW3 : Below (V).heap.size V W3 := ((b6.alloc (by omega) _).trans bl1).trans bl7
      clear b6 n6 n7 z6 o1 g1 bl1 hv1 zz1
      refine oper_h 7 v2 W3 rfl (by kernel_rfl) (by kernel_rfl) (exec_append1 (.tmp 27) (.tmp 29) 22 22 22 rfl rfl _ _ _ rfl rfl run7) (rangeAt_below hHeld4 bl7 hVs) (fun hHeld5 => ?_)
      clear hHeld4
      try simp only [Act.put, List.setIfInBounds_toArray, List.set_cons_zero, List.set_cons_succ]
      refine take_h 8 ?_ rfl (by kernel_rfl) (by kernel_rfl) (by kernel_rfl) (fun _ _ _ h => h) (Or.inl ⟨by kernel_rfl, ?_⟩) (by assumption) ?_
      rotate_left
      · (intro w hSw; (try dsimp only at hSw); go_simp; try (with_reducible rfl))
      try simp only [Act.put, List.setIfInBounds_toArray, List.set_cons_zero, List.set_cons_succ]
      refine wpAnyH_done (by kernel_rfl) ?_ _
      clear hHeld5 rV i2 ut
      have O7 := Seal.mk o7
      have BW := Seal.mk bW3
      clear o7 bW3 bl7 run7
      obtain ⟨v3, W4, hr9, o9, bl9⟩ := put_rest0_c rowT_po a (V).heap.size W3 v2 1 [d] 22 O7.out (by decide) BW.out.size
      have HR9 := Seal.mk hr9
      clear hr9
      go_wp2_with (refine wpList_append_run1 rfl (.tmp 31) (.tmp 34) 22 22 22 rfl rfl v2 (.slice a 0 0) v3 rfl rfl HR9.out ?_)
      go_ret
      exact rowPost_of rowT_po o9 (by decide) rfl (fun x hx => by rw [List.mem_singleton.1 hx]; exact Hd.out) (by decide) HBV.out.size (HBV.out.trans ((BW.out.trans bl9).mono HBV.out.size))

theorem rinsert_any (a : Option Addr) (len cap : Nat) (l : List Po) (d : Po) (w : World) (hd : IsPs w a len cap l) (ha : PlainA a cap) (h32 : d.S.length = 32) (hlen : len < 5000) :
    Calls Tryd.prog 36 #[.slice a len cap, .agg d.C.toArray] w (RowPost Po.C 33 (fun _ => False) (insK Po.o l d) w) := by
  rcases ha with rfl | ⟨g, off, rfl⟩
  · obtain rfl : len = 0 := by have := hd.lcap; omega
    obtain rfl : l = [] := List.eq_nil_of_length_eq_zero hd.llen
    exact rinsert_none a d w h32
  · exact rinsert_some g off len cap l d w hd h32 hlen
end Frk
