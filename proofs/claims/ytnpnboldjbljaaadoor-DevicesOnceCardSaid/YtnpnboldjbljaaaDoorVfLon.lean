/- Law 44: DevicesOnce's walk. -/
import Derived.Test.YtnpnboldjbljaaaDoorVfOla
import Derived.Test.YtnpnboldjbljaaaDoorVfSdv
namespace Frk
open Go Go.RowKit Go.Proofs
set_option maxRecDepth 100000

/-- something that happens: four bytes -/
structure Sp where
  K : Int
  A : Int
  B : Int
  O : Int
def Sp.C (x : Sp) : List Value := [.int .u8 x.K, .int .u8 x.A, .int .u8 x.B, .int .u8 x.O]
structure Sp.ok (x : Sp) : Prop where
  k : 0 ≤ x.K ∧ x.K < 256
  a : 0 ≤ x.A ∧ x.A < 256
  b : 0 ≤ x.B ∧ x.B < 256
  o : 0 ≤ x.O ∧ x.O < 256

theorem allocs_below : ∀ (os : List Obj) (w : World), Below w.heap.size w (os.foldl World.alloc w)
  | [], w => Below.refl _ _
  | o :: os, w => by
    rw [List.foldl_cons]
    have h := allocs_below os (w.alloc o)
    exact (below_alloc w o).trans (h.mono (by rw [size_alloc]; omega))
theorem allocs_get : ∀ (os : List Obj) (w : World) (i : Nat), i < os.length → (os.foldl World.alloc w).heap[w.heap.size + i]? = os[i]?
  | [], w, i, h => by simp at h
  | o :: os, w, 0, _ => by
    rw [List.foldl_cons, Nat.add_zero]
    exact ((allocs_below os (w.alloc o)).block _ (by rw [size_alloc]; omega)).trans (World.alloc_heap_new w o)
  | o :: os, w, i + 1, h => by
    rw [List.foldl_cons]
    have := allocs_get os (w.alloc o) i (by simpa using h)
    rw [size_alloc] at this
    rw [show w.heap.size + (i + 1) = w.heap.size + 1 + i from by omega, this]
    rfl
def onceObjs (N : Nat) : List Obj := [.cells #[.slice none 0 0, .slice none 0 0, .slice none 0 0, .slice none 0 0, .slice none 0 0, .slice none 0 0] 52, .cells #[.slice none 0 0, .slice none 0 0, .slice none 0 0, .slice none 0 0, .slice none 0 0, .slice none 0 0] 52, .cells #[.slice none 0 0] 46, .map #[] 0, .map #[] 0, .map #[] 0, .cells #[.map (some (N + 1 + 1 + 1))] 53, .cells #[.map (some (N + 1 + 1 + 1 + 1))] 54, .cells #[.map (some (N + 1 + 1 + 1 + 1 + 1))] 55]
theorem mapN_zero {w : World} {P : Program} {k : TypeId} {b : Nat} (h : w.heap[b]? = some (.map #[] 0)) : MapN w P k b 0 (fun _ => none) := by
  exact ⟨.map [], ⟨#[], 0, h, ⟨by simp, Go.MapKept.stamped_empty 0, by simp⟩, Nat.le_refl _, rfl⟩, rfl, fun _ _ _ => ⟨fun _ => rfl, rfl⟩⟩
theorem once_start (s : Int) (w : World) : Inv s w w.heap.size (w.heap.size + 1) (w.heap.size + 8) (w.heap.size + 2) (w.heap.size + 6) (w.heap.size + 7) (w.heap.size + 5) (w.heap.size + 3) (w.heap.size + 4) ((onceObjs w.heap.size).foldl World.alloc w) := by
  have g := fun i h => allocs_get (onceObjs w.heap.size) w i h
  have g0 := g 0 (by show 0 < 9; decide)
  have g1 := g 1 (by show 1 < 9; decide)
  have g2 := g 2 (by show 2 < 9; decide)
  have g3 := g 3 (by show 3 < 9; decide)
  have g4 := g 4 (by show 4 < 9; decide)
  have g5 := g 5 (by show 5 < 9; decide)
  have g6 := g 6 (by show 6 < 9; decide)
  have g7 := g 7 (by show 7 < 9; decide)
  have g8 := g 8 (by show 8 < 9; decide)
  refine ⟨[], [Sl.z, Sl.z, Sl.z], [Sl.z, Sl.z, Sl.z], allocs_below _ w, ⟨[], none, 0, 0, _, _, _, Off.nil s, ⟨g8, g2, g6, g7⟩, disD_nil _, mapN_zero g5, SerF.nil s, mapN_zero g3, AccF.nil _, mapN_zero g4, AccF.nil _⟩, ⟨g0, rfl, ?_⟩, ⟨g1, rfl, ?_⟩⟩
  · intro x hx
    simp only [List.mem_cons, List.not_mem_nil, or_false] at hx
    rcases hx with rfl | rfl | rfl <;> exact SlOk.z s _
  · intro x hx
    simp only [List.mem_cons, List.not_mem_nil, or_false] at hx
    rcases hx with rfl | rfl | rfl <;> exact SlOk.z s _

set_option maxHeartbeats 16000000 in
theorem law_devicesOnce (s : Int) (a : Option Addr) (n c : Nat) (l : List Sp) (w : World) (hG : Glob w) (hs : I64 s) (hm : (n : Int) ≤ 9223372036854775807) (hok : ∀ x ∈ l, x.ok) (hd : n ≤ 5000 → IsC Sp.C 4 w a n c l) :
    Calls Tryd.prog 6 #[.int .i64 s, .slice a n c] w fun e w' => e = .returned (.bool true) ∧ Below w.heap.size w w' := by
  have HGl : Seal (∀ W, Below w.heap.size w W → Glob W) := ⟨fun W h => hG.below h⟩
  have HS := Seal.mk hs
  have HOK := Seal.mk hok
  have HSn : Seal (Calls Tryd.prog 9 #[] w fun e w' => e = .returned (.bool true) ∧ Below w.heap.size w w') := ⟨sane44_any w hG⟩
  have HD := Seal.mk hd
  have hmm := @run_makeMap Tryd.prog
  clear hG hs hok hd
  go_enter Tryd.func6, Tryd.ntmps6
  go_wp2_with fail
  refine HSn.out.mono ?_
  clear HSn
  rintro e w1 ⟨rfl, hb⟩
  have HB1 := Seal.mk hb
  clear hb
  by_cases h40 : 40 < n
  · have q1 : (40 : Int) < (n : Int) := by omega
    clear h40
    go_wp2
    go_ret
    exact ⟨rfl, HB1.out⟩
  have q1 : ¬ (40 : Int) < (n : Int) := by omega
  have HL := HD.out (by omega)
  have HLs := Seal.mk HL
  clear HL HD
  go_wp2
  obtain ⟨X, hX⟩ : ∃ X, X = (onceObjs w1.heap.size).foldl World.alloc w1 := ⟨_, rfl⟩
  have HIn : Seal (Inv s w1 w1.heap.size (w1.heap.size + 1) (w1.heap.size + 8) (w1.heap.size + 2) (w1.heap.size + 6) (w1.heap.size + 7) (w1.heap.size + 5) (w1.heap.size + 3) (w1.heap.size + 4) X) := ⟨by rw [hX]; exact once_start s w1⟩
  unfold onceObjs at hX
  simp only [List.foldl_cons, List.foldl_nil] at hX
  rw [← hX]
  clear hX hmm
  obtain ⟨N, hN⟩ : ∃ N, N = w1.heap.size := ⟨_, rfl⟩
  rw [← hN] at HIn ⊢
  obtain ⟨S, hS⟩ : ∃ S, S = N + 1 := ⟨_, rfl⟩
  rw [← hS] at HIn ⊢
  obtain ⟨c7, h7⟩ : ∃ z, z = S + 1 := ⟨_, rfl⟩
  rw [← h7]
  obtain ⟨m8, h8⟩ : ∃ z, z = c7 + 1 := ⟨_, rfl⟩
  rw [← h8]
  obtain ⟨m9, h9⟩ : ∃ z, z = m8 + 1 := ⟨_, rfl⟩
  rw [← h9]
  obtain ⟨m10, h10⟩ : ∃ z, z = m9 + 1 := ⟨_, rfl⟩
  rw [← h10]
  obtain ⟨c8, e8⟩ : ∃ z, z = m10 + 1 := ⟨_, rfl⟩
  rw [← e8]
  obtain ⟨c9, e9⟩ : ∃ z, z = c8 + 1 := ⟨_, rfl⟩
  rw [← e9]
  obtain ⟨c10, e10⟩ : ∃ z, z = c9 + 1 := ⟨_, rfl⟩
  rw [← e10]
  rw [show N + 8 = c10 from by omega, show N + 2 = c7 from by omega, show N + 6 = c8 from by omega, show N + 7 = c9 from by omega, show N + 5 = m10 from by omega, show N + 3 = m8 from by omega, show N + 4 = m9 from by omega] at HIn
  have HNm : Seal (Nm w1 N S c10 c7 c8 c9 m10 m8 m9) := ⟨⟨by omega, by omega, by omega, by omega, by omega, by omega, by omega, by omega, by omega⟩⟩
  clear hN hS h7 h8 h9 h10 e8 e9 e10
  have HLn := HLs.out.llen
  have hn40 : n ≤ 40 := by omega
  go_loopw [38] (fun i wr => ∃ k : Nat, k ≤ n ∧ i = .int .i64 k ∧ Seal (Inv s w1 N S c10 c7 c8 c9 m10 m8 m9 wr)) (fun i _ => n - (intOf i).toNat)
  case atStart => exact ⟨0, by omega, rfl, HIn⟩
  case round =>
    obtain ⟨wo, rfl⟩ : ∃ z, z = wr := ⟨_, rfl⟩
    obtain ⟨k, hk, rfl, hI⟩ := hrel
    clear HIn
    by_cases hlt : k < n
    · have HLo : Seal (IsC Sp.C 4 wo a n c l) := ⟨by
        obtain ⟨_, _, _, hb, _⟩ := hI.out
        exact HLs.out.below (HB1.out.trans (hb.mono HB1.out.size))⟩
      rcases HLo.out.at_ with hz | ⟨gl, ol, rfl, hr, hg⟩
      · omega
      obtain ⟨x, hx⟩ : ∃ x, l[k]? = some x := ⟨_, List.getElem?_eq_getElem (by omega)⟩
      have rX := rangeC_row hr HLo.out.each hx
      have hxo := HOK.out x (List.mem_of_getElem? hx)
      have q5 : (k : Int) < (n : Int) := by omega
      have q6 : (0 : Int) ≤ (k : Int) := by omega
      clear hr hg hx
      obtain ⟨xK, xA, xB, xO⟩ := x
      obtain ⟨hK, hA, hB, hO⟩ := hxo
      obtain ⟨q, hq7, eK⟩ : ∃ q : Nat, q < 7 ∧ xK.tmod 7 = (q : Int) := ⟨(xK.tmod 7).toNat, by have h1 : 0 ≤ xK.tmod 7 := Int.tmod_nonneg _ hK.1; have h2 : xK.tmod 7 < 7 := Int.tmod_lt_of_pos _ (by decide); omega, by have h1 : 0 ≤ xK.tmod 7 := Int.tmod_nonneg _ hK.1; omega⟩
      obtain ⟨ia, ha3, eA⟩ : ∃ q : Nat, q < 3 ∧ xA.tmod 3 = (q : Int) := ⟨(xA.tmod 3).toNat, by have h1 : 0 ≤ xA.tmod 3 := Int.tmod_nonneg _ hA.1; have h2 : xA.tmod 3 < 3 := Int.tmod_lt_of_pos _ (by decide); omega, by have h1 : 0 ≤ xA.tmod 3 := Int.tmod_nonneg _ hA.1; omega⟩
      obtain ⟨ib, hb3, eB⟩ : ∃ q : Nat, q < 3 ∧ xB.tmod 3 = (q : Int) := ⟨(xB.tmod 3).toNat, by have h1 : 0 ≤ xB.tmod 3 := Int.tmod_nonneg _ hB.1; have h2 : xB.tmod 3 < 3 := Int.tmod_lt_of_pos _ (by decide); omega, by have h1 : 0 ≤ xB.tmod 3 := Int.tmod_nonneg _ hB.1; omega⟩
      obtain ⟨io, ho8, eO⟩ : ∃ q : Nat, q < 8 ∧ xO.tmod 8 = (q : Int) := ⟨(xO.tmod 8).toNat, by have h1 : 0 ≤ xO.tmod 8 := Int.tmod_nonneg _ hO.1; have h2 : xO.tmod 8 < 8 := Int.tmod_lt_of_pos _ (by decide); omega, by have h1 : 0 ≤ xO.tmod 8 := Int.tmod_nonneg _ hO.1; omega⟩
      obtain ⟨hK0, hK1⟩ := hK
      obtain ⟨hA0, hA1⟩ := hA
      obtain ⟨hB0, hB1⟩ := hB
      obtain ⟨hO0, hO1⟩ := hO
      have iSt : (Tryd.prog.info? 59).map (·.size) = some (Sp.C ⟨xK, xA, xB, xO⟩).length := by kernel_rfl
      obtain ⟨gd, hgd⟩ : ∃ g, g = wo.heap.size := ⟨_, rfl⟩
      obtain ⟨Z, hZ⟩ : ∃ Z, Z = wo.alloc (.cells #[.int .u8 xK, .int .u8 xA, .int .u8 xB, .int .u8 xO] 59) := ⟨_, rfl⟩
      have hbz : Below wo.heap.size wo Z := by rw [hZ]; exact below_alloc _ _
      have HI : Seal (Inv s w1 N S c10 c7 c8 c9 m10 m8 m9 Z) := ⟨hI.out.below hbz⟩
      have KD : Seal (Kp Z (fun W => W.rangeAt gd 0 (Sp.C ⟨xK, xA, xB, xO⟩))) := ⟨by rw [hZ, hgd]; exact kp_range (rangeAt_row (cs := Sp.C ⟨xK, xA, xB, xO⟩) (heap_alloc_new wo _))⟩
      have uSt := Tryd.underlying59
      have HGd : Seal (N < gd ∧ S < gd) := ⟨by
        obtain ⟨_, _, _, _, _, h1, h2⟩ := hI.out
        rw [hgd]
        exact ⟨(Array.getElem?_eq_some_iff.1 h1.1).1, (Array.getElem?_eq_some_iff.1 h2.1).1⟩⟩
      clear hbz hI
      go_wp2_with (first
        | (refine wpList_load_mid rfl 59 (.tmp 40) rfl gl (ol + k * 4) rfl [.int .u8 xK, .int .u8 xA, .int .u8 xB, .int .u8 xO] _ rX uSt rfl iSt ?_))
      rw [← hZ, ← hgd]
      clear hZ hgd rX HLo
      have u0 : Z.cell? ⟨gd, 0, none⟩ = some (.int .u8 xK) := by have := KD.out.at 0 (.int .u8 xK) rfl; simpa using this
      have u1 : Z.cell? ⟨gd, 1, none⟩ = some (.int .u8 xA) := by have := KD.out.at 1 (.int .u8 xA) rfl; simpa using this
      have u2 : Z.cell? ⟨gd, 2, none⟩ = some (.int .u8 xB) := by have := KD.out.at 2 (.int .u8 xB) rfl; simpa using this
      have u3 : Z.cell? ⟨gd, 3, none⟩ = some (.int .u8 xO) := by have := KD.out.at 3 (.int .u8 xO) rfl; simpa using this
      have zA : (0 : Int) ≤ (ia : Int) := by omega
      have zB : (0 : Int) ≤ (ib : Int) := by omega
      have zO : (0 : Int) ≤ (io : Int) := by omega
      have wA : IntKind.i64.wrap (ia : Int) = (ia : Int) := IntWalk.i64_in _ (by omega)
      have wB : IntKind.i64.wrap (ib : Int) = (ib : Int) := IntWalk.i64_in _ (by omega)
      have wO : IntKind.i64.wrap (io : Int) = (io : Int) := IntWalk.i64_in _ (by omega)
      refine wp_region_held_drew (S := fun w' => w'.cell? ⟨gd, 0, none⟩ = some (.int .u8 xK) ∧ w'.cell? ⟨gd, 1, none⟩ = some (.int .u8 xA) ∧ w'.cell? ⟨gd, 2, none⟩ = some (.int .u8 xB) ∧ w'.cell? ⟨gd, 3, none⟩ = some (.int .u8 xO)) (by kernel_rfl) ⟨u0, u1, u2, u3⟩ (fun hHeld => ?_)
      obtain ⟨Z1, hZ1⟩ : ∃ Z1, Z1 = Z.drew := ⟨_, rfl⟩
      have HI : Seal (Inv s w1 N S c10 c7 c8 c9 m10 m8 m9 Z1) := ⟨by rw [hZ1]; exact HI.out.below (bel_drew _)⟩
      have KD : Seal (Kp Z1 (fun W => W.rangeAt gd 0 (Sp.C ⟨xK, xA, xB, xO⟩))) := ⟨by rw [hZ1]; exact KD.out.step (bel_drew _)⟩
      rw [← hZ1] at hHeld ⊢
      clear hZ1 u0 u1 u2 u3
      refine take_h 0 ?_ rfl (by kernel_rfl) (by kernel_rfl) (by kernel_rfl) (fun _ _ _ h => h) (Or.inl ⟨by kernel_rfl, ?_⟩) (by assumption) ?_
      rotate_left
      · (intro w hSw; (try dsimp only at hSw); go_simp; try (with_reducible rfl))
      try simp only [Act.put, List.setIfInBounds_toArray, List.set_cons_zero, List.set_cons_succ]
      refine take_h 1 ?_ rfl (by kernel_rfl) (by kernel_rfl) (by kernel_rfl) (fun _ _ _ h => h) (Or.inl ⟨by kernel_rfl, ?_⟩) (by assumption) ?_
      rotate_left
      · (intro w hSw; (try dsimp only at hSw); go_simp; try (with_reducible rfl))
      try simp only [Act.put, List.setIfInBounds_toArray, List.set_cons_zero, List.set_cons_succ]
      refine take_h 2 ?_ rfl (by kernel_rfl) (by kernel_rfl) (by kernel_rfl) (fun _ _ _ h => h) (Or.inl ⟨by kernel_rfl, ?_⟩) (by assumption) ?_
      rotate_left
      · (intro w hSw; (try dsimp only at hSw); go_simp; try (with_reducible rfl))
      try simp only [Act.put, List.setIfInBounds_toArray, List.set_cons_zero, List.set_cons_succ]
      refine take_h 3 ?_ rfl (by kernel_rfl) (by kernel_rfl) (by kernel_rfl) (fun _ _ _ h => h) (Or.inl ⟨by kernel_rfl, ?_⟩) (by assumption) ?_
      rotate_left
      · (intro w hSw; (try dsimp only at hSw); go_simp; try (with_reducible rfl))
      try simp only [Act.put, List.setIfInBounds_toArray, List.set_cons_zero, List.set_cons_succ]
      refine take_h 4 ?_ rfl (by kernel_rfl) (by kernel_rfl) (by kernel_rfl) (fun _ _ _ h => h) (Or.inl ⟨by kernel_rfl, ?_⟩) (by assumption) ?_
      rotate_left
      · (intro w hSw; (try dsimp only at hSw); go_simp; try (with_reducible rfl))
      try simp only [Act.put, List.setIfInBounds_toArray, List.set_cons_zero, List.set_cons_succ]
      refine take_h 5 ?_ rfl (by kernel_rfl) (by kernel_rfl) (by kernel_rfl) (fun _ _ _ h => h) (Or.inl ⟨by kernel_rfl, ?_⟩) (by assumption) ?_
      rotate_left
      · (intro w hSw; (try dsimp only at hSw); go_simp; try (with_reducible rfl))
      try simp only [Act.put, List.setIfInBounds_toArray, List.set_cons_zero, List.set_cons_succ]
      refine take_h 6 ?_ rfl (by kernel_rfl) (by kernel_rfl) (by kernel_rfl) (fun _ _ _ h => h) (Or.inl ⟨by kernel_rfl, ?_⟩) (by assumption) ?_
      rotate_left
      · (intro w hSw; (try dsimp only at hSw); go_simp; try (with_reducible rfl))
      try simp only [Act.put, List.setIfInBounds_toArray, List.set_cons_zero, List.set_cons_succ]
      refine take_h 7 ?_ rfl (by kernel_rfl) (by kernel_rfl) (by kernel_rfl) (fun _ _ _ h => h) (Or.inl ⟨by kernel_rfl, ?_⟩) (by assumption) ?_
      rotate_left
      · (intro w hSw; (try dsimp only at hSw); go_simp; try (with_reducible rfl))
      try simp only [Act.put, List.setIfInBounds_toArray, List.set_cons_zero, List.set_cons_succ]
      refine take_h 8 ?_ rfl (by kernel_rfl) (by kernel_rfl) (by kernel_rfl) (fun _ _ _ h => h) (Or.inl ⟨by kernel_rfl, ?_⟩) (by assumption) ?_
      rotate_left
      · (intro w hSw; (try dsimp only at hSw); go_simp; try (with_reducible rfl))
      try simp only [Act.put, List.setIfInBounds_toArray, List.set_cons_zero, List.set_cons_succ]
      refine take_h 9 ?_ rfl (by kernel_rfl) (by kernel_rfl) (by kernel_rfl) (fun _ _ _ h => h) (Or.inl ⟨by kernel_rfl, ?_⟩) (by assumption) ?_
      rotate_left
      · (intro w hSw; (try dsimp only at hSw); go_simp; try (with_reducible rfl))
      try simp only [Act.put, List.setIfInBounds_toArray, List.set_cons_zero, List.set_cons_succ]
      refine take_h 10 ?_ rfl (by kernel_rfl) (by kernel_rfl) (by kernel_rfl) (fun _ _ _ h => h) (Or.inl ⟨by kernel_rfl, ?_⟩) (by assumption) ?_
      rotate_left
      · (intro w hSw; (try dsimp only at hSw); go_simp; try (with_reducible rfl))
      try simp only [Act.put, List.setIfInBounds_toArray, List.set_cons_zero, List.set_cons_succ]
      refine take_h 11 ?_ rfl (by kernel_rfl) (by kernel_rfl) (by kernel_rfl) (fun _ _ _ h => h) (Or.inl ⟨by kernel_rfl, ?_⟩) (by assumption) ?_
      rotate_left
      · (intro w hSw; (try dsimp only at hSw); go_simp; try (with_reducible rfl))
      try simp only [Act.put, List.setIfInBounds_toArray, List.set_cons_zero, List.set_cons_succ]
      refine take_h 12 ?_ rfl (by kernel_rfl) (by kernel_rfl) (by kernel_rfl) (fun _ _ _ h => h) (Or.inl ⟨by kernel_rfl, ?_⟩) (by assumption) ?_
      rotate_left
      · (intro w hSw; (try dsimp only at hSw); go_simp; try (with_reducible rfl))
      try simp only [Act.put, List.setIfInBounds_toArray, List.set_cons_zero, List.set_cons_succ]
      refine take_h 13 ?_ rfl (by kernel_rfl) (by kernel_rfl) (by kernel_rfl) (fun _ _ _ h => h) (Or.inl ⟨by kernel_rfl, ?_⟩) (by assumption) ?_
      rotate_left
      · (intro w hSw; (try dsimp only at hSw); go_simp; try (with_reducible rfl))
      try simp only [Act.put, List.setIfInBounds_toArray, List.set_cons_zero, List.set_cons_succ]
      refine take_h 14 ?_ rfl (by kernel_rfl) (by kernel_rfl) (by kernel_rfl) (fun _ _ _ h => h) (Or.inl ⟨by kernel_rfl, ?_⟩) (by assumption) ?_
      rotate_left
      · (intro w hSw; (try dsimp only at hSw); go_simp; try (with_reducible rfl))
      try simp only [Act.put, List.setIfInBounds_toArray, List.set_cons_zero, List.set_cons_succ]
      refine wpAnyH_done (by kernel_rfl) ?_ _
      obtain ⟨u0, u1, u2, u3⟩ := hHeld
      have wK : (0 : Int) ≤ (q : Int) := by omega
      rcases (show q = 0 ∨ q = 1 ∨ q = 2 ∨ q = 3 ∨ q = 4 ∨ q = 5 ∨ q = 6 by omega) with rfl | rfl | rfl | rfl | rfl | rfl | rfl
      · skip
        have eK : xK.tmod 7 = 0 := eK
        clear wK hq7
        obtain ⟨gs, A, E, hbw, hOf, hA, hE⟩ := HI.out
        obtain ⟨⟨ypa, ypn, ypc, yga, ygn, ygc, yD⟩, hyy, ry, oky⟩ := hA.at ha3
        have KOy : Seal (IsPs Z1 ypa ypn ypc yD.P ∧ IsIs Z1 yga ygn ygc yD.G ∧ Gd s yD) := ⟨oky⟩
        have ry : Z1.rangeAt N (ia * 2) [.slice ypa ypn ypc, .slice yga ygn ygc] := ry
        clear hyy oky
        have ud := Tryd.underlying25
        have ut := Tryd.underlying31
        have HBz : Seal (Below w.heap.size w Z1) := ⟨HB1.out.trans (hbw.mono HB1.out.size)⟩
        have hOf0 : Seal (∀ {k : Nat}, Tx c7 m10 m8 m9 k → k < Z1.heap.size) := ⟨fun h => hOf.tx_lt h⟩
        clear hOf hA hE hbw
        have r1 : (ia : Int) < 3 := by omega
        have HIo : Seal (I64 (io : Nat)) := ⟨by unfold I64; omega⟩
        obtain ⟨RD, hRD⟩ : ∃ z, z = postD yD s (io : Nat) := ⟨_, rfl⟩
        obtain ⟨er, her⟩ : ∃ e, e = postE yD (io : Nat) := ⟨_, rfl⟩
        obtain ⟨p, hp⟩ : ∃ p, p = postP yD s (io : Nat) := ⟨_, rfl⟩
        obtain ⟨C, hC⟩ : ∃ C, C = p.C := ⟨_, rfl⟩
        have L32 : p.S.length = 32 := by rw [hp]; exact postP_len _ _ _
        have IC : Seal ((Tryd.prog.info? 31).map (·.size) = some C.length ∧ ((List.toArray (.int .i64 0 :: .int .u8 0 :: .int .u8 0 :: .int .u8 0 :: .int .u8 0 :: .int .u8 0 :: .int .u8 0 :: .int .u8 0 :: .int .u8 0 :: .int .u8 0 :: .int .u8 0 :: .int .u8 0 :: .int .u8 0 :: .int .u8 0 :: .int .u8 0 :: .int .u8 0 :: .int .u8 0 :: .int .u8 0 :: .int .u8 0 :: .int .u8 0 :: .int .u8 0 :: .int .u8 0 :: .int .u8 0 :: .int .u8 0 :: .int .u8 0 :: .int .u8 0 :: .int .u8 0 :: .int .u8 0 :: .int .u8 0 :: .int .u8 0 :: .int .u8 0 :: .int .u8 0 :: .int .u8 0 :: [] : List Value) : Array Value) : Array Value).size = C.toArray.size ∧ C.toArray.all (·.oneCell') = true) := ⟨by rw [hC]; exact ⟨Po.C_info L32, by rw [posz_len, List.size_toArray, Po.C_len L32], all_oneCell_toArray (Po.C_one _)⟩⟩
        have HG3 := KOy.out.2.2.post (o := (io : Nat)) (by omega) (by omega)
        rw [← hRD, ← her, ← hp] at HG3
        have HCl : Seal (Calls Tryd.prog 11 #[.agg #[.slice ypa ypn ypc, .slice yga ygn ygc], .int .i64 s, .int .i64 (io : Nat)] Z1 (PostC RD C er Z1)) := ⟨by
          have h := dpost_any ypa yga ypn ypc ygn ygc yD s (io : Nat) Z1 (HGl.out _ HBz.out) HS.out HIo.out KOy.out.1 KOy.out.2.2.p32 KOy.out.2.1
          rw [← hRD, ← her, ← hp] at h
          exact post_c h hC⟩
        have HCC := Seal.mk hC
        clear hRD her hp hC L32
        rcases HG3 with ⟨he, _, _⟩ | ⟨he, hgd2', hpp⟩
        · subst he
          go_wp2_with (first
            | (refine wpList_load_mid rfl 25 (.tmp 62) rfl N (ia * 2) rfl [.slice ypa ypn ypc, .slice yga ygn ygc] _ ry ud rfl dev_info ?_))
          refine HCl.out.mono ?_
          clear HCl
          rintro e w3 ⟨pa3, pn3, pc3, ga3, gn3, gc3, rfl, hd, hb⟩
          obtain ⟨N1, N2, N3, N4, N5⟩ := two_new w3 #[.slice pa3 pn3 pc3, .slice ga3 gn3 gc3] C
          obtain ⟨Z2, hZ2⟩ : ∃ Z, Z = (((w3.alloc (.cells #[.slice none 0 0, .slice none 0 0] 25)).alloc (.cells (List.toArray (.int .i64 0 :: .int .u8 0 :: .int .u8 0 :: .int .u8 0 :: .int .u8 0 :: .int .u8 0 :: .int .u8 0 :: .int .u8 0 :: .int .u8 0 :: .int .u8 0 :: .int .u8 0 :: .int .u8 0 :: .int .u8 0 :: .int .u8 0 :: .int .u8 0 :: .int .u8 0 :: .int .u8 0 :: .int .u8 0 :: .int .u8 0 :: .int .u8 0 :: .int .u8 0 :: .int .u8 0 :: .int .u8 0 :: .int .u8 0 :: .int .u8 0 :: .int .u8 0 :: .int .u8 0 :: .int .u8 0 :: .int .u8 0 :: .int .u8 0 :: .int .u8 0 :: .int .u8 0 :: .int .u8 0 :: [] : List Value) : Array Value) 31)).setRow w3.heap.size #[.slice pa3 pn3 pc3, .slice ga3 gn3 gc3]).setRow (w3.heap.size + 1) C.toArray := ⟨_, rfl⟩
          rw [← hZ2] at N3 N4 N5
          have HI2 : Seal (Inv s w1 N S c10 c7 c8 c9 m10 m8 m9 Z2) := ⟨(HI.out.below hb).below N5⟩
          have KD2 := Seal.mk ((KD.out.step hb).step N5)
          have HZ2 := Seal.mk hZ2
          obtain ⟨g3, hg3⟩ : ∃ g, g = w3.heap.size := ⟨_, rfl⟩
          have HG3 : Seal (Z1.heap.size ≤ g3 ∧ g3 + 1 < Z2.heap.size) := ⟨by rw [hg3]; exact ⟨hb.size, (Array.getElem?_eq_some_iff.1 N4).1⟩⟩
          have hg3' := hg3.symm
          have Z1' := Seal.mk N1
          have Z2' := Seal.mk N2
          rw [hg3'] at N3 N4 Z1' Z2' HZ2
          have r2 : Z2.rangeAt g3 0 [.slice pa3 pn3 pc3, .slice ga3 gn3 gc3] := rangeAt_row (cs := [.slice pa3 pn3 pc3, .slice ga3 gn3 gc3]) N3
          have HP2 : Seal (IsPs Z2 pa3 pn3 pc3 RD.P ∧ IsIs Z2 ga3 gn3 gc3 RD.G) := ⟨hd.out.1.below N5, hd.out.2.2.below N5⟩
          have PC2 : Seal (Z2.heap[g3 + 1]? = some (.cells C.toArray 31 (0, 0))) := ⟨N4⟩
          clear N1 N2 N3 N4 N5 hZ2 hd hb hg3
          go_wp2_with (first
            | ((try rw [hg3']); refine wpList_store_row rfl 25 (.tmp 17) (.tmp 67) rfl g3 #[.slice pa3 pn3 pc3, .slice ga3 gn3 gc3] rfl rfl 25 _ Z1'.out dev_info rfl (by simp [Value.oneCell']) ?_)
            | (refine wpList_store_row rfl 31 (.tmp 18) (.tmp 68) rfl (g3 + 1) C.toArray rfl rfl 31 (List.toArray (.int .i64 0 :: .int .u8 0 :: .int .u8 0 :: .int .u8 0 :: .int .u8 0 :: .int .u8 0 :: .int .u8 0 :: .int .u8 0 :: .int .u8 0 :: .int .u8 0 :: .int .u8 0 :: .int .u8 0 :: .int .u8 0 :: .int .u8 0 :: .int .u8 0 :: .int .u8 0 :: .int .u8 0 :: .int .u8 0 :: .int .u8 0 :: .int .u8 0 :: .int .u8 0 :: .int .u8 0 :: .int .u8 0 :: .int .u8 0 :: .int .u8 0 :: .int .u8 0 :: .int .u8 0 :: .int .u8 0 :: .int .u8 0 :: .int .u8 0 :: .int .u8 0 :: .int .u8 0 :: .int .u8 0 :: [] : List Value) : Array Value) Z2'.out (by simpa using IC.out.1) IC.out.2.1 IC.out.2.2 ?_; rw [← HZ2.out]; clear HZ2 Z1' Z2'; (try simp only [Act.put])))
          go_roundw
          case rel => exact ⟨k + 1, by omega, by go_num, HI2⟩
          case measure => simp [intOf]; omega
        · subst he
          have hgd2 := Seal.mk hgd2'
          obtain ⟨T, hT⟩ : ∃ T, T = serB s (io : Nat) := ⟨_, rfl⟩
          have LT : Seal (T.length = 32) := ⟨by rw [hT]; exact serB_len _ _⟩
          have HCp : Seal (C = Po.C ⟨(io : Nat), serB s (io : Nat)⟩ ∧ T = serB s (io : Nat)) := ⟨by rw [HCC.out, hpp], hT⟩
          have HSe : Seal (∀ V, Below w.heap.size w V → Calls Tryd.prog 16 #[.int .i64 s, .int .i64 (io : Nat)] V fun e w' => e = .returned (.agg (T.map B).toArray) ∧ Below V.heap.size V w') := ⟨fun V h => by rw [hT]; exact dserial_any s (io : Nat) V (HGl.out _ h) HS.out HIo.out⟩
          clear hgd2' hpp hT
          go_wp2_with (first
            | (refine wpList_load_mid rfl 25 (.tmp 62) rfl N (ia * 2) rfl [.slice ypa ypn ypc, .slice yga ygn ygc] _ ry ud rfl dev_info ?_))
          refine HCl.out.mono ?_
          clear HCl
          rintro e w3 ⟨pa3, pn3, pc3, ga3, gn3, gc3, rfl, hd, hb⟩
          obtain ⟨N1, N2, N3, N4, N5⟩ := two_new w3 #[.slice pa3 pn3 pc3, .slice ga3 gn3 gc3] C
          obtain ⟨Z2, hZ2⟩ : ∃ Z, Z = (((w3.alloc (.cells #[.slice none 0 0, .slice none 0 0] 25)).alloc (.cells (List.toArray (.int .i64 0 :: .int .u8 0 :: .int .u8 0 :: .int .u8 0 :: .int .u8 0 :: .int .u8 0 :: .int .u8 0 :: .int .u8 0 :: .int .u8 0 :: .int .u8 0 :: .int .u8 0 :: .int .u8 0 :: .int .u8 0 :: .int .u8 0 :: .int .u8 0 :: .int .u8 0 :: .int .u8 0 :: .int .u8 0 :: .int .u8 0 :: .int .u8 0 :: .int .u8 0 :: .int .u8 0 :: .int .u8 0 :: .int .u8 0 :: .int .u8 0 :: .int .u8 0 :: .int .u8 0 :: .int .u8 0 :: .int .u8 0 :: .int .u8 0 :: .int .u8 0 :: .int .u8 0 :: .int .u8 0 :: [] : List Value) : Array Value) 31)).setRow w3.heap.size #[.slice pa3 pn3 pc3, .slice ga3 gn3 gc3]).setRow (w3.heap.size + 1) C.toArray := ⟨_, rfl⟩
          rw [← hZ2] at N3 N4 N5
          have HI2 : Seal (Inv s w1 N S c10 c7 c8 c9 m10 m8 m9 Z2) := ⟨(HI.out.below hb).below N5⟩
          have KD2 := Seal.mk ((KD.out.step hb).step N5)
          have HZ2 := Seal.mk hZ2
          obtain ⟨g3, hg3⟩ : ∃ g, g = w3.heap.size := ⟨_, rfl⟩
          have HG3 : Seal (Z1.heap.size ≤ g3 ∧ g3 + 1 < Z2.heap.size) := ⟨by rw [hg3]; exact ⟨hb.size, (Array.getElem?_eq_some_iff.1 N4).1⟩⟩
          have hg3' := hg3.symm
          have Z1' := Seal.mk N1
          have Z2' := Seal.mk N2
          rw [hg3'] at N3 N4 Z1' Z2' HZ2
          have r2 : Z2.rangeAt g3 0 [.slice pa3 pn3 pc3, .slice ga3 gn3 gc3] := rangeAt_row (cs := [.slice pa3 pn3 pc3, .slice ga3 gn3 gc3]) N3
          have HP2 : Seal (IsPs Z2 pa3 pn3 pc3 RD.P ∧ IsIs Z2 ga3 gn3 gc3 RD.G) := ⟨hd.out.1.below N5, hd.out.2.2.below N5⟩
          have PC2 : Seal (Z2.heap[g3 + 1]? = some (.cells C.toArray 31 (0, 0))) := ⟨N4⟩
          clear N1 N2 N3 N4 N5 hZ2 hd hb hg3
          have hPC : Z2.rangeAt (g3 + 1) 0 C := rangeAt_row PC2.out
          have o3 : Z2.cell? ⟨g3 + 1, 0, none⟩ = some (.int .i64 (io : Nat)) := by rw [HCp.out.1] at hPC; have := hPC 0 (.int .i64 (io : Nat)) rfl; simpa using this
          clear hPC
          obtain ⟨gs, A, E, hbw, hOf, hA, hE⟩ := HI2.out
          have hRow := hA.1
          have HFL : Seal (ia * 2 + ([.slice pa3 pn3 pc3, .slice ga3 gn3 gc3] : List Value).length ≤ (A.flatMap Sl.C).length) := ⟨by rw [flat_len hA.2.1]; show ia * 2 + 2 ≤ 6; omega⟩
          have HPut : Seal (Inv s w1 N S c10 c7 c8 c9 m10 m8 m9 (Z2.setRow N (lay (A.flatMap Sl.C) (ia * 2) [.slice pa3 pn3 pc3, .slice ga3 gn3 gc3]).toArray)) := ⟨Inv.putN HNm.out hbw hOf hA hE ha3 (y := ⟨pa3, pn3, pc3, ga3, gn3, gc3, RD⟩) ⟨HP2.out.1, HP2.out.2, hgd2.out⟩⟩
          clear hOf hA hE hbw
          obtain ⟨Z3, hZ3⟩ : ∃ Z3, Z3 = Z2.setRow N (lay (A.flatMap Sl.C) (ia * 2) [.slice pa3 pn3 pc3, .slice ga3 gn3 gc3]).toArray := ⟨_, rfl⟩
          rw [← hZ3] at HPut
          have hNg : N ≠ gd ∧ N ≠ g3 + 1 := ⟨by have := HGd.out; omega, by have h1 := HI.out.ltN; have := HG3.out; omega⟩
          have u9 : Z3.cell? ⟨gd, 0, none⟩ = some (.int .u8 xK) := by
            rw [hZ3]
            refine (cell_setRow_other _ _ _ ⟨gd, 0, none⟩ (by show gd ≠ N; exact fun h => hNg.1 h.symm)).trans ?_
            have := KD2.out.at 0 (.int .u8 xK) rfl
            simpa using this
          have PC3 : Seal (Z3.heap[g3 + 1]? = some (.cells C.toArray 31 (0, 0))) := ⟨by rw [hZ3]; exact (heap_setRow_ne (fun h => hNg.2 h.symm)).trans PC2.out⟩
          have hz3 : Z3.heap.size = Z2.heap.size := by rw [hZ3]; simp [World.setRow]
          have HZ3 : Seal (g3 + 1 < Z3.heap.size) := ⟨by rw [hz3]; exact HG3.out.2⟩
          have HZs : Seal (Z1.heap.size ≤ g3) := ⟨HG3.out.1⟩
          have hZ3s := hZ3.symm
          have p3 : Z3.rangeAt (g3 + 1) 0 C := rangeAt_row PC3.out
          clear hz3 hNg hZ3 HG3 KD2 PC2 KD
          have uD := Tryd.underlying29
          have i1 := dg_info T LT.out
          have HOr : Seal (0 ≤ ((io : Nat) : Int) ∧ ((io : Nat) : Int) < 8) := ⟨by omega⟩
          go_wp2_with (first
            | ((try rw [hg3']); refine wpList_store_row rfl 25 (.tmp 17) (.tmp 67) rfl g3 #[.slice pa3 pn3 pc3, .slice ga3 gn3 gc3] rfl rfl 25 _ Z1'.out dev_info rfl (by simp [Value.oneCell']) ?_)
            | (refine wpList_store_row rfl 31 (.tmp 18) (.tmp 68) rfl (g3 + 1) C.toArray rfl rfl 31 (List.toArray (.int .i64 0 :: .int .u8 0 :: .int .u8 0 :: .int .u8 0 :: .int .u8 0 :: .int .u8 0 :: .int .u8 0 :: .int .u8 0 :: .int .u8 0 :: .int .u8 0 :: .int .u8 0 :: .int .u8 0 :: .int .u8 0 :: .int .u8 0 :: .int .u8 0 :: .int .u8 0 :: .int .u8 0 :: .int .u8 0 :: .int .u8 0 :: .int .u8 0 :: .int .u8 0 :: .int .u8 0 :: .int .u8 0 :: .int .u8 0 :: .int .u8 0 :: .int .u8 0 :: .int .u8 0 :: .int .u8 0 :: .int .u8 0 :: .int .u8 0 :: .int .u8 0 :: .int .u8 0 :: .int .u8 0 :: [] : List Value) : Array Value) Z2'.out (by simpa using IC.out.1) IC.out.2.1 IC.out.2.2 ?_; rw [← HZ2.out]; clear HZ2 Z1' Z2'; (try simp only [Act.put]))
            | (refine wpList_load_mid rfl 25 (.tmp 17) rfl g3 0 rfl [.slice pa3 pn3 pc3, .slice ga3 gn3 gc3] _ r2 ud rfl dev_info ?_)
            | (refine wpList_store_at rfl 25 (.tmp 82) (.tmp 81) rfl N (ia * 2) [.slice pa3 pn3 pc3, .slice ga3 gn3 gc3] rfl rfl 52 (A.flatMap Sl.C) hRow dev_info HFL.out (Sl.one ⟨pa3, pn3, pc3, ga3, gn3, gc3, RD⟩) ?_; rw [hZ3s]; clear hZ3s; (try simp only [Act.put]))
            | (refine wpList_load_mid_g (by kernel_rfl) 31 (.tmp 18) rfl (g3 + 1) 0 rfl C _ p3 ut rfl IC.out.1 ?_; (try simp only [Act.put, List.setIfInBounds_toArray, List.set_cons_zero, List.set_cons_succ])))
          obtain ⟨gs', A', E', hbw', hOf', hA', hE'⟩ := HPut.out
          have hgv := give_any s (io : Nat) c10 c7 c8 c9 m10 m8 m9 gs' Z3 hOf' ⟨HNm.out.d1, HNm.out.d2, HNm.out.d3⟩ HOr.out.1 HOr.out.2
          rw [← HCp.out.1] at hgv
          refine hgv.mono ?_
          clear hgv
          rintro e w4 ⟨hTn, hh⟩
          rcases hh with ⟨rfl, gs2, hS2⟩ | ⟨rfl, hno⟩
          · have HI4 : Seal (Inv s w1 N S c10 c7 c8 c9 m10 m8 m9 w4) := ⟨Inv.give HNm.out hbw' hOf' hA' hE' hTn hS2⟩
            clear hTn hS2 hbw' hOf' hA' hE'
            go_wp2
            go_roundw
            case rel => exact ⟨k + 1, by omega, by go_num, HI4⟩
            case measure => simp [intOf]; omega
          · have HB4 : Seal (Below w.heap.size w w4) := ⟨(HB1.out.trans (hbw'.mono HB1.out.size)).trans ((HNm.out.below hbw'.size hTn).mono HB1.out.size)⟩
            have hrow4 : w4.heap[g3 + 1]? = some (.cells C.toArray 31 (0, 0)) := (hTn.block _ HZ3.out (fun h => by have := hOf0.out h; have := HZs.out; omega)).trans PC3.out
            have o3 : w4.cell? ⟨g3 + 1, 0, none⟩ = some (.int .i64 (io : Nat)) := by have h := rangeAt_row hrow4; rw [HCp.out.1] at h; have := h 0 (.int .i64 (io : Nat)) rfl; simpa using this
            have d3 : w4.rangeAt (g3 + 1) 1 (T.map B) := by
              have h := rangeAt_row hrow4
              rw [HCp.out.1] at h
              have h2 := rangeAt_drop h 1
              rw [HCp.out.2]
              simpa [Po.C] using h2
            have HCo : Seal (∃ i j : Nat, i < j ∧ j < 8 ∧ serB s (i : Nat) = serB s (j : Nat)) := ⟨by
              obtain ⟨o', h0', h8', hne, es⟩ := hno
              obtain ⟨j', hj'⟩ : ∃ j : Nat, o' = (j : Int) := ⟨o'.toNat, by omega⟩
              subst hj'
              obtain ⟨i', hi'⟩ : ∃ j : Nat, ((io : Nat) : Int) = (j : Int) := ⟨(((io : Nat) : Int) : Int).toNat, by have := HOr.out; omega⟩
              rw [hi'] at es hne
              have := HOr.out
              rcases Nat.lt_or_gt_of_ne (show i' ≠ j' from fun h => hne (by rw [h])) with h | h
              · exact ⟨i', j', h, by omega, es.symm⟩
              · exact ⟨j', i', h, by omega, es⟩⟩
            clear hno
            clear hTn hbw' hOf' hA' hE' hrow4 p3
            have QD : ∀ w, (Op.equalIn 10000 29 (.agg (T.map B).toArray) (.agg (T.map B).toArray)).run Tryd.prog w = .ok true w := fun w => by
              rw [show (10000 : Nat) = 9998 + 1 + 1 from rfl, eqDig_s 9998 T T LT.out LT.out, beq_self_eq_true]
            go_wp2_with fail
            refine wp_region_held_drew (S := fun w' => w'.cell? ⟨g3 + 1, 0, none⟩ = some (.int .i64 (io : Nat)) ∧ w'.rangeAt (g3 + 1) 1 (T.map B)) (by kernel_rfl) ⟨o3, d3⟩ (fun hHeld => ?_)
            obtain ⟨V, hV⟩ : ∃ V, V = w4.drew := ⟨_, rfl⟩
            have HBv : Seal (Below w.heap.size w V) := ⟨by rw [hV]; exact HB4.out.trans ((bel_drew _).mono HB4.out.size)⟩
            rw [← hV] at hHeld ⊢
            clear hV o3 d3
            refine take_h 0 ?_ rfl (by kernel_rfl) (by kernel_rfl) (by kernel_rfl) (fun _ _ _ h => h) (Or.inl ⟨by kernel_rfl, ?_⟩) (by assumption) ?_
            rotate_left
            · (intro w hSw; (try dsimp only at hSw); go_simp; try (with_reducible rfl))
            try simp only [Act.put, List.setIfInBounds_toArray, List.set_cons_zero, List.set_cons_succ]
            refine take_h 1 ?_ rfl (by kernel_rfl) (by kernel_rfl) (by kernel_rfl) (fun _ _ _ h => h) (Or.inl ⟨by kernel_rfl, ?_⟩) (by assumption) ?_
            rotate_left
            · (intro w hSw; (try dsimp only at hSw); go_simp; try (with_reducible rfl))
            try simp only [Act.put, List.setIfInBounds_toArray, List.set_cons_zero, List.set_cons_succ]
            refine take_h 2 ?_ rfl (by kernel_rfl) (by kernel_rfl) (by kernel_rfl) (fun _ _ _ h => h) (Or.inl ⟨by kernel_rfl, ?_⟩) (by assumption) ?_
            rotate_left
            · (intro w hSw; (try dsimp only at hSw); go_simp; try (with_reducible rfl))
            try simp only [Act.put, List.setIfInBounds_toArray, List.set_cons_zero, List.set_cons_succ]
            refine take_h 4 ?_ rfl (by kernel_rfl) (by kernel_rfl) (by kernel_rfl) (fun _ _ _ h => h) (Or.inl ⟨by kernel_rfl, ?_⟩) (by assumption) ?_
            rotate_left
            · (intro w hSw; (try dsimp only at hSw); go_simp; try (with_reducible rfl))
            try simp only [Act.put, List.setIfInBounds_toArray, List.set_cons_zero, List.set_cons_succ]
            refine take_h 5 _ rfl (by kernel_rfl) (by kernel_rfl) (by kernel_rfl) (fun _ _ _ h => h) (yieldsIf_load_mid (by kernel_rfl) 29 (.tmp 97) rfl (g3 + 1) 1 rfl (T.map B) _ (fun w hSw => hSw.2) uD rfl i1) (by assumption) ?_
            try simp only [Act.put, List.setIfInBounds_toArray, List.set_cons_zero, List.set_cons_succ]
            refine call_h 3 rfl (by kernel_rfl) 16 #[.int .i64 s, .int .i64 (io : Nat)] (by kernel_rfl) (by go_simp) ?_
            refine (HSe.out V HBv.out).mono ?_
            rintro e V2 ⟨rfl, hb2⟩
            have HBv2 : Seal (Below w.heap.size w V2) := ⟨HBv.out.trans (hb2.mono HBv.out.size)⟩
            refine ⟨_, rfl, ⟨cell_below' hb2 hHeld.1, rangeAt_below' hHeld.2 hb2⟩, fun hHeld2 => ?_⟩
            clear hHeld hb2
            try simp only [Act.put, List.setIfInBounds_toArray, List.set_cons_zero, List.set_cons_succ]
            refine take_h 6 ?_ rfl (by kernel_rfl) (by kernel_rfl) (by kernel_rfl) (fun _ _ _ h => h) (Or.inl ⟨by kernel_rfl, ?_⟩) (by assumption) ?_
            rotate_left
            · (intro w hSw; (try dsimp only at hSw); go_simp; try (with_reducible rfl))
            try simp only [Act.put, List.setIfInBounds_toArray, List.set_cons_zero, List.set_cons_succ]
            refine take_h 7 ?_ rfl (by kernel_rfl) (by kernel_rfl) (by kernel_rfl) (fun _ _ _ h => h) (Or.inl ⟨by kernel_rfl, ?_⟩) (by assumption) ?_
            rotate_left
            · (intro w hSw; (try dsimp only at hSw); go_simp; try (with_reducible rfl))
            try simp only [Act.put, List.setIfInBounds_toArray, List.set_cons_zero, List.set_cons_succ]
            refine take_h 8 ?_ rfl (by kernel_rfl) (by kernel_rfl) (by kernel_rfl) (fun _ _ _ h => h) (Or.inl ⟨by kernel_rfl, ?_⟩) (by assumption) ?_
            rotate_left
            · (intro w hSw; (try dsimp only at hSw); go_simp; try (with_reducible rfl))
            try simp only [Act.put, List.setIfInBounds_toArray, List.set_cons_zero, List.set_cons_succ]
            refine call_h 9 rfl (by kernel_rfl) 29 #[.int .i64 s] (by kernel_rfl) (by go_simp) ?_
            refine (collides_any s V2 (HGl.out _ HBv2.out) HS.out HCo.out).mono ?_
            rintro e V3 ⟨rfl, hb3⟩
            have HBv3 : Seal (Below w.heap.size w V3) := ⟨HBv2.out.trans (hb3.mono HBv2.out.size)⟩
            refine ⟨_, rfl, ⟨cell_below' hb3 hHeld2.1, rangeAt_below' hHeld2.2 hb3⟩, fun hHeld3 => ?_⟩
            clear hHeld2 hb3
            try simp only [Act.put, List.setIfInBounds_toArray, List.set_cons_zero, List.set_cons_succ]
            refine take_h 10 ?_ rfl (by kernel_rfl) (by kernel_rfl) (by kernel_rfl) (fun _ _ _ h => h) (Or.inl ⟨by kernel_rfl, ?_⟩) (by assumption) ?_
            rotate_left
            · (intro w hSw; (try dsimp only at hSw); go_simp; try (with_reducible rfl))
            try simp only [Act.put, List.setIfInBounds_toArray, List.set_cons_zero, List.set_cons_succ]
            refine take_h 11 ?_ rfl (by kernel_rfl) (by kernel_rfl) (by kernel_rfl) (fun _ _ _ h => h) (Or.inl ⟨by kernel_rfl, ?_⟩) (by assumption) ?_
            rotate_left
            · (intro w hSw; (try dsimp only at hSw); go_simp; try (with_reducible rfl))
            try simp only [Act.put, List.setIfInBounds_toArray, List.set_cons_zero, List.set_cons_succ]
            refine wpAnyH_done (by kernel_rfl) ?_ _
            clear hHeld3 QD
            go_wp2
            go_ret
            exact ⟨rfl, HBv3.out⟩
      · skip
        have eK : xK.tmod 7 = 1 := eK
        clear wK hq7
        obtain ⟨gs, A, E, hbw, hOf, hA, hE⟩ := HI.out
        obtain ⟨⟨ypa, ypn, ypc, yga, ygn, ygc, yD⟩, hyy, ry, oky⟩ := hA.at ha3
        have KOy : Seal (IsPs Z1 ypa ypn ypc yD.P ∧ IsIs Z1 yga ygn ygc yD.G ∧ Gd s yD) := ⟨oky⟩
        have ry : Z1.rangeAt N (ia * 2) [.slice ypa ypn ypc, .slice yga ygn ygc] := ry
        clear hyy oky
        have ud := Tryd.underlying25
        have ut := Tryd.underlying31
        have HBz : Seal (Below w.heap.size w Z1) := ⟨HB1.out.trans (hbw.mono HB1.out.size)⟩
        have hOf0 : Seal (∀ {k : Nat}, Tx c7 m10 m8 m9 k → k < Z1.heap.size) := ⟨fun h => hOf.tx_lt h⟩
        clear hOf hA hE hbw
        have r1 : (ia : Int) < 3 := by omega
        have HIo : Seal (I64 (io : Nat)) := ⟨by unfold I64; omega⟩
        obtain ⟨RD, hRD⟩ : ∃ z, z = postD yD s (io : Nat) := ⟨_, rfl⟩
        obtain ⟨er, her⟩ : ∃ e, e = postE yD (io : Nat) := ⟨_, rfl⟩
        obtain ⟨p, hp⟩ : ∃ p, p = postP yD s (io : Nat) := ⟨_, rfl⟩
        obtain ⟨C, hC⟩ : ∃ C, C = p.C := ⟨_, rfl⟩
        have L32 : p.S.length = 32 := by rw [hp]; exact postP_len _ _ _
        have IC : Seal ((Tryd.prog.info? 31).map (·.size) = some C.length ∧ ((List.toArray (.int .i64 0 :: .int .u8 0 :: .int .u8 0 :: .int .u8 0 :: .int .u8 0 :: .int .u8 0 :: .int .u8 0 :: .int .u8 0 :: .int .u8 0 :: .int .u8 0 :: .int .u8 0 :: .int .u8 0 :: .int .u8 0 :: .int .u8 0 :: .int .u8 0 :: .int .u8 0 :: .int .u8 0 :: .int .u8 0 :: .int .u8 0 :: .int .u8 0 :: .int .u8 0 :: .int .u8 0 :: .int .u8 0 :: .int .u8 0 :: .int .u8 0 :: .int .u8 0 :: .int .u8 0 :: .int .u8 0 :: .int .u8 0 :: .int .u8 0 :: .int .u8 0 :: .int .u8 0 :: .int .u8 0 :: [] : List Value) : Array Value) : Array Value).size = C.toArray.size ∧ C.toArray.all (·.oneCell') = true) := ⟨by rw [hC]; exact ⟨Po.C_info L32, by rw [posz_len, List.size_toArray, Po.C_len L32], all_oneCell_toArray (Po.C_one _)⟩⟩
        have HG3 := KOy.out.2.2.post (o := (io : Nat)) (by omega) (by omega)
        rw [← hRD, ← her, ← hp] at HG3
        have HCl : Seal (Calls Tryd.prog 11 #[.agg #[.slice ypa ypn ypc, .slice yga ygn ygc], .int .i64 s, .int .i64 (io : Nat)] Z1 (PostC RD C er Z1)) := ⟨by
          have h := dpost_any ypa yga ypn ypc ygn ygc yD s (io : Nat) Z1 (HGl.out _ HBz.out) HS.out HIo.out KOy.out.1 KOy.out.2.2.p32 KOy.out.2.1
          rw [← hRD, ← her, ← hp] at h
          exact post_c h hC⟩
        have HCC := Seal.mk hC
        clear hRD her hp hC L32
        rcases HG3 with ⟨he, _, _⟩ | ⟨he, hgd2', hpp⟩
        · subst he
          go_wp2_with (first
            | (refine wpList_load_mid rfl 25 (.tmp 62) rfl N (ia * 2) rfl [.slice ypa ypn ypc, .slice yga ygn ygc] _ ry ud rfl dev_info ?_))
          refine HCl.out.mono ?_
          clear HCl
          rintro e w3 ⟨pa3, pn3, pc3, ga3, gn3, gc3, rfl, hd, hb⟩
          obtain ⟨N1, N2, N3, N4, N5⟩ := two_new w3 #[.slice pa3 pn3 pc3, .slice ga3 gn3 gc3] C
          obtain ⟨Z2, hZ2⟩ : ∃ Z, Z = (((w3.alloc (.cells #[.slice none 0 0, .slice none 0 0] 25)).alloc (.cells (List.toArray (.int .i64 0 :: .int .u8 0 :: .int .u8 0 :: .int .u8 0 :: .int .u8 0 :: .int .u8 0 :: .int .u8 0 :: .int .u8 0 :: .int .u8 0 :: .int .u8 0 :: .int .u8 0 :: .int .u8 0 :: .int .u8 0 :: .int .u8 0 :: .int .u8 0 :: .int .u8 0 :: .int .u8 0 :: .int .u8 0 :: .int .u8 0 :: .int .u8 0 :: .int .u8 0 :: .int .u8 0 :: .int .u8 0 :: .int .u8 0 :: .int .u8 0 :: .int .u8 0 :: .int .u8 0 :: .int .u8 0 :: .int .u8 0 :: .int .u8 0 :: .int .u8 0 :: .int .u8 0 :: .int .u8 0 :: [] : List Value) : Array Value) 31)).setRow w3.heap.size #[.slice pa3 pn3 pc3, .slice ga3 gn3 gc3]).setRow (w3.heap.size + 1) C.toArray := ⟨_, rfl⟩
          rw [← hZ2] at N3 N4 N5
          have HI2 : Seal (Inv s w1 N S c10 c7 c8 c9 m10 m8 m9 Z2) := ⟨(HI.out.below hb).below N5⟩
          have KD2 := Seal.mk ((KD.out.step hb).step N5)
          have HZ2 := Seal.mk hZ2
          obtain ⟨g3, hg3⟩ : ∃ g, g = w3.heap.size := ⟨_, rfl⟩
          have HG3 : Seal (Z1.heap.size ≤ g3 ∧ g3 + 1 < Z2.heap.size) := ⟨by rw [hg3]; exact ⟨hb.size, (Array.getElem?_eq_some_iff.1 N4).1⟩⟩
          have hg3' := hg3.symm
          have Z1' := Seal.mk N1
          have Z2' := Seal.mk N2
          rw [hg3'] at N3 N4 Z1' Z2' HZ2
          have r2 : Z2.rangeAt g3 0 [.slice pa3 pn3 pc3, .slice ga3 gn3 gc3] := rangeAt_row (cs := [.slice pa3 pn3 pc3, .slice ga3 gn3 gc3]) N3
          have HP2 : Seal (IsPs Z2 pa3 pn3 pc3 RD.P ∧ IsIs Z2 ga3 gn3 gc3 RD.G) := ⟨hd.out.1.below N5, hd.out.2.2.below N5⟩
          have PC2 : Seal (Z2.heap[g3 + 1]? = some (.cells C.toArray 31 (0, 0))) := ⟨N4⟩
          clear N1 N2 N3 N4 N5 hZ2 hd hb hg3
          go_wp2_with (first
            | ((try rw [hg3']); refine wpList_store_row rfl 25 (.tmp 17) (.tmp 67) rfl g3 #[.slice pa3 pn3 pc3, .slice ga3 gn3 gc3] rfl rfl 25 _ Z1'.out dev_info rfl (by simp [Value.oneCell']) ?_)
            | (refine wpList_store_row rfl 31 (.tmp 18) (.tmp 68) rfl (g3 + 1) C.toArray rfl rfl 31 (List.toArray (.int .i64 0 :: .int .u8 0 :: .int .u8 0 :: .int .u8 0 :: .int .u8 0 :: .int .u8 0 :: .int .u8 0 :: .int .u8 0 :: .int .u8 0 :: .int .u8 0 :: .int .u8 0 :: .int .u8 0 :: .int .u8 0 :: .int .u8 0 :: .int .u8 0 :: .int .u8 0 :: .int .u8 0 :: .int .u8 0 :: .int .u8 0 :: .int .u8 0 :: .int .u8 0 :: .int .u8 0 :: .int .u8 0 :: .int .u8 0 :: .int .u8 0 :: .int .u8 0 :: .int .u8 0 :: .int .u8 0 :: .int .u8 0 :: .int .u8 0 :: .int .u8 0 :: .int .u8 0 :: .int .u8 0 :: [] : List Value) : Array Value) Z2'.out (by simpa using IC.out.1) IC.out.2.1 IC.out.2.2 ?_; rw [← HZ2.out]; clear HZ2 Z1' Z2'; (try simp only [Act.put])))
          go_roundw
          case rel => exact ⟨k + 1, by omega, by go_num, HI2⟩
          case measure => simp [intOf]; omega
        · subst he
          have hgd2 := Seal.mk hgd2'
          obtain ⟨T, hT⟩ : ∃ T, T = serB s (io : Nat) := ⟨_, rfl⟩
          have LT : Seal (T.length = 32) := ⟨by rw [hT]; exact serB_len _ _⟩
          have HCp : Seal (C = Po.C ⟨(io : Nat), serB s (io : Nat)⟩ ∧ T = serB s (io : Nat)) := ⟨by rw [HCC.out, hpp], hT⟩
          have HSe : Seal (∀ V, Below w.heap.size w V → Calls Tryd.prog 16 #[.int .i64 s, .int .i64 (io : Nat)] V fun e w' => e = .returned (.agg (T.map B).toArray) ∧ Below V.heap.size V w') := ⟨fun V h => by rw [hT]; exact dserial_any s (io : Nat) V (HGl.out _ h) HS.out HIo.out⟩
          clear hgd2' hpp hT
          go_wp2_with (first
            | (refine wpList_load_mid rfl 25 (.tmp 62) rfl N (ia * 2) rfl [.slice ypa ypn ypc, .slice yga ygn ygc] _ ry ud rfl dev_info ?_))
          refine HCl.out.mono ?_
          clear HCl
          rintro e w3 ⟨pa3, pn3, pc3, ga3, gn3, gc3, rfl, hd, hb⟩
          obtain ⟨N1, N2, N3, N4, N5⟩ := two_new w3 #[.slice pa3 pn3 pc3, .slice ga3 gn3 gc3] C
          obtain ⟨Z2, hZ2⟩ : ∃ Z, Z = (((w3.alloc (.cells #[.slice none 0 0, .slice none 0 0] 25)).alloc (.cells (List.toArray (.int .i64 0 :: .int .u8 0 :: .int .u8 0 :: .int .u8 0 :: .int .u8 0 :: .int .u8 0 :: .int .u8 0 :: .int .u8 0 :: .int .u8 0 :: .int .u8 0 :: .int .u8 0 :: .int .u8 0 :: .int .u8 0 :: .int .u8 0 :: .int .u8 0 :: .int .u8 0 :: .int .u8 0 :: .int .u8 0 :: .int .u8 0 :: .int .u8 0 :: .int .u8 0 :: .int .u8 0 :: .int .u8 0 :: .int .u8 0 :: .int .u8 0 :: .int .u8 0 :: .int .u8 0 :: .int .u8 0 :: .int .u8 0 :: .int .u8 0 :: .int .u8 0 :: .int .u8 0 :: .int .u8 0 :: [] : List Value) : Array Value) 31)).setRow w3.heap.size #[.slice pa3 pn3 pc3, .slice ga3 gn3 gc3]).setRow (w3.heap.size + 1) C.toArray := ⟨_, rfl⟩
          rw [← hZ2] at N3 N4 N5
          have HI2 : Seal (Inv s w1 N S c10 c7 c8 c9 m10 m8 m9 Z2) := ⟨(HI.out.below hb).below N5⟩
          have KD2 := Seal.mk ((KD.out.step hb).step N5)
          have HZ2 := Seal.mk hZ2
          obtain ⟨g3, hg3⟩ : ∃ g, g = w3.heap.size := ⟨_, rfl⟩
          have HG3 : Seal (Z1.heap.size ≤ g3 ∧ g3 + 1 < Z2.heap.size) := ⟨by rw [hg3]; exact ⟨hb.size, (Array.getElem?_eq_some_iff.1 N4).1⟩⟩
          have hg3' := hg3.symm
          have Z1' := Seal.mk N1
          have Z2' := Seal.mk N2
          rw [hg3'] at N3 N4 Z1' Z2' HZ2
          have r2 : Z2.rangeAt g3 0 [.slice pa3 pn3 pc3, .slice ga3 gn3 gc3] := rangeAt_row (cs := [.slice pa3 pn3 pc3, .slice ga3 gn3 gc3]) N3
          have HP2 : Seal (IsPs Z2 pa3 pn3 pc3 RD.P ∧ IsIs Z2 ga3 gn3 gc3 RD.G) := ⟨hd.out.1.below N5, hd.out.2.2.below N5⟩
          have PC2 : Seal (Z2.heap[g3 + 1]? = some (.cells C.toArray 31 (0, 0))) := ⟨N4⟩
          clear N1 N2 N3 N4 N5 hZ2 hd hb hg3
          have hPC : Z2.rangeAt (g3 + 1) 0 C := rangeAt_row PC2.out
          have o3 : Z2.cell? ⟨g3 + 1, 0, none⟩ = some (.int .i64 (io : Nat)) := by rw [HCp.out.1] at hPC; have := hPC 0 (.int .i64 (io : Nat)) rfl; simpa using this
          clear hPC
          obtain ⟨gs, A, E, hbw, hOf, hA, hE⟩ := HI2.out
          have hRow := hA.1
          have HFL : Seal (ia * 2 + ([.slice pa3 pn3 pc3, .slice ga3 gn3 gc3] : List Value).length ≤ (A.flatMap Sl.C).length) := ⟨by rw [flat_len hA.2.1]; show ia * 2 + 2 ≤ 6; omega⟩
          have HPut : Seal (Inv s w1 N S c10 c7 c8 c9 m10 m8 m9 (Z2.setRow N (lay (A.flatMap Sl.C) (ia * 2) [.slice pa3 pn3 pc3, .slice ga3 gn3 gc3]).toArray)) := ⟨Inv.putN HNm.out hbw hOf hA hE ha3 (y := ⟨pa3, pn3, pc3, ga3, gn3, gc3, RD⟩) ⟨HP2.out.1, HP2.out.2, hgd2.out⟩⟩
          clear hOf hA hE hbw
          obtain ⟨Z3, hZ3⟩ : ∃ Z3, Z3 = Z2.setRow N (lay (A.flatMap Sl.C) (ia * 2) [.slice pa3 pn3 pc3, .slice ga3 gn3 gc3]).toArray := ⟨_, rfl⟩
          rw [← hZ3] at HPut
          have hNg : N ≠ gd ∧ N ≠ g3 + 1 := ⟨by have := HGd.out; omega, by have h1 := HI.out.ltN; have := HG3.out; omega⟩
          have u9 : Z3.cell? ⟨gd, 0, none⟩ = some (.int .u8 xK) := by
            rw [hZ3]
            refine (cell_setRow_other _ _ _ ⟨gd, 0, none⟩ (by show gd ≠ N; exact fun h => hNg.1 h.symm)).trans ?_
            have := KD2.out.at 0 (.int .u8 xK) rfl
            simpa using this
          have PC3 : Seal (Z3.heap[g3 + 1]? = some (.cells C.toArray 31 (0, 0))) := ⟨by rw [hZ3]; exact (heap_setRow_ne (fun h => hNg.2 h.symm)).trans PC2.out⟩
          have hz3 : Z3.heap.size = Z2.heap.size := by rw [hZ3]; simp [World.setRow]
          have HZ3 : Seal (g3 + 1 < Z3.heap.size) := ⟨by rw [hz3]; exact HG3.out.2⟩
          have HZs : Seal (Z1.heap.size ≤ g3) := ⟨HG3.out.1⟩
          have hZ3s := hZ3.symm
          have p3 : Z3.rangeAt (g3 + 1) 0 C := rangeAt_row PC3.out
          clear hz3 hNg hZ3 HG3 KD2 PC2 KD
          go_wp2_with (first
            | ((try rw [hg3']); refine wpList_store_row rfl 25 (.tmp 17) (.tmp 67) rfl g3 #[.slice pa3 pn3 pc3, .slice ga3 gn3 gc3] rfl rfl 25 _ Z1'.out dev_info rfl (by simp [Value.oneCell']) ?_)
            | (refine wpList_store_row rfl 31 (.tmp 18) (.tmp 68) rfl (g3 + 1) C.toArray rfl rfl 31 (List.toArray (.int .i64 0 :: .int .u8 0 :: .int .u8 0 :: .int .u8 0 :: .int .u8 0 :: .int .u8 0 :: .int .u8 0 :: .int .u8 0 :: .int .u8 0 :: .int .u8 0 :: .int .u8 0 :: .int .u8 0 :: .int .u8 0 :: .int .u8 0 :: .int .u8 0 :: .int .u8 0 :: .int .u8 0 :: .int .u8 0 :: .int .u8 0 :: .int .u8 0 :: .int .u8 0 :: .int .u8 0 :: .int .u8 0 :: .int .u8 0 :: .int .u8 0 :: .int .u8 0 :: .int .u8 0 :: .int .u8 0 :: .int .u8 0 :: .int .u8 0 :: .int .u8 0 :: .int .u8 0 :: .int .u8 0 :: [] : List Value) : Array Value) Z2'.out (by simpa using IC.out.1) IC.out.2.1 IC.out.2.2 ?_; rw [← HZ2.out]; clear HZ2 Z1' Z2'; (try simp only [Act.put]))
            | (refine wpList_load_mid rfl 25 (.tmp 17) rfl g3 0 rfl [.slice pa3 pn3 pc3, .slice ga3 gn3 gc3] _ r2 ud rfl dev_info ?_)
            | (refine wpList_store_at rfl 25 (.tmp 82) (.tmp 81) rfl N (ia * 2) [.slice pa3 pn3 pc3, .slice ga3 gn3 gc3] rfl rfl 52 (A.flatMap Sl.C) hRow dev_info HFL.out (Sl.one ⟨pa3, pn3, pc3, ga3, gn3, gc3, RD⟩) ?_; rw [hZ3s]; clear hZ3s; (try simp only [Act.put])))
          go_roundw
          case rel => exact ⟨k + 1, by omega, by go_num, HPut⟩
          case measure => simp [intOf]; omega
      · skip
        have eK : xK.tmod 7 = 2 := eK
        clear wK hq7
        obtain ⟨gs, A, E, hbw, hOf, hA, hE⟩ := HI.out
        obtain ⟨⟨ypa, ypn, ypc, yga, ygn, ygc, yD⟩, hyy, ry, oky⟩ := hA.at ha3
        have KOy : Seal (IsPs Z1 ypa ypn ypc yD.P ∧ IsIs Z1 yga ygn ygc yD.G ∧ Gd s yD) := ⟨oky⟩
        have ry : Z1.rangeAt N (ia * 2) [.slice ypa ypn ypc, .slice yga ygn ygc] := ry
        clear hyy oky
        obtain ⟨⟨vpa, vpn, vpc, vga, vgn, vgc, vD⟩, hyv, rv, okv⟩ := hA.at hb3
        have KOv : Seal (IsPs Z1 vpa vpn vpc vD.P ∧ IsIs Z1 vga vgn vgc vD.G ∧ Gd s vD) := ⟨okv⟩
        have rv : Z1.rangeAt N (ib * 2) [.slice vpa vpn vpc, .slice vga vgn vgc] := rv
        clear hyv okv
        have ud := Tryd.underlying25
        clear hOf hA hE hbw
        have r1 : (ia : Int) < 3 := by omega
        have r3 : (ib : Int) < 3 := by omega
        obtain ⟨RD, hRD⟩ : ∃ z, z = mergeD yD vD := ⟨_, rfl⟩
        have hgm := KOy.out.2.2.merge KOv.out.2.2
        rw [← hRD] at hgm
        have HGm : Seal (Gd s RD) := ⟨hgm.2⟩
        have KY := Seal.mk (kp_isC KOy.out.1)
        have KY2 := Seal.mk (kp_isC KOy.out.2.1)
        have KV := Seal.mk (kp_isC KOv.out.1)
        have KV2 := Seal.mk (kp_isC KOv.out.2.1)
        have HCl : Seal (∀ W, Below Z1.heap.size Z1 W → Calls Tryd.prog 18 #[.agg #[.slice ypa ypn ypc, .slice yga ygn ygc], .agg #[.slice vpa vpn vpc, .slice vga vgn vgc]] W (DevsC RD 0 W)) := ⟨fun W hW => by
          have h := dmerge_any ypa yga ypn ypc ygn ygc yD vpa vga vpn vpc vgn vgc vD W (KY.out W hW) KOy.out.2.2.p32 (KY2.out W hW) (KV.out W hW) KOv.out.2.2.p32 (KV2.out W hW)
          rw [← hRD, hgm.1] at h
          exact dev_c h⟩
        have KR1 := Seal.mk (kp_range ry)
        have KR2 := Seal.mk (kp_range rv)
        clear hRD hgm ry rv
        go_wp2_with fail
        refine wp_region_held_drew (S := fun w' => Below Z1.heap.size Z1 w') (by kernel_rfl) (bel_drew _) (fun hHeld => ?_)
        obtain ⟨V, hV⟩ : ∃ V, V = Z1.drew := ⟨_, rfl⟩
        rw [← hV] at hHeld ⊢
        clear hV
        refine take_h 0 ?_ rfl (by kernel_rfl) (by kernel_rfl) (by kernel_rfl) (fun _ _ _ h => h) (Or.inl ⟨by kernel_rfl, ?_⟩) (by assumption) ?_
        rotate_left
        · (intro w hSw; (try dsimp only at hSw); go_simp; try (with_reducible rfl))
        try simp only [Act.put, List.setIfInBounds_toArray, List.set_cons_zero, List.set_cons_succ]
        refine take_h 1 ?_ rfl (by kernel_rfl) (by kernel_rfl) (by kernel_rfl) (fun _ _ _ h => h) (Or.inl ⟨by kernel_rfl, ?_⟩) (by assumption) ?_
        rotate_left
        · (intro w hSw; (try dsimp only at hSw); go_simp; try (with_reducible rfl))
        try simp only [Act.put, List.setIfInBounds_toArray, List.set_cons_zero, List.set_cons_succ]
        refine take_h 2 _ rfl (by kernel_rfl) (by kernel_rfl) (by kernel_rfl) (fun _ _ _ h => h) (yieldsIf_load_mid (by kernel_rfl) 25 (.tmp 108) rfl N (ia * 2) rfl [.slice ypa ypn ypc, .slice yga ygn ygc] _ (fun w hSw => (KR1.out _ hSw)) ud rfl dev_info) (by assumption) ?_
        try simp only [Act.put, List.setIfInBounds_toArray, List.set_cons_zero, List.set_cons_succ]
        refine take_h 3 ?_ rfl (by kernel_rfl) (by kernel_rfl) (by kernel_rfl) (fun _ _ _ h => h) (Or.inl ⟨by kernel_rfl, ?_⟩) (by assumption) ?_
        rotate_left
        · (intro w hSw; (try dsimp only at hSw); go_simp; try (with_reducible rfl))
        try simp only [Act.put, List.setIfInBounds_toArray, List.set_cons_zero, List.set_cons_succ]
        refine take_h 4 ?_ rfl (by kernel_rfl) (by kernel_rfl) (by kernel_rfl) (fun _ _ _ h => h) (Or.inl ⟨by kernel_rfl, ?_⟩) (by assumption) ?_
        rotate_left
        · (intro w hSw; (try dsimp only at hSw); go_simp; try (with_reducible rfl))
        try simp only [Act.put, List.setIfInBounds_toArray, List.set_cons_zero, List.set_cons_succ]
        refine take_h 5 _ rfl (by kernel_rfl) (by kernel_rfl) (by kernel_rfl) (fun _ _ _ h => h) (yieldsIf_load_mid (by kernel_rfl) 25 (.tmp 111) rfl N (ib * 2) rfl [.slice vpa vpn vpc, .slice vga vgn vgc] _ (fun w hSw => (KR2.out _ hSw)) ud rfl dev_info) (by assumption) ?_
        try simp only [Act.put, List.setIfInBounds_toArray, List.set_cons_zero, List.set_cons_succ]
        refine wpAnyH_ready (rs := [6, 10]) (by kernel_rfl) (by simp) (call_b 6 rfl 18 #[.agg #[.slice ypa ypn ypc, .slice yga ygn ygc], .agg #[.slice vpa vpn vpc, .slice vga vgn vgc]] (by kernel_rfl) (by go_simp) ?_ (oper_b 10 (.pointer (some ⟨V.heap.size, 0, none⟩)) (V.alloc (.cells #[.slice none 0 0, .slice none 0 0] 25)) rfl (by kernel_rfl) (by go_simp) (hHeld.alloc hHeld.size _) (fun hHeld2 => ?_) AllReadyH.nil))
        · refine (HCl.out V hHeld).mono ?_
          rintro e w3 ⟨pa3, pn3, pc3, ga3, gn3, gc3, rfl, hd, hb⟩
          refine ⟨_, rfl, hHeld.trans (hb.mono hHeld.size), fun hHeld2 => ?_⟩
          clear hHeld hb
          try simp only [Act.put, List.setIfInBounds_toArray, List.set_cons_zero, List.set_cons_succ]
          refine take_h 7 ?_ rfl (by kernel_rfl) (by kernel_rfl) (by kernel_rfl) (fun _ _ _ h => h) (Or.inl ⟨by kernel_rfl, ?_⟩) (by assumption) ?_
          rotate_left
          · (intro w hSw; (try dsimp only at hSw); go_simp; try (with_reducible rfl))
          try simp only [Act.put, List.setIfInBounds_toArray, List.set_cons_zero, List.set_cons_succ]
          refine take_h 8 ?_ rfl (by kernel_rfl) (by kernel_rfl) (by kernel_rfl) (fun _ _ _ h => h) (Or.inl ⟨by kernel_rfl, ?_⟩) (by assumption) ?_
          rotate_left
          · (intro w hSw; (try dsimp only at hSw); go_simp; try (with_reducible rfl))
          try simp only [Act.put, List.setIfInBounds_toArray, List.set_cons_zero, List.set_cons_succ]
          refine take_h 9 ?_ rfl (by kernel_rfl) (by kernel_rfl) (by kernel_rfl) (fun _ _ _ h => h) (Or.inl ⟨by kernel_rfl, ?_⟩) (by assumption) ?_
          rotate_left
          · (intro w hSw; (try dsimp only at hSw); go_simp; try (with_reducible rfl))
          try simp only [Act.put, List.setIfInBounds_toArray, List.set_cons_zero, List.set_cons_succ]
          refine oper_h 10 (.pointer (some ⟨w3.heap.size, 0, none⟩)) (w3.alloc (.cells #[.slice none 0 0, .slice none 0 0] 25)) rfl (by kernel_rfl) (by kernel_rfl) (by go_simp) (hHeld2.alloc hHeld2.size _) (fun hHeld3 => ?_)
          try simp only [Act.put, List.setIfInBounds_toArray, List.set_cons_zero, List.set_cons_succ]
          obtain ⟨N1, N2, N3⟩ := one_new w3 #[.slice pa3 pn3 pc3, .slice ga3 gn3 gc3]
          refine skip_h 11 ((w3.alloc (.cells #[.slice none 0 0, .slice none 0 0] 25)).setRow w3.heap.size #[.slice pa3 pn3 pc3, .slice ga3 gn3 gc3]) rfl (by kernel_rfl) (by kernel_rfl) (exec_store_row 25 (.tmp 20) (.tmp 114) rfl w3.heap.size #[.slice pa3 pn3 pc3, .slice ga3 gn3 gc3] rfl rfl 25 #[.slice none 0 0, .slice none 0 0] N1 dev_info rfl (by simp [Value.oneCell'])) (below_row hHeld3 hHeld2.size _) (fun hHeld4 => ?_)
          try simp only [Act.put]
          refine take_h 12 ?_ rfl (by kernel_rfl) (by kernel_rfl) (by kernel_rfl) (fun _ _ _ h => h) (Or.inl ⟨by kernel_rfl, ?_⟩) (by assumption) ?_
          rotate_left
          · (intro w hSw; (try dsimp only at hSw); go_simp; try (with_reducible rfl))
          try simp only [Act.put, List.setIfInBounds_toArray, List.set_cons_zero, List.set_cons_succ]
          refine wpAnyH_done (by kernel_rfl) ?_ _
          have hb2 := hHeld4
          obtain ⟨Z2, hZ2⟩ : ∃ Z, Z = (w3.alloc (.cells #[.slice none 0 0, .slice none 0 0] 25)).setRow w3.heap.size #[.slice pa3 pn3 pc3, .slice ga3 gn3 gc3] := ⟨_, rfl⟩
          obtain ⟨g3, hg3⟩ : ∃ g, g = w3.heap.size := ⟨_, rfl⟩
          rw [← hZ2] at N2 N3 hb2 ⊢
          rw [← hg3] at N2 ⊢
          have r2 : Z2.rangeAt g3 0 [.slice pa3 pn3 pc3, .slice ga3 gn3 gc3] := rangeAt_row (cs := [.slice pa3 pn3 pc3, .slice ga3 gn3 gc3]) N2
          have HP2 : Seal (IsPs Z2 pa3 pn3 pc3 RD.P ∧ IsIs Z2 ga3 gn3 gc3 RD.G) := ⟨hd.out.1.below N3, hd.out.2.2.below N3⟩
          clear N1 N2 N3 hZ2 hg3 hd hHeld2 hHeld3 hHeld4 HCl KR1 KR2 KY KY2 KV KV2
          have HI2 : Seal (Inv s w1 N S c10 c7 c8 c9 m10 m8 m9 Z2) := ⟨HI.out.below hb2⟩
          clear hb2 HI
          obtain ⟨gs, A, E, hbw, hOf, hA, hE⟩ := HI2.out
          have hRow := hA.1
          have HFL : Seal (ia * 2 + ([.slice pa3 pn3 pc3, .slice ga3 gn3 gc3] : List Value).length ≤ (A.flatMap Sl.C).length) := ⟨by rw [flat_len hA.2.1]; show ia * 2 + 2 ≤ 6; omega⟩
          have HPut : Seal (Inv s w1 N S c10 c7 c8 c9 m10 m8 m9 (Z2.setRow N (lay (A.flatMap Sl.C) (ia * 2) [.slice pa3 pn3 pc3, .slice ga3 gn3 gc3]).toArray)) := ⟨Inv.putN HNm.out hbw hOf hA hE ha3 (y := ⟨pa3, pn3, pc3, ga3, gn3, gc3, RD⟩) ⟨HP2.out.1, HP2.out.2, HGm.out⟩⟩
          clear hOf hA hE hbw
          go_wp2_with (first
            | (refine wpList_load_mid rfl 25 (.tmp 20) rfl g3 0 rfl [.slice pa3 pn3 pc3, .slice ga3 gn3 gc3] _ r2 ud rfl dev_info ?_)
            | (refine wpList_store_at rfl 25 (.tmp 120) (.tmp 119) rfl N (ia * 2) [.slice pa3 pn3 pc3, .slice ga3 gn3 gc3] rfl rfl 52 (A.flatMap Sl.C) hRow dev_info HFL.out (Sl.one ⟨pa3, pn3, pc3, ga3, gn3, gc3, RD⟩) ?_))
          go_roundw
          case rel => exact ⟨k + 1, by omega, by go_num, HPut⟩
          case measure => simp [intOf]; omega
        · have hzV := hHeld.size
          clear hHeld
          try simp only [Act.put, List.setIfInBounds_toArray, List.set_cons_zero, List.set_cons_succ]
          obtain ⟨g3, hg3⟩ : ∃ g, g = V.heap.size := ⟨_, rfl⟩
          obtain ⟨W4, hW4⟩ : ∃ W4, W4 = V.alloc (.cells #[.slice none 0 0, .slice none 0 0] 25) := ⟨_, rfl⟩
          have hn4 : W4.heap[g3]? = some (.cells #[.slice none 0 0, .slice none 0 0] 25 (0, 0)) := by rw [hW4, hg3]; exact heap_alloc_new V _
          have hl4 : g3 < W4.heap.size := (Array.getElem?_eq_some_iff.1 hn4).1
          have hz4 : Z1.heap.size ≤ g3 := by rw [hg3]; exact hzV
          rw [← hW4] at hHeld2 ⊢
          rw [← hg3]
          clear hW4 hg3 hzV
          refine call_h 6 rfl (by kernel_rfl) 18 #[.agg #[.slice ypa ypn ypc, .slice yga ygn ygc], .agg #[.slice vpa vpn vpc, .slice vga vgn vgc]] (by kernel_rfl) (by go_simp) ?_
          refine (HCl.out W4 hHeld2).mono ?_
          rintro e w5 ⟨pa3, pn3, pc3, ga3, gn3, gc3, rfl, hd, hb⟩
          refine ⟨_, rfl, hHeld2.trans (hb.mono hHeld2.size), fun hHeld3 => ?_⟩
          have hn5 := (hb.block _ hl4).trans hn4
          try simp only [Act.put, List.setIfInBounds_toArray, List.set_cons_zero, List.set_cons_succ]
          refine take_h 7 ?_ rfl (by kernel_rfl) (by kernel_rfl) (by kernel_rfl) (fun _ _ _ h => h) (Or.inl ⟨by kernel_rfl, ?_⟩) (by assumption) ?_
          rotate_left
          · (intro w hSw; (try dsimp only at hSw); go_simp; try (with_reducible rfl))
          try simp only [Act.put, List.setIfInBounds_toArray, List.set_cons_zero, List.set_cons_succ]
          refine take_h 8 ?_ rfl (by kernel_rfl) (by kernel_rfl) (by kernel_rfl) (fun _ _ _ h => h) (Or.inl ⟨by kernel_rfl, ?_⟩) (by assumption) ?_
          rotate_left
          · (intro w hSw; (try dsimp only at hSw); go_simp; try (with_reducible rfl))
          try simp only [Act.put, List.setIfInBounds_toArray, List.set_cons_zero, List.set_cons_succ]
          refine take_h 9 ?_ rfl (by kernel_rfl) (by kernel_rfl) (by kernel_rfl) (fun _ _ _ h => h) (Or.inl ⟨by kernel_rfl, ?_⟩) (by assumption) ?_
          rotate_left
          · (intro w hSw; (try dsimp only at hSw); go_simp; try (with_reducible rfl))
          try simp only [Act.put, List.setIfInBounds_toArray, List.set_cons_zero, List.set_cons_succ]
          refine skip_h 11 (w5.setRow g3 #[.slice pa3 pn3 pc3, .slice ga3 gn3 gc3]) rfl (by kernel_rfl) (by kernel_rfl) (exec_store_row 25 (.tmp 20) (.tmp 114) rfl g3 #[.slice pa3 pn3 pc3, .slice ga3 gn3 gc3] rfl rfl 25 #[.slice none 0 0, .slice none 0 0] hn5 dev_info rfl (by simp [Value.oneCell'])) (below_row hHeld3 hz4 _) (fun hHeld4 => ?_)
          try simp only [Act.put]
          refine take_h 12 ?_ rfl (by kernel_rfl) (by kernel_rfl) (by kernel_rfl) (fun _ _ _ h => h) (Or.inl ⟨by kernel_rfl, ?_⟩) (by assumption) ?_
          rotate_left
          · (intro w hSw; (try dsimp only at hSw); go_simp; try (with_reducible rfl))
          try simp only [Act.put, List.setIfInBounds_toArray, List.set_cons_zero, List.set_cons_succ]
          refine wpAnyH_done (by kernel_rfl) ?_ _
          have hb2 := hHeld4
          have HP2 : Seal (IsPs (w5.setRow g3 #[.slice pa3 pn3 pc3, .slice ga3 gn3 gc3]) pa3 pn3 pc3 RD.P ∧ IsIs (w5.setRow g3 #[.slice pa3 pn3 pc3, .slice ga3 gn3 gc3]) ga3 gn3 gc3 RD.G) := ⟨hd.out.1.setRow' g3 _ (xa := none) (xn := 0) (xc := 0) (r := [.slice none 0 0]) hn5 (by intro v hv; rw [List.mem_singleton.1 hv]; exact ⟨_, _, _, rfl⟩) po_int, hd.out.2.2.setRow' g3 _ (xa := none) (xn := 0) (xc := 0) (r := [.slice none 0 0]) hn5 (by intro v hv; rw [List.mem_singleton.1 hv]; exact ⟨_, _, _, rfl⟩) in_int⟩
          have N2 : (w5.setRow g3 #[.slice pa3 pn3 pc3, .slice ga3 gn3 gc3]).heap[g3]? = some (.cells #[.slice pa3 pn3 pc3, .slice ga3 gn3 gc3] 25 (0, 0)) := setRow_heap _ _ _ _ _ _ hn5
          obtain ⟨Z2, hZ2⟩ : ∃ Z, Z = w5.setRow g3 #[.slice pa3 pn3 pc3, .slice ga3 gn3 gc3] := ⟨_, rfl⟩
          rw [← hZ2] at N2 hb2 HP2 ⊢
          have r2 : Z2.rangeAt g3 0 [.slice pa3 pn3 pc3, .slice ga3 gn3 gc3] := rangeAt_row (cs := [.slice pa3 pn3 pc3, .slice ga3 gn3 gc3]) N2
          clear N2 hZ2 hd hHeld2 hHeld3 hHeld4 HCl KR1 KR2 KY KY2 KV KV2 hn4 hn5 hl4 hz4 hb
          have HI2 : Seal (Inv s w1 N S c10 c7 c8 c9 m10 m8 m9 Z2) := ⟨HI.out.below hb2⟩
          clear hb2 HI
          obtain ⟨gs, A, E, hbw, hOf, hA, hE⟩ := HI2.out
          have hRow := hA.1
          have HFL : Seal (ia * 2 + ([.slice pa3 pn3 pc3, .slice ga3 gn3 gc3] : List Value).length ≤ (A.flatMap Sl.C).length) := ⟨by rw [flat_len hA.2.1]; show ia * 2 + 2 ≤ 6; omega⟩
          have HPut : Seal (Inv s w1 N S c10 c7 c8 c9 m10 m8 m9 (Z2.setRow N (lay (A.flatMap Sl.C) (ia * 2) [.slice pa3 pn3 pc3, .slice ga3 gn3 gc3]).toArray)) := ⟨Inv.putN HNm.out hbw hOf hA hE ha3 (y := ⟨pa3, pn3, pc3, ga3, gn3, gc3, RD⟩) ⟨HP2.out.1, HP2.out.2, HGm.out⟩⟩
          clear hOf hA hE hbw
          go_wp2_with (first
            | (refine wpList_load_mid rfl 25 (.tmp 20) rfl g3 0 rfl [.slice pa3 pn3 pc3, .slice ga3 gn3 gc3] _ r2 ud rfl dev_info ?_)
            | (refine wpList_store_at rfl 25 (.tmp 120) (.tmp 119) rfl N (ia * 2) [.slice pa3 pn3 pc3, .slice ga3 gn3 gc3] rfl rfl 52 (A.flatMap Sl.C) hRow dev_info HFL.out (Sl.one ⟨pa3, pn3, pc3, ga3, gn3, gc3, RD⟩) ?_))
          go_roundw
          case rel => exact ⟨k + 1, by omega, by go_num, HPut⟩
          case measure => simp [intOf]; omega
      · skip
        have eK : xK.tmod 7 = 3 := eK
        clear wK hq7
        obtain ⟨gs, A, E, hbw, hOf, hA, hE⟩ := HI.out
        obtain ⟨y, hy, ry, oky⟩ := hA.at ha3
        have iDv : (Tryd.prog.info? 25).map (·.size) = some (Sl.C y).length := dev_info
        have ud := Tryd.underlying25
        have hRow := hE.1
        have HFL : Seal (ia * 2 + (Sl.C y).length ≤ (E.flatMap Sl.C).length) := ⟨by rw [flat_len hE.2.1]; show ia * 2 + 2 ≤ 6; omega⟩
        have HPut : Seal (Inv s w1 N S c10 c7 c8 c9 m10 m8 m9 (Z1.setRow S (lay (E.flatMap Sl.C) (ia * 2) (Sl.C y)).toArray)) := ⟨Inv.putS HNm.out hbw hOf hA hE ha3 oky⟩
        clear hOf hA hE hy oky hbw
        have r1 : (ia : Int) < 3 := by omega
        go_wp2_with (first
          | (refine wpList_load_mid rfl 25 (.tmp 125) rfl N (ia * 2) rfl (Sl.C y) _ ry ud rfl iDv ?_)
          | (refine wpList_store_at rfl 25 (.tmp 127) (.tmp 126) rfl S (ia * 2) (Sl.C y) rfl rfl 52 (E.flatMap Sl.C) hRow iDv HFL.out (Sl.one y) ?_))
        go_roundw
        case rel => exact ⟨k + 1, by omega, by go_num, HPut⟩
        case measure => simp [intOf]; omega
      · skip
        have eK : xK.tmod 7 = 4 := eK
        clear wK hq7
        obtain ⟨gs, A, E, hbw, hOf, hA, hE⟩ := HI.out
        obtain ⟨y, hy, ry, oky⟩ := hE.at ha3
        have iDv : (Tryd.prog.info? 25).map (·.size) = some (Sl.C y).length := dev_info
        have ud := Tryd.underlying25
        have hRow := hA.1
        have HFL : Seal (ia * 2 + (Sl.C y).length ≤ (A.flatMap Sl.C).length) := ⟨by rw [flat_len hA.2.1]; show ia * 2 + 2 ≤ 6; omega⟩
        have HPut : Seal (Inv s w1 N S c10 c7 c8 c9 m10 m8 m9 (Z1.setRow N (lay (A.flatMap Sl.C) (ia * 2) (Sl.C y)).toArray)) := ⟨Inv.putN HNm.out hbw hOf hA hE ha3 oky⟩
        clear hOf hA hE hy oky hbw
        have r1 : (ia : Int) < 3 := by omega
        go_wp2_with (first
          | (refine wpList_load_mid rfl 25 (.tmp 132) rfl S (ia * 2) rfl (Sl.C y) _ ry ud rfl iDv ?_)
          | (refine wpList_store_at rfl 25 (.tmp 134) (.tmp 133) rfl N (ia * 2) (Sl.C y) rfl rfl 52 (A.flatMap Sl.C) hRow iDv HFL.out (Sl.one y) ?_))
        go_roundw
        case rel => exact ⟨k + 1, by omega, by go_num, HPut⟩
        case measure => simp [intOf]; omega
      · skip
        have eK : xK.tmod 7 = 5 := eK
        clear wK hq7
        obtain ⟨gs, A, E, hbw, hOf, hA, hE⟩ := HI.out
        obtain ⟨⟨ypa, ypn, ypc, yga, ygn, ygc, yD⟩, hyy, ry, oky⟩ := hA.at ha3
        have KOy : Seal (IsPs Z1 ypa ypn ypc yD.P ∧ IsIs Z1 yga ygn ygc yD.G ∧ Gd s yD) := ⟨oky⟩
        have ry : Z1.rangeAt N (ia * 2) [.slice ypa ypn ypc, .slice yga ygn ygc] := ry
        clear hyy oky
        have ud := Tryd.underlying25
        have ut := Tryd.underlying31
        have uD := Tryd.underlying29
        clear hOf hA hE hbw
        have r1 : (ia : Int) < 3 := by omega
        have n0 : Z1.cell? ⟨N, ia * 2, none⟩ = some (.slice ypa ypn ypc) := by have := ry 0 (.slice ypa ypn ypc) rfl; simpa using this
        have hyl := KOy.out.1.llen
        have hy8 := KOy.out.2.2.small
        have hyn : ypn ≤ 8 := by omega
        have HJ0 : Seal (Inv s w1 N S c10 c7 c8 c9 m10 m8 m9 Z1 ∧ IsPs Z1 ypa ypn ypc yD.P) := ⟨HI.out, KOy.out.1⟩
        clear hyl hy8 ry KD
        go_wp2
        go_loopw [142] (fun i wr => ∃ j : Nat, j ≤ ypn ∧ i = .int .i64 j ∧ Seal (Inv s w1 N S c10 c7 c8 c9 m10 m8 m9 wr ∧ IsPs wr ypa ypn ypc yD.P)) (fun i _ => ypn - (intOf i).toNat)
        case atStart => exact ⟨0, by omega, rfl, HJ0⟩
        case round =>
          obtain ⟨wi, rfl⟩ : ∃ z, z = wr := ⟨_, rfl⟩
          obtain ⟨j, hj, rfl, hJ⟩ := hrel
          clear HJ0 n0
          by_cases hlj : j < ypn
          · rcases hJ.out.2.at_ with hz | ⟨g, off, rfl, hr, hg⟩
            · omega
            obtain ⟨x, hx⟩ : ∃ x, yD.P[j]? = some x := ⟨_, List.getElem?_eq_getElem (by have := hJ.out.2.llen; omega)⟩
            have rC := rangeC_row hr hJ.out.2.each hx
            have hsx := KOy.out.2.2.ser x (List.mem_of_getElem? hx)
            have x32 := KOy.out.2.2.p32 x (List.mem_of_getElem? hx)
            obtain ⟨C, hC⟩ : ∃ C, C = x.C := ⟨_, rfl⟩
            obtain ⟨q, hq⟩ : ∃ q, q = x.o := ⟨_, rfl⟩
            obtain ⟨T, hT⟩ : ∃ T, T = serB s q := ⟨_, rfl⟩
            have hxe : x = ⟨q, serB s q⟩ := by cases x; simp only at hsx hq; subst hq; rw [hsx.1]
            have HCp : Seal (C = Po.C ⟨q, serB s q⟩ ∧ T = serB s q) := ⟨by rw [hC, hxe], hT⟩
            have LT : Seal (T.length = 32) := ⟨by rw [hT]; exact serB_len _ _⟩
            have HOr : Seal (0 ≤ q ∧ q < 8) := ⟨by rw [hq]; exact hsx.2⟩
            have IC : Seal ((Tryd.prog.info? 31).map (·.size) = some C.length ∧ ((List.toArray (.int .i64 0 :: .int .u8 0 :: .int .u8 0 :: .int .u8 0 :: .int .u8 0 :: .int .u8 0 :: .int .u8 0 :: .int .u8 0 :: .int .u8 0 :: .int .u8 0 :: .int .u8 0 :: .int .u8 0 :: .int .u8 0 :: .int .u8 0 :: .int .u8 0 :: .int .u8 0 :: .int .u8 0 :: .int .u8 0 :: .int .u8 0 :: .int .u8 0 :: .int .u8 0 :: .int .u8 0 :: .int .u8 0 :: .int .u8 0 :: .int .u8 0 :: .int .u8 0 :: .int .u8 0 :: .int .u8 0 :: .int .u8 0 :: .int .u8 0 :: .int .u8 0 :: .int .u8 0 :: .int .u8 0 :: [] : List Value) : Array Value) : Array Value).size = C.toArray.size ∧ C.toArray.all (·.oneCell') = true) := ⟨by rw [hC]; exact ⟨Po.C_info x32, by rw [posz_len, List.size_toArray, Po.C_len x32], all_oneCell_toArray (Po.C_one _)⟩⟩
            have HSe : Seal (∀ V, Below w.heap.size w V → Calls Tryd.prog 16 #[.int .i64 s, .int .i64 q] V fun e w' => e = .returned (.agg (T.map B).toArray) ∧ Below V.heap.size V w') := ⟨fun V h => by rw [hT]; exact dserial_any s q V (HGl.out _ h) HS.out (by unfold I64; have := HOr.out; omega)⟩
            rw [← hC] at rC
            have q7 : (j : Int) < (ypn : Int) := by omega
            have q8 : (0 : Int) ≤ (j : Int) := by omega
            have hn5 := heap_alloc_new wi (.cells (List.toArray (.int .i64 0 :: .int .u8 0 :: .int .u8 0 :: .int .u8 0 :: .int .u8 0 :: .int .u8 0 :: .int .u8 0 :: .int .u8 0 :: .int .u8 0 :: .int .u8 0 :: .int .u8 0 :: .int .u8 0 :: .int .u8 0 :: .int .u8 0 :: .int .u8 0 :: .int .u8 0 :: .int .u8 0 :: .int .u8 0 :: .int .u8 0 :: .int .u8 0 :: .int .u8 0 :: .int .u8 0 :: .int .u8 0 :: .int .u8 0 :: .int .u8 0 :: .int .u8 0 :: .int .u8 0 :: .int .u8 0 :: .int .u8 0 :: .int .u8 0 :: .int .u8 0 :: .int .u8 0 :: .int .u8 0 :: [] : List Value) : Array Value) 31)
            obtain ⟨gp, hgp⟩ : ∃ g, g = wi.heap.size := ⟨_, rfl⟩
            obtain ⟨V, hV⟩ : ∃ V, V = wi.alloc (.cells C.toArray 31) := ⟨_, rfl⟩
            have hVz : (wi.alloc (.cells (List.toArray (.int .i64 0 :: .int .u8 0 :: .int .u8 0 :: .int .u8 0 :: .int .u8 0 :: .int .u8 0 :: .int .u8 0 :: .int .u8 0 :: .int .u8 0 :: .int .u8 0 :: .int .u8 0 :: .int .u8 0 :: .int .u8 0 :: .int .u8 0 :: .int .u8 0 :: .int .u8 0 :: .int .u8 0 :: .int .u8 0 :: .int .u8 0 :: .int .u8 0 :: .int .u8 0 :: .int .u8 0 :: .int .u8 0 :: .int .u8 0 :: .int .u8 0 :: .int .u8 0 :: .int .u8 0 :: .int .u8 0 :: .int .u8 0 :: .int .u8 0 :: .int .u8 0 :: .int .u8 0 :: .int .u8 0 :: [] : List Value) : Array Value) 31)).setRow wi.heap.size C.toArray = V := by rw [hV]; exact setRow_new wi (.int .i64 0 :: .int .u8 0 :: .int .u8 0 :: .int .u8 0 :: .int .u8 0 :: .int .u8 0 :: .int .u8 0 :: .int .u8 0 :: .int .u8 0 :: .int .u8 0 :: .int .u8 0 :: .int .u8 0 :: .int .u8 0 :: .int .u8 0 :: .int .u8 0 :: .int .u8 0 :: .int .u8 0 :: .int .u8 0 :: .int .u8 0 :: .int .u8 0 :: .int .u8 0 :: .int .u8 0 :: .int .u8 0 :: .int .u8 0 :: .int .u8 0 :: .int .u8 0 :: .int .u8 0 :: .int .u8 0 :: .int .u8 0 :: .int .u8 0 :: .int .u8 0 :: .int .u8 0 :: .int .u8 0 :: [] : List Value) C _
            have hbv : Below wi.heap.size wi V := by rw [hV]; exact below_alloc _ _
            have HJ : Seal (Inv s w1 N S c10 c7 c8 c9 m10 m8 m9 V ∧ IsPs V (some ⟨g, off, none⟩) ypn ypc yD.P) := ⟨hJ.out.1.below hbv, hJ.out.2.below hbv⟩
            have hrV : V.heap[gp]? = some (.cells C.toArray 31 (0, 0)) := by rw [hV, hgp]; exact heap_alloc_new wi _
            have HRV := Seal.mk hrV
            have rP : V.rangeAt gp 0 C := rangeAt_row hrV
            have HTx : Seal (∀ {k : Nat}, Tx c7 m10 m8 m9 k → k < gp) := ⟨fun h => by
              obtain ⟨_, _, _, _, hO, _⟩ := hJ.out.1
              rw [hgp]
              exact hO.tx_lt h⟩
            have hgpn := hgp.symm
            rw [hgpn] at hVz hn5
            have i1 := dg_info T LT.out
            clear hr hg hx hsx x32 hC hq hT hxe hV hbv hJ hgp hrV
            go_wp2_with (first
              | (refine wpList_load_mid rfl 31 (.tmp 144) rfl g (off + j * 33) rfl C _ rC ut rfl IC.out.1 ?_; (try simp only [Act.put, List.setIfInBounds_toArray, List.set_cons_zero, List.set_cons_succ]))
              | ((try rw [hgpn]); refine wpList_store_row rfl 31 (.tmp 23) (.tmp 145) rfl gp C.toArray rfl rfl 31 _ hn5 (by simpa using IC.out.1) IC.out.2.1 IC.out.2.2 ?_; rw [hVz]; clear hVz hn5 hgpn rC; (try simp only [Act.put]))
              | (refine wpList_load_mid rfl 31 (.tmp 23) rfl gp 0 rfl C _ rP ut rfl IC.out.1 ?_; (try simp only [Act.put, List.setIfInBounds_toArray, List.set_cons_zero, List.set_cons_succ])))
            obtain ⟨gs', A', E', hbw', hOf', hA', hE'⟩ := HJ.out.1
            have hgv := give_any s q c10 c7 c8 c9 m10 m8 m9 gs' V hOf' ⟨HNm.out.d1, HNm.out.d2, HNm.out.d3⟩ HOr.out.1 HOr.out.2
            rw [← HCp.out.1] at hgv
            refine hgv.mono ?_
            clear hgv rP
            rintro e w4 ⟨hTn, hh⟩
            rcases hh with ⟨rfl, gs2, hS2⟩ | ⟨rfl, hno⟩
            · have HI4 : Seal (Inv s w1 N S c10 c7 c8 c9 m10 m8 m9 w4 ∧ IsPs w4 (some ⟨g, off, none⟩) ypn ypc yD.P) := ⟨Inv.give HNm.out hbw' hOf' hA' hE' hTn hS2, hOf'.isC hTn HJ.out.2 po_int⟩
              clear hTn hS2 hbw' hOf' hA' hE'
              go_wp2
              go_roundw
              case rel => exact ⟨j + 1, by omega, by go_num, HI4⟩
              case measure => simp [intOf]; omega
            · have HB4 : Seal (Below w.heap.size w w4) := ⟨(HB1.out.trans (hbw'.mono HB1.out.size)).trans ((HNm.out.below hbw'.size hTn).mono HB1.out.size)⟩
              have hrow4 : w4.heap[gp]? = some (.cells C.toArray 31 (0, 0)) := (hTn.block _ (Array.getElem?_eq_some_iff.1 HRV.out).1 (fun h => by have := HTx.out h; omega)).trans HRV.out
              have o3 : w4.cell? ⟨gp, 0, none⟩ = some (.int .i64 q) := by have h := rangeAt_row hrow4; rw [HCp.out.1] at h; have := h 0 (.int .i64 q) rfl; simpa using this
              have d3 : w4.rangeAt gp 1 (T.map B) := by
                have h := rangeAt_row hrow4
                rw [HCp.out.1] at h
                have h2 := rangeAt_drop h 1
                rw [HCp.out.2]
                simpa [Po.C] using h2
              have HCo : Seal (∃ i j : Nat, i < j ∧ j < 8 ∧ serB s (i : Nat) = serB s (j : Nat)) := ⟨by
                obtain ⟨o', h0', h8', hne, es⟩ := hno
                obtain ⟨j', hj'⟩ : ∃ j : Nat, o' = (j : Int) := ⟨o'.toNat, by omega⟩
                subst hj'
                obtain ⟨i', hi'⟩ : ∃ j : Nat, q = (j : Int) := ⟨(q : Int).toNat, by have := HOr.out; omega⟩
                rw [hi'] at es hne
                have := HOr.out
                rcases Nat.lt_or_gt_of_ne (show i' ≠ j' from fun h => hne (by rw [h])) with h | h
                · exact ⟨i', j', h, by omega, es.symm⟩
                · exact ⟨j', i', h, by omega, es⟩⟩
              clear hno
              clear hTn hbw' hOf' hA' hE' hrow4
              have QD : ∀ w, (Op.equalIn 10000 29 (.agg (T.map B).toArray) (.agg (T.map B).toArray)).run Tryd.prog w = .ok true w := fun w => by
                rw [show (10000 : Nat) = 9998 + 1 + 1 from rfl, eqDig_s 9998 T T LT.out LT.out, beq_self_eq_true]
              go_wp2_with fail
              refine wp_region_held_drew (S := fun w' => w'.cell? ⟨gp, 0, none⟩ = some (.int .i64 q) ∧ w'.rangeAt (gp) 1 (T.map B)) (by kernel_rfl) ⟨o3, d3⟩ (fun hHeld => ?_)
              obtain ⟨V, hV⟩ : ∃ V, V = w4.drew := ⟨_, rfl⟩
              have HBv : Seal (Below w.heap.size w V) := ⟨by rw [hV]; exact HB4.out.trans ((bel_drew _).mono HB4.out.size)⟩
              rw [← hV] at hHeld ⊢
              clear hV o3 d3
              refine take_h 0 ?_ rfl (by kernel_rfl) (by kernel_rfl) (by kernel_rfl) (fun _ _ _ h => h) (Or.inl ⟨by kernel_rfl, ?_⟩) (by assumption) ?_
              rotate_left
              · (intro w hSw; (try dsimp only at hSw); go_simp; try (with_reducible rfl))
              try simp only [Act.put, List.setIfInBounds_toArray, List.set_cons_zero, List.set_cons_succ]
              refine take_h 1 ?_ rfl (by kernel_rfl) (by kernel_rfl) (by kernel_rfl) (fun _ _ _ h => h) (Or.inl ⟨by kernel_rfl, ?_⟩) (by assumption) ?_
              rotate_left
              · (intro w hSw; (try dsimp only at hSw); go_simp; try (with_reducible rfl))
              try simp only [Act.put, List.setIfInBounds_toArray, List.set_cons_zero, List.set_cons_succ]
              refine take_h 2 ?_ rfl (by kernel_rfl) (by kernel_rfl) (by kernel_rfl) (fun _ _ _ h => h) (Or.inl ⟨by kernel_rfl, ?_⟩) (by assumption) ?_
              rotate_left
              · (intro w hSw; (try dsimp only at hSw); go_simp; try (with_reducible rfl))
              try simp only [Act.put, List.setIfInBounds_toArray, List.set_cons_zero, List.set_cons_succ]
              refine take_h 4 ?_ rfl (by kernel_rfl) (by kernel_rfl) (by kernel_rfl) (fun _ _ _ h => h) (Or.inl ⟨by kernel_rfl, ?_⟩) (by assumption) ?_
              rotate_left
              · (intro w hSw; (try dsimp only at hSw); go_simp; try (with_reducible rfl))
              try simp only [Act.put, List.setIfInBounds_toArray, List.set_cons_zero, List.set_cons_succ]
              refine take_h 5 _ rfl (by kernel_rfl) (by kernel_rfl) (by kernel_rfl) (fun _ _ _ h => h) (yieldsIf_load_mid (by kernel_rfl) 29 (.tmp 154) rfl (gp) 1 rfl (T.map B) _ (fun w hSw => hSw.2) uD rfl i1) (by assumption) ?_
              try simp only [Act.put, List.setIfInBounds_toArray, List.set_cons_zero, List.set_cons_succ]
              refine call_h 3 rfl (by kernel_rfl) 16 #[.int .i64 s, .int .i64 q] (by kernel_rfl) (by go_simp) ?_
              refine (HSe.out V HBv.out).mono ?_
              rintro e V2 ⟨rfl, hb2⟩
              have HBv2 : Seal (Below w.heap.size w V2) := ⟨HBv.out.trans (hb2.mono HBv.out.size)⟩
              refine ⟨_, rfl, ⟨cell_below' hb2 hHeld.1, rangeAt_below' hHeld.2 hb2⟩, fun hHeld2 => ?_⟩
              clear hHeld hb2
              try simp only [Act.put, List.setIfInBounds_toArray, List.set_cons_zero, List.set_cons_succ]
              refine take_h 6 ?_ rfl (by kernel_rfl) (by kernel_rfl) (by kernel_rfl) (fun _ _ _ h => h) (Or.inl ⟨by kernel_rfl, ?_⟩) (by assumption) ?_
              rotate_left
              · (intro w hSw; (try dsimp only at hSw); go_simp; try (with_reducible rfl))
              try simp only [Act.put, List.setIfInBounds_toArray, List.set_cons_zero, List.set_cons_succ]
              refine take_h 7 ?_ rfl (by kernel_rfl) (by kernel_rfl) (by kernel_rfl) (fun _ _ _ h => h) (Or.inl ⟨by kernel_rfl, ?_⟩) (by assumption) ?_
              rotate_left
              · (intro w hSw; (try dsimp only at hSw); go_simp; try (with_reducible rfl))
              try simp only [Act.put, List.setIfInBounds_toArray, List.set_cons_zero, List.set_cons_succ]
              refine take_h 8 ?_ rfl (by kernel_rfl) (by kernel_rfl) (by kernel_rfl) (fun _ _ _ h => h) (Or.inl ⟨by kernel_rfl, ?_⟩) (by assumption) ?_
              rotate_left
              · (intro w hSw; (try dsimp only at hSw); go_simp; try (with_reducible rfl))
              try simp only [Act.put, List.setIfInBounds_toArray, List.set_cons_zero, List.set_cons_succ]
              refine call_h 9 rfl (by kernel_rfl) 29 #[.int .i64 s] (by kernel_rfl) (by go_simp) ?_
              refine (collides_any s V2 (HGl.out _ HBv2.out) HS.out HCo.out).mono ?_
              rintro e V3 ⟨rfl, hb3⟩
              have HBv3 : Seal (Below w.heap.size w V3) := ⟨HBv2.out.trans (hb3.mono HBv2.out.size)⟩
              refine ⟨_, rfl, ⟨cell_below' hb3 hHeld2.1, rangeAt_below' hHeld2.2 hb3⟩, fun hHeld3 => ?_⟩
              clear hHeld2 hb3
              try simp only [Act.put, List.setIfInBounds_toArray, List.set_cons_zero, List.set_cons_succ]
              refine take_h 10 ?_ rfl (by kernel_rfl) (by kernel_rfl) (by kernel_rfl) (fun _ _ _ h => h) (Or.inl ⟨by kernel_rfl, ?_⟩) (by assumption) ?_
              rotate_left
              · (intro w hSw; (try dsimp only at hSw); go_simp; try (with_reducible rfl))
              try simp only [Act.put, List.setIfInBounds_toArray, List.set_cons_zero, List.set_cons_succ]
              refine take_h 11 ?_ rfl (by kernel_rfl) (by kernel_rfl) (by kernel_rfl) (fun _ _ _ h => h) (Or.inl ⟨by kernel_rfl, ?_⟩) (by assumption) ?_
              rotate_left
              · (intro w hSw; (try dsimp only at hSw); go_simp; try (with_reducible rfl))
              try simp only [Act.put, List.setIfInBounds_toArray, List.set_cons_zero, List.set_cons_succ]
              refine wpAnyH_done (by kernel_rfl) ?_ _
              clear hHeld3 QD
              go_wp2
              go_ret
              exact ⟨rfl, HBv3.out⟩
          · obtain rfl : ypn = j := by omega
            have q7 : ¬ (ypn : Int) < (ypn : Int) := by omega
            have HF := Seal.mk hJ.out.1
            clear hJ
            go_wp2
            go_roundw
            case rel => exact ⟨k + 1, by omega, by go_num, HF⟩
            case measure => simp [intOf]; omega
      · skip
        have eK : xK.tmod 7 = 6 := eK
        clear wK hq7
        obtain ⟨gs, A, E, hbw, hOf, hA, hE⟩ := HI.out
        obtain ⟨⟨ypa, ypn, ypc, yga, ygn, ygc, yD⟩, hyy, ry, oky⟩ := hA.at ha3
        have KOy : Seal (IsPs Z1 ypa ypn ypc yD.P ∧ IsIs Z1 yga ygn ygc yD.G ∧ Gd s yD) := ⟨oky⟩
        have ry : Z1.rangeAt N (ia * 2) [.slice ypa ypn ypc, .slice yga ygn ygc] := ry
        clear hyy oky
        have ud := Tryd.underlying25
        clear hOf hA hE hbw
        have r1 : (ia : Int) < 3 := by omega
        obtain ⟨RD, hRD⟩ : ∃ z, z = gotD yD (io : Nat) := ⟨_, rfl⟩
        obtain ⟨er, her⟩ : ∃ e, e = gotE yD (io : Nat) := ⟨_, rfl⟩
        have HG3 := KOy.out.2.2.got (io : Nat)
        rw [← hRD, ← her] at HG3
        have HCl : Seal (Calls Tryd.prog 20 #[.agg #[.slice ypa ypn ypc, .slice yga ygn ygc], .int .i64 (io : Nat)] Z1 (DevsC RD er Z1)) := ⟨by
          have h := dgot_any ypa yga ypn ypc ygn ygc yD (io : Nat) Z1 KOy.out.1 KOy.out.2.2.p32 KOy.out.2.1 (by have := KOy.out.2.1.llen; have := KOy.out.2.2.got_small; omega)
          rw [← hRD, ← her] at h
          exact dev_c h⟩
        have HGs := Seal.mk HG3
        clear hRD her HG3
        go_wp2_with (first
          | (refine wpList_load_mid rfl 25 (.tmp 166) rfl N (ia * 2) rfl [.slice ypa ypn ypc, .slice yga ygn ygc] _ ry ud rfl dev_info ?_))
        refine HCl.out.mono ?_
        clear HCl
        rintro e w3 ⟨pa3, pn3, pc3, ga3, gn3, gc3, rfl, hd, hb⟩
        obtain ⟨N1, N2, N3⟩ := one_new w3 #[.slice pa3 pn3 pc3, .slice ga3 gn3 gc3]
        have Z1' := Seal.mk N1
        obtain ⟨Z2, hZ2⟩ : ∃ Z, Z = (w3.alloc (.cells #[.slice none 0 0, .slice none 0 0] 25)).setRow w3.heap.size #[.slice pa3 pn3 pc3, .slice ga3 gn3 gc3] := ⟨_, rfl⟩
        rw [← hZ2] at N2 N3
        have HI2 : Seal (Inv s w1 N S c10 c7 c8 c9 m10 m8 m9 Z2) := ⟨(HI.out.below hb).below N3⟩
        have HZ2 := Seal.mk hZ2
        obtain ⟨g3, hg3⟩ : ∃ g, g = w3.heap.size := ⟨_, rfl⟩
        have hg3' := hg3.symm
        rw [hg3'] at N2 Z1' HZ2
        have r2 : Z2.rangeAt g3 0 [.slice pa3 pn3 pc3, .slice ga3 gn3 gc3] := rangeAt_row (cs := [.slice pa3 pn3 pc3, .slice ga3 gn3 gc3]) N2
        have HP2 : Seal (IsPs Z2 pa3 pn3 pc3 RD.P ∧ IsIs Z2 ga3 gn3 gc3 RD.G) := ⟨hd.out.1.below N3, hd.out.2.2.below N3⟩
        clear N1 N2 N3 hZ2 hd hb hg3 HI
        rcases HGs.out with ⟨he, _⟩ | ⟨he, hgd2⟩
        · subst he
          clear HGs
          go_wp2_with (first
            | ((try rw [hg3']); refine wpList_store_row rfl 25 (.tmp 24) (.tmp 170) rfl g3 #[.slice pa3 pn3 pc3, .slice ga3 gn3 gc3] rfl rfl 25 _ Z1'.out dev_info rfl (by simp [Value.oneCell']) ?_; rw [← HZ2.out]; clear HZ2 Z1'; (try simp only [Act.put])))
          go_roundw
          case rel => exact ⟨k + 1, by omega, by go_num, HI2⟩
          case measure => simp [intOf]; omega
        · subst he
          obtain ⟨gs, A, E, hbw, hOf, hA, hE⟩ := HI2.out
          have hRow := hA.1
          have HFL : Seal (ia * 2 + ([.slice pa3 pn3 pc3, .slice ga3 gn3 gc3] : List Value).length ≤ (A.flatMap Sl.C).length) := ⟨by rw [flat_len hA.2.1]; show ia * 2 + 2 ≤ 6; omega⟩
          have HPut : Seal (Inv s w1 N S c10 c7 c8 c9 m10 m8 m9 (Z2.setRow N (lay (A.flatMap Sl.C) (ia * 2) [.slice pa3 pn3 pc3, .slice ga3 gn3 gc3]).toArray)) := ⟨Inv.putN HNm.out hbw hOf hA hE ha3 (y := ⟨pa3, pn3, pc3, ga3, gn3, gc3, RD⟩) ⟨HP2.out.1, HP2.out.2, hgd2⟩⟩
          clear hOf hA hE hbw
          clear HGs hgd2
          go_wp2_with (first
            | ((try rw [hg3']); refine wpList_store_row rfl 25 (.tmp 24) (.tmp 170) rfl g3 #[.slice pa3 pn3 pc3, .slice ga3 gn3 gc3] rfl rfl 25 _ Z1'.out dev_info rfl (by simp [Value.oneCell']) ?_; rw [← HZ2.out]; clear HZ2 Z1'; (try simp only [Act.put]))
            | (refine wpList_load_mid rfl 25 (.tmp 24) rfl g3 0 rfl [.slice pa3 pn3 pc3, .slice ga3 gn3 gc3] _ r2 ud rfl dev_info ?_)
            | (refine wpList_store_at rfl 25 (.tmp 176) (.tmp 175) rfl N (ia * 2) [.slice pa3 pn3 pc3, .slice ga3 gn3 gc3] rfl rfl 52 (A.flatMap Sl.C) hRow dev_info HFL.out (Sl.one ⟨pa3, pn3, pc3, ga3, gn3, gc3, RD⟩) ?_))
          go_roundw
          case rel => exact ⟨k + 1, by omega, by go_num, HPut⟩
          case measure => simp [intOf]; omega
    · skip
      obtain rfl : k = n := by omega
      have q5 : ¬ (k : Int) < (k : Int) := by omega
      obtain ⟨gs, A, E, hbw, ⟨u, ua, un, uc, fs, fa, fg, O1, R1, D1, M10, S10, M8, F8, M9, F9⟩, _, _⟩ := hI.out
      obtain ⟨G, hG⟩ : ∃ G, G = gs.length := ⟨_, rfl⟩
      obtain rfl : un = G := by rw [hG, ← O1.len]; exact D1.llen.symm
      rw [← hG] at M8 M9
      have hU := O1.used
      have HBo : Seal (Below w.heap.size w wo) := ⟨HB1.out.trans (hbw.mono HB1.out.size)⟩
      have HR := Seal.mk R1
      have HDu := Seal.mk D1
      have HM8 := Seal.mk M8
      have HM9 := Seal.mk M9
      obtain ⟨D, hown, hsz, hsay⟩ := M9
      have HS8 : Seal (∀ x kl, keyOf Tryd.prog 3 (.int .i64 x) = some kl → Maps.has D kl = true → fa (.int .i64 x) = some (.int .i64 1)) := ⟨fun x kl hk hh => by
        rw [(hsay _ kl hk).2] at hh
        by_cases hm : x ∈ gs
        · exact (F8 x).1 hm
        · rw [(F9 x).2 hm] at hh
          cases hh⟩
      have v9 := R1.cells.2.2.2
      have hD := own_exact hown
      rw [hsz] at hD
      clear hI hbw R1 D1 M8 F8 F9 hsay O1 S10 M10 hsz hG hown HLs HOK HNm HGl
      go_wp2_with (at_range; refine wpList_range_own _ rfl _ 54 rfl 3 4 int_keys Tryd.underlying54 _ m9 un D rfl hD ?_; intro w0 hrg0 hg0 hs0)
      try go_frame
      clear hD v9
      go_loopw [26] (fun _ wr => ∃ (left : Lit → Bool) (cnt : Nat), wr.ranges Tryd.prog 3 rv m9 wo.heap.size un D left cnt ∧ Seal (∀ kl, left kl = true → Maps.has D kl = true) ∧ Seal (wo.grownBy wr none)) (fun _ wr => wr.rangeLeft m9 wo.heap.size)
      case atStart => exact ⟨_, _, hrg0, ⟨fun _ h => h⟩, ⟨hg0⟩⟩
      case round =>
        obtain ⟨wl, rfl⟩ : ∃ z, z = wr := ⟨_, rfl⟩
        obtain ⟨left, cnt, hrg, HL, HGr⟩ := hrel
        clear hrg0 hg0 hs0
        go_wp2_with (at_next; refine wpList_next_ranges _ rfl _ rfl 3 int_keys rv (Value.int .i64) (fun v => v) (fun key kl hkey => by obtain ⟨x, rfl, _⟩ := Maps.keyOf_int_inv Tryd.underlying3 hkey; exact ⟨x, rfl⟩) (fun v y _ => ⟨v, rfl⟩) m9 wo.heap.size un D left cnt rfl hrg ?_ ?_)
        · intro hc0 hl0
          have hbr : Below wo.heap.size wo wl := ⟨HGr.out.os, HGr.out.tape, HGr.out.output, HGr.out.size, fun k hk => HGr.out.block k hk (by simp)⟩
          have R2 := HR.out.stay (rowsStay_below hbr)
          obtain ⟨v10, v7, v8, v9⟩ := R2.cells
          have M8' := HM8.out.below hbr
          have M9' := HM9.out.below hbr
          have D2 := HDu.out.of_heap hbr
          have HUs := Seal.mk (rused_any ua un uc u wl D2)
          have HBl : Seal (Below w.heap.size w wl) := ⟨HBo.out.trans (hbr.mono HBo.out.size)⟩
          clear hrg HL HGr hbr R2 v10 hl0 hc0
          go_wp2_with (first
            | (refine wpList_lenN rfl (.tmp 188) 53 rfl 3 3 Tryd.underlying53 m8 un fa rfl M8' ?_; (try simp only [Act.put, List.setIfInBounds_toArray, List.set_cons_zero, List.set_cons_succ]))
            | (refine wpList_lenN rfl (.tmp 190) 54 rfl 3 4 Tryd.underlying54 m9 un fg rfl M9' ?_; (try simp only [Act.put, List.setIfInBounds_toArray, List.set_cons_zero, List.set_cons_succ]))
            | (refine wpList_lenN (by kernel_rfl) (.tmp 196) 54 rfl 3 4 Tryd.underlying54 m9 un fg rfl M9' ?_; (try simp only [Act.put, List.setIfInBounds_toArray, List.set_cons_zero, List.set_cons_succ])))
          refine HUs.out.mono ?_
          rintro e w' ⟨rfl, hb⟩
          rw [hU]
          go_wp2
          go_ret
          exact ⟨rfl, HBl.out.trans (hb.mono HBl.out.size)⟩
        · intro x c kl y1 y2 w2 cnt1 hkey hlk hrv hat hrg1 hlt1 hg1 hs1 hen
          have hm0 : wl.rangeLeft m9 wo.heap.size = cnt := hrg.left_eq
          have hfa := HS8.out x kl hkey (HL.out kl hlk)
          have HGr2 : Seal (wo.grownBy w2 none) := ⟨HGr.out.andThen hg1 (fun j hj => by cases hj; exact .inl (Nat.le_refl _))⟩
          have HL2 : Seal (∀ kl', (left kl' && !kl'.sameKey kl) = true → Maps.has D kl' = true) := ⟨fun kl' h => HL.out kl' (by rw [Bool.and_eq_true] at h; exact h.1)⟩
          have hbr : Below wo.heap.size wo w2 := ⟨HGr2.out.os, HGr2.out.tape, HGr2.out.output, HGr2.out.size, fun k hk => HGr2.out.block k hk (by simp)⟩
          have v8 := (HR.out.stay (rowsStay_below hbr)).cells.2.2.1
          have M8' := HM8.out.below hbr
          have HRg := Seal.mk hrg1
          clear hrg HL HGr hbr hlk hrv hat hg1 hs1 hrg1
          go_wp2_with (refine wpList_look1N rfl (.tmp 184) (.tmp 185) 53 rfl 3 3 int_keys Tryd.underlying53 (zero_int _) m8 un fa rfl M8' (.int .i64 x) rfl hkey (.int .i64 1) (by rw [hfa]; rfl) ?_; (try simp only [Act.put, List.setIfInBounds_toArray, List.set_cons_zero, List.set_cons_succ]))
          go_roundw
          case rel => exact ⟨_, cnt1, HRg.out, HL2, HGr2⟩
          case measure => rw [hm0, HRg.out.left_eq]; omega
end Frk
