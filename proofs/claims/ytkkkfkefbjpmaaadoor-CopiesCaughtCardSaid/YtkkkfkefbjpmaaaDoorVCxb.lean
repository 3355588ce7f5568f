/- Law 51: the program's lies, Find, Trust; the reference's order: joined. -/
import Derived.Test.YtkkkfkefbjpmaaaDoorVCxa
import Derived.Test.YtkkkfkefbjpmaaaDoorVEnv
import Derived.Deep.Cut
import Derived.Test.YtkkkfkefbjpmaaaDoorVHab
namespace Frk
open Go Go.RowKit Go.Proofs
set_option maxRecDepth 100000
attribute [local go_sem] Oper.semAt_some

theorem zeroHd (w : World) : (zeroValue 29).run Tryd.prog w = .ok (.agg (List.toArray (.int .i64 0 :: .int .i64 0 :: .int .i64 0 :: .int .i64 0 :: .int .i64 0 :: .int .i64 0 :: .int .i64 0 :: .int .u8 0 :: .int .u8 0 :: .int .u8 0 :: .int .u8 0 :: .int .u8 0 :: .int .u8 0 :: .int .u8 0 :: .int .u8 0 :: .int .u8 0 :: .int .u8 0 :: .int .u8 0 :: .int .u8 0 :: .int .u8 0 :: .int .u8 0 :: .int .u8 0 :: .int .u8 0 :: .int .u8 0 :: .int .u8 0 :: .int .u8 0 :: .int .u8 0 :: .int .u8 0 :: .int .u8 0 :: .int .u8 0 :: .int .u8 0 :: .int .u8 0 :: .int .u8 0 :: .int .u8 0 :: .int .u8 0 :: .int .u8 0 :: .int .u8 0 :: .int .u8 0 :: .int .u8 0 :: .int .i64 0 :: .int .i64 0 :: .int .i64 0 :: [] : List Value) : Array Value)) w := by kernel_rfl

theorem zeroBl (w : World) : (zeroValue 4).run Tryd.prog w = .ok (.bool false) w := by kernel_rfl

set_option maxHeartbeats 8000000 in
theorem clies_any (n c kn kc : Nat) (a ka : Option Addr) (l : List Hd) (ks : List Int) (w : World) (hG : Glob w) (hl : IsHs w a n c l) (hk : IsKs w ka kn kc ks) :
    Calls Tryd.prog 71 #[.slice ka kn kc, .slice a n c] w fun e w' => ∃ b, e = .returned (.map (some b)) ∧ Seal (w.heap.size ≤ b ∧ Below w.heap.size w w' ∧ ∃ m f, m ≤ 5000 ∧ MapIs w' Tryd.prog 3 b m f ∧ fdV (fdF (sgd ks l)) f) := by
  have hmm := @run_makeMap Tryd.prog
  obtain ⟨H, hH⟩ : ∃ H, H = w.heap.size := ⟨_, rfl⟩
  have HA := Seal.mk (And.intro hG (And.intro hl hk))
  clear hG hl hk
  refine (callsIn_wide (n := 3)).1 ?_
  refine callsIn_of_wp_marks Tryd.func71 rfl trivial ?_ rfl
  simp only [Tryd.ntmps71, List.size_toArray, List.length_cons, List.length_nil, Nat.reduceAdd, Nat.reduceSub, Array.replicate_succ, Array.replicate_zero, List.push_toArray, List.append_toArray, List.nil_append, List.cons_append]
  refine wpIn_wide.2 ?_
  obtain ⟨X, hX⟩ : ∃ X : World, X = ((((((w.alloc (.map #[] 0)).alloc (.cells #[.map (some w.heap.size)] 149)).alloc (.map #[] 0)).alloc (.cells #[.map (some (w.heap.size + 1 + 1))] 150)).alloc (.map #[] 0)).alloc (.cells #[.map (some (w.heap.size + 1 + 1 + 1 + 1))] 116)) := ⟨_, rfl⟩
  have hXs : X.heap.size = H + 6 := by rw [hX, hH]; simp
  have hXb : Below H w X := by
    rw [hX, hH]
    exact ((((((Below.refl _ w).alloc (Nat.le_refl _) _).alloc (by simp) _).alloc (by simp; omega) _).alloc (by simp; omega) _).alloc (by simp; omega) _).alloc (by simp; omega) _
  have hX0 : LR w H [] X := by
    rw [hX, hH]
    have b0 : MapIs (w.alloc (.map #[] 0)) Tryd.prog 152 w.heap.size 0 (fun _ => none) := mapIs_made _ _ _
    have b2 := mapIs_made ((w.alloc (.map #[] 0)).alloc (.cells #[.map (some w.heap.size)] 149)) Tryd.prog 152
    have b4 := mapIs_made ((((w.alloc (.map #[] 0)).alloc (.cells #[.map (some w.heap.size)] 149)).alloc (.map #[] 0)).alloc (.cells #[.map (some (w.heap.size + 1 + 1))] 150)) Tryd.prog 3
    have c1 := heap_alloc_new (w.alloc (.map #[] 0)) (.cells #[.map (some w.heap.size)] 149)
    have c3 := heap_alloc_new (((w.alloc (.map #[] 0)).alloc (.cells #[.map (some w.heap.size)] 149)).alloc (.map #[] 0)) (.cells #[.map (some (w.heap.size + 1 + 1))] 150)
    have c5 := heap_alloc_new (((((w.alloc (.map #[] 0)).alloc (.cells #[.map (some w.heap.size)] 149)).alloc (.map #[] 0)).alloc (.cells #[.map (some (w.heap.size + 1 + 1))] 150)).alloc (.map #[] 0)) (.cells #[.map (some (w.heap.size + 1 + 1 + 1 + 1))] 116)
    simp only [size_alloc] at b2 b4 c1 c3 c5
    have up : ∀ (W : World) (o : Obj) (j : Nat) (v : Obj), W.heap[j]? = some v → (W.alloc o).heap[j]? = some v := fun W o j v h => (Below.heap_alloc W _ _ (Array.getElem?_eq_some_iff.1 h).1).trans h
    refine ⟨up _ _ _ _ (up _ _ _ _ (up _ _ _ _ (up _ _ _ _ c1))), up _ _ _ _ (up _ _ _ _ c3), c5, ⟨_, ((((b0.alloc _).alloc _).alloc _).alloc _).alloc _, fun h => rfl⟩, ⟨_, ((b2.alloc _).alloc _).alloc _, fun h => rfl⟩, ⟨_, b4.alloc _, fun o => rfl⟩, ?_⟩
    rw [hX, hH] at hXb; exact hXb
  go_wp2_with fail
  rw [← hX, ← hH]
  have HH := Seal.mk hH
  clear hX hmm
  refine (csigned_any a ka n c kn kc X).mono ?_
  rintro e Y0 ⟨rfl, hY⟩
  obtain ⟨Y, rfl⟩ : ∃ Y, Y = Y0 := ⟨_, rfl⟩
  have hYb : Below H w Y := by rw [← hY]; exact (hXb.alloc (by omega) _).alloc (by rw [size_alloc]; omega) _
  obtain ⟨gy, hgy⟩ : ∃ gy, gy = X.heap.size := ⟨_, rfl⟩
  have hYs : Y.heap.size = H + 8 := by rw [← hY]; simp; omega
  have hY1 : Y.cell? ⟨gy + 1, 0, none⟩ = some (.slice a n c) := by
    have h := heap_alloc_new (X.alloc (.cells #[.slice ka kn kc] 65)) (.cells #[.slice a n c] 66)
    rw [size_alloc] at h
    rw [← hY, hgy, cell_of_row _ _ _ _ _ _ h]; rfl
  have hY2 : Y.cell? ⟨gy, 0, none⟩ = some (.slice ka kn kc) := by
    have h := heap_alloc_new X (.cells #[.slice ka kn kc] 65)
    rw [← hY, hgy, cell_of_row _ _ _ _ _ _ ((Below.heap_alloc _ _ _ (by rw [size_alloc]; omega)).trans h)]; rfl
  have hAY : SgA Y (gy + 1) gy a n c l ka kn kc ks := ⟨hY1, hY2, HA.out.2.1.below (hYb.mono (by omega)), HA.out.2.2.below (hYb.mono (by omega)), HA.out.1.below (hYb.mono (by omega))⟩
  have HSeq := Seal.mk (signed_mem 2 (gy + 1) gy n c kn kc a ka l ks Y hAY)
  have HL0 : Seal (LR w H [] Y) := ⟨by
    rw [← hY]
    exact (hX0.grown (World.grownBy_alloc _ _ none) (fun b e => by cases e)).grown (World.grownBy_alloc _ _ none) (fun b e => by cases e)⟩
  have HMi : Seal (∀ r, SgM (gy + 1) gy a n ka kn r → r < Y.heap.size ∧ (r < H ∨ H + 6 ≤ r)) := ⟨fun r hr => ⟨hAY.lt hr, by
    have hA := HA.out
    rcases hr with rfl | rfl | ⟨h0, o, e⟩ | ⟨h0, o, e⟩ | hr
    · right; omega
    · right; omega
    · left
      rcases hA.2.1.at_ with h1 | ⟨g, o', e', _, hg⟩
      · omega
      · rw [e] at e'; cases e'; omega
    · left
      rcases hA.2.2.at_ with h1 | ⟨g, o', e', _, hg⟩
      · omega
      · rw [e] at e'; cases e'; omega
    · left
      rcases hr with rfl | rfl
      · have := block_lt_of_cell (hA.1.start 0 _ (List.getElem?_eq_getElem (by decide))); dsimp only at this; omega
      · have := block_lt_of_cell (hA.1.nums 0 _ (List.getElem?_eq_getElem (by decide))); dsimp only at this; omega⟩⟩
  have HY := Seal.mk (And.intro hYb (And.intro hYs hgy))
  have HN : Seal (l.length = n ∧ n ≤ 5000 ∧ ∀ h ∈ l, h.ok) := ⟨HA.out.2.1.llen, HA.out.2.1.lmax, HA.out.2.1.each⟩
  rw [← hgy]
  clear hH hY hXs hXb hX0 hYb hYs hY1 hY2 hAY hgy HA
  go_wp2_with fail
  refine (wpIn_wide (n := 3)).1 ?_
  refine wpIn_rangeFunc_kept rfl (by decide) (gf := 110) (lb := #[.pointer (some ⟨gy + 1, 0, none⟩), .pointer (some ⟨gy, 0, none⟩)]) rfl trivial (enters_of Tryd.func110 (by kernel_rfl) rfl)
    HSeq.out (fun r hr => (HMi.out r hr).1) (fun x => rfl) (fun _ _ _ _ _ _ h _ _ => h) (fun _ _ _ _ _ h _ => h)
    (fun pre W => LR w H pre W) ?own ?none HL0.out
    (fun x Wa => { tmps := #[.slice ka kn kc, .slice a n c, undef, undef, .map none, .pointer (some ⟨H + 1, 0, none⟩), .pointer (some ⟨H + 1 + 1 + 1, 0, none⟩), .pointer (some ⟨H + 1 + 1 + 1 + 1 + 1, 0, none⟩), .pointer (some ⟨Wa.heap.size, 0, none⟩), undef, undef, undef, undef, undef, undef, .map (some H), .map (some (H + 1 + 1)), .map (some (H + 1 + 1 + 1 + 1)), .slice ka kn kc, .slice a n c, (.func (.func 110) #[] #[.pointer (some ⟨gy + 1, 0, none⟩), .pointer (some ⟨gy, 0, none⟩)]), .agg x.C.toArray, undef, undef, undef, undef, undef, undef, undef, undef, undef, undef, undef, undef, undef, undef, undef, undef, undef, undef, undef, undef, undef, undef, undef, undef, undef, undef, undef, undef, undef, undef, undef, undef, undef, undef, undef, undef, undef, undef, undef, undef, undef, undef, undef], defers := [] })
    (fun x W => W.alloc (.cells x.C.toArray 29)) (fun x W => below_alloc W _) ?assign ?body ?done
  case own =>
    rintro pre A B' hA hg ho
    exact hA.grown hg (fun b e => by have := Option.some.inj e; have := HY.out.2.1; omega)
  case none =>
    rintro pre A B' hA hg
    exact hA.grown hg (fun b e => by cases e)
  case assign =>
    rintro t sz pre x W K ⟨r, hr⟩ hK
    have ok : x.ok := HN.out.2.2 x (List.mem_filter.1 (show x ∈ sgd ks l by rw [hr]; simp)).1
    have hn := heap_alloc_new W (.cells (List.toArray (.int .i64 0 :: .int .i64 0 :: .int .i64 0 :: .int .i64 0 :: .int .i64 0 :: .int .i64 0 :: .int .i64 0 :: .int .u8 0 :: .int .u8 0 :: .int .u8 0 :: .int .u8 0 :: .int .u8 0 :: .int .u8 0 :: .int .u8 0 :: .int .u8 0 :: .int .u8 0 :: .int .u8 0 :: .int .u8 0 :: .int .u8 0 :: .int .u8 0 :: .int .u8 0 :: .int .u8 0 :: .int .u8 0 :: .int .u8 0 :: .int .u8 0 :: .int .u8 0 :: .int .u8 0 :: .int .u8 0 :: .int .u8 0 :: .int .u8 0 :: .int .u8 0 :: .int .u8 0 :: .int .u8 0 :: .int .u8 0 :: .int .u8 0 :: .int .u8 0 :: .int .u8 0 :: .int .u8 0 :: .int .u8 0 :: .int .i64 0 :: .int .i64 0 :: .int .i64 0 :: [] : List Value) : Array Value) 29)
    have iC : (Tryd.prog.info? 29).map (·.size) = some x.C.toArray.size := by rw [List.size_toArray]; exact Hd.C_info ok.t32
    have sC : ((List.toArray (.int .i64 0 :: .int .i64 0 :: .int .i64 0 :: .int .i64 0 :: .int .i64 0 :: .int .i64 0 :: .int .i64 0 :: .int .u8 0 :: .int .u8 0 :: .int .u8 0 :: .int .u8 0 :: .int .u8 0 :: .int .u8 0 :: .int .u8 0 :: .int .u8 0 :: .int .u8 0 :: .int .u8 0 :: .int .u8 0 :: .int .u8 0 :: .int .u8 0 :: .int .u8 0 :: .int .u8 0 :: .int .u8 0 :: .int .u8 0 :: .int .u8 0 :: .int .u8 0 :: .int .u8 0 :: .int .u8 0 :: .int .u8 0 :: .int .u8 0 :: .int .u8 0 :: .int .u8 0 :: .int .u8 0 :: .int .u8 0 :: .int .u8 0 :: .int .u8 0 :: .int .u8 0 :: .int .u8 0 :: .int .u8 0 :: .int .i64 0 :: .int .i64 0 :: .int .i64 0 :: [] : List Value) : Array Value) : Array Value).size = x.C.toArray.size := by rw [show x.C.toArray.size = 42 from by rw [List.size_toArray, Hd.C_len ok.t32]]; rfl
    have aC : x.C.toArray.all (·.oneCell') = true := all_oneCell_toArray (Hd.C_one _)
    dsimp only at hK
    unfold encH
    obtain ⟨C, hC⟩ : ∃ C, C = x.C.toArray := ⟨_, rfl⟩
    rw [← hC] at hK iC sC aC ⊢
    clear hC
    have hK' : (W.alloc (.cells (List.toArray (.int .i64 0 :: .int .i64 0 :: .int .i64 0 :: .int .i64 0 :: .int .i64 0 :: .int .i64 0 :: .int .i64 0 :: .int .u8 0 :: .int .u8 0 :: .int .u8 0 :: .int .u8 0 :: .int .u8 0 :: .int .u8 0 :: .int .u8 0 :: .int .u8 0 :: .int .u8 0 :: .int .u8 0 :: .int .u8 0 :: .int .u8 0 :: .int .u8 0 :: .int .u8 0 :: .int .u8 0 :: .int .u8 0 :: .int .u8 0 :: .int .u8 0 :: .int .u8 0 :: .int .u8 0 :: .int .u8 0 :: .int .u8 0 :: .int .u8 0 :: .int .u8 0 :: .int .u8 0 :: .int .u8 0 :: .int .u8 0 :: .int .u8 0 :: .int .u8 0 :: .int .u8 0 :: .int .u8 0 :: .int .u8 0 :: .int .i64 0 :: .int .i64 0 :: .int .i64 0 :: [] : List Value) : Array Value) 29)).setRow W.heap.size C = W.alloc (.cells C 29) := by
      have := setRow_new W (.int .i64 0 :: .int .i64 0 :: .int .i64 0 :: .int .i64 0 :: .int .i64 0 :: .int .i64 0 :: .int .i64 0 :: .int .u8 0 :: .int .u8 0 :: .int .u8 0 :: .int .u8 0 :: .int .u8 0 :: .int .u8 0 :: .int .u8 0 :: .int .u8 0 :: .int .u8 0 :: .int .u8 0 :: .int .u8 0 :: .int .u8 0 :: .int .u8 0 :: .int .u8 0 :: .int .u8 0 :: .int .u8 0 :: .int .u8 0 :: .int .u8 0 :: .int .u8 0 :: .int .u8 0 :: .int .u8 0 :: .int .u8 0 :: .int .u8 0 :: .int .u8 0 :: .int .u8 0 :: .int .u8 0 :: .int .u8 0 :: .int .u8 0 :: .int .u8 0 :: .int .u8 0 :: .int .u8 0 :: .int .u8 0 :: .int .i64 0 :: .int .i64 0 :: .int .i64 0 :: [] : List Value) C.toList 29
      simpa using this
    rw [foldl_one]
    simp only [List.setIfInBounds_toArray, List.set_cons_zero, List.set_cons_succ]
    apply wpIn_region_lit
    refine wpListIn_alloc rfl 29 rfl (.pointer (some ⟨W.heap.size, 0, none⟩)) (W.alloc (.cells (List.toArray (.int .i64 0 :: .int .i64 0 :: .int .i64 0 :: .int .i64 0 :: .int .i64 0 :: .int .i64 0 :: .int .i64 0 :: .int .u8 0 :: .int .u8 0 :: .int .u8 0 :: .int .u8 0 :: .int .u8 0 :: .int .u8 0 :: .int .u8 0 :: .int .u8 0 :: .int .u8 0 :: .int .u8 0 :: .int .u8 0 :: .int .u8 0 :: .int .u8 0 :: .int .u8 0 :: .int .u8 0 :: .int .u8 0 :: .int .u8 0 :: .int .u8 0 :: .int .u8 0 :: .int .u8 0 :: .int .u8 0 :: .int .u8 0 :: .int .u8 0 :: .int .u8 0 :: .int .u8 0 :: .int .u8 0 :: .int .u8 0 :: .int .u8 0 :: .int .u8 0 :: .int .u8 0 :: .int .u8 0 :: .int .u8 0 :: .int .i64 0 :: .int .i64 0 :: .int .i64 0 :: [] : List Value) : Array Value) 29)) (by go_simp) ?_
    try simp only [Act.put, List.setIfInBounds_toArray, List.set_cons_zero, List.set_cons_succ]
    refine wpListIn_store_row rfl 29 (.tmp 8) (.tmp 21) rfl W.heap.size C rfl rfl 29 (List.toArray (.int .i64 0 :: .int .i64 0 :: .int .i64 0 :: .int .i64 0 :: .int .i64 0 :: .int .i64 0 :: .int .i64 0 :: .int .u8 0 :: .int .u8 0 :: .int .u8 0 :: .int .u8 0 :: .int .u8 0 :: .int .u8 0 :: .int .u8 0 :: .int .u8 0 :: .int .u8 0 :: .int .u8 0 :: .int .u8 0 :: .int .u8 0 :: .int .u8 0 :: .int .u8 0 :: .int .u8 0 :: .int .u8 0 :: .int .u8 0 :: .int .u8 0 :: .int .u8 0 :: .int .u8 0 :: .int .u8 0 :: .int .u8 0 :: .int .u8 0 :: .int .u8 0 :: .int .u8 0 :: .int .u8 0 :: .int .u8 0 :: .int .u8 0 :: .int .u8 0 :: .int .u8 0 :: .int .u8 0 :: .int .u8 0 :: .int .i64 0 :: .int .i64 0 :: .int .i64 0 :: [] : List Value) : Array Value) hn iC sC aC ?_
    rw [hK']
    exact hK
  case body =>
    rename_i q0 k0 a0
    clear a0 k0 q0 HSeq HL0
    rintro t pre x W0 Wa W hA0 hA hkeep hnew hw1 hw2 hsz ⟨r0, hr0⟩ hlen
    have ok : x.ok := HN.out.2.2 x (List.mem_filter.1 (show x ∈ sgd ks l by rw [hr0]; simp)).1
    have hYs := HY.out.2.1
    have nX : W.heap[Wa.heap.size]? = some (.cells x.C.toArray 29 (0, 0)) := (hnew _ (by omega)).trans (heap_alloc_new Wa _)
    have szW : W.heap.size = Wa.heap.size + 1 := by rw [hsz, size_alloc]
    have HR : Seal (∃ r, sgd ks l = pre ++ x :: r) := ⟨r0, hr0⟩
    obtain ⟨f5, m5, k5⟩ := hA.m5
    obtain ⟨f6, m6, k6⟩ := hA.m6
    obtain ⟨f7, m7, k7⟩ := hA.m7
    have hpl : pre.length < 5000 := by have := HN.out.2.1; omega
    obtain ⟨gx, hgx⟩ : ∃ gx, gx = Wa.heap.size := ⟨_, rfl⟩
    obtain ⟨kl, hkey⟩ := keyOf_slot ok
    have hkfr := keyOf_i64 ok.ifr
    have K5 := Seal.mk k5
    have K6 := Seal.mk k6
    have K7 := Seal.mk k7
    have HAA := Seal.mk hA
    obtain ⟨CX, hCX⟩ : ∃ C, C = x.C := ⟨_, rfl⟩
    obtain ⟨SX, hSX⟩ : ∃ S, S = slC x := ⟨_, rfl⟩
    obtain ⟨N, hN⟩ : ∃ N, N = pre.length := ⟨_, rfl⟩
    have HOf : Seal (∀ V, Calls Tryd.prog 106 #[.agg CX.toArray] V fun e w' => e = .returned (.agg SX.toArray) ∧ Below V.heap.size V w') := ⟨fun V => by rw [hCX, hSX]; exact cof_any x V ok.t32⟩
    have HB : Seal (BS W H N N N f5 f6 f7 [(gx, .cells CX.toArray 29 (0, 0))] W) := ⟨by
      rw [hgx, hCX, hN]
      refine ⟨Below.refl _ _, fun _ _ _ _ _ => rfl, m5, m6, m7, fun p hp => ?_, fun p hp => ?_⟩
      · obtain rfl : p = _ := by simpa using hp
        exact nX
      · obtain rfl : p = _ := by simpa using hp
        dsimp only; omega⟩
    have iX : (Tryd.prog.info? 29).map (·.size) = some CX.length := by rw [hCX]; exact Hd.C_info ok.t32
    have lX : Seal ((.int .i64 0 :: .int .i64 0 :: .int .i64 0 :: .int .i64 0 :: .int .i64 0 :: .int .i64 0 :: .int .i64 0 :: .int .u8 0 :: .int .u8 0 :: .int .u8 0 :: .int .u8 0 :: .int .u8 0 :: .int .u8 0 :: .int .u8 0 :: .int .u8 0 :: .int .u8 0 :: .int .u8 0 :: .int .u8 0 :: .int .u8 0 :: .int .u8 0 :: .int .u8 0 :: .int .u8 0 :: .int .u8 0 :: .int .u8 0 :: .int .u8 0 :: .int .u8 0 :: .int .u8 0 :: .int .u8 0 :: .int .u8 0 :: .int .u8 0 :: .int .u8 0 :: .int .u8 0 :: .int .u8 0 :: .int .u8 0 :: .int .u8 0 :: .int .u8 0 :: .int .u8 0 :: .int .u8 0 :: .int .u8 0 :: .int .i64 0 :: .int .i64 0 :: .int .i64 0 :: [] : List Value).length = CX.length) := ⟨by rw [show CX.length = 42 from by rw [hCX, Hd.C_len ok.t32]]; rfl⟩
    have oX : Seal (∀ v ∈ CX, v.oneCell' = true) := ⟨by rw [hCX]; exact Hd.C_one x⟩
    have iZ : (Tryd.prog.info? 29).map (·.size) = some (.int .i64 0 :: .int .i64 0 :: .int .i64 0 :: .int .i64 0 :: .int .i64 0 :: .int .i64 0 :: .int .i64 0 :: .int .u8 0 :: .int .u8 0 :: .int .u8 0 :: .int .u8 0 :: .int .u8 0 :: .int .u8 0 :: .int .u8 0 :: .int .u8 0 :: .int .u8 0 :: .int .u8 0 :: .int .u8 0 :: .int .u8 0 :: .int .u8 0 :: .int .u8 0 :: .int .u8 0 :: .int .u8 0 :: .int .u8 0 :: .int .u8 0 :: .int .u8 0 :: .int .u8 0 :: .int .u8 0 :: .int .u8 0 :: .int .u8 0 :: .int .u8 0 :: .int .u8 0 :: .int .u8 0 :: .int .u8 0 :: .int .u8 0 :: .int .u8 0 :: .int .u8 0 :: .int .u8 0 :: .int .u8 0 :: .int .i64 0 :: .int .i64 0 :: .int .i64 0 :: [] : List Value).length := by kernel_rfl
    have oZ : Seal (∀ v ∈ (.int .i64 0 :: .int .i64 0 :: .int .i64 0 :: .int .i64 0 :: .int .i64 0 :: .int .i64 0 :: .int .i64 0 :: .int .u8 0 :: .int .u8 0 :: .int .u8 0 :: .int .u8 0 :: .int .u8 0 :: .int .u8 0 :: .int .u8 0 :: .int .u8 0 :: .int .u8 0 :: .int .u8 0 :: .int .u8 0 :: .int .u8 0 :: .int .u8 0 :: .int .u8 0 :: .int .u8 0 :: .int .u8 0 :: .int .u8 0 :: .int .u8 0 :: .int .u8 0 :: .int .u8 0 :: .int .u8 0 :: .int .u8 0 :: .int .u8 0 :: .int .u8 0 :: .int .u8 0 :: .int .u8 0 :: .int .u8 0 :: .int .u8 0 :: .int .u8 0 :: .int .u8 0 :: .int .u8 0 :: .int .u8 0 :: .int .i64 0 :: .int .i64 0 :: .int .i64 0 :: [] : List Value), v.oneCell' = true) := ⟨by decide⟩
    have iS : (Tryd.prog.info? 152).map (·.size) = some SX.length := by rw [hSX]; kernel_rfl
    have lS : Seal ([Value.int .i64 0, .int .i64 0, .int .i64 0, .int .i64 0, .int .i64 0].length = SX.length) := ⟨by rw [hSX]; rfl⟩
    have oS : Seal (∀ v ∈ SX, v.oneCell' = true) := ⟨by rw [hSX]; intro v hv; simp [slC] at hv; rcases hv with rfl | rfl | rfl | rfl | rfl <;> rfl⟩
    have uH := Tryd.underlying29
    have uS := Tryd.underlying152
    have RX := HB.out.range (b := gx) (cs := CX.toArray) (t := 29) (fr := (0, 0)) (by simp)
    have HQ := Seal.mk (And.intro hCX (And.intro hSX (And.intro hN (And.intro hgx ok))))
    have HW := Seal.mk (And.intro szW (And.intro hw1 (And.intro hw2 hpl)))
    have hkey' : keyOf Tryd.prog 152 (.agg SX.toArray) = some kl := by rw [hSX]; exact hkey
    rw [← hgx]
    dsimp only
    rw [← hCX]
    clear hA0 hA hkeep hnew nX m5 m6 m7 k5 k6 k7 hr0 hkey ok hCX hSX hN hsz hw1 hw2 szW hpl hYs hlen
    cases hbg : bgP pre x with
    | none =>
      have hv : (f5 (.agg SX.toArray)).getD (.agg (List.toArray (.int .i64 0 :: .int .i64 0 :: .int .i64 0 :: .int .i64 0 :: .int .i64 0 :: .int .i64 0 :: .int .i64 0 :: .int .u8 0 :: .int .u8 0 :: .int .u8 0 :: .int .u8 0 :: .int .u8 0 :: .int .u8 0 :: .int .u8 0 :: .int .u8 0 :: .int .u8 0 :: .int .u8 0 :: .int .u8 0 :: .int .u8 0 :: .int .u8 0 :: .int .u8 0 :: .int .u8 0 :: .int .u8 0 :: .int .u8 0 :: .int .u8 0 :: .int .u8 0 :: .int .u8 0 :: .int .u8 0 :: .int .u8 0 :: .int .u8 0 :: .int .u8 0 :: .int .u8 0 :: .int .u8 0 :: .int .u8 0 :: .int .u8 0 :: .int .u8 0 :: .int .u8 0 :: .int .u8 0 :: .int .u8 0 :: .int .i64 0 :: .int .i64 0 :: .int .i64 0 :: [] : List Value) : Array Value)) = .agg (List.toArray (.int .i64 0 :: .int .i64 0 :: .int .i64 0 :: .int .i64 0 :: .int .i64 0 :: .int .i64 0 :: .int .i64 0 :: .int .u8 0 :: .int .u8 0 :: .int .u8 0 :: .int .u8 0 :: .int .u8 0 :: .int .u8 0 :: .int .u8 0 :: .int .u8 0 :: .int .u8 0 :: .int .u8 0 :: .int .u8 0 :: .int .u8 0 :: .int .u8 0 :: .int .u8 0 :: .int .u8 0 :: .int .u8 0 :: .int .u8 0 :: .int .u8 0 :: .int .u8 0 :: .int .u8 0 :: .int .u8 0 :: .int .u8 0 :: .int .u8 0 :: .int .u8 0 :: .int .u8 0 :: .int .u8 0 :: .int .u8 0 :: .int .u8 0 :: .int .u8 0 :: .int .u8 0 :: .int .u8 0 :: .int .u8 0 :: .int .i64 0 :: .int .i64 0 :: .int .i64 0 :: [] : List Value) : Array Value) ∧ (f5 (.agg SX.toArray)).isSome = false := by
        have := K5.out x
        rw [hbg] at this
        unfold keyV at this
        rw [← HQ.out.2.1] at this
        rw [this]; exact ⟨rfl, rfl⟩
      have hv1 := hv.1
      have hv2 := hv.2
      have HG := Seal.mk hbg
      clear hv hbg hgx
      gi_wp2_with (first
        | (refine wpListIn_load_mid rfl 29 (.tmp 8) rfl gx 0 rfl CX _ RX uH rfl iX ?_; (try simp only [Act.put, List.setIfInBounds_toArray, List.set_cons_zero, List.set_cons_succ]))
        | (refine wpListIn_call 23 rfl (by kernel_rfl) (by intro c hc; cases hc) 106 #[.agg CX.toArray] (by go_simp) ?_; refine (HOf.out W).mono ?_; rintro e V1 ⟨rfl, hb⟩; refine ⟨_, rfl, ?_⟩; have HB1 := Seal.mk (HB.out.below hb); have hs1 : Seal (H + 6 ≤ V1.heap.size ∧ W.heap.size ≤ V1.heap.size) := ⟨by have := hb.size; have := HW.out; have := HY.out.2.1; omega⟩; clear hb HB RX; (try simp only [Act.put, List.setIfInBounds_toArray, List.set_cons_zero, List.set_cons_succ]))
        | (refine wpListIn_newvar rfl rfl 152 9 (.tmp 23) rfl rfl rfl [.int .i64 0, .int .i64 0, .int .i64 0, .int .i64 0, .int .i64 0] SX (exec_alloc_slot rfl _) rfl rfl iS lS.out oS.out ?_; intro V2 hV2; have HB2 : Seal (BS W H N N N f5 f6 f7 [(V1.heap.size, .cells SX.toArray 152 (0, 0)), (gx, .cells CX.toArray 29 (0, 0))] V2) := ⟨by rw [hV2]; exact HB1.out.push hs1.out.1 _⟩; have hs2 : Seal (H + 6 ≤ V2.heap.size ∧ W.heap.size ≤ V1.heap.size ∧ gx < V1.heap.size ∧ V2.heap.size = V1.heap.size + 1) := ⟨by rw [hV2, size_alloc]; have := hs1.out; have := HW.out; have := HQ.out.2.2.2.1; omega⟩; clear hV2 HB1 hs1; obtain ⟨g9, hg9⟩ : ∃ g, g = V1.heap.size := ⟨_, rfl⟩; rw [← hg9] at HB2 hs2 ⊢; clear hg9; obtain ⟨c5, c6, c7⟩ := HB2.out.cells HAA.out; have R9 := HB2.out.range (b := g9) (cs := SX.toArray) (t := 152) (fr := (0, 0)) (by simp); (try simp only [Act.put, List.setIfInBounds_toArray, List.set_cons_zero, List.set_cons_succ]))
        | (refine wpListIn_load_mid rfl 152 (.tmp 9) rfl g9 0 rfl SX _ R9 uS rfl iS ?_; (try simp only [Act.put, List.setIfInBounds_toArray, List.set_cons_zero, List.set_cons_succ]))
        | (refine wpListIn_look rfl (.tmp 25) (.tmp 26) 149 rfl 152 29 slot_keyed Tryd.underlying149 (zeroHd _) H N f5 rfl HB2.out.m5 (.agg SX.toArray) rfl hkey' (.agg (List.toArray (.int .i64 0 :: .int .i64 0 :: .int .i64 0 :: .int .i64 0 :: .int .i64 0 :: .int .i64 0 :: .int .i64 0 :: .int .u8 0 :: .int .u8 0 :: .int .u8 0 :: .int .u8 0 :: .int .u8 0 :: .int .u8 0 :: .int .u8 0 :: .int .u8 0 :: .int .u8 0 :: .int .u8 0 :: .int .u8 0 :: .int .u8 0 :: .int .u8 0 :: .int .u8 0 :: .int .u8 0 :: .int .u8 0 :: .int .u8 0 :: .int .u8 0 :: .int .u8 0 :: .int .u8 0 :: .int .u8 0 :: .int .u8 0 :: .int .u8 0 :: .int .u8 0 :: .int .u8 0 :: .int .u8 0 :: .int .u8 0 :: .int .u8 0 :: .int .u8 0 :: .int .u8 0 :: .int .u8 0 :: .int .u8 0 :: .int .i64 0 :: .int .i64 0 :: .int .i64 0 :: [] : List Value) : Array Value)) false hv1 hv2 ?_; (try simp only [Act.put, List.setIfInBounds_toArray, List.set_cons_zero, List.set_cons_succ]))
        | (refine wpListIn_newvar rfl rfl 29 10 (.tmp 28) rfl rfl rfl (.int .i64 0 :: .int .i64 0 :: .int .i64 0 :: .int .i64 0 :: .int .i64 0 :: .int .i64 0 :: .int .i64 0 :: .int .u8 0 :: .int .u8 0 :: .int .u8 0 :: .int .u8 0 :: .int .u8 0 :: .int .u8 0 :: .int .u8 0 :: .int .u8 0 :: .int .u8 0 :: .int .u8 0 :: .int .u8 0 :: .int .u8 0 :: .int .u8 0 :: .int .u8 0 :: .int .u8 0 :: .int .u8 0 :: .int .u8 0 :: .int .u8 0 :: .int .u8 0 :: .int .u8 0 :: .int .u8 0 :: .int .u8 0 :: .int .u8 0 :: .int .u8 0 :: .int .u8 0 :: .int .u8 0 :: .int .u8 0 :: .int .u8 0 :: .int .u8 0 :: .int .u8 0 :: .int .u8 0 :: .int .u8 0 :: .int .i64 0 :: .int .i64 0 :: .int .i64 0 :: [] : List Value) (.int .i64 0 :: .int .i64 0 :: .int .i64 0 :: .int .i64 0 :: .int .i64 0 :: .int .i64 0 :: .int .i64 0 :: .int .u8 0 :: .int .u8 0 :: .int .u8 0 :: .int .u8 0 :: .int .u8 0 :: .int .u8 0 :: .int .u8 0 :: .int .u8 0 :: .int .u8 0 :: .int .u8 0 :: .int .u8 0 :: .int .u8 0 :: .int .u8 0 :: .int .u8 0 :: .int .u8 0 :: .int .u8 0 :: .int .u8 0 :: .int .u8 0 :: .int .u8 0 :: .int .u8 0 :: .int .u8 0 :: .int .u8 0 :: .int .u8 0 :: .int .u8 0 :: .int .u8 0 :: .int .u8 0 :: .int .u8 0 :: .int .u8 0 :: .int .u8 0 :: .int .u8 0 :: .int .u8 0 :: .int .u8 0 :: .int .i64 0 :: .int .i64 0 :: .int .i64 0 :: [] : List Value) (exec_alloc_hand rfl _) rfl rfl iZ rfl oZ.out ?_; intro V3 hV3; have HB3 : Seal (BS W H N N N f5 f6 f7 [(V2.heap.size, .cells (.int .i64 0 :: .int .i64 0 :: .int .i64 0 :: .int .i64 0 :: .int .i64 0 :: .int .i64 0 :: .int .i64 0 :: .int .u8 0 :: .int .u8 0 :: .int .u8 0 :: .int .u8 0 :: .int .u8 0 :: .int .u8 0 :: .int .u8 0 :: .int .u8 0 :: .int .u8 0 :: .int .u8 0 :: .int .u8 0 :: .int .u8 0 :: .int .u8 0 :: .int .u8 0 :: .int .u8 0 :: .int .u8 0 :: .int .u8 0 :: .int .u8 0 :: .int .u8 0 :: .int .u8 0 :: .int .u8 0 :: .int .u8 0 :: .int .u8 0 :: .int .u8 0 :: .int .u8 0 :: .int .u8 0 :: .int .u8 0 :: .int .u8 0 :: .int .u8 0 :: .int .u8 0 :: .int .u8 0 :: .int .u8 0 :: .int .i64 0 :: .int .i64 0 :: .int .i64 0 :: [] : List Value).toArray 29 (0, 0)), (g9, .cells SX.toArray 152 (0, 0)), (gx, .cells CX.toArray 29 (0, 0))] V3) := ⟨by rw [hV3]; exact HB2.out.push hs2.out.1 _⟩; have hs3 : Seal (gx ≠ V2.heap.size ∧ g9 ≠ V2.heap.size ∧ H + 6 ≤ V3.heap.size ∧ W.heap.size ≤ g9 ∧ gx < g9 ∧ V3.heap.size = V2.heap.size + 1 ∧ g9 < V2.heap.size) := ⟨by rw [hV3, size_alloc]; have := hs2.out; omega⟩; clear hV3 HB2 hs2 R9 c5 c6 c7; obtain ⟨g10, hg10⟩ : ∃ g, g = V2.heap.size := ⟨_, rfl⟩; rw [← hg10] at HB3 hs3 ⊢; clear hg10; obtain ⟨c5, c6, c7⟩ := HB3.out.cells HAA.out; have R9 := HB3.out.range (b := g9) (cs := SX.toArray) (t := 152) (fr := (0, 0)) (by simp); have RX := HB3.out.range (b := gx) (cs := CX.toArray) (t := 29) (fr := (0, 0)) (by simp); have RA := HB3.out.range (b := g10) (cs := (.int .i64 0 :: .int .i64 0 :: .int .i64 0 :: .int .i64 0 :: .int .i64 0 :: .int .i64 0 :: .int .i64 0 :: .int .u8 0 :: .int .u8 0 :: .int .u8 0 :: .int .u8 0 :: .int .u8 0 :: .int .u8 0 :: .int .u8 0 :: .int .u8 0 :: .int .u8 0 :: .int .u8 0 :: .int .u8 0 :: .int .u8 0 :: .int .u8 0 :: .int .u8 0 :: .int .u8 0 :: .int .u8 0 :: .int .u8 0 :: .int .u8 0 :: .int .u8 0 :: .int .u8 0 :: .int .u8 0 :: .int .u8 0 :: .int .u8 0 :: .int .u8 0 :: .int .u8 0 :: .int .u8 0 :: .int .u8 0 :: .int .u8 0 :: .int .u8 0 :: .int .u8 0 :: .int .u8 0 :: .int .u8 0 :: .int .i64 0 :: .int .i64 0 :: .int .i64 0 :: [] : List Value).toArray) (t := 29) (fr := (0, 0)) (by simp); (try simp only [Act.put, List.setIfInBounds_toArray, List.set_cons_zero, List.set_cons_succ]))
        | (refine wpListIn_upd rfl (.tmp 32) (.tmp 33) (.tmp 34) 149 rfl 152 29 slot_keyed Tryd.underlying149 H N f5 rfl HB3.out.m5 (by unfold maxLen; have := HW.out.2.2.2; have := HQ.out.2.2.1; omega) (.agg SX.toArray) (.agg CX.toArray) rfl rfl hkey' ?_; intro V4 hm4 hg4 _; have HB4 := Seal.mk (HB3.out.upd5 hg4 hm4); clear hm4 hg4 HB3 c5 c6 c7 R9 RX; (try simp only [Act.put])))
      refine ⟨⟨HB4.out.bel.size, fun r hr => HB4.out.kept r (by have := HW.out; omega) (by have := HY.out.2.1; omega) (by have := HY.out.2.1; omega) (by have := HY.out.2.1; omega)⟩, fun r hr => HB4.out.kept r (by have := HW.out; have := HMi.out r hr; omega) (by have := HMi.out r hr; omega) (by have := HMi.out r hr; omega) (by have := HMi.out r hr; omega), HR.out, HB4.out.done HAA.out (by have := HQ.out.2.2.1; omega) (by have := HQ.out.2.2.1; omega) (by have := HQ.out.2.2.1; omega) (by rw [HQ.out.1, HQ.out.2.1]; exact bgF_none K5.out HG.out) (mtF_none K6.out HG.out) (fdV_same K7.out (.inl HG.out))⟩
    | some a1 =>
      have hv : (f5 (.agg SX.toArray)).getD (.agg (List.toArray (.int .i64 0 :: .int .i64 0 :: .int .i64 0 :: .int .i64 0 :: .int .i64 0 :: .int .i64 0 :: .int .i64 0 :: .int .u8 0 :: .int .u8 0 :: .int .u8 0 :: .int .u8 0 :: .int .u8 0 :: .int .u8 0 :: .int .u8 0 :: .int .u8 0 :: .int .u8 0 :: .int .u8 0 :: .int .u8 0 :: .int .u8 0 :: .int .u8 0 :: .int .u8 0 :: .int .u8 0 :: .int .u8 0 :: .int .u8 0 :: .int .u8 0 :: .int .u8 0 :: .int .u8 0 :: .int .u8 0 :: .int .u8 0 :: .int .u8 0 :: .int .u8 0 :: .int .u8 0 :: .int .u8 0 :: .int .u8 0 :: .int .u8 0 :: .int .u8 0 :: .int .u8 0 :: .int .u8 0 :: .int .u8 0 :: .int .i64 0 :: .int .i64 0 :: .int .i64 0 :: [] : List Value) : Array Value)) = .agg a1.C.toArray ∧ (f5 (.agg SX.toArray)).isSome = true := by
        have := K5.out x
        rw [hbg] at this
        unfold keyV at this
        rw [← HQ.out.2.1] at this
        rw [this]; exact ⟨rfl, rfl⟩
      have am := bgP_mem hbg
      have oka : a1.ok := HN.out.2.2 a1 (by
        obtain ⟨r, hr⟩ := HR.out
        exact (List.mem_filter.1 (show a1 ∈ sgd ks l by rw [hr]; exact List.mem_append_left _ am.1)).1)
      obtain ⟨CA, hCA⟩ : ∃ C, C = a1.C := ⟨_, rfl⟩
      have HG := Seal.mk hbg
      have iA : (Tryd.prog.info? 29).map (·.size) = some CA.length := by rw [hCA]; exact Hd.C_info oka.t32
      have lA : Seal ((.int .i64 0 :: .int .i64 0 :: .int .i64 0 :: .int .i64 0 :: .int .i64 0 :: .int .i64 0 :: .int .i64 0 :: .int .u8 0 :: .int .u8 0 :: .int .u8 0 :: .int .u8 0 :: .int .u8 0 :: .int .u8 0 :: .int .u8 0 :: .int .u8 0 :: .int .u8 0 :: .int .u8 0 :: .int .u8 0 :: .int .u8 0 :: .int .u8 0 :: .int .u8 0 :: .int .u8 0 :: .int .u8 0 :: .int .u8 0 :: .int .u8 0 :: .int .u8 0 :: .int .u8 0 :: .int .u8 0 :: .int .u8 0 :: .int .u8 0 :: .int .u8 0 :: .int .u8 0 :: .int .u8 0 :: .int .u8 0 :: .int .u8 0 :: .int .u8 0 :: .int .u8 0 :: .int .u8 0 :: .int .u8 0 :: .int .i64 0 :: .int .i64 0 :: .int .i64 0 :: [] : List Value).length = CA.length) := ⟨by rw [show CA.length = 42 from by rw [hCA, Hd.C_len oka.t32]]; rfl⟩
      have oA : Seal (∀ v ∈ CA, v.oneCell' = true) := ⟨by rw [hCA]; exact Hd.C_one a1⟩
      have HCl : Seal (∀ V, Calls Tryd.prog 20 #[.agg CA.toArray, .agg CX.toArray] V fun e w' => e = .returned (.bool (clB a1 x)) ∧ Below V.heap.size V w') := ⟨fun V => by rw [hCA, HQ.out.1]; exact hclash_any a1 x V oka.t32 HQ.out.2.2.2.2.t32⟩
      have hv6 : (f6 (.agg SX.toArray)).getD (.bool false) = .bool (mtP pre x) := by
        have := K6.out x
        unfold keyV at this
        rw [← HQ.out.2.1] at this
        exact this
      rw [← hCA] at hv
      have hv1 := hv.1
      have hv2 := hv.2
      have HCA := Seal.mk (And.intro hCA oka)
      clear hv hbg hgx am hCA oka
      obtain ⟨mt, hmt⟩ : ∃ m, m = mtP pre x := ⟨_, rfl⟩
      obtain ⟨cl, hcl⟩ : ∃ m, m = clB a1 x := ⟨_, rfl⟩
      rw [← hmt] at hv6
      rw [← hcl] at HCl
      have HM := Seal.mk (And.intro hmt hcl)
      clear hmt hcl
      gi_wp2_with (first
        | (refine wpListIn_load_mid rfl 29 (.tmp 8) rfl gx 0 rfl CX _ RX uH rfl iX ?_; (try simp only [Act.put, List.setIfInBounds_toArray, List.set_cons_zero, List.set_cons_succ]))
        | (refine wpListIn_call 23 rfl (by kernel_rfl) (by intro c hc; cases hc) 106 #[.agg CX.toArray] (by go_simp) ?_; refine (HOf.out W).mono ?_; rintro e V1 ⟨rfl, hb⟩; refine ⟨_, rfl, ?_⟩; have HB1 := Seal.mk (HB.out.below hb); have hs1 : Seal (H + 6 ≤ V1.heap.size ∧ W.heap.size ≤ V1.heap.size) := ⟨by have := hb.size; have := HW.out; have := HY.out.2.1; omega⟩; clear hb HB RX; (try simp only [Act.put, List.setIfInBounds_toArray, List.set_cons_zero, List.set_cons_succ]))
        | (refine wpListIn_newvar rfl rfl 152 9 (.tmp 23) rfl rfl rfl [.int .i64 0, .int .i64 0, .int .i64 0, .int .i64 0, .int .i64 0] SX (exec_alloc_slot rfl _) rfl rfl iS lS.out oS.out ?_; intro V2 hV2; have HB2 : Seal (BS W H N N N f5 f6 f7 [(V1.heap.size, .cells SX.toArray 152 (0, 0)), (gx, .cells CX.toArray 29 (0, 0))] V2) := ⟨by rw [hV2]; exact HB1.out.push hs1.out.1 _⟩; have hs2 : Seal (H + 6 ≤ V2.heap.size ∧ W.heap.size ≤ V1.heap.size ∧ gx < V1.heap.size ∧ V2.heap.size = V1.heap.size + 1) := ⟨by rw [hV2, size_alloc]; have := hs1.out; have := HW.out; have := HQ.out.2.2.2.1; omega⟩; clear hV2 HB1 hs1; obtain ⟨g9, hg9⟩ : ∃ g, g = V1.heap.size := ⟨_, rfl⟩; rw [← hg9] at HB2 hs2 ⊢; clear hg9; obtain ⟨c5, c6, c7⟩ := HB2.out.cells HAA.out; have R9 := HB2.out.range (b := g9) (cs := SX.toArray) (t := 152) (fr := (0, 0)) (by simp); (try simp only [Act.put, List.setIfInBounds_toArray, List.set_cons_zero, List.set_cons_succ]))
        | (refine wpListIn_load_mid rfl 152 (.tmp 9) rfl g9 0 rfl SX _ R9 uS rfl iS ?_; (try simp only [Act.put, List.setIfInBounds_toArray, List.set_cons_zero, List.set_cons_succ]))
        | (refine wpListIn_look rfl (.tmp 25) (.tmp 26) 149 rfl 152 29 slot_keyed Tryd.underlying149 (zeroHd _) H N f5 rfl HB2.out.m5 (.agg SX.toArray) rfl hkey' (.agg CA.toArray) true hv1 hv2 ?_; (try simp only [Act.put, List.setIfInBounds_toArray, List.set_cons_zero, List.set_cons_succ]))
        | (refine wpListIn_newvar rfl rfl 29 10 (.tmp 28) rfl rfl rfl (.int .i64 0 :: .int .i64 0 :: .int .i64 0 :: .int .i64 0 :: .int .i64 0 :: .int .i64 0 :: .int .i64 0 :: .int .u8 0 :: .int .u8 0 :: .int .u8 0 :: .int .u8 0 :: .int .u8 0 :: .int .u8 0 :: .int .u8 0 :: .int .u8 0 :: .int .u8 0 :: .int .u8 0 :: .int .u8 0 :: .int .u8 0 :: .int .u8 0 :: .int .u8 0 :: .int .u8 0 :: .int .u8 0 :: .int .u8 0 :: .int .u8 0 :: .int .u8 0 :: .int .u8 0 :: .int .u8 0 :: .int .u8 0 :: .int .u8 0 :: .int .u8 0 :: .int .u8 0 :: .int .u8 0 :: .int .u8 0 :: .int .u8 0 :: .int .u8 0 :: .int .u8 0 :: .int .u8 0 :: .int .u8 0 :: .int .i64 0 :: .int .i64 0 :: .int .i64 0 :: [] : List Value) CA (exec_alloc_hand rfl _) rfl rfl iA lA.out oA.out ?_; intro V3 hV3; have HB3 : Seal (BS W H N N N f5 f6 f7 [(V2.heap.size, .cells CA.toArray 29 (0, 0)), (g9, .cells SX.toArray 152 (0, 0)), (gx, .cells CX.toArray 29 (0, 0))] V3) := ⟨by rw [hV3]; exact HB2.out.push hs2.out.1 _⟩; have hs3 : Seal (gx ≠ V2.heap.size ∧ g9 ≠ V2.heap.size ∧ H + 6 ≤ V3.heap.size ∧ W.heap.size ≤ g9 ∧ gx < g9 ∧ V3.heap.size = V2.heap.size + 1 ∧ g9 < V2.heap.size) := ⟨by rw [hV3, size_alloc]; have := hs2.out; omega⟩; clear hV3 HB2 hs2 R9 c5 c6 c7; obtain ⟨g10, hg10⟩ : ∃ g, g = V2.heap.size := ⟨_, rfl⟩; rw [← hg10] at HB3 hs3 ⊢; clear hg10; obtain ⟨c5, c6, c7⟩ := HB3.out.cells HAA.out; have R9 := HB3.out.range (b := g9) (cs := SX.toArray) (t := 152) (fr := (0, 0)) (by simp); have RX := HB3.out.range (b := gx) (cs := CX.toArray) (t := 29) (fr := (0, 0)) (by simp); have RA := HB3.out.range (b := g10) (cs := CA.toArray) (t := 29) (fr := (0, 0)) (by simp); (try simp only [Act.put, List.setIfInBounds_toArray, List.set_cons_zero, List.set_cons_succ])))
      have hrun := HB3.out.m6.look1 slot_keyed Tryd.underlying150 (zeroBl V3) hkey'
      rw [hv6] at hrun
      rw [hrun]
      simp only [Result.andThen_ok]
      clear hrun hv6
      cases mt with
      | true =>
        gi_wp2_with (first
          | (refine wpListIn_out (3, false) rfl (by kernel_rfl) ?_; (try simp only [Act.put, List.setIfInBounds_toArray, List.set_cons_zero, List.set_cons_succ])))
        refine ⟨⟨HB3.out.bel.size, fun r hr => HB3.out.kept r (by have := HW.out; omega) (by have := HY.out.2.1; omega) (by have := HY.out.2.1; omega) (by have := HY.out.2.1; omega)⟩, fun r hr => HB3.out.kept r (by have := HW.out; have := HMi.out r hr; omega) (by have := HMi.out r hr; omega) (by have := HMi.out r hr; omega) (by have := HMi.out r hr; omega), HR.out, HB3.out.done HAA.out (by have := HQ.out.2.2.1; omega) (by have := HQ.out.2.2.1; omega) (by have := HQ.out.2.2.1; omega) (bgF_some K5.out HG.out) (mtF_same K6.out HG.out (.inl HM.out.1.symm)) (fdV_same K7.out (.inr ⟨_, HG.out, .inl HM.out.1.symm⟩))⟩
      | false =>
        gi_wp2_with (first
          | (refine wpListIn_load_mid_g (by kernel_rfl) 29 (.tmp 10) rfl g10 0 rfl CA _ RA uH rfl iA ?_; (try simp only [Act.put, List.setIfInBounds_toArray, List.set_cons_zero, List.set_cons_succ]))
          | (refine wpListIn_load_mid_g (by kernel_rfl) 29 (.tmp 8) rfl gx 0 rfl CX _ RX uH rfl iX ?_; (try simp only [Act.put, List.setIfInBounds_toArray, List.set_cons_zero, List.set_cons_succ])))
        refine ⟨trivial, ?_⟩
        refine (callsIn_round (HCl.out V3)).mono ?_
        rintro e V4 ⟨rfl, hb⟩
        have HB4 := Seal.mk (HB3.out.below hb)
        have hs4 : Seal (gx ≠ g10 ∧ g9 ≠ g10 ∧ H + 6 ≤ V4.heap.size ∧ W.heap.size ≤ g9 ∧ gx < g9 ∧ g10 < V4.heap.size ∧ g9 < g10) := ⟨by have := hb.size; have := hs3.out; omega⟩
        clear hb HB3 hs3 RX R9 RA c5 c6 c7
        cases cl with
        | false =>
          gi_wp2
          refine ⟨⟨HB4.out.bel.size, fun r hr => HB4.out.kept r (by have := HW.out; omega) (by have := HY.out.2.1; omega) (by have := HY.out.2.1; omega) (by have := HY.out.2.1; omega)⟩, fun r hr => HB4.out.kept r (by have := HW.out; have := HMi.out r hr; omega) (by have := HMi.out r hr; omega) (by have := HMi.out r hr; omega) (by have := HMi.out r hr; omega), HR.out, HB4.out.done HAA.out (by have := HQ.out.2.2.1; omega) (by have := HQ.out.2.2.1; omega) (by have := HQ.out.2.2.1; omega) (bgF_some K5.out HG.out) (mtF_same K6.out HG.out (.inr HM.out.2.symm)) (fdV_same K7.out (.inr ⟨_, HG.out, .inr HM.out.2.symm⟩))⟩
        | true =>
          have LX : Seal ((CA ++ CX).length = 84 ∧ (Tryd.prog.info? 74).map (·.size) = some (CA ++ CX).length ∧ (∀ v ∈ CA ++ CX, v.oneCell' = true)) := ⟨by
            rw [HCA.out.1, HQ.out.1]
            exact ⟨lieC_len HCA.out.2.t32 HQ.out.2.2.2.2.t32, lieC_info HCA.out.2.t32 HQ.out.2.2.2.2.t32, lieC_one a1 x⟩⟩
          have hA42 : CA.length = 42 := by rw [HCA.out.1, Hd.C_len HCA.out.2.t32]
          have hX42 : CX.length = 42 := by rw [HQ.out.1, Hd.C_len HQ.out.2.2.2.2.t32]
          obtain ⟨zl, hzl⟩ : ∃ zl : List Value, zl = Tryd.zeroCells74.toList := ⟨_, rfl⟩
          have ZL : Seal (zl.length = (CA ++ CX).length ∧ Tryd.zeroCells74 = zl.toArray) := ⟨by
            rw [LX.out.1, hzl, Array.length_toList]
            exact ⟨by kernel_rfl, by rw [Array.toArray_toList]⟩⟩
          have ZA : Seal (∀ (ρ : Operand → Value) (o : Oper) (w : World), o.op = .alloc 74 → (execOp ρ o).run Tryd.prog w = .ok (.value (.pointer (some ⟨w.heap.size, 0, none⟩))) (w.alloc (.cells zl.toArray 74))) := ⟨fun ρ o w ho => by rw [← ZL.out.2]; exact exec_alloc_lie ho w⟩
          clear hzl
          obtain ⟨LC, hLC⟩ : ∃ LC, LC = CA ++ CX := ⟨_, rfl⟩
          rw [← hLC] at LX ZL
          have HLC := Seal.mk hLC
          clear hLC
          have iL := LX.out.2.1
          have uL := Tryd.underlying74
          obtain ⟨c5, c6, c7⟩ := HB4.out.cells HAA.out
          have R9 := HB4.out.range (b := g9) (cs := SX.toArray) (t := 152) (fr := (0, 0)) (by simp)
          have ZV : Seal (∀ w, (zeroValue 74).run Tryd.prog w = .ok (.agg zl.toArray) w) := ⟨fun w => by rw [← ZL.out.2]; exact zeroLi w⟩
          obtain ⟨fr, hfr⟩ : ∃ fr, fr = x.fr := ⟨_, rfl⟩
          have HS0 : Seal (SX[0]? = some (.int .i64 fr)) := ⟨by rw [HQ.out.2.1, hfr]; rfl⟩
          have hv7 := K7.out fr
          rw [← hfr] at hkfr
          have HFR := Seal.mk hfr
          clear hfr
          gi_wp2_with (first
            | (refine wpListIn_load_mid rfl 152 (.tmp 9) rfl g9 0 rfl SX _ R9 uS rfl iS ?_; (try simp only [Act.put, List.setIfInBounds_toArray, List.set_cons_zero, List.set_cons_succ]))
            | (refine wpListIn_upd rfl (.tmp 44) (.tmp 45) (.const (.bool true)) 150 rfl 152 4 slot_keyed Tryd.underlying150 (H + 1 + 1) N f6 rfl HB4.out.m6 (by unfold maxLen; have := HW.out.2.2.2; have := HQ.out.2.2.1; omega) (.agg SX.toArray) (.bool true) rfl rfl hkey' ?_; intro V5 hm5 hg5 hz5; have HB5 := Seal.mk (HB4.out.upd6 hg5 hm5); have hs5 : Seal (H + 6 ≤ V5.heap.size ∧ gx < V5.heap.size ∧ g9 < V5.heap.size ∧ g10 < V5.heap.size ∧ W.heap.size ≤ g9) := ⟨by have := hs4.out; omega⟩; clear hm5 hg5 hz5 HB4 c5 c6 c7 R9; obtain ⟨c5, c6, c7⟩ := HB5.out.cells HAA.out; have RX := HB5.out.range (b := gx) (cs := CX.toArray) (t := 29) (fr := (0, 0)) (by simp); have R9 := HB5.out.range (b := g9) (cs := SX.toArray) (t := 152) (fr := (0, 0)) (by simp); have RA := HB5.out.range (b := g10) (cs := CA.toArray) (t := 29) (fr := (0, 0)) (by simp); (try simp only [Act.put]))
            | (refine wpListIn_load_mid rfl 29 (.tmp 10) rfl g10 0 rfl CA _ RA uH rfl iA ?_; (try simp only [Act.put, List.setIfInBounds_toArray, List.set_cons_zero, List.set_cons_succ]))
            | (refine wpListIn_load_mid rfl 29 (.tmp 8) rfl gx 0 rfl CX _ RX uH rfl iX ?_; (try simp only [Act.put, List.setIfInBounds_toArray, List.set_cons_zero, List.set_cons_succ]))
            | (refine wpListIn_build_lie rfl (.tmp 46) (.tmp 47) rfl CA CX hA42 hX42 rfl rfl ?_; rw [← HLC.out]; (try simp only [Act.put, List.setIfInBounds_toArray, List.set_cons_zero, List.set_cons_succ]))
            | (refine wpListIn_newvar rfl rfl 74 12 (.tmp 48) rfl rfl rfl zl LC (ZA.out _ _ _ rfl) rfl rfl iL ZL.out.1 LX.out.2.2 ?_; intro V6 hV6; have HB6 : Seal (BS W H N (N + 1) N f5 (upd f6 (.agg SX.toArray) (.bool true)) f7 [(V5.heap.size, .cells LC.toArray 74 (0, 0)), (g10, .cells CA.toArray 29 (0, 0)), (g9, .cells SX.toArray 152 (0, 0)), (gx, .cells CX.toArray 29 (0, 0))] V6) := ⟨by rw [hV6]; exact HB5.out.push hs5.out.1 _⟩; have hs6 : Seal (H + 6 ≤ V6.heap.size ∧ g9 < V5.heap.size ∧ W.heap.size ≤ V5.heap.size ∧ V5.heap.size < V6.heap.size) := ⟨by rw [hV6, size_alloc]; have := hs5.out; omega⟩; clear hV6 HB5 hs5 R9 RX RA c5 c6 c7; obtain ⟨g12, hg12⟩ : ∃ g, g = V5.heap.size := ⟨_, rfl⟩; rw [← hg12] at HB6 hs6 ⊢; clear hg12; obtain ⟨c5, c6, c7⟩ := HB6.out.cells HAA.out; have k9 : V6.cell? ⟨g9, 0, none⟩ = some (.int .i64 fr) := (by have h : V6.rangeAt g9 0 SX := HB6.out.range (b := g9) (cs := SX.toArray) (t := 152) (fr := (0, 0)) (by simp); simpa using h 0 _ HS0.out); (try simp only [Act.put, List.setIfInBounds_toArray, List.set_cons_zero, List.set_cons_succ])))
          have hrun := (show MapIs V6 Tryd.prog 3 (H + 1 + 1 + 1 + 1) N f7 from HB6.out.m7).look int_keys Tryd.underlying116 (ZV.out _) hkfr
          cases hfd : fdF pre fr with
          | none =>
            rw [hfd] at hv7
            have HFD := Seal.mk hfd
            have hw1 : (f7 (.int .i64 fr)).getD (.agg zl.toArray) = .agg zl.toArray := by rw [hv7]; rfl
            have hw2 : (f7 (.int .i64 fr)).isSome = false := by rw [hv7]; rfl
            have iV : (Tryd.prog.info? 74).map (·.size) = some zl.length := by rw [ZL.out.1]; exact iL
            have LV : Seal (zl.length = zl.length ∧ (∀ v ∈ zl, v.oneCell' = true)) := ⟨rfl, fun v hv => by
              have h : ∀ v ∈ Tryd.zeroCells74.toList, v.oneCell' = true := by decide +kernel
              rw [ZL.out.2] at h
              exact h v hv⟩
            rw [hw1, hw2] at hrun
            rw [hrun]
            simp only [Result.andThen_ok]
            clear hfd hv7 hw1 hw2 hrun
            gi_wp2_with (first
              | (refine wpListIn_newvar rfl rfl 74 13 (.tmp 54) rfl rfl rfl zl zl (ZA.out _ _ _ rfl) rfl rfl iV LV.out.1 LV.out.2 ?_; intro V7 hV7; have HB7 : Seal (BS W H N (N + 1) N f5 (upd f6 (.agg SX.toArray) (.bool true)) f7 [(V6.heap.size, .cells zl.toArray 74 (0, 0)), (g12, .cells LC.toArray 74 (0, 0)), (g10, .cells CA.toArray 29 (0, 0)), (g9, .cells SX.toArray 152 (0, 0)), (gx, .cells CX.toArray 29 (0, 0))] V7) := ⟨by rw [hV7]; exact HB6.out.push hs6.out.1 _⟩; have hs7 : Seal (g9 < g12 ∧ W.heap.size ≤ g12 ∧ g12 < V6.heap.size) := ⟨by have := hs6.out; omega⟩; clear hV7 HB6 hs6 k9 c5 c6 c7; obtain ⟨g13, hg13⟩ : ∃ g, g = V6.heap.size := ⟨_, rfl⟩; rw [← hg13] at HB7 hs7 ⊢; clear hg13; obtain ⟨c5, c6, c7⟩ := HB7.out.cells HAA.out; have k9 : V7.cell? ⟨g9, 0, none⟩ = some (.int .i64 fr) := (by have h : V7.rangeAt g9 0 SX := HB7.out.range (b := g9) (cs := SX.toArray) (t := 152) (fr := (0, 0)) (by simp); simpa using h 0 _ HS0.out); have R12 := HB7.out.range (b := g12) (cs := LC.toArray) (t := 74) (fr := (0, 0)) (by simp); have R13 := HB7.out.range (b := g13) (cs := zl.toArray) (t := 74) (fr := (0, 0)) (by simp); (try simp only [Act.put, List.setIfInBounds_toArray, List.set_cons_zero, List.set_cons_succ]))
              | (refine wpListIn_load_mid rfl 74 (.tmp 12) rfl g12 0 rfl LC _ R12 uL rfl iL ?_; (try simp only [Act.put, List.setIfInBounds_toArray, List.set_cons_zero, List.set_cons_succ]))
              | (refine wpListIn_upd rfl (.tmp 60) (.tmp 62) (.tmp 63) 116 rfl 3 74 int_keys Tryd.underlying116 (H + 1 + 1 + 1 + 1) N f7 rfl HB7.out.m7 (by unfold maxLen; have := HW.out.2.2.2; have := HQ.out.2.2.1; omega) (.int .i64 fr) (.agg LC.toArray) rfl rfl hkfr ?_; intro V10 hm10 hg10 _; have HB10 := Seal.mk (HB7.out.upd7 hg10 hm10); clear hm10 hg10 HB7 c5 c6 c7 k9 R12; (try simp only [Act.put])))
            refine ⟨⟨HB10.out.bel.size, fun r hr => HB10.out.kept r (by have := HW.out; omega) (by have := HY.out.2.1; omega) (by have := HY.out.2.1; omega) (by have := HY.out.2.1; omega)⟩, fun r hr => HB10.out.kept r (by have := HW.out; have := HMi.out r hr; omega) (by have := HMi.out r hr; omega) (by have := HMi.out r hr; omega) (by have := HMi.out r hr; omega), HR.out, HB10.out.done HAA.out (by have := HQ.out.2.2.1; omega) (by have := HQ.out.2.2.1; omega) (by have := HQ.out.2.2.1; omega) (bgF_some K5.out HG.out) (by have h := mtF_upd K6.out HG.out HM.out.2.symm; unfold keyV at h; rw [HQ.out.2.1]; exact h) (by have h := fdV_upd K7.out HG.out HM.out.1.symm HM.out.2.symm; rw [← HFR.out, HFD.out] at h; rw [HLC.out, HCA.out.1, HQ.out.1]; exact h)⟩
          | some old =>
            obtain ⟨o1, o2⟩ := old
            rw [hfd] at hv7
            have HFD := Seal.mk hfd
            have hmem := LieP.some_mem (s := pre) (o := fr) (a := o1) (b := o2) (by
              have h := fdF_spec _ pre rfl (fun y hy => by
                obtain ⟨r, hr⟩ := HR.out
                exact sgd_fm (ks := ks) (l := l) y (by rw [hr]; exact List.mem_append_left _ hy)) fr
              rw [hfd] at h
              exact h)
            have okp : ∀ y ∈ pre, y.ok := fun y hy => HN.out.2.2 y (by
              obtain ⟨r, hr⟩ := HR.out
              exact (List.mem_filter.1 (show y ∈ sgd ks l by rw [hr]; exact List.mem_append_left _ hy)).1)
            have ok1 := okp o1 hmem.1
            have ok2 := okp o2 hmem.2.1
            obtain ⟨LO, hLO⟩ : ∃ LO, LO = lieC o1 o2 := ⟨_, rfl⟩
            obtain ⟨LN, hLN⟩ : ∃ LN, LN = (if ordI a1 o1 < 0 then lieC a1 x else lieC o1 o2) := ⟨_, rfl⟩
            have hv7' : f7 (.int .i64 fr) = some (.agg LO.toArray) := by rw [hv7, hLO]; rfl
            have hw1 : (f7 (.int .i64 fr)).getD (.agg zl.toArray) = .agg LO.toArray := by rw [hv7']; rfl
            have hw2 : (f7 (.int .i64 fr)).isSome = true := by rw [hv7']; rfl
            have iV : (Tryd.prog.info? 74).map (·.size) = some LO.length := by rw [hLO]; exact lieC_info ok1.t32 ok2.t32
            have LV : Seal (zl.length = LO.length ∧ (∀ v ∈ LO, v.oneCell' = true)) := ⟨by rw [ZL.out.1, LX.out.1, hLO, lieC_len ok1.t32 ok2.t32], by rw [hLO]; exact lieC_one o1 o2⟩
            have HF : Seal (∀ V, Calls Tryd.prog 107 #[.agg LO.toArray, .agg LC.toArray, .func (.func 108) #[] #[]] V fun e w' => e = .returned (.agg LN.toArray) ∧ Below V.heap.size V w') := ⟨fun V => by
              rw [hLO, hLN, HLC.out, HCA.out.1, HQ.out.1]
              exact cfirst_any o1 o2 a1 x V ok1.t32 ok2.t32 HCA.out.2.t32 HQ.out.2.2.2.2.t32⟩
            have LNf : Seal ((Tryd.prog.info? 74).map (·.size) = some LN.length ∧ LC.length = LN.length ∧ (∀ v ∈ LN, v.oneCell' = true)) := ⟨by
              rw [hLN, LX.out.1]
              split
              · exact ⟨lieC_info HCA.out.2.t32 HQ.out.2.2.2.2.t32, (lieC_len HCA.out.2.t32 HQ.out.2.2.2.2.t32).symm, lieC_one _ _⟩
              · exact ⟨lieC_info ok1.t32 ok2.t32, (lieC_len ok1.t32 ok2.t32).symm, lieC_one _ _⟩⟩
            have HLN := Seal.mk hLN
            have iN := LNf.out.1
            rw [hw1, hw2] at hrun
            rw [hrun]
            simp only [Result.andThen_ok]
            clear hfd hv7 hv7' hmem okp ok1 ok2 hLO hLN hw1 hw2 hrun
            gi_wp2_with (first
              | (refine wpListIn_newvar rfl rfl 74 13 (.tmp 54) rfl rfl rfl zl LO (ZA.out _ _ _ rfl) rfl rfl iV LV.out.1 LV.out.2 ?_; intro V7 hV7; have HB7 : Seal (BS W H N (N + 1) N f5 (upd f6 (.agg SX.toArray) (.bool true)) f7 [(V6.heap.size, .cells LO.toArray 74 (0, 0)), (g12, .cells LC.toArray 74 (0, 0)), (g10, .cells CA.toArray 29 (0, 0)), (g9, .cells SX.toArray 152 (0, 0)), (gx, .cells CX.toArray 29 (0, 0))] V7) := ⟨by rw [hV7]; exact HB6.out.push hs6.out.1 _⟩; have hs7 : Seal (g9 < g12 ∧ W.heap.size ≤ g12 ∧ g12 < V6.heap.size) := ⟨by have := hs6.out; omega⟩; clear hV7 HB6 hs6 k9 c5 c6 c7; obtain ⟨g13, hg13⟩ : ∃ g, g = V6.heap.size := ⟨_, rfl⟩; rw [← hg13] at HB7 hs7 ⊢; clear hg13; obtain ⟨c5, c6, c7⟩ := HB7.out.cells HAA.out; have k9 : V7.cell? ⟨g9, 0, none⟩ = some (.int .i64 fr) := (by have h : V7.rangeAt g9 0 SX := HB7.out.range (b := g9) (cs := SX.toArray) (t := 152) (fr := (0, 0)) (by simp); simpa using h 0 _ HS0.out); have R12 := HB7.out.range (b := g12) (cs := LC.toArray) (t := 74) (fr := (0, 0)) (by simp); have R13 := HB7.out.range (b := g13) (cs := LO.toArray) (t := 74) (fr := (0, 0)) (by simp); (try simp only [Act.put, List.setIfInBounds_toArray, List.set_cons_zero, List.set_cons_succ]))
              | (refine wpListIn_load_mid rfl 74 (.tmp 13) rfl g13 0 rfl LO _ R13 uL rfl iV ?_; (try simp only [Act.put, List.setIfInBounds_toArray, List.set_cons_zero, List.set_cons_succ]))
              | (refine wpListIn_load_mid rfl 74 (.tmp 12) rfl g12 0 rfl LC _ R12 uL rfl iL ?_; (try simp only [Act.put, List.setIfInBounds_toArray, List.set_cons_zero, List.set_cons_succ]))
              | (refine wpListIn_call 59 rfl (by kernel_rfl) (by intro c hc; cases hc) 107 #[.agg LO.toArray, .agg LC.toArray, .func (.func 108) #[] #[]] (by go_simp) ?_; refine (HF.out V7).mono ?_; rintro e V8 ⟨rfl, hb⟩; refine ⟨_, rfl, ?_⟩; have HB8 := Seal.mk (HB7.out.below hb); clear hb HB7 R12 R13 c5 c6 c7 k9; have r12 := HB8.out.rows (g12, .cells LC.toArray 74 (0, 0)) (by simp); (try simp only [Act.put, List.setIfInBounds_toArray, List.set_cons_zero, List.set_cons_succ]))
              | (refine wpListIn_store_row rfl 74 (.tmp 12) (.tmp 59) rfl g12 LN.toArray rfl rfl 74 LC.toArray r12 (by rw [List.size_toArray]; exact iN) (by rw [List.size_toArray, List.size_toArray]; exact LNf.out.2.1) (all_oneCell_toArray LNf.out.2.2) ?_; obtain ⟨V9, hV9⟩ : ∃ V, V = V8.setRow g12 LN.toArray := ⟨_, rfl⟩; have HB9 : Seal (BS W H N (N + 1) N f5 (upd f6 (.agg SX.toArray) (.bool true)) f7 [(g12, .cells LN.toArray 74 (0, 0)), (g9, .cells SX.toArray 152 (0, 0))] V9) := ⟨by rw [hV9]; exact HB8.out.setRow (b := g12) (old := LC.toArray) (by simp) hs7.out.2.1 _ (fun p hp => by obtain rfl : p = _ := (by simpa using hp); exact ⟨by simp, by have := hs7.out; dsimp only; omega⟩)⟩; rw [← hV9]; clear hV9 HB8 r12; obtain ⟨c5, c6, c7⟩ := HB9.out.cells HAA.out; have k9 : V9.cell? ⟨g9, 0, none⟩ = some (.int .i64 fr) := (by have h : V9.rangeAt g9 0 SX := HB9.out.range (b := g9) (cs := SX.toArray) (t := 152) (fr := (0, 0)) (by simp); simpa using h 0 _ HS0.out); have R12 := HB9.out.range (b := g12) (cs := LN.toArray) (t := 74) (fr := (0, 0)) (by simp); (try simp only [Act.put]))
              | (refine wpListIn_load_mid rfl 74 (.tmp 12) rfl g12 0 rfl LN _ R12 uL rfl iN ?_; (try simp only [Act.put, List.setIfInBounds_toArray, List.set_cons_zero, List.set_cons_succ]))
              | (refine wpListIn_upd rfl (.tmp 60) (.tmp 62) (.tmp 63) 116 rfl 3 74 int_keys Tryd.underlying116 (H + 1 + 1 + 1 + 1) N f7 rfl HB9.out.m7 (by unfold maxLen; have := HW.out.2.2.2; have := HQ.out.2.2.1; omega) (.int .i64 fr) (.agg LN.toArray) rfl rfl hkfr ?_; intro V10 hm10 hg10 _; have HB10 := Seal.mk (HB9.out.upd7 hg10 hm10); clear hm10 hg10 HB9 c5 c6 c7 k9 R12; (try simp only [Act.put])))
            refine ⟨⟨HB10.out.bel.size, fun r hr => HB10.out.kept r (by have := HW.out; omega) (by have := HY.out.2.1; omega) (by have := HY.out.2.1; omega) (by have := HY.out.2.1; omega)⟩, fun r hr => HB10.out.kept r (by have := HW.out; have := HMi.out r hr; omega) (by have := HMi.out r hr; omega) (by have := HMi.out r hr; omega) (by have := HMi.out r hr; omega), HR.out, HB10.out.done HAA.out (by have := HQ.out.2.2.1; omega) (by have := HQ.out.2.2.1; omega) (by have := HQ.out.2.2.1; omega) (bgF_some K5.out HG.out) (by have h := mtF_upd K6.out HG.out HM.out.2.symm; unfold keyV at h; rw [HQ.out.2.1]; exact h) (by have h := fdV_upd K7.out HG.out HM.out.1.symm HM.out.2.symm; rw [← HFR.out, HFD.out] at h; rw [HLN.out]; unfold fdN at h; dsimp only at h; split at h <;> rename_i hq; (rw [if_pos hq]; exact h); (rw [if_neg hq]; exact h))⟩
  case done =>
    rintro xs W rfl hA hw1 hD
    have c7 : W.cell? ⟨H + 1 + 1 + 1 + 1 + 1, 0, none⟩ = some (.map (some (H + 1 + 1 + 1 + 1))) := by rw [cell_of_row _ _ _ _ _ _ hA.s7]; rfl
    have HA := Seal.mk hA
    have HD := Seal.mk hD
    clear hA hD
    go_wp2
    have hYs := HY.out.2.1
    have hH := HH.out
    obtain ⟨f7, m7, k7⟩ := HA.out.m7
    have hlen : (sgd ks l).length ≤ 5000 := Nat.le_trans (List.length_filter_le _ _) (by have := HN.out; omega)
    refine ⟨by simp, .inl ⟨_, _, rfl, run_takeDeferred HD.out, ?_⟩⟩
    refine ⟨.map (some (H + 1 + 1 + 1 + 1)), by simp [results, Tryd.results71, go_sem], H + 1 + 1 + 1 + 1, rfl, ⟨by omega, ?_, _, f7, hlen, m7.of_block (World.putObj_heap_other (by omega)), k7⟩⟩
    rw [← hH]
    exact HA.out.bel.trans (belowK_b (w := w) (by omega) _ Y.heap.size _ _ (by omega) HD.out rfl rfl)
end Frk

namespace Frk
open Go Go.RowKit Go.Proofs
set_option maxRecDepth 100000

theorem wpList_wanted {P : Program} {ops : Array Oper} {rest : List Oper} {o : Oper} {a : Act} {w : World} {Q : Exit → Act → World → Prop} (hw : Region.wanted o (yielded ops a.tmps) = true)
    (h : ∀ K : Act → World → Prop, (∀ a w, wpList P ops Q rest a w → K a w) → o.wp P a w K Q) : wpList P ops Q (o :: rest) a w :=
  wpList_step fun K hK => by simp only [hw, if_true]; exact h K hK

/-- a long load under a guard that holds -/
theorem wpList_load_row_g {P : Program} {ops : Array Oper} {rest : List Oper} {o : Oper} {a : Act} {w : World} {Q : Exit → Act → World → Prop} (hw : Region.wanted o (yielded ops a.tmps) = true) (ty : TypeId) (x : Operand) (ho : o.op = .load ty x)
    (g : Nat) (hx : a.eval x = .pointer (some ⟨g, 0, none⟩)) (t : TypeId) (cs : Array Value) (fr : Nat × Nat) (d : TypeDesc) (hg : w.heap[g]? = some (.cells cs t fr))
    (hu : P.underlying ty = some d) (hd : (match d with | .struct _ | .array _ _ => true | _ => false) = true) (hi : (P.info? ty).map (·.size) = some cs.size)
    (h : wpList P ops Q rest (a.put o.dst (.agg cs)) w) : wpList P ops Q (o :: rest) a w :=
  wpList_wanted hw fun _ hK => wp_load_row ty x ho g hx t cs fr d hg hu hd hi (hK _ _ h)

/-- a long load out of the midst of a block under a guard that holds -/
theorem wpList_load_mid_g {P : Program} {ops : Array Oper} {rest : List Oper} {o : Oper} {a : Act} {w : World} {Q : Exit → Act → World → Prop} (hw : Region.wanted o (yielded ops a.tmps) = true) (ty : TypeId) (x : Operand) (ho : o.op = .load ty x)
    (b off : Nat) (hx : a.eval x = .pointer (some ⟨b, off, none⟩)) (cs : List Value) (d : TypeDesc) (hc : w.rangeAt b off cs)
    (hu : P.underlying ty = some d) (hd : d.isRow = true) (hi : (P.info? ty).map (·.size) = some cs.length)
    (h : wpList P ops Q rest (a.put o.dst (.agg cs.toArray)) w) : wpList P ops Q (o :: rest) a w :=
  wpList_wanted hw fun _ hK => wp_load_mid ty x ho b off hx cs d hc hu hd hi (hK _ _ h)
end Frk

namespace Frk
open Go Go.RowKit Go.Proofs
set_option maxRecDepth 100000

theorem lay_lay (Z A C : List Value) (k : Nat) (h : k + A.length + C.length ≤ Z.length) : lay (lay Z k A) (k + A.length) C = lay Z k (A ++ C) := by
  unfold lay
  have h1 : (Z.take k).length = k := by rw [List.length_take]; omega
  rw [List.take_left' (by rw [List.length_append, h1]), List.length_append, List.drop_append, List.drop_of_length_le (by rw [List.length_append, h1]; omega), List.nil_append, List.length_append, h1, List.drop_drop]
  simp only [List.append_assoc]
  congr 4
  omega
/-- the parts of a literal slice -/
def sparts : List (List Value) → Nat → List (Nat × Value)
  | [], _ => []
  | C :: r, k => (k, .agg C.toArray) :: sparts r (k + 1)
theorem fill_parts (z : Nat) : ∀ (Cs : List (List Value)) (k : Nat) (Z : List Value), (∀ C ∈ Cs, C.length = z) → (k + Cs.length) * z ≤ Z.length →
    Instr.fill (fun i => some (i * z, z)) Z.toArray (sparts Cs k) = some (lay Z (k * z) Cs.flatten).toArray
  | [], k, Z, _, _ => by simp [sparts, Instr.fill, lay_nil]
  | C :: r, k, Z, hC, hl => by
    have h0 := hC C (by simp)
    have hk : (k + (C :: r).length) * z = k * z + z + r.length * z := by rw [List.length_cons, Nat.add_mul, Nat.add_mul]; omega
    rw [hk] at hl
    have e := fold_lay_at (k * z) C 0 Z (by omega)
    have ih := fill_parts z r (k + 1) (lay Z (k * z) C) (fun D hD => hC D (by simp [hD])) (by rw [length_lay (by omega), Nat.add_mul, Nat.add_mul]; omega)
    rw [Nat.add_zero] at e
    simp [sparts, Instr.fill, Value.cells, h0]
    refine ⟨by omega, ?_⟩
    rw [e, ih, show (k + 1) * z = k * z + C.length from by rw [h0, Nat.add_mul]; omega, lay_lay _ _ _ _ (by
      have := flatC_len (C := id) (z := z) (l := r) (fun x hx => hC x (by simp [hx]))
      simp only [List.flatMap_id] at this
      rw [this]; omega)]
theorem sparts_flat {z : Nat} {Cs : List (List Value)} (hC : ∀ C ∈ Cs, C.length = z) : Cs.flatten.length = Cs.length * z := by
  have := flatC_len (C := id) (z := z) (l := Cs) hC
  simpa using this

theorem exec_bslice {P : Program} {ρ : Operand → Value} {o : Oper} {t elem : TypeId} {m z : Nat} {ps : Array (Nat × Operand)} (ho : o.op = .buildSlice t m ps) (Cs : List (List Value)) (hu : P.underlying t = some (.slice elem)) (w : World) (hs : (Go.sizeOf elem).run P w = .ok z w) {zv : Value} (hz : (zeroValue elem).run P w = .ok zv w)
    (_hzs : zv.cells.size = z) (hm : Cs.length = m) (hC : ∀ C ∈ Cs, C.length = z) (h0 : 0 < m * z) (hb : m * z ≤ 16777216) (hp : ps.toList.map (fun x => (x.1, ρ x.2)) = sparts Cs 0) :
    (execOp ρ o).run P w = .ok (.value (.slice (some ⟨w.heap.size, 0, none⟩) m m)) (w.alloc (.cells Cs.flatten.toArray elem)) := by
  obtain ⟨Z, hZ⟩ : ∃ Z : List Value, Z.toArray = (Array.range (m * z)).map (zv.cells[· % zv.cells.size]!) := ⟨((Array.range (m * z)).map (zv.cells[· % zv.cells.size]!)).toList, by rw [Array.toArray_toList]⟩
  have hZl : Z.length = m * z := by
    have := congrArg Array.size hZ
    simpa using this
  have hf := fill_parts z Cs 0 Z hC (by rw [Nat.zero_add, hm, hZl]; exact Nat.le_refl _)
  have hl : lay Z (0 * z) Cs.flatten = Cs.flatten := by
    unfold lay
    rw [Nat.zero_mul, List.take_zero, List.nil_append, List.drop_of_length_le (by rw [sparts_flat hC, hZl, hm]; omega), List.append_nil]
  rw [hl] at hf
  have h1 : ¬ (16777216 < m * z) := by omega
  have h2 : ¬ (m * z = 0) := by omega
  have hbs : (Instr.buildSlice t m (ps.map fun x => (x.1, ρ x.2))).run P w = .ok (.slice (some ⟨w.heap.size, 0, none⟩) m m) (w.alloc (.cells Cs.flatten.toArray elem)) := by
    unfold Instr.buildSlice
    simp only [run_underlying hu, Sem.run_bind, Result.andThen_ok, hs]
    simp [h1, h2, hz, Result.andThen, ← hZ, newRow]
    rw [hp, hf]
    simp [go_sem]
  unfold execOp
  rw [ho]
  simp [hbs, Result.andThen]

section
variable {l n : Nat} {P : Program} {ops : Array Oper} {rest : List Oper} {o o2 : Oper} {a : Act} {w : World} {Q : Exit → Act → World → Prop}
/-- a literal slice -/
theorem wpList_bslice (hw : Region.wanted o (yielded ops a.tmps) = true) (t elem : TypeId) (m z : Nat) (ps : Array (Nat × Operand)) (ho : o.op = .buildSlice t m ps) (Cs : List (List Value)) (hu : P.underlying t = some (.slice elem)) (hs : ∀ w, (Go.sizeOf elem).run P w = .ok z w) (zv : Value) (hz : ∀ w, (zeroValue elem).run P w = .ok zv w)
    (hzs : zv.cells.size = z) (hm : Cs.length = m) (hC : ∀ C ∈ Cs, C.length = z) (h0 : 0 < m * z) (hb : m * z ≤ 16777216) (hp : ps.toList.map (fun x => (x.1, a.eval x.2)) = sparts Cs 0)
    (h : wpList P ops Q rest (a.put o.dst (.slice (some ⟨w.heap.size, 0, none⟩) m m)) (w.alloc (.cells Cs.flatten.toArray elem))) : wpList P ops Q (o :: rest) a w :=
  wpList_wanted hw fun K hK => by unfold Oper.wp; rw [exec_bslice ho Cs hu w (hs w) (hz w) hzs hm hC h0 hb hp]; exact hK _ _ h
theorem wpListIn_bslice (hg : o.guard = none) (t elem : TypeId) (m z : Nat) (ps : Array (Nat × Operand)) (ho : o.op = .buildSlice t m ps) (Cs : List (List Value)) (hu : P.underlying t = some (.slice elem)) (hs : ∀ w, (Go.sizeOf elem).run P w = .ok z w) (zv : Value) (hz : ∀ w, (zeroValue elem).run P w = .ok zv w)
    (hzs : zv.cells.size = z) (hm : Cs.length = m) (hC : ∀ C ∈ Cs, C.length = z) (h0 : 0 < m * z) (hb : m * z ≤ 16777216) (hp : ps.toList.map (fun x => (x.1, a.eval x.2)) = sparts Cs 0)
    (h : wpListIn (Fence.wide.inRound l) n P ops Q rest (a.put o.dst (.slice (some ⟨w.heap.size, 0, none⟩) m m)) (w.alloc (.cells Cs.flatten.toArray elem))) : wpListIn (Fence.wide.inRound l) n P ops Q (o :: rest) a w :=
  wpListIn_plain hg fun K hK' => opIn_of_op (by rw [ho]; intro c hc; cases hc) (by unfold Oper.wp; rw [exec_bslice ho Cs hu w (hs w) (hz w) hzs hm hC h0 hb hp]; exact hK' _ _ h)
theorem wpList_alloc (hg : o.guard = none) (ty : TypeId) (_ho : o.op = .alloc ty) (v : Value) (w' : World) (hrun : (execOp a.eval o).run P w = .ok (.value v) w')
    (h : wpList P ops Q rest (a.put o.dst v) w') : wpList P ops Q (o :: rest) a w :=
  wpList_plain hg fun K hK' => by unfold Oper.wp; rw [hrun]; exact hK' _ _ h
theorem wpList_val (hg : o.guard = none) (ty : TypeId) (ps : Array (Nat × Operand)) (_ho : o.op = .build ty ps) (v : Value) (hrun : (execOp a.eval o).run P w = .ok (.value v) w)
    (h : wpList P ops Q rest (a.put o.dst v) w) : wpList P ops Q (o :: rest) a w :=
  wpList_plain hg fun K hK => by unfold Oper.wp; rw [hrun]; exact hK _ _ h
/-- a new variable, and what is stored into it -/
theorem wpList_newvar (hg : o.guard = none) (hg2 : o2.guard = none) (ty : TypeId) (d : Tmp) (y : Operand) (ho : o.op = .alloc ty) (hod : o.dst = some d) (ho2 : o2.op = .store ty (.tmp d) y) (Z C : List Value)
    (hrun : (execOp a.eval o).run P w = .ok (.value (.pointer (some ⟨w.heap.size, 0, none⟩))) (w.alloc (.cells Z.toArray ty))) (hd : (a.put (some d) (.pointer (some ⟨w.heap.size, 0, none⟩))).eval (.tmp d) = .pointer (some ⟨w.heap.size, 0, none⟩))
    (hy : (a.put (some d) (.pointer (some ⟨w.heap.size, 0, none⟩))).eval y = .agg C.toArray) (hi : (P.info? ty).map (·.size) = some C.length) (hold : Z.length = C.length) (h1 : ∀ v ∈ C, v.oneCell' = true)
    (h : ∀ V, V = w.alloc (.cells C.toArray ty) → wpList P ops Q rest ((a.put (some d) (.pointer (some ⟨w.heap.size, 0, none⟩))).put o2.dst undef) V) : wpList P ops Q (o :: o2 :: rest) a w := by
  refine wpList_alloc hg ty ho _ _ hrun ?_
  rw [hod]
  refine wpList_store_row hg2 ty (.tmp d) y ho2 w.heap.size C.toArray hd hy ty Z.toArray (heap_alloc_new w _) (by simpa using hi) (by simpa using hold) (all_oneCell_toArray h1) ?_
  rw [setRow_new]
  exact h _ rfl
end
end Frk

namespace Frk
open Go Go.RowKit Go.Proofs
set_option maxRecDepth 100000

def lcells (l : List (Hd × Hd)) : List Value := l.flatMap (fun x => lieC x.1 x.2)
def hcells (l : List Hd) : List Value := l.flatMap Hd.C
theorem info_lie : (Tryd.prog.info? 74).map (fun i => (i.zero, i.size, i.bytes)) = some (some (.agg Tryd.zeroCells74), 84, 224) := by kernel_rfl
theorem info_hand : (Tryd.prog.info? 29).map (fun i => (i.zero, i.size, i.bytes)) = some (some (.agg (List.toArray (.int .i64 0 :: .int .i64 0 :: .int .i64 0 :: .int .i64 0 :: .int .i64 0 :: .int .i64 0 :: .int .i64 0 :: .int .u8 0 :: .int .u8 0 :: .int .u8 0 :: .int .u8 0 :: .int .u8 0 :: .int .u8 0 :: .int .u8 0 :: .int .u8 0 :: .int .u8 0 :: .int .u8 0 :: .int .u8 0 :: .int .u8 0 :: .int .u8 0 :: .int .u8 0 :: .int .u8 0 :: .int .u8 0 :: .int .u8 0 :: .int .u8 0 :: .int .u8 0 :: .int .u8 0 :: .int .u8 0 :: .int .u8 0 :: .int .u8 0 :: .int .u8 0 :: .int .u8 0 :: .int .u8 0 :: .int .u8 0 :: .int .u8 0 :: .int .u8 0 :: .int .u8 0 :: .int .u8 0 :: .int .u8 0 :: .int .i64 0 :: .int .i64 0 :: .int .i64 0 :: [] : List Value) : Array Value)), 42, 112) := by kernel_rfl
theorem size_lie (w : World) : (Go.sizeOf 74).run Tryd.prog w = .ok 84 w := by kernel_rfl
theorem size_hand (w : World) : (Go.sizeOf 29).run Tryd.prog w = .ok 42 w := by kernel_rfl
theorem lie_zs : (Value.agg Tryd.zeroCells74).cells.size = 84 := by kernel_rfl

theorem ccheck_any (a ka : Option Addr) (n c kn kc : Nat) (w : World) (hn : n ≤ 4096) : Calls Tryd.prog 70 #[.slice ka kn kc, .slice a n c] w fun e w' => e = .returned (.int .i64 (if 24 < kn then 2 else 0)) ∧ w = w' := by
  by_cases h : 24 < kn
  · rw [if_pos h]
    have q1 : (24 : Int) < (kn : Int) := by omega
    clear h
    go_enter Tryd.func70, Tryd.ntmps70
    go_wp2
    go_ret
    exact ⟨rfl, rfl⟩
  · rw [if_neg h]
    have q1 : ¬ (24 : Int) < (kn : Int) := by omega
    have q2 : ¬ (4096 : Int) < (n : Int) := by omega
    clear h hn
    go_enter Tryd.func70, Tryd.ntmps70
    go_wp2
    go_ret
    exact ⟨rfl, rfl⟩
theorem rfew_any (a ka : Option Addr) (n c kn kc : Nat) (t : Bool) (w : World) (ht : (decide (kn ≤ 30) && decide (n ≤ 16)) = t) : Calls Tryd.prog 33 #[.slice ka kn kc, .slice a n c] w fun e w' => e = .returned (.bool t) ∧ w = w' := by
  rw [← ht]
  clear ht
  by_cases h : kn ≤ 30
  · have q1 : (kn : Int) ≤ 30 := by omega
    go_enter Tryd.func33, Tryd.ntmps33
    go_wp2
    go_ret
    exact ⟨by rw [decide_eq_true h]; by_cases h2 : n ≤ 16 <;> simp [h2] <;> omega, rfl⟩
  · have q1 : ¬ (kn : Int) ≤ 30 := by omega
    go_enter Tryd.func33, Tryd.ntmps33
    go_wp2
    go_ret
    exact ⟨by simp, rfl⟩

/-- what Find answers -/
def FindPost (L : List (Hd × Hd)) (er : Int) (w : World) (e : Ending) (w' : World) : Prop :=
  ∃ v, e = .returned (.tuple #[v, .int .i64 er]) ∧ Seal (w'.ownsRow w.heap.size 74 84 v L.length (lcells L) ∧ Below w.heap.size w w')
def fnd (ks : List Int) (l : List Hd) : List (Hd × Hd) := if 24 < ks.length then [] else fndP ks l
def trs (ks : List Int) (l : List Hd) : List Hd := if 24 < ks.length then [] else trsP ks l
def ler (ks : List Int) : Int := if 24 < ks.length then 2 else 0
def fndK (F : Int → Option (Hd × Hd)) (k : Nat) : List (Hd × Hd) := (List.range k).filterMap (fun (o : Nat) => F (o : Int))
theorem fndK_succ (F : Int → Option (Hd × Hd)) (k : Nat) : fndK F (k + 1) = fndK F k ++ (F (k : Int)).toList := by
  unfold fndK
  rw [List.range_succ, List.filterMap_append]
  cases h : F (k : Int) <;> simp [h]
theorem fndK_len (F : Int → Option (Hd × Hd)) (k : Nat) : (fndK F k).length ≤ k := by
  have := List.length_filterMap_le (fun (o : Nat) => F (o : Int)) (List.range k)
  rwa [List.length_range] at this

theorem lcells_app (L M : List (Hd × Hd)) : lcells (L ++ M) = lcells L ++ lcells M := by unfold lcells; simp
theorem hcells_app (L M : List Hd) : hcells (L ++ M) = hcells L ++ hcells M := by unfold hcells; simp
theorem lies_ok {ks : List Int} {l : List Hd} (hl : ∀ h ∈ l, h.ok) {o : Int} {x : Hd × Hd} (h : fdF (sgd ks l) o = some x) : x.1.ok ∧ x.2.ok := by
  have hs := fdF_spec _ (sgd ks l) rfl sgd_fm o
  rw [h] at hs
  obtain ⟨m1, m2, _⟩ := LieP.some_mem (a := x.1) (b := x.2) hs
  exact ⟨hl _ (List.mem_filter.1 m1).1, hl _ (List.mem_filter.1 m2).1⟩

/-- a map is no row of one's own -/
theorem map_not_own {w : World} {P : Program} {k : TypeId} {b m : Nat} {f : Value → Option Value} {base : Nat} {e : TypeId} {size n : Nat} {v : Value} {xs : List Value} (h : w.ownsRow base e size v n xs) (hm : MapIs w P k b m f) (hv : v.ownBlock = some b) : False := by
  obtain ⟨es, c, hb⟩ := hm.obj
  rcases h.2 with ⟨rfl, _⟩ | ⟨g, cap, cur, rfl, _, hg, _⟩
  · cases hv
  · have : g = b := by simpa [Value.ownBlock] using hv
    subst this
    rw [hb] at hg; cases hg

set_option maxHeartbeats 4000000 in
theorem cfind_any (n c kn kc : Nat) (a ka : Option Addr) (l : List Hd) (ks : List Int) (w : World) (hG : Glob w) (hl : IsHs w a n c l) (hk : IsKs w ka kn kc ks) (hn : n ≤ 4096) :
    Calls Tryd.prog 34 #[.slice ka kn kc, .slice a n c] w (FindPost (fnd ks l) (ler ks) w) := by
  have hkl := hk.llen
  unfold fnd ler
  rw [hkl]
  by_cases h24 : 24 < kn
  · rw [if_pos h24, if_pos h24]
    have hc := ccheck_any a ka n c kn kc w hn
    rw [if_pos h24] at hc
    have HC := Seal.mk hc
    clear hc hG hl hk hkl h24
    go_enter Tryd.func34, Tryd.ntmps34
    go_wp2_with fail
    refine HC.out.mono ?_
    rintro e w1 ⟨rfl, rfl⟩
    go_wp2
    go_ret2
    exact ⟨_, rfl, ⟨World.ownsRow_nil _ _ _ _, Below.refl _ _⟩⟩
  · rw [if_neg h24, if_neg h24]
    have hc := ccheck_any a ka n c kn kc w hn
    rw [if_neg h24] at hc
    have HC := Seal.mk hc
    have HL := Seal.mk (clies_any n c kn kc a ka l ks w hG hl hk)
    have HOK := Seal.mk hl.each
    have HP : Seal (fndP ks l = fndK (fdF (sgd ks l)) kn) := ⟨by unfold fndP fndK; rw [hkl]⟩
    obtain ⟨F, hF⟩ : ∃ F, F = fdF (sgd ks l) := ⟨_, rfl⟩
    have HFok : Seal (∀ o x, F o = some x → x.1.ok ∧ x.2.ok) := ⟨fun o x h => lies_ok (ks := ks) (l := l) HOK.out (by rw [← hF]; exact h)⟩
    rw [← hF] at HL HP
    have hkn : kn ≤ 24 := by omega
    clear hc hG hl hk hkl h24 hF HOK hn
    go_enter Tryd.func34, Tryd.ntmps34
    go_wp2_with fail
    refine HC.out.mono ?_
    rintro e w1 ⟨rfl, rfl⟩
    clear HC
    go_wp2_with fail
    refine HL.out.mono ?_
    rintro e w2 ⟨b, rfl, hP⟩
    obtain ⟨hbw, hB2, m, f, hm5, hM, hfd⟩ := hP.out
    have HFD := Seal.mk hfd
    have HB2 : Seal (w.heap.size ≤ b ∧ m ≤ 5000) := ⟨hbw, hm5⟩
    have H0 : Seal (w2.ownsRow w.heap.size 74 84 (.slice none 0 0) (fndK F 0).length (lcells (fndK F 0)) ∧ Below w.heap.size w w2 ∧ MapIs w2 Tryd.prog 3 b m f) := ⟨World.ownsRow_nil _ _ _ _, hB2, hM⟩
    obtain ⟨i0, hi, hz0, hz1, hz2⟩ := info_parts info_lie
    have HI := Seal.mk (And.intro hi (And.intro hz0 (And.intro hz1 hz2)))
    obtain ⟨zl, hzl⟩ : ∃ zl : List Value, zl = Tryd.zeroCells74.toList := ⟨_, rfl⟩
    have ZL : Seal (zl.length = 84 ∧ Tryd.zeroCells74 = zl.toArray) := ⟨by
      rw [hzl, Array.length_toList]
      exact ⟨by kernel_rfl, by rw [Array.toArray_toList]⟩⟩
    have ZA : Seal (∀ (ρ : Operand → Value) (o : Oper) (w : World), o.op = .alloc 74 → (execOp ρ o).run Tryd.prog w = .ok (.value (.pointer (some ⟨w.heap.size, 0, none⟩))) (w.alloc (.cells zl.toArray 74))) := ⟨fun ρ o w ho => by rw [← ZL.out.2]; exact exec_alloc_lie ho w⟩
    have ZV : Seal (∀ w, (zeroValue 74).run Tryd.prog w = .ok (.agg zl.toArray) w) := ⟨fun w => by rw [← ZL.out.2]; exact zeroLi w⟩
    have iZ : Seal ((Tryd.prog.info? 74).map (·.size) = some zl.length ∧ (∀ v ∈ zl, v.oneCell' = true)) := ⟨by rw [ZL.out.1]; kernel_rfl, fun v hv => by
      have h : ∀ v ∈ Tryd.zeroCells74.toList, v.oneCell' = true := by decide +kernel
      rw [ZL.out.2] at h
      exact h v hv⟩
    have uL := Tryd.underlying74
    clear hP hbw hB2 hm5 hM hfd HL hi hz0 hz1 hz2 hzl
    go_wp2
    go_loopw [4, 21] (fun u i wr => ∃ (k : Nat) (v : Value), k ≤ kn ∧ v = u ∧ i = .int .i64 k ∧ Seal (wr.ownsRow w.heap.size 74 84 v (fndK F k).length (lcells (fndK F k)) ∧ Below w.heap.size w wr ∧ MapIs wr Tryd.prog 3 b m f)) (fun _ i _ => kn - (intOf i).toNat)
    case atStart => exact ⟨0, _, by omega, rfl, rfl, H0⟩
    case round =>
      obtain ⟨wo, rfl⟩ : ∃ z, z = wr := ⟨_, rfl⟩
      obtain ⟨k, v, hk, rfl, rfl, hH⟩ := hrel
      clear H0
      by_cases hlt : k < kn
      · have q5 : (k : Int) < (kn : Int) := by omega
        have hkey := keyOf_i64 (n := (k : Int)) (by unfold I64; omega)
        have hM := hH.out.2.2
        have hv7 := HFD.out (k : Int)
        have hS := fndK_succ F k
        have hfl := fndK_len F k
        cases hfk : F (k : Int) with
        | none =>
          rw [hfk] at hv7 hS
          have HS : Seal (fndK F (k + 1) = fndK F k) := ⟨by rw [hS]; simp⟩
          have hw1 : (f (.int .i64 (k : Int))).getD (.agg zl.toArray) = .agg zl.toArray := by rw [hv7]; rfl
          have hw2 : (f (.int .i64 (k : Int))).isSome = false := by rw [hv7]; rfl
          clear hv7 hS hfk hfl
          go_wp2_with (first
            | (refine wpList_look rfl (.tmp 25) (.tmp 26) 116 rfl 3 74 int_keys Tryd.underlying116 (ZV.out _) b m f rfl hM (.int .i64 (k : Int)) rfl hkey (.agg zl.toArray) false hw1 hw2 ?_; (try simp only [Act.put, List.setIfInBounds_toArray, List.set_cons_zero, List.set_cons_succ]))
            | (refine wpList_newvar rfl rfl 74 8 (.tmp 28) rfl rfl rfl zl zl (ZA.out _ _ _ rfl) rfl rfl iZ.out.1 rfl iZ.out.2 ?_; intro V1 hV1; have HN : Seal (V1.ownsRow w.heap.size 74 84 v (fndK F (k + 1)).length (lcells (fndK F (k + 1))) ∧ Below w.heap.size w V1 ∧ MapIs V1 Tryd.prog 3 b m f) := ⟨by rw [hV1, HS.out]; exact ⟨hH.out.1.alloc _, hH.out.2.1.alloc hH.out.2.1.size _, hM.alloc _⟩⟩; clear hV1 hH hM; (try simp only [Act.put, List.setIfInBounds_toArray, List.set_cons_zero, List.set_cons_succ])))
          go_roundw
          case rel => exact ⟨k + 1, v, by omega, rfl, by go_num, HN⟩
          case measure => simp [intOf]; omega
        | some x =>
          obtain ⟨x1, x2⟩ := x
          rw [hfk] at hv7 hS
          obtain ⟨ok1, ok2⟩ := HFok.out _ _ hfk
          dsimp only at ok1 ok2
          obtain ⟨LO, hLO⟩ : ∃ LO, LO = lieC x1 x2 := ⟨_, rfl⟩
          have HS : Seal (lcells (fndK F (k + 1)) = lcells (fndK F k) ++ LO ∧ (fndK F (k + 1)).length = (fndK F k).length + 1) := ⟨by rw [hS, lcells_app, List.length_append, hLO]; exact ⟨by simp [lcells], rfl⟩⟩
          have hw1 : (f (.int .i64 (k : Int))).getD (.agg zl.toArray) = .agg LO.toArray := by rw [hv7, hLO]; rfl
          have hw2 : (f (.int .i64 (k : Int))).isSome = true := by rw [hv7]; rfl
          have iO : Seal ((Tryd.prog.info? 74).map (·.size) = some LO.length ∧ (∀ v ∈ LO, v.oneCell' = true) ∧ LO.length = 84) := ⟨by rw [hLO]; exact ⟨lieC_info ok1.t32 ok2.t32, lieC_one _ _, lieC_len ok1.t32 ok2.t32⟩⟩
          have zO : zl.length = LO.length := by rw [iO.out.2.2, ZL.out.1]
          have iO1 := iO.out.1
          clear hv7 hS hfk ok1 ok2 hLO
          go_wp2_with (first
            | (refine wpList_look rfl (.tmp 25) (.tmp 26) 116 rfl 3 74 int_keys Tryd.underlying116 (ZV.out _) b m f rfl hM (.int .i64 (k : Int)) rfl hkey (.agg LO.toArray) true hw1 hw2 ?_; (try simp only [Act.put, List.setIfInBounds_toArray, List.set_cons_zero, List.set_cons_succ]))
            | (refine wpList_newvar rfl rfl 74 8 (.tmp 28) rfl rfl rfl zl LO (ZA.out _ _ _ rfl) rfl rfl iO.out.1 zO iO.out.2.1 ?_; intro V1 hV1; have HN : Seal (V1.ownsRow w.heap.size 74 84 v (fndK F k).length (lcells (fndK F k)) ∧ Below w.heap.size w V1 ∧ MapIs V1 Tryd.prog 3 b m f) := ⟨by rw [hV1]; exact ⟨hH.out.1.alloc _, hH.out.2.1.alloc hH.out.2.1.size _, hM.alloc _⟩⟩; have r8 : V1.rangeAt wo.heap.size 0 LO := (by rw [hV1]; exact rangeAt_row (heap_alloc_new wo _)); clear hV1 hH hM; obtain ⟨g8, hg8⟩ : ∃ g, g = wo.heap.size := ⟨_, rfl⟩; rw [← hg8] at r8 ⊢; clear hg8; (try simp only [Act.put, List.setIfInBounds_toArray, List.set_cons_zero, List.set_cons_succ]))
            | (refine wpList_load_mid rfl 74 (.tmp 8) rfl g8 0 rfl LO _ r8 uL rfl iO1 ?_; (try simp only [Act.put, List.setIfInBounds_toArray, List.set_cons_zero, List.set_cons_succ]))
            | (refine wpList_bslice (by kernel_rfl) 68 74 1 84 #[(0, .tmp 32)] rfl [LO] Tryd.underlying68 size_lie _ zeroLi lie_zs rfl (by intro C hC; obtain rfl : C = LO := (by simpa using hC); exact iO.out.2.2) (by decide) (by decide) rfl ?_; obtain ⟨V2, hV2⟩ : ∃ V, V = V1.alloc (.cells [LO].flatten.toArray 74) := ⟨_, rfl⟩; have HN2 : Seal (V2.ownsRow w.heap.size 74 84 v (fndK F k).length (lcells (fndK F k)) ∧ Below w.heap.size w V2 ∧ MapIs V2 Tryd.prog 3 b m f ∧ ∀ j u, LO[j]? = some u → V2.cell? ((⟨V1.heap.size, 0, none⟩ : Addr).add j) = some u) := ⟨by rw [hV2]; exact ⟨HN.out.1.alloc _, HN.out.2.1.alloc HN.out.2.1.size _, HN.out.2.2.alloc _, fun j u hu => by rw [Addr.add_mid]; exact rangeAt_row (heap_alloc_new V1 _) j u (by simpa using hu)⟩⟩; rw [← hV2]; clear hV2 HN r8; (try simp only [Act.put, List.setIfInBounds_toArray, List.set_cons_zero, List.set_cons_succ]))
            | (at_builtin; refine wpList_append_own _ rfl (.tmp 31) (.tmp 33) 68 rfl w.heap.size 74 i0 _ 84 224 Tryd.underlying68 HI.out.1 HI.out.2.1 HI.out.2.2.1 HI.out.2.2.2 lie_zs (by decide) v (fndK F k).length (lcells (fndK F k)) rfl HN2.out.1 ⟨V1.heap.size, 0, none⟩ 1 1 LO rfl iO.out.2.2 HN2.out.2.2.2 iO.out.2.1 (by unfold maxLen; omega) (by omega) HN2.out.2.1.size ?_; intro v5 w5 hown5 hgrow5 _; have vlt := HN2.out.1.lt; have HB5 : Seal (Below w.heap.size w w5 ∧ MapIs w5 Tryd.prog 3 b m f) := ⟨HN2.out.2.1.grown hgrow5 HN2.out.2.1.size (fun k e => (vlt k e).1), HN2.out.2.2.1.kept hgrow5 (fun e => map_not_own HN2.out.1 HN2.out.2.2.1 e.symm)⟩; have HO5 : Seal (w5.ownsRow w.heap.size 74 84 v5 (fndK F (k + 1)).length (lcells (fndK F (k + 1)))) := ⟨by rw [HS.out.1, HS.out.2]; exact hown5⟩; clear hown5 hgrow5 vlt HN2; (try simp only [Act.put, List.setIfInBounds_toArray, List.set_cons_zero, List.set_cons_succ])))
          go_roundw
          case rel => exact ⟨k + 1, v5, by omega, rfl, by go_num, ⟨HO5.out, HB5.out⟩⟩
          case measure => simp [intOf]; omega
      · obtain rfl : k = kn := by omega
        have q5 : ¬ (k : Int) < (k : Int) := by omega
        go_wp2_with fail
        go_ret2
        exact ⟨v, rfl, ⟨by rw [HP.out]; exact hH.out.1, hH.out.2.1⟩⟩
end Frk

namespace Frk
open Go Go.RowKit Go.Proofs
set_option maxRecDepth 100000
attribute [local go_sem] Oper.semAt_some

def trK (F : Int → Option (Hd × Hd)) (l : List Hd) : List Hd := l.filter (fun h => (F h.fr).isNone)
theorem trK_snoc (F : Int → Option (Hd × Hd)) (l : List Hd) (x : Hd) : trK F (l ++ [x]) = trK F l ++ (if (F x.fr).isNone = true then [x] else []) := by
  unfold trK
  rw [List.filter_append]
  cases h : (F x.fr).isNone <;> simp [h]

/-- how far Trust has come -/
structure TR (w0 : World) (H g6 b m base : Nat) (F : Int → Option (Hd × Hd)) (f : Value → Option Value) (pre : List Hd) (v : Value) (W : World) : Prop where
  c4 : W.heap[H]? = some (.cells #[v] 66 (0, 0))
  c6 : W.heap[g6]? = some (.cells #[.map (some b)] 116 (0, 0))
  mp : MapIs W Tryd.prog 3 b m f
  own : W.ownsRow base 29 42 v (trK F pre).length (hcells (trK F pre))
  bel : Below H w0 W
section
variable {w0 A B' V : World} {H g6 b m base : Nat} {F : Int → Option (Hd × Hd)} {f : Value → Option Value} {pre : List Hd} {v : Value}
theorem TR.grown {r : Option Nat} (h : TR w0 H g6 b m base F f pre v A) (hg : A.grownBy B' r) (hr : ∀ k, r = some k → k ≠ H ∧ k ≠ g6 ∧ k ≠ b ∧ H ≤ k ∧ k < base) : TR w0 H g6 b m base F f pre v B' := by
  have l4 := (Array.getElem?_eq_some_iff.1 h.c4).1
  have l6 := (Array.getElem?_eq_some_iff.1 h.c6).1
  refine ⟨(hg.block _ l4 (fun e => (hr _ e.symm).1 rfl)).trans h.c4, (hg.block _ l6 (fun e => (hr _ e.symm).2.1 rfl)).trans h.c6, h.mp.kept hg (fun e => (hr _ e.symm).2.2.1 rfl), h.own.kept hg ?_, h.bel.grown hg (by omega) (fun k e => (hr k e).2.2.2.1)⟩
  cases hv : v.ownBlock with
  | none => exact .inl rfl
  | some k => exact .inr (fun e => by have := (h.own.lt k hv).1; have := (hr k e.symm).2.2.2.2; omega)
theorem TR.below (h : TR w0 H g6 b m base F f pre v A) (hb : Below A.heap.size A B') : TR w0 H g6 b m base F f pre v B' := h.grown (r := none) ⟨hb.os, hb.tape, hb.output, hb.size, fun k hk _ => hb.block k hk⟩ (fun k e => by cases e)
theorem TR.same {x : Hd} (h : TR w0 H g6 b m base F f pre v A) (hx : (F x.fr).isNone = false) : TR w0 H g6 b m base F f (pre ++ [x]) v A := by
  have e : trK F (pre ++ [x]) = trK F pre := by rw [trK_snoc, hx]; simp
  exact ⟨h.c4, h.c6, h.mp, by rw [e]; exact h.own, h.bel⟩
theorem TR.step {w5 : World} {v5 : Value} {x : Hd} (h : TR w0 H g6 b m base F f pre v V) (hH : H < base ∧ g6 < base ∧ g6 ≠ H) (hx : (F x.fr).isNone = true) (hg : V.grownBy w5 v.ownBlock)
    (hown : w5.ownsRow base 29 42 v5 ((trK F pre).length + 1) (hcells (trK F pre) ++ x.C)) :
    TR w0 H g6 b m base F f (pre ++ [x]) v5 (w5.setCell ⟨H, 0, none⟩ v5) ∧ V.heap.size ≤ (w5.setCell ⟨H, 0, none⟩ v5).heap.size ∧ ∀ r, r < V.heap.size → r ≠ H → r < base → (w5.setCell ⟨H, 0, none⟩ v5).heap[r]? = V.heap[r]? := by
  have l4 := (Array.getElem?_eq_some_iff.1 h.c4).1
  have l6 := (Array.getElem?_eq_some_iff.1 h.c6).1
  have vlt := h.own.lt
  have e : trK F (pre ++ [x]) = trK F pre ++ [x] := by rw [trK_snoc, hx]; simp
  have hs := grownBy_setCell' w5 H v5
  have k : ∀ r, r < V.heap.size → r ≠ H → r < base → (w5.setCell ⟨H, 0, none⟩ v5).heap[r]? = V.heap[r]? := fun r h1 h2 h3 =>
    (Below.heap_setCell _ _ _ _ (by simpa using h2)).trans (hg.block r h1 (fun e => by have := (vlt r e.symm).1; omega))
  have c4 : w5.heap[H]? = some (.cells #[v] 66 (0, 0)) := (hg.block H l4 (fun e => by have := (vlt H e.symm).1; omega)).trans h.c4
  have mb : b ≠ H := fun e => by obtain ⟨es, c, hb⟩ := h.mp.obj; rw [e, h.c4] at hb; cases hb
  refine ⟨⟨?_, (k g6 l6 hH.2.2 hH.2.1).trans h.c6, ?_, ?_, ?_⟩, by have := hg.size; have := hs.size; omega, k⟩
  · have := heap_setCell_row (cs := [v]) (i := 0) v5 c4
    simpa using this
  · exact (h.mp.kept hg (fun e => map_not_own h.own h.mp e.symm)).of_block (Below.heap_setCell _ _ _ _ (by simpa using mb))
  · rw [e, hcells_app, List.length_append]
    have hown' : w5.ownsRow base 29 42 v5 ((trK F pre).length + [x].length) (hcells (trK F pre) ++ hcells [x]) := by simpa [hcells] using hown
    exact hown'.kept hs (by
      cases hv : v5.ownBlock with
      | none => exact .inl rfl
      | some b => exact .inr (fun e => by have := (hown.lt b hv).1; have := Option.some.inj e; omega))
  · exact (h.bel.grown hg (by omega) (fun k e => by have := (vlt k e).1; omega)).setCell (p := ⟨H, 0, none⟩) (Nat.le_refl _) _
end

def TrustPost (L : List Hd) (er : Int) (w : World) (e : Ending) (w' : World) : Prop :=
  ∃ v, e = .returned (.tuple #[v, .int .i64 er]) ∧ Seal (w'.ownsRow w.heap.size 29 42 v L.length (hcells L) ∧ Below w.heap.size w w')

set_option maxHeartbeats 8000000 in
theorem ctrust_any (n c kn kc : Nat) (a ka : Option Addr) (l : List Hd) (ks : List Int) (w : World) (hG : Glob w) (hl : IsHs w a n c l) (hk : IsKs w ka kn kc ks) (hn : n ≤ 4096) :
    Calls Tryd.prog 36 #[.slice ka kn kc, .slice a n c] w (TrustPost (trs ks l) (ler ks) w) := by
  have hkl := hk.llen
  unfold trs ler
  rw [hkl]
  obtain ⟨H, hH⟩ : ∃ H, H = w.heap.size := ⟨_, rfl⟩
  obtain ⟨X, hX⟩ : ∃ X : World, X = w.alloc (.cells #[.slice none 0 0] 66) := ⟨_, rfl⟩
  have hXb : Below H w X := by rw [hX, hH]; exact below_alloc _ _
  have hX4 : X.heap[H]? = some (.cells #[.slice none 0 0] 66 (0, 0)) := by rw [hX, hH]; exact heap_alloc_new _ _
  have hXs : X.heap.size = H + 1 := by rw [hX, hH, size_alloc]
  have HH := Seal.mk hH
  by_cases h24 : 24 < kn
  · rw [if_pos h24, if_pos h24]
    have hc := ccheck_any a ka n c kn kc X hn
    rw [if_pos h24] at hc
    have HC := Seal.mk hc
    have x4 := heap_setCell_row (cs := [.slice none 0 0]) (i := 0) (.slice none 0 0) hX4
    have HX4 : Seal ((X.setCell ⟨H, 0, none⟩ (.slice none 0 0)).heap[H]? = some (.cells #[.slice none 0 0] 66 (0, 0))) := ⟨by simpa using x4⟩
    have HXb := Seal.mk hXb
    have f4 : X.frozen? ⟨H, 0, none⟩ = false := frozen_of_row _ _ _ _ _ hX4
    have c4 : X.cell? ⟨H, 0, none⟩ = some (.slice none 0 0) := by rw [cell_of_row _ _ _ _ _ _ hX4]; rfl
    clear hc hG hl hk hkl h24 hXb hX4 x4 hXs
    go_enter Tryd.func36, Tryd.ntmps36
    go_upto_region 1 with (fail)
    rw [← hX, ← hH]
    clear hX hH
    go_wp2_with fail
    refine HC.out.mono ?_
    rintro e w1 ⟨rfl, rfl⟩
    go_wp2
    have c4' : (X.setCell ⟨H, 0, none⟩ (.slice none 0 0)).cell? ⟨H, 0, none⟩ = some (.slice none 0 0) := by rw [cell_of_row _ _ _ _ _ _ HX4.out]; rfl
    refine bodyPost_ret (by simp [results, Tryd.results36, go_sem, c4']) rfl ⟨_, rfl, ⟨World.ownsRow_nil _ _ _ _, by rw [← HH.out]; exact HXb.out.setCell (p := ⟨H, 0, none⟩) (Nat.le_refl _) _⟩⟩
  · rw [if_neg h24, if_neg h24]
    have hc := ccheck_any a ka n c kn kc X hn
    rw [if_neg h24] at hc
    have HC := Seal.mk hc
    have hXb' : Below w.heap.size w X := by rw [← hH]; exact hXb
    have HL := Seal.mk (clies_any n c kn kc a ka l ks X (hG.below hXb') (hl.below hXb') (hk.below hXb'))
    have HA := Seal.mk (And.intro hG (And.intro hl hk))
    have HX := Seal.mk (And.intro hXb (And.intro hX4 hXs))
    have HP : Seal (trsP ks l = trK (fdF (sgd ks l)) (sgd ks l)) := ⟨rfl⟩
    have HN : Seal (l.length = n ∧ n ≤ 5000 ∧ ∀ h ∈ l, h.ok) := ⟨hl.llen, hl.lmax, hl.each⟩
    have HFok : Seal (∀ o x, fdF (sgd ks l) o = some x → x.1.ok ∧ x.2.ok) := ⟨fun o x h => lies_ok (ks := ks) (l := l) hl.each h⟩
    obtain ⟨F, hF⟩ : ∃ F, F = fdF (sgd ks l) := ⟨_, rfl⟩
    rw [← hF] at HL HP HFok
    clear hc hG hl hk hkl h24 hXb hX4 hXs hF hXb' hn
    refine (callsIn_wide (n := 3)).1 ?_
    refine callsIn_of_wp_marks Tryd.func36 rfl trivial ?_ rfl
    simp only [Tryd.ntmps36, List.size_toArray, List.length_cons, List.length_nil, Nat.reduceAdd, Nat.reduceSub, Array.replicate_succ, Array.replicate_zero, List.push_toArray, List.append_toArray, List.nil_append, List.cons_append]
    refine wpIn_wide.2 ?_
    go_upto_region 1 with (fail)
    rw [← hX, ← hH]
    clear hX hH
    go_wp2_with fail
    refine HC.out.mono ?_
    rintro e w1 ⟨rfl, rfl⟩
    clear HC
    go_wp2_with fail
    refine HL.out.mono ?_
    rintro e w2 ⟨b, rfl, hP⟩
    obtain ⟨hbw, hB2, m, f, hm5, hM, hfd⟩ := hP.out
    have HFD := Seal.mk hfd
    obtain ⟨Z, hZ⟩ : ∃ Z : World, Z = w2.alloc (.cells #[.map (some b)] 116) := ⟨_, rfl⟩
    have h4 : w2.heap[H]? = some (.cells #[.slice none 0 0] 66 (0, 0)) := (hB2.block H (by rw [HX.out.2.2]; omega)).trans HX.out.2.1
    have hB2' : Below H w w2 := HX.out.1.trans (hB2.mono (by rw [HX.out.2.2]; omega))
    have hZb : Below H w Z := by rw [hZ]; exact hB2'.alloc (by have := hB2'.size; have := HH.out; omega) _
    have s2 : H + 1 ≤ w2.heap.size := by have := hB2.size; rw [HX.out.2.2] at this; exact this
    have HZ : Seal (∀ base, w2.heap.size < base → TR w H w2.heap.size b m base F f [] (.slice none 0 0) Z) := ⟨fun base hb => ⟨by rw [hZ]; exact (Below.heap_alloc _ _ _ (by omega)).trans h4, by rw [hZ]; exact heap_alloc_new _ _, by rw [hZ]; exact hM.alloc _, World.ownsRow_nil _ _ _ _, hZb⟩⟩
    obtain ⟨g6, hg6⟩ : ∃ g6, g6 = w2.heap.size := ⟨_, rfl⟩
    have hZs : Z.heap.size = g6 + 1 := by rw [hZ, size_alloc, hg6]
    have hbg : b < g6 := by rw [hg6]; exact hM.lt
    have hbH : H < b := by rw [HX.out.2.2] at hbw; omega
    have hH6 : H < g6 := by omega
    clear hP hB2 hB2' h4 HL hfd hM HX
    go_wp2_with fail
    rw [← hZ, ← hg6]
    rw [← hg6] at HZ
    clear hZ hg6 s2 hbw
    refine (csigned_any a ka n c kn kc Z).mono ?_
    rintro e Y0 ⟨rfl, hY⟩
    obtain ⟨Y, rfl⟩ : ∃ Y, Y = Y0 := ⟨_, rfl⟩
    have hYb : Below H w Y := by rw [← hY]; exact (hZb.alloc (by omega) _).alloc (by rw [size_alloc]; omega) _
    obtain ⟨gy, hgy⟩ : ∃ gy, gy = Z.heap.size := ⟨_, rfl⟩
    have hYs : Y.heap.size = g6 + 3 := by rw [← hY]; simp; omega
    have hY1 : Y.cell? ⟨gy + 1, 0, none⟩ = some (.slice a n c) := by
      have h := heap_alloc_new (Z.alloc (.cells #[.slice ka kn kc] 65)) (.cells #[.slice a n c] 66)
      rw [size_alloc] at h
      rw [← hY, hgy, cell_of_row _ _ _ _ _ _ h]; rfl
    have hY2 : Y.cell? ⟨gy, 0, none⟩ = some (.slice ka kn kc) := by
      have h := heap_alloc_new Z (.cells #[.slice ka kn kc] 65)
      rw [← hY, hgy, cell_of_row _ _ _ _ _ _ ((Below.heap_alloc _ _ _ (by rw [size_alloc]; omega)).trans h)]; rfl
    have hYb' : Below w.heap.size w Y := by rw [← HH.out]; exact hYb
    have hAY : SgA Y (gy + 1) gy a n c l ka kn kc ks := ⟨hY1, hY2, HA.out.2.1.below hYb', HA.out.2.2.below hYb', HA.out.1.below hYb'⟩
    have HSeq := Seal.mk (signed_mem 2 (gy + 1) gy n c kn kc a ka l ks Y hAY)
    have HL0 : Seal (TR w H g6 b m (Y.heap.size + 2) F f [] (.slice none 0 0) Y) := ⟨by
      have h0 := HZ.out (Y.heap.size + 2) (by omega)
      rw [← hY] at h0 ⊢
      exact (h0.grown (World.grownBy_alloc _ _ none) (fun b e => by cases e)).grown (World.grownBy_alloc _ _ none) (fun b e => by cases e)⟩
    have HMi : Seal (∀ r, SgM (gy + 1) gy a n ka kn r → r < Y.heap.size ∧ r ≠ H) := ⟨fun r hr => ⟨hAY.lt hr, by
      have hA := HA.out
      have hw := HH.out
      rcases hr with rfl | rfl | ⟨h0, o, e⟩ | ⟨h0, o, e⟩ | hr
      · omega
      · omega
      · rcases hA.2.1.at_ with h1 | ⟨g, o', e', _, hg⟩
        · omega
        · rw [e] at e'; cases e'; omega
      · rcases hA.2.2.at_ with h1 | ⟨g, o', e', _, hg⟩
        · omega
        · rw [e] at e'; cases e'; omega
      · rcases hr with rfl | rfl
        · have := block_lt_of_cell (hA.1.start 0 _ (List.getElem?_eq_getElem (by decide))); dsimp only at this; omega
        · have := block_lt_of_cell (hA.1.nums 0 _ (List.getElem?_eq_getElem (by decide))); dsimp only at this; omega⟩⟩
    have HY : Seal (Y.heap.size = g6 + 3 ∧ H < b ∧ b < g6 ∧ H < g6) := ⟨hYs, hbH, hbg, hH6⟩
    rw [← hgy]
    clear hY hYb hYb' hYs hY1 hY2 hAY hgy HA hZb HZ hZs hbg hbH hH6
    go_wp2_with fail
    refine (wpIn_wide (n := 3)).1 ?_
    refine wpIn_rangeFunc_kept rfl (by decide) (gf := 110) (lb := #[.pointer (some ⟨gy + 1, 0, none⟩), .pointer (some ⟨gy, 0, none⟩)]) rfl trivial (enters_of Tryd.func110 (by kernel_rfl) rfl)
      HSeq.out (fun r hr => (HMi.out r hr).1) (fun x => rfl) (fun _ _ _ _ _ _ h _ _ => h) (fun _ _ _ _ _ h _ => h)
      (fun pre W => ∃ v, TR w H g6 b m (Y.heap.size + 2) F f pre v W) ?own ?none ⟨_, HL0.out⟩
      (fun x Wa => { tmps := #[.slice ka kn kc, .slice a n c, undef, undef, .pointer (some ⟨H, 0, none⟩), .int .i64 0, .pointer (some ⟨g6, 0, none⟩), .pointer (some ⟨Wa.heap.size, 0, none⟩), undef, undef, .slice ka kn kc, .slice a n c, .int .i64 0, .int .i64 0, .bool false, undef, .slice ka kn kc, .slice a n c, .map (some b), .slice ka kn kc, .slice a n c, (.func (.func 110) #[] #[.pointer (some ⟨gy + 1, 0, none⟩), .pointer (some ⟨gy, 0, none⟩)]), .agg x.C.toArray, undef, undef, undef, undef, undef, undef, undef, undef, undef, undef, undef, undef, undef, undef], defers := [] })
      (fun x W => W.alloc (.cells x.C.toArray 29)) (fun x W => below_alloc W _) ?assign ?body ?done
    case own =>
      rintro pre A B' ⟨v, hA⟩ hg ho
      exact ⟨v, hA.grown hg (fun k e => by have := Option.some.inj e; have := HY.out; omega)⟩
    case none =>
      rintro pre A B' ⟨v, hA⟩ hg
      exact ⟨v, hA.grown hg (fun b e => by cases e)⟩
    case assign =>
      rintro t sz pre x W K ⟨r, hr⟩ hK
      have ok : x.ok := HN.out.2.2 x (List.mem_filter.1 (show x ∈ sgd ks l by rw [hr]; simp)).1
      have hn := heap_alloc_new W (.cells (List.toArray (.int .i64 0 :: .int .i64 0 :: .int .i64 0 :: .int .i64 0 :: .int .i64 0 :: .int .i64 0 :: .int .i64 0 :: .int .u8 0 :: .int .u8 0 :: .int .u8 0 :: .int .u8 0 :: .int .u8 0 :: .int .u8 0 :: .int .u8 0 :: .int .u8 0 :: .int .u8 0 :: .int .u8 0 :: .int .u8 0 :: .int .u8 0 :: .int .u8 0 :: .int .u8 0 :: .int .u8 0 :: .int .u8 0 :: .int .u8 0 :: .int .u8 0 :: .int .u8 0 :: .int .u8 0 :: .int .u8 0 :: .int .u8 0 :: .int .u8 0 :: .int .u8 0 :: .int .u8 0 :: .int .u8 0 :: .int .u8 0 :: .int .u8 0 :: .int .u8 0 :: .int .u8 0 :: .int .u8 0 :: .int .u8 0 :: .int .i64 0 :: .int .i64 0 :: .int .i64 0 :: [] : List Value) : Array Value) 29)
      have iC : (Tryd.prog.info? 29).map (·.size) = some x.C.toArray.size := by rw [List.size_toArray]; exact Hd.C_info ok.t32
      have sC : ((List.toArray (.int .i64 0 :: .int .i64 0 :: .int .i64 0 :: .int .i64 0 :: .int .i64 0 :: .int .i64 0 :: .int .i64 0 :: .int .u8 0 :: .int .u8 0 :: .int .u8 0 :: .int .u8 0 :: .int .u8 0 :: .int .u8 0 :: .int .u8 0 :: .int .u8 0 :: .int .u8 0 :: .int .u8 0 :: .int .u8 0 :: .int .u8 0 :: .int .u8 0 :: .int .u8 0 :: .int .u8 0 :: .int .u8 0 :: .int .u8 0 :: .int .u8 0 :: .int .u8 0 :: .int .u8 0 :: .int .u8 0 :: .int .u8 0 :: .int .u8 0 :: .int .u8 0 :: .int .u8 0 :: .int .u8 0 :: .int .u8 0 :: .int .u8 0 :: .int .u8 0 :: .int .u8 0 :: .int .u8 0 :: .int .u8 0 :: .int .i64 0 :: .int .i64 0 :: .int .i64 0 :: [] : List Value) : Array Value) : Array Value).size = x.C.toArray.size := by rw [show x.C.toArray.size = 42 from by rw [List.size_toArray, Hd.C_len ok.t32]]; rfl
      have aC : x.C.toArray.all (·.oneCell') = true := all_oneCell_toArray (Hd.C_one _)
      dsimp only at hK
      unfold encH
      obtain ⟨C, hC⟩ : ∃ C, C = x.C.toArray := ⟨_, rfl⟩
      rw [← hC] at hK iC sC aC ⊢
      clear hC
      have hK' : (W.alloc (.cells (List.toArray (.int .i64 0 :: .int .i64 0 :: .int .i64 0 :: .int .i64 0 :: .int .i64 0 :: .int .i64 0 :: .int .i64 0 :: .int .u8 0 :: .int .u8 0 :: .int .u8 0 :: .int .u8 0 :: .int .u8 0 :: .int .u8 0 :: .int .u8 0 :: .int .u8 0 :: .int .u8 0 :: .int .u8 0 :: .int .u8 0 :: .int .u8 0 :: .int .u8 0 :: .int .u8 0 :: .int .u8 0 :: .int .u8 0 :: .int .u8 0 :: .int .u8 0 :: .int .u8 0 :: .int .u8 0 :: .int .u8 0 :: .int .u8 0 :: .int .u8 0 :: .int .u8 0 :: .int .u8 0 :: .int .u8 0 :: .int .u8 0 :: .int .u8 0 :: .int .u8 0 :: .int .u8 0 :: .int .u8 0 :: .int .u8 0 :: .int .i64 0 :: .int .i64 0 :: .int .i64 0 :: [] : List Value) : Array Value) 29)).setRow W.heap.size C = W.alloc (.cells C 29) := by
        have := setRow_new W (.int .i64 0 :: .int .i64 0 :: .int .i64 0 :: .int .i64 0 :: .int .i64 0 :: .int .i64 0 :: .int .i64 0 :: .int .u8 0 :: .int .u8 0 :: .int .u8 0 :: .int .u8 0 :: .int .u8 0 :: .int .u8 0 :: .int .u8 0 :: .int .u8 0 :: .int .u8 0 :: .int .u8 0 :: .int .u8 0 :: .int .u8 0 :: .int .u8 0 :: .int .u8 0 :: .int .u8 0 :: .int .u8 0 :: .int .u8 0 :: .int .u8 0 :: .int .u8 0 :: .int .u8 0 :: .int .u8 0 :: .int .u8 0 :: .int .u8 0 :: .int .u8 0 :: .int .u8 0 :: .int .u8 0 :: .int .u8 0 :: .int .u8 0 :: .int .u8 0 :: .int .u8 0 :: .int .u8 0 :: .int .u8 0 :: .int .i64 0 :: .int .i64 0 :: .int .i64 0 :: [] : List Value) C.toList 29
        simpa using this
      rw [foldl_one]
      simp only [List.setIfInBounds_toArray, List.set_cons_zero, List.set_cons_succ]
      apply wpIn_region_lit
      refine wpListIn_alloc rfl 29 rfl (.pointer (some ⟨W.heap.size, 0, none⟩)) (W.alloc (.cells (List.toArray (.int .i64 0 :: .int .i64 0 :: .int .i64 0 :: .int .i64 0 :: .int .i64 0 :: .int .i64 0 :: .int .i64 0 :: .int .u8 0 :: .int .u8 0 :: .int .u8 0 :: .int .u8 0 :: .int .u8 0 :: .int .u8 0 :: .int .u8 0 :: .int .u8 0 :: .int .u8 0 :: .int .u8 0 :: .int .u8 0 :: .int .u8 0 :: .int .u8 0 :: .int .u8 0 :: .int .u8 0 :: .int .u8 0 :: .int .u8 0 :: .int .u8 0 :: .int .u8 0 :: .int .u8 0 :: .int .u8 0 :: .int .u8 0 :: .int .u8 0 :: .int .u8 0 :: .int .u8 0 :: .int .u8 0 :: .int .u8 0 :: .int .u8 0 :: .int .u8 0 :: .int .u8 0 :: .int .u8 0 :: .int .u8 0 :: .int .i64 0 :: .int .i64 0 :: .int .i64 0 :: [] : List Value) : Array Value) 29)) (exec_alloc_hand rfl _) ?_
      (try simp only [Act.put, List.setIfInBounds_toArray, List.set_cons_zero, List.set_cons_succ])
      refine wpListIn_store_row rfl 29 (.tmp 7) (.tmp 22) rfl W.heap.size C rfl rfl 29 (List.toArray (.int .i64 0 :: .int .i64 0 :: .int .i64 0 :: .int .i64 0 :: .int .i64 0 :: .int .i64 0 :: .int .i64 0 :: .int .u8 0 :: .int .u8 0 :: .int .u8 0 :: .int .u8 0 :: .int .u8 0 :: .int .u8 0 :: .int .u8 0 :: .int .u8 0 :: .int .u8 0 :: .int .u8 0 :: .int .u8 0 :: .int .u8 0 :: .int .u8 0 :: .int .u8 0 :: .int .u8 0 :: .int .u8 0 :: .int .u8 0 :: .int .u8 0 :: .int .u8 0 :: .int .u8 0 :: .int .u8 0 :: .int .u8 0 :: .int .u8 0 :: .int .u8 0 :: .int .u8 0 :: .int .u8 0 :: .int .u8 0 :: .int .u8 0 :: .int .u8 0 :: .int .u8 0 :: .int .u8 0 :: .int .u8 0 :: .int .i64 0 :: .int .i64 0 :: .int .i64 0 :: [] : List Value) : Array Value) hn iC sC aC ?_
      rw [hK']
      exact hK
    case body =>
      clear HSeq HL0
      rintro t pre x W0 Wa W hA0 ⟨v, hA⟩ hkeep hnew hw1 hw2 hsz ⟨r0, hr0⟩ hlen
      have ok : x.ok := HN.out.2.2 x (List.mem_filter.1 (show x ∈ sgd ks l by rw [hr0]; simp)).1
      have nX : W.heap[Wa.heap.size]? = some (.cells x.C.toArray 29 (0, 0)) := (hnew _ (by omega)).trans (heap_alloc_new Wa _)
      have szW : W.heap.size = Wa.heap.size + 1 := by rw [hsz, size_alloc]
      have HR : Seal (∃ r, sgd ks l = pre ++ x :: r) := ⟨r0, hr0⟩
      obtain ⟨gx, hgx⟩ : ∃ gx, gx = Wa.heap.size := ⟨_, rfl⟩
      obtain ⟨fr, hfr⟩ : ∃ fr, fr = x.fr := ⟨_, rfl⟩
      have hkey := keyOf_i64 ok.ifr
      rw [← hfr] at hkey
      obtain ⟨CX, hCX⟩ : ∃ C, C = x.C := ⟨_, rfl⟩
      have rX : W.rangeAt gx 0 CX := by rw [hgx, hCX]; exact rangeAt_row nX
      have k2 : W.cell? ⟨gx, 4, none⟩ = some (.int .i64 fr) := by rw [hgx, cell_of_row _ _ _ _ _ _ nX, hfr]; rfl
      have c4 : W.cell? ⟨H, 0, none⟩ = some v := by rw [cell_of_row _ _ _ _ _ _ hA.c4]; rfl
      have c6 : W.cell? ⟨g6, 0, none⟩ = some (.map (some b)) := by rw [cell_of_row _ _ _ _ _ _ hA.c6]; rfl
      have hM := hA.mp
      have iX : (Tryd.prog.info? 29).map (·.size) = some CX.length := by rw [hCX]; exact Hd.C_info ok.t32
      have oX : Seal (CX.length = 42 ∧ (∀ v ∈ CX, v.oneCell' = true)) := ⟨by rw [hCX]; exact ⟨Hd.C_len ok.t32, Hd.C_one x⟩⟩
      have uH := Tryd.underlying29
      obtain ⟨i0, hi, hz0, hz1, hz2⟩ := info_parts info_hand
      have HI := Seal.mk (And.intro hi (And.intro hz0 (And.intro hz1 hz2)))
      obtain ⟨zl, hzl⟩ : ∃ zl : List Value, zl = Tryd.zeroCells74.toList := ⟨_, rfl⟩
      have ZL : Seal (zl.length = 84 ∧ Tryd.zeroCells74 = zl.toArray) := ⟨by
        rw [hzl, Array.length_toList]
        exact ⟨by kernel_rfl, by rw [Array.toArray_toList]⟩⟩
      have ZA : Seal (∀ (ρ : Operand → Value) (o : Oper) (w : World), o.op = .alloc 74 → (execOp ρ o).run Tryd.prog w = .ok (.value (.pointer (some ⟨w.heap.size, 0, none⟩))) (w.alloc (.cells zl.toArray 74))) := ⟨fun ρ o w ho => by rw [← ZL.out.2]; exact exec_alloc_lie ho w⟩
      have ZV : Seal (∀ w, (zeroValue 74).run Tryd.prog w = .ok (.agg zl.toArray) w) := ⟨fun w => by rw [← ZL.out.2]; exact zeroLi w⟩
      have iZ : Seal ((Tryd.prog.info? 74).map (·.size) = some zl.length ∧ (∀ v ∈ zl, v.oneCell' = true)) := ⟨by rw [ZL.out.1]; kernel_rfl, fun v hv => by
        have h : ∀ v ∈ Tryd.zeroCells74.toList, v.oneCell' = true := by decide +kernel
        rw [ZL.out.2] at h
        exact h v hv⟩
      have hv7 := HFD.out fr
      have HQ := Seal.mk (And.intro hCX (And.intro hfr ok))
      have HW : Seal (W.heap.size = gx + 1 ∧ Y.heap.size + 1 < gx ∧ pre.length < 5000) := ⟨by have := HN.out; omega⟩
      have HA := Seal.mk hA
      rw [← hgx]
      dsimp only
      rw [← hCX]
      clear hA0 hA hkeep hnew nX hr0 ok hCX hsz hw1 hw2 szW hlen hgx hfr hi hz0 hz1 hz2 hzl
      cases hfk : F fr with
      | some o =>
        obtain ⟨o1, o2⟩ := o
        rw [hfk] at hv7
        obtain ⟨ok1, ok2⟩ := HFok.out _ _ hfk
        dsimp only at ok1 ok2
        obtain ⟨LO, hLO⟩ : ∃ LO, LO = lieC o1 o2 := ⟨_, rfl⟩
        have hw1 : (f (.int .i64 fr)).getD (.agg zl.toArray) = .agg LO.toArray := by rw [hv7, hLO]; rfl
        have hw2 : (f (.int .i64 fr)).isSome = true := by rw [hv7]; rfl
        have iO : Seal ((Tryd.prog.info? 74).map (·.size) = some LO.length ∧ (∀ v ∈ LO, v.oneCell' = true) ∧ LO.length = 84) := ⟨by rw [hLO]; exact ⟨lieC_info ok1.t32 ok2.t32, lieC_one _ _, lieC_len ok1.t32 ok2.t32⟩⟩
        have zO : zl.length = LO.length := by rw [iO.out.2.2, ZL.out.1]
        have HX : Seal ((F x.fr).isNone = false) := ⟨by rw [← HQ.out.2.1, hfk]; rfl⟩
        clear hv7 hfk ok1 ok2 hLO
        gi_wp2_with (first
          | (refine wpListIn_look rfl (.tmp 24) (.tmp 26) 116 rfl 3 74 int_keys Tryd.underlying116 (ZV.out _) b m f rfl hM (.int .i64 fr) rfl hkey (.agg LO.toArray) true hw1 hw2 ?_; (try simp only [Act.put, List.setIfInBounds_toArray, List.set_cons_zero, List.set_cons_succ]))
          | (refine wpListIn_newvar rfl rfl 74 8 (.tmp 28) rfl rfl rfl zl LO (ZA.out _ _ _ rfl) rfl rfl iO.out.1 zO iO.out.2.1 ?_; intro V1 hV1; have HN1 : Seal (Below W.heap.size W V1) := ⟨(by rw [hV1]; exact below_alloc _ _)⟩; clear hV1; (try simp only [Act.put, List.setIfInBounds_toArray, List.set_cons_zero, List.set_cons_succ])))
        have hb := HN1.out
        refine ⟨⟨hb.size, fun r hr => hb.block r (by have := HW.out; omega)⟩, fun r hr => hb.block r (by have := HW.out; have := HMi.out r hr; omega), HR.out, _, (HA.out.below hb).same HX.out⟩
      | none =>
        rw [hfk] at hv7
        have hw1 : (f (.int .i64 fr)).getD (.agg zl.toArray) = .agg zl.toArray := by rw [hv7]; rfl
        have hw2 : (f (.int .i64 fr)).isSome = false := by rw [hv7]; rfl
        have HX : Seal ((F x.fr).isNone = true) := ⟨by rw [← HQ.out.2.1, hfk]; rfl⟩
        have HTl : Seal ((trK F pre).length ≤ 5000) := ⟨Nat.le_trans (List.length_filter_le _ _) (by have := HW.out; omega)⟩
        clear hv7 hfk
        gi_wp2_with (first
          | (refine wpListIn_look rfl (.tmp 24) (.tmp 26) 116 rfl 3 74 int_keys Tryd.underlying116 (ZV.out _) b m f rfl hM (.int .i64 fr) rfl hkey (.agg zl.toArray) false hw1 hw2 ?_; (try simp only [Act.put, List.setIfInBounds_toArray, List.set_cons_zero, List.set_cons_succ]))
          | (refine wpListIn_newvar rfl rfl 74 8 (.tmp 28) rfl rfl rfl zl zl (ZA.out _ _ _ rfl) rfl rfl iZ.out.1 rfl iZ.out.2 ?_; intro V1 hV1; have HN1 : Seal (Below W.heap.size W V1) := ⟨(by rw [hV1]; exact below_alloc _ _)⟩; clear hV1; have rX1 := rangeAt_below' rX HN1.out; have c41 := cell_below' HN1.out c4; clear rX c4 c6 k2; (try simp only [Act.put, List.setIfInBounds_toArray, List.set_cons_zero, List.set_cons_succ]))
          | (refine wpListIn_load_mid rfl 29 (.tmp 7) rfl gx 0 rfl CX _ rX1 uH rfl iX ?_; (try simp only [Act.put, List.setIfInBounds_toArray, List.set_cons_zero, List.set_cons_succ]))
          | (refine wpListIn_bslice rfl 66 29 1 42 #[(0, .tmp 33)] rfl [CX] Tryd.underlying66 size_hand _ zeroHd rfl rfl (by intro C hC; obtain rfl : C = CX := (by simpa using hC); exact oX.out.1) (by decide) (by decide) rfl ?_; obtain ⟨V2, hV2⟩ : ∃ V, V = V1.alloc (.cells [CX].flatten.toArray 29) := ⟨_, rfl⟩; have HN2 : Seal (Below W.heap.size W V2 ∧ V1.heap.size < V2.heap.size ∧ V2.cell? ⟨H, 0, none⟩ = some v ∧ ∀ j u, CX[j]? = some u → V2.cell? ((⟨V1.heap.size, 0, none⟩ : Addr).add j) = some u) := ⟨(by rw [hV2]; exact ⟨HN1.out.alloc HN1.out.size _, (by rw [size_alloc]; omega), cell_allocd c41 _, fun j u hu => (by rw [Addr.add_mid]; exact rangeAt_row (heap_alloc_new V1 _) j u (by simpa using hu))⟩)⟩; rw [← hV2]; clear hV2 c41 rX1; have HT2 := Seal.mk (HA.out.below HN2.out.1); have hsz2 : Seal (Y.heap.size + 2 ≤ V2.heap.size) := ⟨(by have := HN2.out.1.size; have := HW.out; omega)⟩; (try simp only [Act.put, List.setIfInBounds_toArray, List.set_cons_zero, List.set_cons_succ]))
          | (refine wpListIn_append_own _ rfl (.tmp 32) (.tmp 34) 66 rfl (Y.heap.size + 2) 29 i0 _ 42 112 Tryd.underlying66 HI.out.1 HI.out.2.1 HI.out.2.2.1 HI.out.2.2.2 rfl (by decide) v (trK F pre).length (hcells (trK F pre)) rfl HT2.out.own ⟨V1.heap.size, 0, none⟩ 1 1 CX rfl oX.out.1 HN2.out.2.2.2 oX.out.2 (by unfold maxLen; have := HTl.out; omega) (by have := HTl.out; omega) hsz2.out ?_; intro v5 w5 hown5 hgrow5 _; obtain ⟨a5, n5, q5, rfl⟩ := slice_form hown5; have HS5 := Seal.mk (HT2.out.step (x := x) (by have := HY.out; omega) HX.out hgrow5 (by rw [← HQ.out.1]; exact hown5)); have vlt := HT2.out.own.lt; have c45 : w5.cell? ⟨H, 0, none⟩ = some v := (World.cell?_of_block (w := V2) (hgrow5.block H (block_lt_of_cell HN2.out.2.2.1) (fun e => (by have := (vlt H e.symm).1; have := HY.out; omega)))).trans HN2.out.2.2.1; have f45 : w5.frozen? ⟨H, 0, none⟩ = false := (World.frozen?_of_block (w := V2) (hgrow5.block H (block_lt_of_cell HN2.out.2.2.1) (fun e => (by have := (vlt H e.symm).1; have := HY.out; omega)))).trans (frozen_of_row _ _ _ _ _ HT2.out.c4); clear hown5 hgrow5 vlt; (try simp only [Act.put, List.setIfInBounds_toArray, List.set_cons_zero, List.set_cons_succ])))
        have hb := HN2.out.1
        obtain ⟨s1, s2, s3⟩ := HS5.out
        refine ⟨⟨Nat.le_trans hb.size s2, fun r hr => (s3 r (by have := hb.size; have := HW.out; omega) (by have := HY.out; omega) (by omega)).trans (hb.block r (by have := HW.out; omega))⟩, fun r hr => (s3 r (by have := hb.size; have := HW.out; have := HMi.out r hr; omega) (HMi.out r hr).2 (by have := HMi.out r hr; omega)).trans (hb.block r (by have := HW.out; have := HMi.out r hr; omega)), HR.out, _, s1⟩
    case done =>
      rintro xs W rfl ⟨v, hA⟩ hw1 hD
      have c4 : W.cell? ⟨H, 0, none⟩ = some v := by rw [cell_of_row _ _ _ _ _ _ hA.c4]; rfl
      have f4 : W.frozen? ⟨H, 0, none⟩ = false := frozen_of_row _ _ _ _ _ hA.c4
      have x4 := heap_setCell_row (cs := [v]) (i := 0) v hA.c4
      have HX4 : Seal ((W.setCell ⟨H, 0, none⟩ v).heap[H]? = some (.cells #[v] 66 (0, 0))) := ⟨by simpa using x4⟩
      have HA := Seal.mk hA
      have HD := Seal.mk (And.intro hD hw1)
      obtain ⟨a5, n5, q5, rfl⟩ := slice_form hA.own
      clear hA hD x4 hw1
      go_wp2
      have hYs := HY.out
      have hH := HH.out
      obtain ⟨Z, hZ⟩ : ∃ Z, Z = W.setCell ⟨H, 0, none⟩ (.slice a5 n5 q5) := ⟨_, rfl⟩
      have hD' : Z.heap[Y.heap.size]? = some (.deferred (some [])) := by rw [hZ]; exact (Below.heap_setCell _ _ _ _ (by simp; omega)).trans HD.out.1
      have hZ4 := HX4.out
      have hZb : Below H w Z := by rw [hZ]; exact HA.out.bel.setCell (p := ⟨H, 0, none⟩) (Nat.le_refl _) _
      have hown : Z.ownsRow (Y.heap.size + 2) 29 42 (.slice a5 n5 q5) (trK F (sgd ks l)).length (hcells (trK F (sgd ks l))) := by
        rw [hZ]
        exact HA.out.own.kept (grownBy_setCell' W H (.slice a5 n5 q5)) (by
          cases hv : (Value.slice a5 n5 q5).ownBlock with
          | none => exact .inl rfl
          | some b => exact .inr (fun e => by have := (HA.out.own.lt b hv).1; have := Option.some.inj e; omega))
      rw [← hZ] at hZ4 ⊢
      have hc5 : (Z.putObj Y.heap.size (.deferred none)).cell? ⟨H, 0, none⟩ = some (.slice a5 n5 q5) := by
        rw [cell_of_row _ _ _ _ _ _ ((World.putObj_heap_other (by omega)).trans hZ4)]; rfl
      have hown3 : (Z.putObj Y.heap.size (.deferred none)).ownsRow (Y.heap.size + 2) 29 42 (.slice a5 n5 q5) (trK F (sgd ks l)).length (hcells (trK F (sgd ks l))) := hown.kept (grownBy_putObj' _ _ _) (by
        cases hv : (Value.slice a5 n5 q5).ownBlock with
        | none => exact .inl rfl
        | some b => exact .inr (fun e => by have := (hown.lt b hv).1; have := Option.some.inj e; omega))
      refine ⟨by simp, .inl ⟨_, _, rfl, run_takeDeferred hD', ?_⟩⟩
      refine ⟨.tuple #[.slice a5 n5 q5, .int .i64 0], by simp [results, Tryd.results36, go_sem, hc5], .slice a5 n5 q5, rfl, ⟨?_, ?_⟩⟩
      · rw [HP.out]
        refine ⟨hown3.1, ?_⟩
        rcases hown3.2 with h | ⟨g, cap, cur, e, hge, h⟩
        · exact .inl h
        · exact .inr ⟨g, cap, cur, e, by omega, h⟩
      · rw [← hH]
        exact hZb.trans (belowK_b (w := w) (by omega) _ Y.heap.size _ _ (by omega) hD' rfl rfl)

end Frk

namespace Frk
open Go Go.RowKit Go.Proofs
set_option maxRecDepth 100000

theorem HdAt.later {w w' : World} {g : Nat} {h : Hd} (k : HdAt w g h) (hb : Below w.heap.size w w') : HdAt w' g h :=
  ⟨cell_later hb k.c0, cell_later hb k.c1, cell_later hb k.c2, cell_later hb k.c3, cell_later hb k.c4, cell_later hb k.c5, cell_later hb k.c6, cell_later hb k.c39, cell_later hb k.c40, cell_later hb k.c41, rangeAt_below' k.txt hb⟩


end Frk

namespace Frk
open Go Go.RowKit Go.Proofs
set_option maxRecDepth 100000

set_option maxHeartbeats 2000000 in
theorem rbefore_any (a b : Hd) (w : World) (ka : a.T.length = 32) (kb : b.T.length = 32) : Calls Tryd.prog 42 #[.agg a.C.toArray, .agg b.C.toArray] w fun e w' => e = .returned (.bool (befB a b)) ∧ Below w.heap.size w w' := by
  unfold befB
  by_cases h1 : a.A = b.A
  · rw [if_neg (by simp [h1])]
    have q1 : (a.A != b.A) = false := by simp [h1]
    by_cases h2 : a.L = b.L
    · rw [if_neg (by simp [h2])]
      have q2 : (a.L != b.L) = false := by simp [h2]
      by_cases h3 : a.R = b.R
      · rw [if_neg (by simp [h3])]
        have q3 : (a.R != b.R) = false := by simp [h3]
        clear h1 h2 h3
        obtain ⟨CA, hCA⟩ : ∃ C, C = a.C.toArray := ⟨_, rfl⟩
        obtain ⟨CB, hCB⟩ : ∃ C, C = b.C.toArray := ⟨_, rfl⟩
        obtain ⟨X, hX⟩ : ∃ X : World, X = (w.alloc (.cells CA 29)).alloc (.cells CB 29) := ⟨_, rfl⟩
        have hXb : Seal (Below w.heap.size w X) := ⟨by rw [hX]; exact ((Below.refl _ w).alloc (Nat.le_refl _) _).alloc (by simp) _⟩
        have nA : X.heap[w.heap.size]? = some (.cells a.C.toArray 29 (0, 0)) := by rw [hX, hCA]; exact heap_alloc2_old w _ _
        have nB : X.heap[w.heap.size + 1]? = some (.cells b.C.toArray 29 (0, 0)) := by rw [hX, hCB]; exact heap_alloc2_new w _ _
        obtain ⟨a0, a1, a2, a3, a4, _, _, _, _, _, _⟩ := hdAt_of ka nA
        obtain ⟨b0, b1, b2, b3, b4, _, _, _, _, _, _⟩ := hdAt_of kb nB
        rw [← hCA, ← hCB]
        clear hCA hCB nA nB ka kb
        go_enter Tryd.func42, Tryd.ntmps42
        go_upto_region 1 with (fail)
        rw [← hX]
        clear hX
        go_wp2
        go_ret
        exact ⟨by simp, hXb.out⟩
      · rw [if_pos h3]
        have q3 : (a.R != b.R) = true := by simp [h3]
        clear h1 h2 h3
        obtain ⟨CA, hCA⟩ : ∃ C, C = a.C.toArray := ⟨_, rfl⟩
        obtain ⟨CB, hCB⟩ : ∃ C, C = b.C.toArray := ⟨_, rfl⟩
        obtain ⟨X, hX⟩ : ∃ X : World, X = (w.alloc (.cells CA 29)).alloc (.cells CB 29) := ⟨_, rfl⟩
        have hXb : Seal (Below w.heap.size w X) := ⟨by rw [hX]; exact ((Below.refl _ w).alloc (Nat.le_refl _) _).alloc (by simp) _⟩
        have nA : X.heap[w.heap.size]? = some (.cells a.C.toArray 29 (0, 0)) := by rw [hX, hCA]; exact heap_alloc2_old w _ _
        have nB : X.heap[w.heap.size + 1]? = some (.cells b.C.toArray 29 (0, 0)) := by rw [hX, hCB]; exact heap_alloc2_new w _ _
        obtain ⟨a0, a1, a2, a3, a4, _, _, _, _, _, _⟩ := hdAt_of ka nA
        obtain ⟨b0, b1, b2, b3, b4, _, _, _, _, _, _⟩ := hdAt_of kb nB
        rw [← hCA, ← hCB]
        clear hCA hCB nA nB ka kb
        go_enter Tryd.func42, Tryd.ntmps42
        go_upto_region 1 with (fail)
        rw [← hX]
        clear hX
        go_wp2
        go_ret
        exact ⟨by simp, hXb.out⟩
    · rw [if_pos h2]
      have q2 : (a.L != b.L) = true := by simp [h2]
      clear h1 h2
      obtain ⟨CA, hCA⟩ : ∃ C, C = a.C.toArray := ⟨_, rfl⟩
      obtain ⟨CB, hCB⟩ : ∃ C, C = b.C.toArray := ⟨_, rfl⟩
      obtain ⟨X, hX⟩ : ∃ X : World, X = (w.alloc (.cells CA 29)).alloc (.cells CB 29) := ⟨_, rfl⟩
      have hXb : Seal (Below w.heap.size w X) := ⟨by rw [hX]; exact ((Below.refl _ w).alloc (Nat.le_refl _) _).alloc (by simp) _⟩
      have nA : X.heap[w.heap.size]? = some (.cells a.C.toArray 29 (0, 0)) := by rw [hX, hCA]; exact heap_alloc2_old w _ _
      have nB : X.heap[w.heap.size + 1]? = some (.cells b.C.toArray 29 (0, 0)) := by rw [hX, hCB]; exact heap_alloc2_new w _ _
      obtain ⟨a0, a1, a2, a3, a4, _, _, _, _, _, _⟩ := hdAt_of ka nA
      obtain ⟨b0, b1, b2, b3, b4, _, _, _, _, _, _⟩ := hdAt_of kb nB
      rw [← hCA, ← hCB]
      clear hCA hCB nA nB ka kb
      go_enter Tryd.func42, Tryd.ntmps42
      go_upto_region 1 with (fail)
      rw [← hX]
      clear hX
      go_wp2
      go_ret
      exact ⟨by simp, hXb.out⟩
  · rw [if_pos h1]
    have q1 : (a.A != b.A) = true := by simp [h1]
    clear h1
    obtain ⟨CA, hCA⟩ : ∃ C, C = a.C.toArray := ⟨_, rfl⟩
    obtain ⟨CB, hCB⟩ : ∃ C, C = b.C.toArray := ⟨_, rfl⟩
    obtain ⟨X, hX⟩ : ∃ X : World, X = (w.alloc (.cells CA 29)).alloc (.cells CB 29) := ⟨_, rfl⟩
    have hXb : Seal (Below w.heap.size w X) := ⟨by rw [hX]; exact ((Below.refl _ w).alloc (Nat.le_refl _) _).alloc (by simp) _⟩
    have nA : X.heap[w.heap.size]? = some (.cells a.C.toArray 29 (0, 0)) := by rw [hX, hCA]; exact heap_alloc2_old w _ _
    have nB : X.heap[w.heap.size + 1]? = some (.cells b.C.toArray 29 (0, 0)) := by rw [hX, hCB]; exact heap_alloc2_new w _ _
    obtain ⟨a0, a1, a2, a3, a4, _, _, _, _, _, _⟩ := hdAt_of ka nA
    obtain ⟨b0, b1, b2, b3, b4, _, _, _, _, _, _⟩ := hdAt_of kb nB
    rw [← hCA, ← hCB]
    clear hCA hCB nA nB ka kb
    go_enter Tryd.func42, Tryd.ntmps42
    go_upto_region 1 with (fail)
    rw [← hX]
    clear hX
    go_wp2
    go_ret
    exact ⟨by simp, hXb.out⟩

end Frk

namespace Frk
open Go Go.RowKit Go.Proofs
set_option maxRecDepth 100000

def HandsPost (L : List Hd) (w : World) (e : Ending) (w' : World) : Prop :=
  ∃ v, e = .returned v ∧ Seal (w'.ownsRow w.heap.size 29 42 v L.length (hcells L) ∧ Below w.heap.size w w')
theorem hcells_len {l : List Hd} (h : ∀ x ∈ l, x.ok) : (hcells l).length = l.length * 42 := flatC_len (fun x hx => Hd.C_len (h x hx).t32)

/-- one's own hand-overs, as a slice -/
theorem hs_of_own {w : World} {base : Nat} {v : Value} {L : List Hd} (h : w.ownsRow base 29 42 v L.length (hcells L)) (hok : ∀ x ∈ L, x.ok) (hm : L.length ≤ 5000) : ∃ a c, v = .slice a L.length c ∧ IsHs w a L.length c L := by
  rcases h.2 with ⟨rfl, h0⟩ | ⟨g, cap, cur, rfl, _, hg, hc, hcm, hs, ht⟩
  · exact ⟨none, 0, by rw [h0], by omega, by omega, hm, by omega, hok, .inl h0⟩
  · refine ⟨some ⟨g, 0, none⟩, cap, rfl, rfl, hc, hm, by unfold maxLen at hcm; omega, hok, .inr ⟨g, 0, rfl, ?_, (Array.getElem?_eq_some_iff.1 hg).1⟩⟩
    intro j u hu
    rw [cell_of_row _ _ _ _ _ _ hg]
    have hlt := (List.getElem?_eq_some_iff.1 hu).1
    have hl : (hcells L).length = L.length * 42 := hcells_len hok
    have : (hcells L)[j]? = some u := hu
    rw [← ht, List.getElem?_take] at this
    split at this
    · simpa using this
    · cases this
theorem ls_of_own {w : World} {base : Nat} {v : Value} {L : List (Hd × Hd)} (h : w.ownsRow base 74 84 v L.length (lcells L)) : ∃ a c, v = .slice a L.length c ∧ L.length ≤ c ∧ (L.length = 0 ∨ ∃ g, a = some ⟨g, 0, none⟩ ∧ base ≤ g ∧ g < w.heap.size ∧ w.rangeAt g 0 (lcells L)) := by
  rcases h.2 with ⟨rfl, h0⟩ | ⟨g, cap, cur, rfl, hb, hg, hc, hcm, hs, ht⟩
  · exact ⟨none, 0, by rw [h0], by omega, .inl h0⟩
  · refine ⟨some ⟨g, 0, none⟩, cap, rfl, hc, .inr ⟨g, rfl, hb, (Array.getElem?_eq_some_iff.1 hg).1, ?_⟩⟩
    intro j u hu
    rw [cell_of_row _ _ _ _ _ _ hg]
    rw [← ht, List.getElem?_take] at hu
    split at hu
    · simpa using hu
    · cases hu

end Frk

