/- elgamal: times, power, the ciphers of a letter, Check, what Strip does to a cipher. -/
import Derived.Test.YtemoomfnmiodeaaDoorVrgElm
import Derived.Test.YtemoomfnmiodeaaDoorVrgDbs
import Derived.Test.YtemoomfnmiodeaaDoorVrRnb
import Derived.Test.YtemoomfnmiodeaaDoorVrPow
import Derived.WalkSpells
import Derived.Test.YtemoomfnmiodeaaDoorVrOuk
namespace Frk
open Go Go.RowKit Go.Proofs
set_option maxRecDepth 100000
section
attribute [local go_sem] Oper.semAt_some

theorem etimes_any (g A D : Nat) (w : World) (hA : A < 2147483579) (hD : D < 2147483579) (c0 : w.cell? ⟨g, 0, none⟩ = some (.int .i64 A)) (c1 : w.cell? ⟨g, 1, none⟩ = some (.int .i64 D)) :
    Calls Tryd.prog 42 #[.slice (some ⟨g, 0, none⟩) 2 2] w fun e w' => e = .returned (.int .i64 (mp A D : Nat)) ∧ w = w' := by
  obtain ⟨b1, b2⟩ := mul_bd hD hA
  have e1 : ((A : Int) % 2147483579) = A := by omega
  have HA := Seal.mk hA
  go_enter Tryd.func42, Tryd.ntmps42
  go_wp2
  refine wp_loop_rounds 3 ?_
  rw [rounds_succ]
  go_wp2
  rw [rounds_succ]
  go_wp2
  rw [rounds_succ]
  go_wp2
  go_ret
  refine ⟨?_, rfl⟩
  unfold mp
  simp [P]

theorem epower_any (a n : Int) (w : World) (h : vd a = true) (h1 : -9223372036854775808 ≤ n) (h2 : n ≤ 9223372036854775807) :
    Calls Tryd.prog 43 #[.int .i64 a, .int .i64 n] w fun e w' => e = .returned (.int .i64 (pw a.toNat n : Nat)) ∧ Below w.heap.size w w' := by
  have HP := Seal.mk (pow_yes a n w h h1 h2)
  clear h h1 h2
  go_enter Tryd.func43, Tryd.ntmps43
  go_wp2_with fail
  refine HP.out.mono ?_
  rintro e w1 ⟨rfl, hb⟩
  have HB := Seal.mk hb
  clear hb
  go_wp2
  go_ret
  exact ⟨rfl, HB.out⟩

theorem eciphers_any (g : Nat) (w : World) : Calls Tryd.prog 44 #[.pointer (some ⟨g, 0, none⟩)] w fun e w' => e = .returned (.func (.func 63) #[] #[.pointer (some ⟨w.heap.size, 0, none⟩)]) ∧ w.alloc (.cells #[.pointer (some ⟨g, 0, none⟩)] 95) = w' := by
  go_enter Tryd.func44, Tryd.ntmps44
  go_wp2
  go_ret
  exact ⟨rfl, rfl⟩

/-- what ciphers yields -/
def encC (g : Nat) : Fin 3 → Array Value
  | 0 => #[.int .i64 0, .pointer (some ⟨g, 0, none⟩)]
  | 1 => #[.int .i64 1, .pointer (some ⟨g, 2, none⟩)]
  | 2 => #[.int .i64 2, .pointer (some ⟨g, 4, none⟩)]
theorem encC_size (g : Nat) : ∀ k, (encC g k).size = 2
  | 0 => rfl
  | 1 => rfl
  | 2 => rfl

set_option maxHeartbeats 2000000 in
theorem ciphers_seq (m g b : Nat) (w : World) (h0 : w.cell? ⟨b, 0, none⟩ = some (.pointer (some ⟨g, 0, none⟩))) :
    SeqCells Fence.wide m Tryd.prog 63 #[.pointer (some ⟨b, 0, none⟩)] (encC g) (fun r => r = b) (fun xs => xs = [0, 1, 2]) 3 w := by
  intro l J W hW hJ hY hJ0
  refine callsIn_of_wp Tryd.func63 rfl trivial ?_ rfl
  simp only [Tryd.ntmps63, List.size_toArray, List.length_cons, List.length_nil, Nat.reduceAdd, Nat.reduceSub, Array.replicate_succ, Array.replicate_zero, List.push_toArray, List.append_toArray, List.nil_append, List.cons_append]
  have c0 : W.cell? ⟨b, 0, none⟩ = some (.pointer (some ⟨g, 0, none⟩)) := (hW.cell (p := ⟨b, 0, none⟩) (block_lt_of_cell h0)).trans h0
  have HY := Seal.mk hY
  clear hY hJ hW h0
  gi_wp2
  refine wpIn_loop_rounds 4 ?_
  rw [roundsIn_succ]
  obtain ⟨fn1, tmps1, as1, body1, hy, hR⟩ := HY.out [] (0 : Fin 3) W hJ0 (by decide)
  have hR := Seal.mk hR
  dsimp only [encC] at hy
  gi_wp2
  refine ⟨fun h => (by cases h), ?_⟩
  refine hR.out.mono ?_
  rintro e W1 ⟨rfl, hJ1, hk⟩
  have d1 : W1.cell? ⟨b, 0, none⟩ = some (.pointer (some ⟨g, 0, none⟩)) := (World.cell?_of_block (w := W) (hk b rfl)).trans c0
  clear hk hy hR hJ0 c0
  gi_wp2
  rw [roundsIn_succ]
  obtain ⟨fn2, tmps2, as2, body2, hy, hR⟩ := HY.out ([] ++ [0]) (1 : Fin 3) W1 hJ1 (by decide)
  have hR := Seal.mk hR
  dsimp only [encC] at hy
  gi_wp2
  refine ⟨fun h => (by cases h), ?_⟩
  refine hR.out.mono ?_
  rintro e W2 ⟨rfl, hJ2, hk⟩
  have d2 : W2.cell? ⟨b, 0, none⟩ = some (.pointer (some ⟨g, 0, none⟩)) := (World.cell?_of_block (w := W1) (hk b rfl)).trans d1
  clear hk hy hR hJ1 d1
  gi_wp2
  rw [roundsIn_succ]
  obtain ⟨fn3, tmps3, as3, body3, hy, hR⟩ := HY.out ([] ++ [0] ++ [1]) (2 : Fin 3) W2 hJ2 (by decide)
  have hR := Seal.mk hR
  dsimp only [encC] at hy
  gi_wp2
  refine ⟨fun h => (by cases h), ?_⟩
  refine hR.out.mono ?_
  rintro e W3 ⟨rfl, hJ3, hk⟩
  have d3 : W3.cell? ⟨b, 0, none⟩ = some (.pointer (some ⟨g, 0, none⟩)) := (World.cell?_of_block (w := W2) (hk b rfl)).trans d2
  clear hk hy hR hJ2 d2
  gi_wp2
  rw [roundsIn_succ]
  gi_wp2
  go_end0
  exact ⟨⟨_, rfl⟩, _, rfl, hJ3⟩
end

section
attribute [local go_sem] Oper.semAt_some

/-- a letter's cells -/
def rowL (L : Fin 3 → Int × Int) : List Value := [.int .i64 (L 0).1, .int .i64 (L 0).2, .int .i64 (L 1).1, .int .i64 (L 1).2, .int .i64 (L 2).1, .int .i64 (L 2).2]
def okL (L : Fin 3 → Int × Int) : Prop := ∀ j, vd (L j).1 = true ∧ vd (L j).2 = true
def setL (i : Fin 3) (p : Int × Int) (L : Fin 3 → Int × Int) : Fin 3 → Int × Int := fun j => if j = i then p else L j
/-- one cipher off -/
def offP (n : Int) (p : Int × Int) : Int × Int := (p.1, ((mp p.2.toNat (pw p.1.toNat (-n)) : Nat) : Int))
theorem offP_ok {n : Int} {p : Int × Int} (h : vd p.1 = true ∧ vd p.2 = true) : vd (offP n p).1 = true ∧ vd (offP n p).2 = true := by
  refine ⟨h.1, ?_⟩
  obtain ⟨A, hA, vA⟩ := vd_of_vd h.1
  obtain ⟨D, hD, vD⟩ := vd_of_vd h.2
  show vd ((mp p.2.toNat (pw p.1.toNat (-n)) : Nat) : Int) = true
  rw [hA, hD, Int.toNat_natCast, Int.toNat_natCast]
  exact (vd_iff _).2 (vD.mp (vA.pw _))

set_option maxHeartbeats 2000000 in
theorem estrip1_any (i A D n X : Int) (g k cb : Nat) (cur : List Value) (w : World) (hg : w.heap[g]? = some (.cells cur.toArray 47 (0, 0))) (hA : cur[k]? = some (.int .i64 A)) (hD : cur[k + 1]? = some (.int .i64 D)) (hn : w.cell? ⟨cb, 0, none⟩ = some (.int .i64 n)) (vA : vd A = true) (vD : vd D = true) (n1 : 1 ≤ n) (n2 : n < 1073741789) (hX : Seal (((mp D.toNat (pw A.toNat (-n)) : Nat) : Int) = X)) :
    Calls Tryd.prog 41 #[.int .i64 i, .pointer (some ⟨g, k, none⟩), .pointer (some ⟨cb, 0, none⟩)] w fun e w' => e = .returned (.tuple #[]) ∧ w.grownBy w' (some g) ∧ w'.heap[g]? = some (.cells (cur.set (k + 1) (.int .i64 X)).toArray 47 (0, 0)) := by
  have hw : IntKind.i64.wrap (-n) = -n := IntWalk.i64_in _ (by omega)
  have HPw : Seal (∀ W, Calls Tryd.prog 43 #[.int .i64 A, .int .i64 (-n)] W fun e w' => e = .returned (.int .i64 (pw A.toNat (-n) : Nat)) ∧ Below W.heap.size W w') := ⟨fun W => epower_any A (-n) W vA (by omega) (by omega)⟩
  obtain ⟨D', rfl, hD'⟩ := vd_of_vd vD
  have HD : Seal (D' < 2147483579) := ⟨hD'.2.1⟩
  have kA : w.cell? ⟨g, k, none⟩ = some (.int .i64 A) := by rw [cell_of_row _ _ _ _ _ _ hg]; simpa using hA
  have kD : w.cell? ⟨g, k + 1, none⟩ = some (.int .i64 (D' : Int)) := by rw [cell_of_row _ _ _ _ _ _ hg]; simpa using hD
  have HG := Seal.mk hg
  clear hg hA hD vA vD n1 n2 hD'
  go_enter Tryd.func41, Tryd.ntmps41
  refine wp_region_heldT 16 (S := fun w' => w'.cell? ⟨g, k, none⟩ = some (.int .i64 A) ∧ w'.cell? ⟨g, k + 1, none⟩ = some (.int .i64 (D' : Int)) ∧ w'.cell? ⟨cb, 0, none⟩ = some (.int .i64 n)) (by kernel_rfl) ⟨kA, kD, hn⟩ (fun hHeld => ?_)
  refine take_t 0 ?_ rfl (by kernel_rfl) (by kernel_rfl) (by kernel_rfl) (by kernel_rfl) (fun _ _ _ h => h) (Or.inl ⟨by kernel_rfl, ?_⟩) (by assumption) ?_
  rotate_left
  · (intro w hSw; (try dsimp only at hSw); go_simp; try (with_reducible rfl))
  try simp only [Act.put, List.setIfInBounds_toArray, List.set_cons_zero, List.set_cons_succ]
  refine take_t 1 ?_ rfl (by kernel_rfl) (by kernel_rfl) (by kernel_rfl) (by kernel_rfl) (fun _ _ _ h => h) (Or.inl ⟨by kernel_rfl, ?_⟩) (by assumption) ?_
  rotate_left
  · (intro w hSw; (try dsimp only at hSw); go_simp; try (with_reducible rfl))
  try simp only [Act.put, List.setIfInBounds_toArray, List.set_cons_zero, List.set_cons_succ]
  refine take_t 2 ?_ rfl (by kernel_rfl) (by kernel_rfl) (by kernel_rfl) (by kernel_rfl) (fun _ _ _ h => h) (Or.inl ⟨by kernel_rfl, ?_⟩) (by assumption) ?_
  rotate_left
  · (intro w hSw; (try dsimp only at hSw); go_simp; try (with_reducible rfl))
  try simp only [Act.put, List.setIfInBounds_toArray, List.set_cons_zero, List.set_cons_succ]
  refine take_t 3 ?_ rfl (by kernel_rfl) (by kernel_rfl) (by kernel_rfl) (by kernel_rfl) (fun _ _ _ h => h) (Or.inl ⟨by kernel_rfl, ?_⟩) (by assumption) ?_
  rotate_left
  · (intro w hSw; (try dsimp only at hSw); go_simp; try (with_reducible rfl))
  try simp only [Act.put, List.setIfInBounds_toArray, List.set_cons_zero, List.set_cons_succ]
  refine take_t 4 ?_ rfl (by kernel_rfl) (by kernel_rfl) (by kernel_rfl) (by kernel_rfl) (fun _ _ _ h => h) (Or.inl ⟨by kernel_rfl, ?_⟩) (by assumption) ?_
  rotate_left
  · (intro w hSw; (try dsimp only at hSw); go_simp; try (with_reducible rfl))
  try simp only [Act.put, List.setIfInBounds_toArray, List.set_cons_zero, List.set_cons_succ]
  refine take_t 5 ?_ rfl (by kernel_rfl) (by kernel_rfl) (by kernel_rfl) (by kernel_rfl) (fun _ _ _ h => h) (Or.inl ⟨by kernel_rfl, ?_⟩) (by assumption) ?_
  rotate_left
  · (intro w hSw; (try dsimp only at hSw); go_simp; try (with_reducible rfl))
  try simp only [Act.put, List.setIfInBounds_toArray, List.set_cons_zero, List.set_cons_succ]
  refine take_t 6 ?_ rfl (by kernel_rfl) (by kernel_rfl) (by kernel_rfl) (by kernel_rfl) (fun _ _ _ h => h) (Or.inl ⟨by kernel_rfl, ?_⟩) (by assumption) ?_
  rotate_left
  · (intro w hSw; (try dsimp only at hSw); go_simp; try (with_reducible rfl))
  try simp only [Act.put, List.setIfInBounds_toArray, List.set_cons_zero, List.set_cons_succ]
  refine take_t 7 ?_ rfl (by kernel_rfl) (by kernel_rfl) (by kernel_rfl) (by kernel_rfl) (fun _ _ _ h => h) (Or.inl ⟨by kernel_rfl, ?_⟩) (by assumption) ?_
  rotate_left
  · (intro w hSw; (try dsimp only at hSw); go_simp; try (with_reducible rfl))
  try simp only [Act.put, List.setIfInBounds_toArray, List.set_cons_zero, List.set_cons_succ]
  refine take_t 8 ?_ rfl (by kernel_rfl) (by kernel_rfl) (by kernel_rfl) (by kernel_rfl) (fun _ _ _ h => h) (Or.inl ⟨by kernel_rfl, ?_⟩) (by assumption) ?_
  rotate_left
  · (intro w hSw; (try dsimp only at hSw); go_simp; try (with_reducible rfl))
  try simp only [Act.put, List.setIfInBounds_toArray, List.set_cons_zero, List.set_cons_succ]
  refine take_t 9 ?_ rfl (by kernel_rfl) (by kernel_rfl) (by kernel_rfl) (by kernel_rfl) (fun _ _ _ h => h) (Or.inl ⟨by kernel_rfl, ?_⟩) (by assumption) ?_
  rotate_left
  · (intro w hSw; (try dsimp only at hSw); go_simp; try (with_reducible rfl))
  try simp only [Act.put, List.setIfInBounds_toArray, List.set_cons_zero, List.set_cons_succ]
  refine take_t 10 ?_ rfl (by kernel_rfl) (by kernel_rfl) (by kernel_rfl) (by kernel_rfl) (fun _ _ _ h => h) (Or.inl ⟨by kernel_rfl, ?_⟩) (by assumption) ?_
  rotate_left
  · (intro w hSw; (try dsimp only at hSw); go_simp; try (with_reducible rfl))
  try simp only [Act.put, List.setIfInBounds_toArray, List.set_cons_zero, List.set_cons_succ]
  refine call_t 11 rfl (by kernel_rfl) 43 #[.int .i64 A, .int .i64 (-n)] (by kernel_rfl) (by go_simp) ?_
  refine (HPw.out w.drew).mono ?_
  rintro e w1 ⟨rfl, hb⟩
  have hb1 : Below w.heap.size w w1 := ⟨hb.os, hb.tape, hb.output, hb.size, hb.block⟩
  have HB1 := Seal.mk hb1
  refine ⟨_, rfl, ⟨cell_later hb1 kA, cell_later hb1 kD, cell_later hb1 hn⟩, fun hHeld2 => ?_⟩
  clear hHeld hb hb1 kA kD hn
  try simp only [Act.put, List.setIfInBounds_toArray, List.set_cons_zero, List.set_cons_succ]
  obtain ⟨q, hq⟩ : ∃ q : Nat, q = pw A.toNat (-n) := ⟨_, rfl⟩
  have HQ : Seal (q < 2147483579) := ⟨by rw [hq]; exact pw_lt _ _⟩
  have HX : Seal (((mp D' q : Nat) : Int) = X) := ⟨by rw [hq]; have := hX.out; rwa [Int.toNat_natCast] at this⟩
  rw [← hq]
  clear hq
  refine oper_t 12 (.slice (some ⟨w1.heap.size, 0, none⟩) 2 2) (w1.alloc (.cells #[.int .i64 (D' : Int), .int .i64 (q : Int)] 3)) rfl (by kernel_rfl) (by kernel_rfl) (by go_simp) ⟨cell_allocd hHeld2.1 _, cell_allocd hHeld2.2.1 _, cell_allocd hHeld2.2.2 _⟩ (fun hHeld3 => ?_)
  clear hHeld2
  try simp only [Act.put, List.setIfInBounds_toArray, List.set_cons_zero, List.set_cons_succ]
  have HT := Seal.mk (etimes_any w1.heap.size D' q (w1.alloc (.cells #[.int .i64 (D' : Int), .int .i64 (q : Int)] 3)) HD.out HQ.out (by rw [cell_of_row _ _ _ _ _ _ (heap_alloc_new w1 _)]; rfl) (by rw [cell_of_row _ _ _ _ _ _ (heap_alloc_new w1 _)]; rfl))
  refine call_t 13 rfl (by kernel_rfl) 42 #[.slice (some ⟨w1.heap.size, 0, none⟩) 2 2] (by kernel_rfl) (by go_simp) ?_
  refine HT.out.mono ?_
  rintro e w2 ⟨rfl, rfl⟩
  refine ⟨_, rfl, hHeld3, fun hHeld4 => ?_⟩
  clear hHeld3 HT
  try simp only [Act.put, List.setIfInBounds_toArray, List.set_cons_zero, List.set_cons_succ]
  refine oper_t 14 (.pointer (some ⟨g, k, none⟩)) (w1.alloc (.cells #[.int .i64 (D' : Int), .int .i64 (q : Int)] 3)) rfl (by kernel_rfl) (by kernel_rfl) (by go_simp) hHeld4 (fun hHeld4 => ?_)
  try simp only [Act.put, List.setIfInBounds_toArray, List.set_cons_zero, List.set_cons_succ]
  refine take_t 15 ?_ rfl (by kernel_rfl) (by kernel_rfl) (by kernel_rfl) (by kernel_rfl) (fun _ _ _ h => h) (Or.inl ⟨by kernel_rfl, ?_⟩) (by assumption) ?_
  rotate_left
  · (intro w hSw; (try dsimp only at hSw); go_simp; try (with_reducible rfl))
  try simp only [Act.put, List.setIfInBounds_toArray, List.set_cons_zero, List.set_cons_succ]
  rw [HX.out]
  have hr1 := blk HB1.out (Array.getElem?_eq_some_iff.1 HG.out).1 HG.out
  have hr2 : (w1.alloc (.cells #[.int .i64 (D' : Int), .int .i64 (q : Int)] 3)).heap[g]? = some (.cells cur.toArray 47 (0, 0)) := (Below.heap_alloc w1 _ _ (Array.getElem?_eq_some_iff.1 hr1).1).trans hr1
  have f1 : (w1.alloc (.cells #[.int .i64 (D' : Int), .int .i64 (q : Int)] 3)).frozen? ⟨g, k + 1, none⟩ = false := frozen_of_row _ _ _ _ _ hr2
  have HR := Seal.mk (heap_setCell_row (i := k + 1) (.int .i64 X) hr2)
  have HB2 : Seal (Below w.heap.size w (w1.alloc (.cells #[.int .i64 (D' : Int), .int .i64 (q : Int)] 3))) := ⟨HB1.out.alloc HB1.out.size _⟩
  have x1 := hHeld4.2.1
  clear hr1 hr2 HB1
  refine last_t ((w1.alloc (.cells #[.int .i64 (D' : Int), .int .i64 (q : Int)] 3)).setCell ⟨g, k + 1, none⟩ (.int .i64 X)) rfl (by kernel_rfl) (by kernel_rfl) (by kernel_rfl) (by go_simp) ?_
  clear hHeld4 f1 x1
  go_wp2
  exact ⟨rfl, .tuple #[], by simp [results, Tryd.results41, go_sem], rfl, grown_setCell (grown_of_below HB2.out _) _ _, HR.out⟩

theorem rowL_at (L : Fin 3 → Int × Int) (i : Fin 3) : (rowL L)[2 * i.val]? = some (.int .i64 (L i).1) ∧ (rowL L)[2 * i.val + 1]? = some (.int .i64 (L i).2) := by
  match i with
  | 0 => exact ⟨rfl, rfl⟩
  | 1 => exact ⟨rfl, rfl⟩
  | 2 => exact ⟨rfl, rfl⟩

theorem fin3e : ∀ x : Fin 3, x = 0 ∨ x = 1 ∨ x = 2 := by decide

def chL (n : Int) (L : Fin 3 → Int × Int) (pre : List (Fin 3)) : Fin 3 → Int × Int := pre.foldl (fun M i => setL i (offP n (M i)) M) L
theorem chL_snoc (n : Int) (L : Fin 3 → Int × Int) (pre : List (Fin 3)) (i : Fin 3) : chL n L (pre ++ [i]) = setL i (offP n (chL n L pre i)) (chL n L pre) := by simp [chL]
theorem setL_ok {M : Fin 3 → Int × Int} (h : okL M) {i : Fin 3} {p : Int × Int} (hp : vd p.1 = true ∧ vd p.2 = true) : okL (setL i p M) := by
  intro j
  unfold setL
  by_cases e : j = i
  · rw [if_pos e]; exact hp
  · rw [if_neg e]; exact h j
theorem chL_ok (n : Int) : ∀ (pre : List (Fin 3)) (L : Fin 3 → Int × Int), okL L → okL (chL n L pre)
  | [], _, h => h
  | i :: pre, _, h => chL_ok n pre _ (setL_ok h (offP_ok (h i)))
theorem chL_done (n : Int) (L : Fin 3 → Int × Int) : chL n L [0, 1, 2] = fun j => offP n (L j) := by
  funext j
  match j with
  | 0 => rfl
  | 1 => rfl
  | 2 => rfl
theorem rowL_set (M : Fin 3 → Int × Int) (i : Fin 3) (X : Int) : (rowL M).set (2 * i.val + 1) (.int .i64 X) = rowL (setL i ((M i).1, X) M) := by
  match i with
  | 0 => rfl
  | 1 => rfl
  | 2 => rfl
theorem rowL_len (L : Fin 3 → Int × Int) : (rowL L).length = 6 := rfl
theorem rowL_info (L : Fin 3 → Int × Int) : (Tryd.prog.info? 47).map (·.size) = some (rowL L).toArray.size := by rw [List.size_toArray, rowL_len]; kernel_rfl
theorem rowL_one (L : Fin 3 → Int × Int) : (rowL L).toArray.all (·.oneCell') = true := by simp [rowL, Value.oneCell']

end
section
attribute [local go_sem] Oper.semAt_some

theorem esecret_yes (n : Int) (w : World) (n1 : 1 ≤ n) (n2 : n < 1073741789) : Calls Tryd.prog 26 #[.int .i64 n] w fun e w' => e = .returned (.bool true) ∧ w = w' := by
  have h0 : 0 < n := by omega
  go_enter Tryd.func26, Tryd.ntmps26
  go_wp2
  go_ret
  exact ⟨rfl, rfl⟩

/-- the number of an element -/
def nuB (x : Int) : Int := if x ≤ 2147483579 - x then x else 2147483579 - x
theorem number_yes (x : Int) (w : World) (hx : vd x = true) : Calls Tryd.prog 45 #[.int .i64 x] w fun e w' => e = .returned (.tuple #[.int .i64 (nuB x), .int .i64 0]) ∧ w = w' := by
  have HV := Seal.mk hx
  obtain ⟨A, rfl, hA⟩ := vd_of_vd hx
  have hA1 : A < 2147483579 := hA.2.1
  clear hA hx
  have HN : Seal (nuB (A : Int) = if (A : Int) ≤ 2147483579 - A then (A : Int) else 2147483579 - A) := ⟨rfl⟩
  go_enter Tryd.func45, Tryd.ntmps45
  go_wp2_with (go_at_call 28; refine (valid_at1 _ true _ HV.out).mono ?_; rintro e w' ⟨rfl, rfl⟩)
  all_goals
    go_ret2
    refine ⟨?_, rfl⟩
    rw [HN.out]
    first
      | (rw [if_pos (by omega)]; rfl)
      | (rw [if_neg (by omega)]; rfl)

/-- the words of a letter, as far as they are read -/
def wdsU (L : Fin 3 → Int × Int) (pre : List (Fin 3)) : List Value := pre.foldl (fun r i => r.set i.val (.int .i64 (nuB (L i).2))) [.int .i64 0, .int .i64 0, .int .i64 0]
theorem wdsU_snoc (L : Fin 3 → Int × Int) (pre : List (Fin 3)) (i : Fin 3) : wdsU L (pre ++ [i]) = (wdsU L pre).set i.val (.int .i64 (nuB (L i).2)) := by simp [wdsU]
theorem wdsU_len' (L : Fin 3 → Int × Int) : ∀ (pre : List (Fin 3)) (r : List Value), r.length = 3 → (pre.foldl (fun r i => r.set i.val (.int .i64 (nuB (L i).2))) r).length = 3
  | [], _, h => h
  | i :: pre, r, h => wdsU_len' L pre _ (by rw [List.length_set, h])
theorem wdsU_len (L : Fin 3 → Int × Int) (pre : List (Fin 3)) : (wdsU L pre).length = 3 := wdsU_len' L pre _ rfl
theorem wdsU_done (L : Fin 3 → Int × Int) : wdsU L [0, 1, 2] = [.int .i64 (nuB (L 0).2), .int .i64 (nuB (L 1).2), .int .i64 (nuB (L 2).2)] := rfl
theorem wdsU_cell (L : Fin 3 → Int × Int) (pre : List (Fin 3)) (i : Nat) (hi : i < 3) : ∃ v, (wdsU L pre)[i]? = some v := ⟨_, List.getElem?_eq_getElem (by rw [wdsU_len]; exact hi)⟩

end

section
attribute [local go_sem] Oper.semAt_some
set_option maxHeartbeats 4000000 in
theorem echeck_any (L : Fin 3 → Int × Int) (w : World) (hL : okL L) :
    Calls Tryd.prog 39 #[.agg (rowL L).toArray] w fun e w' => e = .returned (.int .i64 0) ∧ Below w.heap.size w w' := by
  have HL := Seal.mk hL
  obtain ⟨C, hC⟩ : ∃ C, C = rowL L := ⟨_, rfl⟩
  obtain ⟨X, hX⟩ : ∃ X : World, X = (w.alloc (.cells C.toArray 47)).alloc (.cells #[.int .i64 0] 29) := ⟨_, rfl⟩
  have hXb : Seal (Below w.heap.size w X) := ⟨by rw [hX]; exact ((Below.refl _ w).alloc (Nat.le_refl _) _).alloc (by simp) _⟩
  have hXs : Seal (X.heap.size = w.heap.size + 2) := ⟨by rw [hX]; simp⟩
  have hXn : Seal (X.heap[w.heap.size]? = some (.cells (rowL L).toArray 47 (0, 0))) := ⟨by rw [hX, hC]; exact heap_alloc2_old w _ _⟩
  have hXz : Seal (X.heap[w.heap.size + 1]? = some (.cells #[.int .i64 0] 29 (0, 0))) := ⟨by rw [hX]; exact heap_alloc2_new w _ _⟩
  rw [← hC]
  clear hL hC
  refine (callsIn_wide (n := 3)).1 ?_
  refine callsIn_of_wp_marks Tryd.func39 rfl trivial ?_ rfl
  simp only [Tryd.ntmps39, List.size_toArray, List.length_cons, List.length_nil, Nat.reduceAdd, Nat.reduceSub, Array.replicate_succ, Array.replicate_zero, List.push_toArray, List.append_toArray, List.nil_append, List.cons_append]
  refine wpIn_wide.2 ?_
  go_upto_region 1 with (fail)
  rw [← hX]
  clear hX
  go_wp2_with fail
  refine (eciphers_any w.heap.size X).mono ?_
  rintro e Y ⟨rfl, hY⟩
  have hYr : Y.heap[X.heap.size]? = some (.cells #[.pointer (some ⟨w.heap.size, 0, none⟩)] 95 (0, 0)) := by rw [← hY]; exact heap_alloc_new X _
  have hYs : Y.heap.size = X.heap.size + 1 := by rw [← hY, size_alloc]
  have hYb : Below X.heap.size X Y := by rw [← hY]; exact below_alloc _ _
  have Y0 : Y.heap[w.heap.size]? = some (.cells (rowL L).toArray 47 (0, 0)) := blk hYb (by have := hXs.out; omega) hXn.out
  have Y1 : Y.heap[w.heap.size + 1]? = some (.cells #[.int .i64 0] 29 (0, 0)) := blk hYb (by have := hXs.out; omega) hXz.out
  have HYb : Below w.heap.size w Y := hXb.out.trans (hYb.mono hXb.out.size)
  have HS := Seal.mk (And.intro hXs.out hYs)
  clear hY
  go_wp2_with fail
  refine (wpIn_wide (n := 3)).1 ?_
  refine wpIn_rangeFunc_round rfl (by decide) (gf := 63) (lb := #[.pointer (some ⟨X.heap.size, 0, none⟩)]) rfl trivial (enters_of Tryd.func63 (by kernel_rfl) rfl)
    (ciphers_seq 2 w.heap.size X.heap.size Y (by rw [cell_of_row _ _ _ _ _ _ hYr]; rfl))
    (by rintro r rfl; omega) (encC_size _)
    (fun pre W => W.heap[w.heap.size]? = some (.cells (rowL L).toArray 47 (0, 0)) ∧ W.heap[w.heap.size + 1]? = some (.cells #[.int .i64 0] 29 (0, 0)) ∧ Below w.heap.size w W ∧ Y.heap.size ≤ W.heap.size)
    ?own ⟨Y0, Y1, HYb, Nat.le_refl _⟩ ?round ?done
  case own =>
    rintro t A B' row ⟨h0, h1, hb, hz⟩ hg hr
    have hrow : ∀ r, row = some r → w.heap.size + 2 ≤ r := by
      intro r e
      have := HS.out
      rcases hr r e with rfl | ⟨h, _⟩ <;> omega
    have keep : ∀ k o, k < w.heap.size + 2 → A.heap[k]? = some o → B'.heap[k]? = some o := fun k o hk h => (hg.block k (Array.getElem?_eq_some_iff.1 h).1 (fun e => by have := hrow _ e.symm; omega)).trans h
    exact ⟨keep _ _ (by omega) h0, keep _ _ (by omega) h1, hb.grown hg hb.size (fun k e => by have := hrow k e; omega), Nat.le_trans hz hg.size⟩
  case round =>
    rintro l pre x W ⟨h0, h1, hb, hz⟩ _ hzl
    have hx := HL.out x
    have v1 := Seal.mk hx.1
    have v2 := Seal.mk hx.2
    have r1 := (rowL_at L x).1
    have r2 := (rowL_at L x).2
    have hs := HS.out
    clear hx
    rcases fin3e x with rfl | rfl | rfl
    · skip
      dsimp only [encC]
      gi_wp2
      refine ⟨KeepsOthers.refl _, fun r hr => by first | rfl | trivial, fun Wb hg hsz => ?_⟩
      have keep : ∀ k o, k < w.heap.size + 2 → W.heap[k]? = some o → Wb.heap[k]? = some o := fun k o hk h => (hg.block k (Array.getElem?_eq_some_iff.1 h).1 (fun e => by have := Option.some.inj e; omega)).trans h
      have b0 := keep _ _ (by omega) h0
      have b1 := keep _ _ (by omega) h1
      have HBb := Seal.mk (hb.grown hg hb.size (fun k e => by have := Option.some.inj e; omega))
      have kA : Wb.cell? ⟨w.heap.size, 0, none⟩ = some (.int .i64 (L 0).1) := by rw [cell_of_row _ _ _ _ _ _ b0]; simpa using r1
      have kD : Wb.cell? ⟨w.heap.size, 1, none⟩ = some (.int .i64 (L 0).2) := by rw [cell_of_row _ _ _ _ _ _ b0]; simpa using r2
      have b0 := Seal.mk b0
      have b1 := Seal.mk b1
      have hzb : Seal (Y.heap.size ≤ Wb.heap.size) := ⟨by omega⟩
      clear keep hg hsz h0 h1 hb r1 r2 hs
      gi_wp2_with (first | (refine ⟨trivial, ?_⟩; gi_at_call 28; with_reducible refine (callsIn_round (valid_at1 (L 0).1 true _ v1.out)).mono ?_; rintro e w' ⟨rfl, rfl⟩) | (refine ⟨trivial, ?_⟩; gi_at_call 28; with_reducible refine (callsIn_round (valid_at1 (L 0).2 true _ v2.out)).mono ?_; rintro e w' ⟨rfl, rfl⟩))
      exact ⟨KeepsOthers.refl _, fun r hr => by first | rfl | trivial, b0.out, b1.out, HBb.out, hzb.out⟩
    · skip
      dsimp only [encC]
      gi_wp2
      refine ⟨KeepsOthers.refl _, fun r hr => by first | rfl | trivial, fun Wb hg hsz => ?_⟩
      have keep : ∀ k o, k < w.heap.size + 2 → W.heap[k]? = some o → Wb.heap[k]? = some o := fun k o hk h => (hg.block k (Array.getElem?_eq_some_iff.1 h).1 (fun e => by have := Option.some.inj e; omega)).trans h
      have b0 := keep _ _ (by omega) h0
      have b1 := keep _ _ (by omega) h1
      have HBb := Seal.mk (hb.grown hg hb.size (fun k e => by have := Option.some.inj e; omega))
      have kA : Wb.cell? ⟨w.heap.size, 2, none⟩ = some (.int .i64 (L 1).1) := by rw [cell_of_row _ _ _ _ _ _ b0]; simpa using r1
      have kD : Wb.cell? ⟨w.heap.size, 3, none⟩ = some (.int .i64 (L 1).2) := by rw [cell_of_row _ _ _ _ _ _ b0]; simpa using r2
      have b0 := Seal.mk b0
      have b1 := Seal.mk b1
      have hzb : Seal (Y.heap.size ≤ Wb.heap.size) := ⟨by omega⟩
      clear keep hg hsz h0 h1 hb r1 r2 hs
      gi_wp2_with (first | (refine ⟨trivial, ?_⟩; gi_at_call 28; with_reducible refine (callsIn_round (valid_at1 (L 1).1 true _ v1.out)).mono ?_; rintro e w' ⟨rfl, rfl⟩) | (refine ⟨trivial, ?_⟩; gi_at_call 28; with_reducible refine (callsIn_round (valid_at1 (L 1).2 true _ v2.out)).mono ?_; rintro e w' ⟨rfl, rfl⟩))
      exact ⟨KeepsOthers.refl _, fun r hr => by first | rfl | trivial, b0.out, b1.out, HBb.out, hzb.out⟩
    · skip
      dsimp only [encC]
      gi_wp2
      refine ⟨KeepsOthers.refl _, fun r hr => by first | rfl | trivial, fun Wb hg hsz => ?_⟩
      have keep : ∀ k o, k < w.heap.size + 2 → W.heap[k]? = some o → Wb.heap[k]? = some o := fun k o hk h => (hg.block k (Array.getElem?_eq_some_iff.1 h).1 (fun e => by have := Option.some.inj e; omega)).trans h
      have b0 := keep _ _ (by omega) h0
      have b1 := keep _ _ (by omega) h1
      have HBb := Seal.mk (hb.grown hg hb.size (fun k e => by have := Option.some.inj e; omega))
      have kA : Wb.cell? ⟨w.heap.size, 4, none⟩ = some (.int .i64 (L 2).1) := by rw [cell_of_row _ _ _ _ _ _ b0]; simpa using r1
      have kD : Wb.cell? ⟨w.heap.size, 5, none⟩ = some (.int .i64 (L 2).2) := by rw [cell_of_row _ _ _ _ _ _ b0]; simpa using r2
      have b0 := Seal.mk b0
      have b1 := Seal.mk b1
      have hzb : Seal (Y.heap.size ≤ Wb.heap.size) := ⟨by omega⟩
      clear keep hg hsz h0 h1 hb r1 r2 hs
      gi_wp2_with (first | (refine ⟨trivial, ?_⟩; gi_at_call 28; with_reducible refine (callsIn_round (valid_at1 (L 2).1 true _ v1.out)).mono ?_; rintro e w' ⟨rfl, rfl⟩) | (refine ⟨trivial, ?_⟩; gi_at_call 28; with_reducible refine (callsIn_round (valid_at1 (L 2).2 true _ v2.out)).mono ?_; rintro e w' ⟨rfl, rfl⟩))
      exact ⟨KeepsOthers.refl _, fun r hr => by first | rfl | trivial, b0.out, b1.out, HBb.out, hzb.out⟩
  case done =>
    rintro D xs W hD rfl ⟨h0, h1, hb, hz⟩ hK
    have c0 : W.cell? ⟨w.heap.size + 1, 0, none⟩ = some (.int .i64 0) := by rw [cell_of_row _ _ _ _ _ _ h1]; rfl
    have f0 : W.frozen? ⟨w.heap.size + 1, 0, none⟩ = false := frozen_of_row _ _ _ _ _ h1
    have HB := Seal.mk hb
    have H1 := Seal.mk h1
    have hs := HS.out
    have hD2 := hD
    clear h0 h1 hb
    go_wp2
    have hK' := (KeepsOthers.setCell W ⟨w.heap.size + 1, 0, none⟩ (.int .i64 0)).same D _ hK rfl
    refine ⟨by simp, .inl ⟨_, _, rfl, run_takeDeferred hK', ?_⟩⟩
    have hc5 := cell_kept (World.cell?_setCell_same' W ⟨w.heap.size + 1, 0, none⟩ (.int .i64 0) (by rw [c0]; rfl)) (grownBy_putObj' _ D (.deferred none)) (fun r e => by cases e; exact ⟨_, hK', rfl⟩)
    refine ⟨.int .i64 0, ?_, rfl, ?_⟩
    · simp [results, Tryd.f39, go_sem, hc5]
    · exact (HB.out.setCell (p := ⟨w.heap.size + 1, 0, none⟩) (Nat.le_add_right _ _) _).trans (belowK_b (w := w) (Nat.le_refl _) _ D _ _ (by omega) hK' rfl rfl)
end

section
attribute [local go_sem] Oper.semAt_some
set_option maxHeartbeats 4000000 in
theorem echanged_strip (L : Fin 3 → Int × Int) (n : Int) (gf cb : Nat) (w : World) (hL : okL L) (n1 : 1 ≤ n) (n2 : n < 1073741789) (hgf : w.heap[gf]? = some (.cells #[.func (.func 41) #[] #[.pointer (some ⟨cb, 0, none⟩)]] 91 (0, 0))) (hcb : w.cell? ⟨cb, 0, none⟩ = some (.int .i64 n)) :
    Calls Tryd.prog 40 #[.agg (rowL L).toArray, .slice (some ⟨gf, 0, none⟩) 1 1] w fun e w' => e = .returned (.agg (rowL (fun j => offP n (L j))).toArray) ∧ Below w.heap.size w w' := by
  have HL := Seal.mk hL
  have HN := Seal.mk (And.intro n1 n2)
  have HF := Seal.mk (And.intro hgf hcb)
  obtain ⟨C, hC⟩ : ∃ C, C = rowL L := ⟨_, rfl⟩
  obtain ⟨X, hX⟩ : ∃ X : World, X = ((w.alloc (.cells C.toArray 47)).alloc (.cells #[.slice (some ⟨gf, 0, none⟩) 1 1] 117)).alloc (.cells #[.int .i64 0, .int .i64 0, .int .i64 0, .int .i64 0, .int .i64 0, .int .i64 0] 47) := ⟨_, rfl⟩
  have hXb : Seal (Below w.heap.size w X) := ⟨by rw [hX]; exact (((Below.refl _ w).alloc (Nat.le_refl _) _).alloc (by simp) _).alloc (by simp; omega) _⟩
  have hXs : Seal (X.heap.size = w.heap.size + 3) := ⟨by rw [hX]; simp⟩
  have hXn : Seal (X.heap[w.heap.size]? = some (.cells (rowL L).toArray 47 (0, 0))) := ⟨by rw [hX, hC, Below.heap_alloc _ _ _ (by simp; omega), Below.heap_alloc _ _ _ (by simp)]; exact heap_alloc_new w _⟩
  have hX1 : Seal (X.heap[w.heap.size + 1]? = some (.cells #[.slice (some ⟨gf, 0, none⟩) 1 1] 117 (0, 0))) := ⟨by rw [hX, Below.heap_alloc _ _ _ (by simp)]; have := heap_alloc_new (w.alloc (.cells C.toArray 47)) (.cells #[.slice (some ⟨gf, 0, none⟩) 1 1] 117); rwa [size_alloc] at this⟩
  have hXz : Seal (X.heap[w.heap.size + 1 + 1]? = some (.cells #[.int .i64 0, .int .i64 0, .int .i64 0, .int .i64 0, .int .i64 0, .int .i64 0] 47 (0, 0))) := ⟨by rw [hX]; have := heap_alloc_new ((w.alloc (.cells C.toArray 47)).alloc (.cells #[.slice (some ⟨gf, 0, none⟩) 1 1] 117)) (.cells #[.int .i64 0, .int .i64 0, .int .i64 0, .int .i64 0, .int .i64 0, .int .i64 0] 47); rwa [size_alloc, size_alloc] at this⟩
  rw [← hC]
  clear hL hC n1 n2 hgf hcb
  refine (callsIn_wide (n := 3)).1 ?_
  refine callsIn_of_wp_marks Tryd.func40 rfl trivial ?_ rfl
  simp only [Tryd.ntmps40, List.size_toArray, List.length_cons, List.length_nil, Nat.reduceAdd, Nat.reduceSub, Array.replicate_succ, Array.replicate_zero, List.push_toArray, List.append_toArray, List.nil_append, List.cons_append]
  refine wpIn_wide.2 ?_
  go_upto_region 1 with (fail)
  rw [← hX]
  clear hX
  go_wp2_with fail
  refine (eciphers_any w.heap.size X).mono ?_
  rintro e Y ⟨rfl, hY⟩
  have hYr : Y.heap[X.heap.size]? = some (.cells #[.pointer (some ⟨w.heap.size, 0, none⟩)] 95 (0, 0)) := by rw [← hY]; exact heap_alloc_new X _
  have hYs : Y.heap.size = X.heap.size + 1 := by rw [← hY, size_alloc]
  have hYb : Below X.heap.size X Y := by rw [← hY]; exact below_alloc _ _
  have Y0 : Y.heap[w.heap.size]? = some (.cells (rowL L).toArray 47 (0, 0)) := blk hYb (by have := hXs.out; omega) hXn.out
  have Y1 := blk hYb (by have := hXs.out; omega) hX1.out
  have Y2 := blk hYb (by have := hXs.out; omega) hXz.out
  have HYb : Below w.heap.size w Y := hXb.out.trans (hYb.mono hXb.out.size)
  have HS := Seal.mk (And.intro hXs.out hYs)
  clear hY
  go_wp2_with fail
  refine (wpIn_wide (n := 3)).1 ?_
  refine wpIn_rangeFunc_round rfl (by decide) (gf := 63) (lb := #[.pointer (some ⟨X.heap.size, 0, none⟩)]) rfl trivial (enters_of Tryd.func63 (by kernel_rfl) rfl)
    (ciphers_seq 2 w.heap.size X.heap.size Y (by rw [cell_of_row _ _ _ _ _ _ hYr]; rfl))
    (by rintro r rfl; omega) (encC_size _)
    (fun pre W => W.heap[w.heap.size]? = some (.cells (rowL (chL n L pre)).toArray 47 (0, 0)) ∧ W.heap[w.heap.size + 1]? = some (.cells #[.slice (some ⟨gf, 0, none⟩) 1 1] 117 (0, 0)) ∧ W.heap[w.heap.size + 1 + 1]? = some (.cells #[.int .i64 0, .int .i64 0, .int .i64 0, .int .i64 0, .int .i64 0, .int .i64 0] 47 (0, 0)) ∧ Below w.heap.size w W ∧ Y.heap.size ≤ W.heap.size)
    ?own ⟨Y0, Y1, Y2, HYb, Nat.le_refl _⟩ ?round ?done
  case own =>
    rintro t A B' row ⟨h0, h1, h2, hb, hz⟩ hg hr
    have hrow : ∀ r, row = some r → w.heap.size + 3 ≤ r := by
      intro r e
      have := HS.out
      rcases hr r e with rfl | ⟨h, _⟩ <;> omega
    have keep : ∀ k o, k < w.heap.size + 3 → A.heap[k]? = some o → B'.heap[k]? = some o := fun k o hk h => (hg.block k (Array.getElem?_eq_some_iff.1 h).1 (fun e => by have := hrow _ e.symm; omega)).trans h
    exact ⟨keep _ _ (by omega) h0, keep _ _ (by omega) h1, keep _ _ (by omega) h2, hb.grown hg hb.size (fun k e => by have := hrow k e; omega), Nat.le_trans hz hg.size⟩
  case round =>
    rintro l pre x W ⟨h0, h1, h2, hb, hz⟩ _ hzl
    have hM := Seal.mk (chL_ok n pre L HL.out)
    have hs := HS.out
    rcases fin3e x with rfl | rfl | rfl
    · skip
      dsimp only [encC]
      gi_wp2
      refine ⟨KeepsOthers.refl _, fun r hr => by first | rfl | trivial, fun Wb hg hsz => ?_⟩
      have keep : ∀ k o, k < w.heap.size + 3 → W.heap[k]? = some o → Wb.heap[k]? = some o := fun k o hk h => (hg.block k (Array.getElem?_eq_some_iff.1 h).1 (fun e => by have := Option.some.inj e; omega)).trans h
      have b0 := keep _ _ (by omega) h0
      have b1 := keep _ _ (by omega) h1
      have b2 := Seal.mk (keep _ _ (by omega) h2)
      have HBb := Seal.mk (hb.grown hg hb.size (fun k e => by have := Option.some.inj e; omega))
      have k1 : Wb.cell? ⟨w.heap.size + 1, 0, none⟩ = some (.slice (some ⟨gf, 0, none⟩) 1 1) := by rw [cell_of_row _ _ _ _ _ _ b1]; rfl
      have kf : Wb.cell? ⟨gf, 0, none⟩ = some (.func (.func 41) #[] #[.pointer (some ⟨cb, 0, none⟩)]) := by
        have h5 := blk HBb.out (Array.getElem?_eq_some_iff.1 HF.out.1).1 HF.out.1
        rw [cell_of_row _ _ _ _ _ _ h5]; rfl
      have hcb2 : Wb.cell? ⟨cb, 0, none⟩ = some (.int .i64 n) := cell_later HBb.out HF.out.2
      have HC1 := Seal.mk (estrip1_any 0 (chL n L pre 0).1 (chL n L pre 0).2 n _ w.heap.size 0 cb (rowL (chL n L pre)) Wb b0 (rowL_at (chL n L pre) 0).1 (rowL_at (chL n L pre) 0).2 hcb2 (hM.out 0).1 (hM.out 0).2 HN.out.1 HN.out.2 ⟨rfl⟩)
      have b1 := Seal.mk b1
      have b0s := Seal.mk b0
      have hzb : Seal (Y.heap.size ≤ Wb.heap.size) := ⟨by omega⟩
      have hps : Seal (w.heap.size + 3 = X.heap.size ∧ Y.heap.size = X.heap.size + 1) := ⟨by omega⟩
      clear keep hg hsz h0 h1 h2 hb hs b0 hcb2
      gi_wp2
      refine wpIn_loop_rounds 2 ?_
      rw [roundsIn_succ]
      gi_wp2_with (refine ⟨trivial, ?_⟩; gi_at_call 41; refine (callsIn_round HC1.out).mono ?_; rintro e w5 ⟨rfl, hg5, hr5⟩)
      rw [roundsIn_succ]
      have hrow5 : (rowL (chL n L pre)).set (0 + 1) (.int .i64 ((mp (chL n L pre 0).2.toNat (pw (chL n L pre 0).1.toNat (-n)) : Nat) : Int)) = rowL (chL n L (pre ++ [0])) := by rw [chL_snoc]; exact rowL_set (chL n L pre) 0 _
      rw [hrow5] at hr5
      have R5 := Seal.mk hr5
      have G5 := Seal.mk hg5
      clear hr5 hg5 HC1 k1 kf
      gi_wp2
      have keep5 : ∀ k o, k ≠ w.heap.size → Wb.heap[k]? = some o → w5.heap[k]? = some o := fun k o hk h => (G5.out.block k (Array.getElem?_eq_some_iff.1 h).1 (fun e => hk (Option.some.inj e))).trans h
      refine ⟨KeepsOthers.of_grownBy G5.out (fun j o e ho => ?_), fun r hr => ?_, R5.out, keep5 _ _ (by omega) b1.out, keep5 _ _ (by omega) b2.out, HBb.out.grown G5.out HBb.out.size (fun k e => by have := Option.some.inj e; omega), Nat.le_trans hzb.out G5.out.size⟩
      · cases e
        have h9 := b0s.out
        rw [h9] at ho
        cases ho
        rfl
      · subst hr
        exact G5.out.block _ (by have := hzb.out; have := hps.out; omega) (fun e => by have := Option.some.inj e; have := hps.out; omega)
    · skip
      dsimp only [encC]
      gi_wp2
      refine ⟨KeepsOthers.refl _, fun r hr => by first | rfl | trivial, fun Wb hg hsz => ?_⟩
      have keep : ∀ k o, k < w.heap.size + 3 → W.heap[k]? = some o → Wb.heap[k]? = some o := fun k o hk h => (hg.block k (Array.getElem?_eq_some_iff.1 h).1 (fun e => by have := Option.some.inj e; omega)).trans h
      have b0 := keep _ _ (by omega) h0
      have b1 := keep _ _ (by omega) h1
      have b2 := Seal.mk (keep _ _ (by omega) h2)
      have HBb := Seal.mk (hb.grown hg hb.size (fun k e => by have := Option.some.inj e; omega))
      have k1 : Wb.cell? ⟨w.heap.size + 1, 0, none⟩ = some (.slice (some ⟨gf, 0, none⟩) 1 1) := by rw [cell_of_row _ _ _ _ _ _ b1]; rfl
      have kf : Wb.cell? ⟨gf, 0, none⟩ = some (.func (.func 41) #[] #[.pointer (some ⟨cb, 0, none⟩)]) := by
        have h5 := blk HBb.out (Array.getElem?_eq_some_iff.1 HF.out.1).1 HF.out.1
        rw [cell_of_row _ _ _ _ _ _ h5]; rfl
      have hcb2 : Wb.cell? ⟨cb, 0, none⟩ = some (.int .i64 n) := cell_later HBb.out HF.out.2
      have HC1 := Seal.mk (estrip1_any 1 (chL n L pre 1).1 (chL n L pre 1).2 n _ w.heap.size 2 cb (rowL (chL n L pre)) Wb b0 (rowL_at (chL n L pre) 1).1 (rowL_at (chL n L pre) 1).2 hcb2 (hM.out 1).1 (hM.out 1).2 HN.out.1 HN.out.2 ⟨rfl⟩)
      have b1 := Seal.mk b1
      have b0s := Seal.mk b0
      have hzb : Seal (Y.heap.size ≤ Wb.heap.size) := ⟨by omega⟩
      have hps : Seal (w.heap.size + 3 = X.heap.size ∧ Y.heap.size = X.heap.size + 1) := ⟨by omega⟩
      clear keep hg hsz h0 h1 h2 hb hs b0 hcb2
      gi_wp2
      refine wpIn_loop_rounds 2 ?_
      rw [roundsIn_succ]
      gi_wp2_with (refine ⟨trivial, ?_⟩; gi_at_call 41; refine (callsIn_round HC1.out).mono ?_; rintro e w5 ⟨rfl, hg5, hr5⟩)
      rw [roundsIn_succ]
      have hrow5 : (rowL (chL n L pre)).set (2 + 1) (.int .i64 ((mp (chL n L pre 1).2.toNat (pw (chL n L pre 1).1.toNat (-n)) : Nat) : Int)) = rowL (chL n L (pre ++ [1])) := by rw [chL_snoc]; exact rowL_set (chL n L pre) 1 _
      rw [hrow5] at hr5
      have R5 := Seal.mk hr5
      have G5 := Seal.mk hg5
      clear hr5 hg5 HC1 k1 kf
      gi_wp2
      have keep5 : ∀ k o, k ≠ w.heap.size → Wb.heap[k]? = some o → w5.heap[k]? = some o := fun k o hk h => (G5.out.block k (Array.getElem?_eq_some_iff.1 h).1 (fun e => hk (Option.some.inj e))).trans h
      refine ⟨KeepsOthers.of_grownBy G5.out (fun j o e ho => ?_), fun r hr => ?_, R5.out, keep5 _ _ (by omega) b1.out, keep5 _ _ (by omega) b2.out, HBb.out.grown G5.out HBb.out.size (fun k e => by have := Option.some.inj e; omega), Nat.le_trans hzb.out G5.out.size⟩
      · cases e
        have h9 := b0s.out
        rw [h9] at ho
        cases ho
        rfl
      · subst hr
        exact G5.out.block _ (by have := hzb.out; have := hps.out; omega) (fun e => by have := Option.some.inj e; have := hps.out; omega)
    · skip
      dsimp only [encC]
      gi_wp2
      refine ⟨KeepsOthers.refl _, fun r hr => by first | rfl | trivial, fun Wb hg hsz => ?_⟩
      have keep : ∀ k o, k < w.heap.size + 3 → W.heap[k]? = some o → Wb.heap[k]? = some o := fun k o hk h => (hg.block k (Array.getElem?_eq_some_iff.1 h).1 (fun e => by have := Option.some.inj e; omega)).trans h
      have b0 := keep _ _ (by omega) h0
      have b1 := keep _ _ (by omega) h1
      have b2 := Seal.mk (keep _ _ (by omega) h2)
      have HBb := Seal.mk (hb.grown hg hb.size (fun k e => by have := Option.some.inj e; omega))
      have k1 : Wb.cell? ⟨w.heap.size + 1, 0, none⟩ = some (.slice (some ⟨gf, 0, none⟩) 1 1) := by rw [cell_of_row _ _ _ _ _ _ b1]; rfl
      have kf : Wb.cell? ⟨gf, 0, none⟩ = some (.func (.func 41) #[] #[.pointer (some ⟨cb, 0, none⟩)]) := by
        have h5 := blk HBb.out (Array.getElem?_eq_some_iff.1 HF.out.1).1 HF.out.1
        rw [cell_of_row _ _ _ _ _ _ h5]; rfl
      have hcb2 : Wb.cell? ⟨cb, 0, none⟩ = some (.int .i64 n) := cell_later HBb.out HF.out.2
      have HC1 := Seal.mk (estrip1_any 2 (chL n L pre 2).1 (chL n L pre 2).2 n _ w.heap.size 4 cb (rowL (chL n L pre)) Wb b0 (rowL_at (chL n L pre) 2).1 (rowL_at (chL n L pre) 2).2 hcb2 (hM.out 2).1 (hM.out 2).2 HN.out.1 HN.out.2 ⟨rfl⟩)
      have b1 := Seal.mk b1
      have b0s := Seal.mk b0
      have hzb : Seal (Y.heap.size ≤ Wb.heap.size) := ⟨by omega⟩
      have hps : Seal (w.heap.size + 3 = X.heap.size ∧ Y.heap.size = X.heap.size + 1) := ⟨by omega⟩
      clear keep hg hsz h0 h1 h2 hb hs b0 hcb2
      gi_wp2
      refine wpIn_loop_rounds 2 ?_
      rw [roundsIn_succ]
      gi_wp2_with (refine ⟨trivial, ?_⟩; gi_at_call 41; refine (callsIn_round HC1.out).mono ?_; rintro e w5 ⟨rfl, hg5, hr5⟩)
      rw [roundsIn_succ]
      have hrow5 : (rowL (chL n L pre)).set (4 + 1) (.int .i64 ((mp (chL n L pre 2).2.toNat (pw (chL n L pre 2).1.toNat (-n)) : Nat) : Int)) = rowL (chL n L (pre ++ [2])) := by rw [chL_snoc]; exact rowL_set (chL n L pre) 2 _
      rw [hrow5] at hr5
      have R5 := Seal.mk hr5
      have G5 := Seal.mk hg5
      clear hr5 hg5 HC1 k1 kf
      gi_wp2
      have keep5 : ∀ k o, k ≠ w.heap.size → Wb.heap[k]? = some o → w5.heap[k]? = some o := fun k o hk h => (G5.out.block k (Array.getElem?_eq_some_iff.1 h).1 (fun e => hk (Option.some.inj e))).trans h
      refine ⟨KeepsOthers.of_grownBy G5.out (fun j o e ho => ?_), fun r hr => ?_, R5.out, keep5 _ _ (by omega) b1.out, keep5 _ _ (by omega) b2.out, HBb.out.grown G5.out HBb.out.size (fun k e => by have := Option.some.inj e; omega), Nat.le_trans hzb.out G5.out.size⟩
      · cases e
        have h9 := b0s.out
        rw [h9] at ho
        cases ho
        rfl
      · subst hr
        exact G5.out.block _ (by have := hzb.out; have := hps.out; omega) (fun e => by have := Option.some.inj e; have := hps.out; omega)
  case done =>
    rintro D xs W hD rfl ⟨h0, h1, h2, hb, hz⟩ hK
    rw [chL_done] at h0
    obtain ⟨R, hR⟩ : ∃ R, R = (rowL (fun j => offP n (L j))).toArray := ⟨_, rfl⟩
    have HB := Seal.mk hb
    have H0 : Seal (W.heap[w.heap.size]? = some (.cells R 47 (0, 0))) := ⟨by rw [hR]; exact h0⟩
    have H2 := Seal.mk h2
    have IR : Seal ((Tryd.prog.info? 47).map (·.size) = some R.size) := ⟨by rw [hR]; exact rowL_info _⟩
    have SR : Seal ((#[.int .i64 0, .int .i64 0, .int .i64 0, .int .i64 0, .int .i64 0, .int .i64 0] : Array Value).size = R.size) := ⟨by rw [hR]; rfl⟩
    have OR : Seal (R.all (·.oneCell') = true) := ⟨by rw [hR]; exact rowL_one _⟩
    have HRq := Seal.mk hR
    have hs := HS.out
    clear h0 h1 h2 hb hR
    go_wp2_with (first | (refine wpList_load_row rfl 47 (.tmp 2) rfl w.heap.size rfl 47 R (0, 0) _ H0.out Tryd.underlying47 rfl IR.out ?_) | (refine wpList_store_row rfl 47 (.tmp 4) (.tmp 23) rfl (w.heap.size + 1 + 1) R rfl rfl 47 #[.int .i64 0, .int .i64 0, .int .i64 0, .int .i64 0, .int .i64 0, .int .i64 0] H2.out IR.out SR.out OR.out ?_))
    have hK' := (keeps_setRow H2.out R).same D _ hK rfl
    refine ⟨by simp, .inl ⟨_, _, rfl, run_takeDeferred hK', ?_⟩⟩
    refine ⟨_, results_cell_row (fn := Tryd.f40) rfl _ _ (w.heap.size + 1 + 1) 47 R (0, 0) _ rfl ((World.putObj_heap_other (by omega)).trans (setRow_heap _ _ _ _ _ _ H2.out)) Tryd.underlying47 rfl IR.out, by rw [HRq.out], ?_⟩
    exact (below_row HB.out (by omega) _).trans (belowK_b (w := w) (Nat.le_refl _) _ D _ _ (by omega) hK' rfl rfl)
set_option maxHeartbeats 4000000 in
theorem estrip_yes (n : Int) (L : Fin 3 → Int × Int) (w : World) (hL : okL L) (n1 : 1 ≤ n) (n2 : n < 1073741789) :
    Calls Tryd.prog 13 #[.int .i64 n, .agg (rowL L).toArray] w fun e w' => e = .returned (.tuple #[.agg (rowL (fun j => offP n (L j))).toArray, .int .i64 0]) ∧ Below w.heap.size w w' := by
  obtain ⟨C, hC⟩ : ∃ C, C = (rowL L).toArray := ⟨_, rfl⟩
  obtain ⟨R, hR⟩ : ∃ R, R = (rowL (fun j => offP n (L j))).toArray := ⟨_, rfl⟩
  obtain ⟨Z, hZ⟩ : ∃ Z : Array Value, Z = #[.int .i64 0, .int .i64 0, .int .i64 0, .int .i64 0, .int .i64 0, .int .i64 0] := ⟨_, rfl⟩
  have HC : Seal (∀ W, Calls Tryd.prog 39 #[.agg C] W fun e w' => e = .returned (.int .i64 0) ∧ Below W.heap.size W w') := ⟨fun W => by rw [hC]; exact echeck_any L W hL⟩
  have HX : Seal (∀ gf cb W, W.heap[gf]? = some (.cells #[.func (.func 41) #[] #[.pointer (some ⟨cb, 0, none⟩)]] 91 (0, 0)) → W.cell? ⟨cb, 0, none⟩ = some (.int .i64 n) → Calls Tryd.prog 40 #[.agg C, .slice (some ⟨gf, 0, none⟩) 1 1] W fun e w' => e = .returned (.agg R) ∧ Below W.heap.size W w') := ⟨fun gf cb W h1 h2 => by rw [hC, hR]; exact echanged_strip L n gf cb W hL n1 n2 h1 h2⟩
  have HN : Seal (∀ W, Calls Tryd.prog 26 #[.int .i64 n] W fun e w' => e = .returned (.bool true) ∧ W = w') := ⟨fun W => esecret_yes n W n1 n2⟩
  have IC : Seal ((Tryd.prog.info? 47).map (·.size) = some C.size) := ⟨by rw [hC]; exact rowL_info _⟩
  have IR : Seal ((Tryd.prog.info? 47).map (·.size) = some R.size) := ⟨by rw [hR]; exact rowL_info _⟩
  have SR : Seal (Z.size = R.size) := ⟨by rw [hR, hZ]; rfl⟩
  have OR : Seal (R.all (·.oneCell') = true) := ⟨by rw [hR]; exact rowL_one _⟩
  obtain ⟨X, hX⟩ : ∃ X : World, X = ((w.alloc (.cells #[.int .i64 n] 3)).alloc (.cells C 47)).alloc (.cells #[.int .i64 0, .int .i64 0, .int .i64 0, .int .i64 0, .int .i64 0, .int .i64 0] 47) := ⟨_, rfl⟩
  have hXb : Seal (Below w.heap.size w X) := ⟨by rw [hX]; exact (((Below.refl _ w).alloc (Nat.le_refl _) _).alloc (by simp) _).alloc (by simp; omega) _⟩
  have hX0 : X.heap[w.heap.size]? = some (.cells #[.int .i64 n] 3 (0, 0)) := by rw [hX, Below.heap_alloc _ _ _ (by simp; omega), Below.heap_alloc _ _ _ (by simp)]; exact heap_alloc_new w _
  have hX1 : Seal (X.heap[w.heap.size + 1]? = some (.cells C 47 (0, 0))) := ⟨by rw [hX, Below.heap_alloc _ _ _ (by simp)]; have := heap_alloc_new (w.alloc (.cells #[.int .i64 n] 3)) (.cells C 47); rwa [size_alloc] at this⟩
  have hX2 : Seal (X.heap[w.heap.size + 1 + 1]? = some (.cells Z 47 (0, 0))) := ⟨by rw [hX, hZ]; have := heap_alloc_new ((w.alloc (.cells #[.int .i64 n] 3)).alloc (.cells C 47)) (.cells #[.int .i64 0, .int .i64 0, .int .i64 0, .int .i64 0, .int .i64 0, .int .i64 0] 47); rwa [size_alloc, size_alloc] at this⟩
  have kn : X.cell? ⟨w.heap.size, 0, none⟩ = some (.int .i64 n) := by rw [cell_of_row _ _ _ _ _ _ hX0]; rfl
  have KN := Seal.mk kn
  rw [← hC, ← hR]
  clear hL n1 n2 hC hR hZ hX0
  go_enter Tryd.func13, Tryd.ntmps13
  go_upto_region 1 with (fail)
  rw [← hX]
  clear hX
  go_wp2_with fail
  refine (HN.out X).mono ?_
  rintro e w1 ⟨rfl, rfl⟩
  go_wp2_with (refine wpList_load_row rfl 47 (.tmp 3) rfl (w.heap.size + 1) rfl 47 C (0, 0) _ hX1.out Tryd.underlying47 rfl IC.out ?_)
  refine (HC.out X).mono ?_
  rintro e w2 ⟨rfl, hb2⟩
  have HB2 : Seal (Below w.heap.size w w2) := ⟨hXb.out.trans (hb2.mono hXb.out.size)⟩
  have R1 := Seal.mk (blk hb2 (Array.getElem?_eq_some_iff.1 hX1.out).1 hX1.out)
  have R2 := Seal.mk (blk hb2 (Array.getElem?_eq_some_iff.1 hX2.out).1 hX2.out)
  have KN2 := Seal.mk (cell_later hb2 KN.out)
  clear hb2 kn KN
  have HCh := Seal.mk (HX.out w2.heap.size w.heap.size (w2.alloc (.cells #[.func (.func 41) #[] #[.pointer (some ⟨w.heap.size, 0, none⟩)]] 91)) (heap_alloc_new w2 _) (cell_allocd KN2.out _))
  go_wp2_with (refine wpList_load_row rfl 47 (.tmp 3) rfl (w.heap.size + 1) rfl 47 C (0, 0) _ R1.out Tryd.underlying47 rfl IC.out ?_)
  refine HCh.out.mono ?_
  rintro e w3 ⟨rfl, hb3⟩
  have hb3' : Below w2.heap.size w2 w3 := (below_alloc w2 _).trans (hb3.mono (by rw [size_alloc]; omega))
  have HB3 : Seal (Below w.heap.size w w3) := ⟨HB2.out.trans (hb3'.mono HB2.out.size)⟩
  have R3 := Seal.mk (blk hb3' (Array.getElem?_eq_some_iff.1 R2.out).1 R2.out)
  clear hb3 hb3'
  go_wp2_with (refine wpList_store_row rfl 47 (.tmp 4) (.tmp 20) rfl (w.heap.size + 1 + 1) R rfl rfl 47 Z R3.out IR.out SR.out OR.out ?_)
  exact bodyPost_ret (results_row_tmp (fn := Tryd.f13) rfl _ _ (w.heap.size + 1 + 1) 47 R (0, 0) _ _ rfl rfl (setRow_heap _ _ _ _ _ _ R3.out) Tryd.underlying47 rfl IR.out) rfl ⟨rfl, below_row HB3.out (by omega) _⟩
end

section
attribute [local go_sem] Oper.semAt_some
set_option maxHeartbeats 4000000 in
theorem eread_any (L : Fin 3 → Int × Int) (w : World) (hL : okL L) :
    Calls Tryd.prog 14 #[.agg (rowL L).toArray] w fun e w' => e = .returned (.tuple #[.agg #[.int .i64 (nuB (L 0).2), .int .i64 (nuB (L 1).2), .int .i64 (nuB (L 2).2)], .int .i64 0]) ∧ Below w.heap.size w w' := by
  have HL := Seal.mk hL
  obtain ⟨C, hC⟩ : ∃ C, C = rowL L := ⟨_, rfl⟩
  have HCk : Seal (∀ W, Calls Tryd.prog 39 #[.agg C.toArray] W fun e w' => e = .returned (.int .i64 0) ∧ Below W.heap.size W w') := ⟨fun W => by rw [hC]; exact echeck_any L W hL⟩
  have IC : Seal ((Tryd.prog.info? 47).map (·.size) = some C.toArray.size) := ⟨by rw [hC]; exact rowL_info _⟩
  obtain ⟨X, hX⟩ : ∃ X : World, X = (w.alloc (.cells C.toArray 47)).alloc (.cells #[.int .i64 0, .int .i64 0, .int .i64 0] 52) := ⟨_, rfl⟩
  have hXb : Seal (Below w.heap.size w X) := ⟨by rw [hX]; exact ((Below.refl _ w).alloc (Nat.le_refl _) _).alloc (by simp) _⟩
  have hXn : Seal (X.heap[w.heap.size]? = some (.cells C.toArray 47 (0, 0))) := ⟨by rw [hX]; exact heap_alloc2_old w _ _⟩
  have hXz : Seal (X.heap[w.heap.size + 1]? = some (.cells (wdsU L []).toArray 52 (0, 0))) := ⟨by rw [hX]; exact heap_alloc2_new w _ _⟩
  have HCq := Seal.mk hC
  rw [← hC]
  clear hL hC
  refine (callsIn_wide (n := 3)).1 ?_
  refine callsIn_of_wp_marks Tryd.func14 rfl trivial ?_ rfl
  simp only [Tryd.ntmps14, List.size_toArray, List.length_cons, List.length_nil, Nat.reduceAdd, Nat.reduceSub, Array.replicate_succ, Array.replicate_zero, List.push_toArray, List.append_toArray, List.nil_append, List.cons_append]
  refine wpIn_wide.2 ?_
  go_upto_region 1 with (fail)
  rw [← hX]
  clear hX
  go_wp2_with (refine wpList_load_row rfl 47 (.tmp 1) rfl w.heap.size rfl 47 C.toArray (0, 0) _ hXn.out Tryd.underlying47 rfl IC.out ?_)
  refine (HCk.out X).mono ?_
  rintro e X2 ⟨rfl, hb2⟩
  have HB2 : Seal (Below w.heap.size w X2) := ⟨hXb.out.trans (hb2.mono hXb.out.size)⟩
  have R0 := Seal.mk (blk hb2 (Array.getElem?_eq_some_iff.1 hXn.out).1 hXn.out)
  have R1 := Seal.mk (blk hb2 (Array.getElem?_eq_some_iff.1 hXz.out).1 hXz.out)
  clear hb2
  go_wp2_with fail
  refine (eciphers_any w.heap.size X2).mono ?_
  rintro e Y ⟨rfl, hY⟩
  have hX2s : w.heap.size + 1 < X2.heap.size := (Array.getElem?_eq_some_iff.1 R1.out).1
  have hYr : Y.heap[X2.heap.size]? = some (.cells #[.pointer (some ⟨w.heap.size, 0, none⟩)] 95 (0, 0)) := by rw [← hY]; exact heap_alloc_new X2 _
  have hYs : Y.heap.size = X2.heap.size + 1 := by rw [← hY, size_alloc]
  have hYb : Below X2.heap.size X2 Y := by rw [← hY]; exact below_alloc _ _
  have Y0 : Y.heap[w.heap.size]? = some (.cells (rowL L).toArray 47 (0, 0)) := by rw [← HCq.out]; exact blk hYb (by omega) R0.out
  have Y1 := blk hYb (by omega) R1.out
  have HYb : Below w.heap.size w Y := HB2.out.trans (hYb.mono HB2.out.size)
  have HS := Seal.mk (And.intro hX2s hYs)
  clear hY hX2s
  go_wp2_with fail
  refine (wpIn_wide (n := 3)).1 ?_
  refine wpIn_rangeFunc_round rfl (by decide) (gf := 63) (lb := #[.pointer (some ⟨X2.heap.size, 0, none⟩)]) rfl trivial (enters_of Tryd.func63 (by kernel_rfl) rfl)
    (ciphers_seq 2 w.heap.size X2.heap.size Y (by rw [cell_of_row _ _ _ _ _ _ hYr]; rfl))
    (by rintro r rfl; omega) (encC_size _)
    (fun pre W => W.heap[w.heap.size]? = some (.cells (rowL L).toArray 47 (0, 0)) ∧ W.heap[w.heap.size + 1]? = some (.cells (wdsU L pre).toArray 52 (0, 0)) ∧ Below w.heap.size w W ∧ Y.heap.size ≤ W.heap.size)
    ?own ⟨Y0, Y1, HYb, Nat.le_refl _⟩ ?round ?done
  case own =>
    rintro t A B' row ⟨h0, h1, hb, hz⟩ hg hr
    have hrow : ∀ r, row = some r → w.heap.size + 2 ≤ r := by
      intro r e
      have := HS.out
      rcases hr r e with rfl | ⟨h, _⟩ <;> omega
    have keep : ∀ k o, k < w.heap.size + 2 → A.heap[k]? = some o → B'.heap[k]? = some o := fun k o hk h => (hg.block k (Array.getElem?_eq_some_iff.1 h).1 (fun e => by have := hrow _ e.symm; omega)).trans h
    exact ⟨keep _ _ (by omega) h0, keep _ _ (by omega) h1, hb.grown hg hb.size (fun k e => by have := hrow k e; omega), Nat.le_trans hz hg.size⟩
  case round =>
    rintro l pre x W ⟨h0, h1, hb, hz⟩ _ hzl
    have v2 := Seal.mk (HL.out x).2
    have r2 := (rowL_at L x).2
    have hs := HS.out
    rcases fin3e x with rfl | rfl | rfl
    · skip
      dsimp only [encC]
      gi_wp2
      refine ⟨KeepsOthers.refl _, fun r hr => by first | rfl | trivial, fun Wb hg hsz => ?_⟩
      have keep : ∀ k o, k < w.heap.size + 2 → W.heap[k]? = some o → Wb.heap[k]? = some o := fun k o hk h => (hg.block k (Array.getElem?_eq_some_iff.1 h).1 (fun e => by have := Option.some.inj e; omega)).trans h
      have b0 := keep _ _ (by omega) h0
      have b1 := keep _ _ (by omega) h1
      have HBb := Seal.mk (hb.grown hg hb.size (fun k e => by have := Option.some.inj e; omega))
      have kD : Wb.cell? ⟨w.heap.size, 1, none⟩ = some (.int .i64 (L 0).2) := by rw [cell_of_row _ _ _ _ _ _ b0]; simpa using r2
      obtain ⟨u, hu⟩ := wdsU_cell L pre 0 (by decide)
      have kU : Wb.cell? ⟨w.heap.size + 1, 0, none⟩ = some u := by rw [cell_of_row _ _ _ _ _ _ b1]; simpa using hu
      have fU : Wb.frozen? ⟨w.heap.size + 1, 0, none⟩ = false := frozen_of_row _ _ _ _ _ b1
      have hr5 := heap_setCell_row (i := 0) (.int .i64 (nuB (L 0).2)) b1
      rw [show (wdsU L pre).set 0 (.int .i64 (nuB (L 0).2)) = wdsU L (pre ++ [0]) from (wdsU_snoc L pre 0).symm] at hr5
      have R5 := Seal.mk hr5
      have b0 := Seal.mk b0
      have hzb : Seal (Y.heap.size ≤ Wb.heap.size ∧ w.heap.size + 1 < X2.heap.size) := ⟨by omega⟩
      clear keep hg hsz h0 h1 hb r2 hs b1 hr5 hu
      gi_wp2_with (refine ⟨trivial, ?_⟩; gi_at_call 45; refine (CallsIn.inRound l (callsIn_wide.2 (number_yes (L 0).2 _ v2.out))).mono ?_; rintro e w' ⟨rfl, rfl⟩)
      refine ⟨KeepsOthers.setCell _ _ _, fun r hr => Below.heap_setCell _ _ _ _ (by subst hr; have := hzb.out; simp; omega), (Below.heap_setCell _ _ _ _ (by simp)).trans b0.out, R5.out, HBb.out.setCell (p := ⟨w.heap.size + 1, 0, none⟩) (by simp) _, by simpa using hzb.out.1⟩
    · skip
      dsimp only [encC]
      gi_wp2
      refine ⟨KeepsOthers.refl _, fun r hr => by first | rfl | trivial, fun Wb hg hsz => ?_⟩
      have keep : ∀ k o, k < w.heap.size + 2 → W.heap[k]? = some o → Wb.heap[k]? = some o := fun k o hk h => (hg.block k (Array.getElem?_eq_some_iff.1 h).1 (fun e => by have := Option.some.inj e; omega)).trans h
      have b0 := keep _ _ (by omega) h0
      have b1 := keep _ _ (by omega) h1
      have HBb := Seal.mk (hb.grown hg hb.size (fun k e => by have := Option.some.inj e; omega))
      have kD : Wb.cell? ⟨w.heap.size, 3, none⟩ = some (.int .i64 (L 1).2) := by rw [cell_of_row _ _ _ _ _ _ b0]; simpa using r2
      obtain ⟨u, hu⟩ := wdsU_cell L pre 1 (by decide)
      have kU : Wb.cell? ⟨w.heap.size + 1, 1, none⟩ = some u := by rw [cell_of_row _ _ _ _ _ _ b1]; simpa using hu
      have fU : Wb.frozen? ⟨w.heap.size + 1, 1, none⟩ = false := frozen_of_row _ _ _ _ _ b1
      have hr5 := heap_setCell_row (i := 1) (.int .i64 (nuB (L 1).2)) b1
      rw [show (wdsU L pre).set 1 (.int .i64 (nuB (L 1).2)) = wdsU L (pre ++ [1]) from (wdsU_snoc L pre 1).symm] at hr5
      have R5 := Seal.mk hr5
      have b0 := Seal.mk b0
      have hzb : Seal (Y.heap.size ≤ Wb.heap.size ∧ w.heap.size + 1 < X2.heap.size) := ⟨by omega⟩
      clear keep hg hsz h0 h1 hb r2 hs b1 hr5 hu
      gi_wp2_with (refine ⟨trivial, ?_⟩; gi_at_call 45; refine (CallsIn.inRound l (callsIn_wide.2 (number_yes (L 1).2 _ v2.out))).mono ?_; rintro e w' ⟨rfl, rfl⟩)
      refine ⟨KeepsOthers.setCell _ _ _, fun r hr => Below.heap_setCell _ _ _ _ (by subst hr; have := hzb.out; simp; omega), (Below.heap_setCell _ _ _ _ (by simp)).trans b0.out, R5.out, HBb.out.setCell (p := ⟨w.heap.size + 1, 1, none⟩) (by simp) _, by simpa using hzb.out.1⟩
    · skip
      dsimp only [encC]
      gi_wp2
      refine ⟨KeepsOthers.refl _, fun r hr => by first | rfl | trivial, fun Wb hg hsz => ?_⟩
      have keep : ∀ k o, k < w.heap.size + 2 → W.heap[k]? = some o → Wb.heap[k]? = some o := fun k o hk h => (hg.block k (Array.getElem?_eq_some_iff.1 h).1 (fun e => by have := Option.some.inj e; omega)).trans h
      have b0 := keep _ _ (by omega) h0
      have b1 := keep _ _ (by omega) h1
      have HBb := Seal.mk (hb.grown hg hb.size (fun k e => by have := Option.some.inj e; omega))
      have kD : Wb.cell? ⟨w.heap.size, 5, none⟩ = some (.int .i64 (L 2).2) := by rw [cell_of_row _ _ _ _ _ _ b0]; simpa using r2
      obtain ⟨u, hu⟩ := wdsU_cell L pre 2 (by decide)
      have kU : Wb.cell? ⟨w.heap.size + 1, 2, none⟩ = some u := by rw [cell_of_row _ _ _ _ _ _ b1]; simpa using hu
      have fU : Wb.frozen? ⟨w.heap.size + 1, 2, none⟩ = false := frozen_of_row _ _ _ _ _ b1
      have hr5 := heap_setCell_row (i := 2) (.int .i64 (nuB (L 2).2)) b1
      rw [show (wdsU L pre).set 2 (.int .i64 (nuB (L 2).2)) = wdsU L (pre ++ [2]) from (wdsU_snoc L pre 2).symm] at hr5
      have R5 := Seal.mk hr5
      have b0 := Seal.mk b0
      have hzb : Seal (Y.heap.size ≤ Wb.heap.size ∧ w.heap.size + 1 < X2.heap.size) := ⟨by omega⟩
      clear keep hg hsz h0 h1 hb r2 hs b1 hr5 hu
      gi_wp2_with (refine ⟨trivial, ?_⟩; gi_at_call 45; refine (CallsIn.inRound l (callsIn_wide.2 (number_yes (L 2).2 _ v2.out))).mono ?_; rintro e w' ⟨rfl, rfl⟩)
      refine ⟨KeepsOthers.setCell _ _ _, fun r hr => Below.heap_setCell _ _ _ _ (by subst hr; have := hzb.out; simp; omega), (Below.heap_setCell _ _ _ _ (by simp)).trans b0.out, R5.out, HBb.out.setCell (p := ⟨w.heap.size + 1, 2, none⟩) (by simp) _, by simpa using hzb.out.1⟩
  case done =>
    rintro D xs W hD rfl ⟨h0, h1, hb, hz⟩ hK
    rw [wdsU_done] at h1
    have HB := Seal.mk hb
    have hs := HS.out
    have H1 := Seal.mk h1
    have k0 : W.cell? ⟨w.heap.size + 1, 0, none⟩ = some (.int .i64 (nuB (L 0).2)) := by rw [cell_of_row _ _ _ _ _ _ h1]; rfl
    have k1 : W.cell? ⟨w.heap.size + 1, 1, none⟩ = some (.int .i64 (nuB (L 1).2)) := by rw [cell_of_row _ _ _ _ _ _ h1]; rfl
    have k2 : W.cell? ⟨w.heap.size + 1, 2, none⟩ = some (.int .i64 (nuB (L 2).2)) := by rw [cell_of_row _ _ _ _ _ _ h1]; rfl
    obtain ⟨R, hR⟩ : ∃ R : Array Value, R = #[.int .i64 (nuB (L 0).2), .int .i64 (nuB (L 1).2), .int .i64 (nuB (L 2).2)] := ⟨_, rfl⟩
    have HRq := Seal.mk hR
    have IR : Seal ((Tryd.prog.info? 52).map (·.size) = some R.size) := ⟨by rw [hR]; kernel_rfl⟩
    have OR : Seal (R.all (·.oneCell') = true) := ⟨by rw [hR]; simp [Value.oneCell']⟩
    have H1 : Seal (W.heap[w.heap.size + 1]? = some (.cells R 52 (0, 0))) := ⟨by rw [hR]; exact h1⟩
    clear h0 h1 hb hR k0 k1 k2
    go_wp2_with (first | (refine wpList_load_row rfl 52 (.tmp 2) rfl (w.heap.size + 1) rfl 52 R (0, 0) _ H1.out Tryd.underlying52 rfl IR.out ?_) | (refine wpList_store_row rfl 52 (.tmp 2) (.tmp 26) rfl (w.heap.size + 1) R rfl rfl 52 R H1.out IR.out rfl OR.out ?_))
    have hK' := (keeps_setRow H1.out R).same D _ hK rfl
    refine ⟨by simp, .inl ⟨_, _, rfl, run_takeDeferred hK', ?_⟩⟩
    refine ⟨_, results_row_tmp (fn := Tryd.f14) rfl _ _ (w.heap.size + 1) 52 R (0, 0) _ (.int .i64 0) rfl rfl ((World.putObj_heap_other (by omega)).trans (setRow_heap _ _ _ _ _ _ H1.out)) Tryd.underlying52 rfl IR.out, by rw [HRq.out], ?_⟩
    exact (below_row HB.out (by omega) _).trans (belowK_b (w := w) (Nat.le_refl _) _ D _ _ (by omega) hK' rfl rfl)
end
end Frk
