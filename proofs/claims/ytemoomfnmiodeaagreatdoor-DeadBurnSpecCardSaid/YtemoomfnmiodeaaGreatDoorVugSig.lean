/- Parts of the proof, joined. -/
import Derived.Test.YtemoomfnmiodeaaGreatDoorVugRng
import Derived.Test.YtemoomfnmiodeaaGreatDoorVugBit
import Derived.Shelf.Abstract
import Derived.Shelf.RegionOpen
import Derived.OwnWalkIn
import Derived.TacticsInMore
import Derived.LoopNIn
import Derived.LoopIn
import Derived.Test.YtemoomfnmiodeaaGreatDoorVugEnf
import Derived.Lib.BufferRead
/- The program's least, squares, Pow and Mul compute numbers modulo Q, powers and products of the group. -/
namespace Frk
open Go Go.RowKit Go.Proofs
set_option maxRecDepth 100000
attribute [local go_sem] Oper.semAt_some

/-! ## the squares of a number, with the bits of an exponent -/
abbrev Sq := { p : Nat × Bool // p.1 < 2147483579 }
def sqs : Nat → Nat → Nat → List Sq
  | 0, _, _ => []
  | f + 1, a, n => if n = 0 then [] else ⟨(a % P, n % 2 == 1), Nat.mod_lt _ P_pos⟩ :: sqs f (a * a % P) (n / 2)
def mulS (c : Nat) (x : Sq) : Nat := if x.1.2 then c * x.1.1 % P else c
def prodS (l : List Sq) : Nat := l.foldl mulS 1
theorem prodS_snoc (l : List Sq) (x : Sq) : prodS (l ++ [x]) = mulS (prodS l) x := by simp [prodS]
theorem mulS_lt (c : Nat) (x : Sq) (h : c < P) : mulS c x < P := by unfold mulS; split; exact Nat.mod_lt _ P_pos; exact h
theorem foldS_lt : ∀ (l : List Sq) (c : Nat), c < P → l.foldl mulS c < P
  | [], _, h => h
  | x :: l, c, h => foldS_lt l _ (mulS_lt c x h)
theorem prodS_lt (l : List Sq) : prodS l < 2147483579 := foldS_lt l 1 one_lt_P
theorem foldS_eq : ∀ (f a n c : Nat), n < 2 ^ f → c < P → (sqs f a n).foldl mulS c = c * a ^ n % P
  | 0, a, n, c, hn, hc => by
    have : n = 0 := by simp at hn; exact hn
    subst this
    rw [sqs, List.foldl_nil, Nat.pow_zero, Nat.mul_one, Nat.mod_eq_of_lt hc]
  | f + 1, a, n, c, hn, hc => by
    unfold sqs
    by_cases h : n = 0
    · rw [if_pos h, h, List.foldl_nil, Nat.pow_zero, Nat.mul_one, Nat.mod_eq_of_lt hc]
    · rw [if_neg h, List.foldl_cons, foldS_eq f _ _ _ (by rw [Nat.pow_succ] at hn; omega) (mulS_lt _ _ hc)]
      unfold mulS
      by_cases h1 : n % 2 = 1
      · simp only [h1, beq_self_eq_true, if_true]
        rw [Nat.mul_mod_mod, pow_step_odd _ _ _ h1]
      · rw [if_neg (by simpa using h1), pow_step_even _ _ _ (by omega)]
theorem prodS_sqs (a n : Nat) (hn : n < 2 ^ 64) : prodS (sqs 64 a n) = a ^ n % P := by
  unfold prodS; rw [foldS_eq 64 a n 1 hn one_lt_P, Nat.one_mul]

abbrev encSq (p : Sq) : Array Value := #[.int .i64 p.1.1, .bool p.1.2]

theorem sqs_length : ∀ (f a n : Nat), (sqs f a n).length ≤ f
  | 0, _, _ => Nat.le_refl _
  | f + 1, a, n => by
    unfold sqs
    split
    · simp
    · have := sqs_length f (a * a % P) (n / 2)
      simp; omega

theorem heap_of_cell_grown {A B : World} {row : Option Nat} (g : A.grownBy B row) {b : Nat} {v : Value} (hc : A.cell? ⟨b, 0, none⟩ = some v) (hb : some b ≠ row) : B.cell? ⟨b, 0, none⟩ = some v :=
  (World.cell?_of_block (w := A) (g.block b (block_lt_of_cell hc) hb)).trans hc

theorem cell_same {W W' : World} {b : Nat} (h : W'.heap[b]? = W.heap[b]?) : W'.cell? ⟨b, 0, none⟩ = W.cell? ⟨b, 0, none⟩ := World.cell?_of_block (w := W) h
theorem frozen_same {W W' : World} {b : Nat} (h : W'.heap[b]? = W.heap[b]?) : W'.frozen? ⟨b, 0, none⟩ = W.frozen? ⟨b, 0, none⟩ := World.frozen?_of_block (w := W) h

def SqRel (J : List Sq → World → Prop) (a n bn ba : Nat) (W : World) : Prop :=
  ∃ (pre : List Sq) (f a' n' : Nat), pre ++ sqs f a' n' = sqs 64 a n ∧ n' < 2 ^ f ∧ a' < 2147483579 ∧ n' < 1073741789 ∧ J pre W ∧
    W.cell? ⟨bn, 0, none⟩ = some (.int .i64 n') ∧ W.frozen? ⟨bn, 0, none⟩ = false ∧ W.cell? ⟨ba, 0, none⟩ = some (.int .i64 a') ∧ W.frozen? ⟨ba, 0, none⟩ = false

theorem SqRel.next {J : List Sq → World → Prop} {a n bn ba : Nat} {W : World} (hne : bn ≠ ba) (hJ : ∀ (s : List Sq) (A B : World) (row : Option Nat), J s A → A.grownBy B row → (∀ (r : Nat), row = some r → r = bn ∨ r = ba) → J s B)
    {pre : List Sq} {f a' n' : Nat} (hS : pre ++ sqs f a' n' = sqs 64 a n ∧ n' < 2 ^ f) (ha : a' < 2147483579) (hn : n' < 1073741789) (hJp : J pre W) {v u : Value}
    (hcn : W.cell? ⟨bn, 0, none⟩ = some v) (hfn : W.frozen? ⟨bn, 0, none⟩ = false) (hca : W.cell? ⟨ba, 0, none⟩ = some u) (hfa : W.frozen? ⟨ba, 0, none⟩ = false) :
    SqRel J a n bn ba ((W.setCell ⟨ba, 0, none⟩ (.int .i64 a')).setCell ⟨bn, 0, none⟩ (.int .i64 n')) ∧
      ((W.setCell ⟨ba, 0, none⟩ (.int .i64 a')).setCell ⟨bn, 0, none⟩ (.int .i64 n')).cell? ⟨bn, 0, none⟩ = some (.int .i64 n') := by
  have g1 : W.grownBy (W.setCell ⟨ba, 0, none⟩ (.int .i64 a')) (some ba) := grown_setCell (grown_of_below (Below.refl _ W) _) _ _
  have g2 : (W.setCell ⟨ba, 0, none⟩ (.int .i64 a')).grownBy ((W.setCell ⟨ba, 0, none⟩ (.int .i64 a')).setCell ⟨bn, 0, none⟩ (.int .i64 n')) (some bn) := grown_setCell (grown_of_below (Below.refl _ _) _) _ _
  have c1 : (W.setCell ⟨ba, 0, none⟩ (.int .i64 a')).cell? ⟨ba, 0, none⟩ = some (.int .i64 a') := World.cell?_setCell_same' _ _ _ (by rw [hca]; rfl)
  have c2 : (W.setCell ⟨ba, 0, none⟩ (.int .i64 a')).cell? ⟨bn, 0, none⟩ = some v := heap_of_cell_grown g1 hcn (by intro e; cases e; exact hne rfl)
  have c3 : ((W.setCell ⟨ba, 0, none⟩ (.int .i64 a')).setCell ⟨bn, 0, none⟩ (.int .i64 n')).cell? ⟨bn, 0, none⟩ = some (.int .i64 n') := World.cell?_setCell_same' _ _ _ (by rw [c2]; rfl)
  exact ⟨⟨pre, f, a', n', hS.1, hS.2, ha, hn, hJ _ _ _ _ (hJ _ _ _ _ hJp g1 (fun r e => by cases e; exact .inr rfl)) g2 (fun r e => by cases e; exact .inl rfl), c3,
    by rw [World.frozen?_setCell, World.frozen?_setCell]; exact hfn, heap_of_cell_grown g2 c1 (by intro e; cases e; exact hne rfl), by rw [World.frozen?_setCell, World.frozen?_setCell]; exact hfa⟩, c3⟩

set_option maxHeartbeats 1000000 in
theorem squares_seq (m a n bn ba : Nat) (w : World) (ha : a < 2147483579) (hn : n < 1073741789) (hne : bn ≠ ba)
    (hcn : w.cell? ⟨bn, 0, none⟩ = some (.int .i64 n)) (hfn : w.frozen? ⟨bn, 0, none⟩ = false) (hca : w.cell? ⟨ba, 0, none⟩ = some (.int .i64 a)) (hfa : w.frozen? ⟨ba, 0, none⟩ = false) :
    SeqCells Fence.wide m Tryz.prog 123 #[.pointer (some ⟨bn, 0, none⟩), .pointer (some ⟨ba, 0, none⟩)] encSq (fun r => r = bn ∨ r = ba) (fun xs => xs = sqs 64 a n) 64 w := by
  intro l J W hW hJ hY h0
  refine callsIn_of_wp Tryz.func123 rfl trivial ?_ rfl
  simp only [Tryz.ntmps123, List.size_toArray, List.length_cons, List.length_nil, Nat.reduceAdd, Nat.reduceSub, Array.replicate_succ, Array.replicate_zero, List.push_toArray, List.append_toArray, List.nil_append, List.cons_append]
  have hlt := block_lt_of_cell hcn
  have hlt' := block_lt_of_cell hca
  have hY := Seal.mk hY
  have hJ := Seal.mk hJ
  have hR0 : Seal (SqRel J a n bn ba W) := ⟨[], 64, a, n, rfl, by omega, ha, hn, h0, (World.cell?_of_block (w := w) (hW.block bn hlt)).trans hcn,
    (World.frozen?_of_block (w := w) (hW.block bn hlt)).trans hfn, (World.cell?_of_block (w := w) (hW.block ba hlt')).trans hca, (World.frozen?_of_block (w := w) (hW.block ba hlt')).trans hfa⟩
  clear hlt hlt' hcn hfn hca hfa hn h0 hW ha
  gi_wp2
  gi_loopw [4] (fun _ wr => SqRel J a n bn ba wr) (fun _ wr => (intOf ((wr.cell? ⟨bn, 0, none⟩).getD undef)).toNat)
  case atStart => exact hR0.out
  case round =>
    clear hR0
    obtain ⟨pre, f, a', n', hS, hnf, ha', hn', hJp, hcn, hfn, hca, hfa⟩ := hrel
    have hSS := Seal.mk hS
    have hNF := Seal.mk hnf
    clear hS hnf
    by_cases h0 : n' = 0
    · subst h0
      have hz : Seal (pre = sqs 64 a n) := ⟨by
        have h := hSS.out
        have e : sqs f a' 0 = [] := by cases f <;> rfl
        rw [e, List.append_nil] at h
        exact h⟩
      clear hY hJ hSS hNF
      rw [show ((0 : Nat) : Int) = 0 from rfl] at hcn
      gi_wp2
      go_end0
      exact ⟨⟨_, rfl⟩, pre, hz.out, hJp⟩
    · obtain ⟨g, rfl⟩ : ∃ g, f = g + 1 := ⟨f - 1, by have := hNF.out; cases f with
        | zero => simp at this; omega
        | succ k => omega⟩
      have hx : sqs (g + 1) a' n' = ⟨(a', n' % 2 == 1), ha'⟩ :: sqs g (a' * a' % P) (n' / 2) := by
        rw [sqs, if_neg h0]
        have e : (⟨(a' % P, n' % 2 == 1), Nat.mod_lt _ P_pos⟩ : Sq) = ⟨(a', n' % 2 == 1), ha'⟩ := Subtype.ext (by
          show (a' % P, n' % 2 == 1) = (a', n' % 2 == 1)
          rw [Nat.mod_eq_of_lt (show a' < P from ha')])
        rw [e]
      have hlen : pre.length < 64 := by
        have h1 := congrArg List.length hSS.out
        have h2 := sqs_length 64 a n
        rw [List.length_append, hx, List.length_cons] at h1
        omega
      have hNext : Seal ((pre ++ [⟨(a', n' % 2 == 1), ha'⟩]) ++ sqs g (a' * a' % P) (n' / 2) = sqs 64 a n ∧ n' / 2 < 2 ^ g) :=
        ⟨by rw [← hSS.out, hx, List.append_assoc]; rfl, by have := hNF.out; rw [Nat.pow_succ] at this; omega⟩
      obtain ⟨fn, tmps, assign, body, hy, hR⟩ := hY.out pre ⟨(a', n' % 2 == 1), ha'⟩ wr hJp hlen
      dsimp only [encSq] at hy
      have hR := Seal.mk hR
      have hpos : 1 ≤ n' := by omega
      clear hx hlen hSS hNF h0 hY
      have hand := i64_and1 n' (by omega)
      have hhalf : n' / 2 < 1073741789 := by omega
      have hmul : 0 ≤ (a' : Int) * (a' : Int) ∧ (a' : Int) * (a' : Int) ≤ 4611685966887780484 := mul_bd ha' ha'
      obtain ⟨hm1, hm2⟩ := hmul
      by_cases hodd : n' % 2 = 1
      · rw [hodd] at hand
        rw [show ((1 : Nat) : Int) = 1 from rfl] at hand
        rw [show (n' % 2 == 1) = true from by simpa using hodd] at hy
        clear hodd
        gi_wp2
        refine ⟨fun h => (by cases h), ?_⟩
        refine hR.out.mono ?_
        rintro e W3 ⟨rfl, hJ3, hk3⟩
        have hcn3 := (cell_same (hk3 bn (.inl rfl))).trans hcn
        have hfn3 := (frozen_same (hk3 bn (.inl rfl))).trans hfn
        have hca3 := (cell_same (hk3 ba (.inr rfl))).trans hca
        have hfa3 := (frozen_same (hk3 ba (.inr rfl))).trans hfa
        have hk := Seal.mk hk3
        have hc0 := Seal.mk hcn
        clear hk3 hcn hfn hca hfa hy hR hand
        have hJ3 := Seal.mk hJ3
        have hne' : ba ≠ bn := fun e => hne e.symm
        gi_wp2
        have hN := SqRel.next hne hJ.out hNext.out (Nat.mod_lt _ P_pos) hhalf hJ3.out hcn3 hfn3 hca3 hfa3
        rw [show (a' : Int) * (a' : Int) % 2147483579 = ((a' * a' % P : Nat) : Int) from by simp [P], show (n' : Int) / 2 = ((n' / 2 : Nat) : Int) from by omega]
        refine ⟨hN.1, ?_⟩
        rw [hN.2, hc0.out]
        simp only [Option.getD_some, intOf]
        omega
      · rw [show n' % 2 = 0 from by omega] at hand
        rw [show ((0 : Nat) : Int) = 0 from rfl] at hand
        rw [show (n' % 2 == 1) = false from by simpa using hodd] at hy
        clear hodd
        gi_wp2
        refine ⟨fun h => (by cases h), ?_⟩
        refine hR.out.mono ?_
        rintro e W3 ⟨rfl, hJ3, hk3⟩
        have hcn3 := (cell_same (hk3 bn (.inl rfl))).trans hcn
        have hfn3 := (frozen_same (hk3 bn (.inl rfl))).trans hfn
        have hca3 := (cell_same (hk3 ba (.inr rfl))).trans hca
        have hfa3 := (frozen_same (hk3 ba (.inr rfl))).trans hfa
        have hk := Seal.mk hk3
        have hc0 := Seal.mk hcn
        clear hk3 hcn hfn hca hfa hy hR hand
        have hJ3 := Seal.mk hJ3
        have hne' : ba ≠ bn := fun e => hne e.symm
        gi_wp2
        have hN := SqRel.next hne hJ.out hNext.out (Nat.mod_lt _ P_pos) hhalf hJ3.out hcn3 hfn3 hca3 hfa3
        rw [show (a' : Int) * (a' : Int) % 2147483579 = ((a' * a' % P : Nat) : Int) from by simp [P], show (n' : Int) / 2 = ((n' / 2 : Nat) : Int) from by omega]
        refine ⟨hN.1, ?_⟩
        rw [hN.2, hc0.out]
        simp only [Option.getD_some, intOf]
        omega
theorem tmod_lq (n : Int) : (n.tmod 1073741789 + 1073741789) % 1073741789 = ((lq n : Nat) : Int) := by
  rw [lq_cast, Int.add_emod_right, Int.tmod_def, Int.sub_mul_emod_self_left]
  rfl

set_option maxHeartbeats 400000 in
/-- least of one number -/
theorem least_one (g off cap : Nat) (n : Int) (w : World) (_h1 : -9223372036854775808 ≤ n) (_h2 : n ≤ 9223372036854775807) (hc : w.cell? ⟨g, off, none⟩ = some (.int .i64 n)) :
    Calls Tryz.prog 104 #[.slice (some ⟨g, off, none⟩) 1 cap] w fun e w' => e = .returned (.int .i64 (lq n)) ∧ w = w' := by
  have HL := Seal.mk (tmod_lq n)
  have hb1 : -1073741789 < n.tmod 1073741789 := Int.lt_tmod_of_pos n (by decide)
  have hb2 : n.tmod 1073741789 < 1073741789 := Int.tmod_lt_of_pos n (by decide)
  go_enter Tryz.func104, Tryz.ntmps104
  go_wp2
  go_loop [3, 5, 8] (fun c _ i => (i = .int .i64 0 ∧ c = .int .i64 1) ∨ (i = .int .i64 1 ∧ c = .int .i64 (lq n))) (fun _ _ i => (1 - intOf i).toNat)
  case atStart => exact .inl ⟨rfl, rfl⟩
  case round =>
    rcases hrel with ⟨rfl, rfl⟩ | ⟨rfl, rfl⟩
    · go_wp2
      go_round
      case rel => exact .inr ⟨rfl, by rw [← HL.out]⟩
      case measure => simp [intOf]
    · go_wp2
      go_ret
      exact ⟨rfl, rfl⟩

theorem squares_any (a n : Int) (w : World) :
    Calls Tryz.prog 103 #[.int .i64 a, .int .i64 n] w fun e w' => e = .returned (.func (.func 123) #[] #[.pointer (some ⟨w.heap.size + 1, 0, none⟩), .pointer (some ⟨w.heap.size, 0, none⟩)]) ∧
      (w.alloc (.cells #[.int .i64 a] 3)).alloc (.cells #[.int .i64 n] 3) = w' := by
  go_enter Tryz.func103, Tryz.ntmps103
  go_wp2
  go_ret
  exact ⟨rfl, rfl⟩

set_option maxHeartbeats 1000000 in
theorem pow_yes (a n : Int) (w : World) (h : vd a = true) (h1 : -9223372036854775808 ≤ n) (h2 : n ≤ 9223372036854775807) :
    Calls Tryz.prog 86 #[.int .i64 a, .int .i64 n] w fun e w' => e = .returned (.tuple #[.int .i64 (pw a.toNat n), .int .i64 0]) ∧ Below w.heap.size w w' := by
  have HV : Seal (vd a = true) := ⟨h⟩
  obtain ⟨A, rfl, hA⟩ := vd_of_vd h
  have hA2 : A < 2147483579 := hA.2.1
  have hlq : lq n < 1073741789 := lq_lt n
  clear h
  refine (callsIn_wide (n := 3)).1 ?_
  refine callsIn_of_wp_marks Tryz.func86 rfl trivial ?_ rfl
  simp only [Tryz.ntmps86, List.size_toArray, List.length_cons, List.length_nil, Nat.reduceAdd, Nat.reduceSub, Array.replicate_succ, Array.replicate_zero, List.push_toArray, List.append_toArray, List.nil_append, List.cons_append]
  gi_wp2_with (first | (refine ⟨trivial, ?_⟩; gi_at_call 63; refine (callsIn_wide.2 (valid_any _ _)).mono ?_; rintro e w' ⟨rfl, rfl⟩; rw [HV.out]) | (refine ⟨trivial, ?_⟩; gi_at_call 104; refine (callsIn_wide.2 (least_one _ _ _ n _ h1 h2 (by simp))).mono ?_; rintro e w' ⟨rfl, rfl⟩) | (refine ⟨trivial, ?_⟩; gi_at_call 103; refine (callsIn_wide.2 (squares_any _ _ _)).mono ?_; rintro e w' ⟨rfl, rfl⟩))
  have hsz : ((((w.alloc (.cells #[.int .i64 1] 3)).alloc (.cells #[.int .i64 n] 3)).alloc (.cells #[.int .i64 A] 3)).alloc (.cells #[.int .i64 (lq n)] 3)).heap.size = w.heap.size + 4 := by simp
  refine wpIn_rangeFunc_cells rfl (by decide) (gf := 123) (lb := #[.pointer (some ⟨w.heap.size + 1 + 1 + 1, 0, none⟩), .pointer (some ⟨w.heap.size + 1 + 1, 0, none⟩)]) rfl trivial (enters_of Tryz.func123 (by kernel_rfl) rfl)
    (squares_seq 2 A (lq n) (w.heap.size + 1 + 1 + 1) (w.heap.size + 1 + 1) _ hA2 hlq (by omega) (by go_simp) (by go_simp) (by go_simp) (by go_simp)) (by rintro r (rfl | rfl) <;> rw [hsz] <;> omega) (fun _ => rfl)
    (fun pre W => (W.cell? ⟨w.heap.size, 0, none⟩ = some (.int .i64 (prodS pre)) ∧ W.frozen? ⟨w.heap.size, 0, none⟩ = false) ∧ Below w.heap.size w W)
    ?own ⟨⟨by go_simp; rfl, by go_simp⟩, ((((Below.refl _ w).alloc (Nat.le_refl _) _).alloc (by simp) _).alloc (by simp; omega) _).alloc (by simp; omega) _⟩
    (fun x => { tmps := #[.int .i64 A, .int .i64 n, undef, undef, .pointer (some ⟨w.heap.size, 0, none⟩), .int .i64 0, .int .i64 x.1.1, .bool x.1.2, .int .i64 A, .bool true, .bool false, .int .i64 A,
      .int .i64 n, .slice (some ⟨w.heap.size + 1, 0, none⟩) 1 1, .int .i64 (lq n), .func (.func 123) #[] #[.pointer (some ⟨w.heap.size + 1 + 1 + 1, 0, none⟩), .pointer (some ⟨w.heap.size + 1 + 1, 0, none⟩)],
      .int .i64 x.1.1, .bool x.1.2, undef, undef, undef, undef, undef, undef], defers := [] }) ?assign ?body ?done
  case own =>
    rintro s X Y row ⟨⟨hc, hf⟩, hb⟩ hg hr
    have hrow : ∀ r, row = some r → w.heap.size < r := by
      intro r e
      rcases hr r e with (rfl | rfl) | ⟨h, _⟩
      · omega
      · omega
      · rw [hsz] at h; omega
    have hne : some w.heap.size ≠ row := by intro e; have := hrow _ e.symm; omega
    have hlt := block_lt_of_cell hc
    exact ⟨⟨heap_of_cell_grown hg hc hne, (World.frozen?_of_block (w := X) (hg.block _ hlt hne)).trans hf⟩, hb.grown hg hb.size (fun k e => Nat.le_of_lt (hrow k e))⟩
  case assign =>
    intro l x W K hK
    gi_wp2
    exact hK
  case body =>
    rintro l pre x W ⟨⟨hc, hf⟩, hb⟩ _
    obtain ⟨⟨q, bt⟩, hq⟩ := x
    have hs := prodS_snoc pre ⟨(q, bt), hq⟩
    have hlt := prodS_lt pre
    have hm := mul_bd (show q < 2147483579 from hq) hlt
    obtain ⟨hm1, hm2⟩ := hm
    have hB := Seal.mk hb
    cases bt
    · have HS : Seal (prodS (pre ++ [⟨(q, false), hq⟩]) = prodS pre) := ⟨hs⟩
      clear hs hb
      gi_wp2
      exact ⟨KeepsOthers.refl _, fun _ _ => rfl, ⟨by rw [HS.out]; exact hc, hf⟩, hB.out⟩
    · have HS : Seal (prodS (pre ++ [⟨(q, true), hq⟩]) = prodS pre * q % P) := ⟨hs⟩
      clear hs hb
      gi_wp2
      refine ⟨KeepsOthers.setCell _ _ _, ?_, ⟨?_, ?_⟩, ?_⟩
      · rintro r hr
        exact Below.heap_setCell W _ _ r (by rcases hr with rfl | rfl <;> simp <;> omega)
      · rw [HS.out]
        refine (World.cell?_setCell_same' _ _ _ (by rw [hc]; rfl)).trans ?_
        go_num
      · rw [World.frozen?_setCell]; exact hf
      · exact hB.out.setCell (Nat.le_refl _) _
  case done =>
    rintro D xs W hD rfl ⟨⟨hc, hf⟩, hb⟩ hK
    have hlt := prodS_lt (sqs 64 A (lq n))
    have HP : Seal (prodS (sqs 64 A (lq n)) = pw A n) := ⟨prodS_sqs A (lq n) (by omega)⟩
    gi_wp2
    have hK' := (KeepsOthers.setCell W ⟨w.heap.size, 0, none⟩ (.int .i64 (prodS (sqs 64 A (lq n))))).same D _ hK rfl
    refine ⟨by simp, .inl ⟨_, _, rfl, run_takeDeferred hK', ?_⟩⟩
    have hc5 := cell_kept (World.cell?_setCell_same' W ⟨w.heap.size, 0, none⟩ (.int .i64 (prodS (sqs 64 A (lq n)))) (by rw [hc]; rfl)) (grownBy_putObj' _ D (.deferred none)) (fun r e => by cases e; exact ⟨_, hK', rfl⟩)
    refine ⟨.tuple #[.int .i64 (prodS (sqs 64 A (lq n))), .int .i64 0], ?_, ?_⟩
    · simp [results, Tryz.f86, go_sem, hc5]
    · rw [HP.out, hsz] at *
      exact ⟨rfl, (hb.setCell (p := ⟨w.heap.size, 0, none⟩) (Nat.le_refl _) _).trans (belowK_b (w := w) (Nat.le_refl _) _ D _ _ (by omega) hK' rfl rfl)⟩

end Frk

/- The program's Mul and Hash, and what the packages sign and blind make of them. -/
namespace Frk
open Go Go.RowKit Go.Proofs
set_option maxRecDepth 100000

/-- a product of elements -/
theorem mul_yes (a b : Int) (w : World) (ha : vd a = true) (hb : vd b = true) :
    Calls Tryz.prog 87 #[.int .i64 a, .int .i64 b] w fun e w' => e = .returned (.tuple #[.int .i64 (mp a.toNat b.toNat : Nat), .int .i64 0]) ∧ w = w' := by
  obtain ⟨A, rfl, hA⟩ := vd_of_vd ha
  obtain ⟨B, rfl, hB⟩ := vd_of_vd hb
  have hA1 : A < 2147483579 := hA.2.1
  have hB1 : B < 2147483579 := hB.2.1
  obtain ⟨b1, b2⟩ := mul_bd hB1 hA1
  clear hA hB
  go_enter Tryz.func87, Tryz.ntmps87
  go_wp2_with (go_at_call 63; refine (valid_any _ _).mono ?_; rintro e w' ⟨rfl, rfl⟩)
  go_ret2
  refine ⟨?_, rfl⟩
  unfold mp
  simp [P]

/-- the first bytes of a hash as a number -/
def hpre (l : Bytes) : Nat → Nat
  | 0 => 0
  | k + 1 => hpre l k * 256 + (l.getD k 0).toNat

def mask0 (l : Bytes) : Bytes := l.set 0 (UInt8.ofNat ((l.getD 0 0).toNat % 128))

end Frk

/- The program's sign: list, power, Sign, Verify. -/
namespace Frk
open Go Go.RowKit Go.Proofs
set_option maxRecDepth 100000

theorem IsB.below {w w' : World} {a : Option Addr} {len cap : Nat} {l : Bytes} (h : IsB w a len cap l) (hb : Below w.heap.size w w') : IsB w' a len cap l :=
  ⟨h.llen, h.lcap, h.lmax, h.cmax, by
    rcases h.at_ with h | ⟨g, off, e, hr, hg⟩
    · exact .inl h
    · exact .inr ⟨g, off, e, rangeAt_below' hr hb, Nat.lt_of_lt_of_le hg hb.size⟩⟩

theorem IsB.conv {w : World} {a : Option Addr} {len cap : Nat} {l : Bytes} (h : IsB w a len cap l) :
    (convert 90 9 (.slice a len cap)).run Tryz.prog w = .ok (.string ⟨l.toArray⟩) w := by
  rcases h.at_ with rfl | ⟨g, off, rfl, hr, hg⟩
  · have e : l = [] := List.eq_nil_of_length_eq_zero h.llen
    subst e
    cases a with
    | some a => exact run_convert_bytes_back (P := Tryz.prog) w 90 9 5 a cap [] Tryz.underlying90 Tryz.underlying5 Tryz.underlying9 (fun j hj => absurd hj (by simp))
    | none => exact Lib.run_convert_nil_bytes w 90 9 5 cap Tryz.underlying90 Tryz.underlying5 Tryz.underlying9
  · have := run_convert_bytes_back (P := Tryz.prog) w 90 9 5 ⟨g, off, none⟩ cap l Tryz.underlying90 Tryz.underlying5 Tryz.underlying9 (fun j hj => by
      rw [Addr.add_mid]; exact hr j _ (by rw [List.getElem?_map, List.getElem?_eq_getElem hj]; rfl))
    rwa [h.llen] at this

/-- what list is called with -/
inductive Arg where
  | i (n : Int)
  | s (a : Option Addr) (len cap : Nat) (b : Bytes)

def Arg.val : Arg → Value
  | .i n => .iface 3 (.int .i64 n)
  | .s a len cap _ => .iface 90 (.slice a len cap)
def Arg.lf : Arg → Lf
  | .i n => .i n
  | .s _ _ _ b => .t b
def Arg.ok (w : World) : Arg → Prop
  | .i n => -9223372036854775808 ≤ n ∧ n ≤ 9223372036854775807
  | .s a len cap b => IsB w a len cap b
theorem Arg.ok.below {w w' : World} {x : Arg} (h : x.ok w) (hb : Below w.heap.size w w') : x.ok w' := by
  cases x with
  | i n => exact h
  | s a len cap b => exact IsB.below h hb
theorem Arg.ok.fits {w : World} {x : Arg} (h : x.ok w) : x.lf.fits := by
  cases x with
  | i n => exact h
  | s a len cap b =>
    have h' : IsB w a len cap b := h
    have := h'.lmax
    have := h'.llen
    show b.length < 2 ^ 63
    omega

theorem info_val : (Tryz.prog.info? 111).map (fun i => (i.zero, i.size, i.bytes)) = some (some (.agg #[.int .i64 0, .int .i64 0, .string ByteArray.empty, .slice none 0 0]), 4, 56) := by kernel_rfl

def leafCells (xs : List Arg) : List Value := xs.flatMap fun x => x.lf.cells
theorem leafCells_at : ∀ (xs : List Arg) (k : Nat) (x : Arg), xs[k]? = some x → ∀ (j : Nat) (c : Value), x.lf.cells[j]? = some c → (leafCells xs)[k * 4 + j]? = some c
  | [], k, x, h, _, _, _ => by simp at h
  | y :: xs, 0, x, h, j, c, hc => by
    have e : y = x := by simpa using h
    subst e
    unfold leafCells
    rw [List.flatMap_cons, Nat.zero_mul, Nat.zero_add, List.getElem?_append_left (List.getElem?_eq_some_iff.1 hc).1]
    exact hc
  | y :: xs, k + 1, x, h, j, c, hc => by
    have := leafCells_at xs k x (by simpa using h) j c hc
    unfold leafCells at *
    have hl : y.lf.cells.length = 4 := by cases y <;> rfl
    rw [List.flatMap_cons, List.getElem?_append_right (by omega), hl, show (k + 1) * 4 + j - 4 = k * 4 + j from by omega]
    exact this
theorem leafCells_take (xs : List Arg) (k : Nat) (x : Arg) (h : xs[k]? = some x) : leafCells (xs.take (k + 1)) = leafCells (xs.take k) ++ x.lf.cells := by
  obtain ⟨hk, rfl⟩ := List.getElem?_eq_some_iff.1 h
  unfold leafCells
  rw [List.take_succ_eq_append_getElem hk, List.flatMap_append]
  simp

/-- where the loop of list stands -/
def ListRel (xs : List Arg) (w0 : World) (i : Value) (w : World) : Prop :=
  ∃ (j : Nat) (v : Value), j ≤ xs.length ∧ i = .int .i64 j ∧ Seal (w.heap[w0.heap.size]? = some (.cells #[.int .i64 3, .int .i64 0, .string ByteArray.empty, v] 111)) ∧
    Seal (w.ownsRow (w0.heap.size + 1) 111 4 v j (leafCells (xs.take j))) ∧ Seal (Below w0.heap.size w0 w)

theorem ListRel.next {xs : List Arg} {x : Arg} {w0 wr w1 : World} {j g1 cap1 : Nat} {v : Value} {o : Obj} (hj : j < xs.length) (HT : leafCells (xs.take (j + 1)) = leafCells (xs.take j) ++ x.lf.cells) (hb : Below w0.heap.size w0 wr)
    (hr1 : w1.heap[w0.heap.size]? = some (.cells #[.int .i64 3, .int .i64 0, .string ByteArray.empty, v] 111))
    (hown : wr.ownsRow (w0.heap.size + 1) 111 4 v j (leafCells (xs.take j))) (hg : (wr.alloc o).grownBy w1 v.ownBlock) (hbs : w0.heap.size < wr.heap.size)
    (hown1 : w1.ownsRow (w0.heap.size + 1) 111 4 (.slice (some ⟨g1, 0, none⟩) (j + 1) cap1) (j + 1) (leafCells (xs.take j) ++ x.lf.cells)) :
    ListRel xs w0 (.int .i64 ((j + 1 : Nat) : Int)) (w1.setCell ⟨w0.heap.size, 3, none⟩ (.slice (some ⟨g1, 0, none⟩) (j + 1) cap1)) := by
  refine ⟨j + 1, .slice (some ⟨g1, 0, none⟩) (j + 1) cap1, hj, rfl, ⟨?_⟩, ⟨?_⟩, ⟨?_⟩⟩
  · exact heap_setCell_row (cs := [.int .i64 3, .int .i64 0, .string ByteArray.empty, v]) _ hr1
  · rw [HT]
    refine hown1.kept (row := some w0.heap.size) (grown_setCell (grown_of_below (Below.refl _ w1) _) _ _) (.inr ?_)
    intro e
    have := (hown1.lt _ e).1
    omega
  · have h1 : Below w0.heap.size (wr.alloc o) w1 := ⟨hg.os, hg.tape, hg.output, hg.size, fun k hk => hg.block k (by rw [size_alloc]; omega) (fun e => by have := (hown.lt k e.symm).1; omega)⟩
    exact ((hb.alloc (by omega) o).trans h1).setCell (p := ⟨w0.heap.size, 3, none⟩) (Nat.le_refl _) _

end Frk

/- The program's sign: power, Sign, Verify. -/
namespace Frk
open Go Go.RowKit Go.Proofs
set_option maxRecDepth 100000

/-- what list leaves -/
def ListPost (l : Bytes) (w : World) (e : Ending) (w' : World) : Prop := ∃ g' n' cap', Seal (l.length = n') ∧
      e = .returned (.slice (some ⟨g', 0, none⟩) n' cap') ∧ Seal (n' ≤ cap' ∧ cap' ≤ 9223372036854775807 ∧ g' < w'.heap.size ∧ w'.rangeAt g' 0 (l.map B) ∧ Below w.heap.size w w')

theorem encL_length (xs : List Lf) : (encL xs).length ≤ wgts xs + 11 := by
  have h1 := encs_length xs
  have h2 := numF_length 10 xs.length
  simp [encL, numeral]; omega

/-! ## signatures -/
def tNonce : Bytes := [110, 111, 110, 99, 101]
def tSign : Bytes := [115, 105, 103, 110]
/-- the hash of a point, a key and a text -/
def sgHash (r key : Int) (b : Bytes) : Nat := ghash tSign (encL [.i r, .i key, .t b])
def sgK (x : Int) (b : Bytes) : Nat := max (ghash tNonce (encL [.i x, .t b])) 1
def sgE (x : Int) (b : Bytes) : Nat := sgHash (pw 4 (sgK x b)) (pw 4 x) b
def sgS (x : Int) (b : Bytes) : Int := ((sgK x b : Int) + (sgE x b : Int) * x % 1073741789) % 1073741789

theorem blk {w w' : World} {n b : Nat} {o : Obj} (h : Below n w w') (hb : b < n) (ho : w.heap[b]? = some o) : w'.heap[b]? = some o := (h.block b hb).trans ho

end Frk

