/- The program's least, squares, Pow and Mul compute numbers modulo Q, powers and products of the group. -/
import Derived.Test.YtemoomfnmiodeaaGreatDoorVtgRng
import Derived.Test.YtemoomfnmiodeaaGreatDoorVtgBit
import Derived.Shelf.Abstract
import Derived.Shelf.RegionOpen
import Derived.OwnWalkIn
import Derived.TacticsInMore
import Derived.LoopNIn
import Derived.LoopIn
namespace Frk
open Go Go.RowKit Go.Proofs
set_option maxRecDepth 100000
attribute [local go_sem] Oper.semAt_some

/-! ## the squares of a number, with the bits of an exponent -/
abbrev Sq := { p : Nat × Bool // p.1 < 2147483579 }
def sqs : Nat → Nat → Nat → List Sq
  | 0, _, _ => []
  | f + 1, a, n => if n = 0 then [] else ⟨(a % P, n % 2 == 1), Nat.mod_lt _ P_pos⟩ :: sqs f (a * a % P) (n / 2)
def mulS (c : Nat) (x : Sq) : Nat := if x.1.2 then c * x.1.1 % P else c
def prodS (l : List Sq) : Nat := l.foldl mulS 1
theorem prodS_snoc (l : List Sq) (x : Sq) : prodS (l ++ [x]) = mulS (prodS l) x := by simp [prodS]
theorem mulS_lt (c : Nat) (x : Sq) (h : c < P) : mulS c x < P := by unfold mulS; split; exact Nat.mod_lt _ P_pos; exact h
theorem foldS_lt : ∀ (l : List Sq) (c : Nat), c < P → l.foldl mulS c < P
  | [], _, h => h
  | x :: l, c, h => foldS_lt l _ (mulS_lt c x h)
theorem prodS_lt (l : List Sq) : prodS l < 2147483579 := foldS_lt l 1 one_lt_P
theorem foldS_eq : ∀ (f a n c : Nat), n < 2 ^ f → c < P → (sqs f a n).foldl mulS c = c * a ^ n % P
  | 0, a, n, c, hn, hc => by
    have : n = 0 := by simp at hn; exact hn
    subst this
    rw [sqs, List.foldl_nil, Nat.pow_zero, Nat.mul_one, Nat.mod_eq_of_lt hc]
  | f + 1, a, n, c, hn, hc => by
    unfold sqs
    by_cases h : n = 0
    · rw [if_pos h, h, List.foldl_nil, Nat.pow_zero, Nat.mul_one, Nat.mod_eq_of_lt hc]
    · rw [if_neg h, List.foldl_cons, foldS_eq f _ _ _ (by rw [Nat.pow_succ] at hn; omega) (mulS_lt _ _ hc)]
      unfold mulS
      by_cases h1 : n % 2 = 1
      · simp only [h1, beq_self_eq_true, if_true]
        rw [Nat.mul_mod_mod, pow_step_odd _ _ _ h1]
      · rw [if_neg (by simpa using h1), pow_step_even _ _ _ (by omega)]
theorem prodS_sqs (a n : Nat) (hn : n < 2 ^ 64) : prodS (sqs 64 a n) = a ^ n % P := by
  unfold prodS; rw [foldS_eq 64 a n 1 hn one_lt_P, Nat.one_mul]

abbrev encSq (p : Sq) : Array Value := #[.int .i64 p.1.1, .bool p.1.2]

theorem sqs_length : ∀ (f a n : Nat), (sqs f a n).length ≤ f
  | 0, _, _ => Nat.le_refl _
  | f + 1, a, n => by
    unfold sqs
    split
    · simp
    · have := sqs_length f (a * a % P) (n / 2)
      simp; omega

theorem heap_of_cell_grown {A B : World} {row : Option Nat} (g : A.grownBy B row) {b : Nat} {v : Value} (hc : A.cell? ⟨b, 0, none⟩ = some v) (hb : some b ≠ row) : B.cell? ⟨b, 0, none⟩ = some v :=
  (World.cell?_of_block (w := A) (g.block b (block_lt_of_cell hc) hb)).trans hc

theorem cell_same {W W' : World} {b : Nat} (h : W'.heap[b]? = W.heap[b]?) : W'.cell? ⟨b, 0, none⟩ = W.cell? ⟨b, 0, none⟩ := World.cell?_of_block (w := W) h
theorem frozen_same {W W' : World} {b : Nat} (h : W'.heap[b]? = W.heap[b]?) : W'.frozen? ⟨b, 0, none⟩ = W.frozen? ⟨b, 0, none⟩ := World.frozen?_of_block (w := W) h

def SqRel (J : List Sq → World → Prop) (a n bn ba : Nat) (W : World) : Prop :=
  ∃ (pre : List Sq) (f a' n' : Nat), pre ++ sqs f a' n' = sqs 64 a n ∧ n' < 2 ^ f ∧ a' < 2147483579 ∧ n' < 1073741789 ∧ J pre W ∧
    W.cell? ⟨bn, 0, none⟩ = some (.int .i64 n') ∧ W.frozen? ⟨bn, 0, none⟩ = false ∧ W.cell? ⟨ba, 0, none⟩ = some (.int .i64 a') ∧ W.frozen? ⟨ba, 0, none⟩ = false

theorem SqRel.next {J : List Sq → World → Prop} {a n bn ba : Nat} {W : World} (hne : bn ≠ ba) (hJ : ∀ (s : List Sq) (A B : World) (row : Option Nat), J s A → A.grownBy B row → (∀ (r : Nat), row = some r → r = bn ∨ r = ba) → J s B)
    {pre : List Sq} {f a' n' : Nat} (hS : pre ++ sqs f a' n' = sqs 64 a n ∧ n' < 2 ^ f) (ha : a' < 2147483579) (hn : n' < 1073741789) (hJp : J pre W) {v u : Value}
    (hcn : W.cell? ⟨bn, 0, none⟩ = some v) (hfn : W.frozen? ⟨bn, 0, none⟩ = false) (hca : W.cell? ⟨ba, 0, none⟩ = some u) (hfa : W.frozen? ⟨ba, 0, none⟩ = false) :
    SqRel J a n bn ba ((W.setCell ⟨ba, 0, none⟩ (.int .i64 a')).setCell ⟨bn, 0, none⟩ (.int .i64 n')) ∧
      ((W.setCell ⟨ba, 0, none⟩ (.int .i64 a')).setCell ⟨bn, 0, none⟩ (.int .i64 n')).cell? ⟨bn, 0, none⟩ = some (.int .i64 n') := by
  have g1 : W.grownBy (W.setCell ⟨ba, 0, none⟩ (.int .i64 a')) (some ba) := grown_setCell (grown_of_below (Below.refl _ W) _) _ _
  have g2 : (W.setCell ⟨ba, 0, none⟩ (.int .i64 a')).grownBy ((W.setCell ⟨ba, 0, none⟩ (.int .i64 a')).setCell ⟨bn, 0, none⟩ (.int .i64 n')) (some bn) := grown_setCell (grown_of_below (Below.refl _ _) _) _ _
  have c1 : (W.setCell ⟨ba, 0, none⟩ (.int .i64 a')).cell? ⟨ba, 0, none⟩ = some (.int .i64 a') := World.cell?_setCell_same' _ _ _ (by rw [hca]; rfl)
  have c2 : (W.setCell ⟨ba, 0, none⟩ (.int .i64 a')).cell? ⟨bn, 0, none⟩ = some v := heap_of_cell_grown g1 hcn (by intro e; cases e; exact hne rfl)
  have c3 : ((W.setCell ⟨ba, 0, none⟩ (.int .i64 a')).setCell ⟨bn, 0, none⟩ (.int .i64 n')).cell? ⟨bn, 0, none⟩ = some (.int .i64 n') := World.cell?_setCell_same' _ _ _ (by rw [c2]; rfl)
  exact ⟨⟨pre, f, a', n', hS.1, hS.2, ha, hn, hJ _ _ _ _ (hJ _ _ _ _ hJp g1 (fun r e => by cases e; exact .inr rfl)) g2 (fun r e => by cases e; exact .inl rfl), c3,
    by rw [World.frozen?_setCell, World.frozen?_setCell]; exact hfn, heap_of_cell_grown g2 c1 (by intro e; cases e; exact hne rfl), by rw [World.frozen?_setCell, World.frozen?_setCell]; exact hfa⟩, c3⟩

set_option maxHeartbeats 1000000 in
theorem squares_seq (m a n bn ba : Nat) (w : World) (ha : a < 2147483579) (hn : n < 1073741789) (hne : bn ≠ ba)
    (hcn : w.cell? ⟨bn, 0, none⟩ = some (.int .i64 n)) (hfn : w.frozen? ⟨bn, 0, none⟩ = false) (hca : w.cell? ⟨ba, 0, none⟩ = some (.int .i64 a)) (hfa : w.frozen? ⟨ba, 0, none⟩ = false) :
    SeqCells Fence.wide m Tryz.prog 123 #[.pointer (some ⟨bn, 0, none⟩), .pointer (some ⟨ba, 0, none⟩)] encSq (fun r => r = bn ∨ r = ba) (fun xs => xs = sqs 64 a n) 64 w := by
  intro l J W hW hJ hY h0
  refine callsIn_of_wp Tryz.func123 rfl trivial ?_ rfl
  simp only [Tryz.ntmps123, List.size_toArray, List.length_cons, List.length_nil, Nat.reduceAdd, Nat.reduceSub, Array.replicate_succ, Array.replicate_zero, List.push_toArray, List.append_toArray, List.nil_append, List.cons_append]
  have hlt := block_lt_of_cell hcn
  have hlt' := block_lt_of_cell hca
  have hY := Seal.mk hY
  have hJ := Seal.mk hJ
  have hR0 : Seal (SqRel J a n bn ba W) := ⟨[], 64, a, n, rfl, by omega, ha, hn, h0, (World.cell?_of_block (w := w) (hW.block bn hlt)).trans hcn,
    (World.frozen?_of_block (w := w) (hW.block bn hlt)).trans hfn, (World.cell?_of_block (w := w) (hW.block ba hlt')).trans hca, (World.frozen?_of_block (w := w) (hW.block ba hlt')).trans hfa⟩
  clear hlt hlt' hcn hfn hca hfa hn h0 hW ha
  gi_wp2
  gi_loopw [4] (fun _ wr => SqRel J a n bn ba wr) (fun _ wr => (intOf ((wr.cell? ⟨bn, 0, none⟩).getD undef)).toNat)
  case atStart => exact hR0.out
  case round =>
    clear hR0
    obtain ⟨pre, f, a', n', hS, hnf, ha', hn', hJp, hcn, hfn, hca, hfa⟩ := hrel
    have hSS := Seal.mk hS
    have hNF := Seal.mk hnf
    clear hS hnf
    by_cases h0 : n' = 0
    · subst h0
      have hz : Seal (pre = sqs 64 a n) := ⟨by
        have h := hSS.out
        have e : sqs f a' 0 = [] := by cases f <;> rfl
        rw [e, List.append_nil] at h
        exact h⟩
      clear hY hJ hSS hNF
      rw [show ((0 : Nat) : Int) = 0 from rfl] at hcn
      gi_wp2
      go_end0
      exact ⟨⟨_, rfl⟩, pre, hz.out, hJp⟩
    · obtain ⟨g, rfl⟩ : ∃ g, f = g + 1 := ⟨f - 1, by have := hNF.out; cases f with
        | zero => simp at this; omega
        | succ k => omega⟩
      have hx : sqs (g + 1) a' n' = ⟨(a', n' % 2 == 1), ha'⟩ :: sqs g (a' * a' % P) (n' / 2) := by
        rw [sqs, if_neg h0]
        have e : (⟨(a' % P, n' % 2 == 1), Nat.mod_lt _ P_pos⟩ : Sq) = ⟨(a', n' % 2 == 1), ha'⟩ := Subtype.ext (by
          show (a' % P, n' % 2 == 1) = (a', n' % 2 == 1)
          rw [Nat.mod_eq_of_lt (show a' < P from ha')])
        rw [e]
      have hlen : pre.length < 64 := by
        have h1 := congrArg List.length hSS.out
        have h2 := sqs_length 64 a n
        rw [List.length_append, hx, List.length_cons] at h1
        omega
      have hNext : Seal ((pre ++ [⟨(a', n' % 2 == 1), ha'⟩]) ++ sqs g (a' * a' % P) (n' / 2) = sqs 64 a n ∧ n' / 2 < 2 ^ g) :=
        ⟨by rw [← hSS.out, hx, List.append_assoc]; rfl, by have := hNF.out; rw [Nat.pow_succ] at this; omega⟩
      obtain ⟨fn, tmps, assign, body, hy, hR⟩ := hY.out pre ⟨(a', n' % 2 == 1), ha'⟩ wr hJp hlen
      dsimp only [encSq] at hy
      have hR := Seal.mk hR
      have hpos : 1 ≤ n' := by omega
      clear hx hlen hSS hNF h0 hY
      have hand := i64_and1 n' (by omega)
      have hhalf : n' / 2 < 1073741789 := by omega
      have hmul : 0 ≤ (a' : Int) * (a' : Int) ∧ (a' : Int) * (a' : Int) ≤ 4611685966887780484 := mul_bd ha' ha'
      obtain ⟨hm1, hm2⟩ := hmul
      by_cases hodd : n' % 2 = 1
      · rw [hodd] at hand
        rw [show ((1 : Nat) : Int) = 1 from rfl] at hand
        rw [show (n' % 2 == 1) = true from by simpa using hodd] at hy
        clear hodd
        gi_wp2
        refine ⟨fun h => (by cases h), ?_⟩
        refine hR.out.mono ?_
        rintro e W3 ⟨rfl, hJ3, hk3⟩
        have hcn3 := (cell_same (hk3 bn (.inl rfl))).trans hcn
        have hfn3 := (frozen_same (hk3 bn (.inl rfl))).trans hfn
        have hca3 := (cell_same (hk3 ba (.inr rfl))).trans hca
        have hfa3 := (frozen_same (hk3 ba (.inr rfl))).trans hfa
        have hk := Seal.mk hk3
        have hc0 := Seal.mk hcn
        clear hk3 hcn hfn hca hfa hy hR hand
        have hJ3 := Seal.mk hJ3
        have hne' : ba ≠ bn := fun e => hne e.symm
        gi_wp2
        have hN := SqRel.next hne hJ.out hNext.out (Nat.mod_lt _ P_pos) hhalf hJ3.out hcn3 hfn3 hca3 hfa3
        rw [show (a' : Int) * (a' : Int) % 2147483579 = ((a' * a' % P : Nat) : Int) from by simp [P], show (n' : Int) / 2 = ((n' / 2 : Nat) : Int) from by omega]
        refine ⟨hN.1, ?_⟩
        rw [hN.2, hc0.out]
        simp only [Option.getD_some, intOf]
        omega
      · rw [show n' % 2 = 0 from by omega] at hand
        rw [show ((0 : Nat) : Int) = 0 from rfl] at hand
        rw [show (n' % 2 == 1) = false from by simpa using hodd] at hy
        clear hodd
        gi_wp2
        refine ⟨fun h => (by cases h), ?_⟩
        refine hR.out.mono ?_
        rintro e W3 ⟨rfl, hJ3, hk3⟩
        have hcn3 := (cell_same (hk3 bn (.inl rfl))).trans hcn
        have hfn3 := (frozen_same (hk3 bn (.inl rfl))).trans hfn
        have hca3 := (cell_same (hk3 ba (.inr rfl))).trans hca
        have hfa3 := (frozen_same (hk3 ba (.inr rfl))).trans hfa
        have hk := Seal.mk hk3
        have hc0 := Seal.mk hcn
        clear hk3 hcn hfn hca hfa hy hR hand
        have hJ3 := Seal.mk hJ3
        have hne' : ba ≠ bn := fun e => hne e.symm
        gi_wp2
        have hN := SqRel.next hne hJ.out hNext.out (Nat.mod_lt _ P_pos) hhalf hJ3.out hcn3 hfn3 hca3 hfa3
        rw [show (a' : Int) * (a' : Int) % 2147483579 = ((a' * a' % P : Nat) : Int) from by simp [P], show (n' : Int) / 2 = ((n' / 2 : Nat) : Int) from by omega]
        refine ⟨hN.1, ?_⟩
        rw [hN.2, hc0.out]
        simp only [Option.getD_some, intOf]
        omega
theorem tmod_lq (n : Int) : (n.tmod 1073741789 + 1073741789) % 1073741789 = ((lq n : Nat) : Int) := by
  rw [lq_cast, Int.add_emod_right, Int.tmod_def, Int.sub_mul_emod_self_left]
  rfl

set_option maxHeartbeats 400000 in
/-- least of one number -/
theorem least_one (g off cap : Nat) (n : Int) (w : World) (_h1 : -9223372036854775808 ≤ n) (_h2 : n ≤ 9223372036854775807) (hc : w.cell? ⟨g, off, none⟩ = some (.int .i64 n)) :
    Calls Tryz.prog 104 #[.slice (some ⟨g, off, none⟩) 1 cap] w fun e w' => e = .returned (.int .i64 (lq n)) ∧ w = w' := by
  have HL := Seal.mk (tmod_lq n)
  have hb1 : -1073741789 < n.tmod 1073741789 := Int.lt_tmod_of_pos n (by decide)
  have hb2 : n.tmod 1073741789 < 1073741789 := Int.tmod_lt_of_pos n (by decide)
  go_enter Tryz.func104, Tryz.ntmps104
  go_wp2
  go_loop [3, 5, 8] (fun c _ i => (i = .int .i64 0 ∧ c = .int .i64 1) ∨ (i = .int .i64 1 ∧ c = .int .i64 (lq n))) (fun _ _ i => (1 - intOf i).toNat)
  case atStart => exact .inl ⟨rfl, rfl⟩
  case round =>
    rcases hrel with ⟨rfl, rfl⟩ | ⟨rfl, rfl⟩
    · go_wp2
      go_round
      case rel => exact .inr ⟨rfl, by rw [← HL.out]⟩
      case measure => simp [intOf]
    · go_wp2
      go_ret
      exact ⟨rfl, rfl⟩

theorem squares_any (a n : Int) (w : World) :
    Calls Tryz.prog 103 #[.int .i64 a, .int .i64 n] w fun e w' => e = .returned (.func (.func 123) #[] #[.pointer (some ⟨w.heap.size + 1, 0, none⟩), .pointer (some ⟨w.heap.size, 0, none⟩)]) ∧
      (w.alloc (.cells #[.int .i64 a] 3)).alloc (.cells #[.int .i64 n] 3) = w' := by
  go_enter Tryz.func103, Tryz.ntmps103
  go_wp2
  go_ret
  exact ⟨rfl, rfl⟩

set_option maxHeartbeats 1000000 in
theorem pow_yes (a n : Int) (w : World) (h : vd a = true) (h1 : -9223372036854775808 ≤ n) (h2 : n ≤ 9223372036854775807) :
    Calls Tryz.prog 86 #[.int .i64 a, .int .i64 n] w fun e w' => e = .returned (.tuple #[.int .i64 (pw a.toNat n), .int .i64 0]) ∧ Below w.heap.size w w' := by
  have HV : Seal (vd a = true) := ⟨h⟩
  obtain ⟨A, rfl, hA⟩ := vd_of_vd h
  have hA2 : A < 2147483579 := hA.2.1
  have hlq : lq n < 1073741789 := lq_lt n
  clear h
  refine (callsIn_wide (n := 3)).1 ?_
  refine callsIn_of_wp_marks Tryz.func86 rfl trivial ?_ rfl
  simp only [Tryz.ntmps86, List.size_toArray, List.length_cons, List.length_nil, Nat.reduceAdd, Nat.reduceSub, Array.replicate_succ, Array.replicate_zero, List.push_toArray, List.append_toArray, List.nil_append, List.cons_append]
  gi_wp2_with (first | (refine ⟨trivial, ?_⟩; gi_at_call 63; refine (callsIn_wide.2 (valid_any _ _)).mono ?_; rintro e w' ⟨rfl, rfl⟩; rw [HV.out]) | (refine ⟨trivial, ?_⟩; gi_at_call 104; refine (callsIn_wide.2 (least_one _ _ _ n _ h1 h2 (by simp))).mono ?_; rintro e w' ⟨rfl, rfl⟩) | (refine ⟨trivial, ?_⟩; gi_at_call 103; refine (callsIn_wide.2 (squares_any _ _ _)).mono ?_; rintro e w' ⟨rfl, rfl⟩))
  have hsz : ((((w.alloc (.cells #[.int .i64 1] 3)).alloc (.cells #[.int .i64 n] 3)).alloc (.cells #[.int .i64 A] 3)).alloc (.cells #[.int .i64 (lq n)] 3)).heap.size = w.heap.size + 4 := by simp
  refine wpIn_rangeFunc_cells rfl (by decide) (gf := 123) (lb := #[.pointer (some ⟨w.heap.size + 1 + 1 + 1, 0, none⟩), .pointer (some ⟨w.heap.size + 1 + 1, 0, none⟩)]) rfl trivial (enters_of Tryz.func123 (by kernel_rfl) rfl)
    (squares_seq 2 A (lq n) (w.heap.size + 1 + 1 + 1) (w.heap.size + 1 + 1) _ hA2 hlq (by omega) (by go_simp) (by go_simp) (by go_simp) (by go_simp)) (by rintro r (rfl | rfl) <;> rw [hsz] <;> omega) (fun _ => rfl)
    (fun pre W => (W.cell? ⟨w.heap.size, 0, none⟩ = some (.int .i64 (prodS pre)) ∧ W.frozen? ⟨w.heap.size, 0, none⟩ = false) ∧ Below w.heap.size w W)
    ?own ⟨⟨by go_simp; rfl, by go_simp⟩, ((((Below.refl _ w).alloc (Nat.le_refl _) _).alloc (by simp) _).alloc (by simp; omega) _).alloc (by simp; omega) _⟩
    (fun x => { tmps := #[.int .i64 A, .int .i64 n, undef, undef, .pointer (some ⟨w.heap.size, 0, none⟩), .int .i64 0, .int .i64 x.1.1, .bool x.1.2, .int .i64 A, .bool true, .bool false, .int .i64 A,
      .int .i64 n, .slice (some ⟨w.heap.size + 1, 0, none⟩) 1 1, .int .i64 (lq n), .func (.func 123) #[] #[.pointer (some ⟨w.heap.size + 1 + 1 + 1, 0, none⟩), .pointer (some ⟨w.heap.size + 1 + 1, 0, none⟩)],
      .int .i64 x.1.1, .bool x.1.2, undef, undef, undef, undef, undef, undef], defers := [] }) ?assign ?body ?done
  case own =>
    rintro s X Y row ⟨⟨hc, hf⟩, hb⟩ hg hr
    have hrow : ∀ r, row = some r → w.heap.size < r := by
      intro r e
      rcases hr r e with (rfl | rfl) | ⟨h, _⟩
      · omega
      · omega
      · rw [hsz] at h; omega
    have hne : some w.heap.size ≠ row := by intro e; have := hrow _ e.symm; omega
    have hlt := block_lt_of_cell hc
    exact ⟨⟨heap_of_cell_grown hg hc hne, (World.frozen?_of_block (w := X) (hg.block _ hlt hne)).trans hf⟩, hb.grown hg hb.size (fun k e => Nat.le_of_lt (hrow k e))⟩
  case assign =>
    intro l x W K hK
    gi_wp2
    exact hK
  case body =>
    rintro l pre x W ⟨⟨hc, hf⟩, hb⟩ _
    obtain ⟨⟨q, bt⟩, hq⟩ := x
    have hs := prodS_snoc pre ⟨(q, bt), hq⟩
    have hlt := prodS_lt pre
    have hm := mul_bd (show q < 2147483579 from hq) hlt
    obtain ⟨hm1, hm2⟩ := hm
    have hB := Seal.mk hb
    cases bt
    · have HS : Seal (prodS (pre ++ [⟨(q, false), hq⟩]) = prodS pre) := ⟨hs⟩
      clear hs hb
      gi_wp2
      exact ⟨KeepsOthers.refl _, fun _ _ => rfl, ⟨by rw [HS.out]; exact hc, hf⟩, hB.out⟩
    · have HS : Seal (prodS (pre ++ [⟨(q, true), hq⟩]) = prodS pre * q % P) := ⟨hs⟩
      clear hs hb
      gi_wp2
      refine ⟨KeepsOthers.setCell _ _ _, ?_, ⟨?_, ?_⟩, ?_⟩
      · rintro r hr
        exact Below.heap_setCell W _ _ r (by rcases hr with rfl | rfl <;> simp <;> omega)
      · rw [HS.out]
        refine (World.cell?_setCell_same' _ _ _ (by rw [hc]; rfl)).trans ?_
        go_num
      · rw [World.frozen?_setCell]; exact hf
      · exact hB.out.setCell (Nat.le_refl _) _
  case done =>
    rintro D xs W hD rfl ⟨⟨hc, hf⟩, hb⟩ hK
    have hlt := prodS_lt (sqs 64 A (lq n))
    have HP : Seal (prodS (sqs 64 A (lq n)) = pw A n) := ⟨prodS_sqs A (lq n) (by omega)⟩
    gi_wp2
    have hK' := (KeepsOthers.setCell W ⟨w.heap.size, 0, none⟩ (.int .i64 (prodS (sqs 64 A (lq n))))).same D _ hK rfl
    refine ⟨by simp, .inl ⟨_, _, rfl, run_takeDeferred hK', ?_⟩⟩
    have hc5 := cell_kept (World.cell?_setCell_same' W ⟨w.heap.size, 0, none⟩ (.int .i64 (prodS (sqs 64 A (lq n)))) (by rw [hc]; rfl)) (grownBy_putObj' _ D (.deferred none)) (fun r e => by cases e; exact ⟨_, hK', rfl⟩)
    refine ⟨.tuple #[.int .i64 (prodS (sqs 64 A (lq n))), .int .i64 0], ?_, ?_⟩
    · simp [results, Tryz.f86, go_sem, hc5]
    · rw [HP.out, hsz] at *
      exact ⟨rfl, (hb.setCell (p := ⟨w.heap.size, 0, none⟩) (Nat.le_refl _) _).trans (belowK_b (w := w) (Nat.le_refl _) _ D _ _ (by omega) hK' rfl rfl)⟩

end Frk
