/- Parts of the proof, joined. -/
import Derived.Test.YtnpnboldjbljaaaDoorVeNum
import Derived.Test.YtnpnboldjbljaaaDoorVegKit
import Derived.Test.YtnpnboldjbljaaaDoorProg
import Derived.BigQuiet
import Derived.Lib.Hide
import Derived.Deep.LoopGhost
import Derived.WalkMore
import Derived.RangeFuncNested
import Derived.RangeFuncBound
import Derived.RangeFuncCalls
import Derived.RangeFuncLeaves
import Derived.Laws.BitsAllLaws
import Derived.Laws.BitsLemmas
import Derived.Shelf.Abstract
import Derived.Shelf.RegionOpen
import Derived.OwnWalkIn
import Derived.TacticsInMore
import Derived.LoopNIn
import Derived.LoopIn
import Derived.Test.YtnpnboldjbljaaaDoorVegCod
import Derived.Test.YtnpnboldjbljaaaDoorVegEnf
import Derived.Lib.BufferRead
import Derived.Laws.StructEq
/- The group of squares modulo P: powers, elements, inverses; and numbers modulo Q. -/
namespace Frk

def P : Nat := 2147483579
def Q : Nat := 1073741789

theorem P_eq : P = 2 * Q + 1 := rfl
theorem P_pos : 0 < P := by decide
theorem one_lt_P : 1 < P := by decide
theorem prime_P : Prime P := primeP
/-- an element -/
def Vd (x : Nat) : Prop := 0 < x ∧ x < P ∧ x ^ Q % P = 1

theorem not_dvd_of_lt {x : Nat} (h0 : 0 < x) (h1 : x < P) : ¬ P ∣ x := fun h => by have := Nat.le_of_dvd h0 h; omega

theorem char_of {x : Nat} (h0 : 0 < x) (h1 : x < P) : x ^ Q % P = if up x P % 2 = 0 then 1 else P - 1 :=
  euler prime_P P_eq (by decide) (not_dvd_of_lt h0 h1)

/-- x is an element exactly if its character is even -/
theorem vd_iff_up {x : Nat} (h0 : 0 < x) (h1 : x < P) : Vd x ↔ up x P % 2 = 0 := by
  unfold Vd
  rw [char_of h0 h1]
  constructor
  · rintro ⟨_, _, h⟩
    split at h
    · assumption
    · exact absurd h (by decide)
  · intro h
    exact ⟨h0, h1, by rw [if_pos h]⟩

theorem pow_mod' (a n : Nat) (p : Nat) : (a % p) ^ n % p = a ^ n % p := (Nat.pow_mod a n p).symm

theorem Vd.mul {a b : Nat} (ha : Vd a) (hb : Vd b) : Vd (a * b % P) := by
  refine ⟨?_, Nat.mod_lt _ P_pos, ?_⟩
  · rcases Nat.eq_zero_or_pos (a * b % P) with e | e
    · exfalso
      rcases prime_P.dvd_mul (Nat.dvd_of_mod_eq_zero e) with h | h
      · exact not_dvd_of_lt ha.1 ha.2.1 h
      · exact not_dvd_of_lt hb.1 hb.2.1 h
    · exact e
  · rw [pow_mod', Nat.mul_pow, Nat.mul_mod, ha.2.2, hb.2.2]; decide

theorem vd_one : Vd 1 := ⟨by decide, by decide, by rw [Nat.one_pow]; decide⟩

theorem Vd.pow {a : Nat} (ha : Vd a) : ∀ n, Vd (a ^ n % P)
  | 0 => by rw [Nat.pow_zero, Nat.mod_eq_of_lt one_lt_P]; exact vd_one
  | n + 1 => by
    have h := (Vd.pow ha n).mul ha
    rw [Nat.pow_succ, Nat.mul_mod, Nat.mod_eq_of_lt ha.2.1]
    exact h

/-- the least number that is not negative and congruent to n -/
def lq (n : Int) : Nat := (n % (Q : Int)).toNat

/-- a to the power of a number that may be negative -/
def pw (a : Nat) (n : Int) : Nat := a ^ lq n % P

theorem Vd.pw {a : Nat} (ha : Vd a) (n : Int) : Vd (pw a n) := ha.pow _

/-- products modulo P -/
def mp (a b : Nat) : Nat := a * b % P
theorem Vd.mp {a b : Nat} (ha : Vd a) (hb : Vd b) : Vd (mp a b) := ha.mul hb

/-! ## what is opposite -/

/-! ## powers, quickly -/

/-- a to the power of n, modulo P, by squares -/
def qpow (p : Nat) : Nat → Nat → Nat → Nat → Nat
  | 0, _, _, c => c
  | f + 1, a, n, c => if n = 0 then c else qpow p f (a * a % p) (n / 2) (if n % 2 = 1 then c * a % p else c)

theorem qpow_spec (p : Nat) : ∀ f a n c, n < 2 ^ f → c < p → qpow p f a n c = c * a ^ n % p
  | 0, a, n, c, hn, hc => by
    have : n = 0 := by simp at hn; exact hn
    subst this
    rw [qpow, Nat.pow_zero, Nat.mul_one, Nat.mod_eq_of_lt hc]
  | f + 1, a, n, c, hn, hc => by
    unfold qpow
    by_cases h : n = 0
    · rw [if_pos h, h, Nat.pow_zero, Nat.mul_one, Nat.mod_eq_of_lt hc]
    · rw [if_neg h, qpow_spec p f _ _ _ (by rw [Nat.pow_succ] at hn; omega) (by split; exact Nat.mod_lt _ (by omega); exact hc)]
      have e : (a * a % p) ^ (n / 2) % p = a ^ (2 * (n / 2)) % p := by
        rw [pow_mod', ← Nat.pow_two, ← Nat.pow_mul]
      rw [Nat.mul_mod, e]
      split
      · rename_i h1
        rw [Nat.mod_mod, ← Nat.mul_mod, Nat.mul_assoc, ← Nat.pow_succ', show (2 * (n / 2)).succ = n from by omega]
      · rename_i h1
        rw [← Nat.mul_mod, show 2 * (n / 2) = n from by omega]

theorem pow_eq_qpow {a n : Nat} (hn : n < 2 ^ 31) : a ^ n % P = qpow P 31 a n 1 := by
  rw [qpow_spec P 31 a n 1 hn one_lt_P, Nat.one_mul]

/-- is x an element? (to be reckoned) -/
def vd (x : Int) : Bool := decide (0 < x) && decide (x < (P : Int)) && (qpow P 31 x.toNat Q 1 == 1)

theorem vd_iff (x : Nat) : vd (x : Int) = true ↔ Vd x := by
  unfold vd Vd
  rw [Int.toNat_natCast, ← pow_eq_qpow (by decide)]
  simp only [Bool.and_eq_true, decide_eq_true_eq, beq_iff_eq]
  omega

end Frk

/- The group: what the reference's power and Valid, and the program's least and Valid, compute. -/
namespace Frk
open Go Go.RowKit Go.Proofs
set_option maxRecDepth 100000

/-- a to the power of n, modulo P -/
def pwn (a n : Nat) : Nat := a ^ n % P

end Frk

/- The program's group.Valid computes whether a number is an element (by reciprocity). -/
namespace Frk
open Go Go.RowKit Go.Proofs
set_option maxRecDepth 100000

def par (x n : Nat) : Bool := up x n % 2 == 0

theorem par_one (n : Nat) (h : n % 2 = 1) : par 1 n = true := by unfold par; rw [up_one n h]; rfl

theorem par_half (x n : Nat) (hn : n % 2 = 1) (hx : x % 2 = 0) (hc : Nat.gcd x n = 1) (sq : Bool) :
    (sq == par x n) = ((if n % 8 = 3 ∨ n % 8 = 5 then !sq else sq) == par (x / 2) n) := by
  have h := up_half x n hn hx hc
  unfold par
  split at h <;> rename_i h8
  · rw [if_pos h8]
    cases sq <;> rw [Bool.eq_iff_iff] <;> simp <;> omega
  · rw [if_neg h8]
    cases sq <;> rw [Bool.eq_iff_iff] <;> simp <;> omega

theorem gcd_half (x n : Nat) (h : Nat.gcd x n = 1) : Nat.gcd (x / 2) n = 1 ∨ x % 2 = 1 := by
  by_cases hx : x % 2 = 1
  · exact .inr hx
  · left
    obtain ⟨y, rfl⟩ : ∃ y, x = 2 * y := ⟨x / 2, by omega⟩
    rw [show 2 * y / 2 = y from by omega]
    exact Nat.Coprime.coprime_mul_left h

/-- what holds at the head of both loops -/
structure VInv (v : Bool) (x n : Nat) (sq : Bool) : Prop where
  pos : 0 < x
  odd : n % 2 = 1
  gcd : Nat.gcd x n = 1
  val : (sq == par x n) = v

theorem VInv.half {v : Bool} {x n : Nat} {sq : Bool} (h : VInv v x n sq) (hx : x % 2 = 0) : VInv v (x / 2) n (if n % 8 = 3 ∨ n % 8 = 5 then !sq else sq) :=
  ⟨by have := h.pos; omega, h.odd, (gcd_half x n h.gcd).resolve_right (by omega), by rw [← par_half x n h.odd hx h.gcd]; exact h.val⟩

theorem VInv.one {v : Bool} {n : Nat} {sq : Bool} (h : VInv v 1 n sq) : sq = v := by
  have := h.val
  rw [par_one n h.odd] at this
  cases sq <;> simpa using this

theorem VInv.start {x : Nat} (h0 : 0 < x) (h1 : x < 2147483579) : VInv (vd x) x 2147483579 true := by
  refine ⟨h0, rfl, prime_P.gcd (not_dvd_of_lt h0 h1), ?_⟩
  rw [Bool.eq_iff_iff, vd_iff, vd_iff_up h0 h1]
  unfold par
  simp
  rfl

def VRel (v : Bool) (K : Nat) (a b c : Value) : Prop := ∃ (x n : Nat) (sq : Bool), x < K ∧ n ≤ K ∧ a = .int .i64 x ∧ b = .int .i64 n ∧ c = .bool sq ∧ Seal (VInv v x n sq)
def VRin (v : Bool) (n x : Nat) (a c : Value) : Prop := ∃ (x' : Nat) (sq' : Bool), x' ≤ x ∧ a = .int .i64 x' ∧ c = .bool sq' ∧ Seal (VInv v x' n sq')

end Frk

/- A range over a function whose iterator keeps its state in cells of its own: the law for the caller. -/
namespace Frk
open Go Go.RowKit

/-- what an iterator that never is stopped promises; its own cells lie in the blocks of which mine holds -/
def SeqCells {α : Type} (F : Fence) (n : Nat) (P : Program) (g : Nat) (lb : Array Value) (encs : α → Array Value) (mine : Nat → Prop) (S : List α → Prop) (N : Nat) (w : World) : Prop :=
  ∀ (l : Nat) (J : List α → World → Prop) (W : World), Below w.heap.size w W →
    (∀ s A B row, J s A → A.grownBy B row → (∀ r, row = some r → mine r) → J s B) →
    (∀ pre x W1, J pre W1 → pre.length < N → YieldAt F (n - 1) P l (encs x) W1 fun e W' =>
      e = .returned (.bool true) ∧ J (pre ++ [x]) W' ∧ ∀ r, mine r → W'.heap[r]? = W1.heap[r]?) →
    J [] W →
    CallsIn F n P g (#[.func (.yield l) #[] #[]] ++ lb) W fun e W' => (∃ v, e = .returned v) ∧ ∃ xs, S xs ∧ J xs W'

/-- how a round's body is left -/
def cellsPost {α : Type} (mine : Nat → Prop) (I : List α → World → Prop) (xs : List α) (W : World) : Exit → Act → World → Prop
  | .normal, _, W' => KeepsOthers W W' ∧ (∀ r, mine r → W'.heap[r]? = W.heap[r]?) ∧ I xs W'
  | _, _, _ => False

variable {F : Fence} {n : Nat} {P : Program}

end Frk

/- The program's least, squares, Pow and Mul compute numbers modulo Q, powers and products of the group. -/
namespace Frk
open Go Go.RowKit Go.Proofs
set_option maxRecDepth 100000
attribute [local go_sem] Oper.semAt_some

/-! ## the squares of a number, with the bits of an exponent -/
abbrev Sq := { p : Nat × Bool // p.1 < 2147483579 }
def sqs : Nat → Nat → Nat → List Sq
  | 0, _, _ => []
  | f + 1, a, n => if n = 0 then [] else ⟨(a % P, n % 2 == 1), Nat.mod_lt _ P_pos⟩ :: sqs f (a * a % P) (n / 2)
def mulS (c : Nat) (x : Sq) : Nat := if x.1.2 then c * x.1.1 % P else c
def prodS (l : List Sq) : Nat := l.foldl mulS 1
abbrev encSq (p : Sq) : Array Value := #[.int .i64 p.1.1, .bool p.1.2]

theorem heap_of_cell_grown {A B : World} {row : Option Nat} (g : A.grownBy B row) {b : Nat} {v : Value} (hc : A.cell? ⟨b, 0, none⟩ = some v) (hb : some b ≠ row) : B.cell? ⟨b, 0, none⟩ = some v :=
  (World.cell?_of_block (w := A) (g.block b (block_lt_of_cell hc) hb)).trans hc

def SqRel (J : List Sq → World → Prop) (a n bn ba : Nat) (W : World) : Prop :=
  ∃ (pre : List Sq) (f a' n' : Nat), pre ++ sqs f a' n' = sqs 64 a n ∧ n' < 2 ^ f ∧ a' < 2147483579 ∧ n' < 1073741789 ∧ J pre W ∧
    W.cell? ⟨bn, 0, none⟩ = some (.int .i64 n') ∧ W.frozen? ⟨bn, 0, none⟩ = false ∧ W.cell? ⟨ba, 0, none⟩ = some (.int .i64 a') ∧ W.frozen? ⟨ba, 0, none⟩ = false

theorem SqRel.next {J : List Sq → World → Prop} {a n bn ba : Nat} {W : World} (hne : bn ≠ ba) (hJ : ∀ (s : List Sq) (A B : World) (row : Option Nat), J s A → A.grownBy B row → (∀ (r : Nat), row = some r → r = bn ∨ r = ba) → J s B)
    {pre : List Sq} {f a' n' : Nat} (hS : pre ++ sqs f a' n' = sqs 64 a n ∧ n' < 2 ^ f) (ha : a' < 2147483579) (hn : n' < 1073741789) (hJp : J pre W) {v u : Value}
    (hcn : W.cell? ⟨bn, 0, none⟩ = some v) (hfn : W.frozen? ⟨bn, 0, none⟩ = false) (hca : W.cell? ⟨ba, 0, none⟩ = some u) (hfa : W.frozen? ⟨ba, 0, none⟩ = false) :
    SqRel J a n bn ba ((W.setCell ⟨ba, 0, none⟩ (.int .i64 a')).setCell ⟨bn, 0, none⟩ (.int .i64 n')) ∧
      ((W.setCell ⟨ba, 0, none⟩ (.int .i64 a')).setCell ⟨bn, 0, none⟩ (.int .i64 n')).cell? ⟨bn, 0, none⟩ = some (.int .i64 n') := by
  have g1 : W.grownBy (W.setCell ⟨ba, 0, none⟩ (.int .i64 a')) (some ba) := grown_setCell (grown_of_below (Below.refl _ W) _) _ _
  have g2 : (W.setCell ⟨ba, 0, none⟩ (.int .i64 a')).grownBy ((W.setCell ⟨ba, 0, none⟩ (.int .i64 a')).setCell ⟨bn, 0, none⟩ (.int .i64 n')) (some bn) := grown_setCell (grown_of_below (Below.refl _ _) _) _ _
  have c1 : (W.setCell ⟨ba, 0, none⟩ (.int .i64 a')).cell? ⟨ba, 0, none⟩ = some (.int .i64 a') := World.cell?_setCell_same' _ _ _ (by rw [hca]; rfl)
  have c2 : (W.setCell ⟨ba, 0, none⟩ (.int .i64 a')).cell? ⟨bn, 0, none⟩ = some v := heap_of_cell_grown g1 hcn (by intro e; cases e; exact hne rfl)
  have c3 : ((W.setCell ⟨ba, 0, none⟩ (.int .i64 a')).setCell ⟨bn, 0, none⟩ (.int .i64 n')).cell? ⟨bn, 0, none⟩ = some (.int .i64 n') := World.cell?_setCell_same' _ _ _ (by rw [c2]; rfl)
  exact ⟨⟨pre, f, a', n', hS.1, hS.2, ha, hn, hJ _ _ _ _ (hJ _ _ _ _ hJp g1 (fun r e => by cases e; exact .inr rfl)) g2 (fun r e => by cases e; exact .inl rfl), c3,
    by rw [World.frozen?_setCell, World.frozen?_setCell]; exact hfn, heap_of_cell_grown g2 c1 (by intro e; cases e; exact hne rfl), by rw [World.frozen?_setCell, World.frozen?_setCell]; exact hfa⟩, c3⟩

end Frk

/- The program's Mul and Hash, and what the packages sign and blind make of them. -/
namespace Frk
open Go Go.RowKit Go.Proofs
set_option maxRecDepth 100000

/-- the first bytes of a hash as a number -/
def hpre (l : Bytes) : Nat → Nat
  | 0 => 0
  | k + 1 => hpre l k * 256 + (l.getD k 0).toNat

def mask0 (l : Bytes) : Bytes := l.set 0 (UInt8.ofNat ((l.getD 0 0).toNat % 128))

end Frk

/- The program's sign: list, power, Sign, Verify. -/
namespace Frk
open Go Go.RowKit Go.Proofs
set_option maxRecDepth 100000

theorem IsB.below {w w' : World} {a : Option Addr} {len cap : Nat} {l : Bytes} (h : IsB w a len cap l) (hb : Below w.heap.size w w') : IsB w' a len cap l :=
  ⟨h.llen, h.lcap, h.lmax, h.cmax, by
    rcases h.at_ with h | ⟨g, off, e, hr, hg⟩
    · exact .inl h
    · exact .inr ⟨g, off, e, rangeAt_below' hr hb, Nat.lt_of_lt_of_le hg hb.size⟩⟩

theorem IsB.conv {w : World} {a : Option Addr} {len cap : Nat} {l : Bytes} (h : IsB w a len cap l) :
    (convert 80 9 (.slice a len cap)).run Tryd.prog w = .ok (.string ⟨l.toArray⟩) w := by
  rcases h.at_ with rfl | ⟨g, off, rfl, hr, hg⟩
  · have e : l = [] := List.eq_nil_of_length_eq_zero h.llen
    subst e
    cases a with
    | some a => exact run_convert_bytes_back (P := Tryd.prog) w 80 9 5 a cap [] Tryd.underlying80 Tryd.underlying5 Tryd.underlying9 (fun j hj => absurd hj (by simp))
    | none => exact Lib.run_convert_nil_bytes w 80 9 5 cap Tryd.underlying80 Tryd.underlying5 Tryd.underlying9
  · have := run_convert_bytes_back (P := Tryd.prog) w 80 9 5 ⟨g, off, none⟩ cap l Tryd.underlying80 Tryd.underlying5 Tryd.underlying9 (fun j hj => by
      rw [Addr.add_mid]; exact hr j _ (by rw [List.getElem?_map, List.getElem?_eq_getElem hj]; rfl))
    rwa [h.llen] at this

/-- what list is called with -/
inductive Arg where
  | i (n : Int)
  | s (a : Option Addr) (len cap : Nat) (b : Bytes)

def Arg.val : Arg → Value
  | .i n => .iface 3 (.int .i64 n)
  | .s a len cap _ => .iface 80 (.slice a len cap)
def Arg.lf : Arg → Lf
  | .i n => .i n
  | .s _ _ _ b => .t b
def Arg.ok (w : World) : Arg → Prop
  | .i n => -9223372036854775808 ≤ n ∧ n ≤ 9223372036854775807
  | .s a len cap b => IsB w a len cap b
theorem Arg.ok.below {w w' : World} {x : Arg} (h : x.ok w) (hb : Below w.heap.size w w') : x.ok w' := by
  cases x with
  | i n => exact h
  | s a len cap b => exact IsB.below h hb
theorem Arg.ok.fits {w : World} {x : Arg} (h : x.ok w) : x.lf.fits := by
  cases x with
  | i n => exact h
  | s a len cap b =>
    have h' : IsB w a len cap b := h
    have := h'.lmax
    have := h'.llen
    show b.length < 2 ^ 63
    omega

theorem info_val : (Tryd.prog.info? 78).map (fun i => (i.zero, i.size, i.bytes)) = some (some (.agg #[.int .i64 0, .int .i64 0, .string ByteArray.empty, .slice none 0 0]), 4, 56) := by kernel_rfl

def leafCells (xs : List Arg) : List Value := xs.flatMap fun x => x.lf.cells
theorem leafCells_at : ∀ (xs : List Arg) (k : Nat) (x : Arg), xs[k]? = some x → ∀ (j : Nat) (c : Value), x.lf.cells[j]? = some c → (leafCells xs)[k * 4 + j]? = some c
  | [], k, x, h, _, _, _ => by simp at h
  | y :: xs, 0, x, h, j, c, hc => by
    have e : y = x := by simpa using h
    subst e
    unfold leafCells
    rw [List.flatMap_cons, Nat.zero_mul, Nat.zero_add, List.getElem?_append_left (List.getElem?_eq_some_iff.1 hc).1]
    exact hc
  | y :: xs, k + 1, x, h, j, c, hc => by
    have := leafCells_at xs k x (by simpa using h) j c hc
    unfold leafCells at *
    have hl : y.lf.cells.length = 4 := by cases y <;> rfl
    rw [List.flatMap_cons, List.getElem?_append_right (by omega), hl, show (k + 1) * 4 + j - 4 = k * 4 + j from by omega]
    exact this
theorem leafCells_take (xs : List Arg) (k : Nat) (x : Arg) (h : xs[k]? = some x) : leafCells (xs.take (k + 1)) = leafCells (xs.take k) ++ x.lf.cells := by
  obtain ⟨hk, rfl⟩ := List.getElem?_eq_some_iff.1 h
  unfold leafCells
  rw [List.take_succ_eq_append_getElem hk, List.flatMap_append]
  simp

/-- where the loop of list stands -/
def ListRel (xs : List Arg) (w0 : World) (i : Value) (w : World) : Prop :=
  ∃ (j : Nat) (v : Value), j ≤ xs.length ∧ i = .int .i64 j ∧ Seal (w.heap[w0.heap.size]? = some (.cells #[.int .i64 3, .int .i64 0, .string ByteArray.empty, v] 78)) ∧
    Seal (w.ownsRow (w0.heap.size + 1) 78 4 v j (leafCells (xs.take j))) ∧ Seal (Below w0.heap.size w0 w)

theorem ListRel.next {xs : List Arg} {x : Arg} {w0 wr w1 : World} {j g1 cap1 : Nat} {v : Value} {o : Obj} (hj : j < xs.length) (HT : leafCells (xs.take (j + 1)) = leafCells (xs.take j) ++ x.lf.cells) (hb : Below w0.heap.size w0 wr)
    (hr1 : w1.heap[w0.heap.size]? = some (.cells #[.int .i64 3, .int .i64 0, .string ByteArray.empty, v] 78))
    (hown : wr.ownsRow (w0.heap.size + 1) 78 4 v j (leafCells (xs.take j))) (hg : (wr.alloc o).grownBy w1 v.ownBlock) (hbs : w0.heap.size < wr.heap.size)
    (hown1 : w1.ownsRow (w0.heap.size + 1) 78 4 (.slice (some ⟨g1, 0, none⟩) (j + 1) cap1) (j + 1) (leafCells (xs.take j) ++ x.lf.cells)) :
    ListRel xs w0 (.int .i64 ((j + 1 : Nat) : Int)) (w1.setCell ⟨w0.heap.size, 3, none⟩ (.slice (some ⟨g1, 0, none⟩) (j + 1) cap1)) := by
  refine ⟨j + 1, .slice (some ⟨g1, 0, none⟩) (j + 1) cap1, hj, rfl, ⟨?_⟩, ⟨?_⟩, ⟨?_⟩⟩
  · exact heap_setCell_row (cs := [.int .i64 3, .int .i64 0, .string ByteArray.empty, v]) _ hr1
  · rw [HT]
    refine hown1.kept (row := some w0.heap.size) (grown_setCell (grown_of_below (Below.refl _ w1) _) _ _) (.inr ?_)
    intro e
    have := (hown1.lt _ e).1
    omega
  · have h1 : Below w0.heap.size (wr.alloc o) w1 := ⟨hg.os, hg.tape, hg.output, hg.size, fun k hk => hg.block k (by rw [size_alloc]; omega) (fun e => by have := (hown.lt k e.symm).1; omega)⟩
    exact ((hb.alloc (by omega) o).trans h1).setCell (p := ⟨w0.heap.size, 3, none⟩) (Nat.le_refl _) _

end Frk

/- The program's sign: power, Sign, Verify. -/
namespace Frk
open Go Go.RowKit Go.Proofs
set_option maxRecDepth 100000

/-- what list leaves -/
def ListPost (l : Bytes) (w : World) (e : Ending) (w' : World) : Prop := ∃ g' n' cap', Seal (l.length = n') ∧
      e = .returned (.slice (some ⟨g', 0, none⟩) n' cap') ∧ Seal (n' ≤ cap' ∧ cap' ≤ 9223372036854775807 ∧ g' < w'.heap.size ∧ w'.rangeAt g' 0 (l.map B) ∧ Below w.heap.size w w')

theorem encL_length (xs : List Lf) : (encL xs).length ≤ wgts xs + 11 := by
  have h1 := encs_length xs
  have h2 := numF_length 10 xs.length
  simp [encL, numeral]; omega

/-! ## signatures -/
def tNonce : Bytes := [110, 111, 110, 99, 101]
def tSign : Bytes := [115, 105, 103, 110]
/-- the hash of a point, a key and a text -/
def sgHash (r key : Int) (b : Bytes) : Nat := ghash tSign (encL [.i r, .i key, .t b])
def sgK (x : Int) (b : Bytes) : Nat := max (ghash tNonce (encL [.i x, .t b])) 1
def sgE (x : Int) (b : Bytes) : Nat := sgHash (pw 4 (sgK x b)) (pw 4 x) b
def sgS (x : Int) (b : Bytes) : Int := ((sgK x b : Int) + (sgE x b : Int) * x % 1073741789) % 1073741789

theorem blk {w w' : World} {n b : Nat} {o : Obj} (h : Below n w w') (hb : b < n) (ho : w.heap[b]? = some o) : w'.heap[b]? = some o := (h.block b hb).trans ho

end Frk

/- The program's sign: Verify. -/
namespace Frk
open Go Go.RowKit Go.Proofs
set_option maxRecDepth 100000

def inQ (x : Int) : Bool := decide (0 ≤ x) && decide (x < 1073741789)
/-- the point of a signature for a key -/
def sgPoint (key E S : Int) : Nat := mp (pw 4 S) (pw key.toNat (-E))
/-- is a signature right? -/
def vrB (key : Int) (b : Bytes) (E S : Int) : Bool := inQ E && inQ S && vd key && (E == (sgHash (sgPoint key E S) key b : Nat))

end Frk

/- Powers that can be reckoned. -/
namespace Frk

/-- a power, by squares -/
def pwq (a : Nat) (n : Int) : Nat := qpow P 31 a (lq n) 1
def sgHashQ (r key : Int) (b : Bytes) : Nat := sgHash r key b
def sgEQ (x : Int) (b : Bytes) : Nat := sgHash (pwq 4 (sgK x b)) (pwq 4 x) b
def sgSQ (x : Int) (b : Bytes) : Int := ((sgK x b : Int) + (sgEQ x b : Int) * x % 1073741789) % 1073741789
def sgPointQ (key E S : Int) : Nat := mp (pwq 4 S) (pwq key.toNat (-E))
def vrQ (key : Int) (b : Bytes) (E S : Int) : Bool := inQ E && inQ S && vd key && (E == (sgHash (sgPointQ key E S) key b : Nat))
end Frk

/- What a law carries along: the tables, a text, blocks that it has made. -/
namespace Frk
open Go Go.RowKit Go.Proofs
set_option maxRecDepth 100000

structure Env (w : World) (a : Option Addr) (len cap : Nat) (b : Bytes) (bs : List (Nat × Obj)) : Prop where
  glob : Glob w
  isb : IsB w a len cap b
  keep : ∀ p ∈ bs, w.heap[p.1]? = some p.2

theorem Env.below {w w' : World} {a : Option Addr} {len cap : Nat} {b : Bytes} {bs : List (Nat × Obj)} (h : Env w a len cap b bs) (hb : Below w.heap.size w w') : Env w' a len cap b bs :=
  ⟨h.glob.below hb, h.isb.below hb, fun p hp => blk hb (Array.getElem?_eq_some_iff.1 (h.keep p hp)).1 (h.keep p hp)⟩

theorem Env.push {w : World} {a : Option Addr} {len cap : Nat} {b : Bytes} {bs : List (Nat × Obj)} (h : Env w a len cap b bs) (o : Obj) : Env (w.alloc o) a len cap b ((w.heap.size, o) :: bs) :=
  ⟨h.glob.below (below_alloc w o), h.isb.below (below_alloc w o), fun p hp => by
    rcases List.mem_cons.1 hp with rfl | hp
    · exact heap_alloc_new w o
    · exact blk (below_alloc w o) (Array.getElem?_eq_some_iff.1 (h.keep p hp)).1 (h.keep p hp)⟩

theorem Env.cell {w : World} {a : Option Addr} {len cap : Nat} {b : Bytes} {bs : List (Nat × Obj)} (h : Env w a len cap b bs) {g i : Nat} {cs : Array Value} {t : TypeId} {v : Value} (hp : (g, Obj.cells cs t) ∈ bs) (hi : cs[i]? = some v) : w.cell? ⟨g, i, none⟩ = some v := by
  rw [cell_of_row _ _ _ _ _ _ (h.keep _ hp)]; exact hi

theorem Env.lt {w : World} {a : Option Addr} {len cap : Nat} {b : Bytes} {bs : List (Nat × Obj)} (h : Env w a len cap b bs) {g : Nat} {o : Obj} (hp : (g, o) ∈ bs) : g < w.heap.size :=
  (Array.getElem?_eq_some_iff.1 (h.keep _ hp)).1

theorem Env.frozen {w : World} {a : Option Addr} {len cap : Nat} {b : Bytes} {bs : List (Nat × Obj)} (h : Env w a len cap b bs) {g i : Nat} {cs : Array Value} {t : TypeId} (hp : (g, Obj.cells cs t) ∈ bs) : w.frozen? ⟨g, i, none⟩ = false :=
  frozen_of_row _ _ _ _ _ (h.keep _ hp)

/-- another text -/
theorem Env.text {w : World} {a a' : Option Addr} {len cap len' cap' : Nat} {b b' : Bytes} {bs : List (Nat × Obj)} (h : Env w a len cap b bs) (hb : IsB w a' len' cap' b') : Env w a' len' cap' b' bs := ⟨h.glob, hb, h.keep⟩

theorem isB_new (w : World) (l : Bytes) (n : Nat) (t : TypeId) (fr : Nat × Nat) (hl : l.length = n) (hn : n ≤ 140737488355328) : IsB (w.alloc (.cells (l.map B).toArray t fr)) (some ⟨w.heap.size, 0, none⟩) n n l :=
  ⟨hl, Nat.le_refl _, hn, by omega, .inr ⟨w.heap.size, 0, rfl, rangeAt_new w _ _ _, by rw [size_alloc]; omega⟩⟩

end Frk

