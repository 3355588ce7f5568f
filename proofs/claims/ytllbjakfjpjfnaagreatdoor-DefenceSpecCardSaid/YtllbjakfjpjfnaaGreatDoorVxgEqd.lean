/- Parts of the proof, joined. -/
import Derived.Test.YtllbjakfjpjfnaaGreatDoorVxgKit
import Derived.Test.YtllbjakfjpjfnaaGreatDoorVxgSig
import Derived.Laws.BitsLemmas
import Derived.Laws.StructEq
import Derived.DeepKeys
/- Lists of digests: order, membership, place. Plain. -/
namespace Frk

/-- the order of texts -/
def blt : Bytes → Bytes → Bool
  | [], [] => false
  | [], _ :: _ => true
  | _ :: _, [] => false
  | a :: s, b :: t => if a = b then blt s t else decide (a.toNat < b.toNat)

theorem blt_irrefl : ∀ a, blt a a = false
  | [] => rfl
  | a :: s => by simp [blt, blt_irrefl s]

theorem blt_trans : ∀ {a b c}, blt a b = true → blt b c = true → blt a c = true
  | [], b, c, h1, h2 => by
    cases b <;> cases c <;> simp_all [blt]
  | x :: s, [], c, h1, h2 => by simp [blt] at h1
  | x :: s, y :: t, [], h1, h2 => by simp [blt] at h2
  | x :: s, y :: t, z :: u, h1, h2 => by
    unfold blt at h1 h2 ⊢
    by_cases e1 : x = y
    · subst e1
      rw [if_pos rfl] at h1
      by_cases e2 : x = z
      · subst e2
        rw [if_pos rfl] at h2 ⊢
        exact blt_trans h1 h2
      · rw [if_neg e2] at h2 ⊢; exact h2
    · rw [if_neg e1] at h1
      have h1' := of_decide_eq_true h1
      by_cases e2 : y = z
      · subst e2
        rw [if_neg e1]; exact h1
      · rw [if_neg e2] at h2
        have h2' := of_decide_eq_true h2
        have e3 : x ≠ z := by intro e; subst e; omega
        rw [if_neg e3]
        exact decide_eq_true (by omega)

/-- at the first byte that differs -/
theorem blt_first : ∀ (i : Nat) {a b : Bytes}, a.length = b.length → i < a.length → (∀ j, j < i → a.getD j 0 = b.getD j 0) → a.getD i 0 ≠ b.getD i 0 → blt a b = decide ((a.getD i 0).toNat < (b.getD i 0).toNat)
  | _, [], _, _, h, _, _ => by simp at h
  | _, _ :: _, [], h, _, _, _ => by simp at h
  | 0, x :: s, y :: t, _, _, _, hne => by
    simp only [List.getD_cons_zero] at hne ⊢
    unfold blt
    rw [if_neg hne]
  | i + 1, x :: s, y :: t, hl, hi, he, hne => by
    have e0 : x = y := he 0 (by omega)
    subst e0
    simp only [List.getD_cons_succ] at hne ⊢
    unfold blt
    rw [if_pos rfl]
    exact blt_first i (by simpa using hl) (by simpa using hi) (fun j hj => by simpa using he (j + 1) (by omega)) hne

theorem bytes_ext {a b : Bytes} (hl : a.length = b.length) (h : ∀ j, j < a.length → a.getD j 0 = b.getD j 0) : a = b := by
  apply List.ext_getElem hl
  intro i h1 h2
  have := h i h1
  simpa [List.getD_eq_getElem?_getD, List.getElem?_eq_getElem h1, List.getElem?_eq_getElem h2] using this

/-- strictly increasing -/
def usedB : List Bytes → Bool
  | a :: b :: l => blt a b && usedB (b :: l)
  | _ => true

theorem usedB_iff : ∀ l : List Bytes, usedB l = true ↔ ∀ i, i + 1 < l.length → blt (l.getD i []) (l.getD (i + 1) []) = true
  | [] => by simp [usedB]
  | [a] => by simp [usedB]
  | a :: b :: l => by
    unfold usedB
    rw [Bool.and_eq_true, usedB_iff (b :: l)]
    constructor
    · rintro ⟨h1, h2⟩ i hi
      cases i with
      | zero => exact h1
      | succ i => exact h2 i (by simpa using hi)
    · intro h
      exact ⟨h 0 (by simp), fun i hi => h (i + 1) (by simpa using hi)⟩

theorem used_lt {l : List Bytes} (h : usedB l = true) : ∀ j i, i < j → j < l.length → blt (l.getD i []) (l.getD j []) = true := by
  have h' := (usedB_iff l).1 h
  intro j
  induction j with
  | zero => intro i hi; omega
  | succ j ih =>
    intro i hi hj
    by_cases e : i = j
    · subst e; exact h' i hj
    · exact blt_trans (ih i (by omega) (by omega)) (h' j hj)

def hasB (l : List Bytes) (d : Bytes) : Bool := l.contains d

/-- how many are less than d -/
def atB (l : List Bytes) (d : Bytes) : Nat := (l.takeWhile (fun x => blt x d)).length

theorem atB_le (l : List Bytes) (d : Bytes) : atB l d ≤ l.length := by
  unfold atB
  exact List.Sublist.length_le (List.takeWhile_sublist _)

theorem atB_lt : ∀ (l : List Bytes) (d : Bytes) (i : Nat), i < atB l d → blt (l.getD i []) d = true
  | [], d, i, h => by simp [atB] at h
  | x :: l, d, i, h => by
    unfold atB at h
    rw [List.takeWhile_cons] at h
    by_cases hx : blt x d = true
    · rw [if_pos hx] at h
      cases i with
      | zero => exact hx
      | succ i => exact atB_lt l d i (by unfold atB; simpa using h)
    · rw [if_neg hx] at h; simp at h

theorem atB_end : ∀ (l : List Bytes) (d : Bytes), atB l d < l.length → blt (l.getD (atB l d) []) d = false
  | [], d, h => by simp at h
  | x :: l, d, h => by
    unfold atB at h ⊢
    rw [List.takeWhile_cons] at h ⊢
    by_cases hx : blt x d = true
    · rw [if_pos hx] at h ⊢
      simp only [List.length_cons, List.getD_cons_succ] at h ⊢
      exact atB_end l d (by unfold atB; omega)
    · rw [if_neg hx]
      simpa using hx

/-- the place is the only one with the two sides -/
theorem atB_unique {l : List Bytes} {d : Bytes} {k : Nat} (hk : k ≤ l.length) (h1 : ∀ i, i < k → blt (l.getD i []) d = true) (h2 : k < l.length → blt (l.getD k []) d = false) : k = atB l d := by
  rcases Nat.lt_trichotomy k (atB l d) with h | h | h
  · have a := atB_lt l d k h
    rw [h2 (Nat.lt_of_lt_of_le h (atB_le l d))] at a
    exact absurd a (by decide)
  · exact h
  · have a := atB_end l d (by omega)
    rw [h1 _ h] at a
    exact absurd a (by decide)

theorem has_iff_at {l : List Bytes} {d : Bytes} (hu : usedB l = true) : hasB l d = true ↔ atB l d < l.length ∧ l.getD (atB l d) [] = d := by
  unfold hasB
  constructor
  · intro h
    have hm : d ∈ l := by simpa using h
    obtain ⟨i, hi, e⟩ := List.getElem_of_mem hm
    have hd : l.getD i [] = d := by rw [List.getD_eq_getElem?_getD, List.getElem?_eq_getElem hi]; simpa using e
    have : i = atB l d := atB_unique (Nat.le_of_lt hi) (fun j hj => by rw [← hd]; exact used_lt hu i j hj hi) (fun _ => by rw [hd]; exact blt_irrefl d)
    rw [← this]
    exact ⟨hi, hd⟩
  · rintro ⟨h1, h2⟩
    have : d ∈ l := by
      rw [← h2, List.getD_eq_getElem?_getD, List.getElem?_eq_getElem h1]
      exact List.getElem_mem h1
    simpa using this

/-- d put into its place -/
def putB (l : List Bytes) (d : Bytes) : List Bytes := l.take (atB l d) ++ d :: l.drop (atB l d)

theorem putB_length (l : List Bytes) (d : Bytes) : (putB l d).length = l.length + 1 := by
  have := atB_le l d
  simp [putB]; omega

/-- what is spent: the list behind, or none; and the error -/
inductive SpendR where
  | ok (l : List Bytes)
  | used
  | limit
  | wrong

def spendB (l : List Bytes) (d : Bytes) : SpendR := if usedB l = true then (if hasB l d = true then .used else if 4096 ≤ l.length then .limit else .ok (putB l d)) else .wrong

theorem mem_putB (l : List Bytes) (d x : Bytes) : x ∈ putB l d ↔ x = d ∨ x ∈ l := by
  unfold putB
  rw [List.mem_append, List.mem_cons]
  constructor
  · rintro (h | h | h)
    · exact .inr (List.mem_of_mem_take h)
    · exact .inl h
    · exact .inr (List.mem_of_mem_drop h)
  · rintro (h | h)
    · exact .inr (.inl h)
    · rw [← List.take_append_drop (atB l d) l, List.mem_append] at h
      rcases h with h | h
      · exact .inl h
      · exact .inr (.inr h)

theorem hasB_iff (l : List Bytes) (d : Bytes) : hasB l d = true ↔ d ∈ l := by unfold hasB; simp
end Frk

/- The program's sign: Verify. -/
namespace Frk
open Go Go.RowKit Go.Proofs
set_option maxRecDepth 100000

def inQ (x : Int) : Bool := decide (0 ≤ x) && decide (x < 1073741789)
/-- the point of a signature for a key -/
def sgPoint (key E S : Int) : Nat := mp (pw 4 S) (pw key.toNat (-E))
/-- is a signature right? -/
def vrB (key : Int) (b : Bytes) (E S : Int) : Bool := inQ E && inQ S && vd key && (E == (sgHash (sgPoint key E S) key b : Nat))

end Frk

/- Powers that can be reckoned. -/
namespace Frk

/-- a power, by squares -/
def pwq (a : Nat) (n : Int) : Nat := qpow P 31 a (lq n) 1
def sgHashQ (r key : Int) (b : Bytes) : Nat := sgHash r key b
def sgEQ (x : Int) (b : Bytes) : Nat := sgHash (pwq 4 (sgK x b)) (pwq 4 x) b
def sgSQ (x : Int) (b : Bytes) : Int := ((sgK x b : Int) + (sgEQ x b : Int) * x % 1073741789) % 1073741789
def sgPointQ (key E S : Int) : Nat := mp (pwq 4 S) (pwq key.toNat (-E))
def vrQ (key : Int) (b : Bytes) (E S : Int) : Bool := inQ E && inQ S && vd key && (E == (sgHash (sgPointQ key E S) key b : Nat))
end Frk

/- What a law carries along: the tables, a text, blocks that it has made. -/
namespace Frk
open Go Go.RowKit Go.Proofs
set_option maxRecDepth 100000

structure Env (w : World) (a : Option Addr) (len cap : Nat) (b : Bytes) (bs : List (Nat × Obj)) : Prop where
  glob : Glob w
  isb : IsB w a len cap b
  keep : ∀ p ∈ bs, w.heap[p.1]? = some p.2

theorem Env.below {w w' : World} {a : Option Addr} {len cap : Nat} {b : Bytes} {bs : List (Nat × Obj)} (h : Env w a len cap b bs) (hb : Below w.heap.size w w') : Env w' a len cap b bs :=
  ⟨h.glob.below hb, h.isb.below hb, fun p hp => blk hb (Array.getElem?_eq_some_iff.1 (h.keep p hp)).1 (h.keep p hp)⟩

theorem Env.push {w : World} {a : Option Addr} {len cap : Nat} {b : Bytes} {bs : List (Nat × Obj)} (h : Env w a len cap b bs) (o : Obj) : Env (w.alloc o) a len cap b ((w.heap.size, o) :: bs) :=
  ⟨h.glob.below (below_alloc w o), h.isb.below (below_alloc w o), fun p hp => by
    rcases List.mem_cons.1 hp with rfl | hp
    · exact heap_alloc_new w o
    · exact blk (below_alloc w o) (Array.getElem?_eq_some_iff.1 (h.keep p hp)).1 (h.keep p hp)⟩

theorem Env.cell {w : World} {a : Option Addr} {len cap : Nat} {b : Bytes} {bs : List (Nat × Obj)} (h : Env w a len cap b bs) {g i : Nat} {cs : Array Value} {t : TypeId} {v : Value} (hp : (g, Obj.cells cs t) ∈ bs) (hi : cs[i]? = some v) : w.cell? ⟨g, i, none⟩ = some v := by
  rw [cell_of_row _ _ _ _ _ _ (h.keep _ hp)]; exact hi

theorem Env.lt {w : World} {a : Option Addr} {len cap : Nat} {b : Bytes} {bs : List (Nat × Obj)} (h : Env w a len cap b bs) {g : Nat} {o : Obj} (hp : (g, o) ∈ bs) : g < w.heap.size :=
  (Array.getElem?_eq_some_iff.1 (h.keep _ hp)).1

theorem Env.frozen {w : World} {a : Option Addr} {len cap : Nat} {b : Bytes} {bs : List (Nat × Obj)} (h : Env w a len cap b bs) {g i : Nat} {cs : Array Value} {t : TypeId} (hp : (g, Obj.cells cs t) ∈ bs) : w.frozen? ⟨g, i, none⟩ = false :=
  frozen_of_row _ _ _ _ _ (h.keep _ hp)

/-- another text -/
theorem Env.text {w : World} {a a' : Option Addr} {len cap len' cap' : Nat} {b b' : Bytes} {bs : List (Nat × Obj)} (h : Env w a len cap b bs) (hb : IsB w a' len' cap' b') : Env w a' len' cap' b' bs := ⟨h.glob, hb, h.keep⟩

theorem isB_new (w : World) (l : Bytes) (n : Nat) (t : TypeId) (fr : Nat × Nat) (hl : l.length = n) (hn : n ≤ 140737488355328) : IsB (w.alloc (.cells (l.map B).toArray t fr)) (some ⟨w.heap.size, 0, none⟩) n n l :=
  ⟨hl, Nat.le_refl _, hn, by omega, .inr ⟨w.heap.size, 0, rfl, rangeAt_new w _ _ _, by rw [size_alloc]; omega⟩⟩

end Frk

/- Digests held against each other. -/
namespace Frk
open Go Go.RowKit Go.Proofs
set_option maxRecDepth 100000

theorem mapM_some {α β : Type} {f : α → Option β} {g : α → β} : ∀ (L : List α), (∀ x ∈ L, f x = some (g x)) → L.mapM f = some (L.map g)
  | [], _ => by simp
  | x :: L, h => by
    rw [List.mapM_cons, h x (by simp)]
    simp only [bind, Option.bind_some]
    rw [mapM_some L (fun y hy => h y (by simp [hy]))]
    rfl

theorem flatten_one {α β : Type} (f : α → β) : ∀ L : List α, (L.map fun i => [f i]).flatten = L.map f
  | [] => rfl
  | x :: L => by simp only [List.map_cons, List.flatten_cons, flatten_one f L]; rfl

theorem lits_u8 (a : Bytes) (n : Nat) (hn : a.length = n) :
    (List.range n).mapM (fun i => Tryz.prog.keyLits 1 5 (((a.map B).toArray.toList.drop (i * Tryz.prog.cellsOf 5)).take (Tryz.prog.cellsOf 5))) = some ((List.range n).map fun i => [Lit.int .u8 ((a.getD i 0).toNat : Int)]) := by
  have c1 : Tryz.prog.cellsOf 5 = 1 := by kernel_rfl
  apply mapM_some
  intro i hi
  have hlt : i < a.length := by rw [hn]; exact List.mem_range.1 hi
  rw [c1, Nat.mul_one]
  have e : ((a.map B).toArray.toList.drop i).take 1 = [B (a.getD i 0)] := by
    rw [show (a.map B).toArray.toList = a.map B from rfl, List.drop_eq_getElem_cons (by simpa using hlt), List.take_succ_cons, List.take_zero, List.getElem_map, List.getD_eq_getElem?_getD, List.getElem?_eq_getElem hlt]
    rfl
  rw [e]
  unfold Program.keyLits
  rw [Tryz.underlying5]
  have hb := UInt8.toNat_lt (a.getD i 0)
  have h1 : IntKind.u8.min = 0 := by decide
  have h2 : IntKind.u8.max = 255 := by decide
  have hw : (Lit.int .u8 ((a.getD i 0).toNat : Int)).wf = true := by
    simp only [Lit.wf, h1, h2]
    simp only [Bool.and_eq_true, decide_eq_true_eq]
    omega
  simp only []
  rw [if_pos ⟨trivial, hw⟩]

theorem eqAt_u8 : EqAt Tryz.prog 9999 5 := run_equalIn_deep 9998 1 5 (by kernel_rfl)

theorem eqDig (a b : Bytes) (ha : a.length = 32) (hb : b.length = 32) (w : World) :
    (Op.equalIn 10000 42 (.agg (a.map B).toArray) (.agg (b.map B).toArray)).run Tryz.prog w = .ok (a == b) w := by
  obtain ⟨i0, hi, _⟩ := info_parts info_u8
  rw [show (10000 : Nat) = 9999 + 1 from rfl, run_equalIn_array w 9999 _ _ Tryz.underlying42 hi]
  obtain ⟨r, hr, hiff⟩ := run_eqItems_deep w 9999 eqAt_u8 (a.map B).toArray (b.map B).toArray (List.range 32) _ _ (lits_u8 a 32 ha) (lits_u8 b 32 hb)
  rw [hr]
  congr 1
  have key : (((List.range 32).map fun i => [Lit.int .u8 ((a.getD i 0).toNat : Int)]).flatten = ((List.range 32).map fun i => [Lit.int .u8 ((b.getD i 0).toNat : Int)]).flatten) ↔ a = b := by
    constructor
    · intro h
      apply bytes_ext (by rw [ha, hb])
      intro j hj
      have e : ∀ c : Bytes, ((List.range 32).map fun i => [Lit.int .u8 ((c.getD i 0).toNat : Int)]).flatten = (List.range 32).map fun i => Lit.int .u8 ((c.getD i 0).toNat : Int) := by
        intro c
        exact flatten_one _ _
      rw [e, e] at h
      have h2 := congrArg (·[j]?) h
      simp only [List.getElem?_map, List.getElem?_range (show j < 32 by omega), Option.map_some, Option.some.injEq, Lit.int.injEq, true_and] at h2
      exact UInt8.toNat_inj.1 (by omega)
    · intro h; rw [h]
  cases r with
  | true => exact (beq_iff_eq.2 (key.1 (hiff.1 rfl))).symm
  | false =>
    symm
    rw [beq_eq_false_iff_ne]
    intro e
    have := hiff.2 (key.2 e)
    cases this
end Frk

