/- Parts of the proof, joined. -/
import Derived.Test.YtllbjakfjpjfnaaDoorVwgSig
import Derived.Laws.BitsLemmas
import Derived.Laws.StructEq
import Derived.Test.YtllbjakfjpjfnaaDoorVwDls
import Derived.DeepKeys
/- The program's sign: Verify. -/
namespace Frk
open Go Go.RowKit Go.Proofs
set_option maxRecDepth 100000

def inQ (x : Int) : Bool := decide (0 ≤ x) && decide (x < 1073741789)
/-- the point of a signature for a key -/
def sgPoint (key E S : Int) : Nat := mp (pw 4 S) (pw key.toNat (-E))
/-- is a signature right? -/
def vrB (key : Int) (b : Bytes) (E S : Int) : Bool := inQ E && inQ S && vd key && (E == (sgHash (sgPoint key E S) key b : Nat))

end Frk

/- Powers that can be reckoned. -/
namespace Frk

/-- a power, by squares -/
def pwq (a : Nat) (n : Int) : Nat := qpow P 31 a (lq n) 1
def sgHashQ (r key : Int) (b : Bytes) : Nat := sgHash r key b
def sgEQ (x : Int) (b : Bytes) : Nat := sgHash (pwq 4 (sgK x b)) (pwq 4 x) b
def sgSQ (x : Int) (b : Bytes) : Int := ((sgK x b : Int) + (sgEQ x b : Int) * x % 1073741789) % 1073741789
def sgPointQ (key E S : Int) : Nat := mp (pwq 4 S) (pwq key.toNat (-E))
def vrQ (key : Int) (b : Bytes) (E S : Int) : Bool := inQ E && inQ S && vd key && (E == (sgHash (sgPointQ key E S) key b : Nat))
end Frk

/- What a law carries along: the tables, a text, blocks that it has made. -/
namespace Frk
open Go Go.RowKit Go.Proofs
set_option maxRecDepth 100000

structure Env (w : World) (a : Option Addr) (len cap : Nat) (b : Bytes) (bs : List (Nat × Obj)) : Prop where
  glob : Glob w
  isb : IsB w a len cap b
  keep : ∀ p ∈ bs, w.heap[p.1]? = some p.2

theorem Env.below {w w' : World} {a : Option Addr} {len cap : Nat} {b : Bytes} {bs : List (Nat × Obj)} (h : Env w a len cap b bs) (hb : Below w.heap.size w w') : Env w' a len cap b bs :=
  ⟨h.glob.below hb, h.isb.below hb, fun p hp => blk hb (Array.getElem?_eq_some_iff.1 (h.keep p hp)).1 (h.keep p hp)⟩

theorem Env.push {w : World} {a : Option Addr} {len cap : Nat} {b : Bytes} {bs : List (Nat × Obj)} (h : Env w a len cap b bs) (o : Obj) : Env (w.alloc o) a len cap b ((w.heap.size, o) :: bs) :=
  ⟨h.glob.below (below_alloc w o), h.isb.below (below_alloc w o), fun p hp => by
    rcases List.mem_cons.1 hp with rfl | hp
    · exact heap_alloc_new w o
    · exact blk (below_alloc w o) (Array.getElem?_eq_some_iff.1 (h.keep p hp)).1 (h.keep p hp)⟩

theorem Env.cell {w : World} {a : Option Addr} {len cap : Nat} {b : Bytes} {bs : List (Nat × Obj)} (h : Env w a len cap b bs) {g i : Nat} {cs : Array Value} {t : TypeId} {v : Value} (hp : (g, Obj.cells cs t) ∈ bs) (hi : cs[i]? = some v) : w.cell? ⟨g, i, none⟩ = some v := by
  rw [cell_of_row _ _ _ _ _ _ (h.keep _ hp)]; exact hi

theorem Env.lt {w : World} {a : Option Addr} {len cap : Nat} {b : Bytes} {bs : List (Nat × Obj)} (h : Env w a len cap b bs) {g : Nat} {o : Obj} (hp : (g, o) ∈ bs) : g < w.heap.size :=
  (Array.getElem?_eq_some_iff.1 (h.keep _ hp)).1

theorem Env.frozen {w : World} {a : Option Addr} {len cap : Nat} {b : Bytes} {bs : List (Nat × Obj)} (h : Env w a len cap b bs) {g i : Nat} {cs : Array Value} {t : TypeId} (hp : (g, Obj.cells cs t) ∈ bs) : w.frozen? ⟨g, i, none⟩ = false :=
  frozen_of_row _ _ _ _ _ (h.keep _ hp)

/-- another text -/
theorem Env.text {w : World} {a a' : Option Addr} {len cap len' cap' : Nat} {b b' : Bytes} {bs : List (Nat × Obj)} (h : Env w a len cap b bs) (hb : IsB w a' len' cap' b') : Env w a' len' cap' b' bs := ⟨h.glob, hb, h.keep⟩

theorem isB_new (w : World) (l : Bytes) (n : Nat) (t : TypeId) (fr : Nat × Nat) (hl : l.length = n) (hn : n ≤ 140737488355328) : IsB (w.alloc (.cells (l.map B).toArray t fr)) (some ⟨w.heap.size, 0, none⟩) n n l :=
  ⟨hl, Nat.le_refl _, hn, by omega, .inr ⟨w.heap.size, 0, rfl, rangeAt_new w _ _ _, by rw [size_alloc]; omega⟩⟩

end Frk

/- Digests held against each other. -/
namespace Frk
open Go Go.RowKit Go.Proofs
set_option maxRecDepth 100000

theorem mapM_some {α β : Type} {f : α → Option β} {g : α → β} : ∀ (L : List α), (∀ x ∈ L, f x = some (g x)) → L.mapM f = some (L.map g)
  | [], _ => by simp
  | x :: L, h => by
    rw [List.mapM_cons, h x (by simp)]
    simp only [bind, Option.bind_some]
    rw [mapM_some L (fun y hy => h y (by simp [hy]))]
    rfl

theorem flatten_one {α β : Type} (f : α → β) : ∀ L : List α, (L.map fun i => [f i]).flatten = L.map f
  | [] => rfl
  | x :: L => by simp only [List.map_cons, List.flatten_cons, flatten_one f L]; rfl

theorem lits_u8 (a : Bytes) (n : Nat) (hn : a.length = n) :
    (List.range n).mapM (fun i => Tryd.prog.keyLits 1 5 (((a.map B).toArray.toList.drop (i * Tryd.prog.cellsOf 5)).take (Tryd.prog.cellsOf 5))) = some ((List.range n).map fun i => [Lit.int .u8 ((a.getD i 0).toNat : Int)]) := by
  have c1 : Tryd.prog.cellsOf 5 = 1 := by kernel_rfl
  apply mapM_some
  intro i hi
  have hlt : i < a.length := by rw [hn]; exact List.mem_range.1 hi
  rw [c1, Nat.mul_one]
  have e : ((a.map B).toArray.toList.drop i).take 1 = [B (a.getD i 0)] := by
    rw [show (a.map B).toArray.toList = a.map B from rfl, List.drop_eq_getElem_cons (by simpa using hlt), List.take_succ_cons, List.take_zero, List.getElem_map, List.getD_eq_getElem?_getD, List.getElem?_eq_getElem hlt]
    rfl
  rw [e]
  unfold Program.keyLits
  rw [Tryd.underlying5]
  have hb := UInt8.toNat_lt (a.getD i 0)
  have h1 : IntKind.u8.min = 0 := by decide
  have h2 : IntKind.u8.max = 255 := by decide
  have hw : (Lit.int .u8 ((a.getD i 0).toNat : Int)).wf = true := by
    simp only [Lit.wf, h1, h2]
    simp only [Bool.and_eq_true, decide_eq_true_eq]
    omega
  simp only []
  rw [if_pos ⟨trivial, hw⟩]

theorem eqAt_u8 : EqAt Tryd.prog 9999 5 := run_equalIn_deep 9998 1 5 (by kernel_rfl)

theorem eqDig (a b : Bytes) (ha : a.length = 32) (hb : b.length = 32) (w : World) :
    (Op.equalIn 10000 44 (.agg (a.map B).toArray) (.agg (b.map B).toArray)).run Tryd.prog w = .ok (a == b) w := by
  obtain ⟨i0, hi, _⟩ := info_parts info_u8
  rw [show (10000 : Nat) = 9999 + 1 from rfl, run_equalIn_array w 9999 _ _ Tryd.underlying44 hi]
  obtain ⟨r, hr, hiff⟩ := run_eqItems_deep w 9999 eqAt_u8 (a.map B).toArray (b.map B).toArray (List.range 32) _ _ (lits_u8 a 32 ha) (lits_u8 b 32 hb)
  rw [hr]
  congr 1
  have key : (((List.range 32).map fun i => [Lit.int .u8 ((a.getD i 0).toNat : Int)]).flatten = ((List.range 32).map fun i => [Lit.int .u8 ((b.getD i 0).toNat : Int)]).flatten) ↔ a = b := by
    constructor
    · intro h
      apply bytes_ext (by rw [ha, hb])
      intro j hj
      have e : ∀ c : Bytes, ((List.range 32).map fun i => [Lit.int .u8 ((c.getD i 0).toNat : Int)]).flatten = (List.range 32).map fun i => Lit.int .u8 ((c.getD i 0).toNat : Int) := by
        intro c
        exact flatten_one _ _
      rw [e, e] at h
      have h2 := congrArg (·[j]?) h
      simp only [List.getElem?_map, List.getElem?_range (show j < 32 by omega), Option.map_some, Option.some.injEq, Lit.int.injEq, true_and] at h2
      exact UInt8.toNat_inj.1 (by omega)
    · intro h; rw [h]
  cases r with
  | true => exact (beq_iff_eq.2 (key.1 (hiff.1 rfl))).symm
  | false =>
    symm
    rw [beq_eq_false_iff_ne]
    intro e
    have := hiff.2 (key.2 e)
    cases this
end Frk

