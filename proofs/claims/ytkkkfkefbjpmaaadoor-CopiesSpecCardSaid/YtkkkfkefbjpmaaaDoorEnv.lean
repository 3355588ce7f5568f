/- What a law carries along: the tables, a text, blocks that it has made. -/
import Derived.Test.YtkkkfkefbjpmaaaDoorQpw
import Derived.Laws.StructEq
namespace Frk
open Go Go.RowKit Go.Proofs
set_option maxRecDepth 100000

structure Env (w : World) (a : Option Addr) (len cap : Nat) (b : Bytes) (bs : List (Nat × Obj)) : Prop where
  glob : Glob w
  isb : IsB w a len cap b
  keep : ∀ p ∈ bs, w.heap[p.1]? = some p.2

theorem Env.below {w w' : World} {a : Option Addr} {len cap : Nat} {b : Bytes} {bs : List (Nat × Obj)} (h : Env w a len cap b bs) (hb : Below w.heap.size w w') : Env w' a len cap b bs :=
  ⟨h.glob.below hb, h.isb.below hb, fun p hp => blk hb (Array.getElem?_eq_some_iff.1 (h.keep p hp)).1 (h.keep p hp)⟩

theorem Env.push {w : World} {a : Option Addr} {len cap : Nat} {b : Bytes} {bs : List (Nat × Obj)} (h : Env w a len cap b bs) (o : Obj) : Env (w.alloc o) a len cap b ((w.heap.size, o) :: bs) :=
  ⟨h.glob.below (below_alloc w o), h.isb.below (below_alloc w o), fun p hp => by
    rcases List.mem_cons.1 hp with rfl | hp
    · exact heap_alloc_new w o
    · exact blk (below_alloc w o) (Array.getElem?_eq_some_iff.1 (h.keep p hp)).1 (h.keep p hp)⟩

theorem Env.cell {w : World} {a : Option Addr} {len cap : Nat} {b : Bytes} {bs : List (Nat × Obj)} (h : Env w a len cap b bs) {g i : Nat} {cs : Array Value} {t : TypeId} {v : Value} (hp : (g, Obj.cells cs t) ∈ bs) (hi : cs[i]? = some v) : w.cell? ⟨g, i, none⟩ = some v := by
  rw [cell_of_row _ _ _ _ _ _ (h.keep _ hp)]; exact hi

theorem Env.lt {w : World} {a : Option Addr} {len cap : Nat} {b : Bytes} {bs : List (Nat × Obj)} (h : Env w a len cap b bs) {g : Nat} {o : Obj} (hp : (g, o) ∈ bs) : g < w.heap.size :=
  (Array.getElem?_eq_some_iff.1 (h.keep _ hp)).1

theorem Env.frozen {w : World} {a : Option Addr} {len cap : Nat} {b : Bytes} {bs : List (Nat × Obj)} (h : Env w a len cap b bs) {g i : Nat} {cs : Array Value} {t : TypeId} (hp : (g, Obj.cells cs t) ∈ bs) : w.frozen? ⟨g, i, none⟩ = false :=
  frozen_of_row _ _ _ _ _ (h.keep _ hp)

/-- another text -/
theorem Env.text {w : World} {a a' : Option Addr} {len cap len' cap' : Nat} {b b' : Bytes} {bs : List (Nat × Obj)} (h : Env w a len cap b bs) (hb : IsB w a' len' cap' b') : Env w a' len' cap' b' bs := ⟨h.glob, hb, h.keep⟩

theorem isB_nil (w : World) : IsB w none 0 0 [] := ⟨rfl, Nat.le_refl _, by decide, by decide, .inl rfl⟩
theorem isB_new (w : World) (l : Bytes) (n : Nat) (t : TypeId) (fr : Nat × Nat) (hl : l.length = n) (hn : n ≤ 140737488355328) : IsB (w.alloc (.cells (l.map B).toArray t fr)) (some ⟨w.heap.size, 0, none⟩) n n l :=
  ⟨hl, Nat.le_refl _, hn, by omega, .inr ⟨w.heap.size, 0, rfl, rangeAt_new w _ _ _, by rw [size_alloc]; omega⟩⟩

/-- two signatures held against each other -/
theorem eqSig (a b c d : Int) (w : World) : (Op.equalIn 10000 27 (.agg #[.int .i64 a, .int .i64 b]) (.agg #[.int .i64 c, .int .i64 d])).run Tryd.prog w = .ok (a == c && b == d) w := by
  have u3 := Tryd.underlying3
  have a3 := Tryd.isAgg3
  have z3 := Tryd.sizeOf3
  have hS : Tryd.prog.underlying 27 = some (.struct (Tryd.prog.fieldsOf 27)) := by kernel_rfl
  have hp : Tryd.prog.stoodInHeld 27 = false := by kernel_rfl
  rw [show (10000 : Nat) = 9999 + 1 from rfl, run_equalIn_agg w 9999 27 _ _ hS hp]
  simp only [Program.fieldsOf, Tryd.underlying27]
  go_simp
  by_cases h1 : a = c <;> by_cases h2 : b = d <;> simp [h1, h2]
theorem eqSig_same (a b : Int) (w : World) : (Op.equalIn 10000 27 (.agg #[.int .i64 a, .int .i64 b]) (.agg #[.int .i64 a, .int .i64 b])).run Tryd.prog w = .ok true w := by
  rw [eqSig]; simp
end Frk
