/- What a law carries along: the tables, a text, blocks that it has made. -/
import Derived.Test.YtkkkfkefbjpmaaaDoorVQpw
import Derived.Laws.StructEq
namespace Frk
open Go Go.RowKit Go.Proofs
set_option maxRecDepth 100000

structure Env (w : World) (a : Option Addr) (len cap : Nat) (b : Bytes) (bs : List (Nat × Obj)) : Prop where
  glob : Glob w
  isb : IsB w a len cap b
  keep : ∀ p ∈ bs, w.heap[p.1]? = some p.2

theorem Env.below {w w' : World} {a : Option Addr} {len cap : Nat} {b : Bytes} {bs : List (Nat × Obj)} (h : Env w a len cap b bs) (hb : Below w.heap.size w w') : Env w' a len cap b bs :=
  ⟨h.glob.below hb, h.isb.below hb, fun p hp => blk hb (Array.getElem?_eq_some_iff.1 (h.keep p hp)).1 (h.keep p hp)⟩

theorem Env.push {w : World} {a : Option Addr} {len cap : Nat} {b : Bytes} {bs : List (Nat × Obj)} (h : Env w a len cap b bs) (o : Obj) : Env (w.alloc o) a len cap b ((w.heap.size, o) :: bs) :=
  ⟨h.glob.below (below_alloc w o), h.isb.below (below_alloc w o), fun p hp => by
    rcases List.mem_cons.1 hp with rfl | hp
    · exact heap_alloc_new w o
    · exact blk (below_alloc w o) (Array.getElem?_eq_some_iff.1 (h.keep p hp)).1 (h.keep p hp)⟩

theorem Env.cell {w : World} {a : Option Addr} {len cap : Nat} {b : Bytes} {bs : List (Nat × Obj)} (h : Env w a len cap b bs) {g i : Nat} {cs : Array Value} {t : TypeId} {v : Value} (hp : (g, Obj.cells cs t) ∈ bs) (hi : cs[i]? = some v) : w.cell? ⟨g, i, none⟩ = some v := by
  rw [cell_of_row _ _ _ _ _ _ (h.keep _ hp)]; exact hi

theorem Env.lt {w : World} {a : Option Addr} {len cap : Nat} {b : Bytes} {bs : List (Nat × Obj)} (h : Env w a len cap b bs) {g : Nat} {o : Obj} (hp : (g, o) ∈ bs) : g < w.heap.size :=
  (Array.getElem?_eq_some_iff.1 (h.keep _ hp)).1

theorem Env.frozen {w : World} {a : Option Addr} {len cap : Nat} {b : Bytes} {bs : List (Nat × Obj)} (h : Env w a len cap b bs) {g i : Nat} {cs : Array Value} {t : TypeId} (hp : (g, Obj.cells cs t) ∈ bs) : w.frozen? ⟨g, i, none⟩ = false :=
  frozen_of_row _ _ _ _ _ (h.keep _ hp)

/-- another text -/
theorem Env.text {w : World} {a a' : Option Addr} {len cap len' cap' : Nat} {b b' : Bytes} {bs : List (Nat × Obj)} (h : Env w a len cap b bs) (hb : IsB w a' len' cap' b') : Env w a' len' cap' b' bs := ⟨h.glob, hb, h.keep⟩

theorem isB_nil (w : World) : IsB w none 0 0 [] := ⟨rfl, Nat.le_refl _, by decide, by decide, .inl rfl⟩
end Frk
