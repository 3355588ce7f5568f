/- What is kept while a law's walk makes new memory; law 44's contracts in the form that a law's walk takes. -/
import Derived.Test.YtnpnboldjbljaaaDoorVfDpo
import Derived.Test.YtnpnboldjbljaaaDoorVfDow
import Derived.Test.YtnpnboldjbljaaaDoorVfDtk
namespace Frk
open Go Go.RowKit Go.Proofs
set_option maxRecDepth 100000

/-- Φ holds now and later, as long as what is here stays -/
def Kp (w : World) (Φ : World → Prop) : Prop := ∀ W, Below w.heap.size w W → Φ W
theorem Kp.step {w w' : World} {Φ : World → Prop} (h : Kp w Φ) (hb : Below w.heap.size w w') : Kp w' Φ := fun W hW => h W (hb.trans (hW.mono hb.size))
theorem Kp.at {w : World} {Φ : World → Prop} (h : Kp w Φ) : Φ w := h w (Below.refl _ _)
theorem Kp.mono {w : World} {Φ Ψ : World → Prop} (h : Kp w Φ) (hi : ∀ W, Φ W → Ψ W) : Kp w Ψ := fun W hW => hi W (h W hW)
theorem kp_isC {α : Type} {C : α → List Value} {z : Nat} {w : World} {a : Option Addr} {n c : Nat} {l : List α} (h : IsC C z w a n c l) : Kp w (fun W => IsC C z W a n c l) := fun _ hW => h.below hW
theorem kp_isD {w : World} {a : Option Addr} {n c : Nat} {l : List Bytes} (h : IsD w a n c l) : Kp w (fun W => IsD W a n c l) := fun _ hW => h.of_heap hW

def DevC (g : Nat) (pa : Option Addr) (pn pc : Nat) (ga : Option Addr) (gn gc : Nat) (D : Dv) (W : World) : Prop :=
  W.rangeAt g 0 [.slice pa pn pc, .slice ga gn gc] ∧ IsPs W pa pn pc D.P ∧ (∀ x ∈ D.P, x.S.length = 32) ∧ IsIs W ga gn gc D.G
def PosC (g : Nat) (C : List Value) (W : World) : Prop := W.rangeAt g 0 C
theorem kp_range {w : World} {g o : Nat} {cs : List Value} (h : w.rangeAt g o cs) : Kp w (fun W => W.rangeAt g o cs) := fun _ hW => rangeAt_below' h hW
theorem kp_dev {w : World} {g : Nat} {pa ga : Option Addr} {pn pc gn gc : Nat} {D : Dv} (h : w.heap[g]? = some (.cells #[.slice pa pn pc, .slice ga gn gc] 25 (0, 0))) (hP : IsPs w pa pn pc D.P) (h32 : ∀ x ∈ D.P, x.S.length = 32) (hG : IsIs w ga gn gc D.G) : Kp w (DevC g pa pn pc ga gn gc D) :=
  fun _ hW => ⟨rangeAt_below' (rangeAt_row (cs := [.slice pa pn pc, .slice ga gn gc]) h) hW, hP.below hW, h32, hG.below hW⟩
theorem kp_pos {w : World} {g : Nat} {C : List Value} {t : TypeId} (h : w.heap[g]? = some (.cells C.toArray t (0, 0))) : Kp w (PosC g C) := fun _ hW => rangeAt_below' (rangeAt_row h) hW
theorem isC_z {α : Type} (C : α → List Value) (z : Nat) (w : World) : IsC C z w none 0 0 ([] : List α) := ⟨rfl, Nat.le_refl _, by decide, by decide, by simp, .inl rfl⟩

theorem posz_len : ((List.toArray (.int .i64 0 :: .int .u8 0 :: .int .u8 0 :: .int .u8 0 :: .int .u8 0 :: .int .u8 0 :: .int .u8 0 :: .int .u8 0 :: .int .u8 0 :: .int .u8 0 :: .int .u8 0 :: .int .u8 0 :: .int .u8 0 :: .int .u8 0 :: .int .u8 0 :: .int .u8 0 :: .int .u8 0 :: .int .u8 0 :: .int .u8 0 :: .int .u8 0 :: .int .u8 0 :: .int .u8 0 :: .int .u8 0 :: .int .u8 0 :: .int .u8 0 :: .int .u8 0 :: .int .u8 0 :: .int .u8 0 :: .int .u8 0 :: .int .u8 0 :: .int .u8 0 :: .int .u8 0 :: .int .u8 0 :: [] : List Value) : Array Value) : Array Value).size = 33 := rfl
/-- two new blocks, written at once -/
theorem two_new (w : World) (A : Array Value) (C : List Value) :
    ((w.alloc (.cells #[.slice none 0 0, .slice none 0 0] 25)).alloc (.cells (List.toArray (.int .i64 0 :: .int .u8 0 :: .int .u8 0 :: .int .u8 0 :: .int .u8 0 :: .int .u8 0 :: .int .u8 0 :: .int .u8 0 :: .int .u8 0 :: .int .u8 0 :: .int .u8 0 :: .int .u8 0 :: .int .u8 0 :: .int .u8 0 :: .int .u8 0 :: .int .u8 0 :: .int .u8 0 :: .int .u8 0 :: .int .u8 0 :: .int .u8 0 :: .int .u8 0 :: .int .u8 0 :: .int .u8 0 :: .int .u8 0 :: .int .u8 0 :: .int .u8 0 :: .int .u8 0 :: .int .u8 0 :: .int .u8 0 :: .int .u8 0 :: .int .u8 0 :: .int .u8 0 :: .int .u8 0 :: [] : List Value) : Array Value) 31)).heap[w.heap.size]? = some (.cells #[.slice none 0 0, .slice none 0 0] 25 (0, 0)) ∧
    (((w.alloc (.cells #[.slice none 0 0, .slice none 0 0] 25)).alloc (.cells (List.toArray (.int .i64 0 :: .int .u8 0 :: .int .u8 0 :: .int .u8 0 :: .int .u8 0 :: .int .u8 0 :: .int .u8 0 :: .int .u8 0 :: .int .u8 0 :: .int .u8 0 :: .int .u8 0 :: .int .u8 0 :: .int .u8 0 :: .int .u8 0 :: .int .u8 0 :: .int .u8 0 :: .int .u8 0 :: .int .u8 0 :: .int .u8 0 :: .int .u8 0 :: .int .u8 0 :: .int .u8 0 :: .int .u8 0 :: .int .u8 0 :: .int .u8 0 :: .int .u8 0 :: .int .u8 0 :: .int .u8 0 :: .int .u8 0 :: .int .u8 0 :: .int .u8 0 :: .int .u8 0 :: .int .u8 0 :: [] : List Value) : Array Value) 31)).setRow w.heap.size A).heap[w.heap.size + 1]? = some (.cells (List.toArray (.int .i64 0 :: .int .u8 0 :: .int .u8 0 :: .int .u8 0 :: .int .u8 0 :: .int .u8 0 :: .int .u8 0 :: .int .u8 0 :: .int .u8 0 :: .int .u8 0 :: .int .u8 0 :: .int .u8 0 :: .int .u8 0 :: .int .u8 0 :: .int .u8 0 :: .int .u8 0 :: .int .u8 0 :: .int .u8 0 :: .int .u8 0 :: .int .u8 0 :: .int .u8 0 :: .int .u8 0 :: .int .u8 0 :: .int .u8 0 :: .int .u8 0 :: .int .u8 0 :: .int .u8 0 :: .int .u8 0 :: .int .u8 0 :: .int .u8 0 :: .int .u8 0 :: .int .u8 0 :: .int .u8 0 :: [] : List Value) : Array Value) 31 (0, 0)) ∧
    ((((w.alloc (.cells #[.slice none 0 0, .slice none 0 0] 25)).alloc (.cells (List.toArray (.int .i64 0 :: .int .u8 0 :: .int .u8 0 :: .int .u8 0 :: .int .u8 0 :: .int .u8 0 :: .int .u8 0 :: .int .u8 0 :: .int .u8 0 :: .int .u8 0 :: .int .u8 0 :: .int .u8 0 :: .int .u8 0 :: .int .u8 0 :: .int .u8 0 :: .int .u8 0 :: .int .u8 0 :: .int .u8 0 :: .int .u8 0 :: .int .u8 0 :: .int .u8 0 :: .int .u8 0 :: .int .u8 0 :: .int .u8 0 :: .int .u8 0 :: .int .u8 0 :: .int .u8 0 :: .int .u8 0 :: .int .u8 0 :: .int .u8 0 :: .int .u8 0 :: .int .u8 0 :: .int .u8 0 :: [] : List Value) : Array Value) 31)).setRow w.heap.size A).setRow (w.heap.size + 1) C.toArray).heap[w.heap.size]? = some (.cells A 25 (0, 0)) ∧
    ((((w.alloc (.cells #[.slice none 0 0, .slice none 0 0] 25)).alloc (.cells (List.toArray (.int .i64 0 :: .int .u8 0 :: .int .u8 0 :: .int .u8 0 :: .int .u8 0 :: .int .u8 0 :: .int .u8 0 :: .int .u8 0 :: .int .u8 0 :: .int .u8 0 :: .int .u8 0 :: .int .u8 0 :: .int .u8 0 :: .int .u8 0 :: .int .u8 0 :: .int .u8 0 :: .int .u8 0 :: .int .u8 0 :: .int .u8 0 :: .int .u8 0 :: .int .u8 0 :: .int .u8 0 :: .int .u8 0 :: .int .u8 0 :: .int .u8 0 :: .int .u8 0 :: .int .u8 0 :: .int .u8 0 :: .int .u8 0 :: .int .u8 0 :: .int .u8 0 :: .int .u8 0 :: .int .u8 0 :: [] : List Value) : Array Value) 31)).setRow w.heap.size A).setRow (w.heap.size + 1) C.toArray).heap[w.heap.size + 1]? = some (.cells C.toArray 31 (0, 0)) ∧
    Below w.heap.size w ((((w.alloc (.cells #[.slice none 0 0, .slice none 0 0] 25)).alloc (.cells (List.toArray (.int .i64 0 :: .int .u8 0 :: .int .u8 0 :: .int .u8 0 :: .int .u8 0 :: .int .u8 0 :: .int .u8 0 :: .int .u8 0 :: .int .u8 0 :: .int .u8 0 :: .int .u8 0 :: .int .u8 0 :: .int .u8 0 :: .int .u8 0 :: .int .u8 0 :: .int .u8 0 :: .int .u8 0 :: .int .u8 0 :: .int .u8 0 :: .int .u8 0 :: .int .u8 0 :: .int .u8 0 :: .int .u8 0 :: .int .u8 0 :: .int .u8 0 :: .int .u8 0 :: .int .u8 0 :: .int .u8 0 :: .int .u8 0 :: .int .u8 0 :: .int .u8 0 :: .int .u8 0 :: .int .u8 0 :: [] : List Value) : Array Value) 31)).setRow w.heap.size A).setRow (w.heap.size + 1) C.toArray) := by
  have h1 := heap_alloc2_old w (.cells #[.slice none 0 0, .slice none 0 0] 25) (.cells (List.toArray (.int .i64 0 :: .int .u8 0 :: .int .u8 0 :: .int .u8 0 :: .int .u8 0 :: .int .u8 0 :: .int .u8 0 :: .int .u8 0 :: .int .u8 0 :: .int .u8 0 :: .int .u8 0 :: .int .u8 0 :: .int .u8 0 :: .int .u8 0 :: .int .u8 0 :: .int .u8 0 :: .int .u8 0 :: .int .u8 0 :: .int .u8 0 :: .int .u8 0 :: .int .u8 0 :: .int .u8 0 :: .int .u8 0 :: .int .u8 0 :: .int .u8 0 :: .int .u8 0 :: .int .u8 0 :: .int .u8 0 :: .int .u8 0 :: .int .u8 0 :: .int .u8 0 :: .int .u8 0 :: .int .u8 0 :: [] : List Value) : Array Value) 31)
  have h2 := heap_alloc2_new w (.cells #[.slice none 0 0, .slice none 0 0] 25) (.cells (List.toArray (.int .i64 0 :: .int .u8 0 :: .int .u8 0 :: .int .u8 0 :: .int .u8 0 :: .int .u8 0 :: .int .u8 0 :: .int .u8 0 :: .int .u8 0 :: .int .u8 0 :: .int .u8 0 :: .int .u8 0 :: .int .u8 0 :: .int .u8 0 :: .int .u8 0 :: .int .u8 0 :: .int .u8 0 :: .int .u8 0 :: .int .u8 0 :: .int .u8 0 :: .int .u8 0 :: .int .u8 0 :: .int .u8 0 :: .int .u8 0 :: .int .u8 0 :: .int .u8 0 :: .int .u8 0 :: .int .u8 0 :: .int .u8 0 :: .int .u8 0 :: .int .u8 0 :: .int .u8 0 :: .int .u8 0 :: [] : List Value) : Array Value) 31)
  have h3 : (((w.alloc (.cells #[.slice none 0 0, .slice none 0 0] 25)).alloc (.cells (List.toArray (.int .i64 0 :: .int .u8 0 :: .int .u8 0 :: .int .u8 0 :: .int .u8 0 :: .int .u8 0 :: .int .u8 0 :: .int .u8 0 :: .int .u8 0 :: .int .u8 0 :: .int .u8 0 :: .int .u8 0 :: .int .u8 0 :: .int .u8 0 :: .int .u8 0 :: .int .u8 0 :: .int .u8 0 :: .int .u8 0 :: .int .u8 0 :: .int .u8 0 :: .int .u8 0 :: .int .u8 0 :: .int .u8 0 :: .int .u8 0 :: .int .u8 0 :: .int .u8 0 :: .int .u8 0 :: .int .u8 0 :: .int .u8 0 :: .int .u8 0 :: .int .u8 0 :: .int .u8 0 :: .int .u8 0 :: [] : List Value) : Array Value) 31)).setRow w.heap.size A).heap[w.heap.size + 1]? = some (.cells (List.toArray (.int .i64 0 :: .int .u8 0 :: .int .u8 0 :: .int .u8 0 :: .int .u8 0 :: .int .u8 0 :: .int .u8 0 :: .int .u8 0 :: .int .u8 0 :: .int .u8 0 :: .int .u8 0 :: .int .u8 0 :: .int .u8 0 :: .int .u8 0 :: .int .u8 0 :: .int .u8 0 :: .int .u8 0 :: .int .u8 0 :: .int .u8 0 :: .int .u8 0 :: .int .u8 0 :: .int .u8 0 :: .int .u8 0 :: .int .u8 0 :: .int .u8 0 :: .int .u8 0 :: .int .u8 0 :: .int .u8 0 :: .int .u8 0 :: .int .u8 0 :: .int .u8 0 :: .int .u8 0 :: .int .u8 0 :: [] : List Value) : Array Value) 31 (0, 0)) := (heap_setRow_ne (by omega)).trans h2
  exact ⟨h1, h3, (heap_setRow_ne (by omega)).trans (setRow_heap _ _ _ _ _ _ h1), setRow_heap _ _ _ _ _ _ h3, below_row (below_row (((Below.refl _ w).alloc (Nat.le_refl _) _).alloc (by simp) _) (Nat.le_refl _) _) (by omega) _⟩
theorem one_new (w : World) (A : Array Value) :
    (w.alloc (.cells #[.slice none 0 0, .slice none 0 0] 25)).heap[w.heap.size]? = some (.cells #[.slice none 0 0, .slice none 0 0] 25 (0, 0)) ∧
    ((w.alloc (.cells #[.slice none 0 0, .slice none 0 0] 25)).setRow w.heap.size A).heap[w.heap.size]? = some (.cells A 25 (0, 0)) ∧
    Below w.heap.size w ((w.alloc (.cells #[.slice none 0 0, .slice none 0 0] 25)).setRow w.heap.size A) :=
  ⟨heap_alloc_new w _, setRow_heap _ _ _ _ _ _ (heap_alloc_new w _), below_row (below_alloc _ _) (Nat.le_refl _) _⟩

def PostC (D : Dv) (C : List Value) (er : Int) (w : World) (e : Ending) (w' : World) : Prop :=
  ∃ pa pn pc ga gn gc, e = .returned (.tuple #[.agg #[.slice pa pn pc, .slice ga gn gc], .agg C.toArray, .int .i64 er]) ∧ Seal (IsPs w' pa pn pc D.P ∧ (∀ x ∈ D.P, x.S.length = 32) ∧ IsIs w' ga gn gc D.G) ∧ Below w.heap.size w w'
theorem post_c {P : Program} {f : FuncId} {args : Array Value} {w : World} {D : Dv} {p : Po} {C : List Value} {er : Int} (h : Calls P f args w (PostPost D p er w)) (hC : C = p.C) : Calls P f args w (PostC D C er w) :=
  h.mono fun e w' ⟨v1, v2, he, hd, hb⟩ => by
    obtain ⟨pa, pn, pc, ga, gn, gc, rfl, rfl, hP, h32, hG⟩ := hd.out
    exact ⟨pa, pn, pc, ga, gn, gc, by rw [he, hC], ⟨hP, h32, hG⟩, hb⟩
def DevsC (D : Dv) (er : Int) (w : World) (e : Ending) (w' : World) : Prop :=
  ∃ pa pn pc ga gn gc, e = .returned (.tuple #[.agg #[.slice pa pn pc, .slice ga gn gc], .int .i64 er]) ∧ Seal (IsPs w' pa pn pc D.P ∧ (∀ x ∈ D.P, x.S.length = 32) ∧ IsIs w' ga gn gc D.G) ∧ Below w.heap.size w w'
theorem dev_c {P : Program} {f : FuncId} {args : Array Value} {w : World} {D : Dv} {er : Int} (h : Calls P f args w (DevPost D er w)) : Calls P f args w (DevsC D er w) :=
  h.mono fun e w' ⟨v1, v2, he, hd, hb⟩ => by
    obtain ⟨pa, pn, pc, ga, gn, gc, rfl, rfl, hP, h32, hG⟩ := hd.out
    exact ⟨pa, pn, pc, ga, gn, gc, he, ⟨hP, h32, hG⟩, hb⟩
def OwedC (l : List Int) (er : Int) (w : World) (e : Ending) (w' : World) : Prop :=
  ∃ a n c, e = .returned (.tuple #[.slice a n c, .int .i64 er]) ∧ Seal (IsIs w' a n c l) ∧ Below w.heap.size w w'
theorem owed_c {P : Program} {f : FuncId} {args : Array Value} {w : World} {D : Dv} (h : Calls P f args w (OwedPost D w)) (hn : D.P.length ≤ 5000) : Calls P f args w (OwedC (if chkD D = 0 then owedL D else []) (chkD D) w) :=
  h.mono fun e w' ⟨v, he, hh⟩ => by
    have hl : (if chkD D = 0 then owedL D else []).length ≤ 5000 := by
      split
      · unfold owedL
        have := List.length_filter_le (fun n => !hasK idI D.G n) (D.P.map Po.o)
        rw [List.length_map] at this
        omega
      · simp
    have ho := hh.out.1
    rw [← intC_flat] at ho
    obtain ⟨a, c, rfl, hi⟩ := isC_own ho (fun x _ => rfl) rfl hl
    exact ⟨a, _, c, he, ⟨hi⟩, hh.out.2⟩
end Frk
