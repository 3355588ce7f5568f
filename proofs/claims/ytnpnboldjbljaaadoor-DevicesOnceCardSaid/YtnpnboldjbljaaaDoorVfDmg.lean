/- Law 44: merged, and what Collect makes of it. -/
import Derived.Test.YtnpnboldjbljaaaDoorVfMgi
import Derived.Deep.Onto
namespace Frk
open Go Go.RowKit Go.Proofs
set_option maxRecDepth 100000

/-- what merged has made -/
structure MgdP (w : World) (l r : List Po) (pa pb pc : Nat) (tc : TypeId) (rd : Nat → Prop) (W : World) : Prop where
  mr : MR pa pb pc rd W
  ba : BoxC Po.C 33 22 rd W pa l
  bb : BoxC Po.C 33 22 rd W pb r
  bc : W.heap[pc]? = some (.cells #[.func (.func 40) #[] #[]] tc (0, 0))
  la : w.heap.size ≤ pa
  lb : w.heap.size ≤ pb
  bel : Below w.heap.size w W
set_option maxHeartbeats 2000000 in
theorem pmerged_any (a b : Option Addr) (n c m d : Nat) (l r : List Po) (w : World) (hl : IsPs w a n c l) (hr : IsPs w b m d r) :
    Calls Tryd.prog 51 #[.slice a n c, .slice b m d, .func (.func 40) #[] #[]] w fun e W => ∃ pa pb pc tc rd, e = .returned (.func (.func 78) #[] #[.pointer (some ⟨pa, 0, none⟩), .pointer (some ⟨pb, 0, none⟩), .pointer (some ⟨pc, 0, none⟩)]) ∧ Seal (MgdP w l r pa pb pc tc rd W) := by
  have HL := Seal.mk hl
  have HR := Seal.mk hr
  clear hl hr
  go_enter Tryd.func51, Tryd.ntmps51
  go_wp2
  go_ret
  refine ⟨_, _, _, 73, fun k => k = w.heap.size + 1 + 1 ∨ (0 < n ∧ ∃ o, a = some ⟨k, o, none⟩) ∨ (0 < m ∧ ∃ o, b = some ⟨k, o, none⟩), rfl, ⟨?_⟩⟩
  have lta : ∀ k, (0 < n ∧ ∃ o, a = some ⟨k, o, none⟩) → k < w.heap.size := fun k h => by
    obtain ⟨h0, o, e⟩ := h
    rcases HL.out.at_ with h1 | ⟨g, o', e', _, hg⟩
    · omega
    · rw [e] at e'; cases e'; exact hg
  have ltb : ∀ k, (0 < m ∧ ∃ o, b = some ⟨k, o, none⟩) → k < w.heap.size := fun k h => by
    obtain ⟨h0, o, e⟩ := h
    rcases HR.out.at_ with h1 | ⟨g, o', e', _, hg⟩
    · omega
    · rw [e] at e'; cases e'; exact hg
  have hb : ∀ (x y z : Obj), Below w.heap.size w (((w.alloc x).alloc y).alloc z) := fun x y z => (((Below.refl _ w).alloc (Nat.le_refl _) _).alloc (by simp) _).alloc (by simp; omega) _
  have h0 : ∀ (x y z : Obj), (((w.alloc x).alloc y).alloc z).heap[w.heap.size]? = some x := fun x y z => by
    rw [Below.heap_alloc _ _ _ (by simp; omega), Below.heap_alloc _ _ _ (by simp)]
    exact World.alloc_heap_new w x
  have h1 : ∀ (x y z : Obj), (((w.alloc x).alloc y).alloc z).heap[w.heap.size + 1]? = some y := fun x y z => by
    rw [Below.heap_alloc _ _ _ (by simp)]
    have := World.alloc_heap_new (w.alloc x) y
    rwa [size_alloc] at this
  have h2 : ∀ (x y z : Obj), (((w.alloc x).alloc y).alloc z).heap[w.heap.size + 1 + 1]? = some z := fun x y z => by
    have := World.alloc_heap_new ((w.alloc x).alloc y) z
    rwa [size_alloc, size_alloc] at this
  refine ⟨⟨by omega, ?_, ?_, .inl rfl, ?_⟩, ⟨a, n, c, h0 _ _ _, HL.out.below (hb _ _ _), fun g o hz e => .inr (.inl ⟨hz, o, e⟩)⟩, ⟨b, m, d, h1 _ _ _, HR.out.below (hb _ _ _), fun g o hz e => .inr (.inr ⟨hz, o, e⟩)⟩, h2 _ _ _, Nat.le_refl _, Nat.le_succ _, hb _ _ _⟩
  · rintro (e | h | h)
    · omega
    · have := lta _ h; omega
    · have := ltb _ h; omega
  · rintro (e | h | h)
    · omega
    · have := lta _ h; omega
    · have := ltb _ h; omega
  · rintro k ((e | h | h) | (e | e))
    · simp; omega
    · have := lta _ h; simp; omega
    · have := ltb _ h; simp; omega
    · simp; omega
    · simp; omega
theorem pcoll_any (l r : List Po) (pa pb pc : Nat) (tc : TypeId) (rd : Nat → Prop) (w W : World) (h : MgdP w l r pa pb pc tc rd W) (hn : l.length + r.length ≤ 20000) :
    Calls Tryd.prog 50 #[.func (.func 78) #[] #[.pointer (some ⟨pa, 0, none⟩), .pointer (some ⟨pb, 0, none⟩), .pointer (some ⟨pc, 0, none⟩)]] W fun e w' => ∃ v, e = .returned v ∧ Seal (w'.ownsRow w.heap.size 31 33 v (mrgK Po.o l r).length ((mrgK Po.o l r).flatMap Po.C) ∧ Below w.heap.size w w') := by
  refine (pcollect_any 78 _ (mineP pa pb) rd (fun xs => xs = mrgK Po.o l r) (l.length + r.length) W hn (fun k hk => h.mr.lt k (hk.elim .inr .inl)) (fun X hX => ?_) (enters_of Tryd.func78 (by kernel_rfl) rfl)).mono ?_
  · have hm := h.mr
    exact pmerged_own 2 pa pb pc tc rd l r X ⟨hm.ab, hm.ra, hm.rb, hm.rc, fun k hk => Nat.lt_of_lt_of_le (hm.lt k hk) hX.size⟩ (h.ba.same (hX.block _ (hm.lt _ (.inr (.inl rfl)))) (fun k _ hl => hX.block k hl) hX.size) (h.bb.same (hX.block _ (hm.lt _ (.inr (.inr rfl)))) (fun k _ hl => hX.block k hl) hX.size) ((hX.block _ (hm.lt _ (.inl hm.rc))).trans h.bc)
  · rintro e w' ⟨xs, v, rfl, rfl, _, hf⟩
    refine ⟨v, rfl, ⟨hf.out.1.mono (by have := h.bel.size; omega), ?_⟩⟩
    have hk := hf.out.2
    have hb := h.bel
    exact ⟨hk.os.trans hb.os, hk.tape.trans hb.tape, hk.output.trans hb.output, Nat.le_trans hb.size hk.size, fun k hk2 => (hk.block k (Nat.lt_of_lt_of_le hk2 hb.size) (fun e => by have := h.la; have := h.lb; rcases e with e | e <;> omega)).trans (hb.block k hk2)⟩

/-- what merged has made -/
structure MgdI (w : World) (l r : List Int) (pa pb pc : Nat) (tc : TypeId) (rd : Nat → Prop) (W : World) : Prop where
  mr : MR pa pb pc rd W
  ba : BoxC intC 1 23 rd W pa l
  bb : BoxC intC 1 23 rd W pb r
  bc : W.heap[pc]? = some (.cells #[.func (.func 42) #[] #[]] tc (0, 0))
  la : w.heap.size ≤ pa
  lb : w.heap.size ≤ pb
  bel : Below w.heap.size w W
set_option maxHeartbeats 2000000 in
theorem imerged_any (a b : Option Addr) (n c m d : Nat) (l r : List Int) (w : World) (hl : IsIs w a n c l) (hr : IsIs w b m d r) :
    Calls Tryd.prog 53 #[.slice a n c, .slice b m d, .func (.func 42) #[] #[]] w fun e W => ∃ pa pb pc tc rd, e = .returned (.func (.func 80) #[] #[.pointer (some ⟨pa, 0, none⟩), .pointer (some ⟨pb, 0, none⟩), .pointer (some ⟨pc, 0, none⟩)]) ∧ Seal (MgdI w l r pa pb pc tc rd W) := by
  have HL := Seal.mk hl
  have HR := Seal.mk hr
  clear hl hr
  go_enter Tryd.func53, Tryd.ntmps53
  go_wp2
  go_ret
  refine ⟨_, _, _, 75, fun k => k = w.heap.size + 1 + 1 ∨ (0 < n ∧ ∃ o, a = some ⟨k, o, none⟩) ∨ (0 < m ∧ ∃ o, b = some ⟨k, o, none⟩), rfl, ⟨?_⟩⟩
  have lta : ∀ k, (0 < n ∧ ∃ o, a = some ⟨k, o, none⟩) → k < w.heap.size := fun k h => by
    obtain ⟨h0, o, e⟩ := h
    rcases HL.out.at_ with h1 | ⟨g, o', e', _, hg⟩
    · omega
    · rw [e] at e'; cases e'; exact hg
  have ltb : ∀ k, (0 < m ∧ ∃ o, b = some ⟨k, o, none⟩) → k < w.heap.size := fun k h => by
    obtain ⟨h0, o, e⟩ := h
    rcases HR.out.at_ with h1 | ⟨g, o', e', _, hg⟩
    · omega
    · rw [e] at e'; cases e'; exact hg
  have hb : ∀ (x y z : Obj), Below w.heap.size w (((w.alloc x).alloc y).alloc z) := fun x y z => (((Below.refl _ w).alloc (Nat.le_refl _) _).alloc (by simp) _).alloc (by simp; omega) _
  have h0 : ∀ (x y z : Obj), (((w.alloc x).alloc y).alloc z).heap[w.heap.size]? = some x := fun x y z => by
    rw [Below.heap_alloc _ _ _ (by simp; omega), Below.heap_alloc _ _ _ (by simp)]
    exact World.alloc_heap_new w x
  have h1 : ∀ (x y z : Obj), (((w.alloc x).alloc y).alloc z).heap[w.heap.size + 1]? = some y := fun x y z => by
    rw [Below.heap_alloc _ _ _ (by simp)]
    have := World.alloc_heap_new (w.alloc x) y
    rwa [size_alloc] at this
  have h2 : ∀ (x y z : Obj), (((w.alloc x).alloc y).alloc z).heap[w.heap.size + 1 + 1]? = some z := fun x y z => by
    have := World.alloc_heap_new ((w.alloc x).alloc y) z
    rwa [size_alloc, size_alloc] at this
  refine ⟨⟨by omega, ?_, ?_, .inl rfl, ?_⟩, ⟨a, n, c, h0 _ _ _, HL.out.below (hb _ _ _), fun g o hz e => .inr (.inl ⟨hz, o, e⟩)⟩, ⟨b, m, d, h1 _ _ _, HR.out.below (hb _ _ _), fun g o hz e => .inr (.inr ⟨hz, o, e⟩)⟩, h2 _ _ _, Nat.le_refl _, Nat.le_succ _, hb _ _ _⟩
  · rintro (e | h | h)
    · omega
    · have := lta _ h; omega
    · have := ltb _ h; omega
  · rintro (e | h | h)
    · omega
    · have := lta _ h; omega
    · have := ltb _ h; omega
  · rintro k ((e | h | h) | (e | e))
    · simp; omega
    · have := lta _ h; simp; omega
    · have := ltb _ h; simp; omega
    · simp; omega
    · simp; omega
theorem icoll_any (l r : List Int) (pa pb pc : Nat) (tc : TypeId) (rd : Nat → Prop) (w W : World) (h : MgdI w l r pa pb pc tc rd W) (hn : l.length + r.length ≤ 20000) :
    Calls Tryd.prog 52 #[.func (.func 80) #[] #[.pointer (some ⟨pa, 0, none⟩), .pointer (some ⟨pb, 0, none⟩), .pointer (some ⟨pc, 0, none⟩)]] W fun e w' => ∃ v, e = .returned v ∧ Seal (w'.ownsRow w.heap.size 3 1 v (mrgK idI l r).length ((mrgK idI l r).flatMap intC) ∧ Below w.heap.size w w') := by
  refine (icollect_any 80 _ (mineP pa pb) rd (fun xs => xs = mrgK idI l r) (l.length + r.length) W hn (fun k hk => h.mr.lt k (hk.elim .inr .inl)) (fun X hX => ?_) (enters_of Tryd.func80 (by kernel_rfl) rfl)).mono ?_
  · have hm := h.mr
    exact imerged_own 2 pa pb pc tc rd l r X ⟨hm.ab, hm.ra, hm.rb, hm.rc, fun k hk => Nat.lt_of_lt_of_le (hm.lt k hk) hX.size⟩ (h.ba.same (hX.block _ (hm.lt _ (.inr (.inl rfl)))) (fun k _ hl => hX.block k hl) hX.size) (h.bb.same (hX.block _ (hm.lt _ (.inr (.inr rfl)))) (fun k _ hl => hX.block k hl) hX.size) ((hX.block _ (hm.lt _ (.inl hm.rc))).trans h.bc)
  · rintro e w' ⟨xs, v, rfl, rfl, hf⟩
    refine ⟨v, rfl, ⟨hf.out.1.mono (by have := h.bel.size; omega), ?_⟩⟩
    have hk := hf.out.2
    have hb := h.bel
    exact ⟨hk.os.trans hb.os, hk.tape.trans hb.tape, hk.output.trans hb.output, Nat.le_trans hb.size hk.size, fun k hk2 => (hk.block k (Nat.lt_of_lt_of_le hk2 hb.size) (fun e => by have := h.la; have := h.lb; rcases e with e | e <;> omega)).trans (hb.block k hk2)⟩

end Frk
