/- The program's sign: list, power, Sign, Verify. -/
import Derived.Test.YtkkkfkefbjpmaaaDoorVEnf
import Derived.Test.YtkkkfkefbjpmaaaDoorVGrf
import Derived.Lib.BufferRead
namespace Frk
open Go Go.RowKit Go.Proofs
set_option maxRecDepth 100000

theorem IsB.below {w w' : World} {a : Option Addr} {len cap : Nat} {l : Bytes} (h : IsB w a len cap l) (hb : Below w.heap.size w w') : IsB w' a len cap l :=
  ⟨h.llen, h.lcap, h.lmax, h.cmax, by
    rcases h.at_ with h | ⟨g, off, e, hr, hg⟩
    · exact .inl h
    · exact .inr ⟨g, off, e, rangeAt_below' hr hb, Nat.lt_of_lt_of_le hg hb.size⟩⟩

theorem IsB.conv {w : World} {a : Option Addr} {len cap : Nat} {l : Bytes} (h : IsB w a len cap l) :
    (convert 47 9 (.slice a len cap)).run Tryd.prog w = .ok (.string ⟨l.toArray⟩) w := by
  rcases h.at_ with rfl | ⟨g, off, rfl, hr, hg⟩
  · have e : l = [] := List.eq_nil_of_length_eq_zero h.llen
    subst e
    cases a with
    | some a => exact run_convert_bytes_back (P := Tryd.prog) w 47 9 5 a cap [] Tryd.underlying47 Tryd.underlying5 Tryd.underlying9 (fun j hj => absurd hj (by simp))
    | none => exact Lib.run_convert_nil_bytes w 47 9 5 cap Tryd.underlying47 Tryd.underlying5 Tryd.underlying9
  · have := run_convert_bytes_back (P := Tryd.prog) w 47 9 5 ⟨g, off, none⟩ cap l Tryd.underlying47 Tryd.underlying5 Tryd.underlying9 (fun j hj => by
      rw [Addr.add_mid]; exact hr j _ (by rw [List.getElem?_map, List.getElem?_eq_getElem hj]; rfl))
    rwa [h.llen] at this

/-- what list is called with -/
inductive Arg where
  | i (n : Int)
  | s (a : Option Addr) (len cap : Nat) (b : Bytes)

def Arg.val : Arg → Value
  | .i n => .iface 3 (.int .i64 n)
  | .s a len cap _ => .iface 47 (.slice a len cap)
def Arg.lf : Arg → Lf
  | .i n => .i n
  | .s _ _ _ b => .t b
def Arg.ok (w : World) : Arg → Prop
  | .i n => -9223372036854775808 ≤ n ∧ n ≤ 9223372036854775807
  | .s a len cap b => IsB w a len cap b
theorem Arg.ok.below {w w' : World} {x : Arg} (h : x.ok w) (hb : Below w.heap.size w w') : x.ok w' := by
  cases x with
  | i n => exact h
  | s a len cap b => exact IsB.below h hb
theorem Arg.ok.fits {w : World} {x : Arg} (h : x.ok w) : x.lf.fits := by
  cases x with
  | i n => exact h
  | s a len cap b =>
    have h' : IsB w a len cap b := h
    have := h'.lmax
    have := h'.llen
    show b.length < 2 ^ 63
    omega

theorem info_val : (Tryd.prog.info? 100).map (fun i => (i.zero, i.size, i.bytes)) = some (some (.agg #[.int .i64 0, .int .i64 0, .string ByteArray.empty, .slice none 0 0]), 4, 56) := by kernel_rfl

def leafCells (xs : List Arg) : List Value := xs.flatMap fun x => x.lf.cells
theorem leafCells_at : ∀ (xs : List Arg) (k : Nat) (x : Arg), xs[k]? = some x → ∀ (j : Nat) (c : Value), x.lf.cells[j]? = some c → (leafCells xs)[k * 4 + j]? = some c
  | [], k, x, h, _, _, _ => by simp at h
  | y :: xs, 0, x, h, j, c, hc => by
    have e : y = x := by simpa using h
    subst e
    unfold leafCells
    rw [List.flatMap_cons, Nat.zero_mul, Nat.zero_add, List.getElem?_append_left (List.getElem?_eq_some_iff.1 hc).1]
    exact hc
  | y :: xs, k + 1, x, h, j, c, hc => by
    have := leafCells_at xs k x (by simpa using h) j c hc
    unfold leafCells at *
    have hl : y.lf.cells.length = 4 := by cases y <;> rfl
    rw [List.flatMap_cons, List.getElem?_append_right (by omega), hl, show (k + 1) * 4 + j - 4 = k * 4 + j from by omega]
    exact this
theorem leafCells_take (xs : List Arg) (k : Nat) (x : Arg) (h : xs[k]? = some x) : leafCells (xs.take (k + 1)) = leafCells (xs.take k) ++ x.lf.cells := by
  obtain ⟨hk, rfl⟩ := List.getElem?_eq_some_iff.1 h
  unfold leafCells
  rw [List.take_succ_eq_append_getElem hk, List.flatMap_append]
  simp

theorem ta_int (v : Value) (W : World) : (Instr.typeAssert (.iface 3 v) 20 3 true).run Tryd.prog W = .ok (.tuple #[v, .bool true]) W := by kernel_rfl
theorem ta_no (v : Value) (W : World) : (Instr.typeAssert (.iface 47 v) 20 3 true).run Tryd.prog W = .ok (.tuple #[.int .i64 0, .bool false]) W := by kernel_rfl
theorem ta_sl (v : Value) (W : World) : (Instr.typeAssert (.iface 47 v) 20 47 true).run Tryd.prog W = .ok (.tuple #[v, .bool true]) W := by kernel_rfl

/-- where the loop of list stands -/
def ListRel (xs : List Arg) (w0 : World) (i : Value) (w : World) : Prop :=
  ∃ (j : Nat) (v : Value), j ≤ xs.length ∧ i = .int .i64 j ∧ Seal (w.heap[w0.heap.size]? = some (.cells #[.int .i64 3, .int .i64 0, .string ByteArray.empty, v] 100)) ∧
    Seal (w.ownsRow (w0.heap.size + 1) 100 4 v j (leafCells (xs.take j))) ∧ Seal (Below w0.heap.size w0 w)

theorem ListRel.next {xs : List Arg} {x : Arg} {w0 wr w1 : World} {j g1 cap1 : Nat} {v : Value} {o : Obj} (hj : j < xs.length) (HT : leafCells (xs.take (j + 1)) = leafCells (xs.take j) ++ x.lf.cells) (hb : Below w0.heap.size w0 wr)
    (hr1 : w1.heap[w0.heap.size]? = some (.cells #[.int .i64 3, .int .i64 0, .string ByteArray.empty, v] 100))
    (hown : wr.ownsRow (w0.heap.size + 1) 100 4 v j (leafCells (xs.take j))) (hg : (wr.alloc o).grownBy w1 v.ownBlock) (hbs : w0.heap.size < wr.heap.size)
    (hown1 : w1.ownsRow (w0.heap.size + 1) 100 4 (.slice (some ⟨g1, 0, none⟩) (j + 1) cap1) (j + 1) (leafCells (xs.take j) ++ x.lf.cells)) :
    ListRel xs w0 (.int .i64 ((j + 1 : Nat) : Int)) (w1.setCell ⟨w0.heap.size, 3, none⟩ (.slice (some ⟨g1, 0, none⟩) (j + 1) cap1)) := by
  refine ⟨j + 1, .slice (some ⟨g1, 0, none⟩) (j + 1) cap1, hj, rfl, ⟨?_⟩, ⟨?_⟩, ⟨?_⟩⟩
  · exact heap_setCell_row (cs := [.int .i64 3, .int .i64 0, .string ByteArray.empty, v]) _ hr1
  · rw [HT]
    refine hown1.kept (row := some w0.heap.size) (grown_setCell (grown_of_below (Below.refl _ w1) _) _ _) (.inr ?_)
    intro e
    have := (hown1.lt _ e).1
    omega
  · have h1 : Below w0.heap.size (wr.alloc o) w1 := ⟨hg.os, hg.tape, hg.output, hg.size, fun k hk => hg.block k (by rw [size_alloc]; omega) (fun e => by have := (hown.lt k e.symm).1; omega)⟩
    exact ((hb.alloc (by omega) o).trans h1).setCell (p := ⟨w0.heap.size, 3, none⟩) (Nat.le_refl _) _

set_option maxHeartbeats 1000000 in
theorem list_any (g off k cap : Nat) (xs : List Arg) (w : World) (hk : xs.length = k) (hkc : k ≤ cap) (hk0 : 0 < k) (hk9 : k ≤ 1000) (hc : ∀ j x, xs[j]? = some x → w.cell? ⟨g, off + j, none⟩ = some x.val) (hok : ∀ x ∈ xs, x.ok w) (hl : wgts (xs.map Arg.lf) + 22 ≤ 140737488355328) :
    Calls Tryd.prog 78 #[.slice (some ⟨g, off, none⟩) k cap] w fun e w' => ∃ g' n' cap', Seal ((encL (xs.map Arg.lf)).length = n') ∧
      e = .returned (.slice (some ⟨g', 0, none⟩) n' cap') ∧ Seal (n' ≤ cap' ∧ cap' ≤ 9223372036854775807 ∧ g' < w'.heap.size ∧ w'.rangeAt g' 0 ((encL (xs.map Arg.lf)).map B) ∧ Below w.heap.size w w') := by
  have HK := Seal.mk hk
  have HC := Seal.mk hc
  have HO := Seal.mk hok
  have HL := Seal.mk hl
  obtain ⟨i0, hi, hz0, hz1, hz2⟩ := info_parts info_val
  have HI := Seal.mk (And.intro hi (And.intro hz0 (And.intro hz1 hz2)))
  clear hk hc hok hl hi hz0 hz1 hz2
  go_enter Tryd.func78, Tryd.ntmps78
  go_wp2
  go_loopw [13] (fun i wr => ListRel xs w i wr) (fun i _ => k - (intOf i).toNat)
  case atStart => exact ⟨0, .slice none 0 0, Nat.zero_le _, rfl, ⟨heap_alloc_new w _⟩, ⟨World.ownsRow_nil _ _ _ _⟩, ⟨below_alloc w _⟩⟩
  case round =>
    obtain ⟨j, v, hj, rfl, hrow, hown, hb⟩ := hrel
    rw [HK.out] at hj
    have hBz := hb.out.size
    have hBs : w.heap.size < wr.heap.size := (Array.getElem?_eq_some_iff.1 hrow.out).1
    have c3 : wr.cell? ⟨w.heap.size, 3, none⟩ = some v := by rw [cell_of_row _ _ _ _ _ _ hrow.out]; rfl
    have hne : some w.heap.size ≠ v.ownBlock := fun e => by have := (hown.out.lt _ e.symm).1; omega
    by_cases hlt : j < k
    · obtain ⟨x, hx⟩ : ∃ x, xs[j]? = some x := ⟨_, List.getElem?_eq_getElem (by rw [HK.out]; exact hlt)⟩
      have hcx : wr.cell? ⟨g, off + j, none⟩ = some x.val := (hb.out.cell (p := ⟨g, off + j, none⟩) (block_lt_of_cell (HC.out j x hx))).trans (HC.out j x hx)
      have hox := (HO.out x (List.mem_of_getElem? hx)).below hb.out
      have HT := Seal.mk (leafCells_take xs j x hx)
      cases x with
      | i n =>
        unfold Arg.val at hcx
        have ta := fun W => ta_int (.int .i64 n) W
        clear hx hox
        go_wp2_with (at_builtin; refine wpList_append_lies _ rfl (.tmp 22) (.tmp 25) 98 rfl (w.heap.size + 1) 100 i0 _ 4 56 Tryd.underlying98 HI.out.1 HI.out.2.1 HI.out.2.2.1 HI.out.2.2.2 rfl (by decide) v j (leafCells (xs.take j)) rfl (hown.out.alloc _) ⟨wr.heap.size, 0, none⟩ 1 1 (Lf.i n).cells rfl rfl (World.news_of_block (heap_alloc_new wr _)) (by simp [Lf.cells, Value.oneCell']) (by decide) (by unfold maxLen; omega) (by omega) (by simp; omega) _ rfl ?_; intro g1 cap1 w1 hown1 hgrow1 hat hlt1; have hr1 : w1.heap[w.heap.size]? = some (.cells #[.int .i64 3, .int .i64 0, .string ByteArray.empty, v] 100) := (hgrow1.block _ (by simp; omega) hne).trans ((Below.heap_alloc wr _ _ hBs).trans hrow.out); have c1 : w1.cell? ⟨w.heap.size, 3, none⟩ = some v := by { rw [cell_of_row _ _ _ _ _ _ hr1]; rfl }; have f1 : w1.frozen? ⟨w.heap.size, 3, none⟩ = false := frozen_of_row _ _ _ _ _ hr1; have HR1 := Seal.mk hr1; have HG1 := Seal.mk hgrow1; have HW1 := Seal.mk hown1; clear hr1 hgrow1 hown1)
        refine ⟨ListRel.next (by rw [HK.out]; exact hlt) HT.out hb.out HR1.out hown.out HG1.out hBs HW1.out, ?_⟩
        simp only [intOf]; omega
      | s a len cp b =>
        unfold Arg.val at hcx
        have ta1 := fun W => ta_no (.slice a len cp) W
        have ta2 := fun W => ta_sl (.slice a len cp) W
        have hcv := IsB.conv (w := wr) hox
        clear hx hox
        go_wp2_with (at_builtin; refine wpList_append_lies _ rfl (.tmp 32) (.tmp 36) 98 rfl (w.heap.size + 1) 100 i0 _ 4 56 Tryd.underlying98 HI.out.1 HI.out.2.1 HI.out.2.2.1 HI.out.2.2.2 rfl (by decide) v j (leafCells (xs.take j)) rfl (hown.out.alloc _) ⟨wr.heap.size, 0, none⟩ 1 1 (Lf.t b).cells rfl rfl (World.news_of_block (heap_alloc_new wr _)) (by simp [Lf.cells, Value.oneCell']) (by decide) (by unfold maxLen; omega) (by omega) (by simp; omega) _ rfl ?_; intro g1 cap1 w1 hown1 hgrow1 hat hlt1; have hr1 : w1.heap[w.heap.size]? = some (.cells #[.int .i64 3, .int .i64 0, .string ByteArray.empty, v] 100) := (hgrow1.block _ (by simp; omega) hne).trans ((Below.heap_alloc wr _ _ hBs).trans hrow.out); have c1 : w1.cell? ⟨w.heap.size, 3, none⟩ = some v := by { rw [cell_of_row _ _ _ _ _ _ hr1]; rfl }; have f1 : w1.frozen? ⟨w.heap.size, 3, none⟩ = false := frozen_of_row _ _ _ _ _ hr1; have HR1 := Seal.mk hr1; have HG1 := Seal.mk hgrow1; have HW1 := Seal.mk hown1; clear hr1 hgrow1 hown1)
        refine ⟨ListRel.next (by rw [HK.out]; exact hlt) HT.out hb.out HR1.out hown.out HG1.out hBs HW1.out, ?_⟩
        simp only [intOf]; omega
    · obtain rfl : j = k := by omega
      obtain ⟨g2, cap2, rfl, _, hg2⟩ := hown.out.form hk0
      have HA : Seal (LeavesAt wr g2 0 (xs.map Arg.lf)) := ⟨fun q y hy r c hrc => by
        obtain ⟨x, hx, rfl⟩ : ∃ x, xs[q]? = some x ∧ x.lf = y := by
          rw [List.getElem?_map] at hy
          cases h : xs[q]? with
          | none => rw [h] at hy; cases hy
          | some x => rw [h] at hy; exact ⟨x, rfl, by simpa using hy⟩
        have h1 := leafCells_at xs q x hx r c hrc
        have h2 := hown.out.cells (g := g2) rfl (q * 4 + r) c (by rw [List.take_of_length_le (by rw [HK.out]; exact Nat.le_refl _)]; exact h1)
        rw [Addr.add_mid] at h2
        rw [Nat.add_assoc]; exact h2⟩
      have HQ : Seal (j ≤ cap2) := ⟨by
        rcases hown.out.2 with ⟨e, _⟩ | ⟨_, _, _, hv, _, _, hle, _⟩
        · cases e
        · cases hv; exact hle⟩
      have HE : Seal _ := ⟨encode_any g2 0 j cap2 (xs.map Arg.lf) wr (by rw [List.length_map]; exact HK.out) HQ.out HL.out hk0 HA.out hg2 (fun y hy => by
        obtain ⟨x, hx, rfl⟩ := List.mem_map.1 hy
        exact (HO.out x hx).fits)⟩
      have c0 : wr.cell? ⟨w.heap.size, 0, none⟩ = some (.int .i64 3) := by rw [cell_of_row _ _ _ _ _ _ hrow.out]; rfl
      have c1 : wr.cell? ⟨w.heap.size, 1, none⟩ = some (.int .i64 0) := by rw [cell_of_row _ _ _ _ _ _ hrow.out]; rfl
      have c2 : wr.cell? ⟨w.heap.size, 2, none⟩ = some (.string ByteArray.empty) := by rw [cell_of_row _ _ _ _ _ _ hrow.out]; rfl
      have HB := Seal.mk hb
      clear hrow hown hne HA HQ HC HO HL hb
      go_wp2_with (go_at_call 112; refine HE.out.mono ?_; rintro e w2 ⟨g', n', cap', hn', rfl, hf⟩)
      go_ret
      exact ⟨g', n', cap', hn', rfl, ⟨hf.out.1, hf.out.2.1, hf.out.2.2.1, hf.out.2.2.2.1, HB.out.out.trans (hf.out.2.2.2.2.mono hBz)⟩⟩
end Frk
