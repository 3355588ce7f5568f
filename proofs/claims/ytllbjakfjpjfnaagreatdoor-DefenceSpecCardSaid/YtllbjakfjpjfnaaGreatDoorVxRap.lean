/- Appends to slices of bytes that a call has made itself, whatever bytes are appended. -/
import Derived.Test.YtllbjakfjpjfnaaGreatDoorVxEnf
import Derived.Test.YtllbjakfjpjfnaaGreatDoorVxgEqd
namespace Frk
open Go Go.RowKit Go.Proofs
set_option maxRecDepth 100000

theorem run_append_zero (w : World) (ty : TypeId) (g n cap c : Nat) (a : Option Addr) (hc : n ≤ cap) :
    (Builtin.append_ #[52, 52] ty #[.slice (some ⟨g, 0, none⟩) n cap, .slice a 0 c]).run Tryz.prog w = .ok (.slice (some ⟨g, 0, none⟩) n cap) w := by
  obtain ⟨i0, hi, hz0, hz1, hz2⟩ := info_parts info_u8
  cases a with
  | none => simp [Builtin.append_, run_underlying Tryz.underlying52, Go.sizeOf, typeInfo, hi, Builtin.lenOf, Builtin.firstCells, hc, storeCells]
  | some ad => simp [Builtin.append_, run_underlying Tryz.underlying52, Go.sizeOf, typeInfo, hi, Builtin.lenOf, Builtin.firstCells, hc, storeCells, loadCells, loadCellsFrom]

theorem Own.cap {w : World} {base g n cap : Nat} {l : Bytes} (h : Own w base (.slice (some ⟨g, 0, none⟩) n cap) l) : n ≤ cap := by
  rcases h.2 with ⟨e, _⟩ | ⟨g', cap', cur, hv, _, _, hle, _⟩
  · cases e
  · cases hv; exact hle

theorem run_append_b (w : World) (base g n cap : Nat) (l : Bytes) (hown : Own w base (.slice (some ⟨g, 0, none⟩) n cap) l) (hn : l.length = n) (a : Option Addr) (m c : Nat) (l2 : Bytes) (hb : IsB w a m c l2)
    (h : n + m ≤ 140737488355328) (hbase : base ≤ w.heap.size) (ty : TypeId) :
    ∃ g' cap' w', (Builtin.append_ #[52, 52] ty #[.slice (some ⟨g, 0, none⟩) n cap, .slice a m c]).run Tryz.prog w = .ok (.slice (some ⟨g', 0, none⟩) (n + m) cap') w' ∧
      Own w' base (.slice (some ⟨g', 0, none⟩) (n + m) cap') (l ++ l2) ∧ w.grownBy w' (some g) ∧ RowNew w (some g) (some g') := by
  have hlen : (l ++ l2).length = n + m := by rw [List.length_append, hn, hb.llen]
  by_cases h0 : m = 0
  · subst h0
    obtain rfl := List.eq_nil_of_length_eq_zero hb.llen
    rw [List.append_nil]
    exact ⟨g, cap, w, run_append_zero w ty g n cap c a hown.cap, hown, grown_of_below (Below.refl _ _) _, .inl rfl⟩
  · rcases hb.at_ with hz | ⟨g2, o2, rfl, hr, hg2⟩
    · exact absurd hz h0
    · obtain ⟨i0, hi, hz0, hz1, hz2⟩ := info_parts info_u8
      obtain ⟨g', cap', w', hrun, h2, h3, h4, h5⟩ := run_append_lies (P := Tryz.prog) w 52 ty base 5 i0 (.int .u8 0) 1 1 Tryz.underlying52 hi hz0 hz1 hz2 rfl (by decide) _ n (l.map B) (hown.len hn)
        ⟨g2, o2, none⟩ m c (l2.map B) (by rw [List.length_map, hb.llen, Nat.mul_one]) (fun j u hu => by rw [Addr.add_mid]; exact hr j u hu) (by simp [Value.oneCell']) (by omega) (by unfold maxLen; omega) (by omega) hbase w.heap.size rfl
      refine ⟨g', cap', w', hrun, ?_, h3, ?_⟩
      · unfold Own
        rw [hlen, List.map_append]
        exact h2
      · exact rowNew_of (w := w) h4 (Nat.le_refl _)

theorem wpList_append_b {ops : Array Oper} {rest : List Oper} {o : Oper} {a : Act} {w : World} {Q : Exit → Act → World → Prop} (hgd : o.guard = none) (s x : Operand)
    (ho : o.op = .call { callee := .builtin .append, args := #[s, x], argTypes := #[52, 52] }) (base g n cap : Nat) (l : Bytes) (ad : Option Addr) (m c : Nat) (l2 : Bytes)
    (hs : a.eval s = .slice (some ⟨g, 0, none⟩) n cap) (hx : a.eval x = .slice ad m c) (hown : Seal (Own w base (.slice (some ⟨g, 0, none⟩) n cap) l)) (hn : Seal (l.length = n)) (hb : Seal (IsB w ad m c l2))
    (hle : n + m ≤ 140737488355328) (hbase : base ≤ w.heap.size)
    (h : ∀ g' cap' w', Seal (Own w' base (.slice (some ⟨g', 0, none⟩) (n + m) cap') (l ++ l2)) → Seal (w.grownBy w' (some g)) → Seal (RowNew w (some g) (some g')) → wpList Tryz.prog ops Q rest (a.put o.dst (.slice (some ⟨g', 0, none⟩) (n + m) cap')) w') :
    wpList Tryz.prog ops Q (o :: rest) a w :=
  wpList_plain hgd fun K hK => by
    obtain ⟨g', cap', w', hr, h2, h3, h4⟩ := run_append_b w base g n cap l hown.out hn.out ad m c l2 hb.out hle hbase o.type
    unfold Oper.wp
    simp [execOp, ho, resolve, invoke, builtin, hs, hx, hr, Result.andThen]
    exact hK _ _ (h g' cap' w' ⟨h2⟩ ⟨h3⟩ ⟨h4⟩)

theorem step_append_b {ops : Array Oper} {o : Oper} {a : Act} {w : World} {K : Act → World → Prop} {Q : Exit → Act → World → Prop} {E : Prop} (hgd : o.guard = none) (s x : Operand)
    (ho : o.op = .call { callee := .builtin .append, args := #[s, x], argTypes := #[52, 52] }) (base g n cap : Nat) (l : Bytes) (ad : Option Addr) (m c : Nat) (l2 : Bytes)
    (hs : a.eval s = .slice (some ⟨g, 0, none⟩) n cap) (hx : a.eval x = .slice ad m c) (hown : Seal (Own w base (.slice (some ⟨g, 0, none⟩) n cap) l)) (hn : Seal (l.length = n)) (hb : Seal (IsB w ad m c l2))
    (hle : n + m ≤ 140737488355328) (hbase : base ≤ w.heap.size)
    (h : ∀ g' cap' w', Seal (Own w' base (.slice (some ⟨g', 0, none⟩) (n + m) cap') (l ++ l2)) → Seal (w.grownBy w' (some g)) → Seal (RowNew w (some g) (some g')) → K (a.put o.dst (.slice (some ⟨g', 0, none⟩) (n + m) cap')) w') :
    if Region.wanted o (yielded ops a.tmps) = true then Oper.wp Tryz.prog o a w K Q else E := by
  have hw : Region.wanted o (yielded ops a.tmps) = true := by simp [Region.wanted, hgd]
  rw [if_pos hw]
  obtain ⟨g', cap', w', hr, h2, h3, h4⟩ := run_append_b w base g n cap l hown.out hn.out ad m c l2 hb.out hle hbase o.type
  unfold Oper.wp
  simp [execOp, ho, resolve, invoke, builtin, hs, hx, hr, Result.andThen]
  exact h g' cap' w' ⟨h2⟩ ⟨h3⟩ ⟨h4⟩

/-- a slice that is made of bytes in the text -/
theorem own_new (w : World) (l : Bytes) (t : TypeId) (n : Nat) (hn : l.length = n) (hm : n ≤ 140737488355328) (ht : t = 5) : Own (w.alloc (.cells (l.map B).toArray t)) w.heap.size (.slice (some ⟨w.heap.size, 0, none⟩) n n) l := by
  subst hn; subst ht
  refine ⟨by simp, .inr ⟨w.heap.size, _, _, rfl, Nat.le_refl _, heap_alloc_new w _, Nat.le_refl _, by unfold maxLen; omega, by simp, by rw [Nat.mul_one]; exact List.take_of_length_le (by simp)⟩⟩

theorem Own.alloc {w : World} {base : Nat} {v : Value} {l : Bytes} (h : Own w base v l) (o : Obj) : Own (w.alloc o) base v l := World.ownsRow.alloc h o
theorem Own.drewN {w : World} {base : Nat} {v : Value} {l : Bytes} (h : Own w base v l) (n : Nat) : Own (w.drewN n) base v l := h

/-- what is owned is a slice of bytes -/
theorem Own.isB {w : World} {base g n cap : Nat} {l : Bytes} (h : Own w base (.slice (some ⟨g, 0, none⟩) n cap) l) (hn : l.length = n) (hm : n ≤ 140737488355328) : IsB w (some ⟨g, 0, none⟩) n cap l :=
  ⟨hn, (own_facts h hn).1, hm, (own_facts h hn).2.1, .inr ⟨g, 0, rfl, (own_facts h hn).2.2.2, (own_facts h hn).2.2.1⟩⟩

theorem IsB.grown {w w' : World} {a : Option Addr} {m c : Nat} {l : Bytes} {r : Option Nat} (h : IsB w a m c l) (hg : w.grownBy w' r) (hne : ∀ g o, a = some ⟨g, o, none⟩ → r ≠ some g) : IsB w' a m c l :=
  ⟨h.llen, h.lcap, h.lmax, h.cmax, by
    rcases h.at_ with h0 | ⟨g, off, e, hr, hlt⟩
    · exact .inl h0
    · exact .inr ⟨g, off, e, rangeAt_grown hr hg (fun e' => hne g off e e'.symm), Nat.lt_of_lt_of_le hlt hg.size⟩⟩

/-- a slice of bytes that a call has made since the world w0 -/
structure Stg (w0 w : World) (g n cap : Nat) (l : Bytes) : Prop where
  own : Own w w0.heap.size (.slice (some ⟨g, 0, none⟩) n cap) l
  len : l.length = n
  bel : Below w0.heap.size w0 w

theorem Stg.alloc {w0 w : World} {g n cap : Nat} {l : Bytes} (h : Stg w0 w g n cap l) (o : Obj) : Stg w0 (w.alloc o) g n cap l :=
  ⟨h.own.alloc o, h.len, h.bel.alloc h.bel.size o⟩
theorem Stg.drewN {w0 w : World} {g n cap : Nat} {l : Bytes} (h : Stg w0 w g n cap l) (d : Nat) : Stg w0 (w.drewN d) g n cap l :=
  ⟨h.own, h.len, ⟨h.bel.os, h.bel.tape, h.bel.output, h.bel.size, h.bel.block⟩⟩
theorem Stg.below {w0 w w' : World} {g n cap : Nat} {l : Bytes} (h : Stg w0 w g n cap l) (hb : Below w.heap.size w w') : Stg w0 w' g n cap l :=
  ⟨World.ownsRow.kept h.own (grown_of_below hb none) (.inr (by intro e; cases e)), h.len, h.bel.trans (hb.mono h.bel.size)⟩
theorem Stg.isB {w0 w : World} {g n cap : Nat} {l : Bytes} (h : Stg w0 w g n cap l) (hm : n ≤ 140737488355328) : IsB w (some ⟨g, 0, none⟩) n cap l := h.own.isB h.len hm

theorem Stg.from {w0 X w : World} {g n cap : Nat} {l : Bytes} (h : Stg X w g n cap l) (hb : Below w0.heap.size w0 X) : Stg w0 w g n cap l :=
  ⟨⟨h.own.1, by
    rcases h.own.2 with h0 | ⟨g', cap', cur, hv, hg, hr⟩
    · exact .inl h0
    · exact .inr ⟨g', cap', cur, hv, Nat.le_trans hb.size hg, hr⟩⟩, h.len, hb.trans (h.bel.mono hb.size)⟩

theorem stg_new (w : World) (l : Bytes) (n : Nat) (hn : l.length = n) (hm : n ≤ 140737488355328) : Stg w (w.alloc (.cells (l.map B).toArray 5)) w.heap.size n n l :=
  ⟨own_new w l 5 n hn hm rfl, hn, below_alloc _ _⟩

theorem wpList_append_st {ops : Array Oper} {rest : List Oper} {o : Oper} {a : Act} {w : World} {Q : Exit → Act → World → Prop} (hgd : o.guard = none) (s x : Operand)
    (ho : o.op = .call { callee := .builtin .append, args := #[s, x], argTypes := #[52, 52] }) (w0 : World) (g n cap : Nat) (l : Bytes) (ad : Option Addr) (m c : Nat) (l2 : Bytes)
    (hs : a.eval s = .slice (some ⟨g, 0, none⟩) n cap) (hx : a.eval x = .slice ad m c) (hS : Seal (Stg w0 w g n cap l)) (hb : Seal (IsB w ad m c l2))
    (hle : n + m ≤ 140737488355328)
    (h : ∀ g' cap' w', Seal (Stg w0 w' g' (n + m) cap' (l ++ l2)) → Seal (w.grownBy w' (some g)) → Seal (RowNew w (some g) (some g')) → wpList Tryz.prog ops Q rest (a.put o.dst (.slice (some ⟨g', 0, none⟩) (n + m) cap')) w') :
    wpList Tryz.prog ops Q (o :: rest) a w :=
  wpList_append_b hgd s x ho w0.heap.size g n cap l ad m c l2 hs hx ⟨hS.out.own⟩ ⟨hS.out.len⟩ hb hle hS.out.bel.size fun g' cap' w' h1 h2 h3 =>
    h g' cap' w' ⟨⟨h1.out, by rw [List.length_append, hS.out.len, hb.out.llen], below_own (n := n) (hS.out.own.len hS.out.len) hS.out.bel.size h2.out |> fun hb2 => hS.out.bel.trans hb2⟩⟩ h2 h3

theorem step_append_st {ops : Array Oper} {o : Oper} {a : Act} {w : World} {K : Act → World → Prop} {Q : Exit → Act → World → Prop} {E : Prop} (hgd : o.guard = none) (s x : Operand)
    (ho : o.op = .call { callee := .builtin .append, args := #[s, x], argTypes := #[52, 52] }) (w0 : World) (g n cap : Nat) (l : Bytes) (ad : Option Addr) (m c : Nat) (l2 : Bytes)
    (hs : a.eval s = .slice (some ⟨g, 0, none⟩) n cap) (hx : a.eval x = .slice ad m c) (hS : Seal (Stg w0 w g n cap l)) (hb : Seal (IsB w ad m c l2))
    (hle : n + m ≤ 140737488355328)
    (h : ∀ g' cap' w', Seal (Stg w0 w' g' (n + m) cap' (l ++ l2)) → Seal (w.grownBy w' (some g)) → Seal (RowNew w (some g) (some g')) → K (a.put o.dst (.slice (some ⟨g', 0, none⟩) (n + m) cap')) w') :
    if Region.wanted o (yielded ops a.tmps) = true then Oper.wp Tryz.prog o a w K Q else E :=
  step_append_b hgd s x ho w0.heap.size g n cap l ad m c l2 hs hx ⟨hS.out.own⟩ ⟨hS.out.len⟩ hb hle hS.out.bel.size fun g' cap' w' h1 h2 h3 =>
    h g' cap' w' ⟨⟨h1.out, by rw [List.length_append, hS.out.len, hb.out.llen], below_own (n := n) (hS.out.own.len hS.out.len) hS.out.bel.size h2.out |> fun hb2 => hS.out.bel.trans hb2⟩⟩ h2 h3

theorem run_append_str_st (w0 w : World) (g n cap m : Nat) (l : Bytes) (str : ByteArray) (hS : Stg w0 w g n cap l) (hm : str.size = m) (hle : n + m ≤ 140737488355328) (ty : TypeId) :
    ∃ g' cap' w', (Builtin.append_ #[52, 9] ty #[.slice (some ⟨g, 0, none⟩) n cap, .string str]).run Tryz.prog w = .ok (.slice (some ⟨g', 0, none⟩) (n + m) cap') w' ∧ Stg w0 w' g' (n + m) cap' (l ++ str.data.toList) := by
  subst hm
  obtain ⟨g', cap', w', hr, h2, h3, _⟩ := run_append_str w w0.heap.size g n cap (l.map B) (hS.own.len hS.len) str hle hS.bel.size ty
  have hlen : (l ++ str.data.toList).length = n + str.size := by rw [List.length_append, hS.len]; rfl
  refine ⟨g', cap', w', hr, ⟨?_, hlen, hS.bel.trans (below_own (n := n) (hS.own.len hS.len) hS.bel.size h3)⟩⟩
  unfold Own
  rw [hlen, List.map_append]
  exact h2

theorem step_append_str_st {ops : Array Oper} {o : Oper} {a : Act} {w : World} {K : Act → World → Prop} {Q : Exit → Act → World → Prop} {E : Prop} (hgd : o.guard = none) (s x : Operand)
    (ho : o.op = .call { callee := .builtin .append, args := #[s, x], argTypes := #[52, 9] }) (w0 : World) (g n cap m : Nat) (l : Bytes) (str : ByteArray)
    (hs : a.eval s = .slice (some ⟨g, 0, none⟩) n cap) (hx : a.eval x = .string str) (hS : Seal (Stg w0 w g n cap l)) (hm : Seal (str.size = m))
    (hle : n + m ≤ 140737488355328)
    (h : ∀ g' cap' w', Seal (Stg w0 w' g' (n + m) cap' (l ++ str.data.toList)) → K (a.put o.dst (.slice (some ⟨g', 0, none⟩) (n + m) cap')) w') :
    if Region.wanted o (yielded ops a.tmps) = true then Oper.wp Tryz.prog o a w K Q else E := by
  obtain ⟨g', cap', w', hr, h2⟩ := run_append_str_st w0 w g n cap m l str hS.out hm.out hle o.type
  exact step_append_run hgd s x _ ho _ _ _ hs hx hr (h g' cap' w' ⟨h2⟩)

end Frk
