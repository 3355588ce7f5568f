/- Parts of the proof, joined. -/
import Derived.Test.YtllbjakfjpjfnaaGreatDoorVxSum
import Derived.Lib.AppendZerosOnto
import Derived.Lib.SlBytesConst
import Derived.Lib.ConvBytes
import Derived.Test.YtllbjakfjpjfnaaGreatDoorVxgKit
/- The program's Tagged: the hash of a text that opens with the hash of a tag. -/
namespace Frk
open Go Go.RowKit Go.Proofs
set_option maxRecDepth 100000

theorem grownCap_bd (w : World) (n old : Nat) (e : TypeId) (h : n ≤ 9223372036854775807) : n ≤ grownCap w n old e ∧ grownCap w n old e ≤ 9223372036854775807 := by
  unfold grownCap Question.cut
  simp only [show (2 : Nat) ^ 63 = 9223372036854775808 from by decide]
  have := Nat.mod_lt (w.tape w.drawn (.appendCap n old e)) (show 0 < 9223372036854775808 - n by omega)
  omega

theorem info_u8 : (Tryz.prog.info? 5).map (fun i => (i.zero, i.size, i.bytes)) = some (some (.int .u8 0), 1, 1) := by kernel_rfl

/-- an append whose run is known -/
theorem wpList_append_run {P : Program} {ops : Array Oper} {rest : List Oper} {o : Oper} {a : Act} {w w' : World} {Q : Exit → Act → World → Prop} (hgd : o.guard = none) (s x : Operand) (t tn : TypeId)
    (ho : o.op = .call { callee := .builtin .append, args := #[s, x], argTypes := #[t, tn] }) (sv xv v : Value) (hs : a.eval s = sv) (hx : a.eval x = xv)
    (hrun : ∀ ty, (Builtin.append_ #[t, tn] ty #[sv, xv]).run P w = .ok v w') (h : wpList P ops Q rest (a.put o.dst v) w') : wpList P ops Q (o :: rest) a w :=
  wpList_plain hgd fun K hK => by
    have := hrun o.type
    unfold Oper.wp
    simp [execOp, ho, resolve, invoke, builtin, hs, hx, this, Result.andThen]
    exact hK _ _ h

/-- slices.Grow at nil -/
def GrowPost (w : World) (e : Ending) (w' : World) : Prop :=
  ∃ cap, e = .returned (.slice (some ⟨w.heap.size, 0, none⟩) 0 cap) ∧ Below w.heap.size w w' ∧ w'.ownsRow w.heap.size 5 1 (.slice (some ⟨w.heap.size, 0, none⟩) 0 cap) 0 []

set_option maxHeartbeats 400000 in
theorem grow_nil (n : Nat) (h0 : 0 < n) (hn : n ≤ 140737488355328) (w : World) :
   Calls Tryz.prog 76 #[.slice none 0 0, .int .i64 n] w (GrowPost w) := by
  obtain ⟨i0, hi, hz0, hz1, hz2⟩ := info_parts info_u8
  have hrun := fun ty => Lib.run_append_grow_zeros (P := Tryz.prog) w 52 3 ty 5 i0 (.int .u8 0) .i64 .i64 Tryz.underlying52 (by kernel_rfl) hi hz0 none 0 0 [] (by simp [Builtin.firstCells]) n h0 (by omega) (by omega) (by omega) (by rw [hz2]; omega)
    (by rw [hz2]; unfold Builtin.nextslicecap; rw [if_pos (by omega)]; omega)
  simp only [Nat.zero_add] at hrun
  obtain ⟨b1, b2⟩ := grownCap_bd w n 0 5 (by omega)
  generalize hc : grownCap w n 0 5 = cap at hrun b1 b2
  clear hi hz0 hz1 hz2 hc
  have H1 := Seal.mk b1
  have H2 := Seal.mk b2
  have HR := Seal.mk hrun
  clear b1 b2 hrun
  go_enter Tryz.func76, Tryz.ntmps76
  go_wp2_with (at_builtin; refine wpList_append_run rfl (.tmp 20) (.tmp 21) 52 3 rfl _ _ _ rfl rfl HR.out ?_)
  go_ret
  refine ⟨cap, rfl, ((Below.refl _ w).alloc (Nat.le_refl _) _).drew, by simp, .inr ⟨w.heap.size, cap, _, rfl, Nat.le_refl _, heap_alloc_new w _, Nat.zero_le _, H2.out, ?_, by simp⟩⟩
  have := H1.out
  simp [Builtin.zeroCells]
  omega

theorem grow_int (n : Int) (h0 : 0 < n) (hn : n ≤ 140737488355328) (w : World) : Calls Tryz.prog 76 #[.slice none 0 0, .int .i64 n] w (GrowPost w) := by
  have := grow_nil n.toNat (by omega) (by omega) w
  rwa [show ((n.toNat : Nat) : Int) = n from by omega] at this

/-- slices.Concat of two -/
def CatPost (w : World) (l : Bytes) (e : Ending) (w' : World) : Prop :=
  ∃ g cap, e = .returned (.slice (some ⟨g, 0, none⟩) l.length cap) ∧ l.length ≤ cap ∧ cap ≤ 9223372036854775807 ∧ w.heap.size ≤ g ∧ g < w'.heap.size ∧ Below w.heap.size w w' ∧ w'.rangeAt g 0 (l.map B)

set_option maxHeartbeats 1000000 in
theorem concat_two (p q g1 o1 n1 c1 g2 o2 n2 c2 cp : Nat) (l1 l2 : Bytes) (w : World) (hp : w.cell? ⟨p, q, none⟩ = some (.slice (some ⟨g1, o1, none⟩) n1 c1)) (hq : w.cell? ⟨p, q + 1, none⟩ = some (.slice (some ⟨g2, o2, none⟩) n2 c2))
    (h1 : l1.length = n1) (h2 : l2.length = n2) (h0 : 0 < n1) (hn : n1 + n2 ≤ 140737488355328) (r1 : w.rangeAt g1 o1 (l1.map B)) (r2 : w.rangeAt g2 o2 (l2.map B)) :
   Calls Tryz.prog 45 #[.slice (some ⟨p, q, none⟩) 2 cp] w (CatPost w (l1 ++ l2)) := by
  have H1 := Seal.mk h1
  have H2 := Seal.mk h2
  have R1 := Seal.mk r1
  have R2 := Seal.mk r2
  clear h1 h2 r1 r2
  go_enter Tryz.func45, Tryz.ntmps45
  go_wp2
  refine wp_loop_rounds 3 ?_
  rw [rounds_succ]
  go_wp2
  rw [rounds_succ]
  go_wp2
  rw [rounds_succ]
  go_wp2_with (go_at_call 76; refine (grow_int _ (by omega) (by omega) _).mono ?_; rintro e w1 ⟨cap, rfl, hb1, hown1⟩)
  have HB1 := Seal.mk hb1
  have HO1 := Seal.mk hown1
  have hp1 : w1.cell? ⟨p, q, none⟩ = some (.slice (some ⟨g1, o1, none⟩) n1 c1) := (hb1.cell (p := ⟨p, q, none⟩) (block_lt_of_cell hp)).trans hp
  have hq1 : w1.cell? ⟨p, q + 1, none⟩ = some (.slice (some ⟨g2, o2, none⟩) n2 c2) := (hb1.cell (p := ⟨p, q + 1, none⟩) (block_lt_of_cell hq)).trans hq
  have hpl := block_lt_of_cell hp
  clear hb1 hown1
  obtain ⟨i0, hi, hz0, hz1, hz2⟩ := info_parts info_u8
  have HI := Seal.mk (And.intro hi (And.intro hz0 (And.intro hz1 hz2)))
  clear hi hz0 hz1 hz2 hp hq
  go_wp2
  refine wp_loop_rounds 3 ?_
  rw [rounds_succ]
  have A1 : Seal ((l1.map B).length = n1 * 1) := ⟨by rw [List.length_map, H1.out, Nat.mul_one]⟩
  have A2 : Seal (∀ j u, (l1.map B)[j]? = some u → w1.cell? ((⟨g1, o1, none⟩ : Addr).add j) = some u) := ⟨fun j u hu => by rw [Addr.add_mid]; exact rangeAt_below' R1.out HB1.out j u hu⟩
  have A3 : Seal (∀ u ∈ l1.map B, u.oneCell' = true) := ⟨by simp [Value.oneCell']⟩
  go_wp2_with (at_builtin; refine wpList_append_own _ rfl (.tmp 31) (.tmp 32) 52 rfl w.heap.size 5 i0 (.int .u8 0) 1 1 Tryz.underlying52 HI.out.1 HI.out.2.1 HI.out.2.2.1 HI.out.2.2.2 rfl (by decide) _ 0 [] rfl HO1.out ⟨g1, o1, none⟩ n1 c1 (l1.map B) rfl A1.out A2.out A3.out (by unfold maxLen; omega) (by omega) HB1.out.size ?_; intro v2 w2 hown2 hgrow2 _)
  have HG2 := Seal.mk hgrow2
  have HO2 := Seal.mk hown2
  have hpn : some p ≠ (Value.slice (some ⟨w.heap.size, 0, none⟩) 0 cap).ownBlock := by intro e; have := Option.some.inj e; simp at this; omega
  have hpz : p < w1.heap.size := block_lt_of_cell hq1
  have hq2 : w2.cell? ⟨p, q + 1, none⟩ = some (.slice (some ⟨g2, o2, none⟩) n2 c2) := (World.cell?_of_block (w := w1) (hgrow2.block p hpz hpn)).trans hq1
  have HB2 : Seal (Below w.heap.size w w2) := ⟨HB1.out.trans (below_of_grown (g := w.heap.size) hgrow2 (Nat.le_refl _) HB1.out.size)⟩
  have B1 : Seal ((l2.map B).length = n2 * 1) := ⟨by rw [List.length_map, H2.out, Nat.mul_one]⟩
  have B2 : Seal (∀ j u, (l2.map B)[j]? = some u → w2.cell? ((⟨g2, o2, none⟩ : Addr).add j) = some u) := ⟨fun j u hu => by rw [Addr.add_mid]; exact rangeAt_below' R2.out HB2.out j u hu⟩
  have B3 : Seal (∀ u ∈ l2.map B, u.oneCell' = true) := ⟨by simp [Value.oneCell']⟩
  clear hgrow2 hown2 hp1 hq1 hpn
  rw [rounds_succ]
  go_wp2_with (at_builtin; refine wpList_append_own _ rfl (.tmp 31) (.tmp 32) 52 rfl w.heap.size 5 i0 (.int .u8 0) 1 1 Tryz.underlying52 HI.out.1 HI.out.2.1 HI.out.2.2.1 HI.out.2.2.2 rfl (by decide) v2 (0 + n1) ([] ++ l1.map B) rfl HO2.out ⟨g2, o2, none⟩ n2 c2 (l2.map B) rfl B1.out B2.out B3.out (by unfold maxLen; omega) (by omega) HB2.out.size ?_; intro v3 w3 hown3 hgrow3 _)
  have HB3 : Seal (Below w.heap.size w w3) := ⟨HB2.out.trans (by
    have hlt := HO2.out.lt
    exact ⟨hgrow3.os, hgrow3.tape, hgrow3.output, hgrow3.size, fun k hk => hgrow3.block k (by have := HB2.out.size; omega) (fun e => by have := (hlt k e.symm).1; omega)⟩)⟩
  have HO3 := Seal.mk hown3
  clear hgrow3 hown3 hq2
  rw [rounds_succ]
  go_wp2
  go_ret
  obtain ⟨hlen, hh⟩ := HO3.out
  rcases hh with ⟨_, h0'⟩ | ⟨g, cap', cur, hv, hg, hheap, hle, hmax, hsize, htake⟩
  · omega
  · refine ⟨g, cap', ?_, by rw [List.length_append, H1.out, H2.out]; omega, hmax, hg, (Array.getElem?_eq_some_iff.1 hheap).1, HB3.out, ?_⟩
    · rw [List.length_append, H1.out, H2.out]
      show Ending.returned v3 = _
      rw [hv, Nat.zero_add]
    · have hr := rangeAt_take (rangeAt_row (cs := cur.toList) (by simpa using hheap)) ((0 + n1 + n2) * 1)
      rw [htake] at hr
      simpa using hr

/-- the bytes of a string, in new memory -/
theorem conv_str (X : World) (tag : ByteArray) (h : tag.size ≤ 9223372036854775807) :
    ∃ c W1, (convert 9 52 (.string tag)).run Tryz.prog X = .ok (.slice (some ⟨X.heap.size, 0, none⟩) tag.size c) W1 ∧ Seal (Below X.heap.size X W1 ∧ W1.rangeAt X.heap.size 0 (tag.data.toList.map B) ∧ tag.size ≤ c ∧ c ≤ 9223372036854775807 ∧ W1.heap.size = X.heap.size + 1) := by
  refine ⟨_, _, Lib.run_convert_string_bytes (P := Tryz.prog) X 9 52 5 tag Tryz.underlying9 Tryz.underlying52 Tryz.underlying5, ⟨?_, ?_, ?_⟩⟩
  · refine ⟨?_, ?_, ?_, by rw [Lib.bytesWorld_size]; omega, fun k hk => Lib.bytesWorld_at_old X _ _ k hk⟩
    · simp [Lib.bytesWorld, World.freeze, World.alloc, World.drew, -World.alloc_eq, -World.drew_eq]
    · simp [Lib.bytesWorld, World.freeze, World.alloc, World.drew, -World.alloc_eq, -World.drew_eq]
    · simp [Lib.bytesWorld, World.freeze, World.alloc, World.drew, -World.alloc_eq, -World.drew_eq]
  · intro j v hv
    have hj : j < tag.size := by
      have := (List.getElem?_eq_some_iff.1 hv).1
      simpa using this
    rw [Nat.zero_add, Lib.bytesWorld_cell X _ _ j hj, ← hv]
    simp [List.getD_eq_getElem?_getD, hj]
  · exact ⟨(grownCap_bd X tag.size 0 _ h).1, (grownCap_bd X tag.size 0 _ h).2, Lib.bytesWorld_size X _ _⟩

/-- a whole array is laid into a new variable -/
theorem wpList_store_new {P : Program} {ops : Array Oper} {rest : List Oper} {o : Oper} {a : Act} {w : World} {Q : Exit → Act → World → Prop} (hgd : o.guard = none) (ty : TypeId) (x y : Operand) (ho : o.op = .store ty x y)
    (old new : List Value) (t : TypeId) (hx : a.eval x = .pointer (some ⟨w.heap.size, 0, none⟩)) (hy : a.eval y = .agg new.toArray) (hi : (P.info? ty).map (·.size) = some new.length) (hold : old.length = new.length) (h1 : ∀ u ∈ new, u.oneCell' = true)
    (h : wpList P ops Q rest (a.put o.dst undef) (w.alloc (.cells new.toArray t))) : wpList P ops Q (o :: rest) a (w.alloc (.cells old.toArray t)) :=
  wpList_store_row hgd ty x y ho w.heap.size new.toArray hx hy t old.toArray (heap_alloc_new w _) (by simpa using hi) (by simpa using hold) (by simpa using h1) (by rw [setRow_new]; exact h)

theorem sha_info (l : Bytes) : (Tryz.prog.info? 42).map (·.size) = some ((sha l).map B).length := by rw [List.length_map, sha_length]; kernel_rfl

set_option maxHeartbeats 1000000 in
theorem tagged_some (tag : ByteArray) (g off len cap : Nat) (l : Bytes) (w : World) (hG : Glob w) (ht : 0 < tag.size) (ht2 : tag.size ≤ 64) (hl : l.length = len) (_hlc : len ≤ cap) (hlm : len + 32 ≤ 140737488355328) (_hm : cap ≤ 9223372036854775807)
    (hr : w.rangeAt g off (l.map B)) (_hg : g < w.heap.size) :
   Calls Tryz.prog 14 #[.string tag, .slice (some ⟨g, off, none⟩) len cap] w fun e w' => e = .returned (.agg ((tagged tag.data.toList l).map B).toArray) ∧ Below w.heap.size w w' := by
  obtain ⟨ct, W1, hrun, hW1⟩ := conv_str (w.alloc (.cells #[.int .u8 0, .int .u8 0, .int .u8 0, .int .u8 0, .int .u8 0, .int .u8 0, .int .u8 0, .int .u8 0, .int .u8 0, .int .u8 0, .int .u8 0, .int .u8 0, .int .u8 0, .int .u8 0, .int .u8 0, .int .u8 0, .int .u8 0, .int .u8 0, .int .u8 0, .int .u8 0, .int .u8 0, .int .u8 0, .int .u8 0, .int .u8 0, .int .u8 0, .int .u8 0, .int .u8 0, .int .u8 0, .int .u8 0, .int .u8 0, .int .u8 0, .int .u8 0] 42)) tag (by omega)
  have HG := Seal.mk hG
  have HR := Seal.mk hr
  have HL := Seal.mk hl
  have hsz1 := hW1.out.2.2.2.2
  rw [size_alloc] at hrun hsz1
  have HS1 := Seal.mk hsz1
  have HG1 : Glob W1 := (hG.below (below_alloc w _)).below hW1.out.1
  have hr1 : W1.rangeAt (w.heap.size + 1) 0 (tag.data.toList.map B) := by have := hW1.out.2.1; rwa [size_alloc] at this
  have HC1 := Seal.mk (sum_some (w.heap.size + 1) 0 tag.size ct tag.data.toList W1 HG1 (by simp) hW1.out.2.2.1 (by omega) hW1.out.2.2.2.1 hr1 (by omega))
  clear hG hr hl hsz1 HG1 hr1
  go_enter Tryz.func14, Tryz.ntmps14
  have HD1 : Seal ((Tryz.prog.info? 42).map (·.size) = some ((sha tag.data.toList).map B).length) := ⟨sha_info _⟩
  have HD2 : Seal (((sha tag.data.toList).map B).length = 32) := ⟨by rw [List.length_map, sha_length]⟩
  have HD3 : Seal (∀ u ∈ (sha tag.data.toList).map B, u.oneCell' = true) := ⟨by simp [Value.oneCell']⟩
  obtain ⟨D, hD⟩ : ∃ D, Seal (D = (sha tag.data.toList).map B) := ⟨_, ⟨rfl⟩⟩
  rw [← hD.out] at HD1 HD2 HD3 HC1
  go_wp2_with (first | (go_at_call 44; refine HC1.out.mono ?_; rintro e w2 ⟨rfl, hb2⟩) | (refine wpList_store_new rfl 42 (.tmp 5) (.tmp 8) rfl [.int .u8 0, .int .u8 0, .int .u8 0, .int .u8 0, .int .u8 0, .int .u8 0, .int .u8 0, .int .u8 0, .int .u8 0, .int .u8 0, .int .u8 0, .int .u8 0, .int .u8 0, .int .u8 0, .int .u8 0, .int .u8 0, .int .u8 0, .int .u8 0, .int .u8 0, .int .u8 0, .int .u8 0, .int .u8 0, .int .u8 0, .int .u8 0, .int .u8 0, .int .u8 0, .int .u8 0, .int .u8 0, .int .u8 0, .int .u8 0, .int .u8 0, .int .u8 0] D 42 rfl rfl HD1.out HD2.out.symm HD3.out ?_))
  have hs1 := HS1.out
  have hb0 : Below w.heap.size w w2 := (below_alloc w _).trans ((hW1.out.1.mono (by rw [size_alloc]; omega)).trans (hb2.mono (by omega)))
  have HB0 := Seal.mk hb0
  have hz1 : W1.heap[w.heap.size]? = some (.cells #[.int .u8 0, .int .u8 0, .int .u8 0, .int .u8 0, .int .u8 0, .int .u8 0, .int .u8 0, .int .u8 0, .int .u8 0, .int .u8 0, .int .u8 0, .int .u8 0, .int .u8 0, .int .u8 0, .int .u8 0, .int .u8 0, .int .u8 0, .int .u8 0, .int .u8 0, .int .u8 0, .int .u8 0, .int .u8 0, .int .u8 0, .int .u8 0, .int .u8 0, .int .u8 0, .int .u8 0, .int .u8 0, .int .u8 0, .int .u8 0, .int .u8 0, .int .u8 0] 42 (0, 0)) := (hW1.out.1.block _ (by rw [size_alloc]; omega)).trans (heap_alloc_new w _)
  have hz2' : w2.heap[w.heap.size]? = some (.cells #[.int .u8 0, .int .u8 0, .int .u8 0, .int .u8 0, .int .u8 0, .int .u8 0, .int .u8 0, .int .u8 0, .int .u8 0, .int .u8 0, .int .u8 0, .int .u8 0, .int .u8 0, .int .u8 0, .int .u8 0, .int .u8 0, .int .u8 0, .int .u8 0, .int .u8 0, .int .u8 0, .int .u8 0, .int .u8 0, .int .u8 0, .int .u8 0, .int .u8 0, .int .u8 0, .int .u8 0, .int .u8 0, .int .u8 0, .int .u8 0, .int .u8 0, .int .u8 0] 42 (0, 0)) := (hb2.block _ (by omega)).trans hz1
  have hz2 : w.heap.size + 2 ≤ w2.heap.size := by have := hb2.size; omega
  have hX : Below w.heap.size w ((w2.alloc (.cells D.toArray 42)).alloc (.cells #[.slice (some ⟨w2.heap.size, 0, none⟩) 32 32, .slice (some ⟨g, off, none⟩) len cap] 52)) :=
    (hb0.alloc hb0.size _).alloc (by rw [size_alloc]; have := hb0.size; omega) _
  have hrow : ((w2.alloc (.cells D.toArray 42)).alloc (.cells #[.slice (some ⟨w2.heap.size, 0, none⟩) 32 32, .slice (some ⟨g, off, none⟩) len cap] 52)).heap[w2.heap.size + 1]? = some (.cells #[.slice (some ⟨w2.heap.size, 0, none⟩) 32 32, .slice (some ⟨g, off, none⟩) len cap] 52) := heap_alloc2_new w2 _ _
  have hdr : ((w2.alloc (.cells D.toArray 42)).alloc (.cells #[.slice (some ⟨w2.heap.size, 0, none⟩) 32 32, .slice (some ⟨g, off, none⟩) len cap] 52)).rangeAt w2.heap.size 0 ((sha tag.data.toList).map B) := by
    rw [← hD.out]; exact World.rangeAt_alloc (rangeAt_new w2 D _ _) _
  have HC2 := Seal.mk (concat_two (w2.heap.size + 1) 0 w2.heap.size 0 32 32 g off len cap 2 (sha tag.data.toList) l _ (cell_of_row _ _ _ _ _ _ hrow) (cell_of_row _ _ _ _ _ _ hrow) (sha_length _) HL.out (by decide) (by omega) hdr (rangeAt_below' HR.out hX))
  have HX := Seal.mk hX
  have HDR := Seal.mk hdr
  have HZ : Seal (((w2.alloc (.cells D.toArray 42)).alloc (.cells #[.slice (some ⟨w2.heap.size, 0, none⟩) 32 32, .slice (some ⟨g, off, none⟩) len cap] 52)).heap[w.heap.size]? = some (.cells #[.int .u8 0, .int .u8 0, .int .u8 0, .int .u8 0, .int .u8 0, .int .u8 0, .int .u8 0, .int .u8 0, .int .u8 0, .int .u8 0, .int .u8 0, .int .u8 0, .int .u8 0, .int .u8 0, .int .u8 0, .int .u8 0, .int .u8 0, .int .u8 0, .int .u8 0, .int .u8 0, .int .u8 0, .int .u8 0, .int .u8 0, .int .u8 0, .int .u8 0, .int .u8 0, .int .u8 0, .int .u8 0, .int .u8 0, .int .u8 0, .int .u8 0, .int .u8 0] 42 (0, 0))) :=
    ⟨by rw [Below.heap_alloc _ _ _ (by rw [size_alloc]; omega), Below.heap_alloc _ _ _ (by omega)]; exact hz2'⟩
  clear hz1 hz2'
  clear hb2 hb0 hX hrow hdr hrun HC1 hs1
  refine HC2.out.mono ?_
  rintro e w3 ⟨g3, c3, rfl, hc3, hc4, hg3, hg4, hb3, hr3⟩
  have HB3 := Seal.mk hb3
  have HR3 := Seal.mk hr3
  have hlen3 : (sha tag.data.toList ++ l).length = 32 + len := by rw [List.length_append, sha_length, HL.out]
  have HC3 := Seal.mk (sum_some g3 0 (32 + len) c3 (sha tag.data.toList ++ l) w3 ((HG.out.below HX.out).below hb3) hlen3 (by rw [← hlen3]; exact hc3) (by omega) hc4 hr3 hg4)
  rw [hlen3]
  clear hb3 hr3 hc3 hlen3 HC2
  have HE1 : Seal ((Tryz.prog.info? 42).map (·.size) = some ((sha (sha tag.data.toList ++ l)).map B).toArray.size) := ⟨by rw [List.size_toArray]; exact sha_info _⟩
  have HE2 : Seal (((sha (sha tag.data.toList ++ l)).map B).toArray.size = 32) := ⟨by rw [List.size_toArray, List.length_map, sha_length]⟩
  have HE3 : Seal (((sha (sha tag.data.toList ++ l)).map B).toArray.all (·.oneCell') = true) := ⟨by simp [Value.oneCell']⟩
  obtain ⟨E, hE⟩ : ∃ E, Seal (E = ((sha (sha tag.data.toList ++ l)).map B).toArray) := ⟨_, ⟨rfl⟩⟩
  rw [← hE.out] at HE1 HE2 HE3 HC3
  have hZ3 : w3.heap[w.heap.size]? = some (.cells #[.int .u8 0, .int .u8 0, .int .u8 0, .int .u8 0, .int .u8 0, .int .u8 0, .int .u8 0, .int .u8 0, .int .u8 0, .int .u8 0, .int .u8 0, .int .u8 0, .int .u8 0, .int .u8 0, .int .u8 0, .int .u8 0, .int .u8 0, .int .u8 0, .int .u8 0, .int .u8 0, .int .u8 0, .int .u8 0, .int .u8 0, .int .u8 0, .int .u8 0, .int .u8 0, .int .u8 0, .int .u8 0, .int .u8 0, .int .u8 0, .int .u8 0, .int .u8 0] 42 (0, 0)) := (HB3.out.block _ (by have := HX.out.size; rw [size_alloc, size_alloc]; omega)).trans HZ.out
  have HZ3 := Seal.mk hZ3
  have h3z : w.heap.size < w3.heap.size := (Array.getElem?_eq_some_iff.1 hZ3).1
  have HB4 := Seal.mk ((HX.out.trans (HB3.out.mono HX.out.size)))
  clear hZ3
  go_wp2_with (first | (go_at_call 44; refine HC3.out.mono ?_; rintro e w4 ⟨rfl, hb4⟩; have HZ4 := Seal.mk ((hb4.block _ h3z).trans HZ3.out); have HB5 := Seal.mk (HB4.out.trans (hb4.mono (Nat.le_of_lt h3z))); clear hb4) | (refine wpList_store_row rfl 42 (.tmp 4) (.tmp 13) rfl w.heap.size E rfl rfl 42 _ HZ4.out HE1.out HE2.out.symm HE3.out ?_))
  refine bodyPost_ret (results_cell_row (fn := Tryz.f14) rfl _ _ w.heap.size 42 E (0, 0) _ rfl (setRow_heap _ _ _ _ _ _ HZ4.out) Tryz.underlying42 rfl HE1.out) rfl ⟨?_, below_row HB5.out (Nat.le_refl _) _⟩
  rw [hE.out]
  rfl
end Frk

/- The encoding of lists of numbers and texts. -/
namespace Frk

/-- the digits of a number, the least one first; f bounds their number -/
def numF : Nat → Nat → Bytes
  | 0, _ => []
  | f + 1, u => if u < 128 then [UInt8.ofNat u] else UInt8.ofNat (u % 128 + 128) :: numF f (u / 128)

def numeral (u : Nat) : Bytes := numF 10 u

/-- the unsigned form of a number -/
def zig (n : Int) : Nat := if 0 ≤ n then (2 * n).toNat else (2 * (-(n + 1)) + 1).toNat

inductive Lf where
  | i (n : Int)
  | t (b : Bytes)

def Lf.enc : Lf → Bytes
  | .i n => 1 :: numeral (zig n)
  | .t b => 2 :: (numeral b.length ++ b)

def encs : List Lf → Bytes
  | [] => []
  | x :: l => x.enc ++ encs l

/-- the encoding of a list -/
def encL (l : List Lf) : Bytes := 3 :: (numeral l.length ++ encs l)

theorem encs_append : ∀ l m, encs (l ++ m) = encs l ++ encs m
  | [], m => rfl
  | x :: l, m => by simp [encs, encs_append l m]

def Lf.fits : Lf → Prop
  | .i n => -9223372036854775808 ≤ n ∧ n ≤ 9223372036854775807
  | .t b => b.length < 2 ^ 63

theorem zig_lt {n : Int} (h : -9223372036854775808 ≤ n ∧ n ≤ 9223372036854775807) : zig n < 2 ^ 64 := by
  unfold zig; split <;> omega

/-- a number out of a hash -/
def hashN (d : Bytes) : Nat := ((((((((d.getD 0 0).toNat % 128 * 256 + (d.getD 1 0).toNat) * 256 + (d.getD 2 0).toNat) * 256 + (d.getD 3 0).toNat) * 256 + (d.getD 4 0).toNat) * 256 + (d.getD 5 0).toNat) * 256 + (d.getD 6 0).toNat) * 256 + (d.getD 7 0).toNat) % 1073741789

def ghash (tag b : Bytes) : Nat := hashN (tagged tag b)

end Frk

