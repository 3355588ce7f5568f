/- The program's codec.Encode at flat lists, the list itself. -/
import Derived.Test.YtllbjakfjpjfnaaGreatDoorVxEnc
namespace Frk
open Go Go.RowKit Go.Proofs
set_option maxRecDepth 100000

/-- leaves that lie in a row -/
def LeavesAt (w : World) (g off : Nat) (xs : List Lf) : Prop :=
  ∀ (k : Nat) (x : Lf), xs[k]? = some x → ∀ (j : Nat) (c : Value), x.cells[j]? = some c → w.cell? ⟨g, off + k * 4 + j, none⟩ = some c

/-- the writer, below base -/
structure Writer (w : World) (wp wb base : Nat) : Prop where
  lp : wp < base
  lb : wb < base
  cp : w.cell? ⟨wp, 0, none⟩ = some (.pointer (some ⟨wb, 0, none⟩))
  c1 : w.cell? ⟨wb, 1, none⟩ = some (.func (.func 69) #[] #[])
  c2 : w.cell? ⟨wb, 2, none⟩ = some (.func (.func 72) #[] #[])
  c3 : w.cell? ⟨wb, 3, none⟩ = some (.func (.func 73) #[] #[.pointer (some ⟨wp, 0, none⟩)])

theorem Writer.below {w w' : World} {wp wb base : Nat} (h : Writer w wp wb base) (hb : Below base w w') : Writer w' wp wb base :=
  ⟨h.lp, h.lb, (hb.cell (p := ⟨wp, 0, none⟩) h.lp).trans h.cp, (hb.cell (p := ⟨wb, 1, none⟩) h.lb).trans h.c1, (hb.cell (p := ⟨wb, 2, none⟩) h.lb).trans h.c2, (hb.cell (p := ⟨wb, 3, none⟩) h.lb).trans h.c3⟩

theorem LeavesAt.below {w w' : World} {g off base : Nat} {xs : List Lf} (h : LeavesAt w g off xs) (hb : Below base w w') (hg : g < base) : LeavesAt w' g off xs :=
  fun k x hx j c hc => (hb.cell (p := ⟨g, _, none⟩) hg).trans (h k x hx j c hc)

/-- bytes of the texts of leaves -/
def Lf.wgt : Lf → Nat
  | .i _ => 11
  | .t b => b.length + 11
def wgts (xs : List Lf) : Nat := (xs.map Lf.wgt).sum
theorem enc_length (x : Lf) : x.enc.length ≤ x.wgt := by
  cases x with
  | i n => have := numF_length 10 (zig n); simp [Lf.enc, numeral, Lf.wgt]; omega
  | t b => have := numF_length 10 b.length; simp [Lf.enc, numeral, Lf.wgt]; omega
theorem encs_length : ∀ xs : List Lf, (encs xs).length ≤ wgts xs
  | [] => by simp [encs]
  | x :: xs => by
    have h1 := enc_length x
    have h2 := encs_length xs
    simp [encs, wgts] at *; omega

theorem wgts_cons (x : Lf) (xs : List Lf) : wgts (x :: xs) = x.wgt + wgts xs := by simp [wgts]
theorem wgts_ge : ∀ xs : List Lf, xs.length ≤ wgts xs
  | [] => Nat.le_refl _
  | x :: xs => by
    have h := wgts_ge xs
    have : 11 ≤ x.wgt := by cases x <;> simp [Lf.wgt]
    rw [wgts_cons, List.length_cons]; omega
theorem encs_take_length (xs : List Lf) (k : Nat) : (encs (xs.take k)).length ≤ wgts (xs.take k) := encs_length _
theorem wgts_append : ∀ a b : List Lf, wgts (a ++ b) = wgts a + wgts b
  | [], b => by simp [wgts]
  | x :: a, b => by rw [List.cons_append, wgts_cons, wgts_cons, wgts_append a b]; omega
theorem wgts_take (xs : List Lf) (k : Nat) (x : Lf) (h : xs[k]? = some x) : wgts (xs.take k) + x.wgt ≤ wgts xs := by
  have h1 : xs = xs.take k ++ x :: xs.drop (k + 1) := by
    obtain ⟨hk, rfl⟩ := List.getElem?_eq_some_iff.1 h
    rw [← List.drop_eq_getElem_cons hk, List.take_append_drop]
  have h2 := congrArg wgts h1
  rw [wgts_append, wgts_cons] at h2
  omega
theorem encs_take_succ (xs : List Lf) (k : Nat) (x : Lf) (h : xs[k]? = some x) : encs (xs.take (k + 1)) = encs (xs.take k) ++ x.enc := by
  obtain ⟨hk, rfl⟩ := List.getElem?_eq_some_iff.1 h
  rw [List.take_succ_eq_append_getElem hk, encs_append]
  simp [encs]

/-- where the loop over the leaves stands -/
def LeafRel (base : Nat) (v0 : Value) (pre : Bytes) (xs : List Lf) (w0 : World) (a i : Value) (w : World) : Prop :=
  ∃ (k n : Nat), k ≤ xs.length ∧ i = .int .i64 k ∧ Seal ((pre ++ encs (xs.take k)).length = n) ∧ Seal (Own w base a (pre ++ encs (xs.take k))) ∧ Seal (w0.grownBy w v0.ownBlock) ∧ Seal (RowNew w0 v0.ownBlock a.ownBlock)

theorem LeafRel.next {base : Nat} {v0 a : Value} {pre : Bytes} {xs : List Lf} {w0 wr X w4 : World} {j g4 n4 cap4 : Nat} {x : Lf} (hj : j < xs.length) (hx : encs (xs.take (j + 1)) = encs (xs.take j) ++ x.enc)
    (hg : w0.grownBy wr v0.ownBlock) (hr : RowNew w0 v0.ownBlock a.ownBlock) (hX : wr.grownBy X a.ownBlock) (hn4 : ((pre ++ encs (xs.take j)) ++ x.enc).length = n4)
    (hown4 : Own w4 base (.slice (some ⟨g4, 0, none⟩) n4 cap4) ((pre ++ encs (xs.take j)) ++ x.enc)) (hgz : X.grownBy w4 a.ownBlock) (hrn4 : RowNew X a.ownBlock (some g4)) :
    LeafRel base v0 pre xs w0 (.slice (some ⟨g4, 0, none⟩) n4 cap4) (.int .i64 ((j + 1 : Nat) : Int)) w4 := by
  rw [List.append_assoc, ← hx] at hn4 hown4
  exact ⟨j + 1, n4, hj, rfl, ⟨hn4⟩, ⟨hown4⟩, ⟨grown_trans (grown_trans hg hX hr) hgz hr⟩, ⟨(hr.trans hrn4 (Nat.le_trans hg.size hX.size))⟩⟩

theorem below_grow {w w' : World} {base : Nat} {r : Option Nat} (h : w.grownBy w' r) (hr : ∀ j, r = some j → base ≤ j) (hb : base ≤ w.heap.size) : Below base w w' :=
  ⟨h.os, h.tape, h.output, h.size, fun k hk => h.block k (by omega) (fun e => by have := hr k e.symm; omega)⟩

set_option maxHeartbeats 1000000 in
theorem write_list (base wp wb : Nat) (v : Value) (n : Nat) (l : Bytes) (g off k cap : Nat) (xs : List Lf) (x : Int) (s : ByteArray) (w : World) (hn : l.length = n) (hown : Own w base v l) (hk : xs.length = k) (hkc : k ≤ cap)
    (hl : n + wgts xs + 22 ≤ 140737488355328) (hb : base ≤ w.heap.size) (hW : Writer w wp wb base) (hL : LeavesAt w g off xs) (hg : g < base) (hf : ∀ y ∈ xs, y.fits) :
    Calls Tryz.prog 73 #[v, .agg #[.int .i64 3, .int .i64 x, .string s, .slice (some ⟨g, off, none⟩) k cap], .pointer (some ⟨wp, 0, none⟩)] w (OwnPost base v (l ++ encL xs) w) := by
  obtain ⟨i0, hi, hz0, hz1, hz2⟩ := info_parts info_u8
  have HI := Seal.mk (And.intro hi (And.intro hz0 (And.intro hz1 hz2)))
  have HO := Seal.mk (hown.len hn)
  have hvb : v.ownBlock ≠ some w.heap.size := fun e => by have := (HO.out.lt _ e).2; omega
  have HN := Seal.mk hn
  have HV : Seal (∀ j, v.ownBlock = some j → base ≤ j) := ⟨fun j e => (HO.out.lt j e).1⟩
  have HK := Seal.mk hk
  have hkm : k ≤ 140737488355328 := by
    have := wgts_ge xs
    omega
  have hk9 : (k : Int) ≤ 9223372036854775807 := by omega
  have hwr : IntKind.u64.wrap (k : Int) = (k : Int) := by rw [IntKind.wrap_u64]; omega
  have HN1 : Seal ((l ++ [(3 : UInt8)]).length = n + 1) := ⟨by rw [List.length_append, hn]; rfl⟩
  have HE : Seal (l ++ encL xs = ((l ++ [(3 : UInt8)]) ++ numeral k) ++ encs xs) := ⟨by rw [encL, hk]; simp⟩
  have HW := Seal.mk hW
  have HL := Seal.mk hL
  have HF := Seal.mk hf
  have HB := Seal.mk hl
  have hn' : n + 11 ≤ 140737488355328 := by omega
  clear hn hi hz0 hz1 hz2 hown hk hW hL hf hl
  go_enter Tryz.func73, Tryz.ntmps73
  go_wp2_with fail
  go_region_held3 (fun w' => w'.cell? ⟨w.heap.size, 3, none⟩ = some (.slice (some ⟨g, off, none⟩) k cap)) (first | go_keep | (rw [hgrow2.out.cell_far _ (by have := hgrow1.size; simp at this; simp; omega) (by intro e; rcases hat with h | h; exact hvb (h.trans e.symm); have := Option.some.inj e; simp at h this; omega)]; assumption) | (rw [hgrow1.cell_far _ (by simp; omega) (Ne.symm hvb)]; simp; done)) (first
    | (refine step_append_lies _ (by rfl) (.tmp 8) (.tmp 9) 52 (by rfl) base 5 i0 (.int .u8 0) 1 1 Tryz.underlying52 HI.out.1 HI.out.2.1 HI.out.2.2.1 HI.out.2.2.2 rfl (by decide) v n (l.map B) (by rfl) (by exact (HO.out.alloc _).alloc _)
        ⟨w.heap.size + 1, 0, none⟩ 1 1 [.int .u8 3] (by rfl) (by rfl) (World.news_of_block (cs := #[.int .u8 3]) (t := 5) (fr := (0, 0)) (by exact heap_alloc2_new w _ _)) (by simp [Value.oneCell']) (by decide) (by unfold maxLen; omega) (by omega) (by simp; omega) _ (by rfl) ?_; intro g1 cap1 w1 hown1 hgrow1 hat hlt)
    | (go_at_call 70; refine (numeral_any base _ (n + 1) (l ++ [3]) k w1 HN1.out (Own.snoc (c := 3) (by exact hown1) HN.out rfl) (by omega) (by omega) (by have := hgrow1.size; simp at this; omega)).mono ?_; rintro e w2 ⟨g2, n2, cap2, hn2, rfl, hown2, hgrow2, hrn2⟩
       have hle := num_len HN1.out hn2.out
       have hlt2 : w.heap.size < w2.heap.size := by have := hgrow1.size; have := hgrow2.out.size; simp at *; omega))
  have hG2 : w.grownBy w2 v.ownBlock := grown_trans (grown_trans (grown_drew1 (World.grownBy_alloc2 w _ _ _)) hgrow1 (.inl rfl)) hgrow2.out (rowNew_of hat (by simp; omega))
  have hN2 : RowNew w v.ownBlock (some g2) := (rowNew_of (w := w) hat (by simp; omega)).trans hrn2.out (by have := hgrow1.size; simp at this; omega)
  have hne2 : some w.heap.size ≠ some g1 := by intro e; rcases hat with h | h; exact hvb (h.trans (by rw [Option.some.inj e])); have := Option.some.inj e; simp at h this; omega
  have c3 : w2.cell? ⟨w.heap.size, 3, none⟩ = some (.slice (some ⟨g, off, none⟩) k cap) := by
    rw [hgrow2.out.cell_far _ (by have := hgrow1.size; simp at this; simp; omega) hne2, hgrow1.cell_far _ (by simp; omega) (Ne.symm hvb)]; simp
  have HS : Seal (LeafRel base v ((l ++ [(3 : UInt8)]) ++ numeral k) xs w (.slice (some ⟨g2, 0, none⟩) n2 cap2) (.int .i64 ((0 : Nat) : Int)) w2) :=
    ⟨⟨0, n2, Nat.zero_le _, rfl, ⟨by simpa [encs] using hn2.out⟩, ⟨by simpa [encs] using hown2.out⟩, ⟨hG2⟩, ⟨hN2⟩⟩⟩
  have HP : Seal (((l ++ [(3 : UInt8)]) ++ numeral k).length ≤ n + 11) := ⟨by rw [hn2.out]; exact hle⟩
  have HP1 : Seal (0 < ((l ++ [(3 : UInt8)]) ++ numeral k).length) := ⟨by simp; omega⟩
  generalize (l ++ [(3 : UInt8)]) ++ numeral k = pre at HS HP HE HP1
  clear hgrow1 hown1 hgrow2 hown2 hrn2 hn2 hat hlt hne2 hG2 hN2 HN1 HI HO hvb HN
  go_wp2
  go_loopw [0, 19] (fun a i wr => LeafRel base v pre xs w a i wr) (fun _ i _ => k - (intOf i).toNat)
  case atStart => exact HS.out
  case round =>
    clear HS
    obtain ⟨j, n', hj, rfl, hn', hown', hgr', hrn'⟩ := hrel
    have hBw : Below base w wr := below_grow hgr'.out HV.out hb
    have hW' := HW.out.below hBw
    have hL' := HL.out.below hBw hg
    have hbs : base ≤ wr.heap.size := by have := hgr'.out.size; omega
    rw [HK.out] at hj
    by_cases hlt : j < k
    · obtain ⟨x, hx⟩ : ∃ x, xs[j]? = some x := ⟨_, List.getElem?_eq_getElem (by rw [HK.out]; exact hlt)⟩
      have hfx := HF.out x (List.mem_of_getElem? hx)
      have hwt := wgts_take xs j x hx
      have hel := encs_take_length xs j
      have hnn : n' ≤ n + 11 + wgts (xs.take j) := by
        have := hn'.out; rw [List.length_append] at this; have := HP.out; omega
      have hHB := HB.out
      have HX := Seal.mk (encs_take_succ xs j x hx)
      cases x with
      | i m =>
        have c0 := hL' j _ hx 0 _ rfl
        have c1 := hL' j _ hx 1 _ rfl
        have c2 := hL' j _ hx 2 _ rfl
        have c3 := hL' j _ hx 3 _ rfl
        have hc := hW'.cp
        have hc1 := hW'.c1
        have hlp := hW'.lp
        have hlb := hW'.lb
        have hOu := hown'.out.len hn'.out
        have hq1 : some wp ≠ u0.ownBlock := fun e => by have := (hOu.lt _ e.symm).1; omega
        have hq2 : some wb ≠ u0.ownBlock := fun e => by have := (hOu.lt _ e.symm).1; omega
        have hq3 : some wr.heap.size ≠ u0.ownBlock := fun e => by have := (hOu.lt _ e.symm).2; omega
        have hb1 : n' + 11 ≤ 140737488355328 := by simp [Lf.wgt] at hwt; omega
        have HO' := Seal.mk hOu
        have HN' := hn'
        have HG' := hgr'
        have HR' := hrn'
        rw [Nat.add_zero] at c0
        clear hW' hL' hBw hx hwt hel hn' hown' hgr' hrn' hHB hnn hOu
        go_wp2
        go_region_held3 (fun w' => w'.cell? ⟨wp, 0, none⟩ = some (.pointer (some ⟨wb, 0, none⟩)) ∧ w'.cell? ⟨wb, 1, none⟩ = some (.func (.func 69) #[] #[]) ∧
            w'.cell? ⟨wr.heap.size, 0, none⟩ = some (.int .i64 1) ∧ w'.cell? ⟨wr.heap.size, 1, none⟩ = some (.int .i64 m) ∧ w'.cell? ⟨wr.heap.size, 2, none⟩ = some (.string ByteArray.empty) ∧ w'.cell? ⟨wr.heap.size, 3, none⟩ = some (.slice none 0 0)) (first | go_keep | ((try dsimp only); (repeat' apply And.intro) <;> (first | go_keep | (rw [hgz.out.cell_far _ (by simp; omega) hq1]; go_simp; done) | (rw [hgz.out.cell_far _ (by simp; omega) hq2]; go_simp; done) | (rw [hgz.out.cell_far _ (by simp) hq3]; go_simp; done)))) (first
          | (go_at_call 69; refine (write_int base u0 n' (pre ++ encs (xs.take j)) m ByteArray.empty (.slice none 0 0) _ HN'.out (by unfold Own; rw [HN'.out]; exact HO'.out.alloc _) hb1 (by simp; omega) hfx.1 hfx.2).mono ?_; rintro e w4 ⟨g4, n4, cap4, hn4, rfl, hown4, hgz, hrn4⟩))
        go_wp2
        rw [show ((j : Nat) : Int) + 1 = ((j + 1 : Nat) : Int) from rfl]
        refine ⟨LeafRel.next (by rw [HK.out]; exact hlt) HX.out HG'.out HR'.out (grown_drew1 (World.grownBy_alloc wr _ _)) hn4.out hown4.out hgz.out hrn4.out, ?_⟩
        simp only [intOf]; omega
      | t b =>
        obtain ⟨s2, rfl⟩ : ∃ s : ByteArray, b = s.data.toList := ⟨⟨b.toArray⟩, by simp⟩
        obtain ⟨m2, hm2⟩ : ∃ m2, s2.size = m2 := ⟨_, rfl⟩
        have HM2 := Seal.mk hm2
        clear hm2
        have c0 := hL' j _ hx 0 _ rfl
        have c1 := hL' j _ hx 1 _ rfl
        have c2 := hL' j _ hx 2 _ rfl
        have c3 := hL' j _ hx 3 _ rfl
        have hc := hW'.cp
        have hc1 := hW'.c2
        have hlp := hW'.lp
        have hlb := hW'.lb
        have hOu := hown'.out.len hn'.out
        have hq1 : some wp ≠ u0.ownBlock := fun e => by have := (hOu.lt _ e.symm).1; omega
        have hq2 : some wb ≠ u0.ownBlock := fun e => by have := (hOu.lt _ e.symm).1; omega
        have hq3 : some wr.heap.size ≠ u0.ownBlock := fun e => by have := (hOu.lt _ e.symm).2; omega
        have hb1 : n' + m2 + 11 ≤ 140737488355328 := by have e : s2.data.toList.length = m2 := HM2.out; simp only [Lf.wgt, e] at hwt; omega
        have HO' := Seal.mk hOu
        have HN' := hn'
        have HG' := hgr'
        have HR' := hrn'
        rw [Nat.add_zero] at c0
        clear hW' hL' hBw hx hwt hel hn' hown' hgr' hrn' hHB hnn hOu
        go_wp2
        go_region_held3 (fun w' => w'.cell? ⟨wp, 0, none⟩ = some (.pointer (some ⟨wb, 0, none⟩)) ∧ w'.cell? ⟨wb, 2, none⟩ = some (.func (.func 72) #[] #[]) ∧
            w'.cell? ⟨wr.heap.size, 0, none⟩ = some (.int .i64 2) ∧ w'.cell? ⟨wr.heap.size, 1, none⟩ = some (.int .i64 0) ∧ w'.cell? ⟨wr.heap.size, 2, none⟩ = some (.string s2) ∧ w'.cell? ⟨wr.heap.size, 3, none⟩ = some (.slice none 0 0)) (first | go_keep | ((try dsimp only); (repeat' apply And.intro) <;> (first | go_keep | (rw [hgz.out.cell_far _ (by simp; omega) hq1]; go_simp; done) | (rw [hgz.out.cell_far _ (by simp; omega) hq2]; go_simp; done) | (rw [hgz.out.cell_far _ (by simp) hq3]; go_simp; done)))) (first
          | (go_at_call 72; refine (write_text base u0 n' (pre ++ encs (xs.take j)) 0 s2 m2 (.slice none 0 0) _ HN'.out HM2.out (by unfold Own; rw [HN'.out]; exact HO'.out.alloc _) hb1 (by simp; omega)).mono ?_; rintro e w4 ⟨g4, n4, cap4, hn4, rfl, hown4, hgz, hrn4⟩))
        go_wp2
        rw [show ((j : Nat) : Int) + 1 = ((j + 1 : Nat) : Int) from rfl]
        refine ⟨LeafRel.next (by rw [HK.out]; exact hlt) HX.out HG'.out HR'.out (grown_drew1 (World.grownBy_alloc wr _ _)) hn4.out hown4.out hgz.out hrn4.out, ?_⟩
        simp only [intOf]; omega
    · obtain rfl : j = k := by omega
      have HT : Seal (encs (xs.take j) = encs xs) := ⟨by rw [List.take_of_length_le (by rw [HK.out]; exact Nat.le_refl _)]⟩
      rw [HT.out] at hn' hown'
      clear hW' hL' hBw
      go_wp2
      go_ret
      have hO := hown'.out.len hn'.out
      obtain ⟨g5, cap5, rfl, _, _⟩ := hO.form (by have := hn'.out; rw [List.length_append] at this; have := HP1.out; omega)
      exact ⟨g5, n', cap5, ⟨by rw [HE.out]; exact hn'.out⟩, rfl, ⟨by rw [HE.out]; exact hown'.out⟩, hgr', hrn'⟩
end Frk
