/- Parts of the proof, joined. -/
import Derived.Test.YtemoomfnmiodeaaGreatDoorVsKsv
import Derived.Test.YtemoomfnmiodeaaGreatDoorVsRsb
import Derived.Test.YtemoomfnmiodeaaGreatDoorVsgGen
import Derived.Test.YtemoomfnmiodeaaGreatDoorRows
import Derived.Test.YtemoomfnmiodeaaGreatDoorTie
import Derived.Test.YtemoomfnmiodeaaGreatDoorCards
import Derived.ProofKit
import Derived.LaidMore
import Derived.OpenShut
import Derived.Carry
import Derived.ChangeSame
import Derived.ChangeSlices
import Derived.Stop.Joined
import Derived.SevenTiedAt
import Derived.Lib.SmallJoins
/- Law 45: DeadSendSpec's walk. -/
namespace Frk
open Go Go.RowKit Go.Proofs
set_option maxRecDepth 100000

theorem sendF_mem {l : List Ltr} {n a b n0 n1 n2 : Int} : ∀ z ∈ (sendF l n a b n0 n1 n2).1, z ∈ l := by
  intro z hz
  unfold sendF at hz
  split at hz
  · cases hz
  · split at hz
    · cases hz
    · dsimp only at hz
      split at hz
      · cases hz
      · exact (List.mem_filter.1 hz).1

set_option maxHeartbeats 8000000 in
theorem law_deadSendSpec (a : Option Addr) (n c : Nat) (l : List Ltr) (no wa wb r0 r1 r2 : Int) (w : World) (hG : Glob w) (hl : n ≤ 5000 → IsC Ltr.C 38 w a n c l) (hok : ∀ x ∈ l, x.ok) (h0 : I64 r0) (h1 : I64 r1) (h2 : I64 r2) :
    Calls Tryz.prog 4 #[.slice a n c, .int .i64 no, .agg #[.int .i64 wa, .int .i64 wb], .agg #[.int .i64 r0, .int .i64 r1, .int .i64 r2]] w fun e w' => e = .returned (.bool true) ∧ Below w.heap.size w w' := by
  obtain ⟨X1, hX1⟩ : ∃ X : World, X = w.alloc (.cells #[.int .i64 wa, .int .i64 wb] 41) := ⟨_, rfl⟩
  obtain ⟨X, hX⟩ : ∃ X : World, X = X1.alloc (.cells #[.int .i64 r0, .int .i64 r1, .int .i64 r2] 42) := ⟨_, rfl⟩
  have b1 : Below w.heap.size w X1 := by rw [hX1]; exact below_alloc _ _
  have b2 : Below X1.heap.size X1 X := by rw [hX]; exact below_alloc _ _
  have s1 : X1.heap.size = w.heap.size + 1 := by rw [hX1, size_alloc]
  have q1 : X1.rangeAt w.heap.size 0 [.int .i64 wa, .int .i64 wb] := by rw [hX1]; exact rangeAt_row (cs := [.int .i64 wa, .int .i64 wb]) (heap_alloc_new w _)
  have q2 : X.rangeAt (w.heap.size + 1) 0 [.int .i64 r0, .int .i64 r1, .int .i64 r2] := by rw [← s1, hX]; exact rangeAt_row (cs := [.int .i64 r0, .int .i64 r1, .int .i64 r2]) (heap_alloc_new X1 _)
  have HB : Seal (Below w.heap.size w X) := ⟨b1.trans (b2.mono b1.size)⟩
  obtain ⟨gw, hgw⟩ : ∃ g, g = w.heap.size := ⟨_, rfl⟩
  obtain ⟨gn, hgn⟩ : ∃ g, g = w.heap.size + 1 := ⟨_, rfl⟩
  have KW : Seal (Ko X fun W => W.rangeAt gw 0 [.int .i64 wa, .int .i64 wb] ∧ W.rangeAt gn 0 [.int .i64 r0, .int .i64 r1, .int .i64 r2]) := ⟨fun W hW => by rw [hgw, hgn]; exact ⟨rangeAt_below' (rangeAt_below' q1 b2) hW, rangeAt_below' q2 hW⟩⟩
  have HG : Seal (∀ W, Below w.heap.size w W → Glob W) := ⟨fun W h => hG.below h⟩
  have HL : Seal (∀ W, Below w.heap.size w W → n ≤ 12 → IsC Ltr.C 38 W a n c l) := ⟨fun W h hn => (hl (by omega)).below h⟩
  have HOK := Seal.mk hok
  have HI : Seal (I64 r0 ∧ I64 r1 ∧ I64 r2) := ⟨h0, h1, h2⟩
  obtain ⟨RES, hRES⟩ : ∃ R, R = sendF l no wa wb r0 r1 r2 := ⟨_, rfl⟩
  have HM : Seal (RES = sendF l no wa wb r0 r1 r2 ∧ ∀ z ∈ RES.1, z ∈ l) := ⟨hRES, by rw [hRES]; exact sendF_mem⟩
  clear hRES
  obtain ⟨RL, ⟨c0, d0, c1, d1, c2, d2⟩, er⟩ := RES
  have hXX : X = (w.alloc (.cells #[.int .i64 wa, .int .i64 wb] 41)).alloc (.cells #[.int .i64 r0, .int .i64 r1, .int .i64 r2] 42) := by rw [hX, hX1]
  have us := Tryz.underlying44
  have u2 := Tryz.underlying41
  have u3 := Tryz.underlying42
  have i2 : (Tryz.prog.info? 41).map (·.size) = some ([Value.int .i64 wa, .int .i64 wb] : List Value).length := by kernel_rfl
  have i3 : (Tryz.prog.info? 42).map (·.size) = some ([Value.int .i64 r0, .int .i64 r1, .int .i64 r2] : List Value).length := by kernel_rfl
  have iS : (Tryz.prog.info? 44).map (·.size) = some ([Value.int .i64 c0, .int .i64 d0, .int .i64 c1, .int .i64 d1, .int .i64 c2, .int .i64 d2] : List Value).length := by kernel_rfl
  clear hX hX1 b1 b2 s1 q1 q2 hG hl hok h0 h1 h2
  go_enter Tryz.func4, Tryz.ntmps4
  go_upto_region 1 with (fail)
  rw [← hXX, ← hgn, ← hgw]
  clear hXX hgn hgw
  go_wp2_with fail
  refine (sane45_any X (HG.out _ HB.out)).mono ?_
  rintro e v1 ⟨rfl, hb⟩
  have HB := Seal.mk (HB.out.trans ((hb).mono HB.out.size))
  have KW := Seal.mk (KW.out.step (hb))
  clear hb
  go_wp2_with fail
  refine (kfew_any a n c v1).mono ?_
  rintro e v2 ⟨rfl, rfl⟩
  by_cases hn : n ≤ 12
  rotate_left
  · have q1 : decide (n ≤ 12) = false := decide_eq_false hn
    rw [q1]
    go_wp2
    go_ret
    exact ⟨rfl, HB.out⟩
  · have q1 : decide (n ≤ 12) = true := decide_eq_true hn
    rw [q1]
    clear q1
    have HN := Seal.mk hn
    clear hn
    have rW := KW.out.at.1
    have rN := KW.out.at.2
    have hk : Calls Tryz.prog 15 #[.slice a n c, .int .i64 no, .agg [Value.int .i64 wa, .int .i64 wb].toArray, .agg [Value.int .i64 r0, .int .i64 r1, .int .i64 r2].toArray] v1 (fun e w' => ∃ a n c, e = .returned (.tuple #[.slice a n c, .agg [Value.int .i64 c0, .int .i64 d0, .int .i64 c1, .int .i64 d1, .int .i64 c2, .int .i64 d2].toArray, .int .i64 er]) ∧ Seal (IsC Ltr.C 38 w' a n c RL) ∧ Below (v1).heap.size v1 w') := by
      have h := ksend_any a n c l no wa wb r0 r1 r2 v1 (HG.out _ HB.out) (HL.out _ HB.out HN.out) HOK.out HI.out.1 HI.out.2.1 HI.out.2.2
      rw [← HM.out.1] at h
      exact h.mono fun e w' hp => sendPost_c hp
    go_wp2_with (first | (refine wpList_load_mid_g (by kernel_rfl) 41 (.tmp 6) rfl gw 0 rfl [Value.int .i64 wa, .int .i64 wb] _ rW u2 rfl i2 ?_; (try simp only [Act.put, List.setIfInBounds_toArray, List.set_cons_zero, List.set_cons_succ])) | (refine wpList_load_mid_g (by kernel_rfl) 42 (.tmp 7) rfl gn 0 rfl [Value.int .i64 r0, .int .i64 r1, .int .i64 r2] _ rN u3 rfl i3 ?_; (try simp only [Act.put, List.setIfInBounds_toArray, List.set_cons_zero, List.set_cons_succ])) | ((try rw [hgn]); refine wpList_store_row rfl 44 (.tmp 10) (.tmp 26) rfl g10 [Value.int .i64 c0, .int .i64 d0, .int .i64 c1, .int .i64 d1, .int .i64 c2, .int .i64 d2].toArray rfl rfl 44 _ n_2 (by simpa using iS) rfl (by simp [Value.oneCell']) ?_; rw [n_1]; clear n_1 n_2 hgn; (try simp only [Act.put, List.setIfInBounds_toArray, List.set_cons_zero, List.set_cons_succ])))
    refine hk.mono ?_
    rintro e v3 ⟨a3, m3, c3, rfl, hi, hb⟩
    have HB := Seal.mk (HB.out.trans ((hb).mono HB.out.size))
    have KW := Seal.mk (KW.out.step (hb))
    have K3 := Seal.mk (ko_isC hi.out)
    clear hk hi hb rW rN
    obtain ⟨Y, g10, hg, n_1, n_2, n_3, n_4, _, _⟩ := newv v3 #[.int .i64 0, .int .i64 0, .int .i64 0, .int .i64 0, .int .i64 0, .int .i64 0] [Value.int .i64 c0, .int .i64 d0, .int .i64 c1, .int .i64 d1, .int .i64 c2, .int .i64 d2] 44
    have HB := Seal.mk (HB.out.trans ((n_4).mono HB.out.size))
    have KW := Seal.mk (KW.out.step (n_4))
    have hgn := hg.symm
    have K3 := Seal.mk (K3.out.step n_4)
    have K10 := Seal.mk n_3
    clear hg n_3 n_4
    have rW := KW.out.at.1
    have rN := KW.out.at.2
    have hk : Calls Tryz.prog 16 #[.slice a n c, .int .i64 no, .agg [Value.int .i64 wa, .int .i64 wb].toArray, .agg [Value.int .i64 r0, .int .i64 r1, .int .i64 r2].toArray] Y (fun e w' => ∃ a n c, e = .returned (.tuple #[.slice a n c, .agg [Value.int .i64 c0, .int .i64 d0, .int .i64 c1, .int .i64 d1, .int .i64 c2, .int .i64 d2].toArray, .int .i64 er]) ∧ Seal (IsC Ltr.C 38 w' a n c RL) ∧ Below (Y).heap.size Y w') := by
      have h := rsend45_any a n c l no wa wb r0 r1 r2 Y (HG.out _ HB.out) (HL.out _ HB.out HN.out) HOK.out HI.out.1 HI.out.2.1 HI.out.2.2
      rw [← HM.out.1] at h
      exact h.mono fun e w' hp => sendPost_c hp
    go_wp2_with (first | (refine wpList_load_mid_g (by kernel_rfl) 41 (.tmp 6) rfl gw 0 rfl [Value.int .i64 wa, .int .i64 wb] _ rW u2 rfl i2 ?_; (try simp only [Act.put, List.setIfInBounds_toArray, List.set_cons_zero, List.set_cons_succ])) | (refine wpList_load_mid_g (by kernel_rfl) 42 (.tmp 7) rfl gn 0 rfl [Value.int .i64 r0, .int .i64 r1, .int .i64 r2] _ rN u3 rfl i3 ?_; (try simp only [Act.put, List.setIfInBounds_toArray, List.set_cons_zero, List.set_cons_succ])) | ((try rw [hgn]); refine wpList_store_row rfl 44 (.tmp 10) (.tmp 27) rfl g10 [Value.int .i64 c0, .int .i64 d0, .int .i64 c1, .int .i64 d1, .int .i64 c2, .int .i64 d2].toArray rfl rfl 44 _ n_2 (by simpa using iS) rfl (by simp [Value.oneCell']) ?_; rw [n_1]; clear n_1 n_2 hgn; (try simp only [Act.put])))
    refine hk.mono ?_
    rintro e v4 ⟨a4, m4, c4, rfl, hi, hb⟩
    have HB := Seal.mk (HB.out.trans ((hb).mono HB.out.size))
    have KW := Seal.mk (KW.out.step (hb))
    have K3 := Seal.mk (K3.out.step hb)
    have K10 := Seal.mk (K10.out.step hb)
    have K4 := Seal.mk (ko_isC hi.out)
    clear hk hi hb rW rN
    obtain ⟨Z, g13, hg, n_1, n_2, n_3, n_4, _, _⟩ := newv v4 #[.int .i64 0, .int .i64 0, .int .i64 0, .int .i64 0, .int .i64 0, .int .i64 0] [Value.int .i64 c0, .int .i64 d0, .int .i64 c1, .int .i64 d1, .int .i64 c2, .int .i64 d2] 44
    have HB := Seal.mk (HB.out.trans ((n_4).mono HB.out.size))
    have KW := Seal.mk (KW.out.step (n_4))
    have hgn := hg.symm
    have K3 := Seal.mk (K3.out.step n_4)
    have K4 := Seal.mk (K4.out.step n_4)
    have K10 := Seal.mk (K10.out.step n_4)
    have K13 := Seal.mk n_3
    clear hg n_3 n_4
    have hk : Calls Tryz.prog 14 #[.slice a3 m3 c3, .slice a4 m4 c4] Z fun e w' => e = .returned (.bool true) ∧ Below Z.heap.size Z w' := by
      have h := rsameK_any a3 a4 m3 c3 m4 c4 RL RL Z K3.out.at K4.out.at (fun z hz => (HOK.out z (HM.out.2 z hz)).t32) (fun z hz => (HOK.out z (HM.out.2 z hz)).t32)
      rwa [decide_eq_true rfl] at h
    go_wp2_with ((try rw [hgn]); refine wpList_store_row rfl 44 (.tmp 13) (.tmp 36) rfl g13 [Value.int .i64 c0, .int .i64 d0, .int .i64 c1, .int .i64 d1, .int .i64 c2, .int .i64 d2].toArray rfl rfl 44 _ n_2 (by simpa using iS) rfl (by simp [Value.oneCell']) ?_; rw [n_1]; clear n_1 n_2 hgn; (try simp only [Act.put]))
    refine hk.mono ?_
    rintro e v5 ⟨rfl, hb⟩
    have HB := Seal.mk (HB.out.trans ((hb).mono HB.out.size))
    have KW := Seal.mk (KW.out.step (hb))
    have r10 := (K10.out.step hb).at
    have r13 := (K13.out.step hb).at
    have qw := fun w => eqSe_k c0 d0 c1 d1 c2 d2 w
    clear hk hb K3 K4 K10 K13
    go_wp2_with (first | (refine wpList_load_mid_g (by kernel_rfl) 44 (.tmp 10) rfl g10 0 rfl [Value.int .i64 c0, .int .i64 d0, .int .i64 c1, .int .i64 d1, .int .i64 c2, .int .i64 d2] _ r10 us rfl iS ?_; (try simp only [Act.put, List.setIfInBounds_toArray, List.set_cons_zero, List.set_cons_succ])) | (refine wpList_load_mid_g (by kernel_rfl) 44 (.tmp 13) rfl g13 0 rfl [Value.int .i64 c0, .int .i64 d0, .int .i64 c1, .int .i64 d1, .int .i64 c2, .int .i64 d2] _ r13 us rfl iS ?_; (try simp only [Act.put, List.setIfInBounds_toArray, List.set_cons_zero, List.set_cons_succ])))
    go_ret
    exact ⟨rfl, HB.out⟩
end Frk

/- From the walk of a law to its row: what is shared by the laws. -/
namespace Frk
open Go Go.RowKit Go.Proofs Go.ChangeShapes Go.WideShapes Go.ChangeAt
set_option maxRecDepth 100000

theorem own : ownKnob Tryz.prog.godebug = none := by kernel_rfl
theorem laidOut : laidOutB Tryz.prog = true := by kernel_rfl
theorem gStart : Tryz.prog.globalNamed "franking/digest.start" = some 0 := by kernel_rfl
theorem gNums : Tryz.prog.globalNamed "franking/digest.numbers" = some 1 := by kernel_rfl
theorem tStart : (Tryz.prog.globals[0]?).map (·.type) = some 120 := by kernel_rfl
theorem tNums : (Tryz.prog.globals[1]?).map (·.type) = some 145 := by kernel_rfl

/-- the listed variables -/
def laid : List (String × DataW Unit) := [("franking/digest.start", Go.Proofs.YtemoomfnmiodeaaGreatDoor.Rows.laid_franking_digest_start), ("franking/digest.numbers", Go.Proofs.YtemoomfnmiodeaaGreatDoor.Rows.laid_franking_digest_numbers)]

/-- an array of numbers that reads as such -/
theorem ints_of_array {H : Type} {enc : TypeId × Value → H} {P : Program} {W : World} {base fuel n : Nat} {sp : Nat → Bool} {hd : Bool} {t e : TypeId} {k : IntKind} {cs : List Value} {zs : List Int} {ps : List MemPlace} (ht : P.underlying t = some (.array n e)) (he : P.underlying e = some (.int k)) (hc : P.cellsOf e = 1)
    (h : DataW.trod enc P W base sp hd fuel t cs = some (.agg (zs.map fun z => .lit (.int k z)), ps)) : cs.take n = zs.map fun z => .int k z := by
  obtain ⟨xs, m, rfl, hx, hlen, hn, hel⟩ := DataW.trod_array ht h
  simp only [Prod.mk.injEq, DataW.agg.injEq] at hx
  apply List.ext_getElem?
  intro i
  by_cases hi : i < n
  · obtain ⟨x, hxi⟩ : ∃ x, xs[i]? = some x := ⟨_, List.getElem?_eq_getElem (by omega)⟩
    have h1 := hel i hi
    rw [hxi, hc] at h1
    obtain ⟨z, e1, e2, _⟩ := DataW.trod_int he h1
    have h2 := congrArg (·[i]?) hx.1
    simp only [List.getElem?_map, hxi, e2, Option.map_some] at h2
    rw [List.getElem?_take, if_pos hi, List.getElem?_map]
    have h3 : cs[i]? = some (.int k z) := by
      have := congrArg (·[0]?) e1
      simp only [List.getElem?_take, List.getElem?_drop] at this
      simpa using this
    cases hz : zs[i]? with
    | none => rw [hz] at h2; cases h2
    | some y =>
      rw [hz] at h2
      simp at h2
      rw [h3, h2]; rfl
  · have hl := congrArg List.length hx.1
    simp only [List.length_map] at hl
    rw [List.getElem?_take, if_neg hi, List.getElem?_map, List.getElem?_eq_none (by omega)]
    rfl

theorem glob_of_laid {W : World} (h : laidMetH Tryz.prog laid W) : Glob W := by
  rw [MakeChecks.laidMetH_plain _ _ _ (by kernel_rfl)] at h
  obtain ⟨ps, ⟨g0, t0, cs0, f0, p0, q0, hg0, ht0, hv0, hd0, ⟨g1, t1, cs1, f1, p1, q1, hg1, ht1, hv1, hd1, _, _⟩, _⟩, _, _⟩ := h
  obtain rfl := Option.some.inj (gStart.symm.trans hg0)
  obtain rfl := Option.some.inj (gNums.symm.trans hg1)
  obtain rfl := Option.some.inj (tStart.symm.trans ht0)
  obtain rfl := Option.some.inj (tNums.symm.trans ht1)
  have c1 : Tryz.prog.cellsOf 119 = 1 := by kernel_rfl
  have a0 := ints_of_array (zs := iv.list.map fun n : Nat => (n : Int)) Tryz.underlying120 Tryz.underlying119 c1 hd0
  have a1 := ints_of_array (zs := Kt.map fun n : Nat => (n : Int)) Tryz.underlying145 Tryz.underlying119 c1 hd1
  refine ⟨fun j v hv => ?_, fun j v hv => ?_⟩
  · have h8 : j < 8 := by have := (List.getElem?_eq_some_iff.1 hv).1; simpa [St.list] using this
    rw [Nat.zero_add, World.var?_cell hg0 hv0 j]
    have := congrArg (·[j]?) a0
    simp only [List.getElem?_take, if_pos h8, List.map_map] at this
    rw [← Array.getElem?_toList, this, ← hv]
    rfl
  · have h64 : j < 64 := by have := (List.getElem?_eq_some_iff.1 hv).1; simpa [Kt] using this
    rw [Nat.zero_add, World.var?_cell hg1 hv1 j]
    have := congrArg (·[j]?) a1
    simp only [List.getElem?_take, if_pos h64, List.map_map] at this
    rw [← Array.getElem?_toList, this, ← hv]
    rfl

/-- the door's own heap meets the condition -/
theorem door_met (os : Os) (args : Array Value) : laidMetH Tryz.prog laid ((World.doorLaid Tryz.prog 400 os).forCall (fun _ _ => 0) ⟨#[], args, []⟩).memory :=
  laidMetH_of_parts3 (fuel := 8) (laidMet_of_run' 8 (by kernel_rfl) (by kernel_rfl)) (by kernel_rfl) (by kernel_rfl)

/-- arguments read behind the call as they did before -/
theorem trodAll_carry {H : Type} {enc : TypeId × Value → H} {W W' : World} {sp : Nat → Bool} (hb : Below W.heap.size W W') :
    ∀ {ts : List TypeId} {vs : List Value} {ds : List (DataW H)} {ps : List MemPlace}, (∀ t ∈ ts, Tryz.prog.readableRec t = true ∧ t < Tryz.prog.types.size) → DataW.TrodAll enc Tryz.prog W 0 (fun _ => true) true ts vs ds ps →
      (∀ p ∈ ps, p.block < W.heap.size) → (∀ p ∈ ps, sp p.block = true) → DataW.TrodAll enc Tryz.prog W' 0 sp true ts vs ds ps := by
  intro ts
  induction ts with
  | nil =>
    intro vs ds ps _ h _ _
    match vs, ds, h with
    | [], [], h => exact h
    | [], _ :: _, h => exact h.elim
    | _ :: _, [], h => exact h.elim
    | _ :: _, _ :: _, h => exact h.elim
  | cons t ts ih =>
    intro vs ds ps ht h hlt hsp
    match vs, ds, h with
    | [], [], h => exact h.elim
    | [], _ :: _, h => exact h.elim
    | _ :: _, [], h => exact h.elim
    | v :: vs, d :: ds, ⟨p, q, h1, h2, e⟩ =>
      subst e
      exact ⟨p, q, WideElems.Trod_stays laidOut (ht t (by simp)).1 (ht t (by simp)).2 h1 (fun x hx => hb.same (hlt x (by simp [hx]))) (fun x hx => hsp x (by simp [hx])),
        ih (fun t' h' => ht t' (by simp [h'])) h2 (fun x hx => hlt x (by simp [hx])) (fun x hx => hsp x (by simp [hx])), rfl⟩

theorem post_of_below {H : Type} {enc : TypeId × Value → H} {P : Program} {f : Func} {s : ChangeSpec} {apart fresh handsOn again : Bool} {W W' : World} {args : Array Value} {v : Value} {ds gs : List (DataW H)} {before pa pv : List MemPlace}
    (hW : DataW.Whole enc P f.params.toList s.vars apart W args.toList ds gs before)
    (hres : ∀ (b : Nat) (sp : Nat → Bool) (hd : Bool), DataW.TrodAll enc P W' b sp hd f.resultTypes.toList (v.resultList f.resultTypes.size) (s.fn H (ds ++ gs)).results [])
    (hargs : ∀ sp : Nat → Bool, (∀ p ∈ before, sp p.block = true) → DataW.TrodAll enc P W' 0 sp true f.params.toList args.toList (s.fn H (ds ++ gs)).args pa)
    (hvars : ∀ sp : Nat → Bool, (∀ p ∈ before, sp p.block = true) → DataW.TrodVars enc P W' sp s.vars (s.fn H (ds ++ gs)).vars pv)
    (hps : before = pa ++ pv) (hb : Below W.heap.size W W')
    (hok : ∀ (j : Nat) (t : TypeId) (r : Value), f.resultTypes[j]? = some t → (v.resultList f.resultTypes.size)[j]? = some r → Value.okWide P W' .any 0 t r) :
    s.post enc P f apart fresh handsOn again W args v W' := by
  have hlt : ∀ p ∈ before, p.block < W.heap.size := fun p hp => hW.lt p hp
  have hold : ∀ p ∈ before, (fun b => decide (b < W.heap.size)) p.block = true := fun p hp => by simpa using hlt p hp
  refine ⟨ds, gs, before, [], pa, pv, hW, hres _ _ _, hargs _ hold, hvars _ hold, World.keptBut_mono (fun p hp => ⟨hp, ?_⟩) (hb.frame (· ∈ before)), fun _ => ?_⟩
  · rw [hps, List.mem_append] at hp
    exact Or.inr hp
  · obtain ⟨_, _, _, _, _, hz, hn⟩ := hW
    refine ⟨hok, _, _, ([] ++ pa) ++ pv, ⟨[] ++ pa, pv, trodAll_append (hargs _ (fun _ _ => rfl)) (hres _ _ _), hvars _ (fun _ _ => rfl), rfl, ?_, ?_⟩, ?_⟩
    · intro b off hp
      have hin : MemPlace.cell b off ∈ before := by rw [hps]; simpa using hp
      rw [hb.frozen (hlt _ hin)]
      exact hz b off hin
    · intro ha
      have := hn ha
      rw [hps] at this
      simpa using this
    · intro p hp _
      rw [hps]
      simpa using hp

/-- a law has answered true, and what there was is as it was -/
theorem law_fin {H : Type} {enc : TypeId × Value → H} {fnc : Func} {s : ChangeSpec} {W W' : World} {args : Array Value} {ds : List (DataW H)} {before : List MemPlace}
    (hts : ∀ t ∈ fnc.params.toList, Tryz.prog.readableRec t = true ∧ t < Tryz.prog.types.size) (hr : fnc.resultTypes = #[4]) (hvars : s.vars = []) (hfn : s.fn H ds = { results := [.lit (.bool true)], args := ds })
    (hW : DataW.Whole enc Tryz.prog fnc.params.toList s.vars false W args.toList ds [] before) (hb : Below W.heap.size W W') : s.post enc Tryz.prog fnc false true false false W args (.bool true) W' := by
  have hW' := hW
  obtain ⟨p, q, hA, hV, rfl, hfz, hnd⟩ := hW
  rw [hvars] at hV
  obtain ⟨_, rfl⟩ := trodVars_none hV
  have hlt := fun x hx => hW'.lt x hx
  refine post_of_below (pa := p) (pv := []) hW' (fun _ _ _ => ?_) (fun sp hsp => ?_) (fun sp _ => ?_) rfl hb ?_
  · rw [List.append_nil, hfn, hr]
    exact trodAll_mk1 (shut_bool Tryz.underlying4 _)
  · rw [List.append_nil, hfn]
    exact trodAll_carry hb hts hA (fun x hx => hlt x (by simpa using hx)) (fun x hx => hsp x (by simpa using hx))
  · rw [List.append_nil, hfn, hvars]
    rfl
  · exact ok_one hr rfl (okWide_bool_mk Tryz.underlying4 _)

theorem i64min : IntKind.i64.min = -9223372036854775808 := by decide
theorem i64max : IntKind.i64.max = 9223372036854775807 := by decide

theorem int_open {H : Type} {enc : TypeId × Value → H} {W : World} {base : Nat} {v : Value} {d : DataW H} {p : List MemPlace} (hval : Value.okWide Tryz.prog W .any base 3 v) (h1 : DataW.Trod enc Tryz.prog W 0 (fun _ => true) true 3 v d p) :
    ∃ x, v = .int .i64 x ∧ -9223372036854775808 ≤ x ∧ x ≤ 9223372036854775807 := by
  obtain ⟨x, rfl, _, _, hw⟩ := open_int Tryz.underlying3 hval h1
  refine ⟨x, rfl, ?_⟩
  simp [Lit.wf] at hw
  have h1 := i64min
  have h2 := i64max
  omega

end Frk

