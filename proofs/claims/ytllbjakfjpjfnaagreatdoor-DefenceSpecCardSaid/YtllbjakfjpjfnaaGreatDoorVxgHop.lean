/- Parts of the proof, joined. -/
import Derived.Test.YtllbjakfjpjfnaaGreatDoorVxFad
import Derived.Test.YtllbjakfjpjfnaaGreatDoorVxFsv
import Derived.Test.YtllbjakfjpjfnaaGreatDoorVxgGen
import Derived.Test.YtllbjakfjpjfnaaGreatDoorVxRap
import Derived.Test.YtllbjakfjpjfnaaGreatDoorVxgRsg
import Derived.Test.YtllbjakfjpjfnaaGreatDoorVxgEqd
import Derived.Test.YtllbjakfjpjfnaaGreatDoorRows
import Derived.Test.YtllbjakfjpjfnaaGreatDoorTie
import Derived.Test.YtllbjakfjpjfnaaGreatDoorCards
import Derived.ProofKit
import Derived.LaidMore
import Derived.OpenShut
import Derived.Carry
import Derived.ChangeSame
import Derived.ChangeSlices
import Derived.Stop.Joined
import Derived.SevenTiedAt
import Derived.Lib.SmallJoins
import Derived.Test.YtllbjakfjpjfnaaGreatDoorVxgHac
/- Law 57, plain: order, once, old. -/
namespace Frk
open Go Go.RowKit Go.Proofs
set_option maxRecDepth 100000

theorem timeB_iff {l : List Ep} {off : List Int} {c : Cas} {now term : Int} : timeB l off c now term = true ↔ keysB l off c.K c.A now off.length ∧ c.T ≤ now ∧ now - c.T ≤ term := by unfold timeB; simp
theorem holdB_iff {l : List Ep} {o t k : Int} : holdB l o t k = true ↔ (keyR l o t).2.1 = true ∧ (keyR l o t).2.2 = 0 ∧ (keyR l o t).1 = k := by unfold holdB; simp
end Frk

/- Law 57: what a law of it stands on. -/
namespace Frk
open Go Go.RowKit Go.Proofs
set_option maxRecDepth 100000

/-- what lies while a law runs, once few has said yes -/
structure LwS (w0 : World) (aE : Option Addr) (nE cE : Nat) (l : List Ep) (aO : Option Addr) (nO cO : Nat) (off : List Int) (aP : Option Addr) (nP cP : Nat) (past : List Bytes) (x y : CaX) (gx gy : Nat) (W : World) : Prop where
  bel : Below w0.heap.size w0 W
  G : Glob W
  E : IsE W aE nE cE l
  O : IsIs W aO nO cO off
  P : IsD W aP nP cP past
  p4 : nP ≤ 40
  xF : IsL W x.aF x.nF x.cF x.c.F
  xK : IsIs W x.aK x.nK x.cK x.c.K
  x1 : x.nF ≤ 100
  xo : x.ok
  yF : IsL W y.aF y.nF y.cF y.c.F
  yK : IsIs W y.aK y.nK y.cK y.c.K
  y1 : y.nF ≤ 100
  yo : y.ok
  rx : W.rangeAt gx 0 x.C
  ry : W.rangeAt gy 0 y.C
section
variable {w0 : World} {aE : Option Addr} {nE cE : Nat} {l : List Ep} {aO : Option Addr} {nO cO : Nat} {off : List Int} {aP : Option Addr} {nP cP : Nat} {past : List Bytes} {x y : CaX} {gx gy : Nat} {W W' : World}
theorem LwS.step (h : LwS w0 aE nE cE l aO nO cO off aP nP cP past x y gx gy W) (hb : Below W.heap.size W W') : LwS w0 aE nE cE l aO nO cO off aP nP cP past x y gx gy W' :=
  ⟨h.bel.trans (hb.mono h.bel.size), h.G.below hb, h.E.below hb, h.O.below hb, h.P.of_heap hb, h.p4, h.xF.of_heap hb, h.xK.below hb, h.x1, h.xo, h.yF.of_heap hb, h.yK.below hb, h.y1, h.yo, rangeAt_below' h.rx hb, rangeAt_below' h.ry hb⟩
end
/-- what the openers say of a case -/
structure CaIn (w : World) (x : CaX) : Prop where
  F : x.nF ≤ 1000 → IsL w x.aF x.nF x.cF x.c.F
  K : x.nK ≤ 5000 → IsIs w x.aK x.nK x.cK x.c.K
  ok : x.ok
theorem CaIn.below {w W : World} {x : CaX} (h : CaIn w x) (hb : Below w.heap.size w W) : CaIn W x := ⟨fun hn => (h.F hn).of_heap hb, fun hn => (h.K hn).below hb, h.ok⟩
end Frk

/- The reference's text of a stamp. -/

namespace Frk
open Go Go.RowKit Go.Proofs
set_option maxRecDepth 100000

theorem rnumber13_any (n : Int) (w : World) : Calls Tryz.prog 60 #[.int .i64 n] w fun e w' => e = .returned (.agg #[.int .i64 1, .int .i64 n, .string ByteArray.empty, .slice none 0 0]) ∧ Below w.heap.size w w' := by
  go_enter Tryz.func60, Tryz.ntmps60
  go_wp2
  refine bodyPost_ret (results_cell_row (fn := Tryz.f60) rfl _ _ w.heap.size 51 _ (0, 0) _ rfl (heap_alloc_new w _) Tryz.underlying51 rfl (by kernel_rfl)) rfl ⟨rfl, below_alloc _ _⟩

theorem rlist13_any (a : Option Addr) (n c : Nat) (w : World) : Calls Tryz.prog 61 #[.slice a n c] w fun e w' => e = .returned (.agg #[.int .i64 3, .int .i64 0, .string ByteArray.empty, .slice a n c]) ∧ Below w.heap.size w w' := by
  go_enter Tryz.func61, Tryz.ntmps61
  go_wp2
  refine bodyPost_ret (results_cell_row (fn := Tryz.f61) rfl _ _ w.heap.size 51 _ (0, 0) _ rfl (heap_alloc_new w _) Tryz.underlying51 rfl (by kernel_rfl)) rfl ⟨rfl, below_alloc _ _⟩

set_option maxHeartbeats 2000000 in
theorem rtext13_any (T : Bytes) (w : World) (hT : T.length = 32) : Calls Tryz.prog 62 #[.agg (T.map B).toArray] w fun e w' => e = .returned (.agg #[.int .i64 2, .int .i64 0, .string ⟨T.toArray⟩, .slice none 0 0]) ∧ Below w.heap.size w w' := by
  obtain ⟨Y, hY⟩ : ∃ Y : World, Y = (w.alloc (.cells (T.map B).toArray 42)).alloc (.cells #[.int .i64 0, .int .i64 0, .string ⟨#[]⟩, .slice none 0 0] 51) := ⟨_, rfl⟩
  have hYb : Seal (Below w.heap.size w Y) := ⟨by rw [hY]; exact ((Below.refl _ w).alloc (Nat.le_refl _) _).alloc (by simp) _⟩
  have hYr : Seal (Y.rangeAt w.heap.size 0 (T.map B)) := ⟨rangeAt_row (by rw [hY]; exact heap_alloc2_old w _ _)⟩
  have hYz : Seal (Y.heap[w.heap.size + 1]? = some (.cells #[.int .i64 0, .int .i64 0, .string ⟨#[]⟩, .slice none 0 0] 51 (0, 0))) := ⟨by rw [hY]; exact heap_alloc2_new w _ _⟩
  have hYs : Seal (Y.heap.size = w.heap.size + 2) := ⟨by rw [hY, size_alloc, size_alloc]⟩
  have HT := Seal.mk hT
  clear hT
  go_enter Tryz.func62, Tryz.ntmps62
  go_upto_region 1 with (fail)
  rw [← hY]
  clear hY
  go_wp2
  go_loopw [3, 4] (fun s i wr => ∃ k g c : Nat, k ≤ 32 ∧ s = .slice (some ⟨g, 0, none⟩) k c ∧ i = .int .i64 k ∧ Seal (Stg Y wr g k c (T.take k))) (fun _ i _ => 32 - (intOf i).toNat)
  case atStart => exact ⟨0, Y.heap.size, 0, by omega, rfl, rfl, ⟨stg_new Y [] 0 rfl (by decide)⟩⟩
  case round =>
    obtain ⟨k, g, c, hk, rfl, rfl, hS⟩ := hrel
    by_cases hlt : k < 32
    · have cc : wr.cell? ⟨w.heap.size, k, none⟩ = some (.int .u8 ((T.getD k 0).toNat : Int)) := by
        have := cellB (rangeAt_below' hYr.out hS.out.bel) (i := k) (by rw [HT.out]; exact hlt)
        rwa [Nat.zero_add] at this
      have q1 : (k : Int) < 32 := by omega
      have q2 : (0 : Int) ≤ (k : Int) := by omega
      obtain ⟨b, hb⟩ : ∃ b, b = T.getD k 0 := ⟨_, rfl⟩
      rw [← hb] at cc
      have HTK : Seal (T.take (k + 1) = T.take k ++ [b]) := ⟨by
        rw [hb, List.take_succ_eq_append_getElem (by rw [HT.out]; exact hlt), List.getD_eq_getElem?_getD, List.getElem?_eq_getElem (by rw [HT.out]; exact hlt)]
        rfl⟩
      have hSa : Seal (Stg Y (wr.alloc (.cells #[.int .u8 (b.toNat : Int)] 5)) g k c (T.take k)) := ⟨hS.out.alloc _⟩
      have hI : Seal (IsB (wr.alloc (.cells #[.int .u8 (b.toNat : Int)] 5)) (some ⟨wr.heap.size, 0, none⟩) 1 1 [b]) := ⟨isB_new wr [b] 1 5 (0, 0) rfl (by decide)⟩
      clear hb
      go_wp2_with (at_builtin; refine wpList_append_st rfl (.tmp 10) (.tmp 14) rfl Y g k c (T.take k) (some ⟨wr.heap.size, 0, none⟩) 1 1 [b] rfl rfl hSa hI (by omega) ?_; intro g3 cap3 w3 hS3 _ _; clear hS hSa hI cc)
      go_roundw
      case rel => exact ⟨k + 1, g3, cap3, by omega, rfl, by go_num, ⟨by rw [HTK.out]; exact hS3.out⟩⟩
      case measure => simp [intOf]; omega
    · obtain rfl : k = 32 := by omega
      have hq : ¬ (((32 : Nat) : Int) < 32) := by omega
      rw [List.take_of_length_le (by rw [HT.out]; exact Nat.le_refl _)] at hS
      have hcv := IsB.conv (hS.out.isB (by decide))
      have RZ : Seal (wr.heap[w.heap.size + 1]? = some (.cells #[.int .i64 0, .int .i64 0, .string ⟨#[]⟩, .slice none 0 0] 51 (0, 0))) := ⟨(hS.out.bel.block _ (by rw [hYs.out]; omega)).trans hYz.out⟩
      have HB : Seal (Below w.heap.size w wr) := ⟨hYb.out.trans (hS.out.bel.mono hYb.out.size)⟩
      have i4 : (Tryz.prog.info? 51).map (·.size) = some (#[Value.int .i64 2, .int .i64 0, .string ⟨T.toArray⟩, .slice none 0 0]).size := by kernel_rfl
      have a4 : (#[Value.int .i64 2, .int .i64 0, .string ⟨T.toArray⟩, .slice none 0 0]).all (·.oneCell') = true := by simp [Value.oneCell']
      rw [show ((32 : Nat) : Int) = 32 from rfl]
      clear hS
      go_wp2_with (refine wpList_store_row rfl 51 (.tmp 2) (.tmp 18) rfl (w.heap.size + 1) #[.int .i64 2, .int .i64 0, .string ⟨T.toArray⟩, .slice none 0 0] rfl rfl 51 #[.int .i64 0, .int .i64 0, .string ⟨#[]⟩, .slice none 0 0] RZ.out i4 rfl a4 ?_)
      refine bodyPost_ret (results_cell_row (fn := Tryz.f62) rfl _ _ (w.heap.size + 1) 51 #[.int .i64 2, .int .i64 0, .string ⟨T.toArray⟩, .slice none 0 0] (0, 0) _ rfl (setRow_heap _ _ _ _ _ _ RZ.out) Tryz.underlying51 rfl i4) rfl ⟨rfl, below_row HB.out (Nat.le_add_right _ _) _⟩

end Frk

/- From the walk of a law to its row: what is shared by the laws. -/
namespace Frk
open Go Go.RowKit Go.Proofs Go.ChangeShapes Go.WideShapes Go.ChangeAt
set_option maxRecDepth 100000

theorem own : ownKnob Tryz.prog.godebug = none := by kernel_rfl
theorem laidOut : laidOutB Tryz.prog = true := by kernel_rfl
theorem gStart : Tryz.prog.globalNamed "franking/digest.start" = some 0 := by kernel_rfl
theorem gNums : Tryz.prog.globalNamed "franking/digest.numbers" = some 1 := by kernel_rfl
theorem tStart : (Tryz.prog.globals[0]?).map (·.type) = some 126 := by kernel_rfl
theorem tNums : (Tryz.prog.globals[1]?).map (·.type) = some 140 := by kernel_rfl

/-- the listed variables -/
def laid : List (String × DataW Unit) := [("franking/digest.start", Go.Proofs.YtllbjakfjpjfnaaGreatDoor.Rows.laid_franking_digest_start), ("franking/digest.numbers", Go.Proofs.YtllbjakfjpjfnaaGreatDoor.Rows.laid_franking_digest_numbers)]

/-- an array of numbers that reads as such -/
theorem ints_of_array {H : Type} {enc : TypeId × Value → H} {P : Program} {W : World} {base fuel n : Nat} {sp : Nat → Bool} {hd : Bool} {t e : TypeId} {k : IntKind} {cs : List Value} {zs : List Int} {ps : List MemPlace} (ht : P.underlying t = some (.array n e)) (he : P.underlying e = some (.int k)) (hc : P.cellsOf e = 1)
    (h : DataW.trod enc P W base sp hd fuel t cs = some (.agg (zs.map fun z => .lit (.int k z)), ps)) : cs.take n = zs.map fun z => .int k z := by
  obtain ⟨xs, m, rfl, hx, hlen, hn, hel⟩ := DataW.trod_array ht h
  simp only [Prod.mk.injEq, DataW.agg.injEq] at hx
  apply List.ext_getElem?
  intro i
  by_cases hi : i < n
  · obtain ⟨x, hxi⟩ : ∃ x, xs[i]? = some x := ⟨_, List.getElem?_eq_getElem (by omega)⟩
    have h1 := hel i hi
    rw [hxi, hc] at h1
    obtain ⟨z, e1, e2, _⟩ := DataW.trod_int he h1
    have h2 := congrArg (·[i]?) hx.1
    simp only [List.getElem?_map, hxi, e2, Option.map_some] at h2
    rw [List.getElem?_take, if_pos hi, List.getElem?_map]
    have h3 : cs[i]? = some (.int k z) := by
      have := congrArg (·[0]?) e1
      simp only [List.getElem?_take, List.getElem?_drop] at this
      simpa using this
    cases hz : zs[i]? with
    | none => rw [hz] at h2; cases h2
    | some y =>
      rw [hz] at h2
      simp at h2
      rw [h3, h2]; rfl
  · have hl := congrArg List.length hx.1
    simp only [List.length_map] at hl
    rw [List.getElem?_take, if_neg hi, List.getElem?_map, List.getElem?_eq_none (by omega)]
    rfl

theorem glob_of_laid {W : World} (h : laidMetH Tryz.prog laid W) : Glob W := by
  rw [MakeChecks.laidMetH_plain _ _ _ (by kernel_rfl)] at h
  obtain ⟨ps, ⟨g0, t0, cs0, f0, p0, q0, hg0, ht0, hv0, hd0, ⟨g1, t1, cs1, f1, p1, q1, hg1, ht1, hv1, hd1, _, _⟩, _⟩, _, _⟩ := h
  obtain rfl := Option.some.inj (gStart.symm.trans hg0)
  obtain rfl := Option.some.inj (gNums.symm.trans hg1)
  obtain rfl := Option.some.inj (tStart.symm.trans ht0)
  obtain rfl := Option.some.inj (tNums.symm.trans ht1)
  have c1 : Tryz.prog.cellsOf 125 = 1 := by kernel_rfl
  have a0 := ints_of_array (zs := iv.list.map fun n : Nat => (n : Int)) Tryz.underlying126 Tryz.underlying125 c1 hd0
  have a1 := ints_of_array (zs := Kt.map fun n : Nat => (n : Int)) Tryz.underlying140 Tryz.underlying125 c1 hd1
  refine ⟨fun j v hv => ?_, fun j v hv => ?_⟩
  · have h8 : j < 8 := by have := (List.getElem?_eq_some_iff.1 hv).1; simpa [St.list] using this
    rw [Nat.zero_add, World.var?_cell hg0 hv0 j]
    have := congrArg (·[j]?) a0
    simp only [List.getElem?_take, if_pos h8, List.map_map] at this
    rw [← Array.getElem?_toList, this, ← hv]
    rfl
  · have h64 : j < 64 := by have := (List.getElem?_eq_some_iff.1 hv).1; simpa [Kt] using this
    rw [Nat.zero_add, World.var?_cell hg1 hv1 j]
    have := congrArg (·[j]?) a1
    simp only [List.getElem?_take, if_pos h64, List.map_map] at this
    rw [← Array.getElem?_toList, this, ← hv]
    rfl

/-- the door's own heap meets the condition -/
theorem door_met (os : Os) (args : Array Value) : laidMetH Tryz.prog laid ((World.doorLaid Tryz.prog 400 os).forCall (fun _ _ => 0) ⟨#[], args, []⟩).memory :=
  laidMetH_of_parts3 (fuel := 8) (laidMet_of_run' 8 (by kernel_rfl) (by kernel_rfl)) (by kernel_rfl) (by kernel_rfl)

/-- arguments read behind the call as they did before -/
theorem trodAll_carry {H : Type} {enc : TypeId × Value → H} {W W' : World} {sp : Nat → Bool} (hb : Below W.heap.size W W') :
    ∀ {ts : List TypeId} {vs : List Value} {ds : List (DataW H)} {ps : List MemPlace}, (∀ t ∈ ts, Tryz.prog.readableRec t = true ∧ t < Tryz.prog.types.size) → DataW.TrodAll enc Tryz.prog W 0 (fun _ => true) true ts vs ds ps →
      (∀ p ∈ ps, p.block < W.heap.size) → (∀ p ∈ ps, sp p.block = true) → DataW.TrodAll enc Tryz.prog W' 0 sp true ts vs ds ps := by
  intro ts
  induction ts with
  | nil =>
    intro vs ds ps _ h _ _
    match vs, ds, h with
    | [], [], h => exact h
    | [], _ :: _, h => exact h.elim
    | _ :: _, [], h => exact h.elim
    | _ :: _, _ :: _, h => exact h.elim
  | cons t ts ih =>
    intro vs ds ps ht h hlt hsp
    match vs, ds, h with
    | [], [], h => exact h.elim
    | [], _ :: _, h => exact h.elim
    | _ :: _, [], h => exact h.elim
    | v :: vs, d :: ds, ⟨p, q, h1, h2, e⟩ =>
      subst e
      exact ⟨p, q, WideElems.Trod_stays laidOut (ht t (by simp)).1 (ht t (by simp)).2 h1 (fun x hx => hb.same (hlt x (by simp [hx]))) (fun x hx => hsp x (by simp [hx])),
        ih (fun t' h' => ht t' (by simp [h'])) h2 (fun x hx => hlt x (by simp [hx])) (fun x hx => hsp x (by simp [hx])), rfl⟩

theorem post_of_below {H : Type} {enc : TypeId × Value → H} {P : Program} {f : Func} {s : ChangeSpec} {apart fresh handsOn again : Bool} {W W' : World} {args : Array Value} {v : Value} {ds gs : List (DataW H)} {before pa pv : List MemPlace}
    (hW : DataW.Whole enc P f.params.toList s.vars apart W args.toList ds gs before)
    (hres : ∀ (b : Nat) (sp : Nat → Bool) (hd : Bool), DataW.TrodAll enc P W' b sp hd f.resultTypes.toList (v.resultList f.resultTypes.size) (s.fn H (ds ++ gs)).results [])
    (hargs : ∀ sp : Nat → Bool, (∀ p ∈ before, sp p.block = true) → DataW.TrodAll enc P W' 0 sp true f.params.toList args.toList (s.fn H (ds ++ gs)).args pa)
    (hvars : ∀ sp : Nat → Bool, (∀ p ∈ before, sp p.block = true) → DataW.TrodVars enc P W' sp s.vars (s.fn H (ds ++ gs)).vars pv)
    (hps : before = pa ++ pv) (hb : Below W.heap.size W W')
    (hok : ∀ (j : Nat) (t : TypeId) (r : Value), f.resultTypes[j]? = some t → (v.resultList f.resultTypes.size)[j]? = some r → Value.okWide P W' .any 0 t r) :
    s.post enc P f apart fresh handsOn again W args v W' := by
  have hlt : ∀ p ∈ before, p.block < W.heap.size := fun p hp => hW.lt p hp
  have hold : ∀ p ∈ before, (fun b => decide (b < W.heap.size)) p.block = true := fun p hp => by simpa using hlt p hp
  refine ⟨ds, gs, before, [], pa, pv, hW, hres _ _ _, hargs _ hold, hvars _ hold, World.keptBut_mono (fun p hp => ⟨hp, ?_⟩) (hb.frame (· ∈ before)), fun _ => ?_⟩
  · rw [hps, List.mem_append] at hp
    exact Or.inr hp
  · obtain ⟨_, _, _, _, _, hz, hn⟩ := hW
    refine ⟨hok, _, _, ([] ++ pa) ++ pv, ⟨[] ++ pa, pv, trodAll_append (hargs _ (fun _ _ => rfl)) (hres _ _ _), hvars _ (fun _ _ => rfl), rfl, ?_, ?_⟩, ?_⟩
    · intro b off hp
      have hin : MemPlace.cell b off ∈ before := by rw [hps]; simpa using hp
      rw [hb.frozen (hlt _ hin)]
      exact hz b off hin
    · intro ha
      have := hn ha
      rw [hps] at this
      simpa using this
    · intro p hp _
      rw [hps]
      simpa using hp

/-- a law has answered true, and what there was is as it was -/
theorem law_fin {H : Type} {enc : TypeId × Value → H} {fnc : Func} {s : ChangeSpec} {W W' : World} {args : Array Value} {ds : List (DataW H)} {before : List MemPlace}
    (hts : ∀ t ∈ fnc.params.toList, Tryz.prog.readableRec t = true ∧ t < Tryz.prog.types.size) (hr : fnc.resultTypes = #[4]) (hvars : s.vars = []) (hfn : s.fn H ds = { results := [.lit (.bool true)], args := ds })
    (hW : DataW.Whole enc Tryz.prog fnc.params.toList s.vars false W args.toList ds [] before) (hb : Below W.heap.size W W') : s.post enc Tryz.prog fnc false true false false W args (.bool true) W' := by
  have hW' := hW
  obtain ⟨p, q, hA, hV, rfl, hfz, hnd⟩ := hW
  rw [hvars] at hV
  obtain ⟨_, rfl⟩ := trodVars_none hV
  have hlt := fun x hx => hW'.lt x hx
  refine post_of_below (pa := p) (pv := []) hW' (fun _ _ _ => ?_) (fun sp hsp => ?_) (fun sp _ => ?_) rfl hb ?_
  · rw [List.append_nil, hfn, hr]
    exact trodAll_mk1 (shut_bool Tryz.underlying4 _)
  · rw [List.append_nil, hfn]
    exact trodAll_carry hb hts hA (fun x hx => hlt x (by simpa using hx)) (fun x hx => hsp x (by simpa using hx))
  · rw [List.append_nil, hfn, hvars]
    rfl
  · exact ok_one hr rfl (okWide_bool_mk Tryz.underlying4 _)

theorem i64min : IntKind.i64.min = -9223372036854775808 := by decide
theorem i64max : IntKind.i64.max = 9223372036854775807 := by decide

theorem int_open {H : Type} {enc : TypeId × Value → H} {W : World} {base : Nat} {v : Value} {d : DataW H} {p : List MemPlace} (hval : Value.okWide Tryz.prog W .any base 3 v) (h1 : DataW.Trod enc Tryz.prog W 0 (fun _ => true) true 3 v d p) :
    ∃ x, v = .int .i64 x ∧ -9223372036854775808 ≤ x ∧ x ≤ 9223372036854775807 := by
  obtain ⟨x, rfl, _, _, hw⟩ := open_int Tryz.underlying3 hval h1
  refine ⟨x, rfl, ?_⟩
  simp [Lit.wf] at hw
  have h1 := i64min
  have h2 := i64max
  omega

end Frk

/- A hand-over that came in. -/
namespace Frk
open Go Go.RowKit Go.Proofs Go.ChangeShapes Go.WideShapes Go.ChangeAt
set_option maxRecDepth 100000
section
variable {H : Type} {enc : TypeId × Value → H} {W : World} {base : Nat} {sp : Nat → Bool} {hd : Bool} {fuel : Nat} {cs : List Value} {x : DataW H × List MemPlace}

end

end Frk

