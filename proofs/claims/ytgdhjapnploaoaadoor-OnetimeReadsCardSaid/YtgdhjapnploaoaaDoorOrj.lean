/- For OnetimeReads: joined texts. -/
import Derived.Test.YtgdhjapnploaoaaDoorEnv
import Derived.Test.YtgdhjapnploaoaaDoorRows
import Derived.Test.YtgdhjapnploaoaaDoorTie
import Derived.Test.YtgdhjapnploaoaaDoorCards
import Derived.ProofKit
import Derived.LaidMore
import Derived.OpenShut
import Derived.Carry
import Derived.ChangeSame
import Derived.ChangeSlices
import Derived.Stop.Joined
import Derived.SevenTiedAt
import Derived.Lib.SmallJoins
import Derived.Test.YtgdhjapnploaoaaDoorOsp
import Derived.Test.YtgdhjapnploaoaaDoorRcz
import Derived.Deep.Cut
import Derived.Test.YtgdhjapnploaoaaDoorOuf
import Derived.Test.YtgdhjapnploaoaaDoorEal
import Derived.OrdersIn
import Derived.Deep.RegionHeld
import Derived.Deep.MidRow
namespace Frk
open Go Go.RowKit Go.Proofs Go.ChangeShapes Go.WideShapes Go.ChangeAt
set_option maxRecDepth 100000

theorem own : ownKnob Tryd.prog.godebug = none := by kernel_rfl
theorem laidOut : laidOutB Tryd.prog = true := by kernel_rfl
theorem gStart : Tryd.prog.globalNamed "franking/digest.start" = some 0 := by kernel_rfl
theorem gNums : Tryd.prog.globalNamed "franking/digest.numbers" = some 1 := by kernel_rfl
theorem tStart : (Tryd.prog.globals[0]?).map (·.type) = some 149 := by kernel_rfl
theorem tNums : (Tryd.prog.globals[1]?).map (·.type) = some 158 := by kernel_rfl

/-- the listed variables -/
def laid : List (String × DataW Unit) := [("franking/digest.start", Go.Proofs.YtgdhjapnploaoaaDoor.Rows.laid_franking_digest_start), ("franking/digest.numbers", Go.Proofs.YtgdhjapnploaoaaDoor.Rows.laid_franking_digest_numbers)]

/-- an array of numbers that reads as such -/
theorem ints_of_array {H : Type} {enc : TypeId × Value → H} {P : Program} {W : World} {base fuel n : Nat} {sp : Nat → Bool} {hd : Bool} {t e : TypeId} {k : IntKind} {cs : List Value} {zs : List Int} {ps : List MemPlace} (ht : P.underlying t = some (.array n e)) (he : P.underlying e = some (.int k)) (hc : P.cellsOf e = 1)
    (h : DataW.trod enc P W base sp hd fuel t cs = some (.agg (zs.map fun z => .lit (.int k z)), ps)) : cs.take n = zs.map fun z => .int k z := by
  obtain ⟨xs, m, rfl, hx, hlen, hn, hel⟩ := DataW.trod_array ht h
  simp only [Prod.mk.injEq, DataW.agg.injEq] at hx
  apply List.ext_getElem?
  intro i
  by_cases hi : i < n
  · obtain ⟨x, hxi⟩ : ∃ x, xs[i]? = some x := ⟨_, List.getElem?_eq_getElem (by omega)⟩
    have h1 := hel i hi
    rw [hxi, hc] at h1
    obtain ⟨z, e1, e2, _⟩ := DataW.trod_int he h1
    have h2 := congrArg (·[i]?) hx.1
    simp only [List.getElem?_map, hxi, e2, Option.map_some] at h2
    rw [List.getElem?_take, if_pos hi, List.getElem?_map]
    have h3 : cs[i]? = some (.int k z) := by
      have := congrArg (·[0]?) e1
      simp only [List.getElem?_take, List.getElem?_drop] at this
      simpa using this
    cases hz : zs[i]? with
    | none => rw [hz] at h2; cases h2
    | some y =>
      rw [hz] at h2
      simp at h2
      rw [h3, h2]; rfl
  · have hl := congrArg List.length hx.1
    simp only [List.length_map] at hl
    rw [List.getElem?_take, if_neg hi, List.getElem?_map, List.getElem?_eq_none (by omega)]
    rfl

theorem glob_of_laid {W : World} (h : laidMetH Tryd.prog laid W) : Glob W := by
  rw [MakeChecks.laidMetH_plain _ _ _ (by kernel_rfl)] at h
  obtain ⟨ps, ⟨g0, t0, cs0, f0, p0, q0, hg0, ht0, hv0, hd0, ⟨g1, t1, cs1, f1, p1, q1, hg1, ht1, hv1, hd1, _, _⟩, _⟩, _, _⟩ := h
  obtain rfl := Option.some.inj (gStart.symm.trans hg0)
  obtain rfl := Option.some.inj (gNums.symm.trans hg1)
  obtain rfl := Option.some.inj (tStart.symm.trans ht0)
  obtain rfl := Option.some.inj (tNums.symm.trans ht1)
  have c1 : Tryd.prog.cellsOf 148 = 1 := by kernel_rfl
  have a0 := ints_of_array (zs := iv.list.map fun n : Nat => (n : Int)) Tryd.underlying149 Tryd.underlying148 c1 hd0
  have a1 := ints_of_array (zs := Kt.map fun n : Nat => (n : Int)) Tryd.underlying158 Tryd.underlying148 c1 hd1
  refine ⟨fun j v hv => ?_, fun j v hv => ?_⟩
  · have h8 : j < 8 := by have := (List.getElem?_eq_some_iff.1 hv).1; simpa [St.list] using this
    rw [Nat.zero_add, World.var?_cell hg0 hv0 j]
    have := congrArg (·[j]?) a0
    simp only [List.getElem?_take, if_pos h8, List.map_map] at this
    rw [← Array.getElem?_toList, this, ← hv]
    rfl
  · have h64 : j < 64 := by have := (List.getElem?_eq_some_iff.1 hv).1; simpa [Kt] using this
    rw [Nat.zero_add, World.var?_cell hg1 hv1 j]
    have := congrArg (·[j]?) a1
    simp only [List.getElem?_take, if_pos h64, List.map_map] at this
    rw [← Array.getElem?_toList, this, ← hv]
    rfl

/-- the door's own heap meets the condition -/
theorem door_met (os : Os) (args : Array Value) : laidMetH Tryd.prog laid ((World.doorLaid Tryd.prog 400 os).forCall (fun _ _ => 0) ⟨#[], args, []⟩).memory :=
  laidMetH_of_parts3 (fuel := 8) (laidMet_of_run' 8 (by kernel_rfl) (by kernel_rfl)) (by kernel_rfl) (by kernel_rfl)

theorem range_u8 {zs : List Int} (h : ∀ n ∈ zs, (Lit.int .u8 n).wf = true) (i : Nat) (hi : i < zs.length) : 0 ≤ zs.getD i 0 ∧ zs.getD i 0 < 256 := by
  have e : zs.getD i 0 = zs[i] := by simp [List.getD_eq_getElem?_getD, List.getElem?_eq_getElem hi]
  have := h _ (List.getElem_mem hi)
  rw [e]
  simp [Lit.wf] at this
  have h1 : IntKind.u8.min = 0 := by decide
  have h2 : IntKind.u8.max = 255 := by decide
  omega

/-- a slice of bytes that came in -/
theorem bytes_open {H : Type} {enc : TypeId × Value → H} {W : World} {base : Nat} {v : Value} {d : DataW H} {p : List MemPlace} (hval : Value.okWide Tryd.prog W .any base 38 v) (h1 : DataW.Trod enc Tryd.prog W 0 (fun _ => true) true 38 v d p) :
    ∃ a len cap l, v = .slice a len cap ∧ (len : Int) ≤ 9223372036854775807 ∧ (len ≤ 140737488355328 → IsB W a len cap l) := by
  obtain ⟨a1, len, cap, rfl⟩ := okWide_slice Tryd.underlying38 hval
  obtain ⟨fuel, hf⟩ := h1
  have c1 : Tryd.prog.cellsOf 5 = 1 := by kernel_rfl
  rcases open_ints Tryd.underlying38 Tryd.underlying5 c1 hf with ⟨hcs, hx⟩ | ⟨a, len', cap', zs, hcs, _, hl, hm, hz, hx, hcell, hwz⟩
  · simp [Value.cells] at hcs
    obtain ⟨rfl, rfl, rfl⟩ := hcs
    exact ⟨none, 0, 0, [], rfl, by decide, fun _ => ⟨rfl, Nat.le_refl _, by decide, by decide, .inl rfl⟩⟩
  · simp [Value.cells] at hcs
    obtain ⟨rfl, rfl, rfl⟩ := hcs
    simp only [if_true] at hz
    unfold maxLen at hm
    have hlen : ((zs.take len).map fun n => UInt8.ofNat n.toNat).length = len := by simp; omega
    refine ⟨some a, len, cap, (zs.take len).map fun n => UInt8.ofNat n.toNat, rfl, by omega, fun h47 => ⟨hlen, hl, h47, by omega, ?_⟩⟩
    rcases Nat.eq_zero_or_pos len with h0 | h0
    · exact .inl h0
    · right
      obtain ⟨ab, ao, spot⟩ := a
      have hspot : spot = none := by simpa [Addr.add] using World.cell?_spot (hcell 0 (by omega))
      subst hspot
      refine ⟨ab, ao, rfl, fun j u hu => ?_, ?_⟩
      · have hj : j < len := by have := (List.getElem?_eq_some_iff.1 hu).1; rw [List.length_map, hlen] at this; exact this
        have hcj := hcell j (by omega)
        rw [Addr.add_lit] at hcj
        rw [hcj, ← hu, List.getElem?_map, List.getElem?_map, List.getElem?_take, if_pos hj, List.getElem?_eq_getElem (show j < zs.length by omega)]
        have hb := range_u8 hwz j (by omega)
        have e : zs.getD j 0 = zs[j]'(by omega) := by simp [List.getD_eq_getElem?_getD, List.getElem?_eq_getElem (show j < zs.length by omega)]
        rw [e] at hb ⊢
        simp only [Option.map_some]
        congr 2
        rw [UInt8.toNat_ofNat_of_lt' (Nat.lt_of_lt_of_le (show (zs[j]'(by omega)).toNat < 256 by omega) (by decide))]
        omega
      · have hc0 := hcell 0 (by omega)
        rw [Addr.add_lit] at hc0
        exact block_lt_of_cell hc0

/-- arguments read behind the call as they did before -/
theorem trodAll_carry {H : Type} {enc : TypeId × Value → H} {W W' : World} {sp : Nat → Bool} (hb : Below W.heap.size W W') :
    ∀ {ts : List TypeId} {vs : List Value} {ds : List (DataW H)} {ps : List MemPlace}, (∀ t ∈ ts, Tryd.prog.readableRec t = true ∧ t < Tryd.prog.types.size) → DataW.TrodAll enc Tryd.prog W 0 (fun _ => true) true ts vs ds ps →
      (∀ p ∈ ps, p.block < W.heap.size) → (∀ p ∈ ps, sp p.block = true) → DataW.TrodAll enc Tryd.prog W' 0 sp true ts vs ds ps := by
  intro ts
  induction ts with
  | nil =>
    intro vs ds ps _ h _ _
    match vs, ds, h with
    | [], [], h => exact h
    | [], _ :: _, h => exact h.elim
    | _ :: _, [], h => exact h.elim
    | _ :: _, _ :: _, h => exact h.elim
  | cons t ts ih =>
    intro vs ds ps ht h hlt hsp
    match vs, ds, h with
    | [], [], h => exact h.elim
    | [], _ :: _, h => exact h.elim
    | _ :: _, [], h => exact h.elim
    | v :: vs, d :: ds, ⟨p, q, h1, h2, e⟩ =>
      subst e
      exact ⟨p, q, WideElems.Trod_stays laidOut (ht t (by simp)).1 (ht t (by simp)).2 h1 (fun x hx => hb.same (hlt x (by simp [hx]))) (fun x hx => hsp x (by simp [hx])),
        ih (fun t' h' => ht t' (by simp [h'])) h2 (fun x hx => hlt x (by simp [hx])) (fun x hx => hsp x (by simp [hx])), rfl⟩

theorem post_of_below {H : Type} {enc : TypeId × Value → H} {P : Program} {f : Func} {s : ChangeSpec} {apart fresh handsOn again : Bool} {W W' : World} {args : Array Value} {v : Value} {ds gs : List (DataW H)} {before pa pv : List MemPlace}
    (hW : DataW.Whole enc P f.params.toList s.vars apart W args.toList ds gs before)
    (hres : ∀ (b : Nat) (sp : Nat → Bool) (hd : Bool), DataW.TrodAll enc P W' b sp hd f.resultTypes.toList (v.resultList f.resultTypes.size) (s.fn H (ds ++ gs)).results [])
    (hargs : ∀ sp : Nat → Bool, (∀ p ∈ before, sp p.block = true) → DataW.TrodAll enc P W' 0 sp true f.params.toList args.toList (s.fn H (ds ++ gs)).args pa)
    (hvars : ∀ sp : Nat → Bool, (∀ p ∈ before, sp p.block = true) → DataW.TrodVars enc P W' sp s.vars (s.fn H (ds ++ gs)).vars pv)
    (hps : before = pa ++ pv) (hb : Below W.heap.size W W')
    (hok : ∀ (j : Nat) (t : TypeId) (r : Value), f.resultTypes[j]? = some t → (v.resultList f.resultTypes.size)[j]? = some r → Value.okWide P W' .any 0 t r) :
    s.post enc P f apart fresh handsOn again W args v W' := by
  have hlt : ∀ p ∈ before, p.block < W.heap.size := fun p hp => hW.lt p hp
  have hold : ∀ p ∈ before, (fun b => decide (b < W.heap.size)) p.block = true := fun p hp => by simpa using hlt p hp
  refine ⟨ds, gs, before, [], pa, pv, hW, hres _ _ _, hargs _ hold, hvars _ hold, World.keptBut_mono (fun p hp => ⟨hp, ?_⟩) (hb.frame (· ∈ before)), fun _ => ?_⟩
  · rw [hps, List.mem_append] at hp
    exact Or.inr hp
  · obtain ⟨_, _, _, _, _, hz, hn⟩ := hW
    refine ⟨hok, _, _, ([] ++ pa) ++ pv, ⟨[] ++ pa, pv, trodAll_append (hargs _ (fun _ _ => rfl)) (hres _ _ _), hvars _ (fun _ _ => rfl), rfl, ?_, ?_⟩, ?_⟩
    · intro b off hp
      have hin : MemPlace.cell b off ∈ before := by rw [hps]; simpa using hp
      rw [hb.frozen (hlt _ hin)]
      exact hz b off hin
    · intro ha
      have := hn ha
      rw [hps] at this
      simpa using this
    · intro p hp _
      rw [hps]
      simpa using hp

/-- a law has answered true, and what there was is as it was -/
theorem law_fin {H : Type} {enc : TypeId × Value → H} {fnc : Func} {s : ChangeSpec} {W W' : World} {args : Array Value} {ds : List (DataW H)} {before : List MemPlace}
    (hts : ∀ t ∈ fnc.params.toList, Tryd.prog.readableRec t = true ∧ t < Tryd.prog.types.size) (hr : fnc.resultTypes = #[4]) (hvars : s.vars = []) (hfn : s.fn H ds = { results := [.lit (.bool true)], args := ds })
    (hW : DataW.Whole enc Tryd.prog fnc.params.toList s.vars false W args.toList ds [] before) (hb : Below W.heap.size W W') : s.post enc Tryd.prog fnc false true false false W args (.bool true) W' := by
  have hW' := hW
  obtain ⟨p, q, hA, hV, rfl, hfz, hnd⟩ := hW
  rw [hvars] at hV
  obtain ⟨_, rfl⟩ := trodVars_none hV
  have hlt := fun x hx => hW'.lt x hx
  refine post_of_below (pa := p) (pv := []) hW' (fun _ _ _ => ?_) (fun sp hsp => ?_) (fun sp _ => ?_) rfl hb ?_
  · rw [List.append_nil, hfn, hr]
    exact trodAll_mk1 (shut_bool Tryd.underlying4 _)
  · rw [List.append_nil, hfn]
    exact trodAll_carry hb hts hA (fun x hx => hlt x (by simpa using hx)) (fun x hx => hsp x (by simpa using hx))
  · rw [List.append_nil, hfn, hvars]
    rfl
  · exact ok_one hr rfl (okWide_bool_mk Tryd.underlying4 _)

theorem i64min : IntKind.i64.min = -9223372036854775808 := by decide
theorem i64max : IntKind.i64.max = 9223372036854775807 := by decide

theorem int_open {H : Type} {enc : TypeId × Value → H} {W : World} {base : Nat} {v : Value} {d : DataW H} {p : List MemPlace} (hval : Value.okWide Tryd.prog W .any base 3 v) (h1 : DataW.Trod enc Tryd.prog W 0 (fun _ => true) true 3 v d p) :
    ∃ x, v = .int .i64 x ∧ -9223372036854775808 ≤ x ∧ x ≤ 9223372036854775807 := by
  obtain ⟨x, rfl, _, _, hw⟩ := open_int Tryd.underlying3 hval h1
  refine ⟨x, rfl, ?_⟩
  simp [Lit.wf] at hw
  have h1 := i64min
  have h2 := i64max
  omega

theorem sig_open {H : Type} {enc : TypeId × Value → H} {W : World} {base : Nat} {v : Value} {d : DataW H} {p : List MemPlace} (hval : Value.okWide Tryd.prog W .any base 46 v) (h1 : DataW.Trod enc Tryd.prog W 0 (fun _ => true) true 46 v d p) :
    ∃ x y, v = .agg #[.int .i64 x, .int .i64 y] ∧ (-9223372036854775808 ≤ x ∧ x ≤ 9223372036854775807) ∧ -9223372036854775808 ≤ y ∧ y ≤ 9223372036854775807 := by
  obtain ⟨v0, v1, y0, y1, n, rfl, _, _, h2, h3⟩ := Joins.open_agg2 Tryd.underlying46 (by kernel_rfl) (by kernel_rfl) hval h1
  obtain ⟨x, e0, _, hx⟩ := DataW.trod_int Tryd.underlying3 h2
  obtain ⟨y, e1, _, hy⟩ := DataW.trod_int Tryd.underlying3 h3
  cases e0
  cases e1
  refine ⟨x, y, rfl, ?_, ?_⟩
  · simp [Lit.wf] at hx; have h1 := i64min; have h2 := i64max; omega
  · simp [Lit.wf] at hy; have h1 := i64min; have h2 := i64max; omega
end Frk

namespace Frk
open Go Go.RowKit Go.Proofs Go.ChangeShapes Go.WideShapes Go.ChangeAt
set_option maxRecDepth 100000

section
variable {H : Type} {enc : TypeId × Value → H} {W : World} {base : Nat} {sp : Nat → Bool} {hd : Bool} {fuel : Nat} {cs : List Value} {x : DataW H × List MemPlace}

theorem i64_wf {n : Int} (h : (Lit.int .i64 n).wf = true) : I64 n := by
  simp [Lit.wf] at h
  have h1 := i64min
  have h2 := i64max
  exact ⟨by omega, by omega⟩

theorem cells_int (h : DataW.trod enc Tryd.prog W base sp hd fuel 3 cs = some x) : ∃ n, cs = [.int .i64 n] ∧ I64 n := by
  obtain ⟨n, e, _, hw⟩ := DataW.trod_int Tryd.underlying3 h
  exact ⟨n, e, i64_wf hw⟩

theorem cells_ints {t e : TypeId} {k : IntKind} {n : Nat} (ht : Tryd.prog.underlying t = some (.array n e)) (he : Tryd.prog.underlying e = some (.int k)) (hc : Tryd.prog.cellsOf e = 1) (hn : Tryd.prog.cellsOf t = n)
    (h : DataW.trod enc Tryd.prog W base sp hd fuel t cs = some x) : ∃ zs : List Int, zs.length = n ∧ cs = zs.map (fun z => .int k z) ∧ ∀ z ∈ zs, (Lit.int k z).wf = true := by
  obtain ⟨xs, m, _, _, hlen, hxl, hel⟩ := DataW.trod_array ht h
  rw [hn] at hlen
  have key : ∀ i, i < n → ∃ z, cs[i]? = some (.int k z) ∧ (Lit.int k z).wf = true := fun i hi => by
    have h1 := hel i hi
    rw [hc, List.getElem?_eq_getElem (by omega), Nat.mul_one] at h1
    obtain ⟨z, e1, _, hw⟩ := DataW.trod_int he h1
    refine ⟨z, ?_, hw⟩
    have := congrArg (·[0]?) e1
    simp only [List.getElem?_take, List.getElem?_drop] at this
    simpa using this
  refine ⟨cs.map intOf, by simp [hlen], ?_, ?_⟩
  · apply List.ext_getElem?
    intro i
    by_cases hi : i < n
    · obtain ⟨z, e1, _⟩ := key i hi
      simp [e1, intOf]
    · rw [List.getElem?_eq_none (by omega), List.getElem?_eq_none (by simp; omega)]
  · intro z hz
    obtain ⟨v, hv, rfl⟩ := List.mem_map.1 hz
    obtain ⟨i, hi, e⟩ := List.getElem_of_mem hv
    obtain ⟨z, e1, hw⟩ := key i (by omega)
    rw [List.getElem?_eq_getElem hi, e] at e1
    cases e1
    exact hw

theorem cells_cipher (h : DataW.trod enc Tryd.prog W base sp hd fuel 25 cs = some x) : ∃ P Q, cs = [.int .i64 P, .int .i64 Q] ∧ I64 P ∧ I64 Q := by
  obtain ⟨y0, y1, n, _, hl, h0, h1⟩ := trod_struct2 Tryd.underlying25 h
  have c1 : Tryd.prog.cellsOf 3 = 1 := by kernel_rfl
  have c2 : Tryd.prog.cellsOf 25 = 2 := by kernel_rfl
  rw [c2] at hl
  simp only [c1] at h0 h1
  obtain ⟨P, e0, hP⟩ := cells_int h0
  obtain ⟨Q, e1, hQ⟩ := cells_int h1
  match cs, hl with
  | [a, b], _ =>
    simp at e0 e1
    subst e0; subst e1
    exact ⟨P, Q, rfl, hP, hQ⟩

theorem cells_digest (h : DataW.trod enc Tryd.prog W base sp hd fuel 27 cs = some x) : ∃ T : Bytes, T.length = 32 ∧ cs = T.map B := by
  obtain ⟨zs, hl, e, hw⟩ := cells_ints Tryd.underlying27 Tryd.underlying5 (by kernel_rfl) (by kernel_rfl) h
  refine ⟨zs.map fun z => UInt8.ofNat z.toNat, by simpa using hl, ?_⟩
  rw [e, List.map_map]
  apply List.map_congr_left
  intro z hz
  have := hw z hz
  simp [Lit.wf] at this
  have h1 : IntKind.u8.min = 0 := by decide
  have h2 : IntKind.u8.max = 255 := by decide
  show Value.int .u8 z = .int .u8 _
  congr 1
  rw [UInt8.toNat_ofNat_of_lt' (Nat.lt_of_lt_of_le (show z.toNat < 256 by omega) (by decide))]
  omega

theorem cells_ret (h : DataW.trod enc Tryd.prog W base sp hd fuel 29 cs = some x) : ∃ L K P Q T, cs = retC L K P Q T ∧ I64 L ∧ I64 K ∧ I64 P ∧ I64 Q ∧ T.length = 32 := by
  obtain ⟨xs, n, _, _, hl, hlen, hg⟩ := DataW.trod_struct Tryd.underlying29 h
  have c1 : Tryd.prog.cellsOf 3 = 1 := by kernel_rfl
  have c2 : Tryd.prog.cellsOf 25 = 2 := by kernel_rfl
  have c3 : Tryd.prog.cellsOf 27 = 32 := by kernel_rfl
  have c4 : Tryd.prog.cellsOf 29 = 36 := by kernel_rfl
  rw [c4] at hl
  match xs, hlen with
  | [y0, y1, y2, y3], _ =>
    have g0 : DataW.trod enc Tryd.prog W base sp hd n 3 ((cs.drop 0).take (Tryd.prog.cellsOf 3)) = some y0 := hg 0 _ rfl
    have g1 : DataW.trod enc Tryd.prog W base sp hd n 3 ((cs.drop 1).take (Tryd.prog.cellsOf 3)) = some y1 := hg 1 _ rfl
    have g2 : DataW.trod enc Tryd.prog W base sp hd n 25 ((cs.drop 2).take (Tryd.prog.cellsOf 25)) = some y2 := hg 2 _ rfl
    have g3 : DataW.trod enc Tryd.prog W base sp hd n 27 ((cs.drop 4).take (Tryd.prog.cellsOf 27)) = some y3 := hg 3 _ rfl
    rw [c1] at g0 g1
    rw [c2] at g2
    rw [c3] at g3
    obtain ⟨L, e0, hL⟩ := cells_int g0
    obtain ⟨K, e1, hK⟩ := cells_int g1
    obtain ⟨P, Q, e2, hP, hQ⟩ := cells_cipher g2
    obtain ⟨T, hT, e3⟩ := cells_digest g3
    refine ⟨L, K, P, Q, T, ?_, hL, hK, hP, hQ, hT⟩
    rw [List.take_of_length_le (by rw [List.length_drop]; omega)] at e3
    match cs, hl with
    | a :: b :: c :: d :: r, _ =>
      simp at e0 e1 e2 e3
      obtain ⟨rfl, rfl⟩ := e2
      subst e0; subst e1; subst e3
      rfl
end

theorem ret_open {H : Type} {enc : TypeId × Value → H} {W : World} {base : Nat} {v : Value} {d : DataW H} {p : List MemPlace} (hval : Value.okWide Tryd.prog W .any base 29 v) (h1 : DataW.Trod enc Tryd.prog W 0 (fun _ => true) true 29 v d p) :
    ∃ L K P Q T, v = .agg (retC L K P Q T).toArray ∧ I64 L ∧ I64 K ∧ I64 P ∧ I64 Q ∧ T.length = 32 := by
  obtain ⟨cs, rfl, hsz⟩ := okWide_struct Tryd.underlying29 hval
  obtain ⟨fuel, hf⟩ := h1
  obtain ⟨L, K, P, Q, T, e, h⟩ := cells_ret hf
  have e' : cs.toList = retC L K P Q T := e
  exact ⟨L, K, P, Q, T, by rw [← e'], h⟩

theorem cipher_open {H : Type} {enc : TypeId × Value → H} {W : World} {base : Nat} {v : Value} {d : DataW H} {p : List MemPlace} (hval : Value.okWide Tryd.prog W .any base 25 v) (h1 : DataW.Trod enc Tryd.prog W 0 (fun _ => true) true 25 v d p) :
    ∃ P Q, v = .agg #[.int .i64 P, .int .i64 Q] ∧ I64 P ∧ I64 Q := by
  obtain ⟨cs, rfl, hsz⟩ := okWide_struct Tryd.underlying25 hval
  obtain ⟨fuel, hf⟩ := h1
  obtain ⟨P, Q, e, h⟩ := cells_cipher hf
  have e' : cs.toList = [.int .i64 P, .int .i64 Q] := e
  exact ⟨P, Q, by rw [← e'], h⟩

theorem okWide_array' {w : World} {r : Reach} {base n : Nat} {t e : TypeId} {v : Value} (ht : Tryd.prog.underlying t = some (.array n e)) (h : Value.okWide Tryd.prog w r base t v) : ∃ cs, v = .agg cs ∧ cs.size = Tryd.prog.cellsOf t := by
  simp only [Value.okWide, ht] at h
  obtain ⟨cs, h1, h2, _⟩ := h
  exact ⟨cs, h1, h2⟩

theorem three_open {H : Type} {enc : TypeId × Value → H} {W : World} {base : Nat} {v : Value} {d : DataW H} {p : List MemPlace} (hval : Value.okWide Tryd.prog W .any base 22 v) (h1 : DataW.Trod enc Tryd.prog W 0 (fun _ => true) true 22 v d p) :
    ∃ x y z, v = .agg #[.int .i64 x, .int .i64 y, .int .i64 z] ∧ I64 x ∧ I64 y ∧ I64 z := by
  obtain ⟨cs, rfl, hsz⟩ := okWide_array' Tryd.underlying22 hval
  obtain ⟨fuel, hf⟩ := h1
  obtain ⟨zs, hl, e, hw⟩ := cells_ints Tryd.underlying22 Tryd.underlying3 (by kernel_rfl) (by kernel_rfl) hf
  match zs, hl with
  | [x, y, z], _ =>
    have e' : cs.toList = [.int .i64 x, .int .i64 y, .int .i64 z] := e
    exact ⟨x, y, z, by rw [← e'], i64_wf (hw x (by simp)), i64_wf (hw y (by simp)), i64_wf (hw z (by simp))⟩

theorem words_open {H : Type} {enc : TypeId × Value → H} {W : World} {base : Nat} {v : Value} {d : DataW H} {p : List MemPlace} (hval : Value.okWide Tryd.prog W .any base 23 v) (h1 : DataW.Trod enc Tryd.prog W 0 (fun _ => true) true 23 v d p) :
    ∃ x y z, v = .agg #[.int .i64 x, .int .i64 y, .int .i64 z] ∧ I64 x ∧ I64 y ∧ I64 z := by
  obtain ⟨cs, rfl, hsz⟩ := okWide_array' Tryd.underlying23 hval
  obtain ⟨fuel, hf⟩ := h1
  obtain ⟨zs, hl, e, hw⟩ := cells_ints Tryd.underlying23 Tryd.underlying3 (by kernel_rfl) (by kernel_rfl) hf
  match zs, hl with
  | [x, y, z], _ =>
    have e' : cs.toList = [.int .i64 x, .int .i64 y, .int .i64 z] := e
    exact ⟨x, y, z, by rw [← e'], i64_wf (hw x (by simp)), i64_wf (hw y (by simp)), i64_wf (hw z (by simp))⟩

end Frk

namespace Frk
open Go Go.RowKit Go.Proofs Go.ChangeShapes Go.WideShapes Go.ChangeAt
set_option maxRecDepth 100000

/-- the product of the keys of secrets -/
def jnF (c : Nat) : List Int → Nat
  | [] => c
  | s :: ss => jnF (mp c (pw 4 s)) ss
theorem jnF_mp (c : Nat) : ∀ (ss : List Int) (d : Nat), jnF (mp c d) ss = mp c (jnF d ss)
  | [], _ => rfl
  | s :: ss, d => by
    show jnF (mp (mp c d) (pw 4 s)) ss = mp c (jnF (mp d (pw 4 s)) ss)
    rw [mp_assoc, jnF_mp c ss]
theorem jnF_vd : ∀ (ss : List Int) {c : Nat}, Vd c → Vd (jnF c ss)
  | [], _, h => h
  | s :: ss, _, h => jnF_vd ss (h.mp (Vd.pw vd4 s))
theorem jnF_snoc (c : Nat) (s : Int) : ∀ (ss : List Int) (d : Nat), jnF d (ss ++ [s]) = mp (jnF d ss) (pw 4 s)
  | [], _ => rfl
  | x :: ss, d => jnF_snoc c s ss (mp d (pw 4 x))
theorem jnF_cons (s : Int) (ss : List Int) : jnF 1 (s :: ss) = mp (pw 4 s) (jnF 1 ss) := by
  show jnF (mp 1 (pw 4 s)) ss = _
  rw [mp_comm, jnF_mp]

/-- secrets taken off a cipher -/
def offs (ss : List Int) (p : Int × Int) : Int × Int := ss.foldl (fun p s => offP s p) p
theorem offs_nil (p : Int × Int) : offs [] p = p := rfl
theorem offs_cons (s : Int) (ss : List Int) (p : Int × Int) : offs (s :: ss) p = offs ss (offP s p) := rfl
theorem offs_snoc (s : Int) (ss : List Int) (p : Int × Int) : offs (ss ++ [s]) p = offP s (offs ss p) := by
  unfold offs; rw [List.foldl_append]; rfl
theorem offs_ok : ∀ (ss : List Int) {p : Int × Int}, vd p.1 = true ∧ vd p.2 = true → vd (offs ss p).1 = true ∧ vd (offs ss p).2 = true
  | [], _, h => h
  | _ :: ss, _, h => offs_ok ss (offP_ok h)

theorem pw_of_one (t : Int) : pw 1 t = 1 := by
  unfold pw; rw [Nat.one_pow]; decide

theorem offs_seal (t : Int) : ∀ (ss : List Int) (e : Nat), e < P → offs ss (((pw 4 t : Nat) : Int), ((mp e (pw (jnF 1 ss) t) : Nat) : Int)) = (((pw 4 t : Nat) : Int), (e : Int))
  | [], e, he => by
    show (((pw 4 t : Nat) : Int), ((mp e (pw 1 t) : Nat) : Int)) = _
    rw [pw_of_one, mp_one he]
  | s :: ss, e, he => by
    rw [offs_cons]
    have h : offP s (((pw 4 t : Nat) : Int), ((mp e (pw (jnF 1 (s :: ss)) t) : Nat) : Int)) = (((pw 4 t : Nat) : Int), ((mp e (pw (jnF 1 ss) t) : Nat) : Int)) := by
      unfold offP
      show (_, ((mp (mp e (pw (jnF 1 (s :: ss)) t)) (pw (pw 4 t) (-s)) : Nat) : Int)) = _
      rw [off_seal (n := s) (r := t) rfl (mp_lt e (pw (jnF 1 ss) t))]
      rw [jnF_cons]
      show mp e (pw (pw 4 s * jnF 1 ss % P) t) = _
      rw [mul_pw]
      show mp e (mp (pw (pw 4 s) t) (pw (jnF 1 ss) t)) = _
      rw [mp_comm (pw (pw 4 s) t), mp_assoc]
    rw [h]
    exact offs_seal t ss e he

/-- a slice of integers -/
structure IsN (w : World) (a : Option Addr) (len cap : Nat) (l : List Int) : Prop where
  llen : l.length = len
  lcap : len ≤ cap
  lmax : len ≤ 1099511627776
  cmax : cap ≤ 9223372036854775807
  each : ∀ x ∈ l, I64 x
  at_ : len = 0 ∨ ∃ g off, a = some ⟨g, off, none⟩ ∧ w.rangeAt g off (l.map (Value.int .i64)) ∧ g < w.heap.size

theorem IsN.of_heap {w w' : World} {a : Option Addr} {len cap : Nat} {l : List Int} (h : IsN w a len cap l) (hb : Below w.heap.size w w') : IsN w' a len cap l :=
  ⟨h.llen, h.lcap, h.lmax, h.cmax, h.each, by
    rcases h.at_ with h0 | ⟨g, off, e, hr, hg⟩
    · exact .inl h0
    · exact .inr ⟨g, off, e, rangeAt_below' hr hb, Nat.lt_of_lt_of_le hg hb.size⟩⟩

theorem range_i64 {zs : List Int} (h : ∀ n ∈ zs, (Lit.int .i64 n).wf = true) (x : Int) (hx : x ∈ zs) : I64 x := by
  have := h _ hx
  simp [Lit.wf] at this
  have h1 : IntKind.i64.min = -9223372036854775808 := by decide
  have h2 : IntKind.i64.max = 9223372036854775807 := by decide
  exact ⟨by omega, by omega⟩

theorem ints_open {H : Type} {enc : TypeId × Value → H} {W : World} {base : Nat} {v : Value} {d : DataW H} {p : List MemPlace} (hval : Value.okWide Tryd.prog W .any base 54 v) (h1 : DataW.Trod enc Tryd.prog W 0 (fun _ => true) true 54 v d p) :
    ∃ a len cap l, v = .slice a len cap ∧ (len : Int) ≤ 9223372036854775807 ∧ (len ≤ 1099511627776 → IsN W a len cap l) := by
  obtain ⟨a1, len, cap, rfl⟩ := okWide_slice Tryd.underlying54 hval
  obtain ⟨fuel, hf⟩ := h1
  have c1 : Tryd.prog.cellsOf 3 = 1 := by kernel_rfl
  rcases open_ints Tryd.underlying54 Tryd.underlying3 c1 hf with ⟨hcs, hx⟩ | ⟨a, len', cap', zs, hcs, _, hl, hm, hz, hx, hcell, hwz⟩
  · simp [Value.cells] at hcs
    obtain ⟨rfl, rfl, rfl⟩ := hcs
    exact ⟨none, 0, 0, [], rfl, by decide, fun _ => ⟨rfl, Nat.le_refl _, by decide, by decide, by simp, .inl rfl⟩⟩
  · simp [Value.cells] at hcs
    obtain ⟨rfl, rfl, rfl⟩ := hcs
    simp only [if_true] at hz
    unfold maxLen at hm
    have hlen : (zs.take len).length = len := by simp; omega
    refine ⟨some a, len, cap, zs.take len, rfl, by omega, fun h40 => ⟨hlen, hl, h40, by omega, fun x hx => range_i64 hwz x (List.mem_of_mem_take hx), ?_⟩⟩
    rcases Nat.eq_zero_or_pos len with h0 | h0
    · exact .inl h0
    · right
      obtain ⟨ab, ao, spot⟩ := a
      have hspot : spot = none := by simpa [Addr.add] using World.cell?_spot (hcell 0 (by omega))
      subst hspot
      refine ⟨ab, ao, rfl, fun j u hu => ?_, ?_⟩
      · have hj : j < len := by have := (List.getElem?_eq_some_iff.1 hu).1; rw [List.length_map, hlen] at this; exact this
        have hcj := hcell j (by omega)
        rw [Addr.add_lit] at hcj
        rw [hcj, ← hu, List.getElem?_map, List.getElem?_take, if_pos hj, List.getElem?_eq_getElem (show j < zs.length by omega)]
        have e : zs.getD j 0 = zs[j]'(by omega) := by simp [List.getD_eq_getElem?_getD, List.getElem?_eq_getElem (show j < zs.length by omega)]
        rw [e]
        rfl
      · have hc0 := hcell 0 (by omega)
        rw [Addr.add_lit] at hc0
        exact block_lt_of_cell hc0

def keysOf (ss : List Int) : List Int := ss.map fun s => ((pw 4 s : Nat) : Int)

theorem keysOf_i64 (ss : List Int) : ∀ x ∈ keysOf ss, I64 x := by
  intro x hx
  unfold keysOf at hx
  obtain ⟨s, _, rfl⟩ := List.mem_map.1 hx
  have h := pw_lt 4 s
  have hP : P = 2147483579 := rfl
  exact ⟨by omega, by omega⟩

theorem cell_n {w : World} {g off : Nat} {l : List Int} (h : w.rangeAt g off (l.map (Value.int .i64))) {k : Nat} (hk : k < l.length) : w.cell? ⟨g, off + k, none⟩ = some (.int .i64 (l.getD k 0)) := by
  refine h k _ ?_
  rw [List.getElem?_map, List.getElem?_eq_getElem hk]
  simp [List.getD_eq_getElem?_getD, List.getElem?_eq_getElem hk]

theorem jnF_take (ss : List Int) (k : Nat) (hk : k < ss.length) : jnF 1 (ss.take (k + 1)) = mp (jnF 1 (ss.take k)) (pw 4 (ss.getD k 0)) := by
  rw [List.take_add_one, List.getElem?_eq_getElem hk]
  simp only [Option.toList_some]
  rw [jnF_snoc 1]
  simp [List.getD_eq_getElem?_getD, List.getElem?_eq_getElem hk]

theorem keysOf_getD (ss : List Int) (k : Nat) (hk : k < ss.length) : (keysOf ss).getD k 0 = ((pw 4 (ss.getD k 0) : Nat) : Int) := by
  unfold keysOf
  simp [List.getD_eq_getElem?_getD, List.getElem?_eq_getElem hk]

set_option maxHeartbeats 2000000 in
theorem efold_any (a : Option Addr) (n cap : Nat) (ss : List Int) (w : World) (h : IsN w a n cap (keysOf ss)) :
    Calls Tryd.prog 51 #[.slice a n cap, .int .i64 1, .func (.func 38) #[] #[]] w fun e w' => e = .returned (.tuple #[.int .i64 (jnF 1 ss : Nat), .int .i64 0]) ∧ w = w' := by
  have hl : ss.length = n := by have := h.llen; unfold keysOf at this; simpa using this
  have hm := h.lmax
  have HK := Seal.mk h
  have HL := Seal.mk hl
  clear h
  go_enter Tryd.func51, Tryd.ntmps51
  go_wp2
  go_loopw [6, 13] (fun x i wr => ∃ k : Nat, k ≤ n ∧ x = .int .i64 (jnF 1 (ss.take k) : Nat) ∧ i = .int .i64 k ∧ wr = w) (fun _ i _ => n - (intOf i).toNat)
  case atStart => exact ⟨0, by omega, by simp [jnF], rfl, rfl⟩
  case round =>
    obtain ⟨k, hk, rfl, rfl, rfl⟩ := hrel
    by_cases hlt : k < n
    · rcases HK.out.at_ with h0 | ⟨g, off, rfl, hr, hg⟩
      · omega
      · have q5 : (k : Int) < (n : Int) := by omega
        have q6 : (0 : Int) ≤ (k : Int) := by omega
        have c1 := cell_n hr (k := k) (by rw [HK.out.llen]; exact hlt)
        rw [keysOf_getD ss k (by omega)] at c1
        have HM := Seal.mk (mul_yes (jnF 1 (ss.take k) : Nat) (pw 4 (ss.getD k 0) : Nat) wr ((vd_iff _).2 (jnF_vd _ ((vd_iff _).1 (by decide +kernel)))) ((vd_iff _).2 (Vd.pw vd4 _)))
        have HJ : Seal (mp (jnF 1 (ss.take k)) (pw 4 (ss.getD k 0)) = jnF 1 (ss.take (k + 1))) := ⟨(jnF_take ss k (by omega)).symm⟩
        obtain ⟨u, hu⟩ : ∃ u : Nat, u = jnF 1 (ss.take k) := ⟨_, rfl⟩
        obtain ⟨v, hv⟩ : ∃ v : Nat, v = pw 4 (ss.getD k 0) := ⟨_, rfl⟩
        rw [← hu, ← hv] at HM HJ
        rw [← hv] at c1
        rw [← hu]
        clear hu hv hr hl
        go_wp2_with fail
        refine HM.out.mono ?_
        rintro e w1 ⟨rfl, rfl⟩
        rw [Int.toNat_natCast, Int.toNat_natCast, HJ.out]
        go_wp2_with fail
        go_roundw
        case rel => exact ⟨k + 1, by omega, rfl, by go_num, by first | rfl | trivial⟩
        case measure => simp [intOf]; omega
    · obtain rfl : k = n := by omega
      have q5 : ¬ (k : Int) < (k : Int) := by omega
      have e : ss.take k = ss := List.take_of_length_le (by omega)
      rw [e]
      go_wp2_with fail
      go_ret2
      exact ⟨rfl, rfl⟩

theorem ejoin_any (a : Option Addr) (n cap : Nat) (ss : List Int) (w : World) (h : IsN w a n cap (keysOf ss)) :
    Calls Tryd.prog 20 #[.slice a n cap] w fun e w' => e = .returned (.tuple #[.int .i64 (jnF 1 ss : Nat), .int .i64 0]) ∧ w = w' := by
  have HF := Seal.mk (efold_any a n cap ss w h)
  clear h
  go_enter Tryd.func20, Tryd.ntmps20
  go_wp2_with fail
  refine HF.out.mono ?_
  rintro e w1 ⟨rfl, rfl⟩
  go_wp2_with fail
  go_ret2
  exact ⟨rfl, rfl⟩

def secB (n : Int) : Bool := decide (0 < n) && decide (n < 1073741789)

theorem esecret_any (n : Int) (t : Bool) (w : World) (ht : secB n = t) : Calls Tryd.prog 49 #[.int .i64 n] w fun e w' => e = .returned (.bool t) ∧ w = w' := by
  unfold secB at ht
  have HT := Seal.mk ht
  clear ht
  by_cases h0 : 1 ≤ n
  · by_cases h1 : n < 1073741789
    · have HF : Seal (t = true) := ⟨by rw [← HT.out, decide_eq_true (show 0 < n by omega), decide_eq_true h1]; rfl⟩
      go_enter Tryd.func49, Tryd.ntmps49
      go_wp2
      go_ret
      exact ⟨ret_bool HF.out.symm, rfl⟩
    · have HF : Seal (t = false) := ⟨by rw [← HT.out, decide_eq_false h1]; simp⟩
      go_enter Tryd.func49, Tryd.ntmps49
      go_wp2
      go_ret
      exact ⟨ret_bool HF.out.symm, rfl⟩
  · have HF : Seal (t = false) := ⟨by rw [← HT.out, decide_eq_false (show ¬ 0 < n by omega)]; simp⟩
    go_enter Tryd.func49, Tryd.ntmps49
    go_wp2
    go_ret
    exact ⟨ret_bool HF.out.symm, rfl⟩

/-- what Public returns (and blind's Begin) -/
def pubF (n : Int) : Int × Int := if secB n = true then (((pw 4 n : Nat) : Int), 0) else (0, 110)

theorem public_at (n d e0 : Int) (w : World) (h : Seal (pubF n = (d, e0))) (h1 : -9223372036854775808 ≤ n) (h2 : n ≤ 9223372036854775807) : Calls Tryd.prog 19 #[.int .i64 n] w fun e w' => e = .returned (.tuple #[.int .i64 d, .int .i64 e0]) ∧ Below w.heap.size w w' := by
  have h' := h.out
  unfold pubF at h'
  cases hs : secB n with
  | false =>
    rw [hs, if_neg (by decide)] at h'
    obtain ⟨rfl, rfl⟩ := Prod.mk.inj h'
    have HS := Seal.mk hs
    clear h h' hs h1 h2
    go_enter Tryd.func19, Tryd.ntmps19
    go_wp2_with (go_at_call 49; refine (esecret_any _ _ _ HS.out).mono ?_; rintro e w' ⟨rfl, rfl⟩)
    go_ret2
    exact ⟨rfl, Below.refl _ _⟩
  | true =>
    rw [hs, if_pos rfl] at h'
    obtain ⟨rfl, rfl⟩ := Prod.mk.inj h'
    have HS := Seal.mk hs
    have HP : Seal _ := ⟨pow_yes 4 n w (by decide +kernel) h1 h2⟩
    clear h h' hs h1 h2
    go_enter Tryd.func19, Tryd.ntmps19
    go_wp2_with (first | (go_at_call 49; refine (esecret_any _ _ _ HS.out).mono ?_; rintro e w' ⟨rfl, rfl⟩) | (go_at_call 50; refine HP.out.mono ?_; rintro e w' ⟨rfl, hb⟩))
    go_ret2
    exact ⟨rfl, hb⟩

/-- a stretch of a walk, ended by what its slots and its world are -/
def CutQ (F : Nat → Act) (R : Nat → World → Prop) : Exit → Act → World → Prop
  | .normal, a, W => ∃ g, a = F g ∧ R g W
  | _, _, _ => False

theorem wp_cut {P : Program} {c : Code} {Q : Exit → Act → World → Prop} {a : Act} {w : World} (F : Nat → Act) (R : Nat → World → Prop)
    (h : c.wp P (CutQ F R) a w) (hQ : ∀ g W, R g W → Q .normal (F g) W) : c.wp P Q a w :=
  Code.wp_mono (fun e a W hq => by
    cases e with
    | normal => obtain ⟨g, ha, hR⟩ := hq; subst ha; exact hQ g W hR
    | _ => exact hq.elim) h

theorem xst_row {P : Program} {o : Oper} {a : Act} {w : World} (ty : TypeId) (x y : Operand) (ho : o.op = .store ty x y)
    (g : Nat) (cells : Array Value) (hx : a.eval x = .pointer (some ⟨g, 0, none⟩)) (hy : a.eval y = .agg cells)
    (t : TypeId) (old : Array Value) (hg : w.heap[g]? = some (.cells old t (0, 0))) (hi : (P.info? ty).map (·.size) = some cells.size)
    (hold : old.size = cells.size) (h1 : cells.all (·.oneCell') = true) : (execOp a.eval o).run P w = .ok .skip (w.setRow g cells) := by
  unfold execOp
  simp only [ho, hx, hy, Instr.storeAt, Instr.sureAddr, Sem.run_bind, Sem.run_pure, Result.andThen_ok, run_storeVar_row w g t ty old cells hg hi hold h1]

end Frk

namespace Frk
open Go Go.RowKit Go.Proofs
set_option maxRecDepth 100000

def tX : Bytes := rtag 0 4 4 16
def tY : Bytes := rtag 0 4 16 64
theorem tX_len : tX.length = 32 := sha_length _
theorem tY_len : tY.length = 32 := sha_length _
theorem vv4 : vd 4 = true := by decide +kernel
theorem vv16 : vd 16 = true := by decide +kernel
theorem vv2 : vd 2 = false := by decide +kernel
theorem vv0 : vd 0 = false := by decide +kernel
theorem pw40 : pw 4 0 = 1 := pw_zero 4
theorem pw41 : pw 4 1 = 4 := pw_one vd4
theorem pw42 : pw 4 2 = 16 := by rw [pw_q]; decide +kernel
theorem elB4 : elB 4 = 4 := by unfold elB; rw [if_pos vv4]

theorem mk1 : makeF 64 4 1 0 = (0, 0, 0, 0, zb32, 160) := by unfold makeF; rw [if_pos (by decide)]
theorem mk2 : makeF 0 2 1 0 = (0, 0, 0, 0, zb32, 90) := by unfold makeF; rw [if_neg (by decide), vv2, if_neg (by decide)]
theorem mk3 : makeF 0 4 0 0 = (0, 0, 0, 0, zb32, 160) := by unfold makeF; rw [if_neg (by decide), if_pos vv4, if_neg (by decide)]
theorem mk4 : makeF 0 4 4 1 = (0, 4, 4, 16, tX, 0) := by
  unfold makeF
  rw [if_neg (by decide), if_pos vv4, if_pos (by decide), elB4]
  show (0, 4, ((mp 1 (pw 4 1) : Nat) : Int), ((mp 4 (pw 4 1) : Nat) : Int), rtag 0 4 ((mp 1 (pw 4 1) : Nat) : Int) ((mp 4 (pw 4 1) : Nat) : Int), 0) = _
  rw [pw41, show mp 1 4 = 4 from by decide, show mp 4 4 = 16 from by decide]
  rfl
theorem mk5 : makeF 0 4 4 2 = (0, 4, 16, 64, tY, 0) := by
  unfold makeF
  rw [if_neg (by decide), if_pos vv4, if_pos (by decide), elB4]
  show (0, 4, ((mp 1 (pw 4 2) : Nat) : Int), ((mp 4 (pw 4 2) : Nat) : Int), rtag 0 4 ((mp 1 (pw 4 2) : Nat) : Int) ((mp 4 (pw 4 2) : Nat) : Int), 0) = _
  rw [pw42, show mp 1 16 = 16 from by decide, show mp 4 16 = 64 from by decide]
  rfl
theorem chkX : chkB 0 4 4 16 tX = true := by
  unfold chkB
  rw [vv4, vv16]
  simp [tX]
theorem chk0 : chkB 0 0 0 0 zb32 = false := by
  unfold chkB
  rw [vv0]
  simp
theorem sp1 : spendF (chkB 0 4 4 16 tX) [] tX 160 = ([tX], 0) := by rw [chkX]; rfl
theorem sp2 : spendF (chkB 0 4 4 16 tX) [tX] tX 160 = ([], 161) := by
  rw [chkX]
  unfold spendF
  rw [if_pos rfl, show usedB [tX] = true from rfl, if_pos rfl, if_pos (by simp [hasB])]
theorem us1 : useF (chkB 0 4 4 16 tX) 4 4 16 4 4 0 0 1 = (4, 16, 1, 4, 4, 16, 0) := by
  rw [chkX]
  unfold useF
  rw [if_pos rfl, if_pos (by decide), if_pos (by decide), elB4]
  show (((mp 4 (pw 4 0) : Nat) : Int), ((mp 16 (pw 4 0) : Nat) : Int), ((mp 1 (pw 4 0) : Nat) : Int), ((mp 4 (pw 4 0) : Nat) : Int), ((mp 1 (pw 4 1) : Nat) : Int), ((mp 4 (pw 4 1) : Nat) : Int), 0) = _
  rw [pw40, pw41]
  decide
theorem us2 : useF (chkB 0 0 0 0 zb32) 0 0 0 1 1 0 0 0 = (0, 0, 0, 0, 0, 0, 160) := by
  rw [chk0]
  unfold useF
  rw [if_neg (by decide)]
theorem us3 : useF (chkB 0 4 4 16 tX) 4 4 16 0 1 0 0 0 = (0, 0, 0, 0, 0, 0, 100) := by
  rw [chkX]
  unfold useF
  rw [if_pos rfl, if_neg (by decide)]

theorem i64d {n : Int} (h : decide (-9223372036854775808 ≤ n) && decide (n ≤ 9223372036854775807) = true) : I64 n := by
  simp only [Bool.and_eq_true, decide_eq_true_eq] at h
  exact h

theorem eqCi1 (w : World) : (Op.equalIn 10000 25 (.agg #[.int .i64 4, .int .i64 16]) (.agg #[.int .i64 4, .int .i64 16])).run Tryd.prog w = .ok true w := by kernel_rfl
theorem eqCi2 (w : World) : (Op.equalIn 10000 25 (.agg #[.int .i64 16, .int .i64 64]) (.agg #[.int .i64 16, .int .i64 64])).run Tryd.prog w = .ok true w := by kernel_rfl
theorem eqSe1 (w : World) : (Op.equalIn 10000 32 (.agg #[.int .i64 4, .int .i64 16, .int .i64 1, .int .i64 4, .int .i64 4, .int .i64 16]) (.agg #[.int .i64 4, .int .i64 16, .int .i64 1, .int .i64 4, .int .i64 4, .int .i64 16])).run Tryd.prog w = .ok true w := by kernel_rfl

set_option maxHeartbeats 8000000 in
theorem osane_any (w : World) (hG : Glob w) : Calls Tryd.prog 23 #[] w fun e w' => e = .returned (.bool true) ∧ Below w.heap.size w w' := by
  have HE0 : Seal (Env w none 0 0 [] []) := ⟨⟨hG, isB_nil w, by intro p hp; cases hp⟩⟩
  have HB0 : Seal (Below w.heap.size w w) := ⟨Below.refl _ _⟩
  obtain ⟨Zl, hZl⟩ : ∃ Zl, Zl = retC 0 0 0 0 zb32 := ⟨_, rfl⟩
  obtain ⟨Xl, hXl⟩ : ∃ Xl, Xl = retC 0 4 4 16 tX := ⟨_, rfl⟩
  obtain ⟨Yl, hYl⟩ : ∃ Yl, Yl = retC 0 4 16 64 tY := ⟨_, rfl⟩
  have zl : Zl.length = 36 := by rw [hZl]; exact retC_len zb32_len
  have xl : Xl.length = 36 := by rw [hXl]; exact retC_len tX_len
  have yl : Yl.length = 36 := by rw [hYl]; exact retC_len tY_len
  have ir : (Tryd.prog.info? 29).map (·.size) = some 36 := by kernel_rfl
  have HZ : Seal (Zl = retC 0 0 0 0 zb32 ∧ (List.toArray (.int .i64 0 :: .int .i64 0 :: .int .i64 0 :: .int .i64 0 :: .int .u8 0 :: .int .u8 0 :: .int .u8 0 :: .int .u8 0 :: .int .u8 0 :: .int .u8 0 :: .int .u8 0 :: .int .u8 0 :: .int .u8 0 :: .int .u8 0 :: .int .u8 0 :: .int .u8 0 :: .int .u8 0 :: .int .u8 0 :: .int .u8 0 :: .int .u8 0 :: .int .u8 0 :: .int .u8 0 :: .int .u8 0 :: .int .u8 0 :: .int .u8 0 :: .int .u8 0 :: .int .u8 0 :: .int .u8 0 :: .int .u8 0 :: .int .u8 0 :: .int .u8 0 :: .int .u8 0 :: .int .u8 0 :: .int .u8 0 :: .int .u8 0 :: .int .u8 0 :: []) : Array Value) = Zl.toArray) := ⟨hZl, by rw [hZl]; exact retC_zero⟩
  have HX : Seal (Xl = retC 0 4 4 16 tX) := ⟨hXl⟩
  have HY : Seal (Yl = retC 0 4 16 64 tY) := ⟨hYl⟩
  have IZ : Seal ((Tryd.prog.info? 29).map (·.size) = some Zl.length) := ⟨by rw [zl]; exact ir⟩
  have IX : Seal ((Tryd.prog.info? 29).map (·.size) = some Xl.length) := ⟨by rw [xl]; exact ir⟩
  have IY : Seal ((Tryd.prog.info? 29).map (·.size) = some Yl.length) := ⟨by rw [yl]; exact ir⟩
  have LZ : Seal ((.int .i64 0 :: .int .i64 0 :: .int .i64 0 :: .int .i64 0 :: .int .u8 0 :: .int .u8 0 :: .int .u8 0 :: .int .u8 0 :: .int .u8 0 :: .int .u8 0 :: .int .u8 0 :: .int .u8 0 :: .int .u8 0 :: .int .u8 0 :: .int .u8 0 :: .int .u8 0 :: .int .u8 0 :: .int .u8 0 :: .int .u8 0 :: .int .u8 0 :: .int .u8 0 :: .int .u8 0 :: .int .u8 0 :: .int .u8 0 :: .int .u8 0 :: .int .u8 0 :: .int .u8 0 :: .int .u8 0 :: .int .u8 0 :: .int .u8 0 :: .int .u8 0 :: .int .u8 0 :: .int .u8 0 :: .int .u8 0 :: .int .u8 0 :: .int .u8 0 :: [] : List Value).length = Zl.length) := ⟨by rw [zl]; rfl⟩
  have LX : Seal ((.int .i64 0 :: .int .i64 0 :: .int .i64 0 :: .int .i64 0 :: .int .u8 0 :: .int .u8 0 :: .int .u8 0 :: .int .u8 0 :: .int .u8 0 :: .int .u8 0 :: .int .u8 0 :: .int .u8 0 :: .int .u8 0 :: .int .u8 0 :: .int .u8 0 :: .int .u8 0 :: .int .u8 0 :: .int .u8 0 :: .int .u8 0 :: .int .u8 0 :: .int .u8 0 :: .int .u8 0 :: .int .u8 0 :: .int .u8 0 :: .int .u8 0 :: .int .u8 0 :: .int .u8 0 :: .int .u8 0 :: .int .u8 0 :: .int .u8 0 :: .int .u8 0 :: .int .u8 0 :: .int .u8 0 :: .int .u8 0 :: .int .u8 0 :: .int .u8 0 :: [] : List Value).length = Xl.length) := ⟨by rw [xl]; rfl⟩
  have LY : Seal ((.int .i64 0 :: .int .i64 0 :: .int .i64 0 :: .int .i64 0 :: .int .u8 0 :: .int .u8 0 :: .int .u8 0 :: .int .u8 0 :: .int .u8 0 :: .int .u8 0 :: .int .u8 0 :: .int .u8 0 :: .int .u8 0 :: .int .u8 0 :: .int .u8 0 :: .int .u8 0 :: .int .u8 0 :: .int .u8 0 :: .int .u8 0 :: .int .u8 0 :: .int .u8 0 :: .int .u8 0 :: .int .u8 0 :: .int .u8 0 :: .int .u8 0 :: .int .u8 0 :: .int .u8 0 :: .int .u8 0 :: .int .u8 0 :: .int .u8 0 :: .int .u8 0 :: .int .u8 0 :: .int .u8 0 :: .int .u8 0 :: .int .u8 0 :: .int .u8 0 :: [] : List Value).length = Yl.length) := ⟨by rw [yl]; rfl⟩
  have OZ : Seal (∀ u ∈ Zl, u.oneCell' = true) := ⟨by rw [hZl]; exact retC_one _ _ _ _ _⟩
  have OX : Seal (∀ u ∈ Xl, u.oneCell' = true) := ⟨by rw [hXl]; exact retC_one _ _ _ _ _⟩
  have OY : Seal (∀ u ∈ Yl, u.oneCell' = true) := ⟨by rw [hYl]; exact retC_one _ _ _ _ _⟩
  clear hG hZl hXl hYl zl xl yl ir
  go_enter Tryd.func23, Tryd.ntmps23
  go_wp2_with fail
  have HMK := omake_at 64 4 1 0 _ _ _ _ _ _ w HE0.out.glob (by decide) (by decide) (by decide) (by decide) ⟨mk1⟩
  rw [← HZ.out.1] at HMK
  refine HMK.mono ?_
  rintro e w1 ⟨rfl, hb⟩
  clear HMK
  have HE1 := Seal.mk ((HE0.out.below hb).push (.cells Zl.toArray 29))
  have HB1 := Seal.mk ((HB0.out.trans (hb.mono HB0.out.size)).alloc (Nat.le_trans HB0.out.size hb.size) (.cells Zl.toArray 29))
  clear hb HE0 HB0
  go_wp2_with (refine wpList_store_new rfl 29 (.tmp 1) (.tmp 24) rfl (.int .i64 0 :: .int .i64 0 :: .int .i64 0 :: .int .i64 0 :: .int .u8 0 :: .int .u8 0 :: .int .u8 0 :: .int .u8 0 :: .int .u8 0 :: .int .u8 0 :: .int .u8 0 :: .int .u8 0 :: .int .u8 0 :: .int .u8 0 :: .int .u8 0 :: .int .u8 0 :: .int .u8 0 :: .int .u8 0 :: .int .u8 0 :: .int .u8 0 :: .int .u8 0 :: .int .u8 0 :: .int .u8 0 :: .int .u8 0 :: .int .u8 0 :: .int .u8 0 :: .int .u8 0 :: .int .u8 0 :: .int .u8 0 :: .int .u8 0 :: .int .u8 0 :: .int .u8 0 :: .int .u8 0 :: .int .u8 0 :: .int .u8 0 :: .int .u8 0 :: [] : List Value) Zl 29 rfl rfl IZ.out LZ.out OZ.out ?_)
  have HMK := omake_at 0 2 1 0 _ _ _ _ _ _ _ HE1.out.glob (by decide) (by decide) (by decide) (by decide) ⟨mk2⟩
  rw [← HZ.out.1] at HMK
  refine HMK.mono ?_
  rintro e w2 ⟨rfl, hb⟩
  clear HMK
  have HE2 := Seal.mk ((HE1.out.below hb).push (.cells Zl.toArray 29))
  have HB2 := Seal.mk ((HB1.out.trans (hb.mono HB1.out.size)).alloc (Nat.le_trans HB1.out.size hb.size) (.cells Zl.toArray 29))
  clear hb HE1 HB1
  go_wp2_with (refine wpList_store_new rfl 29 (.tmp 3) (.tmp 28) rfl (.int .i64 0 :: .int .i64 0 :: .int .i64 0 :: .int .i64 0 :: .int .u8 0 :: .int .u8 0 :: .int .u8 0 :: .int .u8 0 :: .int .u8 0 :: .int .u8 0 :: .int .u8 0 :: .int .u8 0 :: .int .u8 0 :: .int .u8 0 :: .int .u8 0 :: .int .u8 0 :: .int .u8 0 :: .int .u8 0 :: .int .u8 0 :: .int .u8 0 :: .int .u8 0 :: .int .u8 0 :: .int .u8 0 :: .int .u8 0 :: .int .u8 0 :: .int .u8 0 :: .int .u8 0 :: .int .u8 0 :: .int .u8 0 :: .int .u8 0 :: .int .u8 0 :: .int .u8 0 :: .int .u8 0 :: .int .u8 0 :: .int .u8 0 :: .int .u8 0 :: [] : List Value) Zl 29 rfl rfl IZ.out LZ.out OZ.out ?_)
  have HMK := omake_at 0 4 0 0 _ _ _ _ _ _ _ HE2.out.glob (by decide) (by decide) (by decide) (by decide) ⟨mk3⟩
  rw [← HZ.out.1] at HMK
  refine HMK.mono ?_
  rintro e w3 ⟨rfl, hb⟩
  clear HMK
  have HE3 := Seal.mk ((HE2.out.below hb).push (.cells Zl.toArray 29))
  have HB3 := Seal.mk ((HB2.out.trans (hb.mono HB2.out.size)).alloc (Nat.le_trans HB2.out.size hb.size) (.cells Zl.toArray 29))
  clear hb HE2 HB2
  go_wp2_with (refine wpList_store_new rfl 29 (.tmp 5) (.tmp 32) rfl (.int .i64 0 :: .int .i64 0 :: .int .i64 0 :: .int .i64 0 :: .int .u8 0 :: .int .u8 0 :: .int .u8 0 :: .int .u8 0 :: .int .u8 0 :: .int .u8 0 :: .int .u8 0 :: .int .u8 0 :: .int .u8 0 :: .int .u8 0 :: .int .u8 0 :: .int .u8 0 :: .int .u8 0 :: .int .u8 0 :: .int .u8 0 :: .int .u8 0 :: .int .u8 0 :: .int .u8 0 :: .int .u8 0 :: .int .u8 0 :: .int .u8 0 :: .int .u8 0 :: .int .u8 0 :: .int .u8 0 :: .int .u8 0 :: .int .u8 0 :: .int .u8 0 :: .int .u8 0 :: .int .u8 0 :: .int .u8 0 :: .int .u8 0 :: .int .u8 0 :: [] : List Value) Zl 29 rfl rfl IZ.out LZ.out OZ.out ?_)
  have HMK := omake_at 0 4 4 1 _ _ _ _ _ _ _ HE3.out.glob (by decide) (by decide) (by decide) (by decide) ⟨mk4⟩
  rw [← HX.out] at HMK
  refine HMK.mono ?_
  rintro e w4 ⟨rfl, hb⟩
  clear HMK
  have HE4 := Seal.mk ((HE3.out.below hb).push (.cells Xl.toArray 29))
  have HB4 := Seal.mk ((HB3.out.trans (hb.mono HB3.out.size)).alloc (Nat.le_trans HB3.out.size hb.size) (.cells Xl.toArray 29))
  clear hb HE3 HB3
  go_wp2_with (refine wpList_store_new rfl 29 (.tmp 7) (.tmp 36) rfl (.int .i64 0 :: .int .i64 0 :: .int .i64 0 :: .int .i64 0 :: .int .u8 0 :: .int .u8 0 :: .int .u8 0 :: .int .u8 0 :: .int .u8 0 :: .int .u8 0 :: .int .u8 0 :: .int .u8 0 :: .int .u8 0 :: .int .u8 0 :: .int .u8 0 :: .int .u8 0 :: .int .u8 0 :: .int .u8 0 :: .int .u8 0 :: .int .u8 0 :: .int .u8 0 :: .int .u8 0 :: .int .u8 0 :: .int .u8 0 :: .int .u8 0 :: .int .u8 0 :: .int .u8 0 :: .int .u8 0 :: .int .u8 0 :: .int .u8 0 :: .int .u8 0 :: .int .u8 0 :: .int .u8 0 :: .int .u8 0 :: .int .u8 0 :: .int .u8 0 :: [] : List Value) Xl 29 rfl rfl IX.out LX.out OX.out ?_)
  have HMK := omake_at 0 4 4 2 _ _ _ _ _ _ _ HE4.out.glob (by decide) (by decide) (by decide) (by decide) ⟨mk5⟩
  rw [← HY.out] at HMK
  refine HMK.mono ?_
  rintro e w5 ⟨rfl, hb⟩
  clear HMK
  have HE5 := Seal.mk ((HE4.out.below hb).push (.cells Yl.toArray 29))
  have HB5 := Seal.mk ((HB4.out.trans (hb.mono HB4.out.size)).alloc (Nat.le_trans HB4.out.size hb.size) (.cells Yl.toArray 29))
  clear hb HE4 HB4
  have IXa : Seal ((Tryd.prog.info? 29).map (·.size) = some Xl.toArray.size) := ⟨by rw [List.size_toArray]; exact IX.out⟩
  have RX5 := Seal.mk (HE5.out.keep (w4.heap.size, .cells Xl.toArray 29) (by simp))
  go_wp2_with (first | (refine wpList_store_new rfl 29 (.tmp 9) (.tmp 40) rfl (.int .i64 0 :: .int .i64 0 :: .int .i64 0 :: .int .i64 0 :: .int .u8 0 :: .int .u8 0 :: .int .u8 0 :: .int .u8 0 :: .int .u8 0 :: .int .u8 0 :: .int .u8 0 :: .int .u8 0 :: .int .u8 0 :: .int .u8 0 :: .int .u8 0 :: .int .u8 0 :: .int .u8 0 :: .int .u8 0 :: .int .u8 0 :: .int .u8 0 :: .int .u8 0 :: .int .u8 0 :: .int .u8 0 :: .int .u8 0 :: .int .u8 0 :: .int .u8 0 :: .int .u8 0 :: .int .u8 0 :: .int .u8 0 :: .int .u8 0 :: .int .u8 0 :: .int .u8 0 :: .int .u8 0 :: .int .u8 0 :: .int .u8 0 :: .int .u8 0 :: [] : List Value) Yl 29 rfl rfl IY.out LY.out OY.out ?_) | (refine wpList_load_row rfl 29 (.tmp 7) rfl w4.heap.size rfl 29 Xl.toArray (0, 0) _ RX5.out Tryd.underlying29 rfl IXa.out ?_))
  have HMK := ospend_any none 0 0 [] [tX] 0 4 4 16 0 tX _ HE5.out.glob (isD_nil _) (i64d rfl) (i64d rfl) (i64d rfl) (i64d rfl) tX_len ⟨sp1⟩
  rw [← HX.out] at HMK
  refine HMK.mono ?_
  clear HMK
  rintro e w6 ⟨ua, ul, uc, rfl, hU, hb⟩
  have HE6 := Seal.mk (HE5.out.below hb)
  have HB6 := Seal.mk (HB5.out.trans (hb.mono HB5.out.size))
  have RX6 := Seal.mk (HE6.out.keep (w4.heap.size, .cells Xl.toArray 29) (by simp))
  clear hb HE5 HB5 RX5
  go_wp2_with (refine wpList_load_row rfl 29 (.tmp 7) rfl w4.heap.size rfl 29 Xl.toArray (0, 0) _ RX6.out Tryd.underlying29 rfl IXa.out ?_)
  have HMK := ospend_any ua ul uc [tX] [] 0 4 4 16 161 tX _ HE6.out.glob hU.out (i64d rfl) (i64d rfl) (i64d rfl) (i64d rfl) tX_len ⟨sp2⟩
  rw [← HX.out] at HMK
  refine HMK.mono ?_
  clear HMK
  rintro e w7 ⟨va, vl, vc, rfl, hV, hb⟩
  have HE7 := Seal.mk (HE6.out.below hb)
  have HB7 := Seal.mk (HB6.out.trans (hb.mono HB6.out.size))
  have RX7 := Seal.mk (HE7.out.keep (w4.heap.size, .cells Xl.toArray 29) (by simp))
  have hU7 := Seal.mk (hU.out.of_heap hb)
  clear hb hU hV HE6 HB6 RX6
  go_wp2_with (refine wpList_load_row rfl 29 (.tmp 7) rfl w4.heap.size rfl 29 Xl.toArray (0, 0) _ RX7.out Tryd.underlying29 rfl IXa.out ?_)
  have HMK := ouse_any 0 4 4 16 4 4 0 0 1 4 16 1 4 4 16 0 tX _ HE7.out.glob (i64d rfl) (i64d rfl) (i64d rfl) (i64d rfl) tX_len (i64d rfl) (i64d rfl) (i64d rfl) ⟨us1⟩
  rw [← HX.out] at HMK
  refine HMK.mono ?_
  clear HMK
  rintro e w8 ⟨rfl, hb⟩
  have HE8 := Seal.mk ((HE7.out.below hb).push (.cells #[.int .i64 4, .int .i64 16, .int .i64 1, .int .i64 4, .int .i64 4, .int .i64 16] 32))
  have HB8 := Seal.mk ((HB7.out.trans (hb.mono HB7.out.size)).alloc (Nat.le_trans HB7.out.size hb.size) (.cells #[.int .i64 4, .int .i64 16, .int .i64 1, .int .i64 4, .int .i64 4, .int .i64 16] 32))
  have RX8 := Seal.mk (HE8.out.keep (w4.heap.size, .cells Xl.toArray 29) (by simp))
  have hU8 := Seal.mk ((hU7.out.of_heap hb).of_heap (below_alloc _ (.cells #[.int .i64 4, .int .i64 16, .int .i64 1, .int .i64 4, .int .i64 4, .int .i64 16] 32)))
  clear hb HE7 HB7 RX7 hU7
  go_wp2_with fail
  have HMK := ouse_any 0 0 0 0 1 1 0 0 0 0 0 0 0 0 0 160 zb32 _ HE8.out.glob (i64d rfl) (i64d rfl) (i64d rfl) (i64d rfl) zb32_len (i64d rfl) (i64d rfl) (i64d rfl) ⟨us2⟩
  rw [← retC_zero] at HMK
  refine HMK.mono ?_
  clear HMK
  rintro e w9 ⟨rfl, hb⟩
  have HE9 := Seal.mk ((HE8.out.below hb).push (.cells #[.int .i64 0, .int .i64 0, .int .i64 0, .int .i64 0, .int .i64 0, .int .i64 0] 32))
  have HB9 := Seal.mk ((HB8.out.trans (hb.mono HB8.out.size)).alloc (Nat.le_trans HB8.out.size hb.size) (.cells #[.int .i64 0, .int .i64 0, .int .i64 0, .int .i64 0, .int .i64 0, .int .i64 0] 32))
  have RX9 := Seal.mk (HE9.out.keep (w4.heap.size, .cells Xl.toArray 29) (by simp))
  have hU9 := Seal.mk ((hU8.out.of_heap hb).of_heap (below_alloc _ (.cells #[.int .i64 0, .int .i64 0, .int .i64 0, .int .i64 0, .int .i64 0, .int .i64 0] 32)))
  clear hb HE8 HB8 RX8 hU8
  go_wp2_with (refine wpList_load_row rfl 29 (.tmp 7) rfl w4.heap.size rfl 29 Xl.toArray (0, 0) _ RX9.out Tryd.underlying29 rfl IXa.out ?_)
  have HMK := ouse_any 0 4 4 16 0 1 0 0 0 0 0 0 0 0 0 100 tX _ HE9.out.glob (i64d rfl) (i64d rfl) (i64d rfl) (i64d rfl) tX_len (i64d rfl) (i64d rfl) (i64d rfl) ⟨us3⟩
  rw [← HX.out] at HMK
  refine HMK.mono ?_
  clear HMK
  rintro e w10 ⟨rfl, hb⟩
  have HE10 := Seal.mk ((HE9.out.below hb).push (.cells #[.int .i64 0, .int .i64 0, .int .i64 0, .int .i64 0, .int .i64 0, .int .i64 0] 32))
  have HB10 := Seal.mk ((HB9.out.trans (hb.mono HB9.out.size)).alloc (Nat.le_trans HB9.out.size hb.size) (.cells #[.int .i64 0, .int .i64 0, .int .i64 0, .int .i64 0, .int .i64 0, .int .i64 0] 32))
  have RX10 := Seal.mk (HE10.out.keep (w4.heap.size, .cells Xl.toArray 29) (by simp))
  have hU10 := Seal.mk ((hU9.out.of_heap hb).of_heap (below_alloc _ (.cells #[.int .i64 0, .int .i64 0, .int .i64 0, .int .i64 0, .int .i64 0, .int .i64 0] 32)))
  clear hb HE9 HB9 RX9 hU9
  go_wp2_with fail
  obtain ⟨Y, hY⟩ : ∃ Y, Y = w10.alloc (.cells #[.int .i64 0, .int .i64 0, .int .i64 0, .int .i64 0, .int .i64 0, .int .i64 0] 32) := ⟨_, rfl⟩
  rw [← hY] at HE10 HB10 RX10 hU10 ⊢
  clear hY
  have RY := Seal.mk (HE10.out.keep (w5.heap.size, .cells Yl.toArray 29) (by simp))
  have RS := Seal.mk (HE10.out.keep (w8.heap.size, .cells #[.int .i64 4, .int .i64 16, .int .i64 1, .int .i64 4, .int .i64 4, .int .i64 16] 32) (by simp))
  obtain rfl : 1 = ul := by have := hU10.out.llen; simpa using this
  rcases hU10.out.at_ with h0 | ⟨gu, ou, rfl, hru, hgu⟩
  · omega
  rw [show dcells [tX] = tX.map B from by simp [dcells]] at hru
  have x2 : Y.cell? ⟨w4.heap.size, 2, none⟩ = some (.int .i64 4) := by rw [cell_of_row _ _ _ _ _ _ RX10.out, HX.out]; rfl
  have x3 : Y.cell? ⟨w4.heap.size, 3, none⟩ = some (.int .i64 16) := by rw [cell_of_row _ _ _ _ _ _ RX10.out, HX.out]; rfl
  have y2 : Y.cell? ⟨w5.heap.size, 2, none⟩ = some (.int .i64 16) := by rw [cell_of_row _ _ _ _ _ _ RY.out, HY.out]; rfl
  have y3 : Y.cell? ⟨w5.heap.size, 3, none⟩ = some (.int .i64 64) := by rw [cell_of_row _ _ _ _ _ _ RY.out, HY.out]; rfl
  have rx : Y.rangeAt w4.heap.size 0 Xl := rangeAt_row RX10.out
  have rd : Y.rangeAt w4.heap.size 4 (tX.map B) := by
    have := rangeAt_drop rx 4
    rw [HX.out] at this
    simpa [retC] using this
  have rs : Y.rangeAt w8.heap.size 0 [.int .i64 4, .int .i64 16, .int .i64 1, .int .i64 4, .int .i64 4, .int .i64 16] := rangeAt_row (cs := [.int .i64 4, .int .i64 16, .int .i64 1, .int .i64 4, .int .i64 4, .int .i64 16]) RS.out
  have heq : ∀ W, (Op.equalIn 10000 27 (.agg (tX.map B).toArray) (.agg (tX.map B).toArray)).run Tryd.prog W = .ok true W := fun W => by rw [eqDig _ _ tX_len tX_len W]; simp
  have e1 := fun W => eqCi1 W
  have e2 := fun W => eqCi2 W
  have e3 := fun W => eqSe1 W
  have HC1 : Seal (∀ W, Glob W → Calls Tryd.prog 25 #[.agg Xl.toArray] W fun e w' => e = .returned (.int .i64 0) ∧ Below W.heap.size W w') := ⟨fun W h => by rw [HX.out]; exact ocheck_any 0 4 4 16 tX true W h (i64d rfl) (i64d rfl) (i64d rfl) (i64d rfl) tX_len chkX⟩
  have HC2 : Seal (∀ W, Glob W → Calls Tryd.prog 25 #[.agg (List.toArray (.int .i64 0 :: .int .i64 0 :: .int .i64 0 :: .int .i64 0 :: .int .u8 0 :: .int .u8 0 :: .int .u8 0 :: .int .u8 0 :: .int .u8 0 :: .int .u8 0 :: .int .u8 0 :: .int .u8 0 :: .int .u8 0 :: .int .u8 0 :: .int .u8 0 :: .int .u8 0 :: .int .u8 0 :: .int .u8 0 :: .int .u8 0 :: .int .u8 0 :: .int .u8 0 :: .int .u8 0 :: .int .u8 0 :: .int .u8 0 :: .int .u8 0 :: .int .u8 0 :: .int .u8 0 :: .int .u8 0 :: .int .u8 0 :: .int .u8 0 :: .int .u8 0 :: .int .u8 0 :: .int .u8 0 :: .int .u8 0 :: .int .u8 0 :: .int .u8 0 :: []) : Array Value)] W fun e w' => e = .returned (.int .i64 160) ∧ Below W.heap.size W w') := ⟨fun W h => by rw [retC_zero]; exact ocheck_any 0 0 0 0 zb32 false W h (i64d rfl) (i64d rfl) (i64d rfl) (i64d rfl) zb32_len chk0⟩
  have i1 := dg_info tX tX_len
  have i2 := IX.out
  have i3 : (Tryd.prog.info? 32).map (·.size) = some ([.int .i64 4, .int .i64 16, .int .i64 1, .int .i64 4, .int .i64 4, .int .i64 16] : List Value).length := by kernel_rfl
  have ut := Tryd.underlying27
  have u2 := Tryd.underlying29
  have u3 := Tryd.underlying32
  have HG : Seal (Glob Y) := ⟨HE10.out.glob⟩
  clear IZ IX IY LZ LX LY OZ OX OY HZ HX HY IXa RX10 RY RS hU10 HE10
  refine wp_region_held_drew (S := fun w' => w'.cell? ⟨w4.heap.size, 2, none⟩ = some (.int .i64 4) ∧ w'.cell? ⟨w4.heap.size, 3, none⟩ = some (.int .i64 16) ∧ w'.cell? ⟨w5.heap.size, 2, none⟩ = some (.int .i64 16) ∧ w'.cell? ⟨w5.heap.size, 3, none⟩ = some (.int .i64 64) ∧ w'.rangeAt gu ou (tX.map B) ∧ w'.rangeAt w4.heap.size 4 (tX.map B) ∧ w'.rangeAt w8.heap.size 0 [.int .i64 4, .int .i64 16, .int .i64 1, .int .i64 4, .int .i64 4, .int .i64 16] ∧ w'.rangeAt w4.heap.size 0 Xl) (by kernel_rfl) ⟨x2, x3, y2, y3, hru, rd, rs, rx⟩ (fun hHeld => ?_)
  refine take_h 0 ?_ rfl (by kernel_rfl) (by kernel_rfl) (by kernel_rfl) (fun _ _ _ h => h) (Or.inl ⟨by kernel_rfl, ?_⟩) (by assumption) ?_
  rotate_left
  · (intro w hSw; (try dsimp only at hSw); go_simp; try (with_reducible rfl))
  try simp only [Act.put, List.setIfInBounds_toArray, List.set_cons_zero, List.set_cons_succ]
  refine take_h 1 ?_ rfl (by kernel_rfl) (by kernel_rfl) (by kernel_rfl) (fun _ _ _ h => h) (Or.inl ⟨by kernel_rfl, ?_⟩) (by assumption) ?_
  rotate_left
  · (intro w hSw; (try dsimp only at hSw); go_simp; try (with_reducible rfl))
  try simp only [Act.put, List.setIfInBounds_toArray, List.set_cons_zero, List.set_cons_succ]
  refine take_h 2 ?_ rfl (by kernel_rfl) (by kernel_rfl) (by kernel_rfl) (fun _ _ _ h => h) (Or.inl ⟨by kernel_rfl, ?_⟩) (by assumption) ?_
  rotate_left
  · (intro w hSw; (try dsimp only at hSw); go_simp; try (with_reducible rfl))
  try simp only [Act.put, List.setIfInBounds_toArray, List.set_cons_zero, List.set_cons_succ]
  refine take_h 3 ?_ rfl (by kernel_rfl) (by kernel_rfl) (by kernel_rfl) (fun _ _ _ h => h) (Or.inl ⟨by kernel_rfl, ?_⟩) (by assumption) ?_
  rotate_left
  · (intro w hSw; (try dsimp only at hSw); go_simp; try (with_reducible rfl))
  try simp only [Act.put, List.setIfInBounds_toArray, List.set_cons_zero, List.set_cons_succ]
  refine take_h 4 ?_ rfl (by kernel_rfl) (by kernel_rfl) (by kernel_rfl) (fun _ _ _ h => h) (Or.inl ⟨by kernel_rfl, ?_⟩) (by assumption) ?_
  rotate_left
  · (intro w hSw; (try dsimp only at hSw); go_simp; try (with_reducible rfl))
  try simp only [Act.put, List.setIfInBounds_toArray, List.set_cons_zero, List.set_cons_succ]
  refine take_h 5 ?_ rfl (by kernel_rfl) (by kernel_rfl) (by kernel_rfl) (fun _ _ _ h => h) (Or.inl ⟨by kernel_rfl, ?_⟩) (by assumption) ?_
  rotate_left
  · (intro w hSw; (try dsimp only at hSw); go_simp; try (with_reducible rfl))
  try simp only [Act.put, List.setIfInBounds_toArray, List.set_cons_zero, List.set_cons_succ]
  refine take_h 6 ?_ rfl (by kernel_rfl) (by kernel_rfl) (by kernel_rfl) (fun _ _ _ h => h) (Or.inl ⟨by kernel_rfl, ?_⟩) (by assumption) ?_
  rotate_left
  · (intro w hSw; (try dsimp only at hSw); go_simp; try (with_reducible rfl))
  try simp only [Act.put, List.setIfInBounds_toArray, List.set_cons_zero, List.set_cons_succ]
  refine take_h 7 ?_ rfl (by kernel_rfl) (by kernel_rfl) (by kernel_rfl) (fun _ _ _ h => h) (Or.inl ⟨by kernel_rfl, ?_⟩) (by assumption) ?_
  rotate_left
  · (intro w hSw; (try dsimp only at hSw); go_simp; try (with_reducible rfl))
  try simp only [Act.put, List.setIfInBounds_toArray, List.set_cons_zero, List.set_cons_succ]
  refine take_h 8 ?_ rfl (by kernel_rfl) (by kernel_rfl) (by kernel_rfl) (fun _ _ _ h => h) (Or.inl ⟨by kernel_rfl, ?_⟩) (by assumption) ?_
  rotate_left
  · (intro w hSw; (try dsimp only at hSw); go_simp; try (with_reducible rfl))
  try simp only [Act.put, List.setIfInBounds_toArray, List.set_cons_zero, List.set_cons_succ]
  refine take_h 9 ?_ rfl (by kernel_rfl) (by kernel_rfl) (by kernel_rfl) (fun _ _ _ h => h) (Or.inl ⟨by kernel_rfl, ?_⟩) (by assumption) ?_
  rotate_left
  · (intro w hSw; (try dsimp only at hSw); go_simp; try (with_reducible rfl))
  try simp only [Act.put, List.setIfInBounds_toArray, List.set_cons_zero, List.set_cons_succ]
  refine take_h 10 ?_ rfl (by kernel_rfl) (by kernel_rfl) (by kernel_rfl) (fun _ _ _ h => h) (Or.inl ⟨by kernel_rfl, ?_⟩) (by assumption) ?_
  rotate_left
  · (intro w hSw; (try dsimp only at hSw); go_simp; try (with_reducible rfl))
  try simp only [Act.put, List.setIfInBounds_toArray, List.set_cons_zero, List.set_cons_succ]
  refine take_h 11 ?_ rfl (by kernel_rfl) (by kernel_rfl) (by kernel_rfl) (fun _ _ _ h => h) (Or.inl ⟨by kernel_rfl, ?_⟩) (by assumption) ?_
  rotate_left
  · (intro w hSw; (try dsimp only at hSw); go_simp; try (with_reducible rfl))
  try simp only [Act.put, List.setIfInBounds_toArray, List.set_cons_zero, List.set_cons_succ]
  refine take_h 12 ?_ rfl (by kernel_rfl) (by kernel_rfl) (by kernel_rfl) (fun _ _ _ h => h) (Or.inl ⟨by kernel_rfl, ?_⟩) (by assumption) ?_
  rotate_left
  · (intro w hSw; (try dsimp only at hSw); go_simp; try (with_reducible rfl))
  try simp only [Act.put, List.setIfInBounds_toArray, List.set_cons_zero, List.set_cons_succ]
  refine take_h 13 ?_ rfl (by kernel_rfl) (by kernel_rfl) (by kernel_rfl) (fun _ _ _ h => h) (Or.inl ⟨by kernel_rfl, ?_⟩) (by assumption) ?_
  rotate_left
  · (intro w hSw; (try dsimp only at hSw); go_simp; try (with_reducible rfl))
  try simp only [Act.put, List.setIfInBounds_toArray, List.set_cons_zero, List.set_cons_succ]
  refine take_h 14 ?_ rfl (by kernel_rfl) (by kernel_rfl) (by kernel_rfl) (fun _ _ _ h => h) (Or.inl ⟨by kernel_rfl, ?_⟩) (by assumption) ?_
  rotate_left
  · (intro w hSw; (try dsimp only at hSw); go_simp; try (with_reducible rfl))
  try simp only [Act.put, List.setIfInBounds_toArray, List.set_cons_zero, List.set_cons_succ]
  refine take_h 15 ?_ rfl (by kernel_rfl) (by kernel_rfl) (by kernel_rfl) (fun _ _ _ h => h) (Or.inl ⟨by kernel_rfl, ?_⟩) (by assumption) ?_
  rotate_left
  · (intro w hSw; (try dsimp only at hSw); go_simp; try (with_reducible rfl))
  try simp only [Act.put, List.setIfInBounds_toArray, List.set_cons_zero, List.set_cons_succ]
  refine take_h 16 ?_ rfl (by kernel_rfl) (by kernel_rfl) (by kernel_rfl) (fun _ _ _ h => h) (Or.inl ⟨by kernel_rfl, ?_⟩) (by assumption) ?_
  rotate_left
  · (intro w hSw; (try dsimp only at hSw); go_simp; try (with_reducible rfl))
  try simp only [Act.put, List.setIfInBounds_toArray, List.set_cons_zero, List.set_cons_succ]
  refine take_h 17 ?_ rfl (by kernel_rfl) (by kernel_rfl) (by kernel_rfl) (fun _ _ _ h => h) (Or.inl ⟨by kernel_rfl, ?_⟩) (by assumption) ?_
  rotate_left
  · (intro w hSw; (try dsimp only at hSw); go_simp; try (with_reducible rfl))
  try simp only [Act.put, List.setIfInBounds_toArray, List.set_cons_zero, List.set_cons_succ]
  refine take_h 18 ?_ rfl (by kernel_rfl) (by kernel_rfl) (by kernel_rfl) (fun _ _ _ h => h) (Or.inl ⟨by kernel_rfl, ?_⟩) (by assumption) ?_
  rotate_left
  · (intro w hSw; (try dsimp only at hSw); go_simp; try (with_reducible rfl))
  try simp only [Act.put, List.setIfInBounds_toArray, List.set_cons_zero, List.set_cons_succ]
  refine take_h 19 ?_ rfl (by kernel_rfl) (by kernel_rfl) (by kernel_rfl) (fun _ _ _ h => h) (Or.inl ⟨by kernel_rfl, ?_⟩) (by assumption) ?_
  rotate_left
  · (intro w hSw; (try dsimp only at hSw); go_simp; try (with_reducible rfl))
  try simp only [Act.put, List.setIfInBounds_toArray, List.set_cons_zero, List.set_cons_succ]
  refine take_h 20 ?_ rfl (by kernel_rfl) (by kernel_rfl) (by kernel_rfl) (fun _ _ _ h => h) (Or.inl ⟨by kernel_rfl, ?_⟩) (by assumption) ?_
  rotate_left
  · (intro w hSw; (try dsimp only at hSw); go_simp; try (with_reducible rfl))
  try simp only [Act.put, List.setIfInBounds_toArray, List.set_cons_zero, List.set_cons_succ]
  refine take_h 21 _ rfl (by kernel_rfl) (by kernel_rfl) (by kernel_rfl) (fun _ _ _ h => h) (yieldsIf_load_mid (by kernel_rfl) 27 (.tmp 132) rfl gu ou rfl (tX.map B) _ (fun w hSw => hSw.2.2.2.2.1) ut rfl i1) (by assumption) ?_
  try simp only [Act.put, List.setIfInBounds_toArray, List.set_cons_zero, List.set_cons_succ]
  refine take_h 22 ?_ rfl (by kernel_rfl) (by kernel_rfl) (by kernel_rfl) (fun _ _ _ h => h) (Or.inl ⟨by kernel_rfl, ?_⟩) (by assumption) ?_
  rotate_left
  · (intro w hSw; (try dsimp only at hSw); go_simp; try (with_reducible rfl))
  try simp only [Act.put, List.setIfInBounds_toArray, List.set_cons_zero, List.set_cons_succ]
  refine take_h 23 _ rfl (by kernel_rfl) (by kernel_rfl) (by kernel_rfl) (fun _ _ _ h => h) (yieldsIf_load_mid (by kernel_rfl) 27 (.tmp 134) rfl w4.heap.size 4 rfl (tX.map B) _ (fun w hSw => hSw.2.2.2.2.2.1) ut rfl i1) (by assumption) ?_
  try simp only [Act.put, List.setIfInBounds_toArray, List.set_cons_zero, List.set_cons_succ]
  refine take_h 24 ?_ rfl (by kernel_rfl) (by kernel_rfl) (by kernel_rfl) (fun _ _ _ h => h) (Or.inl ⟨by kernel_rfl, ?_⟩) (by assumption) ?_
  rotate_left
  · (intro w hSw; (try dsimp only at hSw); go_simp; try (with_reducible rfl))
  try simp only [Act.put, List.setIfInBounds_toArray, List.set_cons_zero, List.set_cons_succ]
  refine take_h 25 ?_ rfl (by kernel_rfl) (by kernel_rfl) (by kernel_rfl) (fun _ _ _ h => h) (Or.inl ⟨by kernel_rfl, ?_⟩) (by assumption) ?_
  rotate_left
  · (intro w hSw; (try dsimp only at hSw); go_simp; try (with_reducible rfl))
  try simp only [Act.put, List.setIfInBounds_toArray, List.set_cons_zero, List.set_cons_succ]
  refine take_h 26 ?_ rfl (by kernel_rfl) (by kernel_rfl) (by kernel_rfl) (fun _ _ _ h => h) (Or.inl ⟨by kernel_rfl, ?_⟩) (by assumption) ?_
  rotate_left
  · (intro w hSw; (try dsimp only at hSw); go_simp; try (with_reducible rfl))
  try simp only [Act.put, List.setIfInBounds_toArray, List.set_cons_zero, List.set_cons_succ]
  refine take_h 27 _ rfl (by kernel_rfl) (by kernel_rfl) (by kernel_rfl) (fun _ _ _ h => h) (yieldsIf_load_mid (by kernel_rfl) 32 (.tmp 15) rfl w8.heap.size 0 rfl [.int .i64 4, .int .i64 16, .int .i64 1, .int .i64 4, .int .i64 4, .int .i64 16] _ (fun w hSw => hSw.2.2.2.2.2.2.1) u3 rfl i3) (by assumption) ?_
  try simp only [Act.put, List.setIfInBounds_toArray, List.set_cons_zero, List.set_cons_succ]
  refine take_h 28 ?_ rfl (by kernel_rfl) (by kernel_rfl) (by kernel_rfl) (fun _ _ _ h => h) (Or.inl ⟨by kernel_rfl, ?_⟩) (by assumption) ?_
  rotate_left
  · (intro w hSw; (try dsimp only at hSw); go_simp; try (with_reducible rfl))
  try simp only [Act.put, List.setIfInBounds_toArray, List.set_cons_zero, List.set_cons_succ]
  refine take_h 29 ?_ rfl (by kernel_rfl) (by kernel_rfl) (by kernel_rfl) (fun _ _ _ h => h) (Or.inl ⟨by kernel_rfl, ?_⟩) (by assumption) ?_
  rotate_left
  · (intro w hSw; (try dsimp only at hSw); go_simp; try (with_reducible rfl))
  try simp only [Act.put, List.setIfInBounds_toArray, List.set_cons_zero, List.set_cons_succ]
  refine take_h 30 ?_ rfl (by kernel_rfl) (by kernel_rfl) (by kernel_rfl) (fun _ _ _ h => h) (Or.inl ⟨by kernel_rfl, ?_⟩) (by assumption) ?_
  rotate_left
  · (intro w hSw; (try dsimp only at hSw); go_simp; try (with_reducible rfl))
  try simp only [Act.put, List.setIfInBounds_toArray, List.set_cons_zero, List.set_cons_succ]
  refine take_h 31 ?_ rfl (by kernel_rfl) (by kernel_rfl) (by kernel_rfl) (fun _ _ _ h => h) (Or.inl ⟨by kernel_rfl, ?_⟩) (by assumption) ?_
  rotate_left
  · (intro w hSw; (try dsimp only at hSw); go_simp; try (with_reducible rfl))
  try simp only [Act.put, List.setIfInBounds_toArray, List.set_cons_zero, List.set_cons_succ]
  refine take_h 32 ?_ rfl (by kernel_rfl) (by kernel_rfl) (by kernel_rfl) (fun _ _ _ h => h) (Or.inl ⟨by kernel_rfl, ?_⟩) (by assumption) ?_
  rotate_left
  · (intro w hSw; (try dsimp only at hSw); go_simp; try (with_reducible rfl))
  try simp only [Act.put, List.setIfInBounds_toArray, List.set_cons_zero, List.set_cons_succ]
  refine take_h 33 ?_ rfl (by kernel_rfl) (by kernel_rfl) (by kernel_rfl) (fun _ _ _ h => h) (Or.inl ⟨by kernel_rfl, ?_⟩) (by assumption) ?_
  rotate_left
  · (intro w hSw; (try dsimp only at hSw); go_simp; try (with_reducible rfl))
  try simp only [Act.put, List.setIfInBounds_toArray, List.set_cons_zero, List.set_cons_succ]
  refine take_h 34 ?_ rfl (by kernel_rfl) (by kernel_rfl) (by kernel_rfl) (fun _ _ _ h => h) (Or.inl ⟨by kernel_rfl, ?_⟩) (by assumption) ?_
  rotate_left
  · (intro w hSw; (try dsimp only at hSw); go_simp; try (with_reducible rfl))
  try simp only [Act.put, List.setIfInBounds_toArray, List.set_cons_zero, List.set_cons_succ]
  refine take_h 35 _ rfl (by kernel_rfl) (by kernel_rfl) (by kernel_rfl) (fun _ _ _ h => h) (yieldsIf_load_mid (by kernel_rfl) 29 (.tmp 7) rfl w4.heap.size 0 rfl Xl _ (fun w hSw => hSw.2.2.2.2.2.2.2) u2 rfl i2) (by assumption) ?_
  try simp only [Act.put, List.setIfInBounds_toArray, List.set_cons_zero, List.set_cons_succ]
  refine call_h 36 rfl (by kernel_rfl) 25 #[.agg Xl.toArray] (by kernel_rfl) (by go_simp) ?_
  refine (HC1.out Y.drew ⟨HG.out.start, HG.out.nums⟩).mono ?_
  rintro e w11 ⟨rfl, hb⟩
  have hb2 : Below Y.heap.size Y w11 := ⟨hb.os, hb.tape, hb.output, hb.size, hb.block⟩
  have HB11 : Seal (Below w.heap.size w w11) := ⟨HB10.out.trans (hb2.mono HB10.out.size)⟩
  have HG11 : Seal (Glob w11) := ⟨HG.out.below hb2⟩
  refine ⟨_, rfl, ⟨cell_later hb2 x2, cell_later hb2 x3, cell_later hb2 y2, cell_later hb2 y3, rangeAt_below' hru hb2, rangeAt_below' rd hb2, rangeAt_below' rs hb2, rangeAt_below' rx hb2⟩, fun hHeld2 => ?_⟩
  clear hHeld hb hb2 x2 x3 y2 y3 hru rd rs rx
  try simp only [Act.put, List.setIfInBounds_toArray, List.set_cons_zero, List.set_cons_succ]
  refine take_h 37 ?_ rfl (by kernel_rfl) (by kernel_rfl) (by kernel_rfl) (fun _ _ _ h => h) (Or.inl ⟨by kernel_rfl, ?_⟩) (by assumption) ?_
  rotate_left
  · (intro w hSw; (try dsimp only at hSw); go_simp; try (with_reducible rfl))
  try simp only [Act.put, List.setIfInBounds_toArray, List.set_cons_zero, List.set_cons_succ]
  refine take_h 38 ?_ rfl (by kernel_rfl) (by kernel_rfl) (by kernel_rfl) (fun _ _ _ h => h) (Or.inl ⟨by kernel_rfl, ?_⟩) (by assumption) ?_
  rotate_left
  · (intro w hSw; (try dsimp only at hSw); go_simp; try (with_reducible rfl))
  try simp only [Act.put, List.setIfInBounds_toArray, List.set_cons_zero, List.set_cons_succ]
  refine take_h 39 ?_ rfl (by kernel_rfl) (by kernel_rfl) (by kernel_rfl) (fun _ _ _ h => h) (Or.inl ⟨by kernel_rfl, ?_⟩) (by assumption) ?_
  rotate_left
  · (intro w hSw; (try dsimp only at hSw); go_simp; try (with_reducible rfl))
  try simp only [Act.put, List.setIfInBounds_toArray, List.set_cons_zero, List.set_cons_succ]
  refine take_h 40 ?_ rfl (by kernel_rfl) (by kernel_rfl) (by kernel_rfl) (fun _ _ _ h => h) (Or.inl ⟨by kernel_rfl, ?_⟩) (by assumption) ?_
  rotate_left
  · (intro w hSw; (try dsimp only at hSw); go_simp; try (with_reducible rfl))
  try simp only [Act.put, List.setIfInBounds_toArray, List.set_cons_zero, List.set_cons_succ]
  refine call_h 41 rfl (by kernel_rfl) 25 #[.agg (List.toArray (.int .i64 0 :: .int .i64 0 :: .int .i64 0 :: .int .i64 0 :: .int .u8 0 :: .int .u8 0 :: .int .u8 0 :: .int .u8 0 :: .int .u8 0 :: .int .u8 0 :: .int .u8 0 :: .int .u8 0 :: .int .u8 0 :: .int .u8 0 :: .int .u8 0 :: .int .u8 0 :: .int .u8 0 :: .int .u8 0 :: .int .u8 0 :: .int .u8 0 :: .int .u8 0 :: .int .u8 0 :: .int .u8 0 :: .int .u8 0 :: .int .u8 0 :: .int .u8 0 :: .int .u8 0 :: .int .u8 0 :: .int .u8 0 :: .int .u8 0 :: .int .u8 0 :: .int .u8 0 :: .int .u8 0 :: .int .u8 0 :: .int .u8 0 :: .int .u8 0 :: []) : Array Value)] (by kernel_rfl) (by go_simp) ?_
  refine (HC2.out w11 HG11.out).mono ?_
  rintro e w12 ⟨rfl, hb⟩
  have HB12 : Seal (Below w.heap.size w w12) := ⟨HB11.out.trans (hb.mono HB11.out.size)⟩
  refine ⟨_, rfl, ⟨cell_later hb hHeld2.1, cell_later hb hHeld2.2.1, cell_later hb hHeld2.2.2.1, cell_later hb hHeld2.2.2.2.1, rangeAt_below' hHeld2.2.2.2.2.1 hb, rangeAt_below' hHeld2.2.2.2.2.2.1 hb, rangeAt_below' hHeld2.2.2.2.2.2.2.1 hb, rangeAt_below' hHeld2.2.2.2.2.2.2.2 hb⟩, fun hHeld3 => ?_⟩
  clear hHeld2 hb
  try simp only [Act.put, List.setIfInBounds_toArray, List.set_cons_zero, List.set_cons_succ]
  refine take_h 42 ?_ rfl (by kernel_rfl) (by kernel_rfl) (by kernel_rfl) (fun _ _ _ h => h) (Or.inl ⟨by kernel_rfl, ?_⟩) (by assumption) ?_
  rotate_left
  · (intro w hSw; (try dsimp only at hSw); go_simp; try (with_reducible rfl))
  try simp only [Act.put, List.setIfInBounds_toArray, List.set_cons_zero, List.set_cons_succ]
  refine take_h 43 ?_ rfl (by kernel_rfl) (by kernel_rfl) (by kernel_rfl) (fun _ _ _ h => h) (Or.inl ⟨by kernel_rfl, ?_⟩) (by assumption) ?_
  rotate_left
  · (intro w hSw; (try dsimp only at hSw); go_simp; try (with_reducible rfl))
  try simp only [Act.put, List.setIfInBounds_toArray, List.set_cons_zero, List.set_cons_succ]
  refine take_h 44 ?_ rfl (by kernel_rfl) (by kernel_rfl) (by kernel_rfl) (fun _ _ _ h => h) (Or.inl ⟨by kernel_rfl, ?_⟩) (by assumption) ?_
  rotate_left
  · (intro w hSw; (try dsimp only at hSw); go_simp; try (with_reducible rfl))
  try simp only [Act.put, List.setIfInBounds_toArray, List.set_cons_zero, List.set_cons_succ]
  refine wpAnyH_done (by kernel_rfl) ?_ _
  clear hHeld3
  go_wp2
  go_ret
  exact ⟨rfl, HB12.out⟩

theorem eqAt_u8' (d : Nat) : EqAt Tryd.prog (d + 1) 5 := run_equalIn_deep d 1 5 (by kernel_rfl)

theorem eqDig_at (dd : Nat) (a b : Bytes) (ha : a.length = 32) (hb : b.length = 32) (w : World) :
    (Op.equalIn (dd + 1 + 1) 27 (.agg (a.map B).toArray) (.agg (b.map B).toArray)).run Tryd.prog w = .ok (a == b) w := by
  obtain ⟨i0, hi, _⟩ := info_parts info_u8
  rw [run_equalIn_array w (dd + 1) _ _ Tryd.underlying27 hi]
  obtain ⟨r, hr, hiff⟩ := run_eqItems_deep w (dd + 1) (eqAt_u8' dd) (a.map B).toArray (b.map B).toArray (List.range 32) _ _ (lits_u8 a 32 ha) (lits_u8 b 32 hb)
  rw [hr]
  congr 1
  have key : (((List.range 32).map fun i => [Lit.int .u8 ((a.getD i 0).toNat : Int)]).flatten = ((List.range 32).map fun i => [Lit.int .u8 ((b.getD i 0).toNat : Int)]).flatten) ↔ a = b := by
    constructor
    · intro h
      apply bytes_ext (by rw [ha, hb])
      intro j hj
      have e : ∀ c : Bytes, ((List.range 32).map fun i => [Lit.int .u8 ((c.getD i 0).toNat : Int)]).flatten = (List.range 32).map fun i => Lit.int .u8 ((c.getD i 0).toNat : Int) := by
        intro c
        exact flatten_one _ _
      rw [e, e] at h
      have h2 := congrArg (·[j]?) h
      simp only [List.getElem?_map, List.getElem?_range (show j < 32 by omega), Option.map_some, Option.some.injEq, Lit.int.injEq, true_and] at h2
      exact UInt8.toNat_inj.1 (by omega)
    · intro h; rw [h]
  cases r with
  | true => exact (beq_iff_eq.2 (key.1 (hiff.1 rfl))).symm
  | false =>
    symm
    rw [beq_eq_false_iff_ne]
    intro e
    have := hiff.2 (key.2 e)
    cases this

theorem eqFields_step {P : Program} (d : Nat) (xs ys : Array Value) (f : Field) (fs : List Field) (w : World) (a b : Value) (r : Bool) (hn : f.name ≠ "_") (ha : (part f.type xs f.offset).run P w = .ok a w) (hb : (part f.type ys f.offset).run P w = .ok b w) (hr : (Op.equalIn d f.type a b).run P w = .ok r w) :
    (Op.eqFields d xs ys (f :: fs)).run P w = if r = true then (Op.eqFields d xs ys fs).run P w else .ok false w := by
  rw [Op.eqFields, if_pos hn]
  simp only [Sem.run_bind, ha, hb, hr, Result.andThen_ok]
  cases r <;> rfl

theorem eqCi_at (d : Nat) (a b c e : Int) (w : World) : (Op.equalIn (d + 1 + 1) 25 (.agg #[.int .i64 a, .int .i64 b]) (.agg #[.int .i64 c, .int .i64 e])).run Tryd.prog w = .ok (a == c && b == e) w := by
  have u3 := Tryd.underlying3
  have a3 := Tryd.isAgg3
  have z3 := Tryd.sizeOf3
  have hS : Tryd.prog.underlying 25 = some (.struct (Tryd.prog.fieldsOf 25)) := by kernel_rfl
  have hp : Tryd.prog.stoodInHeld 25 = false := by kernel_rfl
  rw [run_equalIn_agg w (d + 1) 25 _ _ hS hp]
  simp only [Program.fieldsOf, Tryd.underlying25]
  go_simp
  by_cases h1 : a = c <;> by_cases h2 : b = e <;> simp [h1, h2]

theorem eqInt_at (d : Nat) (a b : Int) (w : World) : (Op.equalIn (d + 1) 3 (.int .i64 a) (.int .i64 b)).run Tryd.prog w = .ok (a == b) w := by
  have u3 := Tryd.underlying3
  go_simp

set_option maxHeartbeats 1000000 in
theorem eqRet (L K P Q L' K' P' Q' : Int) (T T' : Bytes) (hT : T.length = 32) (hT' : T'.length = 32) (w : World) :
    (Op.equalIn 10000 29 (.agg (retC L K P Q T).toArray) (.agg (retC L' K' P' Q' T').toArray)).run Tryd.prog w = .ok (L == L' && (K == K' && ((P == P' && Q == Q') && T == T'))) w := by
  have a3 := Tryd.isAgg3
  have aC := Tryd.isAgg25
  have aD := Tryd.isAgg27
  have zC := Tryd.sizeOf25
  have zD := Tryd.sizeOf27
  have hS : Tryd.prog.underlying 29 = some (.struct (Tryd.prog.fieldsOf 29)) := by kernel_rfl
  have hp : Tryd.prog.stoodInHeld 29 = false := by kernel_rfl
  have p0 : ∀ (L K P Q : Int) (T : Bytes), (part 3 (retC L K P Q T).toArray 0).run Tryd.prog w = .ok (.int .i64 L) w := fun L K P Q T => by simp [part, a3, retC]
  have p1 : ∀ (L K P Q : Int) (T : Bytes), (part 3 (retC L K P Q T).toArray 1).run Tryd.prog w = .ok (.int .i64 K) w := fun L K P Q T => by simp [part, a3, retC]
  have p2 : ∀ (L K P Q : Int) (T : Bytes), (part 25 (retC L K P Q T).toArray 2).run Tryd.prog w = .ok (.agg #[.int .i64 P, .int .i64 Q]) w := fun L K P Q T => by simp [part, aC, zC, retC]
  have p4 : ∀ (L K P Q : Int) (T : Bytes), T.length = 32 → (part 27 (retC L K P Q T).toArray 4).run Tryd.prog w = .ok (.agg (T.map B).toArray) w := fun L K P Q T h => by
    simp [part, aD, zD, retC]
    exact List.take_of_length_le (by rw [List.length_map, h]; exact Nat.le_refl _)
  rw [show (10000 : Nat) = 9999 + 1 from rfl, run_equalIn_agg w 9999 29 _ _ hS hp]
  simp only [Program.fieldsOf, Tryd.underlying29]
  rw [eqFields_step _ _ _ _ _ _ _ _ _ (by decide) (p0 L K P Q T) (p0 L' K' P' Q' T') (eqInt_at 9998 L L' w),
    eqFields_step _ _ _ _ _ _ _ _ _ (by decide) (p1 L K P Q T) (p1 L' K' P' Q' T') (eqInt_at 9998 K K' w),
    eqFields_step _ _ _ _ _ _ _ _ _ (by decide) (p2 L K P Q T) (p2 L' K' P' Q' T') (eqCi_at 9997 P Q P' Q' w),
    eqFields_step _ _ _ _ _ _ _ _ _ (by decide) (p4 L K P Q T hT) (p4 L' K' P' Q' T' hT') (eqDig_at 9997 T T' hT hT' w)]
  have he : (Op.eqFields 9999 (retC L K P Q T).toArray (retC L' K' P' Q' T').toArray []).run Tryd.prog w = .ok true w := by rw [Op.eqFields]; rfl
  rw [he]
  generalize (L == L') = b1
  generalize (K == K') = b2
  generalize (P == P' && Q == Q') = b3
  generalize (T == T') = b4
  clear he p0 p1 p2 p4
  cases b1 <;> cases b2 <;> cases b3 <;> cases b4 <;> rfl
end Frk

namespace Frk
open Go Go.RowKit Go.Proofs
set_option maxRecDepth 100000

section
variable {P : Program} {ops : Array Oper} {Q : Exit → Act → World → Prop} {md : Region.Mode} {S : World → Prop} {t : Nat}

def wpAnyU (P : Program) (md : Region.Mode) (ops : Array Oper) (Q : Exit → Act → World → Prop) (S : World → Prop) (t : Nat) : Nat → Array Bool → Act → World → Prop
  | 0, listed, a, w => Region.ready md ops listed = [] ∧ Q .normal a w
  | fuel + 1, listed, a, w =>
    (Region.ready md ops listed = [] → Q .normal a w) ∧
    ∀ i ∈ Region.ready md ops listed, wpOp P ops Q i (fun a' w' => ((listed.setIfInBounds i true).getD t true = false → S w') ∧ wpAnyU P md ops Q S t fuel (listed.setIfInBounds i true) a' w') a w

theorem any_of_U : ∀ (fuel : Nat) (listed : Array Bool) (a : Act) (w : World), wpAnyU P md ops Q S t fuel listed a w → wpAny P md ops Q fuel listed a w
  | 0, _, _, _, h => h
  | fuel + 1, _, _, _, h => ⟨h.1, fun i hi => wpOp_mono (fun a' w' h' => any_of_U fuel _ a' w' h'.2) (h.2 i hi)⟩

theorem anyU_first {i : Nat} {oi : Oper} {v : Value} (hi : ops[i]? = some oi) (hsel : ∀ (j : Nat) (o : Oper) cs b, ops[j]? = some o → o.op ≠ .select cs b)
    (hQ : ∀ c a w, Q (.panic c) (a.put oi.dst v) w → Q (.panic c) a w) (hwt : waitsFor md ops t i = true) :
    ∀ (fuel : Nat) (listed : Array Bool) (a : Act) (w : World), listed.getD t true = false →
      (∀ j oj, ops[j]? = some oj → j ≠ i → listed.getD j true = false → (∀ e ∈ oj.after, Region.binds md e = true → e.on ≠ i) → oi.apart ops oj = true) →
      i ∈ Region.ready md ops listed → YieldsIf P ops S oi v a → S w →
      wpAnyU P md ops Q S t fuel (listed.setIfInBounds i true) (a.put oi.dst v) w → wpAnyU P md ops Q S t (fuel + 1) listed a w := by
  intro fuel
  induction fuel with
  | zero =>
    intro listed a w _ _ hr hy hS H
    refine ⟨fun h => (by rw [h] at hr; cases hr), fun j hj => ?_⟩
    by_cases hji : j = i
    · subst hji; exact hy.wpOp hi hS ⟨fun _ => hS, H⟩
    · have := ready_mono hj hji
      rw [H.1] at this
      cases this
  | succ fuel ih =>
    intro listed a w ht hfree hr hy hS H
    refine ⟨fun h => (by rw [h] at hr; cases hr), fun j hj => ?_⟩
    by_cases hji : j = i
    · subst hji; exact hy.wpOp hi hS ⟨fun _ => hS, H⟩
    · have h1 := H.2 j (ready_mono hj hji)
      obtain ⟨hjun, oj, hoj, hall⟩ := mem_ready.1 hj
      have hnot : ∀ e ∈ oj.after, Region.binds md e = true → e.on ≠ i := fun e he hb heq => by
        have h1 := hall e he hb
        have h0 := (mem_ready.1 hr).1
        rw [heq] at h1
        rcases Nat.lt_or_ge i listed.size with h' | h'
        · simp [h'] at h0 h1; rw [h0] at h1; cases h1
        · simp [Array.getElem?_eq_none h'] at h1
      have hjt : j ≠ t := fun e => by
        subst e
        unfold waitsFor at hwt
        rw [hoj] at hwt
        simp only [Bool.and_eq_true] at hwt
        obtain ⟨e, he, hb⟩ := Array.any_eq_true'.1 hwt.2
        simp only [Bool.and_eq_true, beq_iff_eq] at hb
        exact hnot e he hb.1 hb.2
      have h2 := wpOp_putIf hoj (hfree j oj hoj hji hjun hnot) (fun cs b => hsel i oi cs b hi) (fun cs b => hsel j oj cs b hoj) hQ hy h1
      have hfree' : ∀ k ok, ops[k]? = some ok → k ≠ i → (listed.setIfInBounds j true).getD k true = false →
          (∀ e ∈ ok.after, Region.binds md e = true → e.on ≠ i) → oi.apart ops ok = true := fun k ok hk hki hun hno => by
        refine hfree k ok hk hki ?_ hno
        by_cases hjk : j = k
        · subst hjk; exact hjun
        · rw [getD_set_ne true hjk] at hun; exact hun
      have hit : i ≠ t := fun e => by
        subst e
        unfold waitsFor at hwt
        simp at hwt
      have hset : ((listed.setIfInBounds i true).setIfInBounds j true).getD t true = false := by
        rw [getD_set_ne true hjt, getD_set_ne true hit]; exact ht
      refine wpOp_mono (fun a' w' h3 => ⟨fun _ => h3.2.1 hset, ih (listed.setIfInBounds j true) a' w' (by rw [getD_set_ne true hjt]; exact ht) hfree' (ready_mono hr (Ne.symm hji)) h3.1 (h3.2.1 hset) ?_⟩) h2
      rw [Array.setIfInBounds_comm _ _ hji]
      exact h3.2.2
theorem anyU_first2 {i m : Nat} {oi : Oper} {v : Value} (hi : ops[i]? = some oi) (hsel : ∀ (j : Nat) (o : Oper) cs b, ops[j]? = some o → o.op ≠ .select cs b)
    (hQ : ∀ c a w, Q (.panic c) (a.put oi.dst v) w → Q (.panic c) a w) (hwt1 : waitsFor md ops t m = true) (hwt : waitsFor md ops m i = true) (hit : i ≠ t) :
    ∀ (fuel : Nat) (listed : Array Bool) (a : Act) (w : World), listed.getD t true = false → listed.getD m true = false →
      (∀ j oj, ops[j]? = some oj → j ≠ i → listed.getD j true = false → (∀ e ∈ oj.after, Region.binds md e = true → e.on ≠ i) → oi.apart ops oj = true) →
      i ∈ Region.ready md ops listed → YieldsIf P ops S oi v a → S w →
      wpAnyU P md ops Q S t fuel (listed.setIfInBounds i true) (a.put oi.dst v) w → wpAnyU P md ops Q S t (fuel + 1) listed a w := by
  intro fuel
  induction fuel with
  | zero =>
    intro listed a w _ _ _ hr hy hS H
    refine ⟨fun h => (by rw [h] at hr; cases hr), fun j hj => ?_⟩
    by_cases hji : j = i
    · subst hji; exact hy.wpOp hi hS ⟨fun _ => hS, H⟩
    · have := ready_mono hj hji
      rw [H.1] at this
      cases this
  | succ fuel ih =>
    intro listed a w ht hm hfree hr hy hS H
    refine ⟨fun h => (by rw [h] at hr; cases hr), fun j hj => ?_⟩
    by_cases hji : j = i
    · subst hji; exact hy.wpOp hi hS ⟨fun _ => hS, H⟩
    · have h1 := H.2 j (ready_mono hj hji)
      obtain ⟨hjun, oj, hoj, hall⟩ := mem_ready.1 hj
      have hnot : ∀ e ∈ oj.after, Region.binds md e = true → e.on ≠ i := fun e he hb heq => by
        have h1 := hall e he hb
        have h0 := (mem_ready.1 hr).1
        rw [heq] at h1
        rcases Nat.lt_or_ge i listed.size with h' | h'
        · simp [h'] at h0 h1; rw [h0] at h1; cases h1
        · simp [Array.getElem?_eq_none h'] at h1
      have hjm : j ≠ m := fun e => by
        subst e
        unfold waitsFor at hwt
        rw [hoj] at hwt
        simp only [Bool.and_eq_true] at hwt
        obtain ⟨e, he, hb⟩ := Array.any_eq_true'.1 hwt.2
        simp only [Bool.and_eq_true, beq_iff_eq] at hb
        exact hnot e he hb.1 hb.2
      have h2 := wpOp_putIf hoj (hfree j oj hoj hji hjun hnot) (fun cs b => hsel i oi cs b hi) (fun cs b => hsel j oj cs b hoj) hQ hy h1
      have hfree' : ∀ k ok, ops[k]? = some ok → k ≠ i → (listed.setIfInBounds j true).getD k true = false →
          (∀ e ∈ ok.after, Region.binds md e = true → e.on ≠ i) → oi.apart ops ok = true := fun k ok hk hki hun hno => by
        refine hfree k ok hk hki ?_ hno
        by_cases hjk : j = k
        · subst hjk; exact hjun
        · rw [getD_set_ne true hjk] at hun; exact hun
      have hjt : j ≠ t := fun e => by
        subst e
        unfold waitsFor at hwt1
        rw [hoj] at hwt1
        simp only [Bool.and_eq_true] at hwt1
        obtain ⟨e, he, hb⟩ := Array.any_eq_true'.1 hwt1.2
        simp only [Bool.and_eq_true, beq_iff_eq] at hb
        have h1 := hall e he hb.1
        rw [hb.2] at h1
        rcases Nat.lt_or_ge m listed.size with h' | h'
        · simp [h'] at hm h1; rw [hm] at h1; cases h1
        · simp [Array.getElem?_eq_none h'] at h1
      have hset : ((listed.setIfInBounds i true).setIfInBounds j true).getD t true = false := by
        rw [getD_set_ne true hjt, getD_set_ne true hit]; exact ht
      refine wpOp_mono (fun a' w' h3 => ⟨fun _ => h3.2.1 hset, ih (listed.setIfInBounds j true) a' w' (by rw [getD_set_ne true hjt]; exact ht) (by rw [getD_set_ne true hjm]; exact hm) hfree' (ready_mono hr (Ne.symm hji)) h3.1 (h3.2.1 hset) ?_⟩) h2
      rw [Array.setIfInBounds_comm _ _ hji]
      exact h3.2.2
end

section
variable {P : Program} {md : Region.Mode} {ops : Array Oper} {Q : Exit → Act → World → Prop} {S : World → Prop} {t : Nat} {dst : Option Tmp} {op : Op} {ty : TypeId} {pos : String} {after : Array Edge} {guard : Option (Nat × Bool)}

theorem take_u (i : Nat) (v : Value) {fuel : Nat} {listed : Array Bool} {a : Act} {w : World}
    (hi : ops[i]? = some { dst := dst, op := op, type := ty, pos := pos, after := after, guard := guard }) (hs : Region.noSelect ops = true) (hf : Region.free md ops listed i = true) (hr : (Region.ready md ops listed).contains i = true) (hwt : waitsFor md ops t i = true) (ht : listed.getD t true = false)
    (hQ : ∀ c a w, Q (.panic c) (a.put dst v) w → Q (.panic c) a w) (hy : YieldsIf P ops S { dst := dst, op := op, type := ty, pos := pos, after := after, guard := guard } v a) (hS : S w)
    (h : wpAnyU P md ops Q S t fuel (listed.setIfInBounds i true) (a.put dst v) w) : wpAnyU P md ops Q S t (fuel + 1) listed a w :=
  anyU_first hi (Region.noSelect_spec hs) hQ hwt fuel listed a w ht (Region.free_spec hi hf) (by simpa using hr) hy hS h

theorem take_u2 (i m : Nat) (v : Value) {fuel : Nat} {listed : Array Bool} {a : Act} {w : World}
    (hi : ops[i]? = some { dst := dst, op := op, type := ty, pos := pos, after := after, guard := guard }) (hs : Region.noSelect ops = true) (hf : Region.free md ops listed i = true) (hr : (Region.ready md ops listed).contains i = true) (hwt1 : waitsFor md ops t m = true) (hwt : waitsFor md ops m i = true) (hit : decide (i = t) = false) (ht : listed.getD t true = false) (hm : listed.getD m true = false)
    (hQ : ∀ c a w, Q (.panic c) (a.put dst v) w → Q (.panic c) a w) (hy : YieldsIf P ops S { dst := dst, op := op, type := ty, pos := pos, after := after, guard := guard } v a) (hS : S w)
    (h : wpAnyU P md ops Q S t fuel (listed.setIfInBounds i true) (a.put dst v) w) : wpAnyU P md ops Q S t (fuel + 1) listed a w :=
  anyU_first2 hi (Region.noSelect_spec hs) hQ hwt1 hwt (of_decide_eq_false hit) fuel listed a w ht hm (Region.free_spec hi hf) (by simpa using hr) hy hS h

theorem readyU_one {i : Nat} {fuel : Nat} {listed : Array Bool} {a : Act} {w : World} (hr : Region.ready md ops listed = [i]) (h : wpOp P ops Q i (fun a' w' => ((listed.setIfInBounds i true).getD t true = false → S w') ∧ wpAnyU P md ops Q S t fuel (listed.setIfInBounds i true) a' w') a w) : wpAnyU P md ops Q S t (fuel + 1) listed a w :=
  ⟨fun h0 => (by rw [hr] at h0; cases h0), fun j hj => (by rw [hr] at hj; obtain rfl : j = i := (by simpa using hj); exact h)⟩

/-- a call before the one that nothing outlives -/
theorem call_u (i : Nat) {fuel : Nat} {listed : Array Bool} {a : Act} {w : World}
    (hi : ops[i]? = some { dst := dst, op := op, type := ty, pos := pos, after := after, guard := guard }) (hr : Region.ready md ops listed = [i]) (f : FuncId) (args : Array Value)
    (hw : Region.wanted { dst := dst, op := op, type := ty, pos := pos, after := after, guard := guard } (yielded ops a.tmps) = true)
    (hrun : (execOp a.eval { dst := dst, op := op, type := ty, pos := pos, after := after, guard := guard }).run P w = .ok (.enter f args) w)
    (hc : Calls P f args w fun e w' => ∃ v, e = .returned v ∧ S w' ∧ (S w' → wpAnyU P md ops Q S t fuel (listed.setIfInBounds i true) (a.put dst v) w')) : wpAnyU P md ops Q S t (fuel + 1) listed a w :=
  readyU_one hr (wpOp_step hi (fun K hK => by
    rw [if_pos hw]
    unfold Oper.wp
    rw [hrun, Oper.upon_enter]
    refine hc.mono ?_
    rintro e w' ⟨v, rfl, hS, hn⟩
    exact hK _ _ ⟨fun _ => hS, hn hS⟩))

theorem wp_region_heldU (t : Nat) {id : Nat} {a : Act} {w : World} (hm : P.follows .mixedOrders = true) (hS : S w.drew)
    (h : S w.drew → wpAnyU P .any ops Q S t ops.size (Array.replicate ops.size false) a w.drew) : (Code.region id ops true).wp P Q a w :=
  wp_region_any hm (any_of_U _ _ _ _ (h hS))
end

section
variable {P : Program} {md : Region.Mode} {ops : Array Oper} {Q : Exit → Act → World → Prop} {S S' : World → Prop} {t : Nat} {dst : Option Tmp} {op : Op} {ty : TypeId} {pos : String} {after : Array Edge} {guard : Option (Nat × Bool)}

/-- behind number t another word may be kept -/
theorem anyU_of_H : ∀ (fuel : Nat) (listed : Array Bool) (a : Act) (w : World), listed.getD t true = true → wpAnyH P md ops Q S' fuel listed a w → wpAnyU P md ops Q S t fuel listed a w
  | 0, _, _, _, _, h => h
  | fuel + 1, listed, a, w, ht, h => ⟨h.1, fun i hi => wpOp_mono (fun a' w' h' => by
      have hs : (listed.setIfInBounds i true).getD t true = true := by
        by_cases hit : i = t
        · subst hit
          rcases Nat.lt_or_ge i listed.size with h1 | h1
          · simp [h1]
          · simp [h1]
        · rw [getD_set_ne true hit]; exact ht
      exact ⟨fun hf => (by rw [hs] at hf; cases hf), anyU_of_H fuel _ a' w' hs h'.2⟩) (h.2 i hi)⟩

/-- an operation that yields a value and may make memory -/
theorem oper_u (i : Nat) {fuel : Nat} {listed : Array Bool} {a : Act} {w : World} (v : Value) (w' : World)
    (hi : ops[i]? = some { dst := dst, op := op, type := ty, pos := pos, after := after, guard := guard }) (hr : Region.ready md ops listed = [i])
    (hw : Region.wanted { dst := dst, op := op, type := ty, pos := pos, after := after, guard := guard } (yielded ops a.tmps) = true)
    (hrun : (execOp a.eval { dst := dst, op := op, type := ty, pos := pos, after := after, guard := guard }).run P w = .ok (.value v) w')
    (hS : (listed.setIfInBounds i true).getD t true = false → S w') (hn : wpAnyU P md ops Q S t fuel (listed.setIfInBounds i true) (a.put dst v) w') : wpAnyU P md ops Q S t (fuel + 1) listed a w :=
  readyU_one hr (wpOp_step hi (fun K hK => by
    rw [if_pos hw]
    unfold Oper.wp
    rw [hrun]
    exact hK _ _ ⟨hS, hn⟩))

end

section
variable {P : Program} {md : Region.Mode} {ops : Array Oper} {Q : Exit → Act → World → Prop} {S : World → Prop} {t : Nat}
/-- what yields in whatever world may come first -/
theorem anyU_pure {i : Nat} {oi : Oper} {v : Value} (hi : ops[i]? = some oi) (hsel : ∀ (j : Nat) (o : Oper) cs b, ops[j]? = some o → o.op ≠ .select cs b)
    (hQ : ∀ c a w, Q (.panic c) (a.put oi.dst v) w → Q (.panic c) a w) (hit : i ≠ t) :
    ∀ (fuel : Nat) (listed : Array Bool) (a : Act) (w : World),
      (∀ j oj, ops[j]? = some oj → j ≠ i → listed.getD j true = false → (∀ e ∈ oj.after, Region.binds md e = true → e.on ≠ i) → oi.apart ops oj = true) →
      i ∈ Region.ready md ops listed → YieldsIf P ops (fun _ => True) oi v a → (listed.getD t true = false → S w) →
      wpAnyU P md ops Q S t fuel (listed.setIfInBounds i true) (a.put oi.dst v) w → wpAnyU P md ops Q S t (fuel + 1) listed a w := by
  intro fuel
  have hget : ∀ l : Array Bool, (l.setIfInBounds i true).getD t true = l.getD t true := fun l => getD_set_ne true hit
  induction fuel with
  | zero =>
    intro listed a w _ hr hy hS H
    refine ⟨fun h => (by rw [h] at hr; cases hr), fun j hj => ?_⟩
    by_cases hji : j = i
    · subst hji; exact hy.wpOp hi trivial ⟨fun h => hS (by rw [hget] at h; exact h), H⟩
    · have := ready_mono hj hji
      rw [H.1] at this
      cases this
  | succ fuel ih =>
    intro listed a w hfree hr hy hS H
    refine ⟨fun h => (by rw [h] at hr; cases hr), fun j hj => ?_⟩
    by_cases hji : j = i
    · subst hji; exact hy.wpOp hi trivial ⟨fun h => hS (by rw [hget] at h; exact h), H⟩
    · have h1 := H.2 j (ready_mono hj hji)
      obtain ⟨hjun, oj, hoj, hall⟩ := mem_ready.1 hj
      have hnot : ∀ e ∈ oj.after, Region.binds md e = true → e.on ≠ i := fun e he hb heq => by
        have h1 := hall e he hb
        have h0 := (mem_ready.1 hr).1
        rw [heq] at h1
        rcases Nat.lt_or_ge i listed.size with h' | h'
        · simp [h'] at h0 h1; rw [h0] at h1; cases h1
        · simp [Array.getElem?_eq_none h'] at h1
      have h2 := wpOp_putIf hoj (hfree j oj hoj hji hjun hnot) (fun cs b => hsel i oi cs b hi) (fun cs b => hsel j oj cs b hoj) hQ hy h1
      have hfree' : ∀ k ok, ops[k]? = some ok → k ≠ i → (listed.setIfInBounds j true).getD k true = false →
          (∀ e ∈ ok.after, Region.binds md e = true → e.on ≠ i) → oi.apart ops ok = true := fun k ok hk hki hun hno => by
        refine hfree k ok hk hki ?_ hno
        by_cases hjk : j = k
        · subst hjk; exact hjun
        · rw [getD_set_ne true hjk] at hun; exact hun
      have hcm : (listed.setIfInBounds i true).setIfInBounds j true = (listed.setIfInBounds j true).setIfInBounds i true := Array.setIfInBounds_comm _ _ (Ne.symm hji)
      refine wpOp_mono (fun a' w' h3 => ?_) h2
      have h4 := h3.2
      rw [hcm] at h4
      have hS' : (listed.setIfInBounds j true).getD t true = false → S w' := fun h => h4.1 (by rw [hget]; exact h)
      exact ⟨hS', ih (listed.setIfInBounds j true) a' w' hfree' (ready_mono hr (Ne.symm hji)) h3.1 hS' h4.2⟩

variable {dst : Option Tmp} {op : Op} {ty : TypeId} {pos : String} {after : Array Edge} {guard : Option (Nat × Bool)}
theorem take_p (i : Nat) (v : Value) {fuel : Nat} {listed : Array Bool} {a : Act} {w : World}
    (hi : ops[i]? = some { dst := dst, op := op, type := ty, pos := pos, after := after, guard := guard }) (hs : Region.noSelect ops = true) (hf : Region.free md ops listed i = true) (hr : (Region.ready md ops listed).contains i = true) (hit : decide (i = t) = false)
    (hQ : ∀ c a w, Q (.panic c) (a.put dst v) w → Q (.panic c) a w) (hy : YieldsIf P ops (fun _ => True) { dst := dst, op := op, type := ty, pos := pos, after := after, guard := guard } v a) (hS : listed.getD t true = false → S w)
    (h : wpAnyU P md ops Q S t fuel (listed.setIfInBounds i true) (a.put dst v) w) : wpAnyU P md ops Q S t (fuel + 1) listed a w :=
  anyU_pure hi (Region.noSelect_spec hs) hQ (of_decide_eq_false hit) fuel listed a w (Region.free_spec hi hf) (by simpa using hr) hy hS h

/-- the store from which on nothing need hold -/
theorem skip_at_u (i : Nat) {fuel : Nat} {listed : Array Bool} {a : Act} {w : World} (w' : World)
    (hi : ops[i]? = some { dst := dst, op := op, type := ty, pos := pos, after := after, guard := guard }) (hr : Region.ready md ops listed = [i]) (ht : (listed.setIfInBounds i true).getD t true = true)
    (hw : Region.wanted { dst := dst, op := op, type := ty, pos := pos, after := after, guard := guard } (yielded ops a.tmps) = true)
    (hrun : (execOp a.eval { dst := dst, op := op, type := ty, pos := pos, after := after, guard := guard }).run P w = .ok .skip w')
    (hn : wpAnyU P md ops Q S t fuel (listed.setIfInBounds i true) (a.put dst undef) w') : wpAnyU P md ops Q S t (fuel + 1) listed a w :=
  readyU_one hr (wpOp_step hi (fun K hK => by
    rw [if_pos hw]
    unfold Oper.wp
    rw [hrun]
    exact hK _ _ ⟨fun h => (by rw [ht] at h; cases h), hn⟩))
end

section
attribute [local go_sem] Oper.semAt_some

/-- what Seal does to a cipher -/
def onP (K r : Int) (p : Int × Int) : Int × Int := (((mp p.1.toNat (pw 4 r) : Nat) : Int), ((mp p.2.toNat (pw K.toNat r) : Nat) : Int))
theorem onP_ok {K r : Int} {p : Int × Int} (hK : vd K = true) (h : vd p.1 = true ∧ vd p.2 = true) : vd (onP K r p).1 = true ∧ vd (onP K r p).2 = true := by
  obtain ⟨A, hA, vA⟩ := vd_of_vd h.1
  obtain ⟨D, hD, vD⟩ := vd_of_vd h.2
  obtain ⟨k, hk, vk⟩ := vd_of_vd hK
  constructor
  · show vd ((mp p.1.toNat (pw 4 r) : Nat) : Int) = true
    rw [hA, Int.toNat_natCast]
    exact (vd_iff _).2 (vA.mp (vd4.pw _))
  · show vd ((mp p.2.toNat (pw K.toNat r) : Nat) : Int) = true
    rw [hD, hk, Int.toNat_natCast, Int.toNat_natCast]
    exact (vd_iff _).2 (vD.mp (vk.pw _))

set_option maxHeartbeats 4000000 in
theorem more1_at0 (A D K r X Y : Int) (g k rb kb : Nat) (cur : List Value) (w : World) (hg : w.heap[g]? = some (.cells cur.toArray 32 (0, 0))) (hA : cur[k]? = some (.int .i64 A)) (hD : cur[k + 1]? = some (.int .i64 D)) (hr : w.cell? ⟨rb, 0, none⟩ = some (.int .i64 r)) (hk : w.cell? ⟨kb, 0, none⟩ = some (.int .i64 K)) (vA : vd A = true) (vD : vd D = true) (vK : vd K = true) (ir : I64 r)
    (hX : Seal ((onP K r (A, D)) = (X, Y))) :
    Calls Tryd.prog 85 #[.int .i64 0, .pointer (some ⟨g, k, none⟩), .pointer (some ⟨rb, 0, none⟩), .pointer (some ⟨kb, 0, none⟩)] w fun e w' => e = .returned (.tuple #[]) ∧ w.grownBy w' (some g) ∧ w'.heap[g]? = some (.cells ((cur.set k (.int .i64 X)).set (k + 1) (.int .i64 Y)).toArray 32 (0, 0)) := by
  have HP4 : Seal (∀ W, Calls Tryd.prog 55 #[.int .i64 4, .int .i64 r] W fun e w' => e = .returned (.int .i64 (pw 4 r : Nat)) ∧ Below W.heap.size W w') := ⟨fun W => epower_any 4 r W (by decide +kernel) ir.1 ir.2⟩
  have HPK : Seal (∀ W, Calls Tryd.prog 55 #[.int .i64 K, .int .i64 r] W fun e w' => e = .returned (.int .i64 (pw K.toNat r : Nat)) ∧ Below W.heap.size W w') := ⟨fun W => epower_any K r W vK ir.1 ir.2⟩
  obtain ⟨A', rfl, hA'⟩ := vd_of_vd vA
  obtain ⟨D', rfl, hD'⟩ := vd_of_vd vD
  have HAD : Seal (A' < 2147483579 ∧ D' < 2147483579) := ⟨hA'.2.1, hD'.2.1⟩
  obtain ⟨p, hp⟩ : ∃ p : Nat, p = pw 4 r := ⟨_, rfl⟩
  obtain ⟨q, hq⟩ : ∃ q : Nat, q = pw K.toNat r := ⟨_, rfl⟩
  have HPQ : Seal (p < 2147483579 ∧ q < 2147483579) := ⟨by rw [hp, hq]; exact ⟨pw_lt _ _, pw_lt _ _⟩⟩
  have HXe : Seal (((mp A' p : Nat) : Int) = X ∧ ((mp D' q : Nat) : Int) = Y) := ⟨by
    have := hX.out
    unfold onP at this
    simp only [Prod.mk.injEq, Int.toNat_natCast] at this
    rw [hp, hq]; exact this⟩
  rw [← hp] at HP4
  rw [← hq] at HPK
  have kA : w.cell? ⟨g, k, none⟩ = some (.int .i64 (A' : Int)) := by rw [cell_of_row _ _ _ _ _ _ hg]; simpa using hA
  have kD : w.cell? ⟨g, k + 1, none⟩ = some (.int .i64 (D' : Int)) := by rw [cell_of_row _ _ _ _ _ _ hg]; simpa using hD
  have HG := Seal.mk hg
  have HLk : Seal (k < cur.length) := ⟨by rw [List.getElem?_eq_some_iff] at hA; exact hA.1⟩
  have HDk := Seal.mk hD
  clear hg hA hD vA vD vK hA' hD' hp hq hX ir
  go_enter Tryd.func85, Tryd.ntmps85
  refine wp_region_heldU 25 (S := fun w' => w'.cell? ⟨g, k, none⟩ = some (.int .i64 (A' : Int)) ∧ w'.cell? ⟨g, k + 1, none⟩ = some (.int .i64 (D' : Int)) ∧ w'.cell? ⟨rb, 0, none⟩ = some (.int .i64 r) ∧ w'.cell? ⟨kb, 0, none⟩ = some (.int .i64 K)) (by kernel_rfl) ⟨kA, kD, hr, hk⟩ (fun hHeld => ?_)
  refine take_p 0 ?_ rfl (by kernel_rfl) (by kernel_rfl) (by kernel_rfl) (by kernel_rfl) (fun _ _ _ h => h) (Or.inl ⟨by kernel_rfl, ?_⟩) (fun _ => by assumption) ?_
  rotate_left
  · (intro w _; go_simp; try (with_reducible rfl))
  try simp only [Act.put, List.setIfInBounds_toArray, List.set_cons_zero, List.set_cons_succ]
  refine take_p 1 ?_ rfl (by kernel_rfl) (by kernel_rfl) (by kernel_rfl) (by kernel_rfl) (fun _ _ _ h => h) (Or.inl ⟨by kernel_rfl, ?_⟩) (fun _ => by assumption) ?_
  rotate_left
  · (intro w _; go_simp; try (with_reducible rfl))
  try simp only [Act.put, List.setIfInBounds_toArray, List.set_cons_zero, List.set_cons_succ]
  refine take_p 2 ?_ rfl (by kernel_rfl) (by kernel_rfl) (by kernel_rfl) (by kernel_rfl) (fun _ _ _ h => h) (Or.inl ⟨by kernel_rfl, ?_⟩) (fun _ => by assumption) ?_
  rotate_left
  · (intro w _; go_simp; try (with_reducible rfl))
  try simp only [Act.put, List.setIfInBounds_toArray, List.set_cons_zero, List.set_cons_succ]
  refine take_p 3 ?_ rfl (by kernel_rfl) (by kernel_rfl) (by kernel_rfl) (by kernel_rfl) (fun _ _ _ h => h) (Or.inl ⟨by kernel_rfl, ?_⟩) (fun _ => by assumption) ?_
  rotate_left
  · (intro w _; go_simp; try (with_reducible rfl))
  try simp only [Act.put, List.setIfInBounds_toArray, List.set_cons_zero, List.set_cons_succ]
  refine take_p 4 ?_ rfl (by kernel_rfl) (by kernel_rfl) (by kernel_rfl) (by kernel_rfl) (fun _ _ _ h => h) (Or.inl ⟨by kernel_rfl, ?_⟩) (fun _ => by assumption) ?_
  rotate_left
  · (intro w _; go_simp; try (with_reducible rfl))
  try simp only [Act.put, List.setIfInBounds_toArray, List.set_cons_zero, List.set_cons_succ]
  refine take_u 5 ?_ rfl (by kernel_rfl) (by kernel_rfl) (by kernel_rfl) (by kernel_rfl) (by kernel_rfl) (fun _ _ _ h => h) (Or.inl ⟨by kernel_rfl, ?_⟩) (by assumption) ?_
  rotate_left
  · (intro w hSw; (try dsimp only at hSw); go_simp; try (with_reducible rfl))
  try simp only [Act.put, List.setIfInBounds_toArray, List.set_cons_zero, List.set_cons_succ]
  refine take_p 6 ?_ rfl (by kernel_rfl) (by kernel_rfl) (by kernel_rfl) (by kernel_rfl) (fun _ _ _ h => h) (Or.inl ⟨by kernel_rfl, ?_⟩) (fun _ => by assumption) ?_
  rotate_left
  · (intro w _; go_simp; try (with_reducible rfl))
  try simp only [Act.put, List.setIfInBounds_toArray, List.set_cons_zero, List.set_cons_succ]
  refine take_p 7 ?_ rfl (by kernel_rfl) (by kernel_rfl) (by kernel_rfl) (by kernel_rfl) (fun _ _ _ h => h) (Or.inl ⟨by kernel_rfl, ?_⟩) (fun _ => by assumption) ?_
  rotate_left
  · (intro w _; go_simp; try (with_reducible rfl))
  try simp only [Act.put, List.setIfInBounds_toArray, List.set_cons_zero, List.set_cons_succ]
  refine take_u 8 ?_ rfl (by kernel_rfl) (by kernel_rfl) (by kernel_rfl) (by kernel_rfl) (by kernel_rfl) (fun _ _ _ h => h) (Or.inl ⟨by kernel_rfl, ?_⟩) (by assumption) ?_
  rotate_left
  · (intro w hSw; (try dsimp only at hSw); go_simp; try (with_reducible rfl))
  try simp only [Act.put, List.setIfInBounds_toArray, List.set_cons_zero, List.set_cons_succ]
  refine take_p 12 ?_ rfl (by kernel_rfl) (by kernel_rfl) (by kernel_rfl) (by kernel_rfl) (fun _ _ _ h => h) (Or.inl ⟨by kernel_rfl, ?_⟩) (fun _ => by assumption) ?_
  rotate_left
  · (intro w _; go_simp; try (with_reducible rfl))
  try simp only [Act.put, List.setIfInBounds_toArray, List.set_cons_zero, List.set_cons_succ]
  refine take_p 13 ?_ rfl (by kernel_rfl) (by kernel_rfl) (by kernel_rfl) (by kernel_rfl) (fun _ _ _ h => h) (Or.inl ⟨by kernel_rfl, ?_⟩) (fun _ => by assumption) ?_
  rotate_left
  · (intro w _; go_simp; try (with_reducible rfl))
  try simp only [Act.put, List.setIfInBounds_toArray, List.set_cons_zero, List.set_cons_succ]
  refine take_p 14 ?_ rfl (by kernel_rfl) (by kernel_rfl) (by kernel_rfl) (by kernel_rfl) (fun _ _ _ h => h) (Or.inl ⟨by kernel_rfl, ?_⟩) (fun _ => by assumption) ?_
  rotate_left
  · (intro w _; go_simp; try (with_reducible rfl))
  try simp only [Act.put, List.setIfInBounds_toArray, List.set_cons_zero, List.set_cons_succ]
  refine take_u 15 ?_ rfl (by kernel_rfl) (by kernel_rfl) (by kernel_rfl) (by kernel_rfl) (by kernel_rfl) (fun _ _ _ h => h) (Or.inl ⟨by kernel_rfl, ?_⟩) (by assumption) ?_
  rotate_left
  · (intro w hSw; (try dsimp only at hSw); go_simp; try (with_reducible rfl))
  try simp only [Act.put, List.setIfInBounds_toArray, List.set_cons_zero, List.set_cons_succ]
  refine take_u2 16 20 ?_ rfl (by kernel_rfl) (by kernel_rfl) (by kernel_rfl) (by kernel_rfl) (by kernel_rfl) (by kernel_rfl) (by kernel_rfl) (by kernel_rfl) (fun _ _ _ h => h) (Or.inl ⟨by kernel_rfl, ?_⟩) (by assumption) ?_
  rotate_left
  · (intro w hSw; (try dsimp only at hSw); go_simp; try (with_reducible rfl))
  try simp only [Act.put, List.setIfInBounds_toArray, List.set_cons_zero, List.set_cons_succ]
  refine take_p 17 ?_ rfl (by kernel_rfl) (by kernel_rfl) (by kernel_rfl) (by kernel_rfl) (fun _ _ _ h => h) (Or.inl ⟨by kernel_rfl, ?_⟩) (fun _ => by assumption) ?_
  rotate_left
  · (intro w _; go_simp; try (with_reducible rfl))
  try simp only [Act.put, List.setIfInBounds_toArray, List.set_cons_zero, List.set_cons_succ]
  refine take_p 18 ?_ rfl (by kernel_rfl) (by kernel_rfl) (by kernel_rfl) (by kernel_rfl) (fun _ _ _ h => h) (Or.inl ⟨by kernel_rfl, ?_⟩) (fun _ => by assumption) ?_
  rotate_left
  · (intro w _; go_simp; try (with_reducible rfl))
  try simp only [Act.put, List.setIfInBounds_toArray, List.set_cons_zero, List.set_cons_succ]
  refine take_u2 19 20 ?_ rfl (by kernel_rfl) (by kernel_rfl) (by kernel_rfl) (by kernel_rfl) (by kernel_rfl) (by kernel_rfl) (by kernel_rfl) (by kernel_rfl) (fun _ _ _ h => h) (Or.inl ⟨by kernel_rfl, ?_⟩) (by assumption) ?_
  rotate_left
  · (intro w hSw; (try dsimp only at hSw); go_simp; try (with_reducible rfl))
  try simp only [Act.put, List.setIfInBounds_toArray, List.set_cons_zero, List.set_cons_succ]
  refine call_u 9 rfl (by kernel_rfl) 55 #[.int .i64 4, .int .i64 r] (by kernel_rfl) (by go_simp) ?_
  refine (HP4.out w.drew).mono ?_
  rintro e w1 ⟨rfl, hb⟩
  have hb1 : Below w.heap.size w w1 := ⟨hb.os, hb.tape, hb.output, hb.size, hb.block⟩
  have HB1 := Seal.mk hb1
  refine ⟨_, rfl, ⟨cell_later hb1 kA, cell_later hb1 kD, cell_later hb1 hr, cell_later hb1 hk⟩, fun hHeld2 => ?_⟩
  clear hHeld hb hb1 kA kD hr hk
  try simp only [Act.put, List.setIfInBounds_toArray, List.set_cons_zero, List.set_cons_succ]
  refine oper_u 10 (.slice (some ⟨w1.heap.size, 0, none⟩) 2 2) (w1.alloc (.cells #[.int .i64 (A' : Int), .int .i64 (p : Int)] 3)) rfl (by kernel_rfl) (by kernel_rfl) (by go_simp) (fun _ => ⟨cell_allocd hHeld2.1 _, cell_allocd hHeld2.2.1 _, cell_allocd hHeld2.2.2.1 _, cell_allocd hHeld2.2.2.2 _⟩) ?_
  have HT := Seal.mk (etimes_any w1.heap.size A' p (w1.alloc (.cells #[.int .i64 (A' : Int), .int .i64 (p : Int)] 3)) HAD.out.1 HPQ.out.1 (by rw [cell_of_row _ _ _ _ _ _ (heap_alloc_new w1 _)]; rfl) (by rw [cell_of_row _ _ _ _ _ _ (heap_alloc_new w1 _)]; rfl))
  have hHeld3 : _ ∧ _ ∧ _ ∧ _ := ⟨cell_allocd hHeld2.1 (.cells #[.int .i64 (A' : Int), .int .i64 (p : Int)] 3), cell_allocd hHeld2.2.1 (.cells #[.int .i64 (A' : Int), .int .i64 (p : Int)] 3), cell_allocd hHeld2.2.2.1 (.cells #[.int .i64 (A' : Int), .int .i64 (p : Int)] 3), cell_allocd hHeld2.2.2.2 (.cells #[.int .i64 (A' : Int), .int .i64 (p : Int)] 3)⟩
  clear hHeld2
  have HB2 := Seal.mk (HB1.out.alloc HB1.out.size (.cells #[.int .i64 (A' : Int), .int .i64 (p : Int)] 3))
  clear HB1
  obtain ⟨W1, hW1⟩ : ∃ W1, W1 = w1.alloc (.cells #[.int .i64 (A' : Int), .int .i64 (p : Int)] 3) := ⟨_, rfl⟩
  rw [← hW1] at HT HB2 hHeld3 ⊢
  clear hW1
  try simp only [Act.put, List.setIfInBounds_toArray, List.set_cons_zero, List.set_cons_succ]
  refine call_u 11 rfl (by kernel_rfl) 54 #[.slice (some ⟨w1.heap.size, 0, none⟩) 2 2] (by kernel_rfl) (by go_simp) ?_
  refine HT.out.mono ?_
  rintro e w2 ⟨rfl, rfl⟩
  refine ⟨_, rfl, hHeld3, fun hHeld4 => ?_⟩
  clear HT
  rw [HXe.out.1]
  try simp only [Act.put, List.setIfInBounds_toArray, List.set_cons_zero, List.set_cons_succ]
  refine call_u 20 rfl (by kernel_rfl) 55 #[.int .i64 K, .int .i64 r] (by kernel_rfl) (by go_simp) ?_
  refine (HPK.out W1).mono ?_
  rintro e w3 ⟨rfl, hb⟩
  have HB3 := Seal.mk (HB2.out.trans (hb.mono HB2.out.size))
  refine ⟨_, rfl, ⟨cell_later hb hHeld3.1, cell_later hb hHeld3.2.1, cell_later hb hHeld3.2.2.1, cell_later hb hHeld3.2.2.2⟩, fun hHeld5 => ?_⟩
  clear hHeld4 hHeld3 hb HB2
  try simp only [Act.put, List.setIfInBounds_toArray, List.set_cons_zero, List.set_cons_succ]
  refine oper_u 21 (.slice (some ⟨w3.heap.size, 0, none⟩) 2 2) (w3.alloc (.cells #[.int .i64 (D' : Int), .int .i64 (q : Int)] 3)) rfl (by kernel_rfl) (by kernel_rfl) (by go_simp) (fun _ => ⟨cell_allocd hHeld5.1 _, cell_allocd hHeld5.2.1 _, cell_allocd hHeld5.2.2.1 _, cell_allocd hHeld5.2.2.2 _⟩) ?_
  have HT := Seal.mk (etimes_any w3.heap.size D' q (w3.alloc (.cells #[.int .i64 (D' : Int), .int .i64 (q : Int)] 3)) HAD.out.2 HPQ.out.2 (by rw [cell_of_row _ _ _ _ _ _ (heap_alloc_new w3 _)]; rfl) (by rw [cell_of_row _ _ _ _ _ _ (heap_alloc_new w3 _)]; rfl))
  have hHeld6 : _ ∧ _ ∧ _ ∧ _ := ⟨cell_allocd hHeld5.1 (.cells #[.int .i64 (D' : Int), .int .i64 (q : Int)] 3), cell_allocd hHeld5.2.1 (.cells #[.int .i64 (D' : Int), .int .i64 (q : Int)] 3), cell_allocd hHeld5.2.2.1 (.cells #[.int .i64 (D' : Int), .int .i64 (q : Int)] 3), cell_allocd hHeld5.2.2.2 (.cells #[.int .i64 (D' : Int), .int .i64 (q : Int)] 3)⟩
  clear hHeld5
  have HB4 := Seal.mk (HB3.out.alloc HB3.out.size (.cells #[.int .i64 (D' : Int), .int .i64 (q : Int)] 3))
  clear HB3
  obtain ⟨W2, hW2⟩ : ∃ W2, W2 = w3.alloc (.cells #[.int .i64 (D' : Int), .int .i64 (q : Int)] 3) := ⟨_, rfl⟩
  rw [← hW2] at HT HB4 hHeld6 ⊢
  clear hW2
  try simp only [Act.put, List.setIfInBounds_toArray, List.set_cons_zero, List.set_cons_succ]
  refine call_u 22 rfl (by kernel_rfl) 54 #[.slice (some ⟨w3.heap.size, 0, none⟩) 2 2] (by kernel_rfl) (by go_simp) ?_
  refine HT.out.mono ?_
  rintro e w4 ⟨rfl, rfl⟩
  refine ⟨_, rfl, hHeld6, fun hHeld7 => ?_⟩
  clear HT hHeld7
  rw [HXe.out.2]
  try simp only [Act.put, List.setIfInBounds_toArray, List.set_cons_zero, List.set_cons_succ]
  refine take_p 23 ?_ rfl (by kernel_rfl) (by kernel_rfl) (by kernel_rfl) (by kernel_rfl) (fun _ _ _ h => h) (Or.inl ⟨by kernel_rfl, ?_⟩) (fun _ => by assumption) ?_
  rotate_left
  · (intro w _; go_simp; try (with_reducible rfl))
  try simp only [Act.put, List.setIfInBounds_toArray, List.set_cons_zero, List.set_cons_succ]
  refine take_p 24 ?_ rfl (by kernel_rfl) (by kernel_rfl) (by kernel_rfl) (by kernel_rfl) (fun _ _ _ h => h) (Or.inl ⟨by kernel_rfl, ?_⟩) (fun _ => by assumption) ?_
  rotate_left
  · (intro w _; go_simp; try (with_reducible rfl))
  try simp only [Act.put, List.setIfInBounds_toArray, List.set_cons_zero, List.set_cons_succ]
  have hr2 := blk HB4.out (Array.getElem?_eq_some_iff.1 HG.out).1 HG.out
  have f1 : W2.frozen? ⟨g, k, none⟩ = false := frozen_of_row _ _ _ _ _ hr2
  have x1 := hHeld6.1
  refine skip_at_u 25 (W2.setCell ⟨g, k, none⟩ (.int .i64 X)) rfl (by kernel_rfl) (by kernel_rfl) (by kernel_rfl) (by go_simp) ?_
  have HR := Seal.mk (heap_setCell_row (i := k) (.int .i64 X) hr2)
  clear hr2 f1 x1
  refine anyU_of_H (S' := fun _ => True) _ _ _ _ (by kernel_rfl) ?_
  have hT : (fun _ : World => True) W2 := trivial
  have hHeld := hT
  refine take_h 26 ?_ rfl (by kernel_rfl) (by kernel_rfl) (by kernel_rfl) (fun _ _ _ h => h) (Or.inl ⟨by kernel_rfl, ?_⟩) (by assumption) ?_
  rotate_left
  · (intro w hSw; (try dsimp only at hSw); go_simp; try (with_reducible rfl))
  try simp only [Act.put, List.setIfInBounds_toArray, List.set_cons_zero, List.set_cons_succ]
  refine take_h 27 ?_ rfl (by kernel_rfl) (by kernel_rfl) (by kernel_rfl) (fun _ _ _ h => h) (Or.inl ⟨by kernel_rfl, ?_⟩) (by assumption) ?_
  rotate_left
  · (intro w hSw; (try dsimp only at hSw); go_simp; try (with_reducible rfl))
  try simp only [Act.put, List.setIfInBounds_toArray, List.set_cons_zero, List.set_cons_succ]
  have d2 : (cur.set k (.int .i64 X))[k + 1]? = some (.int .i64 (D' : Int)) := by rw [List.getElem?_set_ne (by omega)]; exact HDk.out
  have x2 : (W2.setCell ⟨g, k, none⟩ (.int .i64 X)).cell? ⟨g, k + 1, none⟩ = some (.int .i64 (D' : Int)) := by rw [cell_of_row _ _ _ _ _ _ HR.out]; simpa using d2
  have f2 : (W2.setCell ⟨g, k, none⟩ (.int .i64 X)).frozen? ⟨g, k + 1, none⟩ = false := frozen_of_row _ _ _ _ _ HR.out
  have HR2 := Seal.mk (heap_setCell_row (i := k + 1) (.int .i64 Y) HR.out)
  have HGr : Seal (w.grownBy ((W2.setCell ⟨g, k, none⟩ (.int .i64 X)).setCell ⟨g, k + 1, none⟩ (.int .i64 Y)) (some g)) := ⟨grown_setCell (grown_setCell (grown_of_below HB4.out _) _ _) _ _⟩
  clear hHeld6 d2 hT
  refine skip_h 28 ((W2.setCell ⟨g, k, none⟩ (.int .i64 X)).setCell ⟨g, k + 1, none⟩ (.int .i64 Y)) rfl (by kernel_rfl) (by kernel_rfl) (by go_simp) trivial (fun _ => ?_)
  refine wpAnyH_done (by kernel_rfl) ?_ _
  clear x2 f2 hHeld
  go_wp2
  exact ⟨rfl, .tuple #[], by simp [results, Tryd.results85, go_sem], rfl, HGr.out, HR2.out⟩
set_option maxHeartbeats 4000000 in
theorem more1_at1 (A D K r X Y : Int) (g k rb kb : Nat) (cur : List Value) (w : World) (hg : w.heap[g]? = some (.cells cur.toArray 32 (0, 0))) (hA : cur[k]? = some (.int .i64 A)) (hD : cur[k + 1]? = some (.int .i64 D)) (hr : w.cell? ⟨rb, 1, none⟩ = some (.int .i64 r)) (hk : w.cell? ⟨kb, 0, none⟩ = some (.int .i64 K)) (vA : vd A = true) (vD : vd D = true) (vK : vd K = true) (ir : I64 r)
    (hX : Seal ((onP K r (A, D)) = (X, Y))) :
    Calls Tryd.prog 85 #[.int .i64 1, .pointer (some ⟨g, k, none⟩), .pointer (some ⟨rb, 0, none⟩), .pointer (some ⟨kb, 0, none⟩)] w fun e w' => e = .returned (.tuple #[]) ∧ w.grownBy w' (some g) ∧ w'.heap[g]? = some (.cells ((cur.set k (.int .i64 X)).set (k + 1) (.int .i64 Y)).toArray 32 (0, 0)) := by
  have HP4 : Seal (∀ W, Calls Tryd.prog 55 #[.int .i64 4, .int .i64 r] W fun e w' => e = .returned (.int .i64 (pw 4 r : Nat)) ∧ Below W.heap.size W w') := ⟨fun W => epower_any 4 r W (by decide +kernel) ir.1 ir.2⟩
  have HPK : Seal (∀ W, Calls Tryd.prog 55 #[.int .i64 K, .int .i64 r] W fun e w' => e = .returned (.int .i64 (pw K.toNat r : Nat)) ∧ Below W.heap.size W w') := ⟨fun W => epower_any K r W vK ir.1 ir.2⟩
  obtain ⟨A', rfl, hA'⟩ := vd_of_vd vA
  obtain ⟨D', rfl, hD'⟩ := vd_of_vd vD
  have HAD : Seal (A' < 2147483579 ∧ D' < 2147483579) := ⟨hA'.2.1, hD'.2.1⟩
  obtain ⟨p, hp⟩ : ∃ p : Nat, p = pw 4 r := ⟨_, rfl⟩
  obtain ⟨q, hq⟩ : ∃ q : Nat, q = pw K.toNat r := ⟨_, rfl⟩
  have HPQ : Seal (p < 2147483579 ∧ q < 2147483579) := ⟨by rw [hp, hq]; exact ⟨pw_lt _ _, pw_lt _ _⟩⟩
  have HXe : Seal (((mp A' p : Nat) : Int) = X ∧ ((mp D' q : Nat) : Int) = Y) := ⟨by
    have := hX.out
    unfold onP at this
    simp only [Prod.mk.injEq, Int.toNat_natCast] at this
    rw [hp, hq]; exact this⟩
  rw [← hp] at HP4
  rw [← hq] at HPK
  have kA : w.cell? ⟨g, k, none⟩ = some (.int .i64 (A' : Int)) := by rw [cell_of_row _ _ _ _ _ _ hg]; simpa using hA
  have kD : w.cell? ⟨g, k + 1, none⟩ = some (.int .i64 (D' : Int)) := by rw [cell_of_row _ _ _ _ _ _ hg]; simpa using hD
  have HG := Seal.mk hg
  have HLk : Seal (k < cur.length) := ⟨by rw [List.getElem?_eq_some_iff] at hA; exact hA.1⟩
  have HDk := Seal.mk hD
  clear hg hA hD vA vD vK hA' hD' hp hq hX ir
  go_enter Tryd.func85, Tryd.ntmps85
  refine wp_region_heldU 25 (S := fun w' => w'.cell? ⟨g, k, none⟩ = some (.int .i64 (A' : Int)) ∧ w'.cell? ⟨g, k + 1, none⟩ = some (.int .i64 (D' : Int)) ∧ w'.cell? ⟨rb, 1, none⟩ = some (.int .i64 r) ∧ w'.cell? ⟨kb, 0, none⟩ = some (.int .i64 K)) (by kernel_rfl) ⟨kA, kD, hr, hk⟩ (fun hHeld => ?_)
  refine take_p 0 ?_ rfl (by kernel_rfl) (by kernel_rfl) (by kernel_rfl) (by kernel_rfl) (fun _ _ _ h => h) (Or.inl ⟨by kernel_rfl, ?_⟩) (fun _ => by assumption) ?_
  rotate_left
  · (intro w _; go_simp; try (with_reducible rfl))
  try simp only [Act.put, List.setIfInBounds_toArray, List.set_cons_zero, List.set_cons_succ]
  refine take_p 1 ?_ rfl (by kernel_rfl) (by kernel_rfl) (by kernel_rfl) (by kernel_rfl) (fun _ _ _ h => h) (Or.inl ⟨by kernel_rfl, ?_⟩) (fun _ => by assumption) ?_
  rotate_left
  · (intro w _; go_simp; try (with_reducible rfl))
  try simp only [Act.put, List.setIfInBounds_toArray, List.set_cons_zero, List.set_cons_succ]
  refine take_p 2 ?_ rfl (by kernel_rfl) (by kernel_rfl) (by kernel_rfl) (by kernel_rfl) (fun _ _ _ h => h) (Or.inl ⟨by kernel_rfl, ?_⟩) (fun _ => by assumption) ?_
  rotate_left
  · (intro w _; go_simp; try (with_reducible rfl))
  try simp only [Act.put, List.setIfInBounds_toArray, List.set_cons_zero, List.set_cons_succ]
  refine take_p 3 ?_ rfl (by kernel_rfl) (by kernel_rfl) (by kernel_rfl) (by kernel_rfl) (fun _ _ _ h => h) (Or.inl ⟨by kernel_rfl, ?_⟩) (fun _ => by assumption) ?_
  rotate_left
  · (intro w _; go_simp; try (with_reducible rfl))
  try simp only [Act.put, List.setIfInBounds_toArray, List.set_cons_zero, List.set_cons_succ]
  refine take_p 4 ?_ rfl (by kernel_rfl) (by kernel_rfl) (by kernel_rfl) (by kernel_rfl) (fun _ _ _ h => h) (Or.inl ⟨by kernel_rfl, ?_⟩) (fun _ => by assumption) ?_
  rotate_left
  · (intro w _; go_simp; try (with_reducible rfl))
  try simp only [Act.put, List.setIfInBounds_toArray, List.set_cons_zero, List.set_cons_succ]
  refine take_u 5 ?_ rfl (by kernel_rfl) (by kernel_rfl) (by kernel_rfl) (by kernel_rfl) (by kernel_rfl) (fun _ _ _ h => h) (Or.inl ⟨by kernel_rfl, ?_⟩) (by assumption) ?_
  rotate_left
  · (intro w hSw; (try dsimp only at hSw); go_simp; try (with_reducible rfl))
  try simp only [Act.put, List.setIfInBounds_toArray, List.set_cons_zero, List.set_cons_succ]
  refine take_p 6 ?_ rfl (by kernel_rfl) (by kernel_rfl) (by kernel_rfl) (by kernel_rfl) (fun _ _ _ h => h) (Or.inl ⟨by kernel_rfl, ?_⟩) (fun _ => by assumption) ?_
  rotate_left
  · (intro w _; go_simp; try (with_reducible rfl))
  try simp only [Act.put, List.setIfInBounds_toArray, List.set_cons_zero, List.set_cons_succ]
  refine take_p 7 ?_ rfl (by kernel_rfl) (by kernel_rfl) (by kernel_rfl) (by kernel_rfl) (fun _ _ _ h => h) (Or.inl ⟨by kernel_rfl, ?_⟩) (fun _ => by assumption) ?_
  rotate_left
  · (intro w _; go_simp; try (with_reducible rfl))
  try simp only [Act.put, List.setIfInBounds_toArray, List.set_cons_zero, List.set_cons_succ]
  refine take_u 8 ?_ rfl (by kernel_rfl) (by kernel_rfl) (by kernel_rfl) (by kernel_rfl) (by kernel_rfl) (fun _ _ _ h => h) (Or.inl ⟨by kernel_rfl, ?_⟩) (by assumption) ?_
  rotate_left
  · (intro w hSw; (try dsimp only at hSw); go_simp; try (with_reducible rfl))
  try simp only [Act.put, List.setIfInBounds_toArray, List.set_cons_zero, List.set_cons_succ]
  refine take_p 12 ?_ rfl (by kernel_rfl) (by kernel_rfl) (by kernel_rfl) (by kernel_rfl) (fun _ _ _ h => h) (Or.inl ⟨by kernel_rfl, ?_⟩) (fun _ => by assumption) ?_
  rotate_left
  · (intro w _; go_simp; try (with_reducible rfl))
  try simp only [Act.put, List.setIfInBounds_toArray, List.set_cons_zero, List.set_cons_succ]
  refine take_p 13 ?_ rfl (by kernel_rfl) (by kernel_rfl) (by kernel_rfl) (by kernel_rfl) (fun _ _ _ h => h) (Or.inl ⟨by kernel_rfl, ?_⟩) (fun _ => by assumption) ?_
  rotate_left
  · (intro w _; go_simp; try (with_reducible rfl))
  try simp only [Act.put, List.setIfInBounds_toArray, List.set_cons_zero, List.set_cons_succ]
  refine take_p 14 ?_ rfl (by kernel_rfl) (by kernel_rfl) (by kernel_rfl) (by kernel_rfl) (fun _ _ _ h => h) (Or.inl ⟨by kernel_rfl, ?_⟩) (fun _ => by assumption) ?_
  rotate_left
  · (intro w _; go_simp; try (with_reducible rfl))
  try simp only [Act.put, List.setIfInBounds_toArray, List.set_cons_zero, List.set_cons_succ]
  refine take_u 15 ?_ rfl (by kernel_rfl) (by kernel_rfl) (by kernel_rfl) (by kernel_rfl) (by kernel_rfl) (fun _ _ _ h => h) (Or.inl ⟨by kernel_rfl, ?_⟩) (by assumption) ?_
  rotate_left
  · (intro w hSw; (try dsimp only at hSw); go_simp; try (with_reducible rfl))
  try simp only [Act.put, List.setIfInBounds_toArray, List.set_cons_zero, List.set_cons_succ]
  refine take_u2 16 20 ?_ rfl (by kernel_rfl) (by kernel_rfl) (by kernel_rfl) (by kernel_rfl) (by kernel_rfl) (by kernel_rfl) (by kernel_rfl) (by kernel_rfl) (fun _ _ _ h => h) (Or.inl ⟨by kernel_rfl, ?_⟩) (by assumption) ?_
  rotate_left
  · (intro w hSw; (try dsimp only at hSw); go_simp; try (with_reducible rfl))
  try simp only [Act.put, List.setIfInBounds_toArray, List.set_cons_zero, List.set_cons_succ]
  refine take_p 17 ?_ rfl (by kernel_rfl) (by kernel_rfl) (by kernel_rfl) (by kernel_rfl) (fun _ _ _ h => h) (Or.inl ⟨by kernel_rfl, ?_⟩) (fun _ => by assumption) ?_
  rotate_left
  · (intro w _; go_simp; try (with_reducible rfl))
  try simp only [Act.put, List.setIfInBounds_toArray, List.set_cons_zero, List.set_cons_succ]
  refine take_p 18 ?_ rfl (by kernel_rfl) (by kernel_rfl) (by kernel_rfl) (by kernel_rfl) (fun _ _ _ h => h) (Or.inl ⟨by kernel_rfl, ?_⟩) (fun _ => by assumption) ?_
  rotate_left
  · (intro w _; go_simp; try (with_reducible rfl))
  try simp only [Act.put, List.setIfInBounds_toArray, List.set_cons_zero, List.set_cons_succ]
  refine take_u2 19 20 ?_ rfl (by kernel_rfl) (by kernel_rfl) (by kernel_rfl) (by kernel_rfl) (by kernel_rfl) (by kernel_rfl) (by kernel_rfl) (by kernel_rfl) (fun _ _ _ h => h) (Or.inl ⟨by kernel_rfl, ?_⟩) (by assumption) ?_
  rotate_left
  · (intro w hSw; (try dsimp only at hSw); go_simp; try (with_reducible rfl))
  try simp only [Act.put, List.setIfInBounds_toArray, List.set_cons_zero, List.set_cons_succ]
  refine call_u 9 rfl (by kernel_rfl) 55 #[.int .i64 4, .int .i64 r] (by kernel_rfl) (by go_simp) ?_
  refine (HP4.out w.drew).mono ?_
  rintro e w1 ⟨rfl, hb⟩
  have hb1 : Below w.heap.size w w1 := ⟨hb.os, hb.tape, hb.output, hb.size, hb.block⟩
  have HB1 := Seal.mk hb1
  refine ⟨_, rfl, ⟨cell_later hb1 kA, cell_later hb1 kD, cell_later hb1 hr, cell_later hb1 hk⟩, fun hHeld2 => ?_⟩
  clear hHeld hb hb1 kA kD hr hk
  try simp only [Act.put, List.setIfInBounds_toArray, List.set_cons_zero, List.set_cons_succ]
  refine oper_u 10 (.slice (some ⟨w1.heap.size, 0, none⟩) 2 2) (w1.alloc (.cells #[.int .i64 (A' : Int), .int .i64 (p : Int)] 3)) rfl (by kernel_rfl) (by kernel_rfl) (by go_simp) (fun _ => ⟨cell_allocd hHeld2.1 _, cell_allocd hHeld2.2.1 _, cell_allocd hHeld2.2.2.1 _, cell_allocd hHeld2.2.2.2 _⟩) ?_
  have HT := Seal.mk (etimes_any w1.heap.size A' p (w1.alloc (.cells #[.int .i64 (A' : Int), .int .i64 (p : Int)] 3)) HAD.out.1 HPQ.out.1 (by rw [cell_of_row _ _ _ _ _ _ (heap_alloc_new w1 _)]; rfl) (by rw [cell_of_row _ _ _ _ _ _ (heap_alloc_new w1 _)]; rfl))
  have hHeld3 : _ ∧ _ ∧ _ ∧ _ := ⟨cell_allocd hHeld2.1 (.cells #[.int .i64 (A' : Int), .int .i64 (p : Int)] 3), cell_allocd hHeld2.2.1 (.cells #[.int .i64 (A' : Int), .int .i64 (p : Int)] 3), cell_allocd hHeld2.2.2.1 (.cells #[.int .i64 (A' : Int), .int .i64 (p : Int)] 3), cell_allocd hHeld2.2.2.2 (.cells #[.int .i64 (A' : Int), .int .i64 (p : Int)] 3)⟩
  clear hHeld2
  have HB2 := Seal.mk (HB1.out.alloc HB1.out.size (.cells #[.int .i64 (A' : Int), .int .i64 (p : Int)] 3))
  clear HB1
  obtain ⟨W1, hW1⟩ : ∃ W1, W1 = w1.alloc (.cells #[.int .i64 (A' : Int), .int .i64 (p : Int)] 3) := ⟨_, rfl⟩
  rw [← hW1] at HT HB2 hHeld3 ⊢
  clear hW1
  try simp only [Act.put, List.setIfInBounds_toArray, List.set_cons_zero, List.set_cons_succ]
  refine call_u 11 rfl (by kernel_rfl) 54 #[.slice (some ⟨w1.heap.size, 0, none⟩) 2 2] (by kernel_rfl) (by go_simp) ?_
  refine HT.out.mono ?_
  rintro e w2 ⟨rfl, rfl⟩
  refine ⟨_, rfl, hHeld3, fun hHeld4 => ?_⟩
  clear HT
  rw [HXe.out.1]
  try simp only [Act.put, List.setIfInBounds_toArray, List.set_cons_zero, List.set_cons_succ]
  refine call_u 20 rfl (by kernel_rfl) 55 #[.int .i64 K, .int .i64 r] (by kernel_rfl) (by go_simp) ?_
  refine (HPK.out W1).mono ?_
  rintro e w3 ⟨rfl, hb⟩
  have HB3 := Seal.mk (HB2.out.trans (hb.mono HB2.out.size))
  refine ⟨_, rfl, ⟨cell_later hb hHeld3.1, cell_later hb hHeld3.2.1, cell_later hb hHeld3.2.2.1, cell_later hb hHeld3.2.2.2⟩, fun hHeld5 => ?_⟩
  clear hHeld4 hHeld3 hb HB2
  try simp only [Act.put, List.setIfInBounds_toArray, List.set_cons_zero, List.set_cons_succ]
  refine oper_u 21 (.slice (some ⟨w3.heap.size, 0, none⟩) 2 2) (w3.alloc (.cells #[.int .i64 (D' : Int), .int .i64 (q : Int)] 3)) rfl (by kernel_rfl) (by kernel_rfl) (by go_simp) (fun _ => ⟨cell_allocd hHeld5.1 _, cell_allocd hHeld5.2.1 _, cell_allocd hHeld5.2.2.1 _, cell_allocd hHeld5.2.2.2 _⟩) ?_
  have HT := Seal.mk (etimes_any w3.heap.size D' q (w3.alloc (.cells #[.int .i64 (D' : Int), .int .i64 (q : Int)] 3)) HAD.out.2 HPQ.out.2 (by rw [cell_of_row _ _ _ _ _ _ (heap_alloc_new w3 _)]; rfl) (by rw [cell_of_row _ _ _ _ _ _ (heap_alloc_new w3 _)]; rfl))
  have hHeld6 : _ ∧ _ ∧ _ ∧ _ := ⟨cell_allocd hHeld5.1 (.cells #[.int .i64 (D' : Int), .int .i64 (q : Int)] 3), cell_allocd hHeld5.2.1 (.cells #[.int .i64 (D' : Int), .int .i64 (q : Int)] 3), cell_allocd hHeld5.2.2.1 (.cells #[.int .i64 (D' : Int), .int .i64 (q : Int)] 3), cell_allocd hHeld5.2.2.2 (.cells #[.int .i64 (D' : Int), .int .i64 (q : Int)] 3)⟩
  clear hHeld5
  have HB4 := Seal.mk (HB3.out.alloc HB3.out.size (.cells #[.int .i64 (D' : Int), .int .i64 (q : Int)] 3))
  clear HB3
  obtain ⟨W2, hW2⟩ : ∃ W2, W2 = w3.alloc (.cells #[.int .i64 (D' : Int), .int .i64 (q : Int)] 3) := ⟨_, rfl⟩
  rw [← hW2] at HT HB4 hHeld6 ⊢
  clear hW2
  try simp only [Act.put, List.setIfInBounds_toArray, List.set_cons_zero, List.set_cons_succ]
  refine call_u 22 rfl (by kernel_rfl) 54 #[.slice (some ⟨w3.heap.size, 0, none⟩) 2 2] (by kernel_rfl) (by go_simp) ?_
  refine HT.out.mono ?_
  rintro e w4 ⟨rfl, rfl⟩
  refine ⟨_, rfl, hHeld6, fun hHeld7 => ?_⟩
  clear HT hHeld7
  rw [HXe.out.2]
  try simp only [Act.put, List.setIfInBounds_toArray, List.set_cons_zero, List.set_cons_succ]
  refine take_p 23 ?_ rfl (by kernel_rfl) (by kernel_rfl) (by kernel_rfl) (by kernel_rfl) (fun _ _ _ h => h) (Or.inl ⟨by kernel_rfl, ?_⟩) (fun _ => by assumption) ?_
  rotate_left
  · (intro w _; go_simp; try (with_reducible rfl))
  try simp only [Act.put, List.setIfInBounds_toArray, List.set_cons_zero, List.set_cons_succ]
  refine take_p 24 ?_ rfl (by kernel_rfl) (by kernel_rfl) (by kernel_rfl) (by kernel_rfl) (fun _ _ _ h => h) (Or.inl ⟨by kernel_rfl, ?_⟩) (fun _ => by assumption) ?_
  rotate_left
  · (intro w _; go_simp; try (with_reducible rfl))
  try simp only [Act.put, List.setIfInBounds_toArray, List.set_cons_zero, List.set_cons_succ]
  have hr2 := blk HB4.out (Array.getElem?_eq_some_iff.1 HG.out).1 HG.out
  have f1 : W2.frozen? ⟨g, k, none⟩ = false := frozen_of_row _ _ _ _ _ hr2
  have x1 := hHeld6.1
  refine skip_at_u 25 (W2.setCell ⟨g, k, none⟩ (.int .i64 X)) rfl (by kernel_rfl) (by kernel_rfl) (by kernel_rfl) (by go_simp) ?_
  have HR := Seal.mk (heap_setCell_row (i := k) (.int .i64 X) hr2)
  clear hr2 f1 x1
  refine anyU_of_H (S' := fun _ => True) _ _ _ _ (by kernel_rfl) ?_
  have hT : (fun _ : World => True) W2 := trivial
  have hHeld := hT
  refine take_h 26 ?_ rfl (by kernel_rfl) (by kernel_rfl) (by kernel_rfl) (fun _ _ _ h => h) (Or.inl ⟨by kernel_rfl, ?_⟩) (by assumption) ?_
  rotate_left
  · (intro w hSw; (try dsimp only at hSw); go_simp; try (with_reducible rfl))
  try simp only [Act.put, List.setIfInBounds_toArray, List.set_cons_zero, List.set_cons_succ]
  refine take_h 27 ?_ rfl (by kernel_rfl) (by kernel_rfl) (by kernel_rfl) (fun _ _ _ h => h) (Or.inl ⟨by kernel_rfl, ?_⟩) (by assumption) ?_
  rotate_left
  · (intro w hSw; (try dsimp only at hSw); go_simp; try (with_reducible rfl))
  try simp only [Act.put, List.setIfInBounds_toArray, List.set_cons_zero, List.set_cons_succ]
  have d2 : (cur.set k (.int .i64 X))[k + 1]? = some (.int .i64 (D' : Int)) := by rw [List.getElem?_set_ne (by omega)]; exact HDk.out
  have x2 : (W2.setCell ⟨g, k, none⟩ (.int .i64 X)).cell? ⟨g, k + 1, none⟩ = some (.int .i64 (D' : Int)) := by rw [cell_of_row _ _ _ _ _ _ HR.out]; simpa using d2
  have f2 : (W2.setCell ⟨g, k, none⟩ (.int .i64 X)).frozen? ⟨g, k + 1, none⟩ = false := frozen_of_row _ _ _ _ _ HR.out
  have HR2 := Seal.mk (heap_setCell_row (i := k + 1) (.int .i64 Y) HR.out)
  have HGr : Seal (w.grownBy ((W2.setCell ⟨g, k, none⟩ (.int .i64 X)).setCell ⟨g, k + 1, none⟩ (.int .i64 Y)) (some g)) := ⟨grown_setCell (grown_setCell (grown_of_below HB4.out _) _ _) _ _⟩
  clear hHeld6 d2 hT
  refine skip_h 28 ((W2.setCell ⟨g, k, none⟩ (.int .i64 X)).setCell ⟨g, k + 1, none⟩ (.int .i64 Y)) rfl (by kernel_rfl) (by kernel_rfl) (by go_simp) trivial (fun _ => ?_)
  refine wpAnyH_done (by kernel_rfl) ?_ _
  clear x2 f2 hHeld
  go_wp2
  exact ⟨rfl, .tuple #[], by simp [results, Tryd.results85, go_sem], rfl, HGr.out, HR2.out⟩
set_option maxHeartbeats 4000000 in
theorem more1_at2 (A D K r X Y : Int) (g k rb kb : Nat) (cur : List Value) (w : World) (hg : w.heap[g]? = some (.cells cur.toArray 32 (0, 0))) (hA : cur[k]? = some (.int .i64 A)) (hD : cur[k + 1]? = some (.int .i64 D)) (hr : w.cell? ⟨rb, 2, none⟩ = some (.int .i64 r)) (hk : w.cell? ⟨kb, 0, none⟩ = some (.int .i64 K)) (vA : vd A = true) (vD : vd D = true) (vK : vd K = true) (ir : I64 r)
    (hX : Seal ((onP K r (A, D)) = (X, Y))) :
    Calls Tryd.prog 85 #[.int .i64 2, .pointer (some ⟨g, k, none⟩), .pointer (some ⟨rb, 0, none⟩), .pointer (some ⟨kb, 0, none⟩)] w fun e w' => e = .returned (.tuple #[]) ∧ w.grownBy w' (some g) ∧ w'.heap[g]? = some (.cells ((cur.set k (.int .i64 X)).set (k + 1) (.int .i64 Y)).toArray 32 (0, 0)) := by
  have HP4 : Seal (∀ W, Calls Tryd.prog 55 #[.int .i64 4, .int .i64 r] W fun e w' => e = .returned (.int .i64 (pw 4 r : Nat)) ∧ Below W.heap.size W w') := ⟨fun W => epower_any 4 r W (by decide +kernel) ir.1 ir.2⟩
  have HPK : Seal (∀ W, Calls Tryd.prog 55 #[.int .i64 K, .int .i64 r] W fun e w' => e = .returned (.int .i64 (pw K.toNat r : Nat)) ∧ Below W.heap.size W w') := ⟨fun W => epower_any K r W vK ir.1 ir.2⟩
  obtain ⟨A', rfl, hA'⟩ := vd_of_vd vA
  obtain ⟨D', rfl, hD'⟩ := vd_of_vd vD
  have HAD : Seal (A' < 2147483579 ∧ D' < 2147483579) := ⟨hA'.2.1, hD'.2.1⟩
  obtain ⟨p, hp⟩ : ∃ p : Nat, p = pw 4 r := ⟨_, rfl⟩
  obtain ⟨q, hq⟩ : ∃ q : Nat, q = pw K.toNat r := ⟨_, rfl⟩
  have HPQ : Seal (p < 2147483579 ∧ q < 2147483579) := ⟨by rw [hp, hq]; exact ⟨pw_lt _ _, pw_lt _ _⟩⟩
  have HXe : Seal (((mp A' p : Nat) : Int) = X ∧ ((mp D' q : Nat) : Int) = Y) := ⟨by
    have := hX.out
    unfold onP at this
    simp only [Prod.mk.injEq, Int.toNat_natCast] at this
    rw [hp, hq]; exact this⟩
  rw [← hp] at HP4
  rw [← hq] at HPK
  have kA : w.cell? ⟨g, k, none⟩ = some (.int .i64 (A' : Int)) := by rw [cell_of_row _ _ _ _ _ _ hg]; simpa using hA
  have kD : w.cell? ⟨g, k + 1, none⟩ = some (.int .i64 (D' : Int)) := by rw [cell_of_row _ _ _ _ _ _ hg]; simpa using hD
  have HG := Seal.mk hg
  have HLk : Seal (k < cur.length) := ⟨by rw [List.getElem?_eq_some_iff] at hA; exact hA.1⟩
  have HDk := Seal.mk hD
  clear hg hA hD vA vD vK hA' hD' hp hq hX ir
  go_enter Tryd.func85, Tryd.ntmps85
  refine wp_region_heldU 25 (S := fun w' => w'.cell? ⟨g, k, none⟩ = some (.int .i64 (A' : Int)) ∧ w'.cell? ⟨g, k + 1, none⟩ = some (.int .i64 (D' : Int)) ∧ w'.cell? ⟨rb, 2, none⟩ = some (.int .i64 r) ∧ w'.cell? ⟨kb, 0, none⟩ = some (.int .i64 K)) (by kernel_rfl) ⟨kA, kD, hr, hk⟩ (fun hHeld => ?_)
  refine take_p 0 ?_ rfl (by kernel_rfl) (by kernel_rfl) (by kernel_rfl) (by kernel_rfl) (fun _ _ _ h => h) (Or.inl ⟨by kernel_rfl, ?_⟩) (fun _ => by assumption) ?_
  rotate_left
  · (intro w _; go_simp; try (with_reducible rfl))
  try simp only [Act.put, List.setIfInBounds_toArray, List.set_cons_zero, List.set_cons_succ]
  refine take_p 1 ?_ rfl (by kernel_rfl) (by kernel_rfl) (by kernel_rfl) (by kernel_rfl) (fun _ _ _ h => h) (Or.inl ⟨by kernel_rfl, ?_⟩) (fun _ => by assumption) ?_
  rotate_left
  · (intro w _; go_simp; try (with_reducible rfl))
  try simp only [Act.put, List.setIfInBounds_toArray, List.set_cons_zero, List.set_cons_succ]
  refine take_p 2 ?_ rfl (by kernel_rfl) (by kernel_rfl) (by kernel_rfl) (by kernel_rfl) (fun _ _ _ h => h) (Or.inl ⟨by kernel_rfl, ?_⟩) (fun _ => by assumption) ?_
  rotate_left
  · (intro w _; go_simp; try (with_reducible rfl))
  try simp only [Act.put, List.setIfInBounds_toArray, List.set_cons_zero, List.set_cons_succ]
  refine take_p 3 ?_ rfl (by kernel_rfl) (by kernel_rfl) (by kernel_rfl) (by kernel_rfl) (fun _ _ _ h => h) (Or.inl ⟨by kernel_rfl, ?_⟩) (fun _ => by assumption) ?_
  rotate_left
  · (intro w _; go_simp; try (with_reducible rfl))
  try simp only [Act.put, List.setIfInBounds_toArray, List.set_cons_zero, List.set_cons_succ]
  refine take_p 4 ?_ rfl (by kernel_rfl) (by kernel_rfl) (by kernel_rfl) (by kernel_rfl) (fun _ _ _ h => h) (Or.inl ⟨by kernel_rfl, ?_⟩) (fun _ => by assumption) ?_
  rotate_left
  · (intro w _; go_simp; try (with_reducible rfl))
  try simp only [Act.put, List.setIfInBounds_toArray, List.set_cons_zero, List.set_cons_succ]
  refine take_u 5 ?_ rfl (by kernel_rfl) (by kernel_rfl) (by kernel_rfl) (by kernel_rfl) (by kernel_rfl) (fun _ _ _ h => h) (Or.inl ⟨by kernel_rfl, ?_⟩) (by assumption) ?_
  rotate_left
  · (intro w hSw; (try dsimp only at hSw); go_simp; try (with_reducible rfl))
  try simp only [Act.put, List.setIfInBounds_toArray, List.set_cons_zero, List.set_cons_succ]
  refine take_p 6 ?_ rfl (by kernel_rfl) (by kernel_rfl) (by kernel_rfl) (by kernel_rfl) (fun _ _ _ h => h) (Or.inl ⟨by kernel_rfl, ?_⟩) (fun _ => by assumption) ?_
  rotate_left
  · (intro w _; go_simp; try (with_reducible rfl))
  try simp only [Act.put, List.setIfInBounds_toArray, List.set_cons_zero, List.set_cons_succ]
  refine take_p 7 ?_ rfl (by kernel_rfl) (by kernel_rfl) (by kernel_rfl) (by kernel_rfl) (fun _ _ _ h => h) (Or.inl ⟨by kernel_rfl, ?_⟩) (fun _ => by assumption) ?_
  rotate_left
  · (intro w _; go_simp; try (with_reducible rfl))
  try simp only [Act.put, List.setIfInBounds_toArray, List.set_cons_zero, List.set_cons_succ]
  refine take_u 8 ?_ rfl (by kernel_rfl) (by kernel_rfl) (by kernel_rfl) (by kernel_rfl) (by kernel_rfl) (fun _ _ _ h => h) (Or.inl ⟨by kernel_rfl, ?_⟩) (by assumption) ?_
  rotate_left
  · (intro w hSw; (try dsimp only at hSw); go_simp; try (with_reducible rfl))
  try simp only [Act.put, List.setIfInBounds_toArray, List.set_cons_zero, List.set_cons_succ]
  refine take_p 12 ?_ rfl (by kernel_rfl) (by kernel_rfl) (by kernel_rfl) (by kernel_rfl) (fun _ _ _ h => h) (Or.inl ⟨by kernel_rfl, ?_⟩) (fun _ => by assumption) ?_
  rotate_left
  · (intro w _; go_simp; try (with_reducible rfl))
  try simp only [Act.put, List.setIfInBounds_toArray, List.set_cons_zero, List.set_cons_succ]
  refine take_p 13 ?_ rfl (by kernel_rfl) (by kernel_rfl) (by kernel_rfl) (by kernel_rfl) (fun _ _ _ h => h) (Or.inl ⟨by kernel_rfl, ?_⟩) (fun _ => by assumption) ?_
  rotate_left
  · (intro w _; go_simp; try (with_reducible rfl))
  try simp only [Act.put, List.setIfInBounds_toArray, List.set_cons_zero, List.set_cons_succ]
  refine take_p 14 ?_ rfl (by kernel_rfl) (by kernel_rfl) (by kernel_rfl) (by kernel_rfl) (fun _ _ _ h => h) (Or.inl ⟨by kernel_rfl, ?_⟩) (fun _ => by assumption) ?_
  rotate_left
  · (intro w _; go_simp; try (with_reducible rfl))
  try simp only [Act.put, List.setIfInBounds_toArray, List.set_cons_zero, List.set_cons_succ]
  refine take_u 15 ?_ rfl (by kernel_rfl) (by kernel_rfl) (by kernel_rfl) (by kernel_rfl) (by kernel_rfl) (fun _ _ _ h => h) (Or.inl ⟨by kernel_rfl, ?_⟩) (by assumption) ?_
  rotate_left
  · (intro w hSw; (try dsimp only at hSw); go_simp; try (with_reducible rfl))
  try simp only [Act.put, List.setIfInBounds_toArray, List.set_cons_zero, List.set_cons_succ]
  refine take_u2 16 20 ?_ rfl (by kernel_rfl) (by kernel_rfl) (by kernel_rfl) (by kernel_rfl) (by kernel_rfl) (by kernel_rfl) (by kernel_rfl) (by kernel_rfl) (fun _ _ _ h => h) (Or.inl ⟨by kernel_rfl, ?_⟩) (by assumption) ?_
  rotate_left
  · (intro w hSw; (try dsimp only at hSw); go_simp; try (with_reducible rfl))
  try simp only [Act.put, List.setIfInBounds_toArray, List.set_cons_zero, List.set_cons_succ]
  refine take_p 17 ?_ rfl (by kernel_rfl) (by kernel_rfl) (by kernel_rfl) (by kernel_rfl) (fun _ _ _ h => h) (Or.inl ⟨by kernel_rfl, ?_⟩) (fun _ => by assumption) ?_
  rotate_left
  · (intro w _; go_simp; try (with_reducible rfl))
  try simp only [Act.put, List.setIfInBounds_toArray, List.set_cons_zero, List.set_cons_succ]
  refine take_p 18 ?_ rfl (by kernel_rfl) (by kernel_rfl) (by kernel_rfl) (by kernel_rfl) (fun _ _ _ h => h) (Or.inl ⟨by kernel_rfl, ?_⟩) (fun _ => by assumption) ?_
  rotate_left
  · (intro w _; go_simp; try (with_reducible rfl))
  try simp only [Act.put, List.setIfInBounds_toArray, List.set_cons_zero, List.set_cons_succ]
  refine take_u2 19 20 ?_ rfl (by kernel_rfl) (by kernel_rfl) (by kernel_rfl) (by kernel_rfl) (by kernel_rfl) (by kernel_rfl) (by kernel_rfl) (by kernel_rfl) (fun _ _ _ h => h) (Or.inl ⟨by kernel_rfl, ?_⟩) (by assumption) ?_
  rotate_left
  · (intro w hSw; (try dsimp only at hSw); go_simp; try (with_reducible rfl))
  try simp only [Act.put, List.setIfInBounds_toArray, List.set_cons_zero, List.set_cons_succ]
  refine call_u 9 rfl (by kernel_rfl) 55 #[.int .i64 4, .int .i64 r] (by kernel_rfl) (by go_simp) ?_
  refine (HP4.out w.drew).mono ?_
  rintro e w1 ⟨rfl, hb⟩
  have hb1 : Below w.heap.size w w1 := ⟨hb.os, hb.tape, hb.output, hb.size, hb.block⟩
  have HB1 := Seal.mk hb1
  refine ⟨_, rfl, ⟨cell_later hb1 kA, cell_later hb1 kD, cell_later hb1 hr, cell_later hb1 hk⟩, fun hHeld2 => ?_⟩
  clear hHeld hb hb1 kA kD hr hk
  try simp only [Act.put, List.setIfInBounds_toArray, List.set_cons_zero, List.set_cons_succ]
  refine oper_u 10 (.slice (some ⟨w1.heap.size, 0, none⟩) 2 2) (w1.alloc (.cells #[.int .i64 (A' : Int), .int .i64 (p : Int)] 3)) rfl (by kernel_rfl) (by kernel_rfl) (by go_simp) (fun _ => ⟨cell_allocd hHeld2.1 _, cell_allocd hHeld2.2.1 _, cell_allocd hHeld2.2.2.1 _, cell_allocd hHeld2.2.2.2 _⟩) ?_
  have HT := Seal.mk (etimes_any w1.heap.size A' p (w1.alloc (.cells #[.int .i64 (A' : Int), .int .i64 (p : Int)] 3)) HAD.out.1 HPQ.out.1 (by rw [cell_of_row _ _ _ _ _ _ (heap_alloc_new w1 _)]; rfl) (by rw [cell_of_row _ _ _ _ _ _ (heap_alloc_new w1 _)]; rfl))
  have hHeld3 : _ ∧ _ ∧ _ ∧ _ := ⟨cell_allocd hHeld2.1 (.cells #[.int .i64 (A' : Int), .int .i64 (p : Int)] 3), cell_allocd hHeld2.2.1 (.cells #[.int .i64 (A' : Int), .int .i64 (p : Int)] 3), cell_allocd hHeld2.2.2.1 (.cells #[.int .i64 (A' : Int), .int .i64 (p : Int)] 3), cell_allocd hHeld2.2.2.2 (.cells #[.int .i64 (A' : Int), .int .i64 (p : Int)] 3)⟩
  clear hHeld2
  have HB2 := Seal.mk (HB1.out.alloc HB1.out.size (.cells #[.int .i64 (A' : Int), .int .i64 (p : Int)] 3))
  clear HB1
  obtain ⟨W1, hW1⟩ : ∃ W1, W1 = w1.alloc (.cells #[.int .i64 (A' : Int), .int .i64 (p : Int)] 3) := ⟨_, rfl⟩
  rw [← hW1] at HT HB2 hHeld3 ⊢
  clear hW1
  try simp only [Act.put, List.setIfInBounds_toArray, List.set_cons_zero, List.set_cons_succ]
  refine call_u 11 rfl (by kernel_rfl) 54 #[.slice (some ⟨w1.heap.size, 0, none⟩) 2 2] (by kernel_rfl) (by go_simp) ?_
  refine HT.out.mono ?_
  rintro e w2 ⟨rfl, rfl⟩
  refine ⟨_, rfl, hHeld3, fun hHeld4 => ?_⟩
  clear HT
  rw [HXe.out.1]
  try simp only [Act.put, List.setIfInBounds_toArray, List.set_cons_zero, List.set_cons_succ]
  refine call_u 20 rfl (by kernel_rfl) 55 #[.int .i64 K, .int .i64 r] (by kernel_rfl) (by go_simp) ?_
  refine (HPK.out W1).mono ?_
  rintro e w3 ⟨rfl, hb⟩
  have HB3 := Seal.mk (HB2.out.trans (hb.mono HB2.out.size))
  refine ⟨_, rfl, ⟨cell_later hb hHeld3.1, cell_later hb hHeld3.2.1, cell_later hb hHeld3.2.2.1, cell_later hb hHeld3.2.2.2⟩, fun hHeld5 => ?_⟩
  clear hHeld4 hHeld3 hb HB2
  try simp only [Act.put, List.setIfInBounds_toArray, List.set_cons_zero, List.set_cons_succ]
  refine oper_u 21 (.slice (some ⟨w3.heap.size, 0, none⟩) 2 2) (w3.alloc (.cells #[.int .i64 (D' : Int), .int .i64 (q : Int)] 3)) rfl (by kernel_rfl) (by kernel_rfl) (by go_simp) (fun _ => ⟨cell_allocd hHeld5.1 _, cell_allocd hHeld5.2.1 _, cell_allocd hHeld5.2.2.1 _, cell_allocd hHeld5.2.2.2 _⟩) ?_
  have HT := Seal.mk (etimes_any w3.heap.size D' q (w3.alloc (.cells #[.int .i64 (D' : Int), .int .i64 (q : Int)] 3)) HAD.out.2 HPQ.out.2 (by rw [cell_of_row _ _ _ _ _ _ (heap_alloc_new w3 _)]; rfl) (by rw [cell_of_row _ _ _ _ _ _ (heap_alloc_new w3 _)]; rfl))
  have hHeld6 : _ ∧ _ ∧ _ ∧ _ := ⟨cell_allocd hHeld5.1 (.cells #[.int .i64 (D' : Int), .int .i64 (q : Int)] 3), cell_allocd hHeld5.2.1 (.cells #[.int .i64 (D' : Int), .int .i64 (q : Int)] 3), cell_allocd hHeld5.2.2.1 (.cells #[.int .i64 (D' : Int), .int .i64 (q : Int)] 3), cell_allocd hHeld5.2.2.2 (.cells #[.int .i64 (D' : Int), .int .i64 (q : Int)] 3)⟩
  clear hHeld5
  have HB4 := Seal.mk (HB3.out.alloc HB3.out.size (.cells #[.int .i64 (D' : Int), .int .i64 (q : Int)] 3))
  clear HB3
  obtain ⟨W2, hW2⟩ : ∃ W2, W2 = w3.alloc (.cells #[.int .i64 (D' : Int), .int .i64 (q : Int)] 3) := ⟨_, rfl⟩
  rw [← hW2] at HT HB4 hHeld6 ⊢
  clear hW2
  try simp only [Act.put, List.setIfInBounds_toArray, List.set_cons_zero, List.set_cons_succ]
  refine call_u 22 rfl (by kernel_rfl) 54 #[.slice (some ⟨w3.heap.size, 0, none⟩) 2 2] (by kernel_rfl) (by go_simp) ?_
  refine HT.out.mono ?_
  rintro e w4 ⟨rfl, rfl⟩
  refine ⟨_, rfl, hHeld6, fun hHeld7 => ?_⟩
  clear HT hHeld7
  rw [HXe.out.2]
  try simp only [Act.put, List.setIfInBounds_toArray, List.set_cons_zero, List.set_cons_succ]
  refine take_p 23 ?_ rfl (by kernel_rfl) (by kernel_rfl) (by kernel_rfl) (by kernel_rfl) (fun _ _ _ h => h) (Or.inl ⟨by kernel_rfl, ?_⟩) (fun _ => by assumption) ?_
  rotate_left
  · (intro w _; go_simp; try (with_reducible rfl))
  try simp only [Act.put, List.setIfInBounds_toArray, List.set_cons_zero, List.set_cons_succ]
  refine take_p 24 ?_ rfl (by kernel_rfl) (by kernel_rfl) (by kernel_rfl) (by kernel_rfl) (fun _ _ _ h => h) (Or.inl ⟨by kernel_rfl, ?_⟩) (fun _ => by assumption) ?_
  rotate_left
  · (intro w _; go_simp; try (with_reducible rfl))
  try simp only [Act.put, List.setIfInBounds_toArray, List.set_cons_zero, List.set_cons_succ]
  have hr2 := blk HB4.out (Array.getElem?_eq_some_iff.1 HG.out).1 HG.out
  have f1 : W2.frozen? ⟨g, k, none⟩ = false := frozen_of_row _ _ _ _ _ hr2
  have x1 := hHeld6.1
  refine skip_at_u 25 (W2.setCell ⟨g, k, none⟩ (.int .i64 X)) rfl (by kernel_rfl) (by kernel_rfl) (by kernel_rfl) (by go_simp) ?_
  have HR := Seal.mk (heap_setCell_row (i := k) (.int .i64 X) hr2)
  clear hr2 f1 x1
  refine anyU_of_H (S' := fun _ => True) _ _ _ _ (by kernel_rfl) ?_
  have hT : (fun _ : World => True) W2 := trivial
  have hHeld := hT
  refine take_h 26 ?_ rfl (by kernel_rfl) (by kernel_rfl) (by kernel_rfl) (fun _ _ _ h => h) (Or.inl ⟨by kernel_rfl, ?_⟩) (by assumption) ?_
  rotate_left
  · (intro w hSw; (try dsimp only at hSw); go_simp; try (with_reducible rfl))
  try simp only [Act.put, List.setIfInBounds_toArray, List.set_cons_zero, List.set_cons_succ]
  refine take_h 27 ?_ rfl (by kernel_rfl) (by kernel_rfl) (by kernel_rfl) (fun _ _ _ h => h) (Or.inl ⟨by kernel_rfl, ?_⟩) (by assumption) ?_
  rotate_left
  · (intro w hSw; (try dsimp only at hSw); go_simp; try (with_reducible rfl))
  try simp only [Act.put, List.setIfInBounds_toArray, List.set_cons_zero, List.set_cons_succ]
  have d2 : (cur.set k (.int .i64 X))[k + 1]? = some (.int .i64 (D' : Int)) := by rw [List.getElem?_set_ne (by omega)]; exact HDk.out
  have x2 : (W2.setCell ⟨g, k, none⟩ (.int .i64 X)).cell? ⟨g, k + 1, none⟩ = some (.int .i64 (D' : Int)) := by rw [cell_of_row _ _ _ _ _ _ HR.out]; simpa using d2
  have f2 : (W2.setCell ⟨g, k, none⟩ (.int .i64 X)).frozen? ⟨g, k + 1, none⟩ = false := frozen_of_row _ _ _ _ _ HR.out
  have HR2 := Seal.mk (heap_setCell_row (i := k + 1) (.int .i64 Y) HR.out)
  have HGr : Seal (w.grownBy ((W2.setCell ⟨g, k, none⟩ (.int .i64 X)).setCell ⟨g, k + 1, none⟩ (.int .i64 Y)) (some g)) := ⟨grown_setCell (grown_setCell (grown_of_below HB4.out _) _ _) _ _⟩
  clear hHeld6 d2 hT
  refine skip_h 28 ((W2.setCell ⟨g, k, none⟩ (.int .i64 X)).setCell ⟨g, k + 1, none⟩ (.int .i64 Y)) rfl (by kernel_rfl) (by kernel_rfl) (by go_simp) trivial (fun _ => ?_)
  refine wpAnyH_done (by kernel_rfl) ?_ _
  clear x2 f2 hHeld
  go_wp2
  exact ⟨rfl, .tuple #[], by simp [results, Tryd.results85, go_sem], rfl, HGr.out, HR2.out⟩
end

section
attribute [local go_sem] Oper.semAt_some

/-- a letter, as far as it is sealed -/
def chM (K : Int) (rs : Fin 3 → Int) (L : Fin 3 → Int × Int) (pre : List (Fin 3)) : Fin 3 → Int × Int := pre.foldl (fun M i => setL i (onP K (rs i) (M i)) M) L
theorem chM_snoc (K : Int) (rs : Fin 3 → Int) (L : Fin 3 → Int × Int) (pre : List (Fin 3)) (i : Fin 3) : chM K rs L (pre ++ [i]) = setL i (onP K (rs i) (chM K rs L pre i)) (chM K rs L pre) := by simp [chM]
theorem chM_ok {K : Int} {rs : Fin 3 → Int} (hK : vd K = true) : ∀ (pre : List (Fin 3)) (L : Fin 3 → Int × Int), okL L → okL (chM K rs L pre)
  | [], _, h => h
  | i :: pre, L, h => chM_ok hK pre (setL i (onP K (rs i) (L i)) L) (setL_ok h (onP_ok hK (h i)))
theorem chM_done (K : Int) (rs : Fin 3 → Int) (L : Fin 3 → Int × Int) : chM K rs L [0, 1, 2] = fun j => onP K (rs j) (L j) := by
  funext j
  rcases fin3e j with rfl | rfl | rfl <;> rfl
theorem rowL_set2 (M : Fin 3 → Int × Int) (i : Fin 3) (p : Int × Int) : ((rowL M).set (2 * i.val) (.int .i64 p.1)).set (2 * i.val + 1) (.int .i64 p.2) = rowL (setL i p M) := by
  rcases fin3e i with rfl | rfl | rfl <;> rfl
set_option maxHeartbeats 4000000 in
theorem echanged_more (L : Fin 3 → Int × Int) (K : Int) (rs : Fin 3 → Int) (gf rb kb : Nat) (w : World) (hL : okL L) (hK : vd K = true) (hrs : ∀ i, I64 (rs i)) (hgf : w.heap[gf]? = some (.cells #[.func (.func 85) #[] #[.pointer (some ⟨rb, 0, none⟩), .pointer (some ⟨kb, 0, none⟩)]] 91 (0, 0))) (hcb : w.cell? ⟨kb, 0, none⟩ = some (.int .i64 K)) (hr0 : w.cell? ⟨rb, 0, none⟩ = some (.int .i64 (rs 0))) (hr1 : w.cell? ⟨rb, 1, none⟩ = some (.int .i64 (rs 1))) (hr2 : w.cell? ⟨rb, 2, none⟩ = some (.int .i64 (rs 2))) :
    Calls Tryd.prog 47 #[.agg (rowL L).toArray, .slice (some ⟨gf, 0, none⟩) 1 1] w fun e w' => e = .returned (.agg (rowL (fun j => onP K (rs j) (L j))).toArray) ∧ Below w.heap.size w w' := by
  have HL := Seal.mk hL
  have HN := Seal.mk (And.intro hK hrs)
  have HF := Seal.mk (And.intro hgf (And.intro hcb (And.intro hr0 (And.intro hr1 hr2))))
  obtain ⟨C, hC⟩ : ∃ C, C = rowL L := ⟨_, rfl⟩
  obtain ⟨X, hX⟩ : ∃ X : World, X = ((w.alloc (.cells C.toArray 32)).alloc (.cells #[.slice (some ⟨gf, 0, none⟩) 1 1] 125)).alloc (.cells #[.int .i64 0, .int .i64 0, .int .i64 0, .int .i64 0, .int .i64 0, .int .i64 0] 32) := ⟨_, rfl⟩
  have hXb : Seal (Below w.heap.size w X) := ⟨by rw [hX]; exact (((Below.refl _ w).alloc (Nat.le_refl _) _).alloc (by simp) _).alloc (by simp; omega) _⟩
  have hXs : Seal (X.heap.size = w.heap.size + 3) := ⟨by rw [hX]; simp⟩
  have hXn : Seal (X.heap[w.heap.size]? = some (.cells (rowL L).toArray 32 (0, 0))) := ⟨by rw [hX, hC, Below.heap_alloc _ _ _ (by simp; omega), Below.heap_alloc _ _ _ (by simp)]; exact heap_alloc_new w _⟩
  have hX1 : Seal (X.heap[w.heap.size + 1]? = some (.cells #[.slice (some ⟨gf, 0, none⟩) 1 1] 125 (0, 0))) := ⟨by rw [hX, Below.heap_alloc _ _ _ (by simp)]; have := heap_alloc_new (w.alloc (.cells C.toArray 32)) (.cells #[.slice (some ⟨gf, 0, none⟩) 1 1] 125); rwa [size_alloc] at this⟩
  have hXz : Seal (X.heap[w.heap.size + 1 + 1]? = some (.cells #[.int .i64 0, .int .i64 0, .int .i64 0, .int .i64 0, .int .i64 0, .int .i64 0] 32 (0, 0))) := ⟨by rw [hX]; have := heap_alloc_new ((w.alloc (.cells C.toArray 32)).alloc (.cells #[.slice (some ⟨gf, 0, none⟩) 1 1] 125)) (.cells #[.int .i64 0, .int .i64 0, .int .i64 0, .int .i64 0, .int .i64 0, .int .i64 0] 32); rwa [size_alloc, size_alloc] at this⟩
  rw [← hC]
  clear hL hC hK hrs hgf hcb hr0 hr1 hr2
  refine (callsIn_wide (n := 3)).1 ?_
  refine callsIn_of_wp_marks Tryd.func47 rfl trivial ?_ rfl
  simp only [Tryd.ntmps47, List.size_toArray, List.length_cons, List.length_nil, Nat.reduceAdd, Nat.reduceSub, Array.replicate_succ, Array.replicate_zero, List.push_toArray, List.append_toArray, List.nil_append, List.cons_append]
  refine wpIn_wide.2 ?_
  go_upto_region 1 with (fail)
  rw [← hX]
  clear hX
  go_wp2_with fail
  refine (eciphers_any w.heap.size X).mono ?_
  rintro e Y ⟨rfl, hY⟩
  have hYr : Y.heap[X.heap.size]? = some (.cells #[.pointer (some ⟨w.heap.size, 0, none⟩)] 99 (0, 0)) := by rw [← hY]; exact heap_alloc_new X _
  have hYs : Y.heap.size = X.heap.size + 1 := by rw [← hY, size_alloc]
  have hYb : Below X.heap.size X Y := by rw [← hY]; exact below_alloc _ _
  have Y0 : Y.heap[w.heap.size]? = some (.cells (rowL L).toArray 32 (0, 0)) := blk hYb (by have := hXs.out; omega) hXn.out
  have Y1 := blk hYb (by have := hXs.out; omega) hX1.out
  have Y2 := blk hYb (by have := hXs.out; omega) hXz.out
  have HYb : Below w.heap.size w Y := hXb.out.trans (hYb.mono hXb.out.size)
  have HS := Seal.mk (And.intro hXs.out hYs)
  clear hY
  go_wp2_with fail
  refine (wpIn_wide (n := 3)).1 ?_
  refine wpIn_rangeFunc_round rfl (by decide) (gf := 88) (lb := #[.pointer (some ⟨X.heap.size, 0, none⟩)]) rfl trivial (enters_of Tryd.func88 (by kernel_rfl) rfl)
    (ciphers_seq 2 w.heap.size X.heap.size Y (by rw [cell_of_row _ _ _ _ _ _ hYr]; rfl))
    (by rintro r rfl; omega) (encC_size _)
    (fun pre W => W.heap[w.heap.size]? = some (.cells (rowL (chM K rs L pre)).toArray 32 (0, 0)) ∧ W.heap[w.heap.size + 1]? = some (.cells #[.slice (some ⟨gf, 0, none⟩) 1 1] 125 (0, 0)) ∧ W.heap[w.heap.size + 1 + 1]? = some (.cells #[.int .i64 0, .int .i64 0, .int .i64 0, .int .i64 0, .int .i64 0, .int .i64 0] 32 (0, 0)) ∧ Below w.heap.size w W ∧ Y.heap.size ≤ W.heap.size)
    ?own ⟨Y0, Y1, Y2, HYb, Nat.le_refl _⟩ ?round ?done
  case own =>
    rintro t A B' row ⟨h0, h1, h2, hb, hz⟩ hg hr
    have hrow : ∀ r, row = some r → w.heap.size + 3 ≤ r := by
      intro r e
      have := HS.out
      rcases hr r e with rfl | ⟨h, _⟩ <;> omega
    have keep : ∀ k o, k < w.heap.size + 3 → A.heap[k]? = some o → B'.heap[k]? = some o := fun k o hk h => (hg.block k (Array.getElem?_eq_some_iff.1 h).1 (fun e => by have := hrow _ e.symm; omega)).trans h
    exact ⟨keep _ _ (by omega) h0, keep _ _ (by omega) h1, keep _ _ (by omega) h2, hb.grown hg hb.size (fun k e => by have := hrow k e; omega), Nat.le_trans hz hg.size⟩
  case round =>
    rintro l pre x W ⟨h0, h1, h2, hb, hz⟩ _ hzl
    have hM := Seal.mk (chM_ok (rs := rs) HN.out.1 pre L HL.out)
    have hs := HS.out
    rcases fin3e x with rfl | rfl | rfl
    · skip
      dsimp only [encC]
      gi_wp2
      refine ⟨KeepsOthers.refl _, fun r hr => by first | rfl | trivial, fun Wb hg hsz => ?_⟩
      have keep : ∀ k o, k < w.heap.size + 3 → W.heap[k]? = some o → Wb.heap[k]? = some o := fun k o hk h => (hg.block k (Array.getElem?_eq_some_iff.1 h).1 (fun e => by have := Option.some.inj e; omega)).trans h
      have b0 := keep _ _ (by omega) h0
      have b1 := keep _ _ (by omega) h1
      have b2 := Seal.mk (keep _ _ (by omega) h2)
      have HBb := Seal.mk (hb.grown hg hb.size (fun k e => by have := Option.some.inj e; omega))
      have k1 : Wb.cell? ⟨w.heap.size + 1, 0, none⟩ = some (.slice (some ⟨gf, 0, none⟩) 1 1) := by rw [cell_of_row _ _ _ _ _ _ b1]; rfl
      have kf : Wb.cell? ⟨gf, 0, none⟩ = some (.func (.func 85) #[] #[.pointer (some ⟨rb, 0, none⟩), .pointer (some ⟨kb, 0, none⟩)]) := by
        have h5 := blk HBb.out (Array.getElem?_eq_some_iff.1 HF.out.1).1 HF.out.1
        rw [cell_of_row _ _ _ _ _ _ h5]; rfl
      have hkb2 : Wb.cell? ⟨kb, 0, none⟩ = some (.int .i64 K) := cell_later HBb.out HF.out.2.1
      have hrb2 : Wb.cell? ⟨rb, 0, none⟩ = some (.int .i64 (rs 0)) := cell_later HBb.out HF.out.2.2.1
      have HC1 := Seal.mk (more1_at0 (chM K rs L pre 0).1 (chM K rs L pre 0).2 K (rs 0) _ _ w.heap.size 0 rb kb (rowL (chM K rs L pre)) Wb b0 (rowL_at (chM K rs L pre) 0).1 (rowL_at (chM K rs L pre) 0).2 hrb2 hkb2 (hM.out 0).1 (hM.out 0).2 HN.out.1 (HN.out.2 0) ⟨rfl⟩)
      have b1 := Seal.mk b1
      have b0s := Seal.mk b0
      have hzb : Seal (Y.heap.size ≤ Wb.heap.size) := ⟨by omega⟩
      have hps : Seal (w.heap.size + 3 = X.heap.size ∧ Y.heap.size = X.heap.size + 1) := ⟨by omega⟩
      clear keep hg hsz h0 h1 h2 hb hs b0 hkb2 hrb2
      gi_wp2
      refine wpIn_loop_rounds 2 ?_
      rw [roundsIn_succ]
      gi_wp2_with (refine ⟨trivial, ?_⟩; gi_at_call 85; refine (callsIn_round HC1.out).mono ?_; rintro e w5 ⟨rfl, hg5, hr5⟩)
      rw [roundsIn_succ]
      have hrow5 : ((rowL (chM K rs L pre)).set 0 (.int .i64 ((mp (chM K rs L pre 0).1.toNat (pw 4 (rs 0)) : Nat) : Int))).set (0 + 1) (.int .i64 ((mp (chM K rs L pre 0).2.toNat (pw K.toNat (rs 0)) : Nat) : Int)) = rowL (chM K rs L (pre ++ [0])) := by rw [chM_snoc]; exact rowL_set2 (chM K rs L pre) 0 (onP K (rs 0) (chM K rs L pre 0))
      rw [hrow5] at hr5
      have R5 := Seal.mk hr5
      have G5 := Seal.mk hg5
      clear hr5 hg5 HC1 k1 kf
      gi_wp2
      have keep5 : ∀ k o, k ≠ w.heap.size → Wb.heap[k]? = some o → w5.heap[k]? = some o := fun k o hk h => (G5.out.block k (Array.getElem?_eq_some_iff.1 h).1 (fun e => hk (Option.some.inj e))).trans h
      refine ⟨KeepsOthers.of_grownBy G5.out (fun j o e ho => ?_), fun r hr => ?_, R5.out, keep5 _ _ (by omega) b1.out, keep5 _ _ (by omega) b2.out, HBb.out.grown G5.out HBb.out.size (fun k e => by have := Option.some.inj e; omega), Nat.le_trans hzb.out G5.out.size⟩
      · cases e
        have h9 := b0s.out
        rw [h9] at ho
        cases ho
        rfl
      · subst hr
        exact G5.out.block _ (by have := hzb.out; have := hps.out; omega) (fun e => by have := Option.some.inj e; have := hps.out; omega)
    · skip
      dsimp only [encC]
      gi_wp2
      refine ⟨KeepsOthers.refl _, fun r hr => by first | rfl | trivial, fun Wb hg hsz => ?_⟩
      have keep : ∀ k o, k < w.heap.size + 3 → W.heap[k]? = some o → Wb.heap[k]? = some o := fun k o hk h => (hg.block k (Array.getElem?_eq_some_iff.1 h).1 (fun e => by have := Option.some.inj e; omega)).trans h
      have b0 := keep _ _ (by omega) h0
      have b1 := keep _ _ (by omega) h1
      have b2 := Seal.mk (keep _ _ (by omega) h2)
      have HBb := Seal.mk (hb.grown hg hb.size (fun k e => by have := Option.some.inj e; omega))
      have k1 : Wb.cell? ⟨w.heap.size + 1, 0, none⟩ = some (.slice (some ⟨gf, 0, none⟩) 1 1) := by rw [cell_of_row _ _ _ _ _ _ b1]; rfl
      have kf : Wb.cell? ⟨gf, 0, none⟩ = some (.func (.func 85) #[] #[.pointer (some ⟨rb, 0, none⟩), .pointer (some ⟨kb, 0, none⟩)]) := by
        have h5 := blk HBb.out (Array.getElem?_eq_some_iff.1 HF.out.1).1 HF.out.1
        rw [cell_of_row _ _ _ _ _ _ h5]; rfl
      have hkb2 : Wb.cell? ⟨kb, 0, none⟩ = some (.int .i64 K) := cell_later HBb.out HF.out.2.1
      have hrb2 : Wb.cell? ⟨rb, 1, none⟩ = some (.int .i64 (rs 1)) := cell_later HBb.out HF.out.2.2.2.1
      have HC1 := Seal.mk (more1_at1 (chM K rs L pre 1).1 (chM K rs L pre 1).2 K (rs 1) _ _ w.heap.size 2 rb kb (rowL (chM K rs L pre)) Wb b0 (rowL_at (chM K rs L pre) 1).1 (rowL_at (chM K rs L pre) 1).2 hrb2 hkb2 (hM.out 1).1 (hM.out 1).2 HN.out.1 (HN.out.2 1) ⟨rfl⟩)
      have b1 := Seal.mk b1
      have b0s := Seal.mk b0
      have hzb : Seal (Y.heap.size ≤ Wb.heap.size) := ⟨by omega⟩
      have hps : Seal (w.heap.size + 3 = X.heap.size ∧ Y.heap.size = X.heap.size + 1) := ⟨by omega⟩
      clear keep hg hsz h0 h1 h2 hb hs b0 hkb2 hrb2
      gi_wp2
      refine wpIn_loop_rounds 2 ?_
      rw [roundsIn_succ]
      gi_wp2_with (refine ⟨trivial, ?_⟩; gi_at_call 85; refine (callsIn_round HC1.out).mono ?_; rintro e w5 ⟨rfl, hg5, hr5⟩)
      rw [roundsIn_succ]
      have hrow5 : ((rowL (chM K rs L pre)).set 2 (.int .i64 ((mp (chM K rs L pre 1).1.toNat (pw 4 (rs 1)) : Nat) : Int))).set (2 + 1) (.int .i64 ((mp (chM K rs L pre 1).2.toNat (pw K.toNat (rs 1)) : Nat) : Int)) = rowL (chM K rs L (pre ++ [1])) := by rw [chM_snoc]; exact rowL_set2 (chM K rs L pre) 1 (onP K (rs 1) (chM K rs L pre 1))
      rw [hrow5] at hr5
      have R5 := Seal.mk hr5
      have G5 := Seal.mk hg5
      clear hr5 hg5 HC1 k1 kf
      gi_wp2
      have keep5 : ∀ k o, k ≠ w.heap.size → Wb.heap[k]? = some o → w5.heap[k]? = some o := fun k o hk h => (G5.out.block k (Array.getElem?_eq_some_iff.1 h).1 (fun e => hk (Option.some.inj e))).trans h
      refine ⟨KeepsOthers.of_grownBy G5.out (fun j o e ho => ?_), fun r hr => ?_, R5.out, keep5 _ _ (by omega) b1.out, keep5 _ _ (by omega) b2.out, HBb.out.grown G5.out HBb.out.size (fun k e => by have := Option.some.inj e; omega), Nat.le_trans hzb.out G5.out.size⟩
      · cases e
        have h9 := b0s.out
        rw [h9] at ho
        cases ho
        rfl
      · subst hr
        exact G5.out.block _ (by have := hzb.out; have := hps.out; omega) (fun e => by have := Option.some.inj e; have := hps.out; omega)
    · skip
      dsimp only [encC]
      gi_wp2
      refine ⟨KeepsOthers.refl _, fun r hr => by first | rfl | trivial, fun Wb hg hsz => ?_⟩
      have keep : ∀ k o, k < w.heap.size + 3 → W.heap[k]? = some o → Wb.heap[k]? = some o := fun k o hk h => (hg.block k (Array.getElem?_eq_some_iff.1 h).1 (fun e => by have := Option.some.inj e; omega)).trans h
      have b0 := keep _ _ (by omega) h0
      have b1 := keep _ _ (by omega) h1
      have b2 := Seal.mk (keep _ _ (by omega) h2)
      have HBb := Seal.mk (hb.grown hg hb.size (fun k e => by have := Option.some.inj e; omega))
      have k1 : Wb.cell? ⟨w.heap.size + 1, 0, none⟩ = some (.slice (some ⟨gf, 0, none⟩) 1 1) := by rw [cell_of_row _ _ _ _ _ _ b1]; rfl
      have kf : Wb.cell? ⟨gf, 0, none⟩ = some (.func (.func 85) #[] #[.pointer (some ⟨rb, 0, none⟩), .pointer (some ⟨kb, 0, none⟩)]) := by
        have h5 := blk HBb.out (Array.getElem?_eq_some_iff.1 HF.out.1).1 HF.out.1
        rw [cell_of_row _ _ _ _ _ _ h5]; rfl
      have hkb2 : Wb.cell? ⟨kb, 0, none⟩ = some (.int .i64 K) := cell_later HBb.out HF.out.2.1
      have hrb2 : Wb.cell? ⟨rb, 2, none⟩ = some (.int .i64 (rs 2)) := cell_later HBb.out HF.out.2.2.2.2
      have HC1 := Seal.mk (more1_at2 (chM K rs L pre 2).1 (chM K rs L pre 2).2 K (rs 2) _ _ w.heap.size 4 rb kb (rowL (chM K rs L pre)) Wb b0 (rowL_at (chM K rs L pre) 2).1 (rowL_at (chM K rs L pre) 2).2 hrb2 hkb2 (hM.out 2).1 (hM.out 2).2 HN.out.1 (HN.out.2 2) ⟨rfl⟩)
      have b1 := Seal.mk b1
      have b0s := Seal.mk b0
      have hzb : Seal (Y.heap.size ≤ Wb.heap.size) := ⟨by omega⟩
      have hps : Seal (w.heap.size + 3 = X.heap.size ∧ Y.heap.size = X.heap.size + 1) := ⟨by omega⟩
      clear keep hg hsz h0 h1 h2 hb hs b0 hkb2 hrb2
      gi_wp2
      refine wpIn_loop_rounds 2 ?_
      rw [roundsIn_succ]
      gi_wp2_with (refine ⟨trivial, ?_⟩; gi_at_call 85; refine (callsIn_round HC1.out).mono ?_; rintro e w5 ⟨rfl, hg5, hr5⟩)
      rw [roundsIn_succ]
      have hrow5 : ((rowL (chM K rs L pre)).set 4 (.int .i64 ((mp (chM K rs L pre 2).1.toNat (pw 4 (rs 2)) : Nat) : Int))).set (4 + 1) (.int .i64 ((mp (chM K rs L pre 2).2.toNat (pw K.toNat (rs 2)) : Nat) : Int)) = rowL (chM K rs L (pre ++ [2])) := by rw [chM_snoc]; exact rowL_set2 (chM K rs L pre) 2 (onP K (rs 2) (chM K rs L pre 2))
      rw [hrow5] at hr5
      have R5 := Seal.mk hr5
      have G5 := Seal.mk hg5
      clear hr5 hg5 HC1 k1 kf
      gi_wp2
      have keep5 : ∀ k o, k ≠ w.heap.size → Wb.heap[k]? = some o → w5.heap[k]? = some o := fun k o hk h => (G5.out.block k (Array.getElem?_eq_some_iff.1 h).1 (fun e => hk (Option.some.inj e))).trans h
      refine ⟨KeepsOthers.of_grownBy G5.out (fun j o e ho => ?_), fun r hr => ?_, R5.out, keep5 _ _ (by omega) b1.out, keep5 _ _ (by omega) b2.out, HBb.out.grown G5.out HBb.out.size (fun k e => by have := Option.some.inj e; omega), Nat.le_trans hzb.out G5.out.size⟩
      · cases e
        have h9 := b0s.out
        rw [h9] at ho
        cases ho
        rfl
      · subst hr
        exact G5.out.block _ (by have := hzb.out; have := hps.out; omega) (fun e => by have := Option.some.inj e; have := hps.out; omega)
  case done =>
    rintro D xs W hD rfl ⟨h0, h1, h2, hb, hz⟩ hK
    rw [chM_done] at h0
    obtain ⟨R, hR⟩ : ∃ R, R = (rowL (fun j => onP K (rs j) (L j))).toArray := ⟨_, rfl⟩
    have HB := Seal.mk hb
    have H0 : Seal (W.heap[w.heap.size]? = some (.cells R 32 (0, 0))) := ⟨by rw [hR]; exact h0⟩
    have H2 := Seal.mk h2
    have IR : Seal ((Tryd.prog.info? 32).map (·.size) = some R.size) := ⟨by rw [hR]; exact rowL_info _⟩
    have SR : Seal ((#[.int .i64 0, .int .i64 0, .int .i64 0, .int .i64 0, .int .i64 0, .int .i64 0] : Array Value).size = R.size) := ⟨by rw [hR]; rfl⟩
    have OR : Seal (R.all (·.oneCell') = true) := ⟨by rw [hR]; exact rowL_one _⟩
    have HRq := Seal.mk hR
    have hs := HS.out
    clear h0 h1 h2 hb hR
    go_wp2_with (first | (refine wpList_load_row rfl 32 (.tmp 2) rfl w.heap.size rfl 32 R (0, 0) _ H0.out Tryd.underlying32 rfl IR.out ?_) | (refine wpList_store_row rfl 32 (.tmp 4) (.tmp 23) rfl (w.heap.size + 1 + 1) R rfl rfl 32 #[.int .i64 0, .int .i64 0, .int .i64 0, .int .i64 0, .int .i64 0, .int .i64 0] H2.out IR.out SR.out OR.out ?_))
    have hK' := (keeps_setRow H2.out R).same D _ hK rfl
    refine ⟨by simp, .inl ⟨_, _, rfl, run_takeDeferred hK', ?_⟩⟩
    refine ⟨_, results_cell_row (fn := Tryd.f47) rfl _ _ (w.heap.size + 1 + 1) 32 R (0, 0) _ rfl ((World.putObj_heap_other (by omega)).trans (setRow_heap _ _ _ _ _ _ H2.out)) Tryd.underlying32 rfl IR.out, by rw [HRq.out], ?_⟩
    exact (below_row HB.out (by omega) _).trans (belowK_b (w := w) (Nat.le_refl _) _ D _ _ (by omega) hK' rfl rfl)
end

theorem exec_store_row {P : Program} {o : Oper} {a : Act} {w : World} (ty : TypeId) (x y : Operand) (ho : o.op = .store ty x y)
    (g : Nat) (cells : Array Value) (hx : a.eval x = .pointer (some ⟨g, 0, none⟩)) (hy : a.eval y = .agg cells)
    (t : TypeId) (old : Array Value) (hg : w.heap[g]? = some (.cells old t (0, 0))) (hi : (P.info? ty).map (·.size) = some cells.size)
    (hold : old.size = cells.size) (h1 : cells.all (·.oneCell') = true) : (execOp a.eval o).run P w = .ok .skip (w.setRow g cells) := by
  unfold execOp
  simp only [ho, hx, hy, Instr.storeAt, Instr.sureAddr, Sem.run_bind, Sem.run_pure, Result.andThen_ok, run_storeVar_row w g t ty old cells hg hi hold h1]

theorem emore_any (K r0 r1 r2 : Int) (w : World) : Calls Tryd.prog 48 #[.int .i64 K, .agg #[.int .i64 r0, .int .i64 r1, .int .i64 r2]] w fun e w' => e = .returned (.func (.func 85) #[] #[.pointer (some ⟨w.heap.size + 1, 0, none⟩), .pointer (some ⟨w.heap.size, 0, none⟩)]) ∧ (w.alloc (.cells #[.int .i64 K] 3)).alloc (.cells #[.int .i64 r0, .int .i64 r1, .int .i64 r2] 22) = w' := by
  go_enter Tryd.func48, Tryd.ntmps48
  go_wp2
  go_ret
  exact ⟨rfl, rfl⟩

theorem idxw0 (a b c : Int) (w : World) : (Instr.index 23 (.agg #[.int .i64 a, .int .i64 b, .int .i64 c]) (.int .i64 0)).run Tryd.prog w = .ok (.int .i64 a) w := by kernel_rfl
theorem idxw1 (a b c : Int) (w : World) : (Instr.index 23 (.agg #[.int .i64 a, .int .i64 b, .int .i64 c]) (.int .i64 1)).run Tryd.prog w = .ok (.int .i64 b) w := by kernel_rfl
theorem idxw2 (a b c : Int) (w : World) : (Instr.index 23 (.agg #[.int .i64 a, .int .i64 b, .int .i64 c]) (.int .i64 2)).run Tryd.prog w = .ok (.int .i64 c) w := by kernel_rfl
set_option maxHeartbeats 4000000 in
theorem eseal_yes (K a b c r0 r1 r2 : Int) (w : World) (vK : vd K = true) (ha : 1 ≤ a ∧ a ≤ 1073741789) (hb : 1 ≤ b ∧ b ≤ 1073741789) (hc : 1 ≤ c ∧ c ≤ 1073741789) (i0 : I64 r0) (i1 : I64 r1) (i2 : I64 r2) :
    Calls Tryd.prog 18 #[.int .i64 K, .agg #[.int .i64 a, .int .i64 b, .int .i64 c], .agg #[.int .i64 r0, .int .i64 r1, .int .i64 r2]] w fun e w' => e = .returned (.tuple #[.agg (rowL (fun | 0 => onP K r0 (1, elB a) | 1 => onP K r1 (1, elB b) | 2 => onP K r2 (1, elB c))).toArray, .int .i64 0]) ∧ Below w.heap.size w w' := by
  have HV := Seal.mk vK
  have HEa : Seal (∀ W, Calls Tryd.prog 42 #[.int .i64 a] W fun e w' => e = .returned (.tuple #[.int .i64 (elB a), .int .i64 0]) ∧ W = w') := ⟨fun W => element_yes a _ W ha.1 ha.2 ⟨rfl⟩⟩
  have HEb : Seal (∀ W, Calls Tryd.prog 42 #[.int .i64 b] W fun e w' => e = .returned (.tuple #[.int .i64 (elB b), .int .i64 0]) ∧ W = w') := ⟨fun W => element_yes b _ W hb.1 hb.2 ⟨rfl⟩⟩
  have HEc : Seal (∀ W, Calls Tryd.prog 42 #[.int .i64 c] W fun e w' => e = .returned (.tuple #[.int .i64 (elB c), .int .i64 0]) ∧ W = w') := ⟨fun W => element_yes c _ W hc.1 hc.2 ⟨rfl⟩⟩
  obtain ⟨x, hx⟩ : ∃ x, x = elB a := ⟨_, rfl⟩
  obtain ⟨y, hy⟩ : ∃ y, y = elB b := ⟨_, rfl⟩
  obtain ⟨z, hz⟩ : ∃ z, z = elB c := ⟨_, rfl⟩
  have HXV : Seal (vd x = true ∧ vd y = true ∧ vd z = true) := ⟨by rw [hx, hy, hz]; exact ⟨elB_vd ha.1 ha.2, elB_vd hb.1 hb.2, elB_vd hc.1 hc.2⟩⟩
  rw [← hx, ← hy, ← hz]
  rw [← hx] at HEa
  rw [← hy] at HEb
  rw [← hz] at HEc
  have HI : Seal (I64 r0 ∧ I64 r1 ∧ I64 r2) := ⟨i0, i1, i2⟩
  clear ha hb hc hx hy hz vK i0 i1 i2
  have id0 := fun W => idxw0 a b c W
  have id1 := fun W => idxw1 a b c W
  have id2 := fun W => idxw2 a b c W
  go_enter Tryd.func18, Tryd.ntmps18
  go_wp2_with (go_at_call 37; refine (valid_at1 _ true _ HV.out).mono ?_; rintro e w' ⟨rfl, rfl⟩)
  refine wp_loop_rounds 4 ?_
  rw [rounds_succ]
  go_wp2_with (go_at_call 42; refine (HEa.out _).mono ?_; rintro e w' ⟨rfl, rfl⟩)
  rw [rounds_succ]
  go_wp2_with (go_at_call 42; refine (HEb.out _).mono ?_; rintro e w' ⟨rfl, rfl⟩)
  rw [rounds_succ]
  go_wp2_with (go_at_call 42; refine (HEc.out _).mono ?_; rintro e w' ⟨rfl, rfl⟩)
  rw [rounds_succ]
  go_wp2_with fail
  obtain ⟨Y, hY⟩ : ∃ Y : World, Y = ((w.alloc (.cells #[.int .i64 a, .int .i64 b, .int .i64 c] 23)).alloc (.cells #[.int .i64 r0, .int .i64 r1, .int .i64 r2] 22)).alloc (.cells #[.int .i64 1, .int .i64 x, .int .i64 1, .int .i64 y, .int .i64 1, .int .i64 z] 32) := ⟨_, rfl⟩
  have HYb : Seal (Below w.heap.size w Y) := ⟨by rw [hY]; exact (((Below.refl _ w).alloc (Nat.le_refl _) _).alloc (by simp) _).alloc (by simp; omega) _⟩
  have HYs : Seal (Y.heap.size = w.heap.size + 3) := ⟨by rw [hY]; simp⟩
  have HY2 : Seal (Y.heap[w.heap.size + 1 + 1]? = some (.cells #[.int .i64 1, .int .i64 x, .int .i64 1, .int .i64 y, .int .i64 1, .int .i64 z] 32 (0, 0))) := ⟨by rw [hY]; have := heap_alloc_new ((w.alloc (.cells #[.int .i64 a, .int .i64 b, .int .i64 c] 23)).alloc (.cells #[.int .i64 r0, .int .i64 r1, .int .i64 r2] 22)) (.cells #[.int .i64 1, .int .i64 x, .int .i64 1, .int .i64 y, .int .i64 1, .int .i64 z] 32); rwa [size_alloc, size_alloc] at this⟩
  have HY1 : Seal (Y.heap[w.heap.size + 1]? = some (.cells #[.int .i64 r0, .int .i64 r1, .int .i64 r2] 22 (0, 0))) := ⟨by rw [hY, Below.heap_alloc _ _ _ (by simp)]; have := heap_alloc_new (w.alloc (.cells #[.int .i64 a, .int .i64 b, .int .i64 c] 23)) (.cells #[.int .i64 r0, .int .i64 r1, .int .i64 r2] 22); rwa [size_alloc] at this⟩
  rw [← hY]
  clear hY id0 id1 id2 HEa HEb HEc
  have q1 : Y.rangeAt (w.heap.size + 1 + 1) 0 [.int .i64 1, .int .i64 x, .int .i64 1, .int .i64 y, .int .i64 1, .int .i64 z] := rangeAt_row (cs := [.int .i64 1, .int .i64 x, .int .i64 1, .int .i64 y, .int .i64 1, .int .i64 z]) HY2.out
  have q2 : Y.rangeAt (w.heap.size + 1) 0 [.int .i64 r0, .int .i64 r1, .int .i64 r2] := rangeAt_row (cs := [.int .i64 r0, .int .i64 r1, .int .i64 r2]) HY1.out
  have i1 : (Tryd.prog.info? 32).map (·.size) = some ([.int .i64 1, .int .i64 x, .int .i64 1, .int .i64 y, .int .i64 1, .int .i64 z] : List Value).length := by kernel_rfl
  have i2 : (Tryd.prog.info? 22).map (·.size) = some ([.int .i64 r0, .int .i64 r1, .int .i64 r2] : List Value).length := by kernel_rfl
  have u1 := Tryd.underlying32
  have u2 := Tryd.underlying22
  refine wp_region_heldU 6 (S := fun w' => w'.rangeAt (w.heap.size + 1 + 1) 0 [.int .i64 1, .int .i64 x, .int .i64 1, .int .i64 y, .int .i64 1, .int .i64 z] ∧ w'.rangeAt (w.heap.size + 1) 0 [.int .i64 r0, .int .i64 r1, .int .i64 r2]) (by kernel_rfl) ⟨q1, q2⟩ (fun hHeld => ?_)
  refine take_u 0 _ rfl (by kernel_rfl) (by kernel_rfl) (by kernel_rfl) (by kernel_rfl) (by kernel_rfl) (fun _ _ _ h => h) (yieldsIf_load_mid (by kernel_rfl) 32 (.tmp 6) rfl (w.heap.size + 1 + 1) 0 rfl [.int .i64 1, .int .i64 x, .int .i64 1, .int .i64 y, .int .i64 1, .int .i64 z] _ (fun w hSw => hSw.1) u1 rfl i1) (by assumption) ?_
  try simp only [Act.put, List.setIfInBounds_toArray, List.set_cons_zero, List.set_cons_succ]
  refine take_p 1 ?_ rfl (by kernel_rfl) (by kernel_rfl) (by kernel_rfl) (by kernel_rfl) (fun _ _ _ h => h) (Or.inl ⟨by kernel_rfl, ?_⟩) (fun _ => by assumption) ?_
  rotate_left
  · (intro w _; go_simp; try (with_reducible rfl))
  try simp only [Act.put, List.setIfInBounds_toArray, List.set_cons_zero, List.set_cons_succ]
  refine take_u 2 _ rfl (by kernel_rfl) (by kernel_rfl) (by kernel_rfl) (by kernel_rfl) (by kernel_rfl) (fun _ _ _ h => h) (yieldsIf_load_mid (by kernel_rfl) 22 (.tmp 5) rfl (w.heap.size + 1) 0 rfl [.int .i64 r0, .int .i64 r1, .int .i64 r2] _ (fun w hSw => hSw.2) u2 rfl i2) (by assumption) ?_
  try simp only [Act.put, List.setIfInBounds_toArray, List.set_cons_zero, List.set_cons_succ]
  refine call_u 3 rfl (by kernel_rfl) 48 #[.int .i64 K, .agg #[.int .i64 r0, .int .i64 r1, .int .i64 r2]] (by kernel_rfl) (by go_simp) ?_
  refine (emore_any K r0 r1 r2 Y.drew).mono ?_
  rintro e w1 ⟨rfl, hw1⟩
  have hs1 : w1.heap.size = Y.heap.size + 2 := by rw [← hw1]; simp
  have hb0 : Below Y.drew.heap.size Y.drew w1 := by rw [← hw1]; exact ((Below.refl _ Y.drew).alloc (Nat.le_refl _) _).alloc (by simp) _
  have hb1 : Below Y.heap.size Y w1 := ⟨hb0.os, hb0.tape, hb0.output, hb0.size, hb0.block⟩
  have hk1 : w1.heap[Y.heap.size]? = some (.cells #[.int .i64 K] 3 (0, 0)) := by rw [← hw1]; exact heap_alloc2_old Y.drew _ _
  have hr1 : w1.heap[Y.heap.size + 1]? = some (.cells #[.int .i64 r0, .int .i64 r1, .int .i64 r2] 22 (0, 0)) := by rw [← hw1]; exact heap_alloc2_new Y.drew _ _
  have HB1 := Seal.mk hb1
  have HK1 := Seal.mk (And.intro hk1 (And.intro hr1 hs1))
  refine ⟨_, rfl, ⟨rangeAt_below' q1 hb1, rangeAt_below' q2 hb1⟩, fun hHeld2 => ?_⟩
  clear hHeld hb0 hb1 hk1 hr1 hs1 hw1 q1 q2
  try simp only [Act.put, List.setIfInBounds_toArray, List.set_cons_zero, List.set_cons_succ]
  obtain ⟨R, hR⟩ : ∃ R, R = (rowL (fun | 0 => onP K r0 (1, x) | 1 => onP K r1 (1, y) | 2 => onP K r2 (1, z))).toArray := ⟨_, rfl⟩
  have HRq := Seal.mk hR
  have IR : Seal ((Tryd.prog.info? 32).map (·.size) = some R.size) := ⟨by rw [hR]; exact rowL_info _⟩
  have SR : Seal ((#[.int .i64 1, .int .i64 x, .int .i64 1, .int .i64 y, .int .i64 1, .int .i64 z] : Array Value).size = R.size) := ⟨by rw [hR]; rfl⟩
  have OR : Seal (R.all (·.oneCell') = true) := ⟨by rw [hR]; exact rowL_one _⟩
  have HCh := Seal.mk (echanged_more (fun | 0 => (1, x) | 1 => (1, y) | 2 => (1, z)) K (fun | 0 => r0 | 1 => r1 | 2 => r2) w1.heap.size (Y.heap.size + 1) Y.heap.size (w1.alloc (.cells #[.func (.func 85) #[] #[.pointer (some ⟨Y.heap.size + 1, 0, none⟩), .pointer (some ⟨Y.heap.size, 0, none⟩)]] 91))
    (fun j => by have v1 : vd 1 = true := by decide +kernel
                 rcases fin3e j with rfl | rfl | rfl
                 · exact ⟨v1, HXV.out.1⟩
                 · exact ⟨v1, HXV.out.2.1⟩
                 · exact ⟨v1, HXV.out.2.2⟩)
    HV.out (fun j => by rcases fin3e j with rfl | rfl | rfl
                        · exact HI.out.1
                        · exact HI.out.2.1
                        · exact HI.out.2.2)
    (heap_alloc_new w1 _) (cell_allocd (by rw [cell_of_row _ _ _ _ _ _ HK1.out.1]; rfl) _)
    (cell_allocd (by rw [cell_of_row _ _ _ _ _ _ HK1.out.2.1]; rfl) _) (cell_allocd (by rw [cell_of_row _ _ _ _ _ _ HK1.out.2.1]; rfl) _) (cell_allocd (by rw [cell_of_row _ _ _ _ _ _ HK1.out.2.1]; rfl) _))
  have eL : (rowL (fun | 0 => (1, x) | 1 => (1, y) | 2 => (1, z))).toArray = #[.int .i64 1, .int .i64 x, .int .i64 1, .int .i64 y, .int .i64 1, .int .i64 z] := rfl
  have eR : (rowL (fun j => onP K ((fun | 0 => r0 | 1 => r1 | 2 => r2 : Fin 3 → Int) j) ((fun | 0 => (1, x) | 1 => (1, y) | 2 => (1, z) : Fin 3 → Int × Int) j))).toArray = R := by
    rw [hR]; rfl
  have HCh' : Seal (Calls Tryd.prog 47 #[.agg #[.int .i64 1, .int .i64 x, .int .i64 1, .int .i64 y, .int .i64 1, .int .i64 z], .slice (some ⟨w1.heap.size, 0, none⟩) 1 1] (w1.alloc (.cells #[.func (.func 85) #[] #[.pointer (some ⟨Y.heap.size + 1, 0, none⟩), .pointer (some ⟨Y.heap.size, 0, none⟩)]] 91)) fun e w' => e = .returned (.agg R) ∧ Below (w1.alloc (.cells #[.func (.func 85) #[] #[.pointer (some ⟨Y.heap.size + 1, 0, none⟩), .pointer (some ⟨Y.heap.size, 0, none⟩)]] 91)).heap.size (w1.alloc (.cells #[.func (.func 85) #[] #[.pointer (some ⟨Y.heap.size + 1, 0, none⟩), .pointer (some ⟨Y.heap.size, 0, none⟩)]] 91)) w') := ⟨by
    have h := HCh.out
    rw [eR, eL] at h
    exact h⟩
  clear HCh eL eR hR
  refine oper_u 4 (.slice (some ⟨w1.heap.size, 0, none⟩) 1 1) (w1.alloc (.cells #[.func (.func 85) #[] #[.pointer (some ⟨Y.heap.size + 1, 0, none⟩), .pointer (some ⟨Y.heap.size, 0, none⟩)]] 91)) rfl (by kernel_rfl) (by kernel_rfl) (by go_simp) (fun _ => ⟨World.rangeAt_alloc hHeld2.1 _, World.rangeAt_alloc hHeld2.2 _⟩) ?_
  try simp only [Act.put, List.setIfInBounds_toArray, List.set_cons_zero, List.set_cons_succ]
  have hHeld3 : _ ∧ _ := ⟨World.rangeAt_alloc hHeld2.1 (.cells #[.func (.func 85) #[] #[.pointer (some ⟨Y.heap.size + 1, 0, none⟩), .pointer (some ⟨Y.heap.size, 0, none⟩)]] 91), World.rangeAt_alloc hHeld2.2 (.cells #[.func (.func 85) #[] #[.pointer (some ⟨Y.heap.size + 1, 0, none⟩), .pointer (some ⟨Y.heap.size, 0, none⟩)]] 91)⟩
  clear hHeld2
  refine call_u 5 rfl (by kernel_rfl) 47 #[.agg #[.int .i64 1, .int .i64 x, .int .i64 1, .int .i64 y, .int .i64 1, .int .i64 z], .slice (some ⟨w1.heap.size, 0, none⟩) 1 1] (by kernel_rfl) (by go_simp) ?_
  refine HCh'.out.mono ?_
  rintro e w2 ⟨rfl, hb⟩
  have HB2 : Seal (Below Y.heap.size Y w2) := ⟨(HB1.out.alloc HB1.out.size _).trans (hb.mono (by have := HB1.out.size; rw [size_alloc]; omega))⟩
  refine ⟨_, rfl, ⟨rangeAt_below' hHeld3.1 hb, rangeAt_below' hHeld3.2 hb⟩, fun hHeld4 => ?_⟩
  clear hHeld3 hb HCh' HB1
  try simp only [Act.put, List.setIfInBounds_toArray, List.set_cons_zero, List.set_cons_succ]
  have r6 := blk HB2.out (Array.getElem?_eq_some_iff.1 HY2.out).1 HY2.out
  refine skip_at_u 6 (w2.setRow (w.heap.size + 1 + 1) R) rfl (by kernel_rfl) (by kernel_rfl) (by kernel_rfl) (exec_store_row 32 (.tmp 6) (.tmp 39) rfl (w.heap.size + 1 + 1) R rfl rfl 32 #[.int .i64 1, .int .i64 x, .int .i64 1, .int .i64 y, .int .i64 1, .int .i64 z] r6 IR.out SR.out OR.out) ?_
  have R6 := Seal.mk r6
  clear r6 hHeld4
  refine anyU_of_H (S' := fun _ => True) _ _ _ _ (by kernel_rfl) ?_
  have hHeld : (fun _ : World => True) (w2.setRow (w.heap.size + 1 + 1) R) := trivial
  refine take_h 7 ?_ rfl (by kernel_rfl) (by kernel_rfl) (by kernel_rfl) (fun _ _ _ h => h) (Or.inl ⟨by kernel_rfl, ?_⟩) (by assumption) ?_
  rotate_left
  · (intro w hSw; (try dsimp only at hSw); go_simp; try (with_reducible rfl))
  try simp only [Act.put, List.setIfInBounds_toArray, List.set_cons_zero, List.set_cons_succ]
  refine wpAnyH_done (by kernel_rfl) ?_ _
  clear hHeld
  go_wp2
  have hs := HYs.out
  exact bodyPost_ret (results_row_tmp (fn := Tryd.f18) rfl _ _ (w.heap.size + 1 + 1) 32 R (0, 0) _ _ rfl rfl (setRow_heap _ _ _ _ _ _ R6.out) Tryd.underlying32 rfl IR.out) rfl ⟨by rw [HRq.out]; rfl, below_row (HYb.out.trans (HB2.out.mono HYb.out.size)) (by omega) _⟩
end Frk

namespace Frk
open Go Go.RowKit Go.Proofs
set_option maxRecDepth 100000

theorem wpList_wanted {P : Program} {ops : Array Oper} {rest : List Oper} {o : Oper} {a : Act} {w : World} {Q : Exit → Act → World → Prop} (hw : Region.wanted o (yielded ops a.tmps) = true)
    (h : ∀ K : Act → World → Prop, (∀ a w, wpList P ops Q rest a w → K a w) → o.wp P a w K Q) : wpList P ops Q (o :: rest) a w :=
  wpList_step fun K hK => by simp only [hw, if_true]; exact h K hK

/-- a long load under a guard that holds -/
theorem wpList_load_row_g {P : Program} {ops : Array Oper} {rest : List Oper} {o : Oper} {a : Act} {w : World} {Q : Exit → Act → World → Prop} (hw : Region.wanted o (yielded ops a.tmps) = true) (ty : TypeId) (x : Operand) (ho : o.op = .load ty x)
    (g : Nat) (hx : a.eval x = .pointer (some ⟨g, 0, none⟩)) (t : TypeId) (cs : Array Value) (fr : Nat × Nat) (d : TypeDesc) (hg : w.heap[g]? = some (.cells cs t fr))
    (hu : P.underlying ty = some d) (hd : (match d with | .struct _ | .array _ _ => true | _ => false) = true) (hi : (P.info? ty).map (·.size) = some cs.size)
    (h : wpList P ops Q rest (a.put o.dst (.agg cs)) w) : wpList P ops Q (o :: rest) a w :=
  wpList_wanted hw fun _ hK => wp_load_row ty x ho g hx t cs fr d hg hu hd hi (hK _ _ h)

theorem eqItems_step {P : Program} (d : Nat) (e : TypeId) (c : Nat) (xs ys : Array Value) (i : Nat) (is : List Nat) (w : World) (a b : Value) (ha : (part e xs (i * c)).run P w = .ok a w) (hb : (part e ys (i * c)).run P w = .ok b w) (hr : (Op.equalIn d e a b).run P w = .ok true w) :
    (Op.eqItems d e c xs ys (i :: is)).run P w = (Op.eqItems d e c xs ys is).run P w := by
  rw [Op.eqItems]
  simp only [Sem.run_bind, ha, hb, hr, Result.andThen_ok]
  rfl

theorem eqSe (x0 x1 x2 x3 x4 x5 : Int) (w : World) : (Op.equalIn 10000 32 (.agg #[.int .i64 x0, .int .i64 x1, .int .i64 x2, .int .i64 x3, .int .i64 x4, .int .i64 x5]) (.agg #[.int .i64 x0, .int .i64 x1, .int .i64 x2, .int .i64 x3, .int .i64 x4, .int .i64 x5])).run Tryd.prog w = .ok true w := by
  have aC := Tryd.isAgg25
  have zC := Tryd.sizeOf25
  have c2 : Tryd.prog.cellsOf 25 = 2 := by kernel_rfl
  obtain ⟨i0, hi⟩ : ∃ i, Tryd.prog.info? 25 = some i := by
    cases h : Tryd.prog.info? 25 with
    | none => have : (Tryd.prog.info? 25).isSome = true := by kernel_rfl
              rw [h] at this; cases this
    | some i => exact ⟨i, rfl⟩
  have e : ∀ a b : Int, (Op.equalIn 9999 25 (.agg #[.int .i64 a, .int .i64 b]) (.agg #[.int .i64 a, .int .i64 b])).run Tryd.prog w = .ok true w := fun a b => by
    rw [show (9999 : Nat) = 9997 + 1 + 1 from rfl, eqCi_at 9997 a b a b w]; simp
  have p0 : (part 25 #[.int .i64 x0, .int .i64 x1, .int .i64 x2, .int .i64 x3, .int .i64 x4, .int .i64 x5] (0 * 2)).run Tryd.prog w = .ok (.agg #[.int .i64 x0, .int .i64 x1]) w := by simp [part, aC, zC]
  have p1 : (part 25 #[.int .i64 x0, .int .i64 x1, .int .i64 x2, .int .i64 x3, .int .i64 x4, .int .i64 x5] (1 * 2)).run Tryd.prog w = .ok (.agg #[.int .i64 x2, .int .i64 x3]) w := by simp [part, aC, zC]
  have p2 : (part 25 #[.int .i64 x0, .int .i64 x1, .int .i64 x2, .int .i64 x3, .int .i64 x4, .int .i64 x5] (2 * 2)).run Tryd.prog w = .ok (.agg #[.int .i64 x4, .int .i64 x5]) w := by simp [part, aC, zC]
  rw [show (10000 : Nat) = 9999 + 1 from rfl, run_equalIn_array w 9999 _ _ Tryd.underlying32 hi, show List.range 3 = [0, 1, 2] from rfl, c2,
    eqItems_step _ _ _ _ _ _ _ _ _ _ p0 p0 (e _ _), eqItems_step _ _ _ _ _ _ _ _ _ _ p1 p1 (e _ _), eqItems_step _ _ _ _ _ _ _ _ _ _ p2 p2 (e _ _)]
  rw [Op.eqItems]
  rfl


theorem eqWd (x0 x1 x2 : Int) (w : World) : (Op.equalIn 10000 23 (.agg #[.int .i64 x0, .int .i64 x1, .int .i64 x2]) (.agg #[.int .i64 x0, .int .i64 x1, .int .i64 x2])).run Tryd.prog w = .ok true w := by
  have aC := Tryd.isAgg3
  have zC := Tryd.sizeOf3
  have c2 : Tryd.prog.cellsOf 3 = 1 := by kernel_rfl
  obtain ⟨i0, hi⟩ : ∃ i, Tryd.prog.info? 3 = some i := by
    cases h : Tryd.prog.info? 3 with
    | none => have : (Tryd.prog.info? 3).isSome = true := by kernel_rfl
              rw [h] at this; cases this
    | some i => exact ⟨i, rfl⟩
  have e : ∀ a : Int, (Op.equalIn 9999 3 (.int .i64 a) (.int .i64 a)).run Tryd.prog w = .ok true w := fun a => by
    rw [show (9999 : Nat) = 9998 + 1 from rfl, eqInt_at 9998 a a w]; simp
  have p0 : (part 3 #[.int .i64 x0, .int .i64 x1, .int .i64 x2] (0 * 1)).run Tryd.prog w = .ok (.int .i64 x0) w := by simp [part, aC]
  have p1 : (part 3 #[.int .i64 x0, .int .i64 x1, .int .i64 x2] (1 * 1)).run Tryd.prog w = .ok (.int .i64 x1) w := by simp [part, aC]
  have p2 : (part 3 #[.int .i64 x0, .int .i64 x1, .int .i64 x2] (2 * 1)).run Tryd.prog w = .ok (.int .i64 x2) w := by simp [part, aC]
  rw [show (10000 : Nat) = 9999 + 1 from rfl, run_equalIn_array w 9999 _ _ Tryd.underlying23 hi, show List.range 3 = [0, 1, 2] from rfl, c2,
    eqItems_step _ _ _ _ _ _ _ _ _ _ p0 p0 (e _), eqItems_step _ _ _ _ _ _ _ _ _ _ p1 p1 (e _), eqItems_step _ _ _ _ _ _ _ _ _ _ p2 p2 (e _)]
  rw [Op.eqItems]
  rfl

set_option maxHeartbeats 2000000 in
theorem recheck_yes (s0 s1 s2 s3 s4 s5 : Int) (w : World) (h0 : vd s0 = true) (h1 : vd s1 = true) (h2 : vd s2 = true) (h3 : vd s3 = true) (h4 : vd s4 = true) (h5 : vd s5 = true) :
    Calls Tryd.prog 26 #[.agg #[.int .i64 s0, .int .i64 s1, .int .i64 s2, .int .i64 s3, .int .i64 s4, .int .i64 s5]] w fun e w' => e = .returned (.int .i64 0) ∧ Below w.heap.size w w' := by
  have H0 := Seal.mk h0
  have H1 := Seal.mk h1
  have H2 := Seal.mk h2
  have H3 := Seal.mk h3
  have H4 := Seal.mk h4
  have H5 := Seal.mk h5
  clear h0 h1 h2 h3 h4 h5
  go_enter Tryd.func26, Tryd.ntmps26
  go_wp2
  refine wp_loop_rounds 4 ?_
  rw [rounds_succ]
  go_wp2_with fail
  refine (rvalid_at s0 true _ H0.out).mono ?_
  rintro e w' ⟨rfl, rfl⟩
  go_wp2_with fail
  refine (rvalid_at s1 true _ H1.out).mono ?_
  rintro e w' ⟨rfl, rfl⟩
  go_wp2_with fail
  rw [rounds_succ]
  go_wp2_with fail
  refine (rvalid_at s2 true _ H2.out).mono ?_
  rintro e w' ⟨rfl, rfl⟩
  go_wp2_with fail
  refine (rvalid_at s3 true _ H3.out).mono ?_
  rintro e w' ⟨rfl, rfl⟩
  go_wp2_with fail
  rw [rounds_succ]
  go_wp2_with fail
  refine (rvalid_at s4 true _ H4.out).mono ?_
  rintro e w' ⟨rfl, rfl⟩
  go_wp2_with fail
  refine (rvalid_at s5 true _ H5.out).mono ?_
  rintro e w' ⟨rfl, rfl⟩
  go_wp2_with fail
  rw [rounds_succ]
  go_wp2_with fail
  go_ret
  exact ⟨rfl, below_alloc _ _⟩
end Frk

