/- Parts of the proof, joined. -/
import Derived.Test.YtnpnboldjbljaaaDoorVegEnv
import Derived.Test.YtnpnboldjbljaaaDoorRows
import Derived.Test.YtnpnboldjbljaaaDoorTie
import Derived.Test.YtnpnboldjbljaaaDoorCards
import Derived.ProofKit
import Derived.LaidMore
import Derived.OpenShut
import Derived.Carry
import Derived.ChangeSame
import Derived.ChangeSlices
import Derived.Stop.Joined
import Derived.SevenTiedAt
import Derived.Lib.SmallJoins
import Derived.Test.YtnpnboldjbljaaaDoorVegDeq
import Derived.Deep.Cut
/- From the walk of a law to its row: what is shared by the laws. -/
namespace Frk
open Go Go.RowKit Go.Proofs Go.ChangeShapes Go.WideShapes Go.ChangeAt
set_option maxRecDepth 100000

theorem own : ownKnob Tryd.prog.godebug = none := by kernel_rfl
theorem laidOut : laidOutB Tryd.prog = true := by kernel_rfl
theorem gStart : Tryd.prog.globalNamed "franking/digest.start" = some 0 := by kernel_rfl
theorem gNums : Tryd.prog.globalNamed "franking/digest.numbers" = some 1 := by kernel_rfl
theorem tStart : (Tryd.prog.globals[0]?).map (·.type) = some 130 := by kernel_rfl
theorem tNums : (Tryd.prog.globals[1]?).map (·.type) = some 144 := by kernel_rfl

/-- the listed variables -/
def laid : List (String × DataW Unit) := [("franking/digest.start", Go.Proofs.YtnpnboldjbljaaaDoor.Rows.laid_franking_digest_start), ("franking/digest.numbers", Go.Proofs.YtnpnboldjbljaaaDoor.Rows.laid_franking_digest_numbers)]

/-- an array of numbers that reads as such -/
theorem ints_of_array {H : Type} {enc : TypeId × Value → H} {P : Program} {W : World} {base fuel n : Nat} {sp : Nat → Bool} {hd : Bool} {t e : TypeId} {k : IntKind} {cs : List Value} {zs : List Int} {ps : List MemPlace} (ht : P.underlying t = some (.array n e)) (he : P.underlying e = some (.int k)) (hc : P.cellsOf e = 1)
    (h : DataW.trod enc P W base sp hd fuel t cs = some (.agg (zs.map fun z => .lit (.int k z)), ps)) : cs.take n = zs.map fun z => .int k z := by
  obtain ⟨xs, m, rfl, hx, hlen, hn, hel⟩ := DataW.trod_array ht h
  simp only [Prod.mk.injEq, DataW.agg.injEq] at hx
  apply List.ext_getElem?
  intro i
  by_cases hi : i < n
  · obtain ⟨x, hxi⟩ : ∃ x, xs[i]? = some x := ⟨_, List.getElem?_eq_getElem (by omega)⟩
    have h1 := hel i hi
    rw [hxi, hc] at h1
    obtain ⟨z, e1, e2, _⟩ := DataW.trod_int he h1
    have h2 := congrArg (·[i]?) hx.1
    simp only [List.getElem?_map, hxi, e2, Option.map_some] at h2
    rw [List.getElem?_take, if_pos hi, List.getElem?_map]
    have h3 : cs[i]? = some (.int k z) := by
      have := congrArg (·[0]?) e1
      simp only [List.getElem?_take, List.getElem?_drop] at this
      simpa using this
    cases hz : zs[i]? with
    | none => rw [hz] at h2; cases h2
    | some y =>
      rw [hz] at h2
      simp at h2
      rw [h3, h2]; rfl
  · have hl := congrArg List.length hx.1
    simp only [List.length_map] at hl
    rw [List.getElem?_take, if_neg hi, List.getElem?_map, List.getElem?_eq_none (by omega)]
    rfl

theorem glob_of_laid {W : World} (h : laidMetH Tryd.prog laid W) : Glob W := by
  rw [MakeChecks.laidMetH_plain _ _ _ (by kernel_rfl)] at h
  obtain ⟨ps, ⟨g0, t0, cs0, f0, p0, q0, hg0, ht0, hv0, hd0, ⟨g1, t1, cs1, f1, p1, q1, hg1, ht1, hv1, hd1, _, _⟩, _⟩, _, _⟩ := h
  obtain rfl := Option.some.inj (gStart.symm.trans hg0)
  obtain rfl := Option.some.inj (gNums.symm.trans hg1)
  obtain rfl := Option.some.inj (tStart.symm.trans ht0)
  obtain rfl := Option.some.inj (tNums.symm.trans ht1)
  have c1 : Tryd.prog.cellsOf 129 = 1 := by kernel_rfl
  have a0 := ints_of_array (zs := iv.list.map fun n : Nat => (n : Int)) Tryd.underlying130 Tryd.underlying129 c1 hd0
  have a1 := ints_of_array (zs := Kt.map fun n : Nat => (n : Int)) Tryd.underlying144 Tryd.underlying129 c1 hd1
  refine ⟨fun j v hv => ?_, fun j v hv => ?_⟩
  · have h8 : j < 8 := by have := (List.getElem?_eq_some_iff.1 hv).1; simpa [St.list] using this
    rw [Nat.zero_add, World.var?_cell hg0 hv0 j]
    have := congrArg (·[j]?) a0
    simp only [List.getElem?_take, if_pos h8, List.map_map] at this
    rw [← Array.getElem?_toList, this, ← hv]
    rfl
  · have h64 : j < 64 := by have := (List.getElem?_eq_some_iff.1 hv).1; simpa [Kt] using this
    rw [Nat.zero_add, World.var?_cell hg1 hv1 j]
    have := congrArg (·[j]?) a1
    simp only [List.getElem?_take, if_pos h64, List.map_map] at this
    rw [← Array.getElem?_toList, this, ← hv]
    rfl

/-- the door's own heap meets the condition -/
theorem door_met (os : Os) (args : Array Value) : laidMetH Tryd.prog laid ((World.doorLaid Tryd.prog 400 os).forCall (fun _ _ => 0) ⟨#[], args, []⟩).memory :=
  laidMetH_of_parts3 (fuel := 8) (laidMet_of_run' 8 (by kernel_rfl) (by kernel_rfl)) (by kernel_rfl) (by kernel_rfl)

/-- arguments read behind the call as they did before -/
theorem trodAll_carry {H : Type} {enc : TypeId × Value → H} {W W' : World} {sp : Nat → Bool} (hb : Below W.heap.size W W') :
    ∀ {ts : List TypeId} {vs : List Value} {ds : List (DataW H)} {ps : List MemPlace}, (∀ t ∈ ts, Tryd.prog.readableRec t = true ∧ t < Tryd.prog.types.size) → DataW.TrodAll enc Tryd.prog W 0 (fun _ => true) true ts vs ds ps →
      (∀ p ∈ ps, p.block < W.heap.size) → (∀ p ∈ ps, sp p.block = true) → DataW.TrodAll enc Tryd.prog W' 0 sp true ts vs ds ps := by
  intro ts
  induction ts with
  | nil =>
    intro vs ds ps _ h _ _
    match vs, ds, h with
    | [], [], h => exact h
    | [], _ :: _, h => exact h.elim
    | _ :: _, [], h => exact h.elim
    | _ :: _, _ :: _, h => exact h.elim
  | cons t ts ih =>
    intro vs ds ps ht h hlt hsp
    match vs, ds, h with
    | [], [], h => exact h.elim
    | [], _ :: _, h => exact h.elim
    | _ :: _, [], h => exact h.elim
    | v :: vs, d :: ds, ⟨p, q, h1, h2, e⟩ =>
      subst e
      exact ⟨p, q, WideElems.Trod_stays laidOut (ht t (by simp)).1 (ht t (by simp)).2 h1 (fun x hx => hb.same (hlt x (by simp [hx]))) (fun x hx => hsp x (by simp [hx])),
        ih (fun t' h' => ht t' (by simp [h'])) h2 (fun x hx => hlt x (by simp [hx])) (fun x hx => hsp x (by simp [hx])), rfl⟩

theorem post_of_below {H : Type} {enc : TypeId × Value → H} {P : Program} {f : Func} {s : ChangeSpec} {apart fresh handsOn again : Bool} {W W' : World} {args : Array Value} {v : Value} {ds gs : List (DataW H)} {before pa pv : List MemPlace}
    (hW : DataW.Whole enc P f.params.toList s.vars apart W args.toList ds gs before)
    (hres : ∀ (b : Nat) (sp : Nat → Bool) (hd : Bool), DataW.TrodAll enc P W' b sp hd f.resultTypes.toList (v.resultList f.resultTypes.size) (s.fn H (ds ++ gs)).results [])
    (hargs : ∀ sp : Nat → Bool, (∀ p ∈ before, sp p.block = true) → DataW.TrodAll enc P W' 0 sp true f.params.toList args.toList (s.fn H (ds ++ gs)).args pa)
    (hvars : ∀ sp : Nat → Bool, (∀ p ∈ before, sp p.block = true) → DataW.TrodVars enc P W' sp s.vars (s.fn H (ds ++ gs)).vars pv)
    (hps : before = pa ++ pv) (hb : Below W.heap.size W W')
    (hok : ∀ (j : Nat) (t : TypeId) (r : Value), f.resultTypes[j]? = some t → (v.resultList f.resultTypes.size)[j]? = some r → Value.okWide P W' .any 0 t r) :
    s.post enc P f apart fresh handsOn again W args v W' := by
  have hlt : ∀ p ∈ before, p.block < W.heap.size := fun p hp => hW.lt p hp
  have hold : ∀ p ∈ before, (fun b => decide (b < W.heap.size)) p.block = true := fun p hp => by simpa using hlt p hp
  refine ⟨ds, gs, before, [], pa, pv, hW, hres _ _ _, hargs _ hold, hvars _ hold, World.keptBut_mono (fun p hp => ⟨hp, ?_⟩) (hb.frame (· ∈ before)), fun _ => ?_⟩
  · rw [hps, List.mem_append] at hp
    exact Or.inr hp
  · obtain ⟨_, _, _, _, _, hz, hn⟩ := hW
    refine ⟨hok, _, _, ([] ++ pa) ++ pv, ⟨[] ++ pa, pv, trodAll_append (hargs _ (fun _ _ => rfl)) (hres _ _ _), hvars _ (fun _ _ => rfl), rfl, ?_, ?_⟩, ?_⟩
    · intro b off hp
      have hin : MemPlace.cell b off ∈ before := by rw [hps]; simpa using hp
      rw [hb.frozen (hlt _ hin)]
      exact hz b off hin
    · intro ha
      have := hn ha
      rw [hps] at this
      simpa using this
    · intro p hp _
      rw [hps]
      simpa using hp

/-- a law has answered true, and what there was is as it was -/
theorem law_fin {H : Type} {enc : TypeId × Value → H} {fnc : Func} {s : ChangeSpec} {W W' : World} {args : Array Value} {ds : List (DataW H)} {before : List MemPlace}
    (hts : ∀ t ∈ fnc.params.toList, Tryd.prog.readableRec t = true ∧ t < Tryd.prog.types.size) (hr : fnc.resultTypes = #[4]) (hvars : s.vars = []) (hfn : s.fn H ds = { results := [.lit (.bool true)], args := ds })
    (hW : DataW.Whole enc Tryd.prog fnc.params.toList s.vars false W args.toList ds [] before) (hb : Below W.heap.size W W') : s.post enc Tryd.prog fnc false true false false W args (.bool true) W' := by
  have hW' := hW
  obtain ⟨p, q, hA, hV, rfl, hfz, hnd⟩ := hW
  rw [hvars] at hV
  obtain ⟨_, rfl⟩ := trodVars_none hV
  have hlt := fun x hx => hW'.lt x hx
  refine post_of_below (pa := p) (pv := []) hW' (fun _ _ _ => ?_) (fun sp hsp => ?_) (fun sp _ => ?_) rfl hb ?_
  · rw [List.append_nil, hfn, hr]
    exact trodAll_mk1 (shut_bool Tryd.underlying4 _)
  · rw [List.append_nil, hfn]
    exact trodAll_carry hb hts hA (fun x hx => hlt x (by simpa using hx)) (fun x hx => hsp x (by simpa using hx))
  · rw [List.append_nil, hfn, hvars]
    rfl
  · exact ok_one hr rfl (okWide_bool_mk Tryd.underlying4 _)

theorem i64min : IntKind.i64.min = -9223372036854775808 := by decide
theorem i64max : IntKind.i64.max = 9223372036854775807 := by decide

theorem int_open {H : Type} {enc : TypeId × Value → H} {W : World} {base : Nat} {v : Value} {d : DataW H} {p : List MemPlace} (hval : Value.okWide Tryd.prog W .any base 3 v) (h1 : DataW.Trod enc Tryd.prog W 0 (fun _ => true) true 3 v d p) :
    ∃ x, v = .int .i64 x ∧ -9223372036854775808 ≤ x ∧ x ≤ 9223372036854775807 := by
  obtain ⟨x, rfl, _, _, hw⟩ := open_int Tryd.underlying3 hval h1
  refine ⟨x, rfl, ?_⟩
  simp [Lit.wf] at hw
  have h1 := i64min
  have h2 := i64max
  omega

end Frk

/- Slices of rows as arguments; law 44's devices. -/
namespace Frk
open Go Go.RowKit Go.Proofs Go.ChangeShapes Go.WideShapes Go.ChangeAt
set_option maxRecDepth 100000
section
variable {H : Type} {enc : TypeId × Value → H} {W : World} {base : Nat} {sp : Nat → Bool} {hd : Bool} {fuel : Nat} {cs : List Value} {x : DataW H × List MemPlace}

theorem i64_wf {n : Int} (h : (Lit.int .i64 n).wf = true) : I64 n := by
  simp [Lit.wf] at h
  have h1 := i64min
  have h2 := i64max
  exact ⟨by omega, by omega⟩

theorem cells_int (h : DataW.trod enc Tryd.prog W base sp hd fuel 3 cs = some x) : ∃ n, cs = [.int .i64 n] ∧ I64 n := by
  obtain ⟨n, e, _, hw⟩ := DataW.trod_int Tryd.underlying3 h
  exact ⟨n, e, i64_wf hw⟩

theorem cells_ints {t e : TypeId} {k : IntKind} {n : Nat} (ht : Tryd.prog.underlying t = some (.array n e)) (he : Tryd.prog.underlying e = some (.int k)) (hc : Tryd.prog.cellsOf e = 1) (hn : Tryd.prog.cellsOf t = n)
    (h : DataW.trod enc Tryd.prog W base sp hd fuel t cs = some x) : ∃ zs : List Int, zs.length = n ∧ cs = zs.map (fun z => .int k z) ∧ ∀ z ∈ zs, (Lit.int k z).wf = true := by
  obtain ⟨xs, m, _, _, hlen, hxl, hel⟩ := DataW.trod_array ht h
  rw [hn] at hlen
  have key : ∀ i, i < n → ∃ z, cs[i]? = some (.int k z) ∧ (Lit.int k z).wf = true := fun i hi => by
    have h1 := hel i hi
    rw [hc, List.getElem?_eq_getElem (by omega), Nat.mul_one] at h1
    obtain ⟨z, e1, _, hw⟩ := DataW.trod_int he h1
    refine ⟨z, ?_, hw⟩
    have := congrArg (·[0]?) e1
    simp only [List.getElem?_take, List.getElem?_drop] at this
    simpa using this
  refine ⟨cs.map intOf, by simp [hlen], ?_, ?_⟩
  · apply List.ext_getElem?
    intro i
    by_cases hi : i < n
    · obtain ⟨z, e1, _⟩ := key i hi
      simp [e1, intOf]
    · rw [List.getElem?_eq_none (by omega), List.getElem?_eq_none (by simp; omega)]
  · intro z hz
    obtain ⟨v, hv, rfl⟩ := List.mem_map.1 hz
    obtain ⟨i, hi, e⟩ := List.getElem_of_mem hv
    obtain ⟨z, e1, hw⟩ := key i (by omega)
    rw [List.getElem?_eq_getElem hi, e] at e1
    cases e1
    exact hw

theorem cells_digest (h : DataW.trod enc Tryd.prog W base sp hd fuel 29 cs = some x) : ∃ T : Bytes, T.length = 32 ∧ cs = T.map B := by
  obtain ⟨zs, hl, e, hw⟩ := cells_ints Tryd.underlying29 Tryd.underlying5 (by kernel_rfl) (by kernel_rfl) h
  refine ⟨zs.map fun z => UInt8.ofNat z.toNat, by simpa using hl, ?_⟩
  rw [e, List.map_map]
  apply List.map_congr_left
  intro z hz
  have := hw z hz
  simp [Lit.wf] at this
  have h1 : IntKind.u8.min = 0 := by decide
  have h2 : IntKind.u8.max = 255 := by decide
  show Value.int .u8 z = .int .u8 _
  congr 1
  rw [UInt8.toNat_ofNat_of_lt' (Nat.lt_of_lt_of_le (show z.toNat < 256 by omega) (by decide))]
  omega

/-- a slice of rows that came in -/
theorem rows_open {α : Type} {C : α → List Value} {ok : α → Prop} {z : Nat} {t e : TypeId} (ht : Tryd.prog.underlying t = some (.slice e)) (c1 : Tryd.prog.cellsOf e = z) (hz : 0 < z) (hlen : ∀ k, ok k → (C k).length = z)
    (hcells : ∀ (n : Nat) (cs : List Value) (x : DataW H × List MemPlace), DataW.trod enc Tryd.prog W 0 (fun _ => true) true n e cs = some x → ∃ k, cs = C k ∧ ok k)
    (hf : DataW.trod enc Tryd.prog W 0 (fun _ => true) true fuel t cs = some x) :
    ∃ a len cap l, cs = [.slice a len cap] ∧ (len : Int) ≤ 9223372036854775807 ∧ (∀ x ∈ l, ok x) ∧ (len ≤ 5000 → IsC C z W a len cap l) ∧ (cap = 0 ∨ ∃ g off, a = some ⟨g, off, none⟩) := by
  rcases DataW.trod_slice ht hf with ⟨hcs, hx⟩ | ⟨a, len, cap, elems, rest, n, hn, hcs, hx, hb, hl, hm, hel, hat, hsp, _⟩
  · exact ⟨none, 0, 0, [], hcs, by decide, by simp, fun _ => ⟨rfl, Nat.le_refl _, by decide, by decide, by simp, .inl rfl⟩, .inl rfl⟩
  · rw [c1] at hat hsp
    obtain ⟨hrl, hrest⟩ := hsp rfl
    unfold maxLen at hm
    have hall : ∀ i, i < cap → ∃ T : α, ok T ∧ W.cells? 0 (a.add (i * z)) z = some (C T) := fun i hi => by
      have key : ∃ y, (W.cells? 0 (a.add (i * z)) z).bind (DataW.trod enc Tryd.prog W 0 (fun _ => true) true n e) = some y := by
        by_cases h : i < len
        · exact ⟨_, (hat i h).trans (List.getElem?_eq_getElem (by omega))⟩
        · have := hrest (i - len) (by omega)
          rw [show len + (i - len) = i from by omega] at this
          exact ⟨_, this.trans (List.getElem?_eq_getElem (by omega))⟩
      obtain ⟨y, hy⟩ := key
      obtain ⟨cs, h1, h2⟩ := Option.bind_eq_some_iff.1 hy
      obtain ⟨T, rfl, hT⟩ := hcells _ _ _ h2
      exact ⟨T, hT, h1⟩
    have hrow : ∀ m, m ≤ len → ∃ l : List α, l.length = m ∧ (∀ d ∈ l, ok d) ∧ ∀ j u, (l.flatMap C)[j]? = some u → W.cell? (a.add j) = some u := by
      intro m
      induction m with
      | zero => exact fun _ => ⟨[], rfl, by simp, fun j u h => by simp at h⟩
      | succ m ih =>
        intro hm'
        obtain ⟨l, h1, h2, h3⟩ := ih (by omega)
        obtain ⟨T, hT, hc⟩ := hall m (by omega)
        refine ⟨l ++ [T], by simp [h1], ?_, fun j u hj => ?_⟩
        · intro d hd
          rcases List.mem_append.1 hd with h | h
          · exact h2 d h
          · rw [List.mem_singleton.1 h]; exact hT
        · rw [List.flatMap_append, show [T].flatMap C = C T from by simp] at hj
          have hdl := isC_flat_len (C := C) (z := z) (l := l) fun x hx => hlen x (h2 x hx)
          by_cases hjl : j < m * z
          · rw [List.getElem?_append_left (by rw [hdl, h1]; exact hjl)] at hj
            exact h3 j u hj
          · rw [List.getElem?_append_right (by rw [hdl, h1]; omega), hdl, h1] at hj
            have hj32 : j - m * z < z := by have := (List.getElem?_eq_some_iff.1 hj).1; rwa [hlen T hT] at this
            have := (World.cells?_some hc).2.2 (j - m * z) hj32
            rw [hj] at this
            rw [Addr.add_add, show m * z + (j - m * z) = j from by omega] at this
            exact this
    obtain ⟨l, hl1, hl2, hl3⟩ := hrow len (Nat.le_refl _)
    have hspot : 0 < cap → a = ⟨a.block, a.off, none⟩ ∧ a.block < W.heap.size := fun h => by
      obtain ⟨T, hT, hc⟩ := hall 0 h
      have h0 := (World.cells?_some hc).2.2 0 hz
      rw [List.getElem?_eq_getElem (show 0 < (C T).length by rw [hlen T hT]; exact hz)] at h0
      obtain ⟨ab, ao, spot⟩ := a
      have hspot : spot = none := by simpa [Addr.add] using World.cell?_spot h0
      subst hspot
      refine ⟨rfl, ?_⟩
      rw [Addr.add_add, Addr.add_mid] at h0
      have := block_lt_of_cell h0
      exact this
    refine ⟨some a, len, cap, l, hcs, by omega, hl2, fun h40 => ⟨hl1, hl, h40, by omega, fun x hx => hlen x (hl2 x hx), ?_⟩, ?_⟩
    · rcases Nat.eq_zero_or_pos len with h0 | h0
      · exact .inl h0
      · right
        obtain ⟨ea, hlt⟩ := hspot (by omega)
        refine ⟨a.block, a.off, by rw [← ea], fun j u hu => ?_, hlt⟩
        have := hl3 j u hu
        rw [ea, Addr.add_mid] at this
        exact this
    · rcases Nat.eq_zero_or_pos cap with h0 | h0
      · exact .inl h0
      · exact .inr ⟨a.block, a.off, by rw [← (hspot h0).1]⟩

theorem cells_pos (h : DataW.trod enc Tryd.prog W base sp hd fuel 31 cs = some x) : ∃ k : Po, cs = k.C ∧ k.ok := by
  obtain ⟨y0, y1, n, _, hl, h0, h1⟩ := trod_struct2 Tryd.underlying31 h
  have c1 : Tryd.prog.cellsOf 3 = 1 := by kernel_rfl
  have c3 : Tryd.prog.cellsOf 29 = 32 := by kernel_rfl
  have c2 : Tryd.prog.cellsOf 31 = 33 := by kernel_rfl
  rw [c2] at hl
  simp only [c1, c3] at h0 h1
  obtain ⟨o, e0, ho⟩ := cells_int h0
  obtain ⟨T, hT, e1⟩ := cells_digest h1
  refine ⟨⟨o, T⟩, ?_, hT, ho⟩
  show cs = [.int .i64 o] ++ T.map B
  rw [← e0, ← e1, List.take_of_length_le (l := List.drop 1 cs) (by rw [List.length_drop]; omega), List.drop_zero, List.take_append_drop]

/-- a device that came in -/
structure DevArg (W : World) (pa ga : Option Addr) (pn pc gn gc : Nat) (D : Dv) : Prop where
  pm : (pn : Int) ≤ 9223372036854775807
  gm : (gn : Int) ≤ 9223372036854775807
  p32 : ∀ x ∈ D.P, x.S.length = 32
  ps : pn ≤ 5000 → IsPs W pa pn pc D.P
  is_ : gn ≤ 5000 → IsIs W ga gn gc D.G
  pp : pc = 0 ∨ ∃ g off, pa = some ⟨g, off, none⟩
  gp : gc = 0 ∨ ∃ g off, ga = some ⟨g, off, none⟩
theorem posting_open {v : Value} {d : DataW H} {p : List MemPlace} (hval : Value.okWide Tryd.prog W .any base 31 v) (h1 : DataW.Trod enc Tryd.prog W 0 (fun _ => true) true 31 v d p) :
    ∃ k : Po, v = .agg k.C.toArray ∧ k.ok := by
  obtain ⟨cs, rfl, hsz⟩ := okWide_struct Tryd.underlying31 hval
  obtain ⟨fuel, hf⟩ := h1
  obtain ⟨k, e, h⟩ := cells_pos hf
  have e' : cs.toList = k.C := e
  exact ⟨k, by rw [← e'], h⟩
theorem device_open {v : Value} {d : DataW H} {p : List MemPlace} (hval : Value.okWide Tryd.prog W .any base 25 v) (h1 : DataW.Trod enc Tryd.prog W 0 (fun _ => true) true 25 v d p) :
    ∃ pa pn pc ga gn gc D, v = .agg #[.slice pa pn pc, .slice ga gn gc] ∧ DevArg W pa ga pn pc gn gc D := by
  obtain ⟨cs, rfl, hsz⟩ := okWide_struct Tryd.underlying25 hval
  obtain ⟨fuel, hf⟩ := h1
  have hf : DataW.trod enc Tryd.prog W 0 (fun _ => true) true fuel 25 cs.toList = some (d, p) := hf
  obtain ⟨y0, y1, n, _, hl, h0, h1⟩ := trod_struct2 Tryd.underlying25 hf
  have c1 : Tryd.prog.cellsOf 22 = 1 := by kernel_rfl
  have c2 : Tryd.prog.cellsOf 23 = 1 := by kernel_rfl
  have c3 : Tryd.prog.cellsOf 25 = 2 := by kernel_rfl
  rw [c3] at hl
  simp only [c1, c2] at h0 h1
  obtain ⟨pa, pn, pc, P, e0, pm, pok, ps, pp⟩ := rows_open (C := Po.C) (ok := Po.ok) (z := 33) Tryd.underlying22 (by kernel_rfl) (by decide) (fun k hk => Po.C_len hk.s32) (fun n cs x h => cells_pos h) h0
  obtain ⟨ga, gn, gc, G, e1, gm, _, gs, gp⟩ := rows_open (C := intC) (ok := I64) (z := 1) Tryd.underlying23 (by kernel_rfl) (by decide) (fun _ _ => rfl) (fun n cs x h => cells_int h) h1
  refine ⟨pa, pn, pc, ga, gn, gc, ⟨P, G⟩, ?_, pm, gm, fun x hx => (pok x hx).s32, ps, gs, pp, gp⟩
  match hcs : cs.toList, hl with
  | [a, b], _ =>
    rw [hcs] at e0 e1
    simp at e0 e1
    subst e0; subst e1
    rw [← hcs]
end
end Frk

