/- Parts of the proof, joined. -/
import Derived.Test.YtnpnboldjbljaaaDoorVfOgv
import Derived.Test.YtnpnboldjbljaaaDoorVfgEnv
import Derived.Test.YtnpnboldjbljaaaDoorRows
import Derived.Test.YtnpnboldjbljaaaDoorTie
import Derived.Test.YtnpnboldjbljaaaDoorCards
import Derived.ProofKit
import Derived.LaidMore
import Derived.OpenShut
import Derived.Carry
import Derived.ChangeSame
import Derived.ChangeSlices
import Derived.Stop.Joined
import Derived.SevenTiedAt
import Derived.Lib.SmallJoins
/- Law 44: collides. -/
namespace Frk
open Go Go.RowKit Go.Proofs
set_option maxRecDepth 100000

def ColF (s : Int) (k n : Nat) (f : Value → Option Value) : Prop := n ≤ k ∧ (∀ i j : Nat, i < j → j < k → serB s (i : Nat) = serB s (j : Nat) → n < k) ∧ ∀ T : Bytes, (f (dv T)).isSome = true ↔ ∃ i : Nat, i < k ∧ serB s (i : Nat) = T
theorem ColF.zero (s : Int) : ColF s 0 0 (fun _ => none) := ⟨Nat.le_refl _, fun i j _ h => by omega, fun T => ⟨fun h => by simp at h, fun ⟨i, h, _⟩ => by omega⟩⟩
theorem ColF.succ {s : Int} {k n n' : Nat} {f : Value → Option Value} (h : ColF s k n f) (hn : n' = if (f (dv (serB s (k : Nat)))).isSome then n else n + 1) : ColF s (k + 1) n' (upd f (dv (serB s (k : Nat))) (.bool true)) := by
  obtain ⟨h1, h2, h3⟩ := h
  have hf : ∀ T : Bytes, ((upd f (dv (serB s (k : Nat))) (.bool true)) (dv T)).isSome = true ↔ ∃ i : Nat, i < k + 1 ∧ serB s (i : Nat) = T := fun T => by
    by_cases e : T = serB s (k : Nat)
    · subst e
      rw [upd_same]
      exact ⟨fun _ => ⟨k, by omega, rfl⟩, fun _ => rfl⟩
    · rw [upd_other _ _ (fun h => e (dv_inj h)), h3]
      constructor
      · rintro ⟨i, hi, ei⟩; exact ⟨i, by omega, ei⟩
      · rintro ⟨i, hi, ei⟩
        refine ⟨i, ?_, ei⟩
        rcases Nat.lt_or_ge i k with h | h
        · exact h
        · exact absurd (by rw [← ei, show i = k from by omega]) e
  cases hs : (f (dv (serB s (k : Nat)))).isSome with
  | true =>
    rw [hs, if_pos rfl] at hn
    subst hn
    exact ⟨by omega, fun _ _ _ _ _ => by omega, hf⟩
  | false =>
    rw [hs, if_neg (by simp)] at hn
    subst hn
    refine ⟨by omega, fun i j hij hj e => ?_, hf⟩
    by_cases hjk : j < k
    · have := h2 i j hij hjk e; omega
    · obtain rfl : j = k := by omega
      have := (h3 (serB s (j : Nat))).2 ⟨i, hij, e⟩
      rw [hs] at this
      cases this

set_option maxHeartbeats 4000000 in
theorem collides_any (s : Int) (w : World) (hG : Glob w) (hs : I64 s) (hc : ∃ i j : Nat, i < j ∧ j < 8 ∧ serB s (i : Nat) = serB s (j : Nat)) :
    Calls Tryd.prog 29 #[.int .i64 s] w fun e w' => e = .returned (.bool true) ∧ Below w.heap.size w w' := by
  obtain ⟨X, hX⟩ : ∃ X, X = w.alloc (.map #[] 0) := ⟨_, rfl⟩
  obtain ⟨m, hm⟩ : ∃ m, m = w.heap.size := ⟨_, rfl⟩
  have M0 : Seal (MapN X Tryd.prog 29 m 0 (fun _ => none)) := ⟨by rw [hX, hm]; exact mapN_made w _ _⟩
  have B0 : Seal (Below w.heap.size w X) := ⟨by rw [hX]; exact below_alloc _ _⟩
  have HG : Seal (∀ W, Below w.heap.size w W → Glob W) := ⟨fun W h => hG.below h⟩
  have HS := Seal.mk hs
  have HC := Seal.mk hc
  have HM : Seal (w.heap.size ≤ m) := ⟨by rw [hm]; exact Nat.le_refl _⟩
  clear hG hs hc
  have hmm := @run_makeMap Tryd.prog
  go_enter Tryd.func29, Tryd.ntmps29
  go_wp2
  rw [← hX, ← hm]
  clear hX hm hmm
  go_loopw [6] (fun i wr => ∃ (k n : Nat) (f : Value → Option Value), k ≤ 8 ∧ i = .int .i64 k ∧ Seal (Below w.heap.size w wr ∧ MapN wr Tryd.prog 29 m n f ∧ ColF s k n f)) (fun i _ => 8 - (intOf i).toNat)
  case atStart => exact ⟨0, 0, _, by omega, rfl, ⟨B0.out, M0.out, ColF.zero s⟩⟩
  case round =>
    obtain ⟨wo, rfl⟩ : ∃ z, z = wr := ⟨_, rfl⟩
    obtain ⟨k, n, f, hk, rfl, hH⟩ := hrel
    by_cases hlt : k < 8
    · have q5 : (k : Int) < 8 := by omega
      have HO : Seal (I64 (k : Nat)) := ⟨by unfold I64; omega⟩
      obtain ⟨T, hT⟩ : ∃ T, T = serB s (k : Nat) := ⟨_, rfl⟩
      have HSe : Seal (Calls Tryd.prog 16 #[.int .i64 s, .int .i64 (k : Nat)] wo fun e w' => e = .returned (.agg (T.map B).toArray) ∧ Below wo.heap.size wo w') := ⟨by rw [hT]; exact dserial_any s (k : Nat) wo (HG.out _ hH.out.1) HS.out HO.out⟩
      have LT : Seal (T.length = 32) := ⟨by rw [hT]; exact serB_len s _⟩
      obtain ⟨kl, hkl⟩ := keyOf_dig LT.out
      have HKL := Seal.mk hkl
      have HT := Seal.mk hT
      obtain ⟨n', hn'⟩ : ∃ n', n' = if (f (dv T)).isSome then n else n + 1 := ⟨_, rfl⟩
      have HN := Seal.mk hn'
      clear hT hkl hn'
      go_wp2_with fail
      refine HSe.out.mono ?_
      clear HSe
      rintro e w1 ⟨rfl, hb⟩
      have H1 : Seal (Below w.heap.size w w1 ∧ MapN w1 Tryd.prog 29 m n f ∧ ColF s k n f) := ⟨hH.out.1.trans (hb.mono hH.out.1.size), hH.out.2.1.below hb, hH.out.2.2⟩
      clear hb hH
      go_wp2_with (refine wpList_updN rfl (.tmp 9) (.tmp 12) (.const (.bool true)) 102 rfl 29 4 dig_keys Tryd.underlying102 m n n' f rfl H1.out.2.1 (by have := H1.out.2.2.1; unfold maxLen; omega) (dv T) (.bool true) rfl rfl HKL.out HN.out ?_; intro w2 hm2 hg2 _; have H2 : Seal (Below w.heap.size w w2 ∧ MapN w2 Tryd.prog 29 m n' (upd f (dv T) (.bool true)) ∧ ColF s (k + 1) n' (upd f (dv T) (.bool true))) := ⟨H1.out.1.grown hg2 H1.out.1.size (fun j e => by cases e; exact HM.out), hm2, by rw [HT.out]; exact H1.out.2.2.succ (by rw [← HT.out]; exact HN.out)⟩; clear hm2 hg2; (try simp only [Act.put]))
      go_roundw
      case rel => exact ⟨k + 1, n', _, by omega, by go_num, H2⟩
      case measure => simp [intOf]; omega
    · obtain rfl : k = 8 := by omega
      have hn : n < 8 := by
        obtain ⟨i, j, hij, hj, e⟩ := HC.out
        exact hH.out.2.2.2.1 i j hij hj e
      have q5 : (n : Int) < 8 := by omega
      go_wp2_with (refine wpList_lenN rfl (.tmp 14) 102 rfl 29 4 Tryd.underlying102 m n f rfl hH.out.2.1 ?_; (try simp only [Act.put, List.setIfInBounds_toArray, List.set_cons_zero, List.set_cons_succ]))
      go_ret
      exact ⟨rfl, hH.out.1⟩
end Frk

/- From the walk of a law to its row: what is shared by the laws. -/
namespace Frk
open Go Go.RowKit Go.Proofs Go.ChangeShapes Go.WideShapes Go.ChangeAt
set_option maxRecDepth 100000

theorem own : ownKnob Tryd.prog.godebug = none := by kernel_rfl
theorem laidOut : laidOutB Tryd.prog = true := by kernel_rfl
theorem gStart : Tryd.prog.globalNamed "franking/digest.start" = some 0 := by kernel_rfl
theorem gNums : Tryd.prog.globalNamed "franking/digest.numbers" = some 1 := by kernel_rfl
theorem tStart : (Tryd.prog.globals[0]?).map (·.type) = some 130 := by kernel_rfl
theorem tNums : (Tryd.prog.globals[1]?).map (·.type) = some 144 := by kernel_rfl

/-- the listed variables -/
def laid : List (String × DataW Unit) := [("franking/digest.start", Go.Proofs.YtnpnboldjbljaaaDoor.Rows.laid_franking_digest_start), ("franking/digest.numbers", Go.Proofs.YtnpnboldjbljaaaDoor.Rows.laid_franking_digest_numbers)]

/-- an array of numbers that reads as such -/
theorem ints_of_array {H : Type} {enc : TypeId × Value → H} {P : Program} {W : World} {base fuel n : Nat} {sp : Nat → Bool} {hd : Bool} {t e : TypeId} {k : IntKind} {cs : List Value} {zs : List Int} {ps : List MemPlace} (ht : P.underlying t = some (.array n e)) (he : P.underlying e = some (.int k)) (hc : P.cellsOf e = 1)
    (h : DataW.trod enc P W base sp hd fuel t cs = some (.agg (zs.map fun z => .lit (.int k z)), ps)) : cs.take n = zs.map fun z => .int k z := by
  obtain ⟨xs, m, rfl, hx, hlen, hn, hel⟩ := DataW.trod_array ht h
  simp only [Prod.mk.injEq, DataW.agg.injEq] at hx
  apply List.ext_getElem?
  intro i
  by_cases hi : i < n
  · obtain ⟨x, hxi⟩ : ∃ x, xs[i]? = some x := ⟨_, List.getElem?_eq_getElem (by omega)⟩
    have h1 := hel i hi
    rw [hxi, hc] at h1
    obtain ⟨z, e1, e2, _⟩ := DataW.trod_int he h1
    have h2 := congrArg (·[i]?) hx.1
    simp only [List.getElem?_map, hxi, e2, Option.map_some] at h2
    rw [List.getElem?_take, if_pos hi, List.getElem?_map]
    have h3 : cs[i]? = some (.int k z) := by
      have := congrArg (·[0]?) e1
      simp only [List.getElem?_take, List.getElem?_drop] at this
      simpa using this
    cases hz : zs[i]? with
    | none => rw [hz] at h2; cases h2
    | some y =>
      rw [hz] at h2
      simp at h2
      rw [h3, h2]; rfl
  · have hl := congrArg List.length hx.1
    simp only [List.length_map] at hl
    rw [List.getElem?_take, if_neg hi, List.getElem?_map, List.getElem?_eq_none (by omega)]
    rfl

theorem glob_of_laid {W : World} (h : laidMetH Tryd.prog laid W) : Glob W := by
  rw [MakeChecks.laidMetH_plain _ _ _ (by kernel_rfl)] at h
  obtain ⟨ps, ⟨g0, t0, cs0, f0, p0, q0, hg0, ht0, hv0, hd0, ⟨g1, t1, cs1, f1, p1, q1, hg1, ht1, hv1, hd1, _, _⟩, _⟩, _, _⟩ := h
  obtain rfl := Option.some.inj (gStart.symm.trans hg0)
  obtain rfl := Option.some.inj (gNums.symm.trans hg1)
  obtain rfl := Option.some.inj (tStart.symm.trans ht0)
  obtain rfl := Option.some.inj (tNums.symm.trans ht1)
  have c1 : Tryd.prog.cellsOf 129 = 1 := by kernel_rfl
  have a0 := ints_of_array (zs := iv.list.map fun n : Nat => (n : Int)) Tryd.underlying130 Tryd.underlying129 c1 hd0
  have a1 := ints_of_array (zs := Kt.map fun n : Nat => (n : Int)) Tryd.underlying144 Tryd.underlying129 c1 hd1
  refine ⟨fun j v hv => ?_, fun j v hv => ?_⟩
  · have h8 : j < 8 := by have := (List.getElem?_eq_some_iff.1 hv).1; simpa [St.list] using this
    rw [Nat.zero_add, World.var?_cell hg0 hv0 j]
    have := congrArg (·[j]?) a0
    simp only [List.getElem?_take, if_pos h8, List.map_map] at this
    rw [← Array.getElem?_toList, this, ← hv]
    rfl
  · have h64 : j < 64 := by have := (List.getElem?_eq_some_iff.1 hv).1; simpa [Kt] using this
    rw [Nat.zero_add, World.var?_cell hg1 hv1 j]
    have := congrArg (·[j]?) a1
    simp only [List.getElem?_take, if_pos h64, List.map_map] at this
    rw [← Array.getElem?_toList, this, ← hv]
    rfl

/-- the door's own heap meets the condition -/
theorem door_met (os : Os) (args : Array Value) : laidMetH Tryd.prog laid ((World.doorLaid Tryd.prog 400 os).forCall (fun _ _ => 0) ⟨#[], args, []⟩).memory :=
  laidMetH_of_parts3 (fuel := 8) (laidMet_of_run' 8 (by kernel_rfl) (by kernel_rfl)) (by kernel_rfl) (by kernel_rfl)

/-- arguments read behind the call as they did before -/
theorem trodAll_carry {H : Type} {enc : TypeId × Value → H} {W W' : World} {sp : Nat → Bool} (hb : Below W.heap.size W W') :
    ∀ {ts : List TypeId} {vs : List Value} {ds : List (DataW H)} {ps : List MemPlace}, (∀ t ∈ ts, Tryd.prog.readableRec t = true ∧ t < Tryd.prog.types.size) → DataW.TrodAll enc Tryd.prog W 0 (fun _ => true) true ts vs ds ps →
      (∀ p ∈ ps, p.block < W.heap.size) → (∀ p ∈ ps, sp p.block = true) → DataW.TrodAll enc Tryd.prog W' 0 sp true ts vs ds ps := by
  intro ts
  induction ts with
  | nil =>
    intro vs ds ps _ h _ _
    match vs, ds, h with
    | [], [], h => exact h
    | [], _ :: _, h => exact h.elim
    | _ :: _, [], h => exact h.elim
    | _ :: _, _ :: _, h => exact h.elim
  | cons t ts ih =>
    intro vs ds ps ht h hlt hsp
    match vs, ds, h with
    | [], [], h => exact h.elim
    | [], _ :: _, h => exact h.elim
    | _ :: _, [], h => exact h.elim
    | v :: vs, d :: ds, ⟨p, q, h1, h2, e⟩ =>
      subst e
      exact ⟨p, q, WideElems.Trod_stays laidOut (ht t (by simp)).1 (ht t (by simp)).2 h1 (fun x hx => hb.same (hlt x (by simp [hx]))) (fun x hx => hsp x (by simp [hx])),
        ih (fun t' h' => ht t' (by simp [h'])) h2 (fun x hx => hlt x (by simp [hx])) (fun x hx => hsp x (by simp [hx])), rfl⟩

theorem post_of_below {H : Type} {enc : TypeId × Value → H} {P : Program} {f : Func} {s : ChangeSpec} {apart fresh handsOn again : Bool} {W W' : World} {args : Array Value} {v : Value} {ds gs : List (DataW H)} {before pa pv : List MemPlace}
    (hW : DataW.Whole enc P f.params.toList s.vars apart W args.toList ds gs before)
    (hres : ∀ (b : Nat) (sp : Nat → Bool) (hd : Bool), DataW.TrodAll enc P W' b sp hd f.resultTypes.toList (v.resultList f.resultTypes.size) (s.fn H (ds ++ gs)).results [])
    (hargs : ∀ sp : Nat → Bool, (∀ p ∈ before, sp p.block = true) → DataW.TrodAll enc P W' 0 sp true f.params.toList args.toList (s.fn H (ds ++ gs)).args pa)
    (hvars : ∀ sp : Nat → Bool, (∀ p ∈ before, sp p.block = true) → DataW.TrodVars enc P W' sp s.vars (s.fn H (ds ++ gs)).vars pv)
    (hps : before = pa ++ pv) (hb : Below W.heap.size W W')
    (hok : ∀ (j : Nat) (t : TypeId) (r : Value), f.resultTypes[j]? = some t → (v.resultList f.resultTypes.size)[j]? = some r → Value.okWide P W' .any 0 t r) :
    s.post enc P f apart fresh handsOn again W args v W' := by
  have hlt : ∀ p ∈ before, p.block < W.heap.size := fun p hp => hW.lt p hp
  have hold : ∀ p ∈ before, (fun b => decide (b < W.heap.size)) p.block = true := fun p hp => by simpa using hlt p hp
  refine ⟨ds, gs, before, [], pa, pv, hW, hres _ _ _, hargs _ hold, hvars _ hold, World.keptBut_mono (fun p hp => ⟨hp, ?_⟩) (hb.frame (· ∈ before)), fun _ => ?_⟩
  · rw [hps, List.mem_append] at hp
    exact Or.inr hp
  · obtain ⟨_, _, _, _, _, hz, hn⟩ := hW
    refine ⟨hok, _, _, ([] ++ pa) ++ pv, ⟨[] ++ pa, pv, trodAll_append (hargs _ (fun _ _ => rfl)) (hres _ _ _), hvars _ (fun _ _ => rfl), rfl, ?_, ?_⟩, ?_⟩
    · intro b off hp
      have hin : MemPlace.cell b off ∈ before := by rw [hps]; simpa using hp
      rw [hb.frozen (hlt _ hin)]
      exact hz b off hin
    · intro ha
      have := hn ha
      rw [hps] at this
      simpa using this
    · intro p hp _
      rw [hps]
      simpa using hp

/-- a law has answered true, and what there was is as it was -/
theorem law_fin {H : Type} {enc : TypeId × Value → H} {fnc : Func} {s : ChangeSpec} {W W' : World} {args : Array Value} {ds : List (DataW H)} {before : List MemPlace}
    (hts : ∀ t ∈ fnc.params.toList, Tryd.prog.readableRec t = true ∧ t < Tryd.prog.types.size) (hr : fnc.resultTypes = #[4]) (hvars : s.vars = []) (hfn : s.fn H ds = { results := [.lit (.bool true)], args := ds })
    (hW : DataW.Whole enc Tryd.prog fnc.params.toList s.vars false W args.toList ds [] before) (hb : Below W.heap.size W W') : s.post enc Tryd.prog fnc false true false false W args (.bool true) W' := by
  have hW' := hW
  obtain ⟨p, q, hA, hV, rfl, hfz, hnd⟩ := hW
  rw [hvars] at hV
  obtain ⟨_, rfl⟩ := trodVars_none hV
  have hlt := fun x hx => hW'.lt x hx
  refine post_of_below (pa := p) (pv := []) hW' (fun _ _ _ => ?_) (fun sp hsp => ?_) (fun sp _ => ?_) rfl hb ?_
  · rw [List.append_nil, hfn, hr]
    exact trodAll_mk1 (shut_bool Tryd.underlying4 _)
  · rw [List.append_nil, hfn]
    exact trodAll_carry hb hts hA (fun x hx => hlt x (by simpa using hx)) (fun x hx => hsp x (by simpa using hx))
  · rw [List.append_nil, hfn, hvars]
    rfl
  · exact ok_one hr rfl (okWide_bool_mk Tryd.underlying4 _)

theorem i64min : IntKind.i64.min = -9223372036854775808 := by decide
theorem i64max : IntKind.i64.max = 9223372036854775807 := by decide

theorem int_open {H : Type} {enc : TypeId × Value → H} {W : World} {base : Nat} {v : Value} {d : DataW H} {p : List MemPlace} (hval : Value.okWide Tryd.prog W .any base 3 v) (h1 : DataW.Trod enc Tryd.prog W 0 (fun _ => true) true 3 v d p) :
    ∃ x, v = .int .i64 x ∧ -9223372036854775808 ≤ x ∧ x ≤ 9223372036854775807 := by
  obtain ⟨x, rfl, _, _, hw⟩ := open_int Tryd.underlying3 hval h1
  refine ⟨x, rfl, ?_⟩
  simp [Lit.wf] at hw
  have h1 := i64min
  have h2 := i64max
  omega

end Frk

