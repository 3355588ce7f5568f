/- The statement StampsOnce of frankinglaw37 holds: for every input the law returns true, and each argument reads afterwards as it read before. Conditions: those of the row (the listed variables start as the program's text lays them; the card ties them). -/
import Derived.Test.YtcioeedlfbioaaaDoorStp
import Derived.Test.YtcioeedlfbioaaaDoorBla
import Derived.Test.YtcioeedlfbioaaaDoorRpu
import Derived.Test.YtcioeedlfbioaaaDoorGrd
import Derived.Test.YtcioeedlfbioaaaDoorRsg
import Derived.Test.YtcioeedlfbioaaaDoorDls
import Derived.Test.YtcioeedlfbioaaaDoorHol
namespace Frk
open Go Go.RowKit Go.Proofs
set_option maxRecDepth 100000

theorem esecret_any (n : Int) (t : Bool) (w : World) (ht : secB n = t) : Calls Tryd.prog 68 #[.int .i64 n] w fun e w' => e = .returned (.bool t) ∧ w = w' := by
  unfold secB at ht
  have HT := Seal.mk ht
  clear ht
  by_cases h0 : 1 ≤ n
  · by_cases h1 : n < 1073741789
    · have HF : Seal (t = true) := ⟨by rw [← HT.out, decide_eq_true (show 0 < n by omega), decide_eq_true h1]; rfl⟩
      go_enter Tryd.func68, Tryd.ntmps68
      go_wp2
      go_ret
      exact ⟨ret_bool HF.out.symm, rfl⟩
    · have HF : Seal (t = false) := ⟨by rw [← HT.out, decide_eq_false h1]; simp⟩
      go_enter Tryd.func68, Tryd.ntmps68
      go_wp2
      go_ret
      exact ⟨ret_bool HF.out.symm, rfl⟩
  · have HF : Seal (t = false) := ⟨by rw [← HT.out, decide_eq_false (show ¬ 0 < n by omega)]; simp⟩
    go_enter Tryd.func68, Tryd.ntmps68
    go_wp2
    go_ret
    exact ⟨ret_bool HF.out.symm, rfl⟩

/-- what Public returns (and blind's Begin) -/
def pubF (n : Int) : Int × Int := if secB n = true then (((pw 4 n : Nat) : Int), 0) else (0, 110)

theorem public_at (n d e0 : Int) (w : World) (h : Seal (pubF n = (d, e0))) (h1 : -9223372036854775808 ≤ n) (h2 : n ≤ 9223372036854775807) : Calls Tryd.prog 28 #[.int .i64 n] w fun e w' => e = .returned (.tuple #[.int .i64 d, .int .i64 e0]) ∧ Below w.heap.size w w' := by
  have h' := h.out
  unfold pubF at h'
  cases hs : secB n with
  | false =>
    rw [hs, if_neg (by decide)] at h'
    obtain ⟨rfl, rfl⟩ := Prod.mk.inj h'
    have HS := Seal.mk hs
    clear h h' hs h1 h2
    go_enter Tryd.func28, Tryd.ntmps28
    go_wp2_with (go_at_call 68; refine (esecret_any _ _ _ HS.out).mono ?_; rintro e w' ⟨rfl, rfl⟩)
    go_ret2
    exact ⟨rfl, Below.refl _ _⟩
  | true =>
    rw [hs, if_pos rfl] at h'
    obtain ⟨rfl, rfl⟩ := Prod.mk.inj h'
    have HS := Seal.mk hs
    have HP : Seal _ := ⟨pow_yes 4 n w (by decide +kernel) h1 h2⟩
    clear h h' hs h1 h2
    go_enter Tryd.func28, Tryd.ntmps28
    go_wp2_with (first | (go_at_call 68; refine (esecret_any _ _ _ HS.out).mono ?_; rintro e w' ⟨rfl, rfl⟩) | (go_at_call 69; refine HP.out.mono ?_; rintro e w' ⟨rfl, hb⟩))
    go_ret2
    exact ⟨rfl, hb⟩

/-- a secret, a value from any number -/
def secF (a : Int) : Int := 1 + a % 1073741788
def valF (n : Int) : Int := n % 18446744073709551616 % 1099511627777
theorem secF_ok (a : Int) : secB (secF a) = true := by unfold secB secF; simp; omega
theorem valF_ok (n : Int) : fitB (valF n) = true := by unfold fitB valF; simp; omega

theorem lsecret_any (a x : Int) (w : World) (h0 : 0 ≤ a) (h1 : a < 4294967296) (hx : Seal (secF a = x)) : Calls Tryd.prog 35 #[.int .u32 a] w fun e w' => e = .returned (.int .i64 x) ∧ w = w' := by
  have h := hx.out
  unfold secF at h
  have HX := Seal.mk h
  clear h hx
  go_enter Tryd.func35, Tryd.ntmps35
  go_wp2
  go_ret
  exact ⟨ret_i64 (by rw [← HX.out]; try (first | rfl | omega)), rfl⟩

theorem lvalue_any (n x : Int) (w : World) (hx : Seal (valF n = x)) : Calls Tryd.prog 37 #[.int .i64 n] w fun e w' => e = .returned (.int .i64 x) ∧ w = w' := by
  have h := hx.out
  unfold valF at h
  have HX := Seal.mk h
  clear h hx
  go_enter Tryd.func37, Tryd.ntmps37
  go_wp2
  go_ret
  exact ⟨ret_i64 (by rw [← HX.out, IntKind.wrap_u64, Int.tmod_eq_emod_of_nonneg (by omega), IntWalk.wrap64_in _ ⟨by omega, by omega⟩]), rfl⟩

/-- results that lie in a block known whole, and in four slots -/
theorem results_row_tmp4 {P : Program} {fn : Func} {p q1 q2 q3 q4 : Tmp} {ty : TypeId} (h : fn.results = #[.cell p ty, .tmp q1, .tmp q2, .tmp q3, .tmp q4]) (tmps : Array Value) (w : World) (g : Nat) (t : TypeId) (cs : Array Value) (fr : Nat × Nat) (d : TypeDesc) (v1 v2 v3 v4 : Value)
    (hp : tmps.getD p undef = .pointer (some ⟨g, 0, none⟩)) (h1 : tmps.getD q1 undef = v1) (h2 : tmps.getD q2 undef = v2) (h3 : tmps.getD q3 undef = v3) (h4 : tmps.getD q4 undef = v4) (hg : w.heap[g]? = some (.cells cs t fr))
    (hu : P.underlying ty = some d) (hd : (match d with | .struct _ | .array _ _ => true | _ => false) = true) (hi : (P.info? ty).map (·.size) = some cs.size) :
    (results fn tmps).run P w = .ok (.tuple #[.agg cs, v1, v2, v3, v4]) w := by
  have hp' : tmps[p]?.getD undef = .pointer (some ⟨g, 0, none⟩) := by simpa using hp
  have h1' : tmps[q1]?.getD undef = v1 := by simpa using h1
  have h2' : tmps[q2]?.getD undef = v2 := by simpa using h2
  have h3' : tmps[q3]?.getD undef = v3 := by simpa using h3
  have h4' : tmps[q4]?.getD undef = v4 := by simpa using h4
  simp [results, h, hp', h1', h2', h3', h4', asAddr, run_loadVar_row w g t ty cs fr d hg hu hd hi]

set_option maxHeartbeats 2000000 in
theorem issued_any (x n key r c s E Sg val u v : Int) (T : Bytes) (w : World) (hG : Glob w) (hT : T.length = 32) (x1 : -9223372036854775808 ≤ x) (x2 : x ≤ 9223372036854775807) (n1 : -9223372036854775808 ≤ n) (n2 : n ≤ 9223372036854775807) (u1 : -9223372036854775808 ≤ u) (u2 : u ≤ 9223372036854775807) (v1 : -9223372036854775808 ≤ v) (v2 : v ≤ 9223372036854775807)
    (HP : Seal (pubF x = (key, 0))) (HB : Seal (pubF n = (r, 0))) (HA : Seal (saskF key r T val u v = (c, 0))) (HN : Seal (answerC x n c = (s, 0))) (HK : Seal (stakeF key r T val u v s = (T, val, E, Sg, 0))) :
    Calls Tryd.prog 36 #[.int .i64 x, .int .i64 n, .agg (T.map B).toArray, .int .i64 val, .int .i64 u, .int .i64 v] w fun e w' => e = .returned (.tuple #[.agg (stC T val E Sg).toArray, .int .i64 r, .int .i64 c, .int .i64 s, .bool true]) ∧ Below w.heap.size w w' := by
  have C1 : Seal (∀ W, Calls Tryd.prog 28 #[.int .i64 x] W fun e w' => e = .returned (.tuple #[.int .i64 key, .int .i64 0]) ∧ Below W.heap.size W w') := ⟨fun W => public_at x key 0 W HP x1 x2⟩
  have C2 : Seal (∀ W, Calls Tryd.prog 80 #[.int .i64 n] W fun e w' => e = .returned (.tuple #[.int .i64 r, .int .i64 0]) ∧ Below W.heap.size W w') := ⟨fun W => begin_at n r 0 W HB n1 n2⟩
  obtain ⟨TC, hTC⟩ : ∃ TC, TC = T.map B := ⟨_, rfl⟩
  have C3 : Seal (∀ W, Glob W → Calls Tryd.prog 45 #[.int .i64 key, .int .i64 r, .agg TC.toArray, .int .i64 val, .int .i64 u, .int .i64 v] W fun e w' => e = .returned (.tuple #[.int .i64 c, .int .i64 0]) ∧ Below W.heap.size W w') := ⟨fun W h => by rw [hTC]; exact sask_any key r u v c 0 val T W HA u1 u2 v1 v2 h hT⟩
  have C4 : Seal (∀ W, Calls Tryd.prog 81 #[.int .i64 x, .int .i64 n, .int .i64 c] W fun e w' => e = .returned (.tuple #[.int .i64 s, .int .i64 0]) ∧ Below W.heap.size W w') := ⟨fun W => answer_at x n c s 0 W HN⟩
  obtain ⟨F, hF⟩ : ∃ F, F = stC T val E Sg := ⟨_, rfl⟩
  have C5 : Seal (∀ W, Glob W → Calls Tryd.prog 46 #[.int .i64 key, .int .i64 r, .agg TC.toArray, .int .i64 val, .int .i64 u, .int .i64 v, .int .i64 s] W fun e w' => e = .returned (.tuple #[.agg F.toArray, .int .i64 0]) ∧ Below W.heap.size W w') := ⟨fun W h => by rw [hTC, hF]; exact stake_any key r u v s val val E Sg 0 T T W HK u1 u2 v1 v2 h hT⟩
  have IT : Seal ((Tryd.prog.info? 25).map (·.size) = some TC.toArray.size) := ⟨by rw [hTC, List.size_toArray]; exact dg_info T hT⟩
  have IF : Seal ((Tryd.prog.info? 69).map (·.size) = some F.toArray.size) := ⟨by rw [hF, List.size_toArray]; exact stC_info hT⟩
  have SF : Seal ((List.toArray (.int .u8 0 :: .int .u8 0 :: .int .u8 0 :: .int .u8 0 :: .int .u8 0 :: .int .u8 0 :: .int .u8 0 :: .int .u8 0 :: .int .u8 0 :: .int .u8 0 :: .int .u8 0 :: .int .u8 0 :: .int .u8 0 :: .int .u8 0 :: .int .u8 0 :: .int .u8 0 :: .int .u8 0 :: .int .u8 0 :: .int .u8 0 :: .int .u8 0 :: .int .u8 0 :: .int .u8 0 :: .int .u8 0 :: .int .u8 0 :: .int .u8 0 :: .int .u8 0 :: .int .u8 0 :: .int .u8 0 :: .int .u8 0 :: .int .u8 0 :: .int .u8 0 :: .int .u8 0 :: .int .i64 0 :: .int .i64 0 :: .int .i64 0 :: [] : List Value) : Array Value).size = F.toArray.size) := ⟨by show 35 = F.toArray.size; rw [hF, List.size_toArray, stC_len hT]⟩
  have AF : Seal (F.toArray.all (·.oneCell') = true) := ⟨by rw [hF]; exact all_oneCell_toArray (stC_one _ _ _ _)⟩
  have HE0 : Seal (Env ((w.alloc (.cells TC.toArray 25)).alloc (.cells (List.toArray (.int .u8 0 :: .int .u8 0 :: .int .u8 0 :: .int .u8 0 :: .int .u8 0 :: .int .u8 0 :: .int .u8 0 :: .int .u8 0 :: .int .u8 0 :: .int .u8 0 :: .int .u8 0 :: .int .u8 0 :: .int .u8 0 :: .int .u8 0 :: .int .u8 0 :: .int .u8 0 :: .int .u8 0 :: .int .u8 0 :: .int .u8 0 :: .int .u8 0 :: .int .u8 0 :: .int .u8 0 :: .int .u8 0 :: .int .u8 0 :: .int .u8 0 :: .int .u8 0 :: .int .u8 0 :: .int .u8 0 :: .int .u8 0 :: .int .u8 0 :: .int .u8 0 :: .int .u8 0 :: .int .i64 0 :: .int .i64 0 :: .int .i64 0 :: [] : List Value) : Array Value) 69)) none 0 0 [] [(w.heap.size + 1, .cells (List.toArray (.int .u8 0 :: .int .u8 0 :: .int .u8 0 :: .int .u8 0 :: .int .u8 0 :: .int .u8 0 :: .int .u8 0 :: .int .u8 0 :: .int .u8 0 :: .int .u8 0 :: .int .u8 0 :: .int .u8 0 :: .int .u8 0 :: .int .u8 0 :: .int .u8 0 :: .int .u8 0 :: .int .u8 0 :: .int .u8 0 :: .int .u8 0 :: .int .u8 0 :: .int .u8 0 :: .int .u8 0 :: .int .u8 0 :: .int .u8 0 :: .int .u8 0 :: .int .u8 0 :: .int .u8 0 :: .int .u8 0 :: .int .u8 0 :: .int .u8 0 :: .int .u8 0 :: .int .u8 0 :: .int .i64 0 :: .int .i64 0 :: .int .i64 0 :: [] : List Value) : Array Value) 69), (w.heap.size, .cells TC.toArray 25)]) := ⟨by
    have h := Env.push (Env.push (bs := []) ⟨hG, isB_nil w, by intro p hp; cases hp⟩ (.cells TC.toArray 25)) (.cells (List.toArray (.int .u8 0 :: .int .u8 0 :: .int .u8 0 :: .int .u8 0 :: .int .u8 0 :: .int .u8 0 :: .int .u8 0 :: .int .u8 0 :: .int .u8 0 :: .int .u8 0 :: .int .u8 0 :: .int .u8 0 :: .int .u8 0 :: .int .u8 0 :: .int .u8 0 :: .int .u8 0 :: .int .u8 0 :: .int .u8 0 :: .int .u8 0 :: .int .u8 0 :: .int .u8 0 :: .int .u8 0 :: .int .u8 0 :: .int .u8 0 :: .int .u8 0 :: .int .u8 0 :: .int .u8 0 :: .int .u8 0 :: .int .u8 0 :: .int .u8 0 :: .int .u8 0 :: .int .u8 0 :: .int .i64 0 :: .int .i64 0 :: .int .i64 0 :: [] : List Value) : Array Value) 69)
    simp only [size_alloc] at h
    exact h⟩
  have HB0 : Seal (Below w.heap.size w ((w.alloc (.cells TC.toArray 25)).alloc (.cells (List.toArray (.int .u8 0 :: .int .u8 0 :: .int .u8 0 :: .int .u8 0 :: .int .u8 0 :: .int .u8 0 :: .int .u8 0 :: .int .u8 0 :: .int .u8 0 :: .int .u8 0 :: .int .u8 0 :: .int .u8 0 :: .int .u8 0 :: .int .u8 0 :: .int .u8 0 :: .int .u8 0 :: .int .u8 0 :: .int .u8 0 :: .int .u8 0 :: .int .u8 0 :: .int .u8 0 :: .int .u8 0 :: .int .u8 0 :: .int .u8 0 :: .int .u8 0 :: .int .u8 0 :: .int .u8 0 :: .int .u8 0 :: .int .u8 0 :: .int .u8 0 :: .int .u8 0 :: .int .u8 0 :: .int .i64 0 :: .int .i64 0 :: .int .i64 0 :: [] : List Value) : Array Value) 69))) := ⟨((Below.refl _ w).alloc (Nat.le_refl _) _).alloc (by simp) _⟩
  rw [← hTC, ← hF]
  clear hG hT hTC hF x1 x2 n1 n2 u1 u2 v1 v2 HP HB HA HN HK
  go_enter Tryd.func36, Tryd.ntmps36
  go_wp2_with fail
  refine (C1.out _).mono ?_
  rintro e w1 ⟨rfl, hb⟩
  have HE1 := Seal.mk (HE0.out.below hb)
  have HB1 := Seal.mk (HB0.out.trans (hb.mono HB0.out.size))
  clear hb HE0 HB0 C1
  go_wp2_with fail
  refine (C2.out _).mono ?_
  rintro e w2 ⟨rfl, hb⟩
  have HE2 := Seal.mk (HE1.out.below hb)
  have HB2 := Seal.mk (HB1.out.trans (hb.mono HB1.out.size))
  clear hb HE1 HB1 C2
  have R1 := Seal.mk (HE2.out.keep (w.heap.size, .cells TC.toArray 25) (by simp))
  go_wp2_with (refine wpList_load_row rfl 25 (.tmp 8) rfl w.heap.size rfl 25 TC.toArray (0, 0) _ R1.out Tryd.underlying25 rfl IT.out ?_)
  refine (C3.out _ HE2.out.glob).mono ?_
  rintro e w3 ⟨rfl, hb⟩
  have HE3 := Seal.mk (HE2.out.below hb)
  have HB3 := Seal.mk (HB2.out.trans (hb.mono HB2.out.size))
  clear hb HE2 HB2 C3 R1
  go_wp2_with fail
  refine (C4.out _).mono ?_
  rintro e w4 ⟨rfl, hb⟩
  have HE4 := Seal.mk (HE3.out.below hb)
  have HB4 := Seal.mk (HB3.out.trans (hb.mono HB3.out.size))
  clear hb HE3 HB3 C4
  have R1 := Seal.mk (HE4.out.keep (w.heap.size, .cells TC.toArray 25) (by simp))
  go_wp2_with (refine wpList_load_row rfl 25 (.tmp 8) rfl w.heap.size rfl 25 TC.toArray (0, 0) _ R1.out Tryd.underlying25 rfl IT.out ?_)
  refine (C5.out _ HE4.out.glob).mono ?_
  rintro e w5 ⟨rfl, hb⟩
  have HE5 := Seal.mk (HE4.out.below hb)
  have HB5 := Seal.mk (HB4.out.trans (hb.mono HB4.out.size))
  clear hb HE4 HB4 C5 R1
  have RZ := Seal.mk (HE5.out.keep (w.heap.size + 1, .cells (List.toArray (.int .u8 0 :: .int .u8 0 :: .int .u8 0 :: .int .u8 0 :: .int .u8 0 :: .int .u8 0 :: .int .u8 0 :: .int .u8 0 :: .int .u8 0 :: .int .u8 0 :: .int .u8 0 :: .int .u8 0 :: .int .u8 0 :: .int .u8 0 :: .int .u8 0 :: .int .u8 0 :: .int .u8 0 :: .int .u8 0 :: .int .u8 0 :: .int .u8 0 :: .int .u8 0 :: .int .u8 0 :: .int .u8 0 :: .int .u8 0 :: .int .u8 0 :: .int .u8 0 :: .int .u8 0 :: .int .u8 0 :: .int .u8 0 :: .int .u8 0 :: .int .u8 0 :: .int .u8 0 :: .int .i64 0 :: .int .i64 0 :: .int .i64 0 :: [] : List Value) : Array Value) 69) (by simp))
  have RF : Seal ((w5.setRow (w.heap.size + 1) F.toArray).heap[w.heap.size + 1]? = some (.cells F.toArray 69 (0, 0))) := ⟨setRow_heap _ _ _ _ _ _ RZ.out⟩
  have HB6 : Seal (Below w.heap.size w (w5.setRow (w.heap.size + 1) F.toArray)) := ⟨below_row HB5.out (Nat.le_add_right _ _) _⟩
  clear HE5
  go_wp2_with (first | (refine wpList_store_row rfl 69 (.tmp 12) (.tmp 59) rfl (w.heap.size + 1) F.toArray rfl rfl 69 (List.toArray (.int .u8 0 :: .int .u8 0 :: .int .u8 0 :: .int .u8 0 :: .int .u8 0 :: .int .u8 0 :: .int .u8 0 :: .int .u8 0 :: .int .u8 0 :: .int .u8 0 :: .int .u8 0 :: .int .u8 0 :: .int .u8 0 :: .int .u8 0 :: .int .u8 0 :: .int .u8 0 :: .int .u8 0 :: .int .u8 0 :: .int .u8 0 :: .int .u8 0 :: .int .u8 0 :: .int .u8 0 :: .int .u8 0 :: .int .u8 0 :: .int .u8 0 :: .int .u8 0 :: .int .u8 0 :: .int .u8 0 :: .int .u8 0 :: .int .u8 0 :: .int .u8 0 :: .int .u8 0 :: .int .i64 0 :: .int .i64 0 :: .int .i64 0 :: [] : List Value) : Array Value) RZ.out IF.out SF.out AF.out ?_) | (refine wpList_load_row rfl 69 (.tmp 12) rfl (w.heap.size + 1) rfl 69 F.toArray (0, 0) _ RF.out Tryd.underlying69 rfl IF.out ?_) | (refine wpList_store_row rfl 69 (.tmp 12) (.tmp 61) rfl (w.heap.size + 1) F.toArray rfl rfl 69 F.toArray RF.out IF.out rfl AF.out ?_))
  exact bodyPost_ret (results_row_tmp4 (fn := Tryd.f36) rfl _ _ (w.heap.size + 1) 69 F.toArray (0, 0) _ _ _ _ _ rfl rfl rfl rfl rfl (setRow_heap _ _ _ _ _ _ RF.out) Tryd.underlying69 rfl IF.out) rfl ⟨rfl, below_row HB6.out (Nat.le_add_right _ _) _⟩

/-- what a stamp is made of that a bank issues -/
structure Issue (x n : Int) (T : Bytes) (val u v key r c s E Sg : Int) : Prop where
  pub : pubF x = (key, 0)
  beg : pubF n = (r, 0)
  ask : saskF key r T val u v = (c, 0)
  ans : answerC x n c = (s, 0)
  take : stakeF key r T val u v s = (T, val, E, Sg, 0)
  right : vrB key (stT T val) E Sg = true
  fits : trC key r c s = true
  hc : 0 ≤ c ∧ c < 1073741789
  hs : 0 ≤ s ∧ s < 1073741789
  hkey : ((pw 4 x : Nat) : Int) = key

theorem issue_plain (x n u v val : Int) (T : Bytes) (hx : secB x = true) (hn : secB n = true) (hv : fitB val = true) : ∃ key r c s E Sg, Issue x n T val u v key r c s E Sg := by
  have v1 : vd ((pw 4 x : Nat) : Int) = true := vd_of_nat (vd4.pw x)
  have v2 : vd ((pw 4 n : Nat) : Int) = true := vd_of_nat (vd4.pw n)
  obtain ⟨c, hc⟩ : ∃ c : Int, c = (lq ((blHash (pw 4 x : Nat) (pw 4 n : Nat) (stT T val) u v : Nat) + (lq v : Nat)) : Nat) := ⟨_, rfl⟩
  obtain ⟨s, hs⟩ : ∃ s : Int, s = (lq (n + (lq c : Nat) * x) : Nat) := ⟨_, rfl⟩
  have hf := right_fin x n u v (stT T val) c s hc hs
  have ht := right_tr x n c
  rw [← hs] at ht
  refine ⟨((pw 4 x : Nat) : Int), ((pw 4 n : Nat) : Int), c, s, ((blHash (pw 4 x : Nat) (pw 4 n : Nat) (stT T val) u v : Nat) : Int), ((lq ((lq s : Nat) + (lq u : Nat)) : Nat) : Int), ⟨?_, ?_, ?_, ?_, ?_, hf, ht, by rw [hc]; exact lq_rng _, by rw [hs]; exact lq_rng _, rfl⟩⟩
  · unfold pubF; rw [if_pos hx]
  · unfold pubF; rw [if_pos hn]
  · unfold saskF askC; rw [if_pos hv, if_pos (by rw [v1, v2]; rfl), hc]
  · unfold answerC; rw [if_pos (by rw [hx, hn]; rfl), hs]
  · have e1 : finishC (pw 4 x : Nat) (pw 4 n : Nat) (stT T val) u v s = (((blHash (pw 4 x : Nat) (pw 4 n : Nat) (stT T val) u v : Nat) : Int), ((lq ((lq s : Nat) + (lq u : Nat)) : Nat) : Int), 0) := by
      unfold finishC
      rw [if_pos (by rw [v1, v2]; rfl), if_pos hf]
    unfold stakeF
    rw [if_pos hv, e1, if_pos rfl]

def dS : Bytes := [1, 0, 0, 0, 0, 0, 0, 0, 0, 0, 0, 0, 0, 0, 0, 0, 0, 0, 0, 0, 0, 0, 0, 0, 0, 0, 0, 0, 0, 0, 0, 0]
def oS : Bytes := [0, 7, 0, 0, 0, 0, 0, 0, 0, 0, 0, 0, 0, 0, 0, 0, 0, 0, 0, 0, 0, 0, 0, 0, 0, 0, 0, 0, 0, 0, 0, 0]
theorem dS_len : dS.length = 32 := rfl
theorem oS_len : oS.length = 32 := rfl
theorem dS_lit : (.int .u8 1 :: .int .u8 0 :: .int .u8 0 :: .int .u8 0 :: .int .u8 0 :: .int .u8 0 :: .int .u8 0 :: .int .u8 0 :: .int .u8 0 :: .int .u8 0 :: .int .u8 0 :: .int .u8 0 :: .int .u8 0 :: .int .u8 0 :: .int .u8 0 :: .int .u8 0 :: .int .u8 0 :: .int .u8 0 :: .int .u8 0 :: .int .u8 0 :: .int .u8 0 :: .int .u8 0 :: .int .u8 0 :: .int .u8 0 :: .int .u8 0 :: .int .u8 0 :: .int .u8 0 :: .int .u8 0 :: .int .u8 0 :: .int .u8 0 :: .int .u8 0 :: .int .u8 0 :: [] : List Value) = dS.map B := by rfl
theorem oS_lit : (.int .u8 0 :: .int .u8 7 :: .int .u8 0 :: .int .u8 0 :: .int .u8 0 :: .int .u8 0 :: .int .u8 0 :: .int .u8 0 :: .int .u8 0 :: .int .u8 0 :: .int .u8 0 :: .int .u8 0 :: .int .u8 0 :: .int .u8 0 :: .int .u8 0 :: .int .u8 0 :: .int .u8 0 :: .int .u8 0 :: .int .u8 0 :: .int .u8 0 :: .int .u8 0 :: .int .u8 0 :: .int .u8 0 :: .int .u8 0 :: .int .u8 0 :: .int .u8 0 :: .int .u8 0 :: .int .u8 0 :: .int .u8 0 :: .int .u8 0 :: .int .u8 0 :: .int .u8 0 :: [] : List Value) = oS.map B := by rfl

theorem isD_new (w : World) (l : List Bytes) (n : Nat) (t : TypeId) (hn : l.length = n) (he : ∀ d ∈ l, d.length = 32) (hm : n ≤ 1099511627776) : IsD (w.alloc (.cells (dcells l).toArray t)) (some ⟨w.heap.size, 0, none⟩) n n l :=
  ⟨hn, Nat.le_refl _, hm, by omega, he, .inr ⟨_, 0, rfl, rangeAt_new w _ _ _, by rw [size_alloc]; omega⟩⟩

theorem fold_lay_at (k : Nat) : ∀ (L : List Value) (j : Nat) (Z : List Value), k + j + L.length ≤ Z.length → (L.zipIdx j).foldl (fun cs x => cs.setIfInBounds (k + x.2) x.1) Z.toArray = (lay Z (k + j) L).toArray
  | [], j, Z, _ => by rw [lay_nil]; rfl
  | v :: L, j, Z, h => by
    have hk : k + j < Z.length := by simp at h; omega
    rw [List.zipIdx_cons, List.foldl_cons, List.setIfInBounds_toArray, fold_lay_at k L (j + 1) (Z.set (k + j) v) (by simp at h ⊢; omega), ← Nat.add_assoc, lay_cons hk]

theorem fold_two {A C : List Value} (ha : A.length = 32) (hc : C.length = 32) : ∃ D0 : List Value, A.zipIdx.foldl (fun (cs : Array Value) (x : Value × Nat) => cs.setIfInBounds x.2 x.1) (.int .u8 0 :: .int .u8 0 :: .int .u8 0 :: .int .u8 0 :: .int .u8 0 :: .int .u8 0 :: .int .u8 0 :: .int .u8 0 :: .int .u8 0 :: .int .u8 0 :: .int .u8 0 :: .int .u8 0 :: .int .u8 0 :: .int .u8 0 :: .int .u8 0 :: .int .u8 0 :: .int .u8 0 :: .int .u8 0 :: .int .u8 0 :: .int .u8 0 :: .int .u8 0 :: .int .u8 0 :: .int .u8 0 :: .int .u8 0 :: .int .u8 0 :: .int .u8 0 :: .int .u8 0 :: .int .u8 0 :: .int .u8 0 :: .int .u8 0 :: .int .u8 0 :: .int .u8 0 :: .int .u8 0 :: .int .u8 0 :: .int .u8 0 :: .int .u8 0 :: .int .u8 0 :: .int .u8 0 :: .int .u8 0 :: .int .u8 0 :: .int .u8 0 :: .int .u8 0 :: .int .u8 0 :: .int .u8 0 :: .int .u8 0 :: .int .u8 0 :: .int .u8 0 :: .int .u8 0 :: .int .u8 0 :: .int .u8 0 :: .int .u8 0 :: .int .u8 0 :: .int .u8 0 :: .int .u8 0 :: .int .u8 0 :: .int .u8 0 :: .int .u8 0 :: .int .u8 0 :: .int .u8 0 :: .int .u8 0 :: .int .u8 0 :: .int .u8 0 :: .int .u8 0 :: .int .u8 0 :: [] : List Value).toArray = D0.toArray ∧ D0.length = 64 ∧ C.zipIdx.foldl (fun (cs : Array Value) (x : Value × Nat) => cs.setIfInBounds (32 + x.2) x.1) D0.toArray = (A ++ C).toArray := by
  refine ⟨lay (.int .u8 0 :: .int .u8 0 :: .int .u8 0 :: .int .u8 0 :: .int .u8 0 :: .int .u8 0 :: .int .u8 0 :: .int .u8 0 :: .int .u8 0 :: .int .u8 0 :: .int .u8 0 :: .int .u8 0 :: .int .u8 0 :: .int .u8 0 :: .int .u8 0 :: .int .u8 0 :: .int .u8 0 :: .int .u8 0 :: .int .u8 0 :: .int .u8 0 :: .int .u8 0 :: .int .u8 0 :: .int .u8 0 :: .int .u8 0 :: .int .u8 0 :: .int .u8 0 :: .int .u8 0 :: .int .u8 0 :: .int .u8 0 :: .int .u8 0 :: .int .u8 0 :: .int .u8 0 :: .int .u8 0 :: .int .u8 0 :: .int .u8 0 :: .int .u8 0 :: .int .u8 0 :: .int .u8 0 :: .int .u8 0 :: .int .u8 0 :: .int .u8 0 :: .int .u8 0 :: .int .u8 0 :: .int .u8 0 :: .int .u8 0 :: .int .u8 0 :: .int .u8 0 :: .int .u8 0 :: .int .u8 0 :: .int .u8 0 :: .int .u8 0 :: .int .u8 0 :: .int .u8 0 :: .int .u8 0 :: .int .u8 0 :: .int .u8 0 :: .int .u8 0 :: .int .u8 0 :: .int .u8 0 :: .int .u8 0 :: .int .u8 0 :: .int .u8 0 :: .int .u8 0 :: .int .u8 0 :: [] : List Value) 0 A, fold_lay A 0 (.int .u8 0 :: .int .u8 0 :: .int .u8 0 :: .int .u8 0 :: .int .u8 0 :: .int .u8 0 :: .int .u8 0 :: .int .u8 0 :: .int .u8 0 :: .int .u8 0 :: .int .u8 0 :: .int .u8 0 :: .int .u8 0 :: .int .u8 0 :: .int .u8 0 :: .int .u8 0 :: .int .u8 0 :: .int .u8 0 :: .int .u8 0 :: .int .u8 0 :: .int .u8 0 :: .int .u8 0 :: .int .u8 0 :: .int .u8 0 :: .int .u8 0 :: .int .u8 0 :: .int .u8 0 :: .int .u8 0 :: .int .u8 0 :: .int .u8 0 :: .int .u8 0 :: .int .u8 0 :: .int .u8 0 :: .int .u8 0 :: .int .u8 0 :: .int .u8 0 :: .int .u8 0 :: .int .u8 0 :: .int .u8 0 :: .int .u8 0 :: .int .u8 0 :: .int .u8 0 :: .int .u8 0 :: .int .u8 0 :: .int .u8 0 :: .int .u8 0 :: .int .u8 0 :: .int .u8 0 :: .int .u8 0 :: .int .u8 0 :: .int .u8 0 :: .int .u8 0 :: .int .u8 0 :: .int .u8 0 :: .int .u8 0 :: .int .u8 0 :: .int .u8 0 :: .int .u8 0 :: .int .u8 0 :: .int .u8 0 :: .int .u8 0 :: .int .u8 0 :: .int .u8 0 :: .int .u8 0 :: [] : List Value) (by rw [ha]; decide), by rw [length_lay (by rw [ha]; decide)]; rfl, ?_⟩
  have h := fold_lay_at 32 C 0 (lay (.int .u8 0 :: .int .u8 0 :: .int .u8 0 :: .int .u8 0 :: .int .u8 0 :: .int .u8 0 :: .int .u8 0 :: .int .u8 0 :: .int .u8 0 :: .int .u8 0 :: .int .u8 0 :: .int .u8 0 :: .int .u8 0 :: .int .u8 0 :: .int .u8 0 :: .int .u8 0 :: .int .u8 0 :: .int .u8 0 :: .int .u8 0 :: .int .u8 0 :: .int .u8 0 :: .int .u8 0 :: .int .u8 0 :: .int .u8 0 :: .int .u8 0 :: .int .u8 0 :: .int .u8 0 :: .int .u8 0 :: .int .u8 0 :: .int .u8 0 :: .int .u8 0 :: .int .u8 0 :: .int .u8 0 :: .int .u8 0 :: .int .u8 0 :: .int .u8 0 :: .int .u8 0 :: .int .u8 0 :: .int .u8 0 :: .int .u8 0 :: .int .u8 0 :: .int .u8 0 :: .int .u8 0 :: .int .u8 0 :: .int .u8 0 :: .int .u8 0 :: .int .u8 0 :: .int .u8 0 :: .int .u8 0 :: .int .u8 0 :: .int .u8 0 :: .int .u8 0 :: .int .u8 0 :: .int .u8 0 :: .int .u8 0 :: .int .u8 0 :: .int .u8 0 :: .int .u8 0 :: .int .u8 0 :: .int .u8 0 :: .int .u8 0 :: .int .u8 0 :: .int .u8 0 :: .int .u8 0 :: [] : List Value) 0 A) (by rw [length_lay (by rw [ha]; decide), hc]; decide)
  rw [Nat.add_zero] at h
  rw [h]
  unfold lay
  rw [List.take_zero, List.nil_append, List.take_left' ha, hc]
  have : (A ++ List.drop (0 + A.length) (.int .u8 0 :: .int .u8 0 :: .int .u8 0 :: .int .u8 0 :: .int .u8 0 :: .int .u8 0 :: .int .u8 0 :: .int .u8 0 :: .int .u8 0 :: .int .u8 0 :: .int .u8 0 :: .int .u8 0 :: .int .u8 0 :: .int .u8 0 :: .int .u8 0 :: .int .u8 0 :: .int .u8 0 :: .int .u8 0 :: .int .u8 0 :: .int .u8 0 :: .int .u8 0 :: .int .u8 0 :: .int .u8 0 :: .int .u8 0 :: .int .u8 0 :: .int .u8 0 :: .int .u8 0 :: .int .u8 0 :: .int .u8 0 :: .int .u8 0 :: .int .u8 0 :: .int .u8 0 :: .int .u8 0 :: .int .u8 0 :: .int .u8 0 :: .int .u8 0 :: .int .u8 0 :: .int .u8 0 :: .int .u8 0 :: .int .u8 0 :: .int .u8 0 :: .int .u8 0 :: .int .u8 0 :: .int .u8 0 :: .int .u8 0 :: .int .u8 0 :: .int .u8 0 :: .int .u8 0 :: .int .u8 0 :: .int .u8 0 :: .int .u8 0 :: .int .u8 0 :: .int .u8 0 :: .int .u8 0 :: .int .u8 0 :: .int .u8 0 :: .int .u8 0 :: .int .u8 0 :: .int .u8 0 :: .int .u8 0 :: .int .u8 0 :: .int .u8 0 :: .int .u8 0 :: .int .u8 0 :: [] : List Value)).drop (32 + 32) = [] := List.drop_of_length_le (by rw [List.length_append, List.length_drop, ha]; decide)
  rw [this, List.append_nil]

set_option maxHeartbeats 16000000 in
theorem ssane_core (key r c s : Int) (X1 Zs : List Value) (w : World) (hG : Glob w)
    (IX : Seal ((Tryd.prog.info? 69).map (·.size) = some X1.length)) (IXa : Seal ((Tryd.prog.info? 69).map (·.size) = some X1.toArray.size)) (LX : Seal ((.int .u8 0 :: .int .u8 0 :: .int .u8 0 :: .int .u8 0 :: .int .u8 0 :: .int .u8 0 :: .int .u8 0 :: .int .u8 0 :: .int .u8 0 :: .int .u8 0 :: .int .u8 0 :: .int .u8 0 :: .int .u8 0 :: .int .u8 0 :: .int .u8 0 :: .int .u8 0 :: .int .u8 0 :: .int .u8 0 :: .int .u8 0 :: .int .u8 0 :: .int .u8 0 :: .int .u8 0 :: .int .u8 0 :: .int .u8 0 :: .int .u8 0 :: .int .u8 0 :: .int .u8 0 :: .int .u8 0 :: .int .u8 0 :: .int .u8 0 :: .int .u8 0 :: .int .u8 0 :: .int .i64 0 :: .int .i64 0 :: .int .i64 0 :: [] : List Value).length = X1.length)) (OX : Seal (∀ u ∈ X1, u.oneCell' = true))
    (IZ : Seal ((Tryd.prog.info? 69).map (·.size) = some Zs.length)) (LZ : Seal ((.int .u8 0 :: .int .u8 0 :: .int .u8 0 :: .int .u8 0 :: .int .u8 0 :: .int .u8 0 :: .int .u8 0 :: .int .u8 0 :: .int .u8 0 :: .int .u8 0 :: .int .u8 0 :: .int .u8 0 :: .int .u8 0 :: .int .u8 0 :: .int .u8 0 :: .int .u8 0 :: .int .u8 0 :: .int .u8 0 :: .int .u8 0 :: .int .u8 0 :: .int .u8 0 :: .int .u8 0 :: .int .u8 0 :: .int .u8 0 :: .int .u8 0 :: .int .u8 0 :: .int .u8 0 :: .int .u8 0 :: .int .u8 0 :: .int .u8 0 :: .int .u8 0 :: .int .u8 0 :: .int .i64 0 :: .int .i64 0 :: .int .i64 0 :: [] : List Value).length = Zs.length)) (OZ : Seal (∀ u ∈ Zs, u.oneCell' = true))
    (Bd : List Value) (hBd : Seal (X1.set 32 (.int .i64 (-1)) = Bd)) (IBa : Seal ((Tryd.prog.info? 69).map (·.size) = some Bd.toArray.size))
    (rX : Seal (X1.take 32 = dS.map B)) (cX : Seal (X1.toArray[32]? = some (.int .i64 20)))
    (HP : Seal (∀ W, Calls Tryd.prog 28 #[.int .i64 5] W fun e w' => e = .returned (.tuple #[.int .i64 key, .int .i64 0]) ∧ Below W.heap.size W w'))
    (HI : Seal (∀ W, Glob W → Calls Tryd.prog 36 #[.int .i64 5, .int .i64 9, .agg (dS.map B).toArray, .int .i64 20, .int .i64 3, .int .i64 4] W fun e w' => e = .returned (.tuple #[.agg X1.toArray, .int .i64 r, .int .i64 c, .int .i64 s, .bool true]) ∧ Below W.heap.size W w'))
    (HC1 : Seal (∀ W, Glob W → Calls Tryd.prog 38 #[.int .i64 key, .agg X1.toArray] W fun e w' => e = .returned (.bool true) ∧ Below W.heap.size W w'))
    (HC2 : Seal (∀ W, Glob W → Calls Tryd.prog 38 #[.int .i64 2, .agg X1.toArray] W fun e w' => e = .returned (.bool false) ∧ Below W.heap.size W w'))
    (HC3 : Seal (∀ W, Glob W → Calls Tryd.prog 38 #[.int .i64 key, .agg Bd.toArray] W fun e w' => e = .returned (.bool false) ∧ Below W.heap.size W w'))
    (HS : Seal (∀ (W : World) (a : Option Addr) (n c : Nat) (l' r' : List Bytes) (x : Int), Glob W → IsD W a n c l' → Seal (spendF true l' dS 370 = (r', x)) → Calls Tryd.prog 41 #[.slice a n c, .int .i64 key, .agg X1.toArray] W (DigPost r' x W)))
    (HS2 : Seal (∀ (W : World) (a : Option Addr) (n c : Nat) (l' : List Bytes), Glob W → IsD W a n c l' → Calls Tryd.prog 41 #[.slice a n c, .int .i64 2, .agg X1.toArray] W (DigPost [] 370 W)))
    (HA1 : Seal (∀ W, Glob W → Calls Tryd.prog 45 #[.int .i64 4, .int .i64 4, .agg (dS.map B).toArray, .int .i64 (-1), .int .i64 0, .int .i64 0] W fun e w' => e = .returned (.tuple #[.int .i64 0, .int .i64 370]) ∧ Below W.heap.size W w'))
    (HT1 : Seal (∀ W, Glob W → Calls Tryd.prog 46 #[.int .i64 4, .int .i64 4, .agg (dS.map B).toArray, .int .i64 1099511627777, .int .i64 0, .int .i64 0, .int .i64 0] W fun e w' => e = .returned (.tuple #[.agg Zs.toArray, .int .i64 370]) ∧ Below W.heap.size W w'))
    (HT2 : Seal (∀ W, Glob W → Calls Tryd.prog 46 #[.int .i64 2, .int .i64 4, .agg (dS.map B).toArray, .int .i64 5, .int .i64 0, .int .i64 0, .int .i64 0] W fun e w' => e = .returned (.tuple #[.agg Zs.toArray, .int .i64 90]) ∧ Below W.heap.size W w'))
    (HA2 : Seal (∀ W, Glob W → Calls Tryd.prog 45 #[.int .i64 4, .int .i64 2, .agg (dS.map B).toArray, .int .i64 5, .int .i64 0, .int .i64 0] W fun e w' => e = .returned (.tuple #[.int .i64 0, .int .i64 90]) ∧ Below W.heap.size W w')) :
    Calls Tryd.prog 34 #[] w fun e w' => e = .returned (.bool true) ∧ Below w.heap.size w w' := by
  obtain ⟨D1, hD1⟩ : ∃ D1, D1 = dS.map B := ⟨_, rfl⟩
  obtain ⟨O1, hO1⟩ : ∃ O1, O1 = oS.map B := ⟨_, rfl⟩
  have lD : D1.length = 32 := by rw [hD1, List.length_map]; rfl
  have lO : O1.length = 32 := by rw [hO1, List.length_map]; rfl
  have irD : (Tryd.prog.info? 25).map (·.size) = some 32 := by kernel_rfl
  have IDa : Seal ((Tryd.prog.info? 25).map (·.size) = some D1.toArray.size) := ⟨by rw [List.size_toArray, lD]; exact irD⟩
  have IOa : Seal ((Tryd.prog.info? 25).map (·.size) = some O1.toArray.size) := ⟨by rw [List.size_toArray, lO]; exact irD⟩
  have ID : Seal ((Tryd.prog.info? 25).map (·.size) = some D1.length) := ⟨by rw [lD]; exact irD⟩
  have hDL : Seal ((.int .u8 1 :: .int .u8 0 :: .int .u8 0 :: .int .u8 0 :: .int .u8 0 :: .int .u8 0 :: .int .u8 0 :: .int .u8 0 :: .int .u8 0 :: .int .u8 0 :: .int .u8 0 :: .int .u8 0 :: .int .u8 0 :: .int .u8 0 :: .int .u8 0 :: .int .u8 0 :: .int .u8 0 :: .int .u8 0 :: .int .u8 0 :: .int .u8 0 :: .int .u8 0 :: .int .u8 0 :: .int .u8 0 :: .int .u8 0 :: .int .u8 0 :: .int .u8 0 :: .int .u8 0 :: .int .u8 0 :: .int .u8 0 :: .int .u8 0 :: .int .u8 0 :: .int .u8 0 :: [] : List Value) = D1) := ⟨by rw [hD1]; exact dS_lit⟩
  have hOL : Seal ((.int .u8 0 :: .int .u8 7 :: .int .u8 0 :: .int .u8 0 :: .int .u8 0 :: .int .u8 0 :: .int .u8 0 :: .int .u8 0 :: .int .u8 0 :: .int .u8 0 :: .int .u8 0 :: .int .u8 0 :: .int .u8 0 :: .int .u8 0 :: .int .u8 0 :: .int .u8 0 :: .int .u8 0 :: .int .u8 0 :: .int .u8 0 :: .int .u8 0 :: .int .u8 0 :: .int .u8 0 :: .int .u8 0 :: .int .u8 0 :: .int .u8 0 :: .int .u8 0 :: .int .u8 0 :: .int .u8 0 :: .int .u8 0 :: .int .u8 0 :: .int .u8 0 :: .int .u8 0 :: [] : List Value) = O1) := ⟨by rw [hO1]; exact oS_lit⟩
  have KD : Seal (D1.toArray.all (·.oneCell') = true) := ⟨by rw [hD1]; exact all_oneCell_toArray (digest_one dS)⟩
  have KO : Seal (O1.toArray.all (·.oneCell') = true) := ⟨by rw [hO1]; exact all_oneCell_toArray (digest_one oS)⟩
  have SD : Seal ((.int .u8 0 :: .int .u8 0 :: .int .u8 0 :: .int .u8 0 :: .int .u8 0 :: .int .u8 0 :: .int .u8 0 :: .int .u8 0 :: .int .u8 0 :: .int .u8 0 :: .int .u8 0 :: .int .u8 0 :: .int .u8 0 :: .int .u8 0 :: .int .u8 0 :: .int .u8 0 :: .int .u8 0 :: .int .u8 0 :: .int .u8 0 :: .int .u8 0 :: .int .u8 0 :: .int .u8 0 :: .int .u8 0 :: .int .u8 0 :: .int .u8 0 :: .int .u8 0 :: .int .u8 0 :: .int .u8 0 :: .int .u8 0 :: .int .u8 0 :: .int .u8 0 :: .int .u8 0 :: [] : List Value).toArray.size = D1.toArray.size) := ⟨by show 32 = D1.toArray.size; rw [List.size_toArray, lD]⟩
  have SO : Seal ((.int .u8 0 :: .int .u8 0 :: .int .u8 0 :: .int .u8 0 :: .int .u8 0 :: .int .u8 0 :: .int .u8 0 :: .int .u8 0 :: .int .u8 0 :: .int .u8 0 :: .int .u8 0 :: .int .u8 0 :: .int .u8 0 :: .int .u8 0 :: .int .u8 0 :: .int .u8 0 :: .int .u8 0 :: .int .u8 0 :: .int .u8 0 :: .int .u8 0 :: .int .u8 0 :: .int .u8 0 :: .int .u8 0 :: .int .u8 0 :: .int .u8 0 :: .int .u8 0 :: .int .u8 0 :: .int .u8 0 :: .int .u8 0 :: .int .u8 0 :: .int .u8 0 :: .int .u8 0 :: [] : List Value).toArray.size = O1.toArray.size) := ⟨by show 32 = O1.toArray.size; rw [List.size_toArray, lO]⟩
  have HD1 := Seal.mk hD1
  have HO1 := Seal.mk hO1
  rw [← hD1] at HI HA1 HA2 HT1 HT2 rX
  obtain ⟨W0, hW0⟩ : ∃ W0, W0 = (w.alloc (.cells (.int .u8 0 :: .int .u8 0 :: .int .u8 0 :: .int .u8 0 :: .int .u8 0 :: .int .u8 0 :: .int .u8 0 :: .int .u8 0 :: .int .u8 0 :: .int .u8 0 :: .int .u8 0 :: .int .u8 0 :: .int .u8 0 :: .int .u8 0 :: .int .u8 0 :: .int .u8 0 :: .int .u8 0 :: .int .u8 0 :: .int .u8 0 :: .int .u8 0 :: .int .u8 0 :: .int .u8 0 :: .int .u8 0 :: .int .u8 0 :: .int .u8 0 :: .int .u8 0 :: .int .u8 0 :: .int .u8 0 :: .int .u8 0 :: .int .u8 0 :: .int .u8 0 :: .int .u8 0 :: [] : List Value).toArray 25)).alloc (.cells (.int .u8 0 :: .int .u8 0 :: .int .u8 0 :: .int .u8 0 :: .int .u8 0 :: .int .u8 0 :: .int .u8 0 :: .int .u8 0 :: .int .u8 0 :: .int .u8 0 :: .int .u8 0 :: .int .u8 0 :: .int .u8 0 :: .int .u8 0 :: .int .u8 0 :: .int .u8 0 :: .int .u8 0 :: .int .u8 0 :: .int .u8 0 :: .int .u8 0 :: .int .u8 0 :: .int .u8 0 :: .int .u8 0 :: .int .u8 0 :: .int .u8 0 :: .int .u8 0 :: .int .u8 0 :: .int .u8 0 :: .int .u8 0 :: .int .u8 0 :: .int .u8 0 :: .int .u8 0 :: [] : List Value).toArray 25) := ⟨_, rfl⟩
  have hz0 : W0.heap[w.heap.size]? = some (.cells (.int .u8 0 :: .int .u8 0 :: .int .u8 0 :: .int .u8 0 :: .int .u8 0 :: .int .u8 0 :: .int .u8 0 :: .int .u8 0 :: .int .u8 0 :: .int .u8 0 :: .int .u8 0 :: .int .u8 0 :: .int .u8 0 :: .int .u8 0 :: .int .u8 0 :: .int .u8 0 :: .int .u8 0 :: .int .u8 0 :: .int .u8 0 :: .int .u8 0 :: .int .u8 0 :: .int .u8 0 :: .int .u8 0 :: .int .u8 0 :: .int .u8 0 :: .int .u8 0 :: .int .u8 0 :: .int .u8 0 :: .int .u8 0 :: .int .u8 0 :: .int .u8 0 :: .int .u8 0 :: [] : List Value).toArray 25 (0, 0)) := by rw [hW0]; exact heap_alloc2_old w _ _
  have hz1 : W0.heap[w.heap.size + 1]? = some (.cells (.int .u8 0 :: .int .u8 0 :: .int .u8 0 :: .int .u8 0 :: .int .u8 0 :: .int .u8 0 :: .int .u8 0 :: .int .u8 0 :: .int .u8 0 :: .int .u8 0 :: .int .u8 0 :: .int .u8 0 :: .int .u8 0 :: .int .u8 0 :: .int .u8 0 :: .int .u8 0 :: .int .u8 0 :: .int .u8 0 :: .int .u8 0 :: .int .u8 0 :: .int .u8 0 :: .int .u8 0 :: .int .u8 0 :: .int .u8 0 :: .int .u8 0 :: .int .u8 0 :: .int .u8 0 :: .int .u8 0 :: .int .u8 0 :: .int .u8 0 :: .int .u8 0 :: .int .u8 0 :: [] : List Value).toArray 25 (0, 0)) := by rw [hW0]; exact heap_alloc2_new w _ _
  have HB00 : Below w.heap.size w W0 := by rw [hW0]; exact ((Below.refl _ w).alloc (Nat.le_refl _) _).alloc (by simp) _
  have HZ0 := Seal.mk hz0
  have HZ1 : Seal ((W0.setRow w.heap.size D1.toArray).heap[w.heap.size + 1]? = some (.cells (.int .u8 0 :: .int .u8 0 :: .int .u8 0 :: .int .u8 0 :: .int .u8 0 :: .int .u8 0 :: .int .u8 0 :: .int .u8 0 :: .int .u8 0 :: .int .u8 0 :: .int .u8 0 :: .int .u8 0 :: .int .u8 0 :: .int .u8 0 :: .int .u8 0 :: .int .u8 0 :: .int .u8 0 :: .int .u8 0 :: .int .u8 0 :: .int .u8 0 :: .int .u8 0 :: .int .u8 0 :: .int .u8 0 :: .int .u8 0 :: .int .u8 0 :: .int .u8 0 :: .int .u8 0 :: .int .u8 0 :: .int .u8 0 :: .int .u8 0 :: .int .u8 0 :: .int .u8 0 :: [] : List Value).toArray 25 (0, 0))) := ⟨(setRow_other W0 w.heap.size (w.heap.size + 1) D1.toArray (by omega)).trans hz1⟩
  obtain ⟨W2, hW2⟩ : ∃ W2, W2 = (W0.setRow w.heap.size D1.toArray).setRow (w.heap.size + 1) O1.toArray := ⟨_, rfl⟩
  have HB2 : Seal (Below w.heap.size w W2) := ⟨by rw [hW2]; exact below_row (below_row HB00 (Nat.le_refl _) _) (Nat.le_add_right _ _) _⟩
  have HE2 : Seal (Env W2 none 0 0 [] [(w.heap.size + 1, .cells O1.toArray 25), (w.heap.size, .cells D1.toArray 25)]) := ⟨hG.below HB2.out, isB_nil _, by
    intro p hp
    simp only [List.mem_cons, List.not_mem_nil, or_false] at hp
    rcases hp with rfl | rfl
    · rw [hW2]; exact setRow_heap _ _ _ _ _ _ HZ1.out
    · rw [hW2]
      exact (setRow_other _ (w.heap.size + 1) w.heap.size _ (by omega)).trans (setRow_heap _ _ _ _ _ _ HZ0.out)⟩
  have HW2 := Seal.mk hW2
  have HW0 := Seal.mk hW0
  have heq : ∀ W, (Op.equalIn 10000 25 (.agg D1.toArray) (.agg D1.toArray)).run Tryd.prog W = .ok true W := fun W => by rw [hD1, eqDig dS dS rfl rfl W]; simp
  obtain ⟨DO, hDO1, hDO2, hDO3⟩ := fold_two lO lD
  obtain ⟨DD, hDD1, hDD2, hDD3⟩ := fold_two lD lD
  have hO32 := fold_all (L := O1) (Z := (.int .u8 0 :: .int .u8 0 :: .int .u8 0 :: .int .u8 0 :: .int .u8 0 :: .int .u8 0 :: .int .u8 0 :: .int .u8 0 :: .int .u8 0 :: .int .u8 0 :: .int .u8 0 :: .int .u8 0 :: .int .u8 0 :: .int .u8 0 :: .int .u8 0 :: .int .u8 0 :: .int .u8 0 :: .int .u8 0 :: .int .u8 0 :: .int .u8 0 :: .int .u8 0 :: .int .u8 0 :: .int .u8 0 :: .int .u8 0 :: .int .u8 0 :: .int .u8 0 :: .int .u8 0 :: .int .u8 0 :: .int .u8 0 :: .int .u8 0 :: .int .u8 0 :: .int .u8 0 :: [] : List Value)) (by rw [lO]; rfl)
  have HF := Seal.mk (And.intro hDO1 (And.intro hDO2 (And.intro hDO3 (And.intro hDD1 (And.intro hDD2 (And.intro hDD3 hO32))))))
  clear hG hz0 hz1 HB00 hW2 hW0 hD1 hO1 hDO1 hDO2 hDO3 hDD1 hDD2 hDD3 hO32 irD
  go_enter Tryd.func34, Tryd.ntmps34
  go_upto_region 2 with (first | (refine wpList_store_row rfl 25 (.tmp 1) (.tmp 27) rfl w.heap.size (.int .u8 1 :: .int .u8 0 :: .int .u8 0 :: .int .u8 0 :: .int .u8 0 :: .int .u8 0 :: .int .u8 0 :: .int .u8 0 :: .int .u8 0 :: .int .u8 0 :: .int .u8 0 :: .int .u8 0 :: .int .u8 0 :: .int .u8 0 :: .int .u8 0 :: .int .u8 0 :: .int .u8 0 :: .int .u8 0 :: .int .u8 0 :: .int .u8 0 :: .int .u8 0 :: .int .u8 0 :: .int .u8 0 :: .int .u8 0 :: .int .u8 0 :: .int .u8 0 :: .int .u8 0 :: .int .u8 0 :: .int .u8 0 :: .int .u8 0 :: .int .u8 0 :: .int .u8 0 :: [] : List Value).toArray rfl rfl 25 (.int .u8 0 :: .int .u8 0 :: .int .u8 0 :: .int .u8 0 :: .int .u8 0 :: .int .u8 0 :: .int .u8 0 :: .int .u8 0 :: .int .u8 0 :: .int .u8 0 :: .int .u8 0 :: .int .u8 0 :: .int .u8 0 :: .int .u8 0 :: .int .u8 0 :: .int .u8 0 :: .int .u8 0 :: .int .u8 0 :: .int .u8 0 :: .int .u8 0 :: .int .u8 0 :: .int .u8 0 :: .int .u8 0 :: .int .u8 0 :: .int .u8 0 :: .int .u8 0 :: .int .u8 0 :: .int .u8 0 :: .int .u8 0 :: .int .u8 0 :: .int .u8 0 :: .int .u8 0 :: [] : List Value).toArray (by rw [← HW0.out]; exact HZ0.out) (by rw [hDL.out]; exact IDa.out) (by rw [hDL.out]; exact SD.out) (by rw [hDL.out]; exact KD.out) ?_; rw [hDL.out]) | (refine wpList_store_row rfl 25 (.tmp 2) (.tmp 28) rfl (w.heap.size + 1) (.int .u8 0 :: .int .u8 7 :: .int .u8 0 :: .int .u8 0 :: .int .u8 0 :: .int .u8 0 :: .int .u8 0 :: .int .u8 0 :: .int .u8 0 :: .int .u8 0 :: .int .u8 0 :: .int .u8 0 :: .int .u8 0 :: .int .u8 0 :: .int .u8 0 :: .int .u8 0 :: .int .u8 0 :: .int .u8 0 :: .int .u8 0 :: .int .u8 0 :: .int .u8 0 :: .int .u8 0 :: .int .u8 0 :: .int .u8 0 :: .int .u8 0 :: .int .u8 0 :: .int .u8 0 :: .int .u8 0 :: .int .u8 0 :: .int .u8 0 :: .int .u8 0 :: .int .u8 0 :: [] : List Value).toArray rfl rfl 25 (.int .u8 0 :: .int .u8 0 :: .int .u8 0 :: .int .u8 0 :: .int .u8 0 :: .int .u8 0 :: .int .u8 0 :: .int .u8 0 :: .int .u8 0 :: .int .u8 0 :: .int .u8 0 :: .int .u8 0 :: .int .u8 0 :: .int .u8 0 :: .int .u8 0 :: .int .u8 0 :: .int .u8 0 :: .int .u8 0 :: .int .u8 0 :: .int .u8 0 :: .int .u8 0 :: .int .u8 0 :: .int .u8 0 :: .int .u8 0 :: .int .u8 0 :: .int .u8 0 :: .int .u8 0 :: .int .u8 0 :: .int .u8 0 :: .int .u8 0 :: .int .u8 0 :: .int .u8 0 :: [] : List Value).toArray (by rw [← HW0.out]; exact HZ1.out) (by rw [hOL.out]; exact IOa.out) (by rw [hOL.out]; exact SO.out) (by rw [hOL.out]; exact KO.out) ?_; rw [hOL.out]))
  rw [← HW0.out, ← HW2.out]
  clear HW0 HW2 HZ0 HZ1
  go_wp2_with fail
  refine (HP.out _).mono ?_
  rintro e w3 ⟨rfl, hb⟩
  have HE3 := Seal.mk (HE2.out.below hb)
  have HB3 := Seal.mk (HB2.out.trans (hb.mono HB2.out.size))
  clear hb HE2 HB2
  have RD := Seal.mk (HE3.out.keep (w.heap.size, .cells D1.toArray 25) (by simp))
  go_wp2_with (refine wpList_load_row rfl 25 (.tmp 1) rfl w.heap.size rfl 25 D1.toArray (0, 0) _ RD.out Tryd.underlying25 rfl IDa.out ?_)
  refine (HI.out _ HE3.out.glob).mono ?_
  rintro e w4 ⟨rfl, hb⟩
  have HE4 := Seal.mk (HE3.out.below hb)
  have HB4 := Seal.mk (HB3.out.trans (hb.mono HB3.out.size))
  clear hb HE3 HB3 RD
  obtain ⟨g5, hg5⟩ : ∃ g5, g5 = w4.heap.size := ⟨_, rfl⟩
  have HE5 := Seal.mk (HE4.out.push (.cells X1.toArray 69))
  have HB5 := Seal.mk (HB4.out.alloc HB4.out.size (.cells X1.toArray 69))
  go_upto_region 4 with (refine wpList_store_new rfl 69 (.tmp 5) (.tmp 36) rfl (.int .u8 0 :: .int .u8 0 :: .int .u8 0 :: .int .u8 0 :: .int .u8 0 :: .int .u8 0 :: .int .u8 0 :: .int .u8 0 :: .int .u8 0 :: .int .u8 0 :: .int .u8 0 :: .int .u8 0 :: .int .u8 0 :: .int .u8 0 :: .int .u8 0 :: .int .u8 0 :: .int .u8 0 :: .int .u8 0 :: .int .u8 0 :: .int .u8 0 :: .int .u8 0 :: .int .u8 0 :: .int .u8 0 :: .int .u8 0 :: .int .u8 0 :: .int .u8 0 :: .int .u8 0 :: .int .u8 0 :: .int .u8 0 :: .int .u8 0 :: .int .u8 0 :: .int .u8 0 :: .int .i64 0 :: .int .i64 0 :: .int .i64 0 :: [] : List Value) X1 69 rfl rfl IX.out LX.out OX.out ?_)
  rw [← hg5] at HE5 ⊢
  obtain ⟨W5, hW5⟩ : ∃ W5, W5 = w4.alloc (.cells X1.toArray 69) := ⟨_, rfl⟩
  rw [← hW5] at HE5 HB5 ⊢
  clear hW5 hg5 HE4 HB4
  have RD := Seal.mk (HE5.out.keep (w.heap.size, .cells D1.toArray 25) (by simp))
  have RX := Seal.mk (HE5.out.keep (g5, .cells X1.toArray 69) (by simp))
  have rx : W5.rangeAt g5 0 D1 := by
    have := rangeAt_take (rangeAt_row RX.out) 32
    rwa [rX.out] at this
  have k0 : W5.cell? ⟨g5, 32, none⟩ = some (.int .i64 20) := by rw [cell_of_row _ _ _ _ _ _ RX.out]; exact cX.out
  go_wp2_with (first | (refine wpList_load_mid_g (by rfl) 25 (.tmp 48) rfl g5 0 rfl D1 _ rx Tryd.underlying25 rfl ID.out ?_) | (refine wpList_load_row_g (by rfl) 25 (.tmp 1) rfl w.heap.size rfl 25 D1.toArray (0, 0) _ RD.out Tryd.underlying25 rfl IDa.out ?_) | (refine wpList_load_row_g (by rfl) 69 (.tmp 5) rfl g5 rfl 69 X1.toArray (0, 0) _ RX.out Tryd.underlying69 rfl IXa.out ?_))
  refine (HC1.out _ HE5.out.glob).mono ?_
  rintro e w6 ⟨rfl, hb⟩
  have HE6 := Seal.mk (HE5.out.below hb)
  have HB6 := Seal.mk (HB5.out.trans (hb.mono HB5.out.size))
  clear hb HE5 HB5 RD RX rx k0 heq
  have RX := Seal.mk (HE6.out.keep (g5, .cells X1.toArray 69) (by simp))
  go_wp2_with (refine wpList_load_row_g (by rfl) 69 (.tmp 5) rfl g5 rfl 69 X1.toArray (0, 0) _ RX.out Tryd.underlying69 rfl IXa.out ?_)
  refine (HC2.out _ HE6.out.glob).mono ?_
  rintro e w7 ⟨rfl, hb⟩
  have HE7 := Seal.mk (HE6.out.below hb)
  have HB7 := Seal.mk (HB6.out.trans (hb.mono HB6.out.size))
  clear hb HE6 HB6 RX HC1 HC2 HP HI
  have RX := Seal.mk (HE7.out.keep (g5, .cells X1.toArray 69) (by simp))
  go_upto_region 7 with (first | (refine wpList_load_row rfl 69 (.tmp 5) rfl g5 rfl 69 X1.toArray (0, 0) _ RX.out Tryd.underlying69 rfl IXa.out ?_) | (refine wpList_store_new rfl 69 (.tmp 10) (.tmp 68) rfl (.int .u8 0 :: .int .u8 0 :: .int .u8 0 :: .int .u8 0 :: .int .u8 0 :: .int .u8 0 :: .int .u8 0 :: .int .u8 0 :: .int .u8 0 :: .int .u8 0 :: .int .u8 0 :: .int .u8 0 :: .int .u8 0 :: .int .u8 0 :: .int .u8 0 :: .int .u8 0 :: .int .u8 0 :: .int .u8 0 :: .int .u8 0 :: .int .u8 0 :: .int .u8 0 :: .int .u8 0 :: .int .u8 0 :: .int .u8 0 :: .int .u8 0 :: .int .u8 0 :: .int .u8 0 :: .int .u8 0 :: .int .u8 0 :: .int .u8 0 :: .int .u8 0 :: .int .u8 0 :: .int .i64 0 :: .int .i64 0 :: .int .i64 0 :: [] : List Value) X1 69 rfl rfl IX.out LX.out OX.out ?_))
  have kb : (w7.alloc (.cells X1.toArray 69)).cell? ⟨w7.heap.size, 32, none⟩ = some (.int .i64 20) := by rw [cell_of_row _ _ _ _ _ _ (heap_alloc_new w7 _)]; exact cX.out
  have fb : (w7.alloc (.cells X1.toArray 69)).frozen? ⟨w7.heap.size, 32, none⟩ = false := frozen_of_row _ _ _ _ _ (heap_alloc_new w7 _)
  go_upto_region 8 with (fail)
  rw [hBd.out]
  clear kb fb RX
  have HE8 := Seal.mk (HE7.out.push (.cells Bd.toArray 69))
  have HB8 := Seal.mk (HB7.out.alloc HB7.out.size (.cells Bd.toArray 69))
  obtain ⟨gb, hgb⟩ : ∃ gb, gb = w7.heap.size := ⟨_, rfl⟩
  obtain ⟨W8, hW8⟩ : ∃ W8, W8 = w7.alloc (.cells Bd.toArray 69) := ⟨_, rfl⟩
  rw [← hW8] at HE8 HB8 ⊢
  rw [← hgb] at HE8 ⊢
  clear hW8 hgb HE7 HB7
  have HE9 := Seal.mk (HE8.out.push (.cells O1.toArray 25))
  have HB9 := Seal.mk (HB8.out.alloc HB8.out.size (.cells O1.toArray 25))
  have RO := Seal.mk (HE8.out.keep (w.heap.size + 1, .cells O1.toArray 25) (by simp))
  have RX := Seal.mk (HE9.out.keep (g5, .cells X1.toArray 69) (by simp))
  have hf := HF.out.2.2.2.2.2.2
  go_wp2_with (first | (refine wpList_load_row rfl 25 (.tmp 2) rfl (w.heap.size + 1) rfl 25 O1.toArray (0, 0) _ RO.out Tryd.underlying25 rfl IOa.out ?_) | (refine wpList_load_row rfl 69 (.tmp 5) rfl g5 rfl 69 X1.toArray (0, 0) _ RX.out Tryd.underlying69 rfl IXa.out ?_))
  have hs1 : spendF true [oS] dS 370 = ([oS, dS], 0) := by decide +kernel
  have hs2 : spendF true [oS, dS] dS 370 = ([], 161) := by decide +kernel
  have hs3 : spendF true [dS, dS] dS 370 = ([], 370) := by decide +kernel
  have hd1 : dcells [oS] = O1 := by rw [HO1.out]; simp [dcells]
  have hd2 : dcells [oS, dS] = O1 ++ D1 := by rw [HO1.out, HD1.out]; simp [dcells]
  have hd3 : dcells [dS, dS] = D1 ++ D1 := by rw [HD1.out]; simp [dcells]
  have e1 : ∀ d ∈ [oS], d.length = 32 := by intro d h; simp at h; rw [h]; rfl
  have e2 : ∀ d ∈ [oS, dS], d.length = 32 := by intro d h; simp at h; rcases h with h | h <;> (rw [h]; rfl)
  have e3 : ∀ d ∈ [dS, dS], d.length = 32 := by intro d h; simp at h; rw [h]; rfl
  have I1 := isD_new W8 [oS] 1 25 rfl e1 (by decide)
  rw [hd1] at I1
  refine (HS.out _ _ 1 1 [oS] [oS, dS] 0 HE9.out.glob I1 ⟨hs1⟩).mono ?_
  rintro e v0 ⟨a1, n1, c1, rfl, HL, hb⟩
  have HE0 := Seal.mk (HE9.out.below hb)
  have HB0 := Seal.mk (HB9.out.trans (hb.mono HB9.out.size))
  clear hb HE9 HB9 RX RO I1 hd1 hs1 e1 hf
  have RX := Seal.mk (HE0.out.keep (g5, .cells X1.toArray 69) (by simp))
  go_wp2_with (refine wpList_load_row rfl 69 (.tmp 5) rfl g5 rfl 69 X1.toArray (0, 0) _ RX.out Tryd.underlying69 rfl IXa.out ?_)
  refine (HS.out _ _ n1 c1 [oS, dS] [] 161 HE0.out.glob HL.out ⟨hs2⟩).mono ?_
  rintro e v1 ⟨a2, n2, c2, rfl, _, hb⟩
  have HE1 := Seal.mk (HE0.out.below hb)
  have HB1 := Seal.mk (HB0.out.trans (hb.mono HB0.out.size))
  have HL := Seal.mk (HL.out.of_heap hb)
  clear hb HE0 HB0 RX
  clear hs2
  have HE2 := Seal.mk (HE1.out.push (.cells (D1 ++ D1).toArray 25))
  have HB2 := Seal.mk (HB1.out.alloc HB1.out.size (.cells (D1 ++ D1).toArray 25))
  have RD := Seal.mk (HE1.out.keep (w.heap.size, .cells D1.toArray 25) (by simp))
  have RX := Seal.mk (HE2.out.keep (g5, .cells X1.toArray 69) (by simp))
  have hf1 := HF.out.2.2.2.1
  have hf2 := HF.out.2.2.2.2.1
  have hf3 := HF.out.2.2.2.2.2.1
  go_wp2_with (first | (refine wpList_load_row rfl 25 (.tmp 1) rfl w.heap.size rfl 25 D1.toArray (0, 0) _ RD.out Tryd.underlying25 rfl IDa.out ?_) | (refine wpList_load_row rfl 69 (.tmp 5) rfl g5 rfl 69 X1.toArray (0, 0) _ RX.out Tryd.underlying69 rfl IXa.out ?_))
  have I3 := isD_new v1 [dS, dS] 2 25 rfl e3 (by decide)
  rw [hd3] at I3
  refine (HS.out _ _ 2 2 [dS, dS] [] 370 HE2.out.glob I3 ⟨hs3⟩).mono ?_
  rintro e v3 ⟨a3, n3, c3, rfl, _, hb⟩
  have HE3 := Seal.mk (HE2.out.below hb)
  have HB3 := Seal.mk (HB2.out.trans (hb.mono HB2.out.size))
  have HL := Seal.mk ((HL.out.of_heap (below_alloc v1 _)).of_heap hb)
  clear hb HE2 HB2 HE1 HB1 RX RD I3 hd3 hs3 e3 hf1 hf2 hf3
  have RX := Seal.mk (HE3.out.keep (g5, .cells X1.toArray 69) (by simp))
  go_wp2_with (refine wpList_load_row rfl 69 (.tmp 5) rfl g5 rfl 69 X1.toArray (0, 0) _ RX.out Tryd.underlying69 rfl IXa.out ?_)
  refine (HS2.out _ _ 0 0 [] HE3.out.glob (isD_nil _)).mono ?_
  rintro e v4 ⟨a4, n4, c4, rfl, _, hb⟩
  have HE4 := Seal.mk (HE3.out.below hb)
  have HB4 := Seal.mk (HB3.out.trans (hb.mono HB3.out.size))
  have HL := Seal.mk (HL.out.of_heap hb)
  clear hb HE3 HB3 RX
  have RD := Seal.mk (HE4.out.keep (w.heap.size, .cells D1.toArray 25) (by simp))
  go_wp2_with (refine wpList_load_row rfl 25 (.tmp 1) rfl w.heap.size rfl 25 D1.toArray (0, 0) _ RD.out Tryd.underlying25 rfl IDa.out ?_)
  refine (HA1.out _ HE4.out.glob).mono ?_
  rintro e v5 ⟨rfl, hb⟩
  have HE5 := Seal.mk (HE4.out.below hb)
  have HB5 := Seal.mk (HB4.out.trans (hb.mono HB4.out.size))
  have HL := Seal.mk (HL.out.of_heap hb)
  clear hb HE4 HB4 RD
  have RD := Seal.mk (HE5.out.keep (w.heap.size, .cells D1.toArray 25) (by simp))
  go_wp2_with (refine wpList_load_row rfl 25 (.tmp 1) rfl w.heap.size rfl 25 D1.toArray (0, 0) _ RD.out Tryd.underlying25 rfl IDa.out ?_)
  refine (HT1.out _ HE5.out.glob).mono ?_
  rintro e v6 ⟨rfl, hb⟩
  have HE6 := Seal.mk (HE5.out.below hb)
  have HB6 := Seal.mk (HB5.out.trans (hb.mono HB5.out.size))
  have HL := Seal.mk (HL.out.of_heap hb)
  clear hb HE5 HB5 RD
  have HE7 := Seal.mk (HE6.out.push (.cells Zs.toArray 69))
  have HB7 := Seal.mk (HB6.out.alloc HB6.out.size (.cells Zs.toArray 69))
  have HL := Seal.mk (HL.out.of_heap (below_alloc v6 (.cells Zs.toArray 69)))
  clear HE6 HB6
  have RD := Seal.mk (HE7.out.keep (w.heap.size, .cells D1.toArray 25) (by simp))
  go_wp2_with (first | (refine wpList_store_new rfl 69 (.tmp 21) (.tmp 107) rfl (.int .u8 0 :: .int .u8 0 :: .int .u8 0 :: .int .u8 0 :: .int .u8 0 :: .int .u8 0 :: .int .u8 0 :: .int .u8 0 :: .int .u8 0 :: .int .u8 0 :: .int .u8 0 :: .int .u8 0 :: .int .u8 0 :: .int .u8 0 :: .int .u8 0 :: .int .u8 0 :: .int .u8 0 :: .int .u8 0 :: .int .u8 0 :: .int .u8 0 :: .int .u8 0 :: .int .u8 0 :: .int .u8 0 :: .int .u8 0 :: .int .u8 0 :: .int .u8 0 :: .int .u8 0 :: .int .u8 0 :: .int .u8 0 :: .int .u8 0 :: .int .u8 0 :: .int .u8 0 :: .int .i64 0 :: .int .i64 0 :: .int .i64 0 :: [] : List Value) Zs 69 rfl rfl IZ.out LZ.out OZ.out ?_) | (refine wpList_load_row rfl 25 (.tmp 1) rfl w.heap.size rfl 25 D1.toArray (0, 0) _ RD.out Tryd.underlying25 rfl IDa.out ?_))
  refine (HT2.out _ HE7.out.glob).mono ?_
  rintro e v8 ⟨rfl, hb⟩
  have HE8 := Seal.mk (HE7.out.below hb)
  have HB8 := Seal.mk (HB7.out.trans (hb.mono HB7.out.size))
  have HL := Seal.mk (HL.out.of_heap hb)
  clear hb HE7 HB7 RD
  have HE9 := Seal.mk (HE8.out.push (.cells Zs.toArray 69))
  have HB9 := Seal.mk (HB8.out.alloc HB8.out.size (.cells Zs.toArray 69))
  have HL := Seal.mk (HL.out.of_heap (below_alloc v8 (.cells Zs.toArray 69)))
  clear HE8 HB8
  have RD := Seal.mk (HE9.out.keep (w.heap.size, .cells D1.toArray 25) (by simp))
  go_wp2_with (first | (refine wpList_store_new rfl 69 (.tmp 23) (.tmp 112) rfl (.int .u8 0 :: .int .u8 0 :: .int .u8 0 :: .int .u8 0 :: .int .u8 0 :: .int .u8 0 :: .int .u8 0 :: .int .u8 0 :: .int .u8 0 :: .int .u8 0 :: .int .u8 0 :: .int .u8 0 :: .int .u8 0 :: .int .u8 0 :: .int .u8 0 :: .int .u8 0 :: .int .u8 0 :: .int .u8 0 :: .int .u8 0 :: .int .u8 0 :: .int .u8 0 :: .int .u8 0 :: .int .u8 0 :: .int .u8 0 :: .int .u8 0 :: .int .u8 0 :: .int .u8 0 :: .int .u8 0 :: .int .u8 0 :: .int .u8 0 :: .int .u8 0 :: .int .u8 0 :: .int .i64 0 :: .int .i64 0 :: .int .i64 0 :: [] : List Value) Zs 69 rfl rfl IZ.out LZ.out OZ.out ?_) | (refine wpList_load_row rfl 25 (.tmp 1) rfl w.heap.size rfl 25 D1.toArray (0, 0) _ RD.out Tryd.underlying25 rfl IDa.out ?_))
  refine (HA2.out _ HE9.out.glob).mono ?_
  rintro e u0 ⟨rfl, hb⟩
  have HE0 := Seal.mk (HE9.out.below hb)
  have HB0 := Seal.mk (HB9.out.trans (hb.mono HB9.out.size))
  have HL := Seal.mk (HL.out.of_heap hb)
  clear hb HE9 HB9 RD HA1 HA2 HT1 HT2 HS HS2
  have RD := Seal.mk (HE0.out.keep (w.heap.size, .cells D1.toArray 25) (by simp))
  have RO := Seal.mk (HE0.out.keep (w.heap.size + 1, .cells O1.toArray 25) (by simp))
  have hf1 := HF.out.1
  have hf2 := HF.out.2.1
  have hf3 := HF.out.2.2.1
  go_wp2_with (first | (refine wpList_load_row_g (by rfl) 25 (.tmp 1) rfl w.heap.size rfl 25 D1.toArray (0, 0) _ RD.out Tryd.underlying25 rfl IDa.out ?_) | (refine wpList_load_row_g (by rfl) 25 (.tmp 2) rfl (w.heap.size + 1) rfl 25 O1.toArray (0, 0) _ RO.out Tryd.underlying25 rfl IOa.out ?_))
  have I2 := isD_new u0 [oS, dS] 2 25 rfl e2 (by decide)
  rw [hd2] at I2
  have HE1 := Seal.mk (HE0.out.push (.cells (O1 ++ D1).toArray 25))
  have HB1 := Seal.mk (HB0.out.alloc HB0.out.size (.cells (O1 ++ D1).toArray 25))
  refine (rsame_any a1 _ n1 c1 2 2 [oS, dS] [oS, dS] _ (HL.out.of_heap (below_alloc u0 _)) I2).mono ?_
  rintro e u1 ⟨rfl, hb⟩
  rw [show ([oS, dS] == [oS, dS]) = true from by simp]
  have HE2 := Seal.mk (HE1.out.below hb)
  have HB2 := Seal.mk (HB1.out.trans (hb.mono HB1.out.size))
  clear hb HE0 HB0 HE1 HB1 RD RO I2 HL hf1 hf2 hf3
  have RB := Seal.mk (HE2.out.keep (gb, .cells Bd.toArray 69) (by simp))
  go_wp2_with (refine wpList_load_row_g (by rfl) 69 (.tmp 10) rfl gb rfl 69 Bd.toArray (0, 0) _ RB.out Tryd.underlying69 rfl IBa.out ?_)
  refine (HC3.out _ HE2.out.glob).mono ?_
  rintro e u2 ⟨rfl, hb⟩
  have HB3 := Seal.mk (HB2.out.trans (hb.mono HB2.out.size))
  clear hb HE2 HB2 RB
  go_wp2
  go_ret
  exact ⟨rfl, HB3.out⟩

theorem vdTwo : vd 2 = false := by decide +kernel

theorem stC_set {T : Bytes} (hT : T.length = 32) (v E S x : Int) : (stC T v E S).set 32 (.int .i64 x) = stC T x E S := by
  unfold stC
  rw [List.set_append_right 32 _ (by rw [List.length_map, hT]; exact Nat.le_refl _), List.length_map, hT]
  rfl

theorem skB_two (T : Bytes) (v E S : Int) : skB 2 T v E S = false := by
  unfold skB vrB
  rw [show vd 2 = false from vdTwo]
  simp

theorem ssane_any (w : World) (hG : Glob w) : Calls Tryd.prog 34 #[] w fun e w' => e = .returned (.bool true) ∧ Below w.heap.size w w' := by
  obtain ⟨key, r, c, s, E, Sg, I⟩ := issue_plain 5 9 3 4 20 dS (by decide) (by decide) (by decide)
  have hsk : skB key dS 20 E Sg = true := by unfold skB; rw [I.right]; rfl
  have hZ : ∀ T : Bytes, T.length = 32 → (.int .u8 0 :: .int .u8 0 :: .int .u8 0 :: .int .u8 0 :: .int .u8 0 :: .int .u8 0 :: .int .u8 0 :: .int .u8 0 :: .int .u8 0 :: .int .u8 0 :: .int .u8 0 :: .int .u8 0 :: .int .u8 0 :: .int .u8 0 :: .int .u8 0 :: .int .u8 0 :: .int .u8 0 :: .int .u8 0 :: .int .u8 0 :: .int .u8 0 :: .int .u8 0 :: .int .u8 0 :: .int .u8 0 :: .int .u8 0 :: .int .u8 0 :: .int .u8 0 :: .int .u8 0 :: .int .u8 0 :: .int .u8 0 :: .int .u8 0 :: .int .u8 0 :: .int .u8 0 :: .int .i64 0 :: .int .i64 0 :: .int .i64 0 :: [] : List Value).length = (stC T 20 E Sg).length := fun T h => by rw [stC_len h]; rfl
  exact ssane_core key r c s (stC dS 20 E Sg) (stC zb32 0 0 0) w hG ⟨stC_info dS_len⟩ ⟨by rw [List.size_toArray]; exact stC_info dS_len⟩ ⟨hZ dS dS_len⟩ ⟨stC_one _ _ _ _⟩ ⟨stC_info zb32_len⟩ ⟨by rw [stC_len zb32_len]; rfl⟩ ⟨stC_one _ _ _ _⟩
    (stC dS (-1) E Sg) ⟨stC_set dS_len _ _ _ _⟩ ⟨by rw [List.size_toArray]; exact stC_info dS_len⟩ ⟨(stC_head dS_len).text⟩ ⟨by rw [List.getElem?_toArray]; exact (stC_head dS_len).value⟩
    ⟨fun W => public_at 5 key 0 W ⟨I.pub⟩ (by decide) (by decide)⟩
    ⟨fun W h => issued_any 5 9 key r c s E Sg 20 3 4 dS W h dS_len (by decide) (by decide) (by decide) (by decide) (by decide) (by decide) (by decide) (by decide) ⟨I.pub⟩ ⟨I.beg⟩ ⟨I.ask⟩ ⟨I.ans⟩ ⟨I.take⟩⟩
    ⟨fun W h => scheck_any key dS 20 E Sg true W dS_len h ⟨hsk⟩⟩
    ⟨fun W h => scheck_any 2 dS 20 E Sg false W dS_len h ⟨skB_two _ _ _ _⟩⟩
    ⟨fun W h => scheck_any key dS (-1) E Sg false W dS_len h ⟨rfl⟩⟩
    ⟨fun W a n c l' r' x h hi hs => sspend_any a n c l' r' key 20 E Sg x dS W h hi dS_len ⟨by rw [hsk]; exact hs.out⟩⟩
    ⟨fun W a n c l' h hi => sspend_any a n c l' [] 2 20 E Sg 370 dS W h hi dS_len ⟨by rw [skB_two]; rfl⟩⟩
    ⟨fun W h => sask_any 4 4 0 0 0 370 (-1) dS W ⟨rfl⟩ (by decide) (by decide) (by decide) (by decide) h dS_len⟩
    ⟨fun W h => stake_any 4 4 0 0 0 1099511627777 0 0 0 370 dS zb32 W ⟨rfl⟩ (by decide) (by decide) (by decide) (by decide) h dS_len⟩
    ⟨fun W h => stake_any 2 4 0 0 0 5 0 0 0 90 dS zb32 W ⟨by
      have e1 : finishC 2 4 (stT dS 5) 0 0 0 = (0, 0, 90) := by unfold finishC; rw [show vd 2 = false from vdTwo, Bool.false_and, if_neg (by decide)]
      unfold stakeF
      rw [if_pos (by decide), e1, if_neg (by decide)]⟩ (by decide) (by decide) (by decide) (by decide) h dS_len⟩
    ⟨fun W h => sask_any 4 2 0 0 0 90 5 dS W ⟨by unfold saskF askC; rw [if_pos (by decide), show vd 2 = false from vdTwo, Bool.and_false, if_neg (by decide)]⟩ (by decide) (by decide) (by decide) (by decide) h dS_len⟩
theorem exec_store_row {P : Program} {o : Oper} {a : Act} {w : World} (ty : TypeId) (x y : Operand) (ho : o.op = .store ty x y)
    (g : Nat) (cells : Array Value) (hx : a.eval x = .pointer (some ⟨g, 0, none⟩)) (hy : a.eval y = .agg cells)
    (t : TypeId) (old : Array Value) (hg : w.heap[g]? = some (.cells old t (0, 0))) (hi : (P.info? ty).map (·.size) = some cells.size)
    (hold : old.size = cells.size) (h1 : cells.all (·.oneCell') = true) : (execOp a.eval o).run P w = .ok .skip (w.setRow g cells) := by
  unfold execOp
  simp only [ho, hx, hy, Instr.storeAt, Instr.sureAddr, Sem.run_bind, Sem.run_pure, Result.andThen_ok, run_storeVar_row w g t ty old cells hg hi hold h1]

theorem rangeAt_setRow {w : World} {g b off : Nat} {cs : List Value} {ds : Array Value} (h : w.rangeAt b off cs) (hne : b ≠ g) : (w.setRow g ds).rangeAt b off cs :=
  fun j u hu => (cell_setRow_other w g ds ⟨b, off + j, none⟩ hne).trans (h j u hu)

/-- a stretch of a walk, ended by what its slots and its world are -/
def CutQ (F : Nat → Act) (R : Nat → World → Prop) : Exit → Act → World → Prop
  | .normal, a, W => ∃ g, a = F g ∧ R g W
  | _, _, _ => False
theorem wp_cut {P : Program} {c : Code} {Q : Exit → Act → World → Prop} {a : Act} {w : World} (F : Nat → Act) (R : Nat → World → Prop)
    (h : c.wp P (CutQ F R) a w) (hQ : ∀ g W, R g W → Q .normal (F g) W) : c.wp P Q a w :=
  Code.wp_mono (fun e a W hq => by
    cases e with
    | normal => obtain ⟨g, ha, hR⟩ := hq; subst ha; exact hQ g W hR
    | _ => exact hq.elim) h

theorem rnumber13_any (n : Int) (w : World) : Calls Tryd.prog 97 #[.int .i64 n] w fun e w' => e = .returned (.agg #[.int .i64 1, .int .i64 n, .string ByteArray.empty, .slice none 0 0]) ∧ Below w.heap.size w w' := by
  go_enter Tryd.func97, Tryd.ntmps97
  go_wp2
  refine bodyPost_ret (results_cell_row (fn := Tryd.f97) rfl _ _ w.heap.size 79 _ (0, 0) _ rfl (heap_alloc_new w _) Tryd.underlying79 rfl (by kernel_rfl)) rfl ⟨rfl, below_alloc _ _⟩

theorem rlist13_any (a : Option Addr) (n c : Nat) (w : World) : Calls Tryd.prog 95 #[.slice a n c] w fun e w' => e = .returned (.agg #[.int .i64 3, .int .i64 0, .string ByteArray.empty, .slice a n c]) ∧ Below w.heap.size w w' := by
  go_enter Tryd.func95, Tryd.ntmps95
  go_wp2
  refine bodyPost_ret (results_cell_row (fn := Tryd.f95) rfl _ _ w.heap.size 79 _ (0, 0) _ rfl (heap_alloc_new w _) Tryd.underlying79 rfl (by kernel_rfl)) rfl ⟨rfl, below_alloc _ _⟩

set_option maxHeartbeats 2000000 in
theorem rtext13_any (T : Bytes) (w : World) (hT : T.length = 32) : Calls Tryd.prog 96 #[.agg (T.map B).toArray] w fun e w' => e = .returned (.agg #[.int .i64 2, .int .i64 0, .string ⟨T.toArray⟩, .slice none 0 0]) ∧ Below w.heap.size w w' := by
  obtain ⟨Y, hY⟩ : ∃ Y : World, Y = (w.alloc (.cells (T.map B).toArray 25)).alloc (.cells #[.int .i64 0, .int .i64 0, .string ⟨#[]⟩, .slice none 0 0] 79) := ⟨_, rfl⟩
  have hYb : Seal (Below w.heap.size w Y) := ⟨by rw [hY]; exact ((Below.refl _ w).alloc (Nat.le_refl _) _).alloc (by simp) _⟩
  have hYr : Seal (Y.rangeAt w.heap.size 0 (T.map B)) := ⟨rangeAt_row (by rw [hY]; exact heap_alloc2_old w _ _)⟩
  have hYz : Seal (Y.heap[w.heap.size + 1]? = some (.cells #[.int .i64 0, .int .i64 0, .string ⟨#[]⟩, .slice none 0 0] 79 (0, 0))) := ⟨by rw [hY]; exact heap_alloc2_new w _ _⟩
  have hYs : Seal (Y.heap.size = w.heap.size + 2) := ⟨by rw [hY, size_alloc, size_alloc]⟩
  have HT := Seal.mk hT
  clear hT
  go_enter Tryd.func96, Tryd.ntmps96
  go_upto_region 1 with (fail)
  rw [← hY]
  clear hY
  go_wp2
  go_loopw [3, 4] (fun s i wr => ∃ k g c : Nat, k ≤ 32 ∧ s = .slice (some ⟨g, 0, none⟩) k c ∧ i = .int .i64 k ∧ Seal (Stg Y wr g k c (T.take k))) (fun _ i _ => 32 - (intOf i).toNat)
  case atStart => exact ⟨0, Y.heap.size, 0, by omega, rfl, rfl, ⟨stg_new Y [] 0 rfl (by decide)⟩⟩
  case round =>
    obtain ⟨k, g, c, hk, rfl, rfl, hS⟩ := hrel
    by_cases hlt : k < 32
    · have cc : wr.cell? ⟨w.heap.size, k, none⟩ = some (.int .u8 ((T.getD k 0).toNat : Int)) := by
        have := cellB (rangeAt_below' hYr.out hS.out.bel) (i := k) (by rw [HT.out]; exact hlt)
        rwa [Nat.zero_add] at this
      have q1 : (k : Int) < 32 := by omega
      have q2 : (0 : Int) ≤ (k : Int) := by omega
      obtain ⟨b, hb⟩ : ∃ b, b = T.getD k 0 := ⟨_, rfl⟩
      rw [← hb] at cc
      have HTK : Seal (T.take (k + 1) = T.take k ++ [b]) := ⟨by
        rw [hb, List.take_succ_eq_append_getElem (by rw [HT.out]; exact hlt), List.getD_eq_getElem?_getD, List.getElem?_eq_getElem (by rw [HT.out]; exact hlt)]
        rfl⟩
      have hSa : Seal (Stg Y (wr.alloc (.cells #[.int .u8 (b.toNat : Int)] 5)) g k c (T.take k)) := ⟨hS.out.alloc _⟩
      have hI : Seal (IsB (wr.alloc (.cells #[.int .u8 (b.toNat : Int)] 5)) (some ⟨wr.heap.size, 0, none⟩) 1 1 [b]) := ⟨isB_new wr [b] 1 5 (0, 0) rfl (by decide)⟩
      clear hb
      go_wp2_with (at_builtin; refine wpList_append_st rfl (.tmp 10) (.tmp 14) rfl Y g k c (T.take k) (some ⟨wr.heap.size, 0, none⟩) 1 1 [b] rfl rfl hSa hI (by omega) ?_; intro g3 cap3 w3 hS3 _ _; clear hS hSa hI cc)
      go_roundw
      case rel => exact ⟨k + 1, g3, cap3, by omega, rfl, by go_num, ⟨by rw [HTK.out]; exact hS3.out⟩⟩
      case measure => simp [intOf]; omega
    · obtain rfl : k = 32 := by omega
      have hq : ¬ (((32 : Nat) : Int) < 32) := by omega
      rw [List.take_of_length_le (by rw [HT.out]; exact Nat.le_refl _)] at hS
      have hcv := IsB.conv (hS.out.isB (by decide))
      have RZ : Seal (wr.heap[w.heap.size + 1]? = some (.cells #[.int .i64 0, .int .i64 0, .string ⟨#[]⟩, .slice none 0 0] 79 (0, 0))) := ⟨(hS.out.bel.block _ (by rw [hYs.out]; omega)).trans hYz.out⟩
      have HB : Seal (Below w.heap.size w wr) := ⟨hYb.out.trans (hS.out.bel.mono hYb.out.size)⟩
      have i4 : (Tryd.prog.info? 79).map (·.size) = some (#[Value.int .i64 2, .int .i64 0, .string ⟨T.toArray⟩, .slice none 0 0]).size := by kernel_rfl
      have a4 : (#[Value.int .i64 2, .int .i64 0, .string ⟨T.toArray⟩, .slice none 0 0]).all (·.oneCell') = true := by simp [Value.oneCell']
      rw [show ((32 : Nat) : Int) = 32 from rfl]
      clear hS
      go_wp2_with (refine wpList_store_row rfl 79 (.tmp 2) (.tmp 18) rfl (w.heap.size + 1) #[.int .i64 2, .int .i64 0, .string ⟨T.toArray⟩, .slice none 0 0] rfl rfl 79 #[.int .i64 0, .int .i64 0, .string ⟨#[]⟩, .slice none 0 0] RZ.out i4 rfl a4 ?_)
      refine bodyPost_ret (results_cell_row (fn := Tryd.f96) rfl _ _ (w.heap.size + 1) 79 #[.int .i64 2, .int .i64 0, .string ⟨T.toArray⟩, .slice none 0 0] (0, 0) _ rfl (setRow_heap _ _ _ _ _ _ RZ.out) Tryd.underlying79 rfl i4) rfl ⟨rfl, below_row HB.out (Nat.le_add_right _ _) _⟩

set_option maxHeartbeats 1000000 in
theorem rtext37_any (T : Bytes) (v : Int) (w : World) (hT : T.length = 32) (v1 : -9223372036854775808 ≤ v) (v2 : v ≤ 9223372036854775807) :
    Calls Tryd.prog 44 #[.agg (T.map B).toArray, .int .i64 v] w (ListPost (stT T v) w) := by
  obtain ⟨TC, hTC⟩ : ∃ TC, TC = T.map B := ⟨_, rfl⟩
  have HC1 : Seal (∀ W, Calls Tryd.prog 96 #[.agg TC.toArray] W fun e w' => e = .returned (.agg #[.int .i64 2, .int .i64 0, .string ⟨T.toArray⟩, .slice none 0 0]) ∧ Below W.heap.size W w') := ⟨fun W => by rw [hTC]; exact rtext13_any T W hT⟩
  have IT : Seal ((Tryd.prog.info? 25).map (·.size) = some TC.toArray.size) := ⟨by rw [hTC, List.size_toArray]; exact dg_info T hT⟩
  have HT := Seal.mk hT
  have HV := Seal.mk (And.intro v1 v2)
  obtain ⟨X, hX⟩ : ∃ X : World, X = w.alloc (.cells TC.toArray 25) := ⟨_, rfl⟩
  have hXb : Seal (Below w.heap.size w X) := ⟨by rw [hX]; exact below_alloc _ _⟩
  have hXn : Seal (X.heap[w.heap.size]? = some (.cells TC.toArray 25 (0, 0))) := ⟨by rw [hX]; exact heap_alloc_new w _⟩
  rw [← hTC]
  clear hT hTC v1 v2
  go_enter Tryd.func44, Tryd.ntmps44
  go_upto_region 1 with (fail)
  rw [← hX]
  clear hX
  go_wp2_with (refine wpList_load_row rfl 25 (.tmp 2) rfl w.heap.size rfl 25 TC.toArray (0, 0) _ hXn.out Tryd.underlying25 rfl IT.out ?_)
  refine (HC1.out _).mono ?_
  rintro e w1 ⟨rfl, hb⟩
  have HB1 : Seal (Below w.heap.size w w1) := ⟨hXb.out.trans (hb.mono hXb.out.size)⟩
  clear hb
  go_wp2_with fail
  refine (rnumber13_any v w1).mono ?_
  rintro e w2 ⟨rfl, hb⟩
  have HB2 : Seal (Below w.heap.size w w2) := ⟨HB1.out.trans (hb.mono HB1.out.size)⟩
  clear hb
  have HL : Seal (LeavesAt (w2.alloc (.cells #[.int .i64 2, .int .i64 0, .string ⟨T.toArray⟩, .slice none 0 0, .int .i64 1, .int .i64 v, .string ByteArray.empty, .slice none 0 0] 79)) w2.heap.size 0 [.t T, .i v]) := ⟨leavesAt_new w2 [.t T, .i v] (0, 0) _⟩
  go_wp2_with fail
  refine (rlist13_any _ _ _ _).mono ?_
  rintro e w3 ⟨rfl, hb⟩
  have HL3 : Seal (LeavesAt w3 w2.heap.size 0 [.t T, .i v] ∧ w2.heap.size < w3.heap.size) := ⟨HL.out.below hb (by rw [size_alloc]; omega), by have := hb.size; rw [size_alloc] at this; omega⟩
  have HB3 : Seal (Below w.heap.size w w3) := ⟨(HB2.out.alloc HB2.out.size _).trans (hb.mono (by rw [size_alloc]; have := HB2.out.size; omega))⟩
  clear hb HL
  have HE : Seal _ := ⟨rencode_any w2.heap.size 0 2 2 [.t T, .i v] w3 rfl (Nat.le_refl _) (by simp [wgts, Lf.wgt, HT.out]) HL3.out.1 HL3.out.2 (fun y hy => by
    simp only [List.mem_cons, List.not_mem_nil, or_false] at hy
    rcases hy with rfl | rfl
    · show T.length < 2 ^ 63; rw [HT.out]; decide
    · exact HV.out)⟩
  go_wp2_with fail
  refine HE.out.mono ?_
  rintro e w4 ⟨g', n', c', rfl, hS⟩
  have hlen := stT_length (v := v) HT.out
  unfold stT at hlen
  have hIB := hS.out.isB (by rw [← hS.out.len]; omega)
  have HF : Seal ((encL [.t T, .i v]).length = n' ∧ n' ≤ c' ∧ c' ≤ 9223372036854775807 ∧ Below w.heap.size w w4) := ⟨hS.out.len, hIB.lcap, hIB.cmax, HB3.out.trans (hS.out.bel.mono HB3.out.size)⟩
  have HA : Seal (g' < w4.heap.size ∧ w4.rangeAt g' 0 ((encL [.t T, .i v]).map B)) := ⟨by
    rcases hIB.at_ with h0 | ⟨g0, o0, e, hr, hg⟩
    · exfalso
      have h1 := hS.out.len
      rw [h0] at h1
      simp [encL] at h1
    · cases e
      exact ⟨hg, hr⟩⟩
  clear HE hS hIB hlen
  go_wp2
  go_ret
  exact ⟨g', n', c', ⟨HF.out.1⟩, rfl, ⟨HF.out.2.1, HF.out.2.2.1, HA.out.1, HA.out.2, HF.out.2.2.2⟩⟩

theorem fold_sg {E S : Int} {T : Bytes} {v : Int} (hT : T.length = 32) : ((stC T v 0 0).set 33 (.int .i64 E)).set 34 (.int .i64 S) = stC T v E S := by
  have hm : (T.map B).length = 32 := by rw [List.length_map, hT]
  unfold stC
  rw [List.set_append_right 33 _ (by omega), hm, List.set_append_right 34 _ (by omega), hm]
  rfl

set_option maxHeartbeats 2000000 in
theorem rmake37_any (x v : Int) (T : Bytes) (w : World) (hT : T.length = 32) (h0 : 1 ≤ x) (h1 : x < 1073741789) (v1 : -9223372036854775808 ≤ v) (v2 : v ≤ 9223372036854775807) :
    Calls Tryd.prog 42 #[.int .i64 x, .agg (T.map B).toArray, .int .i64 v] w fun e w' => e = .returned (.agg (stC T v (sgE x (stT T v) : Nat) (sgS x (stT T v))).toArray) ∧ Below w.heap.size w w' := by
  obtain ⟨E, hE⟩ : ∃ E : Int, ((sgE x (stT T v) : Nat) : Int) = E := ⟨_, rfl⟩
  obtain ⟨S, hS⟩ : ∃ S : Int, sgS x (stT T v) = S := ⟨_, rfl⟩
  obtain ⟨TC, hTC⟩ : ∃ TC, TC = T.map B := ⟨_, rfl⟩
  obtain ⟨F, hF⟩ : ∃ F, F = stC T v E S := ⟨_, rfl⟩
  obtain ⟨D0, hD0⟩ : ∃ D0, D0 = TC ++ ([.int .i64 0, .int .i64 0, .int .i64 0] : List Value) := ⟨_, rfl⟩
  have cT : TC.length = 32 := by rw [hTC, List.length_map, hT]
  have cl0 : D0.length = 35 := by rw [hD0, List.length_append, cT]; rfl
  have hfold0 := fold_st hT
  rw [← hTC, ← hD0] at hfold0
  have hset0 : ((D0.set 32 (.int .i64 v)).set 33 (.int .i64 E)).set 34 (.int .i64 S) = F := by rw [hD0, hTC, stC_build hT, fold_sg hT, hF]
  have irT : (Tryd.prog.info? 25).map (·.size) = some 32 := by kernel_rfl
  have ITC : Seal ((Tryd.prog.info? 25).map (·.size) = some TC.toArray.size) := ⟨by rw [List.size_toArray, cT]; exact irT⟩
  have IF : Seal ((Tryd.prog.info? 69).map (·.size) = some F.toArray.size) := ⟨by rw [hF, List.size_toArray]; exact stC_info hT⟩
  have SF : Seal ((List.toArray (.int .u8 0 :: .int .u8 0 :: .int .u8 0 :: .int .u8 0 :: .int .u8 0 :: .int .u8 0 :: .int .u8 0 :: .int .u8 0 :: .int .u8 0 :: .int .u8 0 :: .int .u8 0 :: .int .u8 0 :: .int .u8 0 :: .int .u8 0 :: .int .u8 0 :: .int .u8 0 :: .int .u8 0 :: .int .u8 0 :: .int .u8 0 :: .int .u8 0 :: .int .u8 0 :: .int .u8 0 :: .int .u8 0 :: .int .u8 0 :: .int .u8 0 :: .int .u8 0 :: .int .u8 0 :: .int .u8 0 :: .int .u8 0 :: .int .u8 0 :: .int .u8 0 :: .int .u8 0 :: .int .i64 0 :: .int .i64 0 :: .int .i64 0 :: [] : List Value) : Array Value).size = F.toArray.size) := ⟨by show 35 = F.toArray.size; rw [hF, List.size_toArray, stC_len hT]⟩
  have AF : Seal (F.toArray.all (·.oneCell') = true) := ⟨by rw [hF]; exact all_oneCell_toArray (stC_one _ _ _ _)⟩
  have HTx : Seal (∀ W, Calls Tryd.prog 44 #[.agg TC.toArray, .int .i64 v] W (ListPost (stT T v) W)) := ⟨fun W => by rw [hTC]; exact rtext37_any T v W hT v1 v2⟩
  have HSg : Seal (∀ W a len cap, IsB W a len cap (stT T v) → len ≤ 1099511627776 → Calls Tryd.prog 91 #[.int .i64 x, .slice a len cap] W fun e w' => e = .returned (.tuple #[.agg #[.int .i64 E, .int .i64 S], .int .i64 0]) ∧ Below W.heap.size W w') := ⟨fun W a len cap hb hl => by rw [← hE, ← hS]; exact rsign_yes x a len cap (stT T v) W h0 h1 hb hl⟩
  have HSL : Seal ((stT T v).length ≤ 65) := ⟨stT_length hT⟩
  obtain ⟨X, hX⟩ : ∃ X : World, X = (w.alloc (.cells TC.toArray 25)).alloc (.cells (List.toArray (.int .u8 0 :: .int .u8 0 :: .int .u8 0 :: .int .u8 0 :: .int .u8 0 :: .int .u8 0 :: .int .u8 0 :: .int .u8 0 :: .int .u8 0 :: .int .u8 0 :: .int .u8 0 :: .int .u8 0 :: .int .u8 0 :: .int .u8 0 :: .int .u8 0 :: .int .u8 0 :: .int .u8 0 :: .int .u8 0 :: .int .u8 0 :: .int .u8 0 :: .int .u8 0 :: .int .u8 0 :: .int .u8 0 :: .int .u8 0 :: .int .u8 0 :: .int .u8 0 :: .int .u8 0 :: .int .u8 0 :: .int .u8 0 :: .int .u8 0 :: .int .u8 0 :: .int .u8 0 :: .int .i64 0 :: .int .i64 0 :: .int .i64 0 :: [] : List Value) : Array Value) 69) := ⟨_, rfl⟩
  have hXb : Seal (Below w.heap.size w X) := ⟨by rw [hX]; exact ((Below.refl _ w).alloc (Nat.le_refl _) _).alloc (by simp) _⟩
  have hXn : Seal (X.heap[w.heap.size]? = some (.cells TC.toArray 25 (0, 0))) := ⟨by rw [hX]; exact heap_alloc2_old w _ _⟩
  have hXz : Seal (X.heap[w.heap.size + 1]? = some (.cells (List.toArray (.int .u8 0 :: .int .u8 0 :: .int .u8 0 :: .int .u8 0 :: .int .u8 0 :: .int .u8 0 :: .int .u8 0 :: .int .u8 0 :: .int .u8 0 :: .int .u8 0 :: .int .u8 0 :: .int .u8 0 :: .int .u8 0 :: .int .u8 0 :: .int .u8 0 :: .int .u8 0 :: .int .u8 0 :: .int .u8 0 :: .int .u8 0 :: .int .u8 0 :: .int .u8 0 :: .int .u8 0 :: .int .u8 0 :: .int .u8 0 :: .int .u8 0 :: .int .u8 0 :: .int .u8 0 :: .int .u8 0 :: .int .u8 0 :: .int .u8 0 :: .int .u8 0 :: .int .u8 0 :: .int .i64 0 :: .int .i64 0 :: .int .i64 0 :: [] : List Value) : Array Value) 69 (0, 0))) := ⟨by rw [hX]; exact heap_alloc2_new w _ _⟩
  have hXs : Seal (w.heap.size + 1 < X.heap.size) := ⟨(Array.getElem?_eq_some_iff.1 hXz.out).1⟩
  have HFq := Seal.mk hF
  rw [hE, hS, ← hTC]
  clear hT h0 h1 v1 v2 hE hS hTC hD0 hF
  go_enter Tryd.func42, Tryd.ntmps42
  go_upto_region 1 with (fail)
  rw [← hX]
  clear hX
  go_wp2_with (refine wpList_load_row rfl 25 (.tmp 4) rfl w.heap.size rfl 25 TC.toArray (0, 0) _ hXn.out Tryd.underlying25 rfl ITC.out ?_)
  refine (HTx.out X).mono ?_
  rintro e w1 ⟨g', n', c', hn, rfl, hf⟩
  have hb1 := hf.out.2.2.2.2
  have HIB : Seal (IsB w1 (some ⟨g', 0, none⟩) n' c' (stT T v) ∧ n' ≤ 1099511627776) := ⟨⟨hn.out, hf.out.1, by rw [← hn.out]; have := HSL.out; omega, hf.out.2.1, .inr ⟨g', 0, rfl, hf.out.2.2.2.1, hf.out.2.2.1⟩⟩, by rw [← hn.out]; have := HSL.out; omega⟩
  have HB1 : Seal (Below w.heap.size w w1) := ⟨hXb.out.trans (hb1.mono hXb.out.size)⟩
  have RT1 := Seal.mk (blk hb1 (by have := hXs.out; omega) hXn.out)
  have RZ1 := Seal.mk (blk hb1 hXs.out hXz.out)
  clear hf hb1
  go_wp2_with fail
  refine (HSg.out w1 _ n' c' HIB.out.1 HIB.out.2).mono ?_
  rintro e w2 ⟨rfl, hb2⟩
  have HB2 : Seal (Below w.heap.size w w2) := ⟨HB1.out.trans (hb2.mono HB1.out.size)⟩
  have RT2 := blk hb2 (Array.getElem?_eq_some_iff.1 RT1.out).1 RT1.out
  have RZ2 := blk hb2 (Array.getElem?_eq_some_iff.1 RZ1.out).1 RZ1.out
  have RT3 : Seal ((w2.alloc (.cells #[.int .i64 E, .int .i64 S] 67)).heap[w.heap.size]? = some (.cells TC.toArray 25 (0, 0))) := ⟨(Below.heap_alloc w2 _ _ (Array.getElem?_eq_some_iff.1 RT2).1).trans RT2⟩
  have RZ3 : Seal ((w2.alloc (.cells #[.int .i64 E, .int .i64 S] 67)).heap[w.heap.size + 1]? = some (.cells (List.toArray (.int .u8 0 :: .int .u8 0 :: .int .u8 0 :: .int .u8 0 :: .int .u8 0 :: .int .u8 0 :: .int .u8 0 :: .int .u8 0 :: .int .u8 0 :: .int .u8 0 :: .int .u8 0 :: .int .u8 0 :: .int .u8 0 :: .int .u8 0 :: .int .u8 0 :: .int .u8 0 :: .int .u8 0 :: .int .u8 0 :: .int .u8 0 :: .int .u8 0 :: .int .u8 0 :: .int .u8 0 :: .int .u8 0 :: .int .u8 0 :: .int .u8 0 :: .int .u8 0 :: .int .u8 0 :: .int .u8 0 :: .int .u8 0 :: .int .u8 0 :: .int .u8 0 :: .int .u8 0 :: .int .i64 0 :: .int .i64 0 :: .int .i64 0 :: [] : List Value) : Array Value) 69 (0, 0))) := ⟨(Below.heap_alloc w2 _ _ (Array.getElem?_eq_some_iff.1 RZ2).1).trans RZ2⟩
  have HB3 : Seal (Below w.heap.size w (w2.alloc (.cells #[.int .i64 E, .int .i64 S] 67))) := ⟨HB2.out.alloc HB2.out.size _⟩
  clear hb2 RT2 RZ2 HIB RT1 RZ1
  go_wp2_with (first | (refine wpList_load_row rfl 25 (.tmp 4) rfl w.heap.size rfl 25 TC.toArray (0, 0) _ RT3.out Tryd.underlying25 rfl ITC.out ?_) | (refine wpList_store_row rfl 69 (.tmp 6) (.tmp 20) rfl (w.heap.size + 1) F.toArray rfl rfl 69 (List.toArray (.int .u8 0 :: .int .u8 0 :: .int .u8 0 :: .int .u8 0 :: .int .u8 0 :: .int .u8 0 :: .int .u8 0 :: .int .u8 0 :: .int .u8 0 :: .int .u8 0 :: .int .u8 0 :: .int .u8 0 :: .int .u8 0 :: .int .u8 0 :: .int .u8 0 :: .int .u8 0 :: .int .u8 0 :: .int .u8 0 :: .int .u8 0 :: .int .u8 0 :: .int .u8 0 :: .int .u8 0 :: .int .u8 0 :: .int .u8 0 :: .int .u8 0 :: .int .u8 0 :: .int .u8 0 :: .int .u8 0 :: .int .u8 0 :: .int .u8 0 :: .int .u8 0 :: .int .u8 0 :: .int .i64 0 :: .int .i64 0 :: .int .i64 0 :: [] : List Value) : Array Value) RZ3.out IF.out SF.out AF.out ?_))
  refine bodyPost_ret (results_cell_row (fn := Tryd.f42) rfl _ _ (w.heap.size + 1) 69 F.toArray (0, 0) _ rfl (setRow_heap _ _ _ _ _ _ RZ3.out) Tryd.underlying69 rfl IF.out) rfl ⟨by rw [HFq.out], below_row HB3.out (Nat.le_add_right _ _) _⟩

def putOne (u : List Bytes) (d : Bytes) : List Bytes := if hasB u d = true then u else putB u d
/-- what is used behind some serials -/
def accB (u l : List Bytes) : List Bytes := l.foldl putOne u

theorem putOne_used {u : List Bytes} (d : Bytes) (h : usedB u = true) : usedB (putOne u d) = true := by
  unfold putOne
  split
  · exact h
  · rename_i hn
    exact used_putB u d h (fun hm => hn ((hasB_iff u d).2 hm))
theorem putOne_mem (u : List Bytes) (d x : Bytes) : x ∈ putOne u d ↔ x ∈ u ∨ x = d := by
  unfold putOne
  split
  · rename_i hy
    have := (hasB_iff u d).1 hy
    constructor
    · exact .inl
    · rintro (h | rfl)
      · exact h
      · exact this
  · rw [mem_putB]
    exact or_comm
theorem accB_used : ∀ (l u : List Bytes), usedB u = true → usedB (accB u l) = true
  | [], _, h => h
  | d :: l, u, h => accB_used l (putOne u d) (putOne_used d h)
theorem accB_mem : ∀ (l u : List Bytes) (x : Bytes), x ∈ accB u l ↔ x ∈ u ∨ x ∈ l
  | [], u, x => by simp [accB]
  | d :: l, u, x => by
    have := accB_mem l (putOne u d) x
    unfold accB at *
    rw [List.foldl_cons, this, putOne_mem, List.mem_cons, or_assoc]
theorem accB_len : ∀ (l u : List Bytes), (accB u l).length ≤ u.length + l.length
  | [], u => by simp [accB]
  | d :: l, u => by
    have := accB_len l (putOne u d)
    have h1 : (putOne u d).length ≤ u.length + 1 := by unfold putOne; split; omega; rw [putB_length]; omega
    unfold accB at *
    rw [List.foldl_cons, List.length_cons]
    omega
theorem accB_succ (l : List Bytes) (k : Nat) (hk : k < l.length) : accB [] (l.take (k + 1)) = putOne (accB [] (l.take k)) (l.getD k []) := by
  unfold accB
  rw [List.take_succ_eq_append_getElem hk, List.foldl_append, List.getD_eq_getElem?_getD, List.getElem?_eq_getElem hk]
  rfl
theorem accB_has (l : List Bytes) (k : Nat) (d : Bytes) : hasB (accB [] (l.take k)) d = decide (d ∈ l.take k) := by
  rw [Bool.eq_iff_iff, hasB_iff, accB_mem, decide_eq_true_iff]
  simp
theorem accB_rev (l : List Bytes) : accB [] l = accB [] l.reverse :=
  used_ext (accB_used _ _ rfl) (accB_used _ _ rfl) (fun x => by rw [accB_mem, accB_mem, List.mem_reverse])
theorem each_accB {l : List Bytes} (h : ∀ d ∈ l, d.length = 32) (k : Nat) : ∀ d ∈ accB [] (l.take k), d.length = 32 := fun d hd => by
  rcases (accB_mem _ _ d).1 hd with h0 | h0
  · cases h0
  · exact h d (List.mem_of_mem_take h0)
theorem rev_getD {l : List Bytes} {k : Nat} (hk : k < l.length) : l.reverse.getD k [] = l.getD (l.length - 1 - k) [] := by
  rw [List.getD_eq_getElem?_getD, List.getD_eq_getElem?_getD, List.getElem?_reverse hk]
theorem dec_take_succ (l : List Bytes) (j : Nat) (d : Bytes) (hj : j < l.length) : decide (d ∈ l.take (j + 1)) = (decide (d ∈ l.take j) || (l.getD j [] == d)) := by
  rw [Bool.eq_iff_iff, decide_eq_true_iff, Bool.or_eq_true, decide_eq_true_iff, beq_iff_eq, List.take_succ_eq_append_getElem hj, List.mem_append, List.mem_singleton, List.getD_eq_getElem?_getD, List.getElem?_eq_getElem hj]
  exact ⟨fun h => h.imp_right Eq.symm, fun h => h.imp_right Eq.symm⟩

set_option maxHeartbeats 16000000 in
theorem stamps_once (a n x val key : Int) (F : Bytes → List Value) (s : Option Addr) (len cap : Nat) (l : List Bytes) (w : World) (hG : Glob w) (hd : IsD w s len cap l) (hx : ¬ 12 < (len : Int))
    (Hs1 : Seal (∀ W, Calls Tryd.prog 35 #[.int .u32 a] W fun e w' => e = .returned (.int .i64 x) ∧ W = w'))
    (Hv : Seal (∀ W, Calls Tryd.prog 37 #[.int .i64 n] W fun e w' => e = .returned (.int .i64 val) ∧ W = w'))
    (Hp : Seal (∀ W, Calls Tryd.prog 28 #[.int .i64 x] W fun e w' => e = .returned (.tuple #[.int .i64 key, .int .i64 0]) ∧ Below W.heap.size W w'))
    (HM : Seal (∀ (T : Bytes) (W : World), T.length = 32 → Calls Tryd.prog 42 #[.int .i64 x, .agg (T.map B).toArray, .int .i64 val] W fun e w' => e = .returned (.agg (F T).toArray) ∧ Below W.heap.size W w'))
    (HS : Seal (∀ (T : Bytes) (W : World) (a : Option Addr) (n c : Nat) (l' r : List Bytes) (y : Int), T.length = 32 → Glob W → IsD W a n c l' → Seal (spendF true l' T 370 = (r, y)) → Calls Tryd.prog 41 #[.slice a n c, .int .i64 key, .agg (F T).toArray] W (DigPost r y W))) :
    Calls Tryd.prog 10 #[.int .u32 a, .slice s len cap, .int .i64 n] w fun e w' => e = .returned (.bool true) ∧ Below w.heap.size w w' := by
  have HGw := Seal.mk hG
  have HD := Seal.mk hd
  have hll := hd.llen
  have hlc := hd.lcap
  have hcm := hd.cmax
  have HEach := Seal.mk hd.each
  clear hG hd
  go_enter Tryd.func10, Tryd.ntmps10
  go_wp2_with fail
  refine (ssane_any _ HGw.out).mono ?_
  rintro e w1 ⟨rfl, hb⟩
  have HB1 := Seal.mk hb
  clear hb
  go_wp2_with fail
  refine (Hs1.out _).mono ?_
  rintro e w' ⟨rfl, rfl⟩
  go_wp2_with fail
  refine (Hp.out _).mono ?_
  rintro e w3 ⟨rfl, hb⟩
  have HB3 := Seal.mk (HB1.out.trans (hb.mono HB1.out.size))
  clear hb HB1 Hp
  go_wp2_with fail
  go_loopw [9, 11, 37] (fun u m i wr => ∃ (k : Nat) (ua : Option Addr) (un uc : Nat), k ≤ len ∧ u = .slice ua un uc ∧ m = .int .i64 (accB [] (l.take k)).length ∧ i = .int .i64 k ∧ Seal (IsD wr ua un uc (accB [] (l.take k)) ∧ Below w.heap.size w wr)) (fun _ _ i _ => len - (intOf i).toNat)
  case atStart => exact ⟨0, none, 0, 0, by omega, rfl, rfl, rfl, ⟨isD_nil _, HB3.out⟩⟩
  case round =>
    obtain ⟨wo, rfl⟩ : ∃ z, z = wr := ⟨_, rfl⟩
    obtain ⟨k, ua, un, uc, hk, rfl, rfl, rfl, hH⟩ := hrel
    have HBr : Seal (Below w.heap.size w wo) := ⟨hH.out.2⟩
    have HU : Seal (IsD wo ua un uc (accB [] (l.take k))) := ⟨hH.out.1⟩
    clear hH
    by_cases hlt : k < len
    · have HDr := HD.out.of_heap HBr.out
      rcases HDr.at_ with h0 | ⟨g, off, rfl, hr, hg⟩
      · omega
      · obtain ⟨d, hdd⟩ : ∃ d, d = l.getD k [] := ⟨_, rfl⟩
        have r1 := range_dg hr HDr.each (i := k) (by omega)
        have d32 := getD_len HDr.each (i := k) (by omega)
        rw [← hdd] at r1 d32
        have i1 := dg_info d d32
        have i1a : (Tryd.prog.info? 25).map (·.size) = some (d.map B).toArray.size := by rw [List.size_toArray]; exact i1
        have l3 : ([.int .u8 0, .int .u8 0, .int .u8 0, .int .u8 0, .int .u8 0, .int .u8 0, .int .u8 0, .int .u8 0, .int .u8 0, .int .u8 0, .int .u8 0, .int .u8 0, .int .u8 0, .int .u8 0, .int .u8 0, .int .u8 0, .int .u8 0, .int .u8 0, .int .u8 0, .int .u8 0, .int .u8 0, .int .u8 0, .int .u8 0, .int .u8 0, .int .u8 0, .int .u8 0, .int .u8 0, .int .u8 0, .int .u8 0, .int .u8 0, .int .u8 0, .int .u8 0] : List Value).length = (d.map B).length := by rw [List.length_map, d32]; rfl
        have q5 : (k : Int) < (len : Int) := by omega
        have q6 : (0 : Int) ≤ (k : Int) := by omega
        have q7 : (k : Int) ≤ (cap : Int) := by omega
        have HDd := Seal.mk hdd
        have D32 := Seal.mk d32
        have Hr := Seal.mk hr
        clear HDr hdd d32 hr
        obtain ⟨um, hum⟩ : ∃ um : Nat, um = (accB [] (l.take k)).length := ⟨_, rfl⟩
        have HUM := Seal.mk hum
        rw [← hum]
        clear hum
        go_wp2_with (first | (refine wpList_load_mid rfl 25 (.tmp 40) rfl g (off + k * 32) rfl (d.map B) _ r1 Tryd.underlying25 rfl i1 ?_) | (refine wpList_store_new rfl 25 (.tmp 13) (.tmp 41) rfl [.int .u8 0, .int .u8 0, .int .u8 0, .int .u8 0, .int .u8 0, .int .u8 0, .int .u8 0, .int .u8 0, .int .u8 0, .int .u8 0, .int .u8 0, .int .u8 0, .int .u8 0, .int .u8 0, .int .u8 0, .int .u8 0, .int .u8 0, .int .u8 0, .int .u8 0, .int .u8 0, .int .u8 0, .int .u8 0, .int .u8 0, .int .u8 0, .int .u8 0, .int .u8 0, .int .u8 0, .int .u8 0, .int .u8 0, .int .u8 0, .int .u8 0, .int .u8 0] (d.map B) 25 rfl rfl i1 l3 (digest_one d) ?_))
        obtain ⟨gd, hgd⟩ : ∃ gd, gd = wo.heap.size := ⟨_, rfl⟩
        obtain ⟨Y, hY⟩ : ∃ Y, Y = wo.alloc (.cells (d.map B).toArray 25) := ⟨_, rfl⟩
        have RY : Seal (Y.heap[gd]? = some (.cells (d.map B).toArray 25 (0, 0))) := ⟨by rw [hY, hgd]; exact heap_alloc_new wo _⟩
        have HBY : Seal (Below wo.heap.size wo Y) := ⟨by rw [hY]; exact below_alloc _ _⟩
        rw [← hY, ← hgd]
        clear hY hgd r1 l3
        go_loopw [14, 46] (fun b j wi => ∃ q : Nat, q ≤ k ∧ b = .bool (decide (d ∈ l.take q)) ∧ j = .int .i64 q ∧ Seal (Below Y.heap.size Y wi)) (fun _ j _ => k - (intOf j).toNat)
        case atStart => exact ⟨0, by omega, by simp, rfl, ⟨Below.refl _ _⟩⟩
        case round =>
          obtain ⟨wi, rfl⟩ : ∃ z, z = wr := ⟨_, rfl⟩
          obtain ⟨q, hq, rfl, rfl, hI⟩ := hrel
          have HBi : Seal (Below wo.heap.size wo wi) := ⟨HBY.out.trans (hI.out.mono HBY.out.size)⟩
          have Rd := Seal.mk (blk hI.out (Array.getElem?_eq_some_iff.1 RY.out).1 RY.out)
          by_cases hqk : q < k
          · have p1 : (q : Int) < (k : Int) := by omega
            have p2 : (0 : Int) ≤ (q : Int) := by omega
            obtain ⟨y, hy⟩ : ∃ y, y = l.getD q [] := ⟨_, rfl⟩
            have y32 : y.length = 32 := by rw [hy]; exact getD_len HEach.out (by omega)
            have ry : wi.rangeAt g (off + q * 32) (y.map B) := by rw [hy]; exact range_dg (rangeAt_below' Hr.out HBi.out) HEach.out (by omega)
            have j1 := dg_info y y32
            have j1a : (Tryd.prog.info? 25).map (·.size) = some (y.map B).toArray.size := by rw [List.size_toArray]; exact j1
            have j3 : ([.int .u8 0, .int .u8 0, .int .u8 0, .int .u8 0, .int .u8 0, .int .u8 0, .int .u8 0, .int .u8 0, .int .u8 0, .int .u8 0, .int .u8 0, .int .u8 0, .int .u8 0, .int .u8 0, .int .u8 0, .int .u8 0, .int .u8 0, .int .u8 0, .int .u8 0, .int .u8 0, .int .u8 0, .int .u8 0, .int .u8 0, .int .u8 0, .int .u8 0, .int .u8 0, .int .u8 0, .int .u8 0, .int .u8 0, .int .u8 0, .int .u8 0, .int .u8 0] : List Value).length = (y.map B).length := by rw [List.length_map, y32]; rfl
            obtain ⟨e, he⟩ : ∃ e, (y == d) = e := ⟨_, rfl⟩
            have heq : ∀ W, (Op.equalIn 10000 25 (.agg (y.map B).toArray) (.agg (d.map B).toArray)).run Tryd.prog W = .ok e W := fun W => by rw [← he]; exact eqDig y d y32 D32.out W
            have HDS : Seal (decide (d ∈ l.take (q + 1)) = (decide (d ∈ l.take q) || e)) := ⟨by rw [dec_take_succ l q d (by omega), ← hy, he]⟩
            obtain ⟨bm, hbm⟩ : ∃ bm, decide (d ∈ l.take q) = bm := ⟨_, rfl⟩
            rw [hbm] at HDS ⊢
            have HB2 : Seal (Below Y.heap.size Y (wi.alloc (.cells (y.map B).toArray 25))) := ⟨hI.out.alloc hI.out.size _⟩
            have Rd2 : (wi.alloc (.cells (y.map B).toArray 25)).heap[gd]? = some (.cells (d.map B).toArray 25 (0, 0)) := (Below.heap_alloc wi _ _ (Array.getElem?_eq_some_iff.1 Rd.out).1).trans Rd.out
            have RdS := Seal.mk Rd2
            clear hy y32 he hbm HU HD HBr Rd2
            cases bm
            · go_wp2_with (first | (refine wpList_load_mid rfl 25 (.tmp 48) rfl g (off + q * 32) rfl (y.map B) _ ry Tryd.underlying25 rfl j1 ?_) | (refine wpList_store_new rfl 25 (.tmp 16) (.tmp 49) rfl [.int .u8 0, .int .u8 0, .int .u8 0, .int .u8 0, .int .u8 0, .int .u8 0, .int .u8 0, .int .u8 0, .int .u8 0, .int .u8 0, .int .u8 0, .int .u8 0, .int .u8 0, .int .u8 0, .int .u8 0, .int .u8 0, .int .u8 0, .int .u8 0, .int .u8 0, .int .u8 0, .int .u8 0, .int .u8 0, .int .u8 0, .int .u8 0, .int .u8 0, .int .u8 0, .int .u8 0, .int .u8 0, .int .u8 0, .int .u8 0, .int .u8 0, .int .u8 0] (y.map B) 25 rfl rfl j1 j3 (digest_one y) ?_) | (refine wpList_load_row_g (by rfl) 25 (.tmp 16) rfl wi.heap.size rfl 25 (y.map B).toArray (0, 0) _ (heap_alloc_new wi _) Tryd.underlying25 rfl j1a ?_) | (refine wpList_load_row_g (by rfl) 25 (.tmp 13) rfl gd rfl 25 (d.map B).toArray (0, 0) _ RdS.out Tryd.underlying25 rfl i1a ?_))
              go_roundw
              case rel => exact ⟨q + 1, by omega, by rw [HDS.out]; simp, by go_num, HB2⟩
              case measure => simp [intOf]; omega
            · go_wp2_with (first | (refine wpList_load_mid rfl 25 (.tmp 48) rfl g (off + q * 32) rfl (y.map B) _ ry Tryd.underlying25 rfl j1 ?_) | (refine wpList_store_new rfl 25 (.tmp 16) (.tmp 49) rfl [.int .u8 0, .int .u8 0, .int .u8 0, .int .u8 0, .int .u8 0, .int .u8 0, .int .u8 0, .int .u8 0, .int .u8 0, .int .u8 0, .int .u8 0, .int .u8 0, .int .u8 0, .int .u8 0, .int .u8 0, .int .u8 0, .int .u8 0, .int .u8 0, .int .u8 0, .int .u8 0, .int .u8 0, .int .u8 0, .int .u8 0, .int .u8 0, .int .u8 0, .int .u8 0, .int .u8 0, .int .u8 0, .int .u8 0, .int .u8 0, .int .u8 0, .int .u8 0] (y.map B) 25 rfl rfl j1 j3 (digest_one y) ?_))
              go_roundw
              case rel => exact ⟨q + 1, by omega, by rw [HDS.out]; simp, by go_num, HB2⟩
              case measure => simp [intOf]; omega
          · obtain rfl : q = k := by omega
            have p1 : ¬ (q : Int) < (q : Int) := by omega
            have HBi2 : Seal (Below w.heap.size w wi) := ⟨HBr.out.trans (HBi.out.mono HBr.out.size)⟩
            have HU2 : Seal (IsD wi ua un uc (accB [] (l.take q))) := ⟨HU.out.of_heap HBi.out⟩
            have HAc : Seal (accB [] (l.take (q + 1)) = putOne (accB [] (l.take q)) d) := ⟨by rw [HDd.out]; exact accB_succ l q (by omega)⟩
            have HAh : Seal (hasB (accB [] (l.take q)) d = decide (d ∈ l.take q)) := ⟨accB_has l q d⟩
            have HAu : Seal (usedB (accB [] (l.take q)) = true ∧ (accB [] (l.take q)).length ≤ q) := ⟨accB_used _ _ rfl, by have := accB_len (l.take q) []; simp at this; omega⟩
            have rd : wi.rangeAt gd 0 (d.map B) := rangeAt_row Rd.out
            have uD := Tryd.underlying25
            obtain ⟨U, hU⟩ : ∃ U, U = accB [] (l.take q) := ⟨_, rfl⟩
            rw [← hU] at HU2 HAc HAh HAu HUM
            have HUe := Seal.mk hU
            obtain ⟨bm, hbm⟩ : ∃ bm, decide (d ∈ l.take q) = bm := ⟨_, rfl⟩
            rw [hbm] at HAh ⊢
            clear hU hbm HU HBr HBi hI
            go_wp2_with fail
            refine wp_region_held_drew (S := fun w' => w'.rangeAt gd 0 (d.map B)) (by kernel_rfl) rd (fun hHeld => ?_)
            refine take_h 0 ?_ rfl (by kernel_rfl) (by kernel_rfl) (by kernel_rfl) (fun _ _ _ h => h) (Or.inl ⟨by kernel_rfl, ?_⟩) (by assumption) ?_
            rotate_left
            · (intro w hSw; (try dsimp only at hSw); go_simp; try (with_reducible rfl))
            try simp only [Act.put, List.setIfInBounds_toArray, List.set_cons_zero, List.set_cons_succ]
            refine take_h 1 ?_ rfl (by kernel_rfl) (by kernel_rfl) (by kernel_rfl) (fun _ _ _ h => h) (Or.inl ⟨by kernel_rfl, ?_⟩) (by assumption) ?_
            rotate_left
            · (intro w hSw; (try dsimp only at hSw); go_simp; try (with_reducible rfl))
            try simp only [Act.put, List.setIfInBounds_toArray, List.set_cons_zero, List.set_cons_succ]
            refine take_h 2 ?_ rfl (by kernel_rfl) (by kernel_rfl) (by kernel_rfl) (fun _ _ _ h => h) (Or.inl ⟨by kernel_rfl, ?_⟩) (by assumption) ?_
            rotate_left
            · (intro w hSw; (try dsimp only at hSw); go_simp; try (with_reducible rfl))
            try simp only [Act.put, List.setIfInBounds_toArray, List.set_cons_zero, List.set_cons_succ]
            refine take_h 4 _ rfl (by kernel_rfl) (by kernel_rfl) (by kernel_rfl) (fun _ _ _ h => h) (yieldsIf_load_mid (by kernel_rfl) 25 (.tmp 13) rfl gd 0 rfl (d.map B) _ (fun w hSw => hSw) uD rfl i1) (by assumption) ?_
            try simp only [Act.put, List.setIfInBounds_toArray, List.set_cons_zero, List.set_cons_succ]
            refine take_h 5 ?_ rfl (by kernel_rfl) (by kernel_rfl) (by kernel_rfl) (fun _ _ _ h => h) (Or.inl ⟨by kernel_rfl, ?_⟩) (by assumption) ?_
            rotate_left
            · (intro w hSw; (try dsimp only at hSw); go_simp; try (with_reducible rfl))
            try simp only [Act.put, List.setIfInBounds_toArray, List.set_cons_zero, List.set_cons_succ]
            refine call_h 3 rfl (by kernel_rfl) 35 #[.int .u32 a] (by kernel_rfl) (by go_simp) ?_
            refine (Hs1.out _).mono ?_
            rintro e w' ⟨rfl, rfl⟩
            refine ⟨_, rfl, by assumption, fun _ => ?_⟩
            try simp only [Act.put, List.setIfInBounds_toArray, List.set_cons_zero, List.set_cons_succ]
            refine call_h 6 rfl (by kernel_rfl) 37 #[.int .i64 n] (by kernel_rfl) (by go_simp) ?_
            refine (Hv.out _).mono ?_
            rintro e w' ⟨rfl, rfl⟩
            refine ⟨_, rfl, by assumption, fun _ => ?_⟩
            try simp only [Act.put, List.setIfInBounds_toArray, List.set_cons_zero, List.set_cons_succ]
            refine call_h 7 rfl (by kernel_rfl) 42 #[.int .i64 x, .agg (d.map B).toArray, .int .i64 val] (by kernel_rfl) (by go_simp) ?_
            refine (HM.out d wi.drew D32.out).mono ?_
            rintro e w4 ⟨rfl, hb4⟩
            have hb5 : Below wi.heap.size wi w4 := ⟨hb4.os, hb4.tape, hb4.output, hb4.size, hb4.block⟩
            have HB4 : Seal (Below w.heap.size w w4) := ⟨HBi2.out.trans (hb5.mono HBi2.out.size)⟩
            have HU4 : Seal (IsD w4 ua un uc U) := ⟨HU2.out.of_heap hb5⟩
            refine ⟨_, rfl, rangeAt_below' rd hb5, fun hHeld2 => ?_⟩
            have rd4 := hHeld2
            clear hHeld hb4 hb5 rd HU2
            try simp only [Act.put, List.setIfInBounds_toArray, List.set_cons_zero, List.set_cons_succ]
            cases bm with
            | true =>
              refine call_h 8 rfl (by kernel_rfl) 41 #[.slice ua un uc, .int .i64 key, .agg (F d).toArray] (by kernel_rfl) (by go_simp) ?_
              refine (HS.out d w4 ua un uc U [] 161 D32.out (HGw.out.below HB4.out) HU4.out ⟨by unfold spendF; rw [if_pos rfl, if_pos HAu.out.1, if_pos HAh.out]⟩).mono ?_
              rintro e w5 ⟨a5, n5, c5, rfl, _, hb5⟩
              have HB5 : Seal (Below w.heap.size w w5) := ⟨HB4.out.trans (hb5.mono HB4.out.size)⟩
              have HU5 : Seal (IsD w5 ua un uc (accB [] (l.take (q + 1))) ∧ (accB [] (l.take (q + 1))).length = um) := ⟨by
                have e1 : accB [] (l.take (q + 1)) = U := by rw [HAc.out]; unfold putOne; rw [if_pos HAh.out]
                rw [e1]
                exact ⟨HU4.out.of_heap hb5, HUM.out.symm⟩⟩
              refine ⟨_, rfl, rangeAt_below' rd4 hb5, fun hHeld3 => ?_⟩
              clear hHeld2 hb5 rd4 HU4
              try simp only [Act.put, List.setIfInBounds_toArray, List.set_cons_zero, List.set_cons_succ]
              refine take_h 9 ?_ rfl (by kernel_rfl) (by kernel_rfl) (by kernel_rfl) (fun _ _ _ h => h) (Or.inl ⟨by kernel_rfl, ?_⟩) (by assumption) ?_
              rotate_left
              · (intro w hSw; (try dsimp only at hSw); go_simp; try (with_reducible rfl))
              try simp only [Act.put, List.setIfInBounds_toArray, List.set_cons_zero, List.set_cons_succ]
              refine take_h 10 ?_ rfl (by kernel_rfl) (by kernel_rfl) (by kernel_rfl) (fun _ _ _ h => h) (Or.inl ⟨by kernel_rfl, ?_⟩) (by assumption) ?_
              rotate_left
              · (intro w hSw; (try dsimp only at hSw); go_simp; try (with_reducible rfl))
              try simp only [Act.put, List.setIfInBounds_toArray, List.set_cons_zero, List.set_cons_succ]
              refine take_h 11 ?_ rfl (by kernel_rfl) (by kernel_rfl) (by kernel_rfl) (fun _ _ _ h => h) (Or.inl ⟨by kernel_rfl, ?_⟩) (by assumption) ?_
              rotate_left
              · (intro w hSw; (try dsimp only at hSw); go_simp; try (with_reducible rfl))
              try simp only [Act.put, List.setIfInBounds_toArray, List.set_cons_zero, List.set_cons_succ]
              refine take_h 12 ?_ rfl (by kernel_rfl) (by kernel_rfl) (by kernel_rfl) (fun _ _ _ h => h) (Or.inl ⟨by kernel_rfl, ?_⟩) (by assumption) ?_
              rotate_left
              · (intro w hSw; (try dsimp only at hSw); go_simp; try (with_reducible rfl))
              try simp only [Act.put, List.setIfInBounds_toArray, List.set_cons_zero, List.set_cons_succ]
              refine take_h 13 ?_ rfl (by kernel_rfl) (by kernel_rfl) (by kernel_rfl) (fun _ _ _ h => h) (Or.inl ⟨by kernel_rfl, ?_⟩) (by assumption) ?_
              rotate_left
              · (intro w hSw; (try dsimp only at hSw); go_simp; try (with_reducible rfl))
              try simp only [Act.put, List.setIfInBounds_toArray, List.set_cons_zero, List.set_cons_succ]
              refine wpAnyH_done (by kernel_rfl) ?_ _
              clear hHeld3
              go_wp2
              go_roundw
              case rel => exact ⟨q + 1, ua, un, uc, by omega, rfl, by rw [HU5.out.2], by go_num, ⟨HU5.out.1, HB5.out⟩⟩
              case measure => simp [intOf]; omega
            | false =>
              refine call_h 8 rfl (by kernel_rfl) 41 #[.slice ua un uc, .int .i64 key, .agg (F d).toArray] (by kernel_rfl) (by go_simp) ?_
              refine (HS.out d w4 ua un uc U (putB U d) 0 D32.out (HGw.out.below HB4.out) HU4.out ⟨by unfold spendF; rw [if_pos rfl, if_pos HAu.out.1, if_neg (by rw [HAh.out]; decide), if_neg (by have := HAu.out.2; omega)]⟩).mono ?_
              rintro e w5 ⟨a5, n5, c5, rfl, HN, hb5⟩
              have HB5 : Seal (Below w.heap.size w w5) := ⟨HB4.out.trans (hb5.mono HB4.out.size)⟩
              have HU5 : Seal (IsD w5 a5 n5 c5 (accB [] (l.take (q + 1))) ∧ (accB [] (l.take (q + 1))).length = um + 1) := ⟨by
                have e1 : accB [] (l.take (q + 1)) = putB U d := by rw [HAc.out]; unfold putOne; rw [if_neg (by rw [HAh.out]; decide)]
                rw [e1]
                exact ⟨HN.out, by rw [putB_length, HUM.out]⟩⟩
              have hum : IntKind.i64.wrap ((um : Int) + 1) = (um : Int) + 1 := IntWalk.i64_in _ (by have := HAu.out.2; have := HUM.out; omega)
              refine ⟨_, rfl, rangeAt_below' rd4 hb5, fun hHeld3 => ?_⟩
              clear hHeld2 hb5 rd4 HU4 HN
              try simp only [Act.put, List.setIfInBounds_toArray, List.set_cons_zero, List.set_cons_succ]
              refine take_h 9 ?_ rfl (by kernel_rfl) (by kernel_rfl) (by kernel_rfl) (fun _ _ _ h => h) (Or.inl ⟨by kernel_rfl, ?_⟩) (by assumption) ?_
              rotate_left
              · (intro w hSw; (try dsimp only at hSw); go_simp; try (with_reducible rfl))
              try simp only [Act.put, List.setIfInBounds_toArray, List.set_cons_zero, List.set_cons_succ]
              refine take_h 10 ?_ rfl (by kernel_rfl) (by kernel_rfl) (by kernel_rfl) (fun _ _ _ h => h) (Or.inl ⟨by kernel_rfl, ?_⟩) (by assumption) ?_
              rotate_left
              · (intro w hSw; (try dsimp only at hSw); go_simp; try (with_reducible rfl))
              try simp only [Act.put, List.setIfInBounds_toArray, List.set_cons_zero, List.set_cons_succ]
              refine take_h 11 ?_ rfl (by kernel_rfl) (by kernel_rfl) (by kernel_rfl) (fun _ _ _ h => h) (Or.inl ⟨by kernel_rfl, ?_⟩) (by assumption) ?_
              rotate_left
              · (intro w hSw; (try dsimp only at hSw); go_simp; try (with_reducible rfl))
              try simp only [Act.put, List.setIfInBounds_toArray, List.set_cons_zero, List.set_cons_succ]
              refine take_h 12 ?_ rfl (by kernel_rfl) (by kernel_rfl) (by kernel_rfl) (fun _ _ _ h => h) (Or.inl ⟨by kernel_rfl, ?_⟩) (by assumption) ?_
              rotate_left
              · (intro w hSw; (try dsimp only at hSw); go_simp; try (with_reducible rfl))
              try simp only [Act.put, List.setIfInBounds_toArray, List.set_cons_zero, List.set_cons_succ]
              refine take_h 13 ?_ rfl (by kernel_rfl) (by kernel_rfl) (by kernel_rfl) (fun _ _ _ h => h) (Or.inl ⟨by kernel_rfl, ?_⟩) (by assumption) ?_
              rotate_left
              · (intro w hSw; (try dsimp only at hSw); go_simp; try (with_reducible rfl))
              try simp only [Act.put, List.setIfInBounds_toArray, List.set_cons_zero, List.set_cons_succ]
              refine wpAnyH_done (by kernel_rfl) ?_ _
              clear hHeld3
              go_wp2
              go_roundw
              case rel => exact ⟨q + 1, a5, n5, c5, by omega, rfl, by rw [HU5.out.2]; simp, by go_num, ⟨HU5.out.1, HB5.out⟩⟩
              case measure => simp [intOf]; omega
    · obtain rfl : k = len := by omega
      have q5 : ¬ (k : Int) < (k : Int) := by omega
      have hlk : l.take k = l := List.take_of_length_le (by omega)
      rw [hlk] at HU ⊢
      obtain ⟨um, hum⟩ : ∃ um : Nat, um = (accB [] l).length := ⟨_, rfl⟩
      have HUM := Seal.mk hum
      rw [← hum]
      clear hum hlk
      go_wp2_with fail
      go_loopw [10, 80] (fun u i wi => ∃ (j : Nat) (ba : Option Addr) (bn bc : Nat), j ≤ k ∧ u = .slice ba bn bc ∧ i = .int .i64 j ∧ Seal (IsD wi ba bn bc (accB [] (l.reverse.take j)) ∧ Below wo.heap.size wo wi)) (fun _ i _ => k - (intOf i).toNat)
      case atStart => exact ⟨0, none, 0, 0, by omega, rfl, rfl, ⟨isD_nil _, Below.refl _ _⟩⟩
      case round =>
        obtain ⟨wi, rfl⟩ : ∃ z, z = wr := ⟨_, rfl⟩
        obtain ⟨j, ba, bn, bc, hj, rfl, rfl, hH⟩ := hrel
        have HBi : Seal (Below w.heap.size w wi) := ⟨HBr.out.trans (hH.out.2.mono HBr.out.size)⟩
        have HBw : Seal (Below wo.heap.size wo wi) := ⟨hH.out.2⟩
        have HBk : Seal (IsD wi ba bn bc (accB [] (l.reverse.take j))) := ⟨hH.out.1⟩
        clear hH
        by_cases hjk : j < k
        · have HDr := HD.out.of_heap HBi.out
          rcases HDr.at_ with h0 | ⟨g, off, rfl, hr, hg⟩
          · omega
          · obtain ⟨d, hdd⟩ : ∃ d, d = l.getD (k - 1 - j) [] := ⟨_, rfl⟩
            have r1 := range_dg hr HDr.each (i := k - 1 - j) (by omega)
            have d32 := getD_len HDr.each (i := k - 1 - j) (by omega)
            rw [← hdd] at r1 d32
            have i1 := dg_info d d32
            have uD := Tryd.underlying25
            have D32 := Seal.mk d32
            have p1 : (j : Int) < (k : Int) := by omega
            have p2 : (0 : Int) ≤ (j : Int) := by omega
            have p3 : IntKind.i64.wrap ((k : Int) - 1) = (k : Int) - 1 := IntWalk.i64_in _ (by omega)
            have p4 : IntKind.i64.wrap ((k : Int) - 1 - (j : Int)) = (k : Int) - 1 - (j : Int) := IntWalk.i64_in _ (by omega)
            have p5 : ((k : Int) - 1 - (j : Int)).toNat = k - 1 - j := by omega
            have p6 : 0 ≤ (k : Int) - 1 - (j : Int) := by omega
            have p7 : (k : Int) - 1 - (j : Int) < (k : Int) := by omega
            have p8 : (j : Int) ≤ (k : Int) - 1 := by omega
            have HAc : Seal (accB [] (l.reverse.take (j + 1)) = putOne (accB [] (l.reverse.take j)) d) := ⟨by
              rw [hdd, accB_succ l.reverse j (by rw [List.length_reverse]; omega), rev_getD (by omega), hll]⟩
            have HAu : Seal (usedB (accB [] (l.reverse.take j)) = true ∧ (accB [] (l.reverse.take j)).length ≤ j) := ⟨accB_used _ _ rfl, by have := accB_len (l.reverse.take j) []; simp at this; omega⟩
            obtain ⟨U, hU⟩ : ∃ U, U = accB [] (l.reverse.take j) := ⟨_, rfl⟩
            rw [← hU] at HAc HAu HBk
            clear HDr hdd d32 hr hU HD
            go_wp2_with fail
            refine wp_region_held_drew (S := fun w' => w'.rangeAt g (off + (k - 1 - j) * 32) (d.map B)) (by kernel_rfl) r1 (fun hHeld => ?_)
            refine take_h 0 ?_ rfl (by kernel_rfl) (by kernel_rfl) (by kernel_rfl) (fun _ _ _ h => h) (Or.inl ⟨by kernel_rfl, ?_⟩) (by assumption) ?_
            rotate_left
            · (intro w hSw; (try dsimp only at hSw); go_simp; try (with_reducible rfl))
            try simp only [Act.put, List.setIfInBounds_toArray, List.set_cons_zero, List.set_cons_succ]
            refine take_h 1 ?_ rfl (by kernel_rfl) (by kernel_rfl) (by kernel_rfl) (fun _ _ _ h => h) (Or.inl ⟨by kernel_rfl, ?_⟩) (by assumption) ?_
            rotate_left
            · (intro w hSw; (try dsimp only at hSw); go_simp; try (with_reducible rfl))
            try simp only [Act.put, List.setIfInBounds_toArray, List.set_cons_zero, List.set_cons_succ]
            refine take_h 2 ?_ rfl (by kernel_rfl) (by kernel_rfl) (by kernel_rfl) (fun _ _ _ h => h) (Or.inl ⟨by kernel_rfl, ?_⟩) (by assumption) ?_
            rotate_left
            · (intro w hSw; (try dsimp only at hSw); go_simp; try (with_reducible rfl))
            try simp only [Act.put, List.setIfInBounds_toArray, List.set_cons_zero, List.set_cons_succ]
            refine take_h 4 ?_ rfl (by kernel_rfl) (by kernel_rfl) (by kernel_rfl) (fun _ _ _ h => h) (Or.inl ⟨by kernel_rfl, ?_⟩) (by assumption) ?_
            rotate_left
            · (intro w hSw; (try dsimp only at hSw); go_simp; try (with_reducible rfl))
            try simp only [Act.put, List.setIfInBounds_toArray, List.set_cons_zero, List.set_cons_succ]
            refine take_h 5 ?_ rfl (by kernel_rfl) (by kernel_rfl) (by kernel_rfl) (fun _ _ _ h => h) (Or.inl ⟨by kernel_rfl, ?_⟩) (by assumption) ?_
            rotate_left
            · (intro w hSw; (try dsimp only at hSw); go_simp; try (with_reducible rfl))
            try simp only [Act.put, List.setIfInBounds_toArray, List.set_cons_zero, List.set_cons_succ]
            refine take_h 6 ?_ rfl (by kernel_rfl) (by kernel_rfl) (by kernel_rfl) (fun _ _ _ h => h) (Or.inl ⟨by kernel_rfl, ?_⟩) (by assumption) ?_
            rotate_left
            · (intro w hSw; (try dsimp only at hSw); go_simp; try (with_reducible rfl))
            try simp only [Act.put, List.setIfInBounds_toArray, List.set_cons_zero, List.set_cons_succ]
            refine take_h 7 ?_ rfl (by kernel_rfl) (by kernel_rfl) (by kernel_rfl) (fun _ _ _ h => h) (Or.inl ⟨by kernel_rfl, ?_⟩) (by assumption) ?_
            rotate_left
            · (intro w hSw; (try dsimp only at hSw); go_simp; try (with_reducible rfl))
            try simp only [Act.put, List.setIfInBounds_toArray, List.set_cons_zero, List.set_cons_succ]
            refine take_h 8 ?_ rfl (by kernel_rfl) (by kernel_rfl) (by kernel_rfl) (fun _ _ _ h => h) (Or.inl ⟨by kernel_rfl, ?_⟩) (by assumption) ?_
            rotate_left
            · (intro w hSw; (try dsimp only at hSw); go_simp; try (with_reducible rfl))
            try simp only [Act.put, List.setIfInBounds_toArray, List.set_cons_zero, List.set_cons_succ]
            refine take_h 9 ?_ rfl (by kernel_rfl) (by kernel_rfl) (by kernel_rfl) (fun _ _ _ h => h) (Or.inl ⟨by kernel_rfl, ?_⟩) (by assumption) ?_
            rotate_left
            · (intro w hSw; (try dsimp only at hSw); go_simp; try (with_reducible rfl))
            try simp only [Act.put, List.setIfInBounds_toArray, List.set_cons_zero, List.set_cons_succ]
            refine take_h 10 ?_ rfl (by kernel_rfl) (by kernel_rfl) (by kernel_rfl) (fun _ _ _ h => h) (Or.inl ⟨by kernel_rfl, ?_⟩) (by assumption) ?_
            rotate_left
            · (intro w hSw; (try dsimp only at hSw); go_simp; try (with_reducible rfl))
            try simp only [Act.put, List.setIfInBounds_toArray, List.set_cons_zero, List.set_cons_succ]
            refine take_h 11 _ rfl (by kernel_rfl) (by kernel_rfl) (by kernel_rfl) (fun _ _ _ h => h) (yieldsIf_load_mid (by kernel_rfl) 25 (.tmp 94) rfl g (off + (k - 1 - j) * 32) rfl (d.map B) _ (fun w hSw => hSw) uD rfl i1) (by assumption) ?_
            try simp only [Act.put, List.setIfInBounds_toArray, List.set_cons_zero, List.set_cons_succ]
            refine take_h 12 ?_ rfl (by kernel_rfl) (by kernel_rfl) (by kernel_rfl) (fun _ _ _ h => h) (Or.inl ⟨by kernel_rfl, ?_⟩) (by assumption) ?_
            rotate_left
            · (intro w hSw; (try dsimp only at hSw); go_simp; try (with_reducible rfl))
            try simp only [Act.put, List.setIfInBounds_toArray, List.set_cons_zero, List.set_cons_succ]
            refine call_h 3 rfl (by kernel_rfl) 35 #[.int .u32 a] (by kernel_rfl) (by go_simp) ?_
            refine (Hs1.out _).mono ?_
            rintro e w' ⟨rfl, rfl⟩
            refine ⟨_, rfl, by assumption, fun _ => ?_⟩
            try simp only [Act.put, List.setIfInBounds_toArray, List.set_cons_zero, List.set_cons_succ]
            refine call_h 13 rfl (by kernel_rfl) 37 #[.int .i64 n] (by kernel_rfl) (by go_simp) ?_
            refine (Hv.out _).mono ?_
            rintro e w' ⟨rfl, rfl⟩
            refine ⟨_, rfl, by assumption, fun _ => ?_⟩
            try simp only [Act.put, List.setIfInBounds_toArray, List.set_cons_zero, List.set_cons_succ]
            refine call_h 14 rfl (by kernel_rfl) 42 #[.int .i64 x, .agg (d.map B).toArray, .int .i64 val] (by kernel_rfl) (by go_simp) ?_
            refine (HM.out d wi.drew D32.out).mono ?_
            rintro e w4 ⟨rfl, hb4⟩
            have hb5 : Below wi.heap.size wi w4 := ⟨hb4.os, hb4.tape, hb4.output, hb4.size, hb4.block⟩
            have HB4 : Seal (Below w.heap.size w w4) := ⟨HBi.out.trans (hb5.mono HBi.out.size)⟩
            have HW4 : Seal (Below wo.heap.size wo w4) := ⟨HBw.out.trans (hb5.mono HBw.out.size)⟩
            have HU4 : Seal (IsD w4 ba bn bc U) := ⟨HBk.out.of_heap hb5⟩
            refine ⟨_, rfl, rangeAt_below' r1 hb5, fun hHeld2 => ?_⟩
            have rd4 := hHeld2
            clear hHeld hb4 hb5 r1 HBk p3 p4 p5 p6 p7
            try simp only [Act.put, List.setIfInBounds_toArray, List.set_cons_zero, List.set_cons_succ]
            cases hh : hasB U d with
            | true =>
              refine call_h 15 rfl (by kernel_rfl) 41 #[.slice ba bn bc, .int .i64 key, .agg (F d).toArray] (by kernel_rfl) (by go_simp) ?_
              refine (HS.out d w4 ba bn bc U [] 161 D32.out (HGw.out.below HB4.out) HU4.out ⟨by unfold spendF; rw [if_pos rfl, if_pos HAu.out.1, if_pos hh]⟩).mono ?_
              rintro e w5 ⟨a5, n5, c5, rfl, _, hb5⟩
              have HW5 : Seal (Below wo.heap.size wo w5) := ⟨HW4.out.trans (hb5.mono HW4.out.size)⟩
              have HU5 : Seal (IsD w5 ba bn bc (accB [] (l.reverse.take (j + 1)))) := ⟨by
                have e1 : accB [] (l.reverse.take (j + 1)) = U := by rw [HAc.out]; unfold putOne; rw [if_pos hh]
                rw [e1]
                exact HU4.out.of_heap hb5⟩
              refine ⟨_, rfl, rangeAt_below' rd4 hb5, fun hHeld3 => ?_⟩
              clear hHeld2 hb5 rd4 HU4 hh
              try simp only [Act.put, List.setIfInBounds_toArray, List.set_cons_zero, List.set_cons_succ]
              refine take_h 16 ?_ rfl (by kernel_rfl) (by kernel_rfl) (by kernel_rfl) (fun _ _ _ h => h) (Or.inl ⟨by kernel_rfl, ?_⟩) (by assumption) ?_
              rotate_left
              · (intro w hSw; (try dsimp only at hSw); go_simp; try (with_reducible rfl))
              try simp only [Act.put, List.setIfInBounds_toArray, List.set_cons_zero, List.set_cons_succ]
              refine take_h 17 ?_ rfl (by kernel_rfl) (by kernel_rfl) (by kernel_rfl) (fun _ _ _ h => h) (Or.inl ⟨by kernel_rfl, ?_⟩) (by assumption) ?_
              rotate_left
              · (intro w hSw; (try dsimp only at hSw); go_simp; try (with_reducible rfl))
              try simp only [Act.put, List.setIfInBounds_toArray, List.set_cons_zero, List.set_cons_succ]
              refine take_h 18 ?_ rfl (by kernel_rfl) (by kernel_rfl) (by kernel_rfl) (fun _ _ _ h => h) (Or.inl ⟨by kernel_rfl, ?_⟩) (by assumption) ?_
              rotate_left
              · (intro w hSw; (try dsimp only at hSw); go_simp; try (with_reducible rfl))
              try simp only [Act.put, List.setIfInBounds_toArray, List.set_cons_zero, List.set_cons_succ]
              refine take_h 19 ?_ rfl (by kernel_rfl) (by kernel_rfl) (by kernel_rfl) (fun _ _ _ h => h) (Or.inl ⟨by kernel_rfl, ?_⟩) (by assumption) ?_
              rotate_left
              · (intro w hSw; (try dsimp only at hSw); go_simp; try (with_reducible rfl))
              try simp only [Act.put, List.setIfInBounds_toArray, List.set_cons_zero, List.set_cons_succ]
              refine take_h 20 ?_ rfl (by kernel_rfl) (by kernel_rfl) (by kernel_rfl) (fun _ _ _ h => h) (Or.inl ⟨by kernel_rfl, ?_⟩) (by assumption) ?_
              rotate_left
              · (intro w hSw; (try dsimp only at hSw); go_simp; try (with_reducible rfl))
              try simp only [Act.put, List.setIfInBounds_toArray, List.set_cons_zero, List.set_cons_succ]
              refine wpAnyH_done (by kernel_rfl) ?_ _
              clear hHeld3
              go_wp2
              go_roundw
              case rel => exact ⟨j + 1, ba, bn, bc, by omega, rfl, by go_num, ⟨HU5.out, HW5.out⟩⟩
              case measure => simp [intOf]; omega
            | false =>
              refine call_h 15 rfl (by kernel_rfl) 41 #[.slice ba bn bc, .int .i64 key, .agg (F d).toArray] (by kernel_rfl) (by go_simp) ?_
              refine (HS.out d w4 ba bn bc U (putB U d) 0 D32.out (HGw.out.below HB4.out) HU4.out ⟨by unfold spendF; rw [if_pos rfl, if_pos HAu.out.1, if_neg (by rw [hh]; decide), if_neg (by have := HAu.out.2; omega)]⟩).mono ?_
              rintro e w5 ⟨a5, n5, c5, rfl, HN, hb5⟩
              have HW5 : Seal (Below wo.heap.size wo w5) := ⟨HW4.out.trans (hb5.mono HW4.out.size)⟩
              have HU5 : Seal (IsD w5 a5 n5 c5 (accB [] (l.reverse.take (j + 1)))) := ⟨by
                have e1 : accB [] (l.reverse.take (j + 1)) = putB U d := by rw [HAc.out]; unfold putOne; rw [if_neg (by rw [hh]; decide)]
                rw [e1]
                exact HN.out⟩
              refine ⟨_, rfl, rangeAt_below' rd4 hb5, fun hHeld3 => ?_⟩
              clear hHeld2 hb5 rd4 HU4 HN hh
              try simp only [Act.put, List.setIfInBounds_toArray, List.set_cons_zero, List.set_cons_succ]
              refine take_h 16 ?_ rfl (by kernel_rfl) (by kernel_rfl) (by kernel_rfl) (fun _ _ _ h => h) (Or.inl ⟨by kernel_rfl, ?_⟩) (by assumption) ?_
              rotate_left
              · (intro w hSw; (try dsimp only at hSw); go_simp; try (with_reducible rfl))
              try simp only [Act.put, List.setIfInBounds_toArray, List.set_cons_zero, List.set_cons_succ]
              refine take_h 17 ?_ rfl (by kernel_rfl) (by kernel_rfl) (by kernel_rfl) (fun _ _ _ h => h) (Or.inl ⟨by kernel_rfl, ?_⟩) (by assumption) ?_
              rotate_left
              · (intro w hSw; (try dsimp only at hSw); go_simp; try (with_reducible rfl))
              try simp only [Act.put, List.setIfInBounds_toArray, List.set_cons_zero, List.set_cons_succ]
              refine take_h 18 ?_ rfl (by kernel_rfl) (by kernel_rfl) (by kernel_rfl) (fun _ _ _ h => h) (Or.inl ⟨by kernel_rfl, ?_⟩) (by assumption) ?_
              rotate_left
              · (intro w hSw; (try dsimp only at hSw); go_simp; try (with_reducible rfl))
              try simp only [Act.put, List.setIfInBounds_toArray, List.set_cons_zero, List.set_cons_succ]
              refine take_h 19 ?_ rfl (by kernel_rfl) (by kernel_rfl) (by kernel_rfl) (fun _ _ _ h => h) (Or.inl ⟨by kernel_rfl, ?_⟩) (by assumption) ?_
              rotate_left
              · (intro w hSw; (try dsimp only at hSw); go_simp; try (with_reducible rfl))
              try simp only [Act.put, List.setIfInBounds_toArray, List.set_cons_zero, List.set_cons_succ]
              refine take_h 20 ?_ rfl (by kernel_rfl) (by kernel_rfl) (by kernel_rfl) (fun _ _ _ h => h) (Or.inl ⟨by kernel_rfl, ?_⟩) (by assumption) ?_
              rotate_left
              · (intro w hSw; (try dsimp only at hSw); go_simp; try (with_reducible rfl))
              try simp only [Act.put, List.setIfInBounds_toArray, List.set_cons_zero, List.set_cons_succ]
              refine wpAnyH_done (by kernel_rfl) ?_ _
              clear hHeld3
              go_wp2
              go_roundw
              case rel => exact ⟨j + 1, a5, n5, c5, by omega, rfl, by go_num, ⟨HU5.out, HW5.out⟩⟩
              case measure => simp [intOf]; omega
        · obtain rfl : j = k := by omega
          have p1 : ¬ (j : Int) < (j : Int) := by omega
          have hlr : l.reverse.take j = l.reverse := List.take_of_length_le (by rw [List.length_reverse]; omega)
          rw [hlr, ← accB_rev] at HBk
          have HU1 : Seal (IsD wi ua un uc (accB [] l)) := ⟨HU.out.of_heap HBw.out⟩
          have hun : un = um := by rw [HUM.out]; exact HU1.out.llen.symm
          subst hun
          have HAu : Seal (usedB (accB [] l) = true) := ⟨accB_used _ _ rfl⟩
          generalize accB [] l = U at HBk HU1 HAu
          clear hlr HU HD
          go_wp2_with fail
          refine (rsame_any ua ba un uc bn bc U U wi HU1.out HBk.out).mono ?_
          rintro e w4 ⟨rfl, hb⟩
          rw [show (U == U) = true from by simp]
          have HB4 : Seal (Below w.heap.size w w4) := ⟨HBi.out.trans (hb.mono HBi.out.size)⟩
          have HU4 : Seal (IsD w4 ua un uc U) := ⟨HU1.out.of_heap hb⟩
          clear hb HU1 HBk
          go_wp2_with fail
          refine (rused_any ua un uc U w4 HU4.out).mono ?_
          rintro e w5 ⟨rfl, hb⟩
          rw [HAu.out]
          have HB5 : Seal (Below w.heap.size w w5) := ⟨HB4.out.trans (hb.mono HB4.out.size)⟩
          clear hb
          go_wp2
          go_ret
          exact ⟨rfl, HB5.out⟩

theorem once_many (a n : Int) (s : Option Addr) (len cap : Nat) (w : World) (hG : Glob w) (hx : 12 < (len : Int)) :
    Calls Tryd.prog 10 #[.int .u32 a, .slice s len cap, .int .i64 n] w fun e w' => e = .returned (.bool true) ∧ Below w.heap.size w w' := by
  have HG := Seal.mk hG
  clear hG
  go_enter Tryd.func10, Tryd.ntmps10
  go_wp2_with fail
  refine (ssane_any _ HG.out).mono ?_
  rintro e w1 ⟨rfl, hb⟩
  have HB1 := Seal.mk hb
  clear hb
  go_wp2
  go_ret
  exact ⟨rfl, HB1.out⟩

theorem law_stampsOnce (a n : Int) (s : Option Addr) (len cap : Nat) (l : List Bytes) (w : World) (hG : Glob w) (a1 : 0 ≤ a ∧ a < 4294967296) (hm : (len : Int) ≤ 9223372036854775807) (hd : len ≤ 1099511627776 → IsD w s len cap l) :
    Calls Tryd.prog 10 #[.int .u32 a, .slice s len cap, .int .i64 n] w fun e w' => e = .returned (.bool true) ∧ Below w.heap.size w w' := by
  by_cases hx : 12 < (len : Int)
  · exact once_many a n s len cap w hG hx
  · have _ := hm
    have fn := valF_ok n
    have fn2 : -9223372036854775808 ≤ valF n ∧ valF n ≤ 9223372036854775807 := by unfold fitB at fn; simp at fn; omega
    have rng : 1 ≤ secF a ∧ secF a < 1073741789 := by have h := secF_ok a; unfold secB at h; simp at h; omega
    have hsk : ∀ T, skB ((pw 4 (secF a) : Nat) : Int) T (valF n) (sgE (secF a) (stT T (valF n)) : Nat) (sgS (secF a) (stT T (valF n))) = true := fun T => by
      unfold skB; rw [fn, sign_right]; rfl
    exact stamps_once a n (secF a) (valF n) ((pw 4 (secF a) : Nat) : Int) (fun T => stC T (valF n) (sgE (secF a) (stT T (valF n)) : Nat) (sgS (secF a) (stT T (valF n)))) s len cap l w hG (hd (by omega)) hx
      ⟨fun W => lsecret_any a _ W a1.1 a1.2 ⟨rfl⟩⟩ ⟨fun W => lvalue_any n _ W ⟨rfl⟩⟩ ⟨fun W => public_at _ _ _ W ⟨by unfold pubF; rw [if_pos (secF_ok a)]⟩ (by omega) (by omega)⟩
      ⟨fun T W h => rmake37_any (secF a) (valF n) T W h rng.1 rng.2 fn2.1 fn2.2⟩
      ⟨fun T W b m c l' r y h hW hi hs => sspend_any b m c l' r _ (valF n) _ _ y T W hW hi h ⟨by rw [hsk T]; exact hs.out⟩⟩

open Go.ChangeShapes Go.WideShapes Go.ChangeAt
section
variable {H : Type} {enc : TypeId × Value → H} {W : World} {base : Nat} {sp : Nat → Bool} {hd : Bool} {fuel : Nat} {cs : List Value} {x : DataW H × List MemPlace}

theorem cells_ints {t e : TypeId} {k : IntKind} {n : Nat} (ht : Tryd.prog.underlying t = some (.array n e)) (he : Tryd.prog.underlying e = some (.int k)) (hc : Tryd.prog.cellsOf e = 1) (hn : Tryd.prog.cellsOf t = n)
    (h : DataW.trod enc Tryd.prog W base sp hd fuel t cs = some x) : ∃ zs : List Int, zs.length = n ∧ cs = zs.map (fun z => .int k z) ∧ ∀ z ∈ zs, (Lit.int k z).wf = true := by
  obtain ⟨xs, m, _, _, hlen, hxl, hel⟩ := DataW.trod_array ht h
  rw [hn] at hlen
  have key : ∀ i, i < n → ∃ z, cs[i]? = some (.int k z) ∧ (Lit.int k z).wf = true := fun i hi => by
    have h1 := hel i hi
    rw [hc, List.getElem?_eq_getElem (by omega), Nat.mul_one] at h1
    obtain ⟨z, e1, _, hw⟩ := DataW.trod_int he h1
    refine ⟨z, ?_, hw⟩
    have := congrArg (·[0]?) e1
    simp only [List.getElem?_take, List.getElem?_drop] at this
    simpa using this
  refine ⟨cs.map intOf, by simp [hlen], ?_, ?_⟩
  · apply List.ext_getElem?
    intro i
    by_cases hi : i < n
    · obtain ⟨z, e1, _⟩ := key i hi
      simp [e1, intOf]
    · rw [List.getElem?_eq_none (by omega), List.getElem?_eq_none (by simp; omega)]
  · intro z hz
    obtain ⟨v, hv, rfl⟩ := List.mem_map.1 hz
    obtain ⟨i, hi, e⟩ := List.getElem_of_mem hv
    obtain ⟨z, e1, hw⟩ := key i (by omega)
    rw [List.getElem?_eq_getElem hi, e] at e1
    cases e1
    exact hw

theorem cells_digest (h : DataW.trod enc Tryd.prog W base sp hd fuel 25 cs = some x) : ∃ T : Bytes, T.length = 32 ∧ cs = T.map B := by
  obtain ⟨zs, hl, e, hw⟩ := cells_ints Tryd.underlying25 Tryd.underlying5 (by kernel_rfl) (by kernel_rfl) h
  refine ⟨zs.map fun z => UInt8.ofNat z.toNat, by simpa using hl, ?_⟩
  rw [e, List.map_map]
  apply List.map_congr_left
  intro z hz
  have := hw z hz
  simp [Lit.wf] at this
  have h1 : IntKind.u8.min = 0 := by decide
  have h2 : IntKind.u8.max = 255 := by decide
  show Value.int .u8 z = .int .u8 _
  congr 1
  rw [UInt8.toNat_ofNat_of_lt' (Nat.lt_of_lt_of_le (show z.toNat < 256 by omega) (by decide))]
  omega
end

theorem okWide_array' {w : World} {r : Reach} {base n : Nat} {t e : TypeId} {v : Value} (ht : Tryd.prog.underlying t = some (.array n e)) (h : Value.okWide Tryd.prog w r base t v) : ∃ cs, v = .agg cs ∧ cs.size = Tryd.prog.cellsOf t := by
  simp only [Value.okWide, ht] at h
  obtain ⟨cs, h1, h2, _⟩ := h
  exact ⟨cs, h1, h2⟩

theorem digest_open {H : Type} {enc : TypeId × Value → H} {W : World} {base : Nat} {v : Value} {d : DataW H} {p : List MemPlace} (hval : Value.okWide Tryd.prog W .any base 25 v) (h1 : DataW.Trod enc Tryd.prog W 0 (fun _ => true) true 25 v d p) :
    ∃ T : Bytes, v = .agg (T.map B).toArray ∧ T.length = 32 := by
  obtain ⟨cs, rfl, hsz⟩ := okWide_array' Tryd.underlying25 hval
  obtain ⟨fuel, hf⟩ := h1
  obtain ⟨T, hT, e⟩ := cells_digest hf
  have e' : cs.toList = T.map B := e
  exact ⟨T, by rw [← e'], hT⟩

theorem u32_open {H : Type} {enc : TypeId × Value → H} {W : World} {base : Nat} {v : Value} {d : DataW H} {p : List MemPlace} (hval : Value.okWide Tryd.prog W .any base 64 v) (h1 : DataW.Trod enc Tryd.prog W 0 (fun _ => true) true 64 v d p) :
    ∃ x, v = .int .u32 x ∧ 0 ≤ x ∧ x < 4294967296 := by
  obtain ⟨x, rfl, _, _, hw⟩ := open_int Tryd.underlying64 hval h1
  refine ⟨x, rfl, ?_⟩
  simp [Lit.wf] at hw
  have h1 : IntKind.u32.min = 0 := by decide
  have h2 : IntKind.u32.max = 4294967295 := by decide
  omega

theorem dcells_snoc (l : List Bytes) (T : Bytes) : dcells (l ++ [T]) = dcells l ++ T.map B := by
  unfold dcells; simp

/-- a slice of digests that came in -/
theorem digests_open {H : Type} {enc : TypeId × Value → H} {W : World} {base : Nat} {v : Value} {d : DataW H} {p : List MemPlace} (hval : Value.okWide Tryd.prog W .any base 36 v) (h1 : DataW.Trod enc Tryd.prog W 0 (fun _ => true) true 36 v d p) :
    ∃ a len cap l, v = .slice a len cap ∧ (len : Int) ≤ 9223372036854775807 ∧ (len ≤ 1099511627776 → IsD W a len cap l) ∧ (cap = 0 ∨ ∃ g off, a = some ⟨g, off, none⟩) := by
  obtain ⟨a1, len, cap, rfl⟩ := okWide_slice Tryd.underlying36 hval
  obtain ⟨fuel, hf⟩ := h1
  have c1 : Tryd.prog.cellsOf 25 = 32 := by kernel_rfl
  rcases DataW.trod_slice Tryd.underlying36 hf with ⟨hcs, hx⟩ | ⟨a, len', cap', elems, rest, n, hn, hcs, hx, hb, hl, hm, hel, hat, hsp, _⟩
  · simp [Value.cells] at hcs
    obtain ⟨rfl, rfl, rfl⟩ := hcs
    exact ⟨none, 0, 0, [], rfl, by decide, fun _ => isD_nil W, .inl rfl⟩
  · simp [Value.cells] at hcs
    obtain ⟨rfl, rfl, rfl⟩ := hcs
    rw [c1] at hat hsp
    obtain ⟨hrl, hrest⟩ := hsp rfl
    unfold maxLen at hm
    have hall : ∀ i, i < cap → ∃ T : Bytes, T.length = 32 ∧ W.cells? 0 (a.add (i * 32)) 32 = some (T.map B) := fun i hi => by
      have key : ∃ e, (W.cells? 0 (a.add (i * 32)) 32).bind (DataW.trod enc Tryd.prog W 0 (fun _ => true) true n 25) = some e := by
        by_cases h : i < len
        · exact ⟨_, (hat i h).trans (List.getElem?_eq_getElem (by omega))⟩
        · have := hrest (i - len) (by omega)
          rw [show len + (i - len) = i from by omega] at this
          exact ⟨_, this.trans (List.getElem?_eq_getElem (by omega))⟩
      obtain ⟨e, he⟩ := key
      obtain ⟨cs, h1, h2⟩ := Option.bind_eq_some_iff.1 he
      obtain ⟨T, hT, rfl⟩ := cells_digest h2
      exact ⟨T, hT, h1⟩
    have hrow : ∀ m, m ≤ len → ∃ l : List Bytes, l.length = m ∧ (∀ d ∈ l, d.length = 32) ∧ ∀ j u, (dcells l)[j]? = some u → W.cell? (a.add j) = some u := by
      intro m
      induction m with
      | zero => exact fun _ => ⟨[], rfl, by simp, fun j u h => by simp [dcells] at h⟩
      | succ m ih =>
        intro hm'
        obtain ⟨l, h1, h2, h3⟩ := ih (by omega)
        obtain ⟨T, hT, hc⟩ := hall m (by omega)
        refine ⟨l ++ [T], by simp [h1], ?_, fun j u hj => ?_⟩
        · intro d hd
          rcases List.mem_append.1 hd with h | h
          · exact h2 d h
          · rw [List.mem_singleton.1 h]; exact hT
        · rw [dcells_snoc] at hj
          have hdl := dcells_length l h2
          by_cases hjl : j < m * 32
          · rw [List.getElem?_append_left (by omega)] at hj
            exact h3 j u hj
          · rw [List.getElem?_append_right (by omega), hdl, h1] at hj
            have hj32 : j - m * 32 < 32 := by have := (List.getElem?_eq_some_iff.1 hj).1; rwa [List.length_map, hT] at this
            have := (World.cells?_some hc).2.2 (j - m * 32) hj32
            rw [hj] at this
            rw [Addr.add_add, show m * 32 + (j - m * 32) = j from by omega] at this
            exact this
    obtain ⟨l, hl1, hl2, hl3⟩ := hrow len (Nat.le_refl _)
    have hspot : 0 < cap → a = ⟨a.block, a.off, none⟩ := fun h => by
      obtain ⟨T, hT, hc⟩ := hall 0 h
      have h0 := (World.cells?_some hc).2.2 0 (by decide)
      rw [List.getElem?_eq_getElem (show 0 < (T.map B).length by rw [List.length_map, hT]; decide)] at h0
      obtain ⟨ab, ao, spot⟩ := a
      have hspot : spot = none := by simpa [Addr.add] using World.cell?_spot h0
      rw [hspot]
    refine ⟨some a, len, cap, l, rfl, by omega, fun h40 => ⟨hl1, hl, h40, by omega, hl2, ?_⟩, ?_⟩
    · rcases Nat.eq_zero_or_pos len with h0 | h0
      · exact .inl h0
      · right
        have ea := hspot (by omega)
        obtain ⟨T, hT, hc⟩ := hall 0 (by omega)
        refine ⟨a.block, a.off, by rw [← ea], fun j u hu => ?_, ?_⟩
        · have := hl3 j u hu
          rw [ea, Addr.add_mid] at this
          exact this
        · have h0 := (World.cells?_some hc).2.2 0 (by decide)
          rw [List.getElem?_eq_getElem (show 0 < (T.map B).length by rw [List.length_map, hT]; decide), ea, Addr.add_add, Addr.add_mid] at h0
          have := block_lt_of_cell h0
          exact this
    · rcases Nat.eq_zero_or_pos cap with h0 | h0
      · exact .inl h0
      · exact .inr ⟨a.block, a.off, by rw [← hspot h0]⟩
end Frk
namespace Go.Proofs.YtcioeedlfbioaaaDoor
open Go Go.RowKit Go.Proofs Go.ChangeShapes Go.WideShapes Go.ChangeAt Frk
set_option maxRecDepth 100000

theorem lifted (os : Os) (started : os.Started) (H : Type) (enc : TypeId × Value → H) :
    ReturnsInHanded {} Tryd.checked os 10 .any (fun w args => (Rows.stampsOnceSpec.pre enc Tryd.prog Tryd.f10 [] false w args ∧ laidMetH Tryd.prog laid w) ∧ sizedMet enc Tryd.prog Tryd.f10 (OpenSpec.ofChange Rows.stampsOnceSpec) false w args)
      (Rows.stampsOnceSpec.post enc Tryd.prog Tryd.f10 false true false false) := by
  refine returnsInHanded_of_change_and (C := Tryd.checked) (X := fun w _ => laidMetH Tryd.prog laid w) (fun _ _ _ hh h => h.of_heap hh) own started (by kernel_rfl) Tryd.func10
    (ChangeSpec.witness_shaped (enc := enc) (C := Tryd.checked) (os := os) (X := fun w _ => laidMetH Tryd.prog laid w) false (World.doorLaid Tryd.prog 400 os) #[.int .u32 0, .slice none 0 0, .int .i64 0] 8 rfl (World.shaped_of_RefB (by kernel_rfl) (by kernel_rfl)) (by kernel_rfl) (by kernel_rfl) (by kernel_rfl) (door_met os _)) ?_
  intro W base args ds gs before hval0 hW _ _ hL _
  have hval : ∀ (j : Nat) t v, Tryd.f10.params[j]? = some t → args[j]? = some v → Value.okWide Tryd.prog W .any base t v := hval0
  have hW' := hW
  obtain ⟨p, q, hA0, hV, rfl, hfz, hnd⟩ := hW
  have hA : DataW.TrodAll enc Tryd.prog W 0 (fun _ => true) true Tryd.f10.params.toList args.toList ds p := hA0
  rw [Tryd.params10] at hA hval
  obtain ⟨args⟩ := args
  obtain ⟨v0, vs0, d0, ds0, p0, q0, e0, rfl, rfl, h0, hr0⟩ := trodAll_cons hA
  obtain ⟨v1, vs1, d1, ds1, p1, q1, e1, rfl, rfl, h1, hr1⟩ := trodAll_cons hr0
  obtain ⟨v2, vs2, d2, ds2, p2, q2, e2, rfl, rfl, h2, hr2⟩ := trodAll_cons hr1
  obtain ⟨rfl, rfl, rfl⟩ := trodAll_nil hr2
  obtain rfl : args = [v0, v1, v2] := by simpa [e1, e2] using e0
  obtain ⟨x0, rfl, wx0⟩ := u32_open (hval 0 64 v0 rfl rfl) h0
  obtain ⟨a1, n1, c1, l1, rfl, m1, wx1, ha1⟩ := digests_open (hval 1 36 v1 rfl rfl) h1
  obtain ⟨x2, rfl, wx2⟩ := int_open (hval 2 3 v2 rfl rfl) h2
  obtain ⟨rfl, rfl⟩ := trodVars_none hV
  have hG := glob_of_laid hL
  refine (law_stampsOnce x0 x2 a1 n1 c1 l1 W hG wx0 m1 wx1).mono fun e W' ⟨he, hb⟩ => ?_
  subst he
  exact ⟨_, rfl, law_fin (by rw [Tryd.params10]; simp only [List.mem_cons, List.not_mem_nil, or_false]; intro t ht; rcases ht with rfl | rfl | rfl <;> exact ⟨by kernel_rfl, of_decide_eq_true (by kernel_rfl)⟩) (by kernel_rfl) rfl rfl hW' hb⟩

theorem stampsOnce_row : Rows.StampsOnceSaid :=
  OpenClaim.holds_of_wide 10 Tryd.f10 rfl rfl rfl rfl rfl rfl rfl ⟨rfl, rfl, rfl, rfl, rfl⟩ rfl rfl rfl rfl rfl (by kernel_rfl) Tryd.func10 (by kernel_rfl)
    (of_decide_eq_true (by kernel_rfl)) (by unfold Func.isWrapper; first | (rw [if_pos (by decide +kernel)]; kernel_rfl) | (rw [if_neg (by decide +kernel)]; exact ⟨rfl, rfl⟩))
    (fun os started H enc _ => lifted os started H enc)

theorem stampsOnce_holds : Rows.StampsOnceCardSaid :=
  Claim7.holds_tied_plain_at .later [] [.data, .data] true Rows.stampsOnceCard.stood.harness true
    stampsOnce_row (fun _ h => by cases h) (by kernel_rfl) (fun _ h => by cases h) stampsOnce_row_tie rfl ⟨rfl, rfl⟩ (by kernel_rfl) rfl
    (fun f fn hf hfn => by
      obtain rfl : f = 10 := Option.some.inj ((show Tryd.prog.funcNamed "franking/frankinglaw37.StampsOnce" = some 10 by kernel_rfl).symm.trans hf) |>.symm
      obtain rfl : fn = Tryd.f10 := (Option.some.inj (Tryd.func10.symm.trans hfn)).symm
      exact ⟨by kernel_rfl, fun j t ht => by
        rw [Tryd.params10] at ht
        have hm : t ∈ [64, 36, 3] := by simpa using Array.mem_of_getElem? ht
        have hall : ([64, 36, 3].all fun u => !Tryd.prog.wantsStandIn u) = true := by kernel_rfl
        exact (show Tryd.prog.wantsStandIn t = false by simpa using List.all_eq_true.1 hall t hm)⟩)
    (by kernel_rfl)
#print axioms stampsOnce_holds
end Go.Proofs.YtcioeedlfbioaaaDoor
