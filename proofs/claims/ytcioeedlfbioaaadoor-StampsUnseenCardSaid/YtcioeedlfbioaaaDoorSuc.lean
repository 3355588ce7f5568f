/- The statement StampsUnseen of frankinglaw37 holds: for every input the law returns true, and each argument reads afterwards as it read before. Conditions: those of the row (the listed variables start as the program's text lays them; the card ties them). -/
import Derived.Test.YtcioeedlfbioaaaDoorStp
import Derived.Test.YtcioeedlfbioaaaDoorBla
import Derived.Test.YtcioeedlfbioaaaDoorRpu
import Derived.Test.YtcioeedlfbioaaaDoorGrd
import Derived.Test.YtcioeedlfbioaaaDoorRsg
import Derived.Test.YtcioeedlfbioaaaDoorHol
namespace Frk
open Go Go.RowKit Go.Proofs
set_option maxRecDepth 100000

theorem esecret_any (n : Int) (t : Bool) (w : World) (ht : secB n = t) : Calls Tryd.prog 68 #[.int .i64 n] w fun e w' => e = .returned (.bool t) ∧ w = w' := by
  unfold secB at ht
  have HT := Seal.mk ht
  clear ht
  by_cases h0 : 1 ≤ n
  · by_cases h1 : n < 1073741789
    · have HF : Seal (t = true) := ⟨by rw [← HT.out, decide_eq_true (show 0 < n by omega), decide_eq_true h1]; rfl⟩
      go_enter Tryd.func68, Tryd.ntmps68
      go_wp2
      go_ret
      exact ⟨ret_bool HF.out.symm, rfl⟩
    · have HF : Seal (t = false) := ⟨by rw [← HT.out, decide_eq_false h1]; simp⟩
      go_enter Tryd.func68, Tryd.ntmps68
      go_wp2
      go_ret
      exact ⟨ret_bool HF.out.symm, rfl⟩
  · have HF : Seal (t = false) := ⟨by rw [← HT.out, decide_eq_false (show ¬ 0 < n by omega)]; simp⟩
    go_enter Tryd.func68, Tryd.ntmps68
    go_wp2
    go_ret
    exact ⟨ret_bool HF.out.symm, rfl⟩

/-- what Public returns (and blind's Begin) -/
def pubF (n : Int) : Int × Int := if secB n = true then (((pw 4 n : Nat) : Int), 0) else (0, 110)

theorem public_at (n d e0 : Int) (w : World) (h : Seal (pubF n = (d, e0))) (h1 : -9223372036854775808 ≤ n) (h2 : n ≤ 9223372036854775807) : Calls Tryd.prog 28 #[.int .i64 n] w fun e w' => e = .returned (.tuple #[.int .i64 d, .int .i64 e0]) ∧ Below w.heap.size w w' := by
  have h' := h.out
  unfold pubF at h'
  cases hs : secB n with
  | false =>
    rw [hs, if_neg (by decide)] at h'
    obtain ⟨rfl, rfl⟩ := Prod.mk.inj h'
    have HS := Seal.mk hs
    clear h h' hs h1 h2
    go_enter Tryd.func28, Tryd.ntmps28
    go_wp2_with (go_at_call 68; refine (esecret_any _ _ _ HS.out).mono ?_; rintro e w' ⟨rfl, rfl⟩)
    go_ret2
    exact ⟨rfl, Below.refl _ _⟩
  | true =>
    rw [hs, if_pos rfl] at h'
    obtain ⟨rfl, rfl⟩ := Prod.mk.inj h'
    have HS := Seal.mk hs
    have HP : Seal _ := ⟨pow_yes 4 n w (by decide +kernel) h1 h2⟩
    clear h h' hs h1 h2
    go_enter Tryd.func28, Tryd.ntmps28
    go_wp2_with (first | (go_at_call 68; refine (esecret_any _ _ _ HS.out).mono ?_; rintro e w' ⟨rfl, rfl⟩) | (go_at_call 69; refine HP.out.mono ?_; rintro e w' ⟨rfl, hb⟩))
    go_ret2
    exact ⟨rfl, hb⟩

/-- a secret, a value from any number -/
def secF (a : Int) : Int := 1 + a % 1073741788
def valF (n : Int) : Int := n % 18446744073709551616 % 1099511627777
theorem secF_ok (a : Int) : secB (secF a) = true := by unfold secB secF; simp; omega
theorem valF_ok (n : Int) : fitB (valF n) = true := by unfold fitB valF; simp; omega

theorem lsecret_any (a x : Int) (w : World) (h0 : 0 ≤ a) (h1 : a < 4294967296) (hx : Seal (secF a = x)) : Calls Tryd.prog 35 #[.int .u32 a] w fun e w' => e = .returned (.int .i64 x) ∧ w = w' := by
  have h := hx.out
  unfold secF at h
  have HX := Seal.mk h
  clear h hx
  go_enter Tryd.func35, Tryd.ntmps35
  go_wp2
  go_ret
  exact ⟨ret_i64 (by rw [← HX.out]; try (first | rfl | omega)), rfl⟩

theorem lvalue_any (n x : Int) (w : World) (hx : Seal (valF n = x)) : Calls Tryd.prog 37 #[.int .i64 n] w fun e w' => e = .returned (.int .i64 x) ∧ w = w' := by
  have h := hx.out
  unfold valF at h
  have HX := Seal.mk h
  clear h hx
  go_enter Tryd.func37, Tryd.ntmps37
  go_wp2
  go_ret
  exact ⟨ret_i64 (by rw [← HX.out, IntKind.wrap_u64, Int.tmod_eq_emod_of_nonneg (by omega), IntWalk.wrap64_in _ ⟨by omega, by omega⟩]), rfl⟩

/-- results that lie in a block known whole, and in four slots -/
theorem results_row_tmp4 {P : Program} {fn : Func} {p q1 q2 q3 q4 : Tmp} {ty : TypeId} (h : fn.results = #[.cell p ty, .tmp q1, .tmp q2, .tmp q3, .tmp q4]) (tmps : Array Value) (w : World) (g : Nat) (t : TypeId) (cs : Array Value) (fr : Nat × Nat) (d : TypeDesc) (v1 v2 v3 v4 : Value)
    (hp : tmps.getD p undef = .pointer (some ⟨g, 0, none⟩)) (h1 : tmps.getD q1 undef = v1) (h2 : tmps.getD q2 undef = v2) (h3 : tmps.getD q3 undef = v3) (h4 : tmps.getD q4 undef = v4) (hg : w.heap[g]? = some (.cells cs t fr))
    (hu : P.underlying ty = some d) (hd : (match d with | .struct _ | .array _ _ => true | _ => false) = true) (hi : (P.info? ty).map (·.size) = some cs.size) :
    (results fn tmps).run P w = .ok (.tuple #[.agg cs, v1, v2, v3, v4]) w := by
  have hp' : tmps[p]?.getD undef = .pointer (some ⟨g, 0, none⟩) := by simpa using hp
  have h1' : tmps[q1]?.getD undef = v1 := by simpa using h1
  have h2' : tmps[q2]?.getD undef = v2 := by simpa using h2
  have h3' : tmps[q3]?.getD undef = v3 := by simpa using h3
  have h4' : tmps[q4]?.getD undef = v4 := by simpa using h4
  simp [results, h, hp', h1', h2', h3', h4', asAddr, run_loadVar_row w g t ty cs fr d hg hu hd hi]

set_option maxHeartbeats 2000000 in
theorem issued_any (x n key r c s E Sg val u v : Int) (T : Bytes) (w : World) (hG : Glob w) (hT : T.length = 32) (x1 : -9223372036854775808 ≤ x) (x2 : x ≤ 9223372036854775807) (n1 : -9223372036854775808 ≤ n) (n2 : n ≤ 9223372036854775807) (u1 : -9223372036854775808 ≤ u) (u2 : u ≤ 9223372036854775807) (v1 : -9223372036854775808 ≤ v) (v2 : v ≤ 9223372036854775807)
    (HP : Seal (pubF x = (key, 0))) (HB : Seal (pubF n = (r, 0))) (HA : Seal (saskF key r T val u v = (c, 0))) (HN : Seal (answerC x n c = (s, 0))) (HK : Seal (stakeF key r T val u v s = (T, val, E, Sg, 0))) :
    Calls Tryd.prog 36 #[.int .i64 x, .int .i64 n, .agg (T.map B).toArray, .int .i64 val, .int .i64 u, .int .i64 v] w fun e w' => e = .returned (.tuple #[.agg (stC T val E Sg).toArray, .int .i64 r, .int .i64 c, .int .i64 s, .bool true]) ∧ Below w.heap.size w w' := by
  have C1 : Seal (∀ W, Calls Tryd.prog 28 #[.int .i64 x] W fun e w' => e = .returned (.tuple #[.int .i64 key, .int .i64 0]) ∧ Below W.heap.size W w') := ⟨fun W => public_at x key 0 W HP x1 x2⟩
  have C2 : Seal (∀ W, Calls Tryd.prog 80 #[.int .i64 n] W fun e w' => e = .returned (.tuple #[.int .i64 r, .int .i64 0]) ∧ Below W.heap.size W w') := ⟨fun W => begin_at n r 0 W HB n1 n2⟩
  obtain ⟨TC, hTC⟩ : ∃ TC, TC = T.map B := ⟨_, rfl⟩
  have C3 : Seal (∀ W, Glob W → Calls Tryd.prog 45 #[.int .i64 key, .int .i64 r, .agg TC.toArray, .int .i64 val, .int .i64 u, .int .i64 v] W fun e w' => e = .returned (.tuple #[.int .i64 c, .int .i64 0]) ∧ Below W.heap.size W w') := ⟨fun W h => by rw [hTC]; exact sask_any key r u v c 0 val T W HA u1 u2 v1 v2 h hT⟩
  have C4 : Seal (∀ W, Calls Tryd.prog 81 #[.int .i64 x, .int .i64 n, .int .i64 c] W fun e w' => e = .returned (.tuple #[.int .i64 s, .int .i64 0]) ∧ Below W.heap.size W w') := ⟨fun W => answer_at x n c s 0 W HN⟩
  obtain ⟨F, hF⟩ : ∃ F, F = stC T val E Sg := ⟨_, rfl⟩
  have C5 : Seal (∀ W, Glob W → Calls Tryd.prog 46 #[.int .i64 key, .int .i64 r, .agg TC.toArray, .int .i64 val, .int .i64 u, .int .i64 v, .int .i64 s] W fun e w' => e = .returned (.tuple #[.agg F.toArray, .int .i64 0]) ∧ Below W.heap.size W w') := ⟨fun W h => by rw [hTC, hF]; exact stake_any key r u v s val val E Sg 0 T T W HK u1 u2 v1 v2 h hT⟩
  have IT : Seal ((Tryd.prog.info? 25).map (·.size) = some TC.toArray.size) := ⟨by rw [hTC, List.size_toArray]; exact dg_info T hT⟩
  have IF : Seal ((Tryd.prog.info? 69).map (·.size) = some F.toArray.size) := ⟨by rw [hF, List.size_toArray]; exact stC_info hT⟩
  have SF : Seal ((List.toArray (.int .u8 0 :: .int .u8 0 :: .int .u8 0 :: .int .u8 0 :: .int .u8 0 :: .int .u8 0 :: .int .u8 0 :: .int .u8 0 :: .int .u8 0 :: .int .u8 0 :: .int .u8 0 :: .int .u8 0 :: .int .u8 0 :: .int .u8 0 :: .int .u8 0 :: .int .u8 0 :: .int .u8 0 :: .int .u8 0 :: .int .u8 0 :: .int .u8 0 :: .int .u8 0 :: .int .u8 0 :: .int .u8 0 :: .int .u8 0 :: .int .u8 0 :: .int .u8 0 :: .int .u8 0 :: .int .u8 0 :: .int .u8 0 :: .int .u8 0 :: .int .u8 0 :: .int .u8 0 :: .int .i64 0 :: .int .i64 0 :: .int .i64 0 :: [] : List Value) : Array Value).size = F.toArray.size) := ⟨by show 35 = F.toArray.size; rw [hF, List.size_toArray, stC_len hT]⟩
  have AF : Seal (F.toArray.all (·.oneCell') = true) := ⟨by rw [hF]; exact all_oneCell_toArray (stC_one _ _ _ _)⟩
  have HE0 : Seal (Env ((w.alloc (.cells TC.toArray 25)).alloc (.cells (List.toArray (.int .u8 0 :: .int .u8 0 :: .int .u8 0 :: .int .u8 0 :: .int .u8 0 :: .int .u8 0 :: .int .u8 0 :: .int .u8 0 :: .int .u8 0 :: .int .u8 0 :: .int .u8 0 :: .int .u8 0 :: .int .u8 0 :: .int .u8 0 :: .int .u8 0 :: .int .u8 0 :: .int .u8 0 :: .int .u8 0 :: .int .u8 0 :: .int .u8 0 :: .int .u8 0 :: .int .u8 0 :: .int .u8 0 :: .int .u8 0 :: .int .u8 0 :: .int .u8 0 :: .int .u8 0 :: .int .u8 0 :: .int .u8 0 :: .int .u8 0 :: .int .u8 0 :: .int .u8 0 :: .int .i64 0 :: .int .i64 0 :: .int .i64 0 :: [] : List Value) : Array Value) 69)) none 0 0 [] [(w.heap.size + 1, .cells (List.toArray (.int .u8 0 :: .int .u8 0 :: .int .u8 0 :: .int .u8 0 :: .int .u8 0 :: .int .u8 0 :: .int .u8 0 :: .int .u8 0 :: .int .u8 0 :: .int .u8 0 :: .int .u8 0 :: .int .u8 0 :: .int .u8 0 :: .int .u8 0 :: .int .u8 0 :: .int .u8 0 :: .int .u8 0 :: .int .u8 0 :: .int .u8 0 :: .int .u8 0 :: .int .u8 0 :: .int .u8 0 :: .int .u8 0 :: .int .u8 0 :: .int .u8 0 :: .int .u8 0 :: .int .u8 0 :: .int .u8 0 :: .int .u8 0 :: .int .u8 0 :: .int .u8 0 :: .int .u8 0 :: .int .i64 0 :: .int .i64 0 :: .int .i64 0 :: [] : List Value) : Array Value) 69), (w.heap.size, .cells TC.toArray 25)]) := ⟨by
    have h := Env.push (Env.push (bs := []) ⟨hG, isB_nil w, by intro p hp; cases hp⟩ (.cells TC.toArray 25)) (.cells (List.toArray (.int .u8 0 :: .int .u8 0 :: .int .u8 0 :: .int .u8 0 :: .int .u8 0 :: .int .u8 0 :: .int .u8 0 :: .int .u8 0 :: .int .u8 0 :: .int .u8 0 :: .int .u8 0 :: .int .u8 0 :: .int .u8 0 :: .int .u8 0 :: .int .u8 0 :: .int .u8 0 :: .int .u8 0 :: .int .u8 0 :: .int .u8 0 :: .int .u8 0 :: .int .u8 0 :: .int .u8 0 :: .int .u8 0 :: .int .u8 0 :: .int .u8 0 :: .int .u8 0 :: .int .u8 0 :: .int .u8 0 :: .int .u8 0 :: .int .u8 0 :: .int .u8 0 :: .int .u8 0 :: .int .i64 0 :: .int .i64 0 :: .int .i64 0 :: [] : List Value) : Array Value) 69)
    simp only [size_alloc] at h
    exact h⟩
  have HB0 : Seal (Below w.heap.size w ((w.alloc (.cells TC.toArray 25)).alloc (.cells (List.toArray (.int .u8 0 :: .int .u8 0 :: .int .u8 0 :: .int .u8 0 :: .int .u8 0 :: .int .u8 0 :: .int .u8 0 :: .int .u8 0 :: .int .u8 0 :: .int .u8 0 :: .int .u8 0 :: .int .u8 0 :: .int .u8 0 :: .int .u8 0 :: .int .u8 0 :: .int .u8 0 :: .int .u8 0 :: .int .u8 0 :: .int .u8 0 :: .int .u8 0 :: .int .u8 0 :: .int .u8 0 :: .int .u8 0 :: .int .u8 0 :: .int .u8 0 :: .int .u8 0 :: .int .u8 0 :: .int .u8 0 :: .int .u8 0 :: .int .u8 0 :: .int .u8 0 :: .int .u8 0 :: .int .i64 0 :: .int .i64 0 :: .int .i64 0 :: [] : List Value) : Array Value) 69))) := ⟨((Below.refl _ w).alloc (Nat.le_refl _) _).alloc (by simp) _⟩
  rw [← hTC, ← hF]
  clear hG hT hTC hF x1 x2 n1 n2 u1 u2 v1 v2 HP HB HA HN HK
  go_enter Tryd.func36, Tryd.ntmps36
  go_wp2_with fail
  refine (C1.out _).mono ?_
  rintro e w1 ⟨rfl, hb⟩
  have HE1 := Seal.mk (HE0.out.below hb)
  have HB1 := Seal.mk (HB0.out.trans (hb.mono HB0.out.size))
  clear hb HE0 HB0 C1
  go_wp2_with fail
  refine (C2.out _).mono ?_
  rintro e w2 ⟨rfl, hb⟩
  have HE2 := Seal.mk (HE1.out.below hb)
  have HB2 := Seal.mk (HB1.out.trans (hb.mono HB1.out.size))
  clear hb HE1 HB1 C2
  have R1 := Seal.mk (HE2.out.keep (w.heap.size, .cells TC.toArray 25) (by simp))
  go_wp2_with (refine wpList_load_row rfl 25 (.tmp 8) rfl w.heap.size rfl 25 TC.toArray (0, 0) _ R1.out Tryd.underlying25 rfl IT.out ?_)
  refine (C3.out _ HE2.out.glob).mono ?_
  rintro e w3 ⟨rfl, hb⟩
  have HE3 := Seal.mk (HE2.out.below hb)
  have HB3 := Seal.mk (HB2.out.trans (hb.mono HB2.out.size))
  clear hb HE2 HB2 C3 R1
  go_wp2_with fail
  refine (C4.out _).mono ?_
  rintro e w4 ⟨rfl, hb⟩
  have HE4 := Seal.mk (HE3.out.below hb)
  have HB4 := Seal.mk (HB3.out.trans (hb.mono HB3.out.size))
  clear hb HE3 HB3 C4
  have R1 := Seal.mk (HE4.out.keep (w.heap.size, .cells TC.toArray 25) (by simp))
  go_wp2_with (refine wpList_load_row rfl 25 (.tmp 8) rfl w.heap.size rfl 25 TC.toArray (0, 0) _ R1.out Tryd.underlying25 rfl IT.out ?_)
  refine (C5.out _ HE4.out.glob).mono ?_
  rintro e w5 ⟨rfl, hb⟩
  have HE5 := Seal.mk (HE4.out.below hb)
  have HB5 := Seal.mk (HB4.out.trans (hb.mono HB4.out.size))
  clear hb HE4 HB4 C5 R1
  have RZ := Seal.mk (HE5.out.keep (w.heap.size + 1, .cells (List.toArray (.int .u8 0 :: .int .u8 0 :: .int .u8 0 :: .int .u8 0 :: .int .u8 0 :: .int .u8 0 :: .int .u8 0 :: .int .u8 0 :: .int .u8 0 :: .int .u8 0 :: .int .u8 0 :: .int .u8 0 :: .int .u8 0 :: .int .u8 0 :: .int .u8 0 :: .int .u8 0 :: .int .u8 0 :: .int .u8 0 :: .int .u8 0 :: .int .u8 0 :: .int .u8 0 :: .int .u8 0 :: .int .u8 0 :: .int .u8 0 :: .int .u8 0 :: .int .u8 0 :: .int .u8 0 :: .int .u8 0 :: .int .u8 0 :: .int .u8 0 :: .int .u8 0 :: .int .u8 0 :: .int .i64 0 :: .int .i64 0 :: .int .i64 0 :: [] : List Value) : Array Value) 69) (by simp))
  have RF : Seal ((w5.setRow (w.heap.size + 1) F.toArray).heap[w.heap.size + 1]? = some (.cells F.toArray 69 (0, 0))) := ⟨setRow_heap _ _ _ _ _ _ RZ.out⟩
  have HB6 : Seal (Below w.heap.size w (w5.setRow (w.heap.size + 1) F.toArray)) := ⟨below_row HB5.out (Nat.le_add_right _ _) _⟩
  clear HE5
  go_wp2_with (first | (refine wpList_store_row rfl 69 (.tmp 12) (.tmp 59) rfl (w.heap.size + 1) F.toArray rfl rfl 69 (List.toArray (.int .u8 0 :: .int .u8 0 :: .int .u8 0 :: .int .u8 0 :: .int .u8 0 :: .int .u8 0 :: .int .u8 0 :: .int .u8 0 :: .int .u8 0 :: .int .u8 0 :: .int .u8 0 :: .int .u8 0 :: .int .u8 0 :: .int .u8 0 :: .int .u8 0 :: .int .u8 0 :: .int .u8 0 :: .int .u8 0 :: .int .u8 0 :: .int .u8 0 :: .int .u8 0 :: .int .u8 0 :: .int .u8 0 :: .int .u8 0 :: .int .u8 0 :: .int .u8 0 :: .int .u8 0 :: .int .u8 0 :: .int .u8 0 :: .int .u8 0 :: .int .u8 0 :: .int .u8 0 :: .int .i64 0 :: .int .i64 0 :: .int .i64 0 :: [] : List Value) : Array Value) RZ.out IF.out SF.out AF.out ?_) | (refine wpList_load_row rfl 69 (.tmp 12) rfl (w.heap.size + 1) rfl 69 F.toArray (0, 0) _ RF.out Tryd.underlying69 rfl IF.out ?_) | (refine wpList_store_row rfl 69 (.tmp 12) (.tmp 61) rfl (w.heap.size + 1) F.toArray rfl rfl 69 F.toArray RF.out IF.out rfl AF.out ?_))
  exact bodyPost_ret (results_row_tmp4 (fn := Tryd.f36) rfl _ _ (w.heap.size + 1) 69 F.toArray (0, 0) _ _ _ _ _ rfl rfl rfl rfl rfl (setRow_heap _ _ _ _ _ _ RF.out) Tryd.underlying69 rfl IF.out) rfl ⟨rfl, below_row HB6.out (Nat.le_add_right _ _) _⟩

/-- what a stamp is made of that a bank issues -/
structure Issue (x n : Int) (T : Bytes) (val u v key r c s E Sg : Int) : Prop where
  pub : pubF x = (key, 0)
  beg : pubF n = (r, 0)
  ask : saskF key r T val u v = (c, 0)
  ans : answerC x n c = (s, 0)
  take : stakeF key r T val u v s = (T, val, E, Sg, 0)
  right : vrB key (stT T val) E Sg = true
  fits : trC key r c s = true
  hc : 0 ≤ c ∧ c < 1073741789
  hs : 0 ≤ s ∧ s < 1073741789
  hkey : ((pw 4 x : Nat) : Int) = key

theorem issue_plain (x n u v val : Int) (T : Bytes) (hx : secB x = true) (hn : secB n = true) (hv : fitB val = true) : ∃ key r c s E Sg, Issue x n T val u v key r c s E Sg := by
  have v1 : vd ((pw 4 x : Nat) : Int) = true := vd_of_nat (vd4.pw x)
  have v2 : vd ((pw 4 n : Nat) : Int) = true := vd_of_nat (vd4.pw n)
  obtain ⟨c, hc⟩ : ∃ c : Int, c = (lq ((blHash (pw 4 x : Nat) (pw 4 n : Nat) (stT T val) u v : Nat) + (lq v : Nat)) : Nat) := ⟨_, rfl⟩
  obtain ⟨s, hs⟩ : ∃ s : Int, s = (lq (n + (lq c : Nat) * x) : Nat) := ⟨_, rfl⟩
  have hf := right_fin x n u v (stT T val) c s hc hs
  have ht := right_tr x n c
  rw [← hs] at ht
  refine ⟨((pw 4 x : Nat) : Int), ((pw 4 n : Nat) : Int), c, s, ((blHash (pw 4 x : Nat) (pw 4 n : Nat) (stT T val) u v : Nat) : Int), ((lq ((lq s : Nat) + (lq u : Nat)) : Nat) : Int), ⟨?_, ?_, ?_, ?_, ?_, hf, ht, by rw [hc]; exact lq_rng _, by rw [hs]; exact lq_rng _, rfl⟩⟩
  · unfold pubF; rw [if_pos hx]
  · unfold pubF; rw [if_pos hn]
  · unfold saskF askC; rw [if_pos hv, if_pos (by rw [v1, v2]; rfl), hc]
  · unfold answerC; rw [if_pos (by rw [hx, hn]; rfl), hs]
  · have e1 : finishC (pw 4 x : Nat) (pw 4 n : Nat) (stT T val) u v s = (((blHash (pw 4 x : Nat) (pw 4 n : Nat) (stT T val) u v : Nat) : Int), ((lq ((lq s : Nat) + (lq u : Nat)) : Nat) : Int), 0) := by
      unfold finishC
      rw [if_pos (by rw [v1, v2]; rfl), if_pos hf]
    unfold stakeF
    rw [if_pos hv, e1, if_pos rfl]

def dS : Bytes := [1, 0, 0, 0, 0, 0, 0, 0, 0, 0, 0, 0, 0, 0, 0, 0, 0, 0, 0, 0, 0, 0, 0, 0, 0, 0, 0, 0, 0, 0, 0, 0]
def oS : Bytes := [0, 7, 0, 0, 0, 0, 0, 0, 0, 0, 0, 0, 0, 0, 0, 0, 0, 0, 0, 0, 0, 0, 0, 0, 0, 0, 0, 0, 0, 0, 0, 0]
theorem dS_len : dS.length = 32 := rfl
theorem oS_len : oS.length = 32 := rfl
theorem dS_lit : (.int .u8 1 :: .int .u8 0 :: .int .u8 0 :: .int .u8 0 :: .int .u8 0 :: .int .u8 0 :: .int .u8 0 :: .int .u8 0 :: .int .u8 0 :: .int .u8 0 :: .int .u8 0 :: .int .u8 0 :: .int .u8 0 :: .int .u8 0 :: .int .u8 0 :: .int .u8 0 :: .int .u8 0 :: .int .u8 0 :: .int .u8 0 :: .int .u8 0 :: .int .u8 0 :: .int .u8 0 :: .int .u8 0 :: .int .u8 0 :: .int .u8 0 :: .int .u8 0 :: .int .u8 0 :: .int .u8 0 :: .int .u8 0 :: .int .u8 0 :: .int .u8 0 :: .int .u8 0 :: [] : List Value) = dS.map B := by rfl
theorem oS_lit : (.int .u8 0 :: .int .u8 7 :: .int .u8 0 :: .int .u8 0 :: .int .u8 0 :: .int .u8 0 :: .int .u8 0 :: .int .u8 0 :: .int .u8 0 :: .int .u8 0 :: .int .u8 0 :: .int .u8 0 :: .int .u8 0 :: .int .u8 0 :: .int .u8 0 :: .int .u8 0 :: .int .u8 0 :: .int .u8 0 :: .int .u8 0 :: .int .u8 0 :: .int .u8 0 :: .int .u8 0 :: .int .u8 0 :: .int .u8 0 :: .int .u8 0 :: .int .u8 0 :: .int .u8 0 :: .int .u8 0 :: .int .u8 0 :: .int .u8 0 :: .int .u8 0 :: .int .u8 0 :: [] : List Value) = oS.map B := by rfl

theorem isD_new (w : World) (l : List Bytes) (n : Nat) (t : TypeId) (hn : l.length = n) (he : ∀ d ∈ l, d.length = 32) (hm : n ≤ 1099511627776) : IsD (w.alloc (.cells (dcells l).toArray t)) (some ⟨w.heap.size, 0, none⟩) n n l :=
  ⟨hn, Nat.le_refl _, hm, by omega, he, .inr ⟨_, 0, rfl, rangeAt_new w _ _ _, by rw [size_alloc]; omega⟩⟩

theorem fold_lay_at (k : Nat) : ∀ (L : List Value) (j : Nat) (Z : List Value), k + j + L.length ≤ Z.length → (L.zipIdx j).foldl (fun cs x => cs.setIfInBounds (k + x.2) x.1) Z.toArray = (lay Z (k + j) L).toArray
  | [], j, Z, _ => by rw [lay_nil]; rfl
  | v :: L, j, Z, h => by
    have hk : k + j < Z.length := by simp at h; omega
    rw [List.zipIdx_cons, List.foldl_cons, List.setIfInBounds_toArray, fold_lay_at k L (j + 1) (Z.set (k + j) v) (by simp at h ⊢; omega), ← Nat.add_assoc, lay_cons hk]

theorem fold_two {A C : List Value} (ha : A.length = 32) (hc : C.length = 32) : ∃ D0 : List Value, A.zipIdx.foldl (fun (cs : Array Value) (x : Value × Nat) => cs.setIfInBounds x.2 x.1) (.int .u8 0 :: .int .u8 0 :: .int .u8 0 :: .int .u8 0 :: .int .u8 0 :: .int .u8 0 :: .int .u8 0 :: .int .u8 0 :: .int .u8 0 :: .int .u8 0 :: .int .u8 0 :: .int .u8 0 :: .int .u8 0 :: .int .u8 0 :: .int .u8 0 :: .int .u8 0 :: .int .u8 0 :: .int .u8 0 :: .int .u8 0 :: .int .u8 0 :: .int .u8 0 :: .int .u8 0 :: .int .u8 0 :: .int .u8 0 :: .int .u8 0 :: .int .u8 0 :: .int .u8 0 :: .int .u8 0 :: .int .u8 0 :: .int .u8 0 :: .int .u8 0 :: .int .u8 0 :: .int .u8 0 :: .int .u8 0 :: .int .u8 0 :: .int .u8 0 :: .int .u8 0 :: .int .u8 0 :: .int .u8 0 :: .int .u8 0 :: .int .u8 0 :: .int .u8 0 :: .int .u8 0 :: .int .u8 0 :: .int .u8 0 :: .int .u8 0 :: .int .u8 0 :: .int .u8 0 :: .int .u8 0 :: .int .u8 0 :: .int .u8 0 :: .int .u8 0 :: .int .u8 0 :: .int .u8 0 :: .int .u8 0 :: .int .u8 0 :: .int .u8 0 :: .int .u8 0 :: .int .u8 0 :: .int .u8 0 :: .int .u8 0 :: .int .u8 0 :: .int .u8 0 :: .int .u8 0 :: [] : List Value).toArray = D0.toArray ∧ D0.length = 64 ∧ C.zipIdx.foldl (fun (cs : Array Value) (x : Value × Nat) => cs.setIfInBounds (32 + x.2) x.1) D0.toArray = (A ++ C).toArray := by
  refine ⟨lay (.int .u8 0 :: .int .u8 0 :: .int .u8 0 :: .int .u8 0 :: .int .u8 0 :: .int .u8 0 :: .int .u8 0 :: .int .u8 0 :: .int .u8 0 :: .int .u8 0 :: .int .u8 0 :: .int .u8 0 :: .int .u8 0 :: .int .u8 0 :: .int .u8 0 :: .int .u8 0 :: .int .u8 0 :: .int .u8 0 :: .int .u8 0 :: .int .u8 0 :: .int .u8 0 :: .int .u8 0 :: .int .u8 0 :: .int .u8 0 :: .int .u8 0 :: .int .u8 0 :: .int .u8 0 :: .int .u8 0 :: .int .u8 0 :: .int .u8 0 :: .int .u8 0 :: .int .u8 0 :: .int .u8 0 :: .int .u8 0 :: .int .u8 0 :: .int .u8 0 :: .int .u8 0 :: .int .u8 0 :: .int .u8 0 :: .int .u8 0 :: .int .u8 0 :: .int .u8 0 :: .int .u8 0 :: .int .u8 0 :: .int .u8 0 :: .int .u8 0 :: .int .u8 0 :: .int .u8 0 :: .int .u8 0 :: .int .u8 0 :: .int .u8 0 :: .int .u8 0 :: .int .u8 0 :: .int .u8 0 :: .int .u8 0 :: .int .u8 0 :: .int .u8 0 :: .int .u8 0 :: .int .u8 0 :: .int .u8 0 :: .int .u8 0 :: .int .u8 0 :: .int .u8 0 :: .int .u8 0 :: [] : List Value) 0 A, fold_lay A 0 (.int .u8 0 :: .int .u8 0 :: .int .u8 0 :: .int .u8 0 :: .int .u8 0 :: .int .u8 0 :: .int .u8 0 :: .int .u8 0 :: .int .u8 0 :: .int .u8 0 :: .int .u8 0 :: .int .u8 0 :: .int .u8 0 :: .int .u8 0 :: .int .u8 0 :: .int .u8 0 :: .int .u8 0 :: .int .u8 0 :: .int .u8 0 :: .int .u8 0 :: .int .u8 0 :: .int .u8 0 :: .int .u8 0 :: .int .u8 0 :: .int .u8 0 :: .int .u8 0 :: .int .u8 0 :: .int .u8 0 :: .int .u8 0 :: .int .u8 0 :: .int .u8 0 :: .int .u8 0 :: .int .u8 0 :: .int .u8 0 :: .int .u8 0 :: .int .u8 0 :: .int .u8 0 :: .int .u8 0 :: .int .u8 0 :: .int .u8 0 :: .int .u8 0 :: .int .u8 0 :: .int .u8 0 :: .int .u8 0 :: .int .u8 0 :: .int .u8 0 :: .int .u8 0 :: .int .u8 0 :: .int .u8 0 :: .int .u8 0 :: .int .u8 0 :: .int .u8 0 :: .int .u8 0 :: .int .u8 0 :: .int .u8 0 :: .int .u8 0 :: .int .u8 0 :: .int .u8 0 :: .int .u8 0 :: .int .u8 0 :: .int .u8 0 :: .int .u8 0 :: .int .u8 0 :: .int .u8 0 :: [] : List Value) (by rw [ha]; decide), by rw [length_lay (by rw [ha]; decide)]; rfl, ?_⟩
  have h := fold_lay_at 32 C 0 (lay (.int .u8 0 :: .int .u8 0 :: .int .u8 0 :: .int .u8 0 :: .int .u8 0 :: .int .u8 0 :: .int .u8 0 :: .int .u8 0 :: .int .u8 0 :: .int .u8 0 :: .int .u8 0 :: .int .u8 0 :: .int .u8 0 :: .int .u8 0 :: .int .u8 0 :: .int .u8 0 :: .int .u8 0 :: .int .u8 0 :: .int .u8 0 :: .int .u8 0 :: .int .u8 0 :: .int .u8 0 :: .int .u8 0 :: .int .u8 0 :: .int .u8 0 :: .int .u8 0 :: .int .u8 0 :: .int .u8 0 :: .int .u8 0 :: .int .u8 0 :: .int .u8 0 :: .int .u8 0 :: .int .u8 0 :: .int .u8 0 :: .int .u8 0 :: .int .u8 0 :: .int .u8 0 :: .int .u8 0 :: .int .u8 0 :: .int .u8 0 :: .int .u8 0 :: .int .u8 0 :: .int .u8 0 :: .int .u8 0 :: .int .u8 0 :: .int .u8 0 :: .int .u8 0 :: .int .u8 0 :: .int .u8 0 :: .int .u8 0 :: .int .u8 0 :: .int .u8 0 :: .int .u8 0 :: .int .u8 0 :: .int .u8 0 :: .int .u8 0 :: .int .u8 0 :: .int .u8 0 :: .int .u8 0 :: .int .u8 0 :: .int .u8 0 :: .int .u8 0 :: .int .u8 0 :: .int .u8 0 :: [] : List Value) 0 A) (by rw [length_lay (by rw [ha]; decide), hc]; decide)
  rw [Nat.add_zero] at h
  rw [h]
  unfold lay
  rw [List.take_zero, List.nil_append, List.take_left' ha, hc]
  have : (A ++ List.drop (0 + A.length) (.int .u8 0 :: .int .u8 0 :: .int .u8 0 :: .int .u8 0 :: .int .u8 0 :: .int .u8 0 :: .int .u8 0 :: .int .u8 0 :: .int .u8 0 :: .int .u8 0 :: .int .u8 0 :: .int .u8 0 :: .int .u8 0 :: .int .u8 0 :: .int .u8 0 :: .int .u8 0 :: .int .u8 0 :: .int .u8 0 :: .int .u8 0 :: .int .u8 0 :: .int .u8 0 :: .int .u8 0 :: .int .u8 0 :: .int .u8 0 :: .int .u8 0 :: .int .u8 0 :: .int .u8 0 :: .int .u8 0 :: .int .u8 0 :: .int .u8 0 :: .int .u8 0 :: .int .u8 0 :: .int .u8 0 :: .int .u8 0 :: .int .u8 0 :: .int .u8 0 :: .int .u8 0 :: .int .u8 0 :: .int .u8 0 :: .int .u8 0 :: .int .u8 0 :: .int .u8 0 :: .int .u8 0 :: .int .u8 0 :: .int .u8 0 :: .int .u8 0 :: .int .u8 0 :: .int .u8 0 :: .int .u8 0 :: .int .u8 0 :: .int .u8 0 :: .int .u8 0 :: .int .u8 0 :: .int .u8 0 :: .int .u8 0 :: .int .u8 0 :: .int .u8 0 :: .int .u8 0 :: .int .u8 0 :: .int .u8 0 :: .int .u8 0 :: .int .u8 0 :: .int .u8 0 :: .int .u8 0 :: [] : List Value)).drop (32 + 32) = [] := List.drop_of_length_le (by rw [List.length_append, List.length_drop, ha]; decide)
  rw [this, List.append_nil]

set_option maxHeartbeats 16000000 in
theorem ssane_core (key r c s : Int) (X1 Zs : List Value) (w : World) (hG : Glob w)
    (IX : Seal ((Tryd.prog.info? 69).map (·.size) = some X1.length)) (IXa : Seal ((Tryd.prog.info? 69).map (·.size) = some X1.toArray.size)) (LX : Seal ((.int .u8 0 :: .int .u8 0 :: .int .u8 0 :: .int .u8 0 :: .int .u8 0 :: .int .u8 0 :: .int .u8 0 :: .int .u8 0 :: .int .u8 0 :: .int .u8 0 :: .int .u8 0 :: .int .u8 0 :: .int .u8 0 :: .int .u8 0 :: .int .u8 0 :: .int .u8 0 :: .int .u8 0 :: .int .u8 0 :: .int .u8 0 :: .int .u8 0 :: .int .u8 0 :: .int .u8 0 :: .int .u8 0 :: .int .u8 0 :: .int .u8 0 :: .int .u8 0 :: .int .u8 0 :: .int .u8 0 :: .int .u8 0 :: .int .u8 0 :: .int .u8 0 :: .int .u8 0 :: .int .i64 0 :: .int .i64 0 :: .int .i64 0 :: [] : List Value).length = X1.length)) (OX : Seal (∀ u ∈ X1, u.oneCell' = true))
    (IZ : Seal ((Tryd.prog.info? 69).map (·.size) = some Zs.length)) (LZ : Seal ((.int .u8 0 :: .int .u8 0 :: .int .u8 0 :: .int .u8 0 :: .int .u8 0 :: .int .u8 0 :: .int .u8 0 :: .int .u8 0 :: .int .u8 0 :: .int .u8 0 :: .int .u8 0 :: .int .u8 0 :: .int .u8 0 :: .int .u8 0 :: .int .u8 0 :: .int .u8 0 :: .int .u8 0 :: .int .u8 0 :: .int .u8 0 :: .int .u8 0 :: .int .u8 0 :: .int .u8 0 :: .int .u8 0 :: .int .u8 0 :: .int .u8 0 :: .int .u8 0 :: .int .u8 0 :: .int .u8 0 :: .int .u8 0 :: .int .u8 0 :: .int .u8 0 :: .int .u8 0 :: .int .i64 0 :: .int .i64 0 :: .int .i64 0 :: [] : List Value).length = Zs.length)) (OZ : Seal (∀ u ∈ Zs, u.oneCell' = true))
    (Bd : List Value) (hBd : Seal (X1.set 32 (.int .i64 (-1)) = Bd)) (IBa : Seal ((Tryd.prog.info? 69).map (·.size) = some Bd.toArray.size))
    (rX : Seal (X1.take 32 = dS.map B)) (cX : Seal (X1.toArray[32]? = some (.int .i64 20)))
    (HP : Seal (∀ W, Calls Tryd.prog 28 #[.int .i64 5] W fun e w' => e = .returned (.tuple #[.int .i64 key, .int .i64 0]) ∧ Below W.heap.size W w'))
    (HI : Seal (∀ W, Glob W → Calls Tryd.prog 36 #[.int .i64 5, .int .i64 9, .agg (dS.map B).toArray, .int .i64 20, .int .i64 3, .int .i64 4] W fun e w' => e = .returned (.tuple #[.agg X1.toArray, .int .i64 r, .int .i64 c, .int .i64 s, .bool true]) ∧ Below W.heap.size W w'))
    (HC1 : Seal (∀ W, Glob W → Calls Tryd.prog 38 #[.int .i64 key, .agg X1.toArray] W fun e w' => e = .returned (.bool true) ∧ Below W.heap.size W w'))
    (HC2 : Seal (∀ W, Glob W → Calls Tryd.prog 38 #[.int .i64 2, .agg X1.toArray] W fun e w' => e = .returned (.bool false) ∧ Below W.heap.size W w'))
    (HC3 : Seal (∀ W, Glob W → Calls Tryd.prog 38 #[.int .i64 key, .agg Bd.toArray] W fun e w' => e = .returned (.bool false) ∧ Below W.heap.size W w'))
    (HS : Seal (∀ (W : World) (a : Option Addr) (n c : Nat) (l' r' : List Bytes) (x : Int), Glob W → IsD W a n c l' → Seal (spendF true l' dS 370 = (r', x)) → Calls Tryd.prog 41 #[.slice a n c, .int .i64 key, .agg X1.toArray] W (DigPost r' x W)))
    (HS2 : Seal (∀ (W : World) (a : Option Addr) (n c : Nat) (l' : List Bytes), Glob W → IsD W a n c l' → Calls Tryd.prog 41 #[.slice a n c, .int .i64 2, .agg X1.toArray] W (DigPost [] 370 W)))
    (HA1 : Seal (∀ W, Glob W → Calls Tryd.prog 45 #[.int .i64 4, .int .i64 4, .agg (dS.map B).toArray, .int .i64 (-1), .int .i64 0, .int .i64 0] W fun e w' => e = .returned (.tuple #[.int .i64 0, .int .i64 370]) ∧ Below W.heap.size W w'))
    (HT1 : Seal (∀ W, Glob W → Calls Tryd.prog 46 #[.int .i64 4, .int .i64 4, .agg (dS.map B).toArray, .int .i64 1099511627777, .int .i64 0, .int .i64 0, .int .i64 0] W fun e w' => e = .returned (.tuple #[.agg Zs.toArray, .int .i64 370]) ∧ Below W.heap.size W w'))
    (HT2 : Seal (∀ W, Glob W → Calls Tryd.prog 46 #[.int .i64 2, .int .i64 4, .agg (dS.map B).toArray, .int .i64 5, .int .i64 0, .int .i64 0, .int .i64 0] W fun e w' => e = .returned (.tuple #[.agg Zs.toArray, .int .i64 90]) ∧ Below W.heap.size W w'))
    (HA2 : Seal (∀ W, Glob W → Calls Tryd.prog 45 #[.int .i64 4, .int .i64 2, .agg (dS.map B).toArray, .int .i64 5, .int .i64 0, .int .i64 0] W fun e w' => e = .returned (.tuple #[.int .i64 0, .int .i64 90]) ∧ Below W.heap.size W w')) :
    Calls Tryd.prog 34 #[] w fun e w' => e = .returned (.bool true) ∧ Below w.heap.size w w' := by
  obtain ⟨D1, hD1⟩ : ∃ D1, D1 = dS.map B := ⟨_, rfl⟩
  obtain ⟨O1, hO1⟩ : ∃ O1, O1 = oS.map B := ⟨_, rfl⟩
  have lD : D1.length = 32 := by rw [hD1, List.length_map]; rfl
  have lO : O1.length = 32 := by rw [hO1, List.length_map]; rfl
  have irD : (Tryd.prog.info? 25).map (·.size) = some 32 := by kernel_rfl
  have IDa : Seal ((Tryd.prog.info? 25).map (·.size) = some D1.toArray.size) := ⟨by rw [List.size_toArray, lD]; exact irD⟩
  have IOa : Seal ((Tryd.prog.info? 25).map (·.size) = some O1.toArray.size) := ⟨by rw [List.size_toArray, lO]; exact irD⟩
  have ID : Seal ((Tryd.prog.info? 25).map (·.size) = some D1.length) := ⟨by rw [lD]; exact irD⟩
  have hDL : Seal ((.int .u8 1 :: .int .u8 0 :: .int .u8 0 :: .int .u8 0 :: .int .u8 0 :: .int .u8 0 :: .int .u8 0 :: .int .u8 0 :: .int .u8 0 :: .int .u8 0 :: .int .u8 0 :: .int .u8 0 :: .int .u8 0 :: .int .u8 0 :: .int .u8 0 :: .int .u8 0 :: .int .u8 0 :: .int .u8 0 :: .int .u8 0 :: .int .u8 0 :: .int .u8 0 :: .int .u8 0 :: .int .u8 0 :: .int .u8 0 :: .int .u8 0 :: .int .u8 0 :: .int .u8 0 :: .int .u8 0 :: .int .u8 0 :: .int .u8 0 :: .int .u8 0 :: .int .u8 0 :: [] : List Value) = D1) := ⟨by rw [hD1]; exact dS_lit⟩
  have hOL : Seal ((.int .u8 0 :: .int .u8 7 :: .int .u8 0 :: .int .u8 0 :: .int .u8 0 :: .int .u8 0 :: .int .u8 0 :: .int .u8 0 :: .int .u8 0 :: .int .u8 0 :: .int .u8 0 :: .int .u8 0 :: .int .u8 0 :: .int .u8 0 :: .int .u8 0 :: .int .u8 0 :: .int .u8 0 :: .int .u8 0 :: .int .u8 0 :: .int .u8 0 :: .int .u8 0 :: .int .u8 0 :: .int .u8 0 :: .int .u8 0 :: .int .u8 0 :: .int .u8 0 :: .int .u8 0 :: .int .u8 0 :: .int .u8 0 :: .int .u8 0 :: .int .u8 0 :: .int .u8 0 :: [] : List Value) = O1) := ⟨by rw [hO1]; exact oS_lit⟩
  have KD : Seal (D1.toArray.all (·.oneCell') = true) := ⟨by rw [hD1]; exact all_oneCell_toArray (digest_one dS)⟩
  have KO : Seal (O1.toArray.all (·.oneCell') = true) := ⟨by rw [hO1]; exact all_oneCell_toArray (digest_one oS)⟩
  have SD : Seal ((.int .u8 0 :: .int .u8 0 :: .int .u8 0 :: .int .u8 0 :: .int .u8 0 :: .int .u8 0 :: .int .u8 0 :: .int .u8 0 :: .int .u8 0 :: .int .u8 0 :: .int .u8 0 :: .int .u8 0 :: .int .u8 0 :: .int .u8 0 :: .int .u8 0 :: .int .u8 0 :: .int .u8 0 :: .int .u8 0 :: .int .u8 0 :: .int .u8 0 :: .int .u8 0 :: .int .u8 0 :: .int .u8 0 :: .int .u8 0 :: .int .u8 0 :: .int .u8 0 :: .int .u8 0 :: .int .u8 0 :: .int .u8 0 :: .int .u8 0 :: .int .u8 0 :: .int .u8 0 :: [] : List Value).toArray.size = D1.toArray.size) := ⟨by show 32 = D1.toArray.size; rw [List.size_toArray, lD]⟩
  have SO : Seal ((.int .u8 0 :: .int .u8 0 :: .int .u8 0 :: .int .u8 0 :: .int .u8 0 :: .int .u8 0 :: .int .u8 0 :: .int .u8 0 :: .int .u8 0 :: .int .u8 0 :: .int .u8 0 :: .int .u8 0 :: .int .u8 0 :: .int .u8 0 :: .int .u8 0 :: .int .u8 0 :: .int .u8 0 :: .int .u8 0 :: .int .u8 0 :: .int .u8 0 :: .int .u8 0 :: .int .u8 0 :: .int .u8 0 :: .int .u8 0 :: .int .u8 0 :: .int .u8 0 :: .int .u8 0 :: .int .u8 0 :: .int .u8 0 :: .int .u8 0 :: .int .u8 0 :: .int .u8 0 :: [] : List Value).toArray.size = O1.toArray.size) := ⟨by show 32 = O1.toArray.size; rw [List.size_toArray, lO]⟩
  have HD1 := Seal.mk hD1
  have HO1 := Seal.mk hO1
  rw [← hD1] at HI HA1 HA2 HT1 HT2 rX
  obtain ⟨W0, hW0⟩ : ∃ W0, W0 = (w.alloc (.cells (.int .u8 0 :: .int .u8 0 :: .int .u8 0 :: .int .u8 0 :: .int .u8 0 :: .int .u8 0 :: .int .u8 0 :: .int .u8 0 :: .int .u8 0 :: .int .u8 0 :: .int .u8 0 :: .int .u8 0 :: .int .u8 0 :: .int .u8 0 :: .int .u8 0 :: .int .u8 0 :: .int .u8 0 :: .int .u8 0 :: .int .u8 0 :: .int .u8 0 :: .int .u8 0 :: .int .u8 0 :: .int .u8 0 :: .int .u8 0 :: .int .u8 0 :: .int .u8 0 :: .int .u8 0 :: .int .u8 0 :: .int .u8 0 :: .int .u8 0 :: .int .u8 0 :: .int .u8 0 :: [] : List Value).toArray 25)).alloc (.cells (.int .u8 0 :: .int .u8 0 :: .int .u8 0 :: .int .u8 0 :: .int .u8 0 :: .int .u8 0 :: .int .u8 0 :: .int .u8 0 :: .int .u8 0 :: .int .u8 0 :: .int .u8 0 :: .int .u8 0 :: .int .u8 0 :: .int .u8 0 :: .int .u8 0 :: .int .u8 0 :: .int .u8 0 :: .int .u8 0 :: .int .u8 0 :: .int .u8 0 :: .int .u8 0 :: .int .u8 0 :: .int .u8 0 :: .int .u8 0 :: .int .u8 0 :: .int .u8 0 :: .int .u8 0 :: .int .u8 0 :: .int .u8 0 :: .int .u8 0 :: .int .u8 0 :: .int .u8 0 :: [] : List Value).toArray 25) := ⟨_, rfl⟩
  have hz0 : W0.heap[w.heap.size]? = some (.cells (.int .u8 0 :: .int .u8 0 :: .int .u8 0 :: .int .u8 0 :: .int .u8 0 :: .int .u8 0 :: .int .u8 0 :: .int .u8 0 :: .int .u8 0 :: .int .u8 0 :: .int .u8 0 :: .int .u8 0 :: .int .u8 0 :: .int .u8 0 :: .int .u8 0 :: .int .u8 0 :: .int .u8 0 :: .int .u8 0 :: .int .u8 0 :: .int .u8 0 :: .int .u8 0 :: .int .u8 0 :: .int .u8 0 :: .int .u8 0 :: .int .u8 0 :: .int .u8 0 :: .int .u8 0 :: .int .u8 0 :: .int .u8 0 :: .int .u8 0 :: .int .u8 0 :: .int .u8 0 :: [] : List Value).toArray 25 (0, 0)) := by rw [hW0]; exact heap_alloc2_old w _ _
  have hz1 : W0.heap[w.heap.size + 1]? = some (.cells (.int .u8 0 :: .int .u8 0 :: .int .u8 0 :: .int .u8 0 :: .int .u8 0 :: .int .u8 0 :: .int .u8 0 :: .int .u8 0 :: .int .u8 0 :: .int .u8 0 :: .int .u8 0 :: .int .u8 0 :: .int .u8 0 :: .int .u8 0 :: .int .u8 0 :: .int .u8 0 :: .int .u8 0 :: .int .u8 0 :: .int .u8 0 :: .int .u8 0 :: .int .u8 0 :: .int .u8 0 :: .int .u8 0 :: .int .u8 0 :: .int .u8 0 :: .int .u8 0 :: .int .u8 0 :: .int .u8 0 :: .int .u8 0 :: .int .u8 0 :: .int .u8 0 :: .int .u8 0 :: [] : List Value).toArray 25 (0, 0)) := by rw [hW0]; exact heap_alloc2_new w _ _
  have HB00 : Below w.heap.size w W0 := by rw [hW0]; exact ((Below.refl _ w).alloc (Nat.le_refl _) _).alloc (by simp) _
  have HZ0 := Seal.mk hz0
  have HZ1 : Seal ((W0.setRow w.heap.size D1.toArray).heap[w.heap.size + 1]? = some (.cells (.int .u8 0 :: .int .u8 0 :: .int .u8 0 :: .int .u8 0 :: .int .u8 0 :: .int .u8 0 :: .int .u8 0 :: .int .u8 0 :: .int .u8 0 :: .int .u8 0 :: .int .u8 0 :: .int .u8 0 :: .int .u8 0 :: .int .u8 0 :: .int .u8 0 :: .int .u8 0 :: .int .u8 0 :: .int .u8 0 :: .int .u8 0 :: .int .u8 0 :: .int .u8 0 :: .int .u8 0 :: .int .u8 0 :: .int .u8 0 :: .int .u8 0 :: .int .u8 0 :: .int .u8 0 :: .int .u8 0 :: .int .u8 0 :: .int .u8 0 :: .int .u8 0 :: .int .u8 0 :: [] : List Value).toArray 25 (0, 0))) := ⟨(setRow_other W0 w.heap.size (w.heap.size + 1) D1.toArray (by omega)).trans hz1⟩
  obtain ⟨W2, hW2⟩ : ∃ W2, W2 = (W0.setRow w.heap.size D1.toArray).setRow (w.heap.size + 1) O1.toArray := ⟨_, rfl⟩
  have HB2 : Seal (Below w.heap.size w W2) := ⟨by rw [hW2]; exact below_row (below_row HB00 (Nat.le_refl _) _) (Nat.le_add_right _ _) _⟩
  have HE2 : Seal (Env W2 none 0 0 [] [(w.heap.size + 1, .cells O1.toArray 25), (w.heap.size, .cells D1.toArray 25)]) := ⟨hG.below HB2.out, isB_nil _, by
    intro p hp
    simp only [List.mem_cons, List.not_mem_nil, or_false] at hp
    rcases hp with rfl | rfl
    · rw [hW2]; exact setRow_heap _ _ _ _ _ _ HZ1.out
    · rw [hW2]
      exact (setRow_other _ (w.heap.size + 1) w.heap.size _ (by omega)).trans (setRow_heap _ _ _ _ _ _ HZ0.out)⟩
  have HW2 := Seal.mk hW2
  have HW0 := Seal.mk hW0
  have heq : ∀ W, (Op.equalIn 10000 25 (.agg D1.toArray) (.agg D1.toArray)).run Tryd.prog W = .ok true W := fun W => by rw [hD1, eqDig dS dS rfl rfl W]; simp
  obtain ⟨DO, hDO1, hDO2, hDO3⟩ := fold_two lO lD
  obtain ⟨DD, hDD1, hDD2, hDD3⟩ := fold_two lD lD
  have hO32 := fold_all (L := O1) (Z := (.int .u8 0 :: .int .u8 0 :: .int .u8 0 :: .int .u8 0 :: .int .u8 0 :: .int .u8 0 :: .int .u8 0 :: .int .u8 0 :: .int .u8 0 :: .int .u8 0 :: .int .u8 0 :: .int .u8 0 :: .int .u8 0 :: .int .u8 0 :: .int .u8 0 :: .int .u8 0 :: .int .u8 0 :: .int .u8 0 :: .int .u8 0 :: .int .u8 0 :: .int .u8 0 :: .int .u8 0 :: .int .u8 0 :: .int .u8 0 :: .int .u8 0 :: .int .u8 0 :: .int .u8 0 :: .int .u8 0 :: .int .u8 0 :: .int .u8 0 :: .int .u8 0 :: .int .u8 0 :: [] : List Value)) (by rw [lO]; rfl)
  have HF := Seal.mk (And.intro hDO1 (And.intro hDO2 (And.intro hDO3 (And.intro hDD1 (And.intro hDD2 (And.intro hDD3 hO32))))))
  clear hG hz0 hz1 HB00 hW2 hW0 hD1 hO1 hDO1 hDO2 hDO3 hDD1 hDD2 hDD3 hO32 irD
  go_enter Tryd.func34, Tryd.ntmps34
  go_upto_region 2 with (first | (refine wpList_store_row rfl 25 (.tmp 1) (.tmp 27) rfl w.heap.size (.int .u8 1 :: .int .u8 0 :: .int .u8 0 :: .int .u8 0 :: .int .u8 0 :: .int .u8 0 :: .int .u8 0 :: .int .u8 0 :: .int .u8 0 :: .int .u8 0 :: .int .u8 0 :: .int .u8 0 :: .int .u8 0 :: .int .u8 0 :: .int .u8 0 :: .int .u8 0 :: .int .u8 0 :: .int .u8 0 :: .int .u8 0 :: .int .u8 0 :: .int .u8 0 :: .int .u8 0 :: .int .u8 0 :: .int .u8 0 :: .int .u8 0 :: .int .u8 0 :: .int .u8 0 :: .int .u8 0 :: .int .u8 0 :: .int .u8 0 :: .int .u8 0 :: .int .u8 0 :: [] : List Value).toArray rfl rfl 25 (.int .u8 0 :: .int .u8 0 :: .int .u8 0 :: .int .u8 0 :: .int .u8 0 :: .int .u8 0 :: .int .u8 0 :: .int .u8 0 :: .int .u8 0 :: .int .u8 0 :: .int .u8 0 :: .int .u8 0 :: .int .u8 0 :: .int .u8 0 :: .int .u8 0 :: .int .u8 0 :: .int .u8 0 :: .int .u8 0 :: .int .u8 0 :: .int .u8 0 :: .int .u8 0 :: .int .u8 0 :: .int .u8 0 :: .int .u8 0 :: .int .u8 0 :: .int .u8 0 :: .int .u8 0 :: .int .u8 0 :: .int .u8 0 :: .int .u8 0 :: .int .u8 0 :: .int .u8 0 :: [] : List Value).toArray (by rw [← HW0.out]; exact HZ0.out) (by rw [hDL.out]; exact IDa.out) (by rw [hDL.out]; exact SD.out) (by rw [hDL.out]; exact KD.out) ?_; rw [hDL.out]) | (refine wpList_store_row rfl 25 (.tmp 2) (.tmp 28) rfl (w.heap.size + 1) (.int .u8 0 :: .int .u8 7 :: .int .u8 0 :: .int .u8 0 :: .int .u8 0 :: .int .u8 0 :: .int .u8 0 :: .int .u8 0 :: .int .u8 0 :: .int .u8 0 :: .int .u8 0 :: .int .u8 0 :: .int .u8 0 :: .int .u8 0 :: .int .u8 0 :: .int .u8 0 :: .int .u8 0 :: .int .u8 0 :: .int .u8 0 :: .int .u8 0 :: .int .u8 0 :: .int .u8 0 :: .int .u8 0 :: .int .u8 0 :: .int .u8 0 :: .int .u8 0 :: .int .u8 0 :: .int .u8 0 :: .int .u8 0 :: .int .u8 0 :: .int .u8 0 :: .int .u8 0 :: [] : List Value).toArray rfl rfl 25 (.int .u8 0 :: .int .u8 0 :: .int .u8 0 :: .int .u8 0 :: .int .u8 0 :: .int .u8 0 :: .int .u8 0 :: .int .u8 0 :: .int .u8 0 :: .int .u8 0 :: .int .u8 0 :: .int .u8 0 :: .int .u8 0 :: .int .u8 0 :: .int .u8 0 :: .int .u8 0 :: .int .u8 0 :: .int .u8 0 :: .int .u8 0 :: .int .u8 0 :: .int .u8 0 :: .int .u8 0 :: .int .u8 0 :: .int .u8 0 :: .int .u8 0 :: .int .u8 0 :: .int .u8 0 :: .int .u8 0 :: .int .u8 0 :: .int .u8 0 :: .int .u8 0 :: .int .u8 0 :: [] : List Value).toArray (by rw [← HW0.out]; exact HZ1.out) (by rw [hOL.out]; exact IOa.out) (by rw [hOL.out]; exact SO.out) (by rw [hOL.out]; exact KO.out) ?_; rw [hOL.out]))
  rw [← HW0.out, ← HW2.out]
  clear HW0 HW2 HZ0 HZ1
  go_wp2_with fail
  refine (HP.out _).mono ?_
  rintro e w3 ⟨rfl, hb⟩
  have HE3 := Seal.mk (HE2.out.below hb)
  have HB3 := Seal.mk (HB2.out.trans (hb.mono HB2.out.size))
  clear hb HE2 HB2
  have RD := Seal.mk (HE3.out.keep (w.heap.size, .cells D1.toArray 25) (by simp))
  go_wp2_with (refine wpList_load_row rfl 25 (.tmp 1) rfl w.heap.size rfl 25 D1.toArray (0, 0) _ RD.out Tryd.underlying25 rfl IDa.out ?_)
  refine (HI.out _ HE3.out.glob).mono ?_
  rintro e w4 ⟨rfl, hb⟩
  have HE4 := Seal.mk (HE3.out.below hb)
  have HB4 := Seal.mk (HB3.out.trans (hb.mono HB3.out.size))
  clear hb HE3 HB3 RD
  obtain ⟨g5, hg5⟩ : ∃ g5, g5 = w4.heap.size := ⟨_, rfl⟩
  have HE5 := Seal.mk (HE4.out.push (.cells X1.toArray 69))
  have HB5 := Seal.mk (HB4.out.alloc HB4.out.size (.cells X1.toArray 69))
  go_upto_region 4 with (refine wpList_store_new rfl 69 (.tmp 5) (.tmp 36) rfl (.int .u8 0 :: .int .u8 0 :: .int .u8 0 :: .int .u8 0 :: .int .u8 0 :: .int .u8 0 :: .int .u8 0 :: .int .u8 0 :: .int .u8 0 :: .int .u8 0 :: .int .u8 0 :: .int .u8 0 :: .int .u8 0 :: .int .u8 0 :: .int .u8 0 :: .int .u8 0 :: .int .u8 0 :: .int .u8 0 :: .int .u8 0 :: .int .u8 0 :: .int .u8 0 :: .int .u8 0 :: .int .u8 0 :: .int .u8 0 :: .int .u8 0 :: .int .u8 0 :: .int .u8 0 :: .int .u8 0 :: .int .u8 0 :: .int .u8 0 :: .int .u8 0 :: .int .u8 0 :: .int .i64 0 :: .int .i64 0 :: .int .i64 0 :: [] : List Value) X1 69 rfl rfl IX.out LX.out OX.out ?_)
  rw [← hg5] at HE5 ⊢
  obtain ⟨W5, hW5⟩ : ∃ W5, W5 = w4.alloc (.cells X1.toArray 69) := ⟨_, rfl⟩
  rw [← hW5] at HE5 HB5 ⊢
  clear hW5 hg5 HE4 HB4
  have RD := Seal.mk (HE5.out.keep (w.heap.size, .cells D1.toArray 25) (by simp))
  have RX := Seal.mk (HE5.out.keep (g5, .cells X1.toArray 69) (by simp))
  have rx : W5.rangeAt g5 0 D1 := by
    have := rangeAt_take (rangeAt_row RX.out) 32
    rwa [rX.out] at this
  have k0 : W5.cell? ⟨g5, 32, none⟩ = some (.int .i64 20) := by rw [cell_of_row _ _ _ _ _ _ RX.out]; exact cX.out
  go_wp2_with (first | (refine wpList_load_mid_g (by rfl) 25 (.tmp 48) rfl g5 0 rfl D1 _ rx Tryd.underlying25 rfl ID.out ?_) | (refine wpList_load_row_g (by rfl) 25 (.tmp 1) rfl w.heap.size rfl 25 D1.toArray (0, 0) _ RD.out Tryd.underlying25 rfl IDa.out ?_) | (refine wpList_load_row_g (by rfl) 69 (.tmp 5) rfl g5 rfl 69 X1.toArray (0, 0) _ RX.out Tryd.underlying69 rfl IXa.out ?_))
  refine (HC1.out _ HE5.out.glob).mono ?_
  rintro e w6 ⟨rfl, hb⟩
  have HE6 := Seal.mk (HE5.out.below hb)
  have HB6 := Seal.mk (HB5.out.trans (hb.mono HB5.out.size))
  clear hb HE5 HB5 RD RX rx k0 heq
  have RX := Seal.mk (HE6.out.keep (g5, .cells X1.toArray 69) (by simp))
  go_wp2_with (refine wpList_load_row_g (by rfl) 69 (.tmp 5) rfl g5 rfl 69 X1.toArray (0, 0) _ RX.out Tryd.underlying69 rfl IXa.out ?_)
  refine (HC2.out _ HE6.out.glob).mono ?_
  rintro e w7 ⟨rfl, hb⟩
  have HE7 := Seal.mk (HE6.out.below hb)
  have HB7 := Seal.mk (HB6.out.trans (hb.mono HB6.out.size))
  clear hb HE6 HB6 RX HC1 HC2 HP HI
  have RX := Seal.mk (HE7.out.keep (g5, .cells X1.toArray 69) (by simp))
  go_upto_region 7 with (first | (refine wpList_load_row rfl 69 (.tmp 5) rfl g5 rfl 69 X1.toArray (0, 0) _ RX.out Tryd.underlying69 rfl IXa.out ?_) | (refine wpList_store_new rfl 69 (.tmp 10) (.tmp 68) rfl (.int .u8 0 :: .int .u8 0 :: .int .u8 0 :: .int .u8 0 :: .int .u8 0 :: .int .u8 0 :: .int .u8 0 :: .int .u8 0 :: .int .u8 0 :: .int .u8 0 :: .int .u8 0 :: .int .u8 0 :: .int .u8 0 :: .int .u8 0 :: .int .u8 0 :: .int .u8 0 :: .int .u8 0 :: .int .u8 0 :: .int .u8 0 :: .int .u8 0 :: .int .u8 0 :: .int .u8 0 :: .int .u8 0 :: .int .u8 0 :: .int .u8 0 :: .int .u8 0 :: .int .u8 0 :: .int .u8 0 :: .int .u8 0 :: .int .u8 0 :: .int .u8 0 :: .int .u8 0 :: .int .i64 0 :: .int .i64 0 :: .int .i64 0 :: [] : List Value) X1 69 rfl rfl IX.out LX.out OX.out ?_))
  have kb : (w7.alloc (.cells X1.toArray 69)).cell? ⟨w7.heap.size, 32, none⟩ = some (.int .i64 20) := by rw [cell_of_row _ _ _ _ _ _ (heap_alloc_new w7 _)]; exact cX.out
  have fb : (w7.alloc (.cells X1.toArray 69)).frozen? ⟨w7.heap.size, 32, none⟩ = false := frozen_of_row _ _ _ _ _ (heap_alloc_new w7 _)
  go_upto_region 8 with (fail)
  rw [hBd.out]
  clear kb fb RX
  have HE8 := Seal.mk (HE7.out.push (.cells Bd.toArray 69))
  have HB8 := Seal.mk (HB7.out.alloc HB7.out.size (.cells Bd.toArray 69))
  obtain ⟨gb, hgb⟩ : ∃ gb, gb = w7.heap.size := ⟨_, rfl⟩
  obtain ⟨W8, hW8⟩ : ∃ W8, W8 = w7.alloc (.cells Bd.toArray 69) := ⟨_, rfl⟩
  rw [← hW8] at HE8 HB8 ⊢
  rw [← hgb] at HE8 ⊢
  clear hW8 hgb HE7 HB7
  have HE9 := Seal.mk (HE8.out.push (.cells O1.toArray 25))
  have HB9 := Seal.mk (HB8.out.alloc HB8.out.size (.cells O1.toArray 25))
  have RO := Seal.mk (HE8.out.keep (w.heap.size + 1, .cells O1.toArray 25) (by simp))
  have RX := Seal.mk (HE9.out.keep (g5, .cells X1.toArray 69) (by simp))
  have hf := HF.out.2.2.2.2.2.2
  go_wp2_with (first | (refine wpList_load_row rfl 25 (.tmp 2) rfl (w.heap.size + 1) rfl 25 O1.toArray (0, 0) _ RO.out Tryd.underlying25 rfl IOa.out ?_) | (refine wpList_load_row rfl 69 (.tmp 5) rfl g5 rfl 69 X1.toArray (0, 0) _ RX.out Tryd.underlying69 rfl IXa.out ?_))
  have hs1 : spendF true [oS] dS 370 = ([oS, dS], 0) := by decide +kernel
  have hs2 : spendF true [oS, dS] dS 370 = ([], 161) := by decide +kernel
  have hs3 : spendF true [dS, dS] dS 370 = ([], 370) := by decide +kernel
  have hd1 : dcells [oS] = O1 := by rw [HO1.out]; simp [dcells]
  have hd2 : dcells [oS, dS] = O1 ++ D1 := by rw [HO1.out, HD1.out]; simp [dcells]
  have hd3 : dcells [dS, dS] = D1 ++ D1 := by rw [HD1.out]; simp [dcells]
  have e1 : ∀ d ∈ [oS], d.length = 32 := by intro d h; simp at h; rw [h]; rfl
  have e2 : ∀ d ∈ [oS, dS], d.length = 32 := by intro d h; simp at h; rcases h with h | h <;> (rw [h]; rfl)
  have e3 : ∀ d ∈ [dS, dS], d.length = 32 := by intro d h; simp at h; rw [h]; rfl
  have I1 := isD_new W8 [oS] 1 25 rfl e1 (by decide)
  rw [hd1] at I1
  refine (HS.out _ _ 1 1 [oS] [oS, dS] 0 HE9.out.glob I1 ⟨hs1⟩).mono ?_
  rintro e v0 ⟨a1, n1, c1, rfl, HL, hb⟩
  have HE0 := Seal.mk (HE9.out.below hb)
  have HB0 := Seal.mk (HB9.out.trans (hb.mono HB9.out.size))
  clear hb HE9 HB9 RX RO I1 hd1 hs1 e1 hf
  have RX := Seal.mk (HE0.out.keep (g5, .cells X1.toArray 69) (by simp))
  go_wp2_with (refine wpList_load_row rfl 69 (.tmp 5) rfl g5 rfl 69 X1.toArray (0, 0) _ RX.out Tryd.underlying69 rfl IXa.out ?_)
  refine (HS.out _ _ n1 c1 [oS, dS] [] 161 HE0.out.glob HL.out ⟨hs2⟩).mono ?_
  rintro e v1 ⟨a2, n2, c2, rfl, _, hb⟩
  have HE1 := Seal.mk (HE0.out.below hb)
  have HB1 := Seal.mk (HB0.out.trans (hb.mono HB0.out.size))
  have HL := Seal.mk (HL.out.of_heap hb)
  clear hb HE0 HB0 RX
  clear hs2
  have HE2 := Seal.mk (HE1.out.push (.cells (D1 ++ D1).toArray 25))
  have HB2 := Seal.mk (HB1.out.alloc HB1.out.size (.cells (D1 ++ D1).toArray 25))
  have RD := Seal.mk (HE1.out.keep (w.heap.size, .cells D1.toArray 25) (by simp))
  have RX := Seal.mk (HE2.out.keep (g5, .cells X1.toArray 69) (by simp))
  have hf1 := HF.out.2.2.2.1
  have hf2 := HF.out.2.2.2.2.1
  have hf3 := HF.out.2.2.2.2.2.1
  go_wp2_with (first | (refine wpList_load_row rfl 25 (.tmp 1) rfl w.heap.size rfl 25 D1.toArray (0, 0) _ RD.out Tryd.underlying25 rfl IDa.out ?_) | (refine wpList_load_row rfl 69 (.tmp 5) rfl g5 rfl 69 X1.toArray (0, 0) _ RX.out Tryd.underlying69 rfl IXa.out ?_))
  have I3 := isD_new v1 [dS, dS] 2 25 rfl e3 (by decide)
  rw [hd3] at I3
  refine (HS.out _ _ 2 2 [dS, dS] [] 370 HE2.out.glob I3 ⟨hs3⟩).mono ?_
  rintro e v3 ⟨a3, n3, c3, rfl, _, hb⟩
  have HE3 := Seal.mk (HE2.out.below hb)
  have HB3 := Seal.mk (HB2.out.trans (hb.mono HB2.out.size))
  have HL := Seal.mk ((HL.out.of_heap (below_alloc v1 _)).of_heap hb)
  clear hb HE2 HB2 HE1 HB1 RX RD I3 hd3 hs3 e3 hf1 hf2 hf3
  have RX := Seal.mk (HE3.out.keep (g5, .cells X1.toArray 69) (by simp))
  go_wp2_with (refine wpList_load_row rfl 69 (.tmp 5) rfl g5 rfl 69 X1.toArray (0, 0) _ RX.out Tryd.underlying69 rfl IXa.out ?_)
  refine (HS2.out _ _ 0 0 [] HE3.out.glob (isD_nil _)).mono ?_
  rintro e v4 ⟨a4, n4, c4, rfl, _, hb⟩
  have HE4 := Seal.mk (HE3.out.below hb)
  have HB4 := Seal.mk (HB3.out.trans (hb.mono HB3.out.size))
  have HL := Seal.mk (HL.out.of_heap hb)
  clear hb HE3 HB3 RX
  have RD := Seal.mk (HE4.out.keep (w.heap.size, .cells D1.toArray 25) (by simp))
  go_wp2_with (refine wpList_load_row rfl 25 (.tmp 1) rfl w.heap.size rfl 25 D1.toArray (0, 0) _ RD.out Tryd.underlying25 rfl IDa.out ?_)
  refine (HA1.out _ HE4.out.glob).mono ?_
  rintro e v5 ⟨rfl, hb⟩
  have HE5 := Seal.mk (HE4.out.below hb)
  have HB5 := Seal.mk (HB4.out.trans (hb.mono HB4.out.size))
  have HL := Seal.mk (HL.out.of_heap hb)
  clear hb HE4 HB4 RD
  have RD := Seal.mk (HE5.out.keep (w.heap.size, .cells D1.toArray 25) (by simp))
  go_wp2_with (refine wpList_load_row rfl 25 (.tmp 1) rfl w.heap.size rfl 25 D1.toArray (0, 0) _ RD.out Tryd.underlying25 rfl IDa.out ?_)
  refine (HT1.out _ HE5.out.glob).mono ?_
  rintro e v6 ⟨rfl, hb⟩
  have HE6 := Seal.mk (HE5.out.below hb)
  have HB6 := Seal.mk (HB5.out.trans (hb.mono HB5.out.size))
  have HL := Seal.mk (HL.out.of_heap hb)
  clear hb HE5 HB5 RD
  have HE7 := Seal.mk (HE6.out.push (.cells Zs.toArray 69))
  have HB7 := Seal.mk (HB6.out.alloc HB6.out.size (.cells Zs.toArray 69))
  have HL := Seal.mk (HL.out.of_heap (below_alloc v6 (.cells Zs.toArray 69)))
  clear HE6 HB6
  have RD := Seal.mk (HE7.out.keep (w.heap.size, .cells D1.toArray 25) (by simp))
  go_wp2_with (first | (refine wpList_store_new rfl 69 (.tmp 21) (.tmp 107) rfl (.int .u8 0 :: .int .u8 0 :: .int .u8 0 :: .int .u8 0 :: .int .u8 0 :: .int .u8 0 :: .int .u8 0 :: .int .u8 0 :: .int .u8 0 :: .int .u8 0 :: .int .u8 0 :: .int .u8 0 :: .int .u8 0 :: .int .u8 0 :: .int .u8 0 :: .int .u8 0 :: .int .u8 0 :: .int .u8 0 :: .int .u8 0 :: .int .u8 0 :: .int .u8 0 :: .int .u8 0 :: .int .u8 0 :: .int .u8 0 :: .int .u8 0 :: .int .u8 0 :: .int .u8 0 :: .int .u8 0 :: .int .u8 0 :: .int .u8 0 :: .int .u8 0 :: .int .u8 0 :: .int .i64 0 :: .int .i64 0 :: .int .i64 0 :: [] : List Value) Zs 69 rfl rfl IZ.out LZ.out OZ.out ?_) | (refine wpList_load_row rfl 25 (.tmp 1) rfl w.heap.size rfl 25 D1.toArray (0, 0) _ RD.out Tryd.underlying25 rfl IDa.out ?_))
  refine (HT2.out _ HE7.out.glob).mono ?_
  rintro e v8 ⟨rfl, hb⟩
  have HE8 := Seal.mk (HE7.out.below hb)
  have HB8 := Seal.mk (HB7.out.trans (hb.mono HB7.out.size))
  have HL := Seal.mk (HL.out.of_heap hb)
  clear hb HE7 HB7 RD
  have HE9 := Seal.mk (HE8.out.push (.cells Zs.toArray 69))
  have HB9 := Seal.mk (HB8.out.alloc HB8.out.size (.cells Zs.toArray 69))
  have HL := Seal.mk (HL.out.of_heap (below_alloc v8 (.cells Zs.toArray 69)))
  clear HE8 HB8
  have RD := Seal.mk (HE9.out.keep (w.heap.size, .cells D1.toArray 25) (by simp))
  go_wp2_with (first | (refine wpList_store_new rfl 69 (.tmp 23) (.tmp 112) rfl (.int .u8 0 :: .int .u8 0 :: .int .u8 0 :: .int .u8 0 :: .int .u8 0 :: .int .u8 0 :: .int .u8 0 :: .int .u8 0 :: .int .u8 0 :: .int .u8 0 :: .int .u8 0 :: .int .u8 0 :: .int .u8 0 :: .int .u8 0 :: .int .u8 0 :: .int .u8 0 :: .int .u8 0 :: .int .u8 0 :: .int .u8 0 :: .int .u8 0 :: .int .u8 0 :: .int .u8 0 :: .int .u8 0 :: .int .u8 0 :: .int .u8 0 :: .int .u8 0 :: .int .u8 0 :: .int .u8 0 :: .int .u8 0 :: .int .u8 0 :: .int .u8 0 :: .int .u8 0 :: .int .i64 0 :: .int .i64 0 :: .int .i64 0 :: [] : List Value) Zs 69 rfl rfl IZ.out LZ.out OZ.out ?_) | (refine wpList_load_row rfl 25 (.tmp 1) rfl w.heap.size rfl 25 D1.toArray (0, 0) _ RD.out Tryd.underlying25 rfl IDa.out ?_))
  refine (HA2.out _ HE9.out.glob).mono ?_
  rintro e u0 ⟨rfl, hb⟩
  have HE0 := Seal.mk (HE9.out.below hb)
  have HB0 := Seal.mk (HB9.out.trans (hb.mono HB9.out.size))
  have HL := Seal.mk (HL.out.of_heap hb)
  clear hb HE9 HB9 RD HA1 HA2 HT1 HT2 HS HS2
  have RD := Seal.mk (HE0.out.keep (w.heap.size, .cells D1.toArray 25) (by simp))
  have RO := Seal.mk (HE0.out.keep (w.heap.size + 1, .cells O1.toArray 25) (by simp))
  have hf1 := HF.out.1
  have hf2 := HF.out.2.1
  have hf3 := HF.out.2.2.1
  go_wp2_with (first | (refine wpList_load_row_g (by rfl) 25 (.tmp 1) rfl w.heap.size rfl 25 D1.toArray (0, 0) _ RD.out Tryd.underlying25 rfl IDa.out ?_) | (refine wpList_load_row_g (by rfl) 25 (.tmp 2) rfl (w.heap.size + 1) rfl 25 O1.toArray (0, 0) _ RO.out Tryd.underlying25 rfl IOa.out ?_))
  have I2 := isD_new u0 [oS, dS] 2 25 rfl e2 (by decide)
  rw [hd2] at I2
  have HE1 := Seal.mk (HE0.out.push (.cells (O1 ++ D1).toArray 25))
  have HB1 := Seal.mk (HB0.out.alloc HB0.out.size (.cells (O1 ++ D1).toArray 25))
  refine (rsame_any a1 _ n1 c1 2 2 [oS, dS] [oS, dS] _ (HL.out.of_heap (below_alloc u0 _)) I2).mono ?_
  rintro e u1 ⟨rfl, hb⟩
  rw [show ([oS, dS] == [oS, dS]) = true from by simp]
  have HE2 := Seal.mk (HE1.out.below hb)
  have HB2 := Seal.mk (HB1.out.trans (hb.mono HB1.out.size))
  clear hb HE0 HB0 HE1 HB1 RD RO I2 HL hf1 hf2 hf3
  have RB := Seal.mk (HE2.out.keep (gb, .cells Bd.toArray 69) (by simp))
  go_wp2_with (refine wpList_load_row_g (by rfl) 69 (.tmp 10) rfl gb rfl 69 Bd.toArray (0, 0) _ RB.out Tryd.underlying69 rfl IBa.out ?_)
  refine (HC3.out _ HE2.out.glob).mono ?_
  rintro e u2 ⟨rfl, hb⟩
  have HB3 := Seal.mk (HB2.out.trans (hb.mono HB2.out.size))
  clear hb HE2 HB2 RB
  go_wp2
  go_ret
  exact ⟨rfl, HB3.out⟩

theorem vdTwo : vd 2 = false := by decide +kernel

theorem stC_set {T : Bytes} (hT : T.length = 32) (v E S x : Int) : (stC T v E S).set 32 (.int .i64 x) = stC T x E S := by
  unfold stC
  rw [List.set_append_right 32 _ (by rw [List.length_map, hT]; exact Nat.le_refl _), List.length_map, hT]
  rfl

theorem skB_two (T : Bytes) (v E S : Int) : skB 2 T v E S = false := by
  unfold skB vrB
  rw [show vd 2 = false from vdTwo]
  simp

theorem ssane_any (w : World) (hG : Glob w) : Calls Tryd.prog 34 #[] w fun e w' => e = .returned (.bool true) ∧ Below w.heap.size w w' := by
  obtain ⟨key, r, c, s, E, Sg, I⟩ := issue_plain 5 9 3 4 20 dS (by decide) (by decide) (by decide)
  have hsk : skB key dS 20 E Sg = true := by unfold skB; rw [I.right]; rfl
  have hZ : ∀ T : Bytes, T.length = 32 → (.int .u8 0 :: .int .u8 0 :: .int .u8 0 :: .int .u8 0 :: .int .u8 0 :: .int .u8 0 :: .int .u8 0 :: .int .u8 0 :: .int .u8 0 :: .int .u8 0 :: .int .u8 0 :: .int .u8 0 :: .int .u8 0 :: .int .u8 0 :: .int .u8 0 :: .int .u8 0 :: .int .u8 0 :: .int .u8 0 :: .int .u8 0 :: .int .u8 0 :: .int .u8 0 :: .int .u8 0 :: .int .u8 0 :: .int .u8 0 :: .int .u8 0 :: .int .u8 0 :: .int .u8 0 :: .int .u8 0 :: .int .u8 0 :: .int .u8 0 :: .int .u8 0 :: .int .u8 0 :: .int .i64 0 :: .int .i64 0 :: .int .i64 0 :: [] : List Value).length = (stC T 20 E Sg).length := fun T h => by rw [stC_len h]; rfl
  exact ssane_core key r c s (stC dS 20 E Sg) (stC zb32 0 0 0) w hG ⟨stC_info dS_len⟩ ⟨by rw [List.size_toArray]; exact stC_info dS_len⟩ ⟨hZ dS dS_len⟩ ⟨stC_one _ _ _ _⟩ ⟨stC_info zb32_len⟩ ⟨by rw [stC_len zb32_len]; rfl⟩ ⟨stC_one _ _ _ _⟩
    (stC dS (-1) E Sg) ⟨stC_set dS_len _ _ _ _⟩ ⟨by rw [List.size_toArray]; exact stC_info dS_len⟩ ⟨(stC_head dS_len).text⟩ ⟨by rw [List.getElem?_toArray]; exact (stC_head dS_len).value⟩
    ⟨fun W => public_at 5 key 0 W ⟨I.pub⟩ (by decide) (by decide)⟩
    ⟨fun W h => issued_any 5 9 key r c s E Sg 20 3 4 dS W h dS_len (by decide) (by decide) (by decide) (by decide) (by decide) (by decide) (by decide) (by decide) ⟨I.pub⟩ ⟨I.beg⟩ ⟨I.ask⟩ ⟨I.ans⟩ ⟨I.take⟩⟩
    ⟨fun W h => scheck_any key dS 20 E Sg true W dS_len h ⟨hsk⟩⟩
    ⟨fun W h => scheck_any 2 dS 20 E Sg false W dS_len h ⟨skB_two _ _ _ _⟩⟩
    ⟨fun W h => scheck_any key dS (-1) E Sg false W dS_len h ⟨rfl⟩⟩
    ⟨fun W a n c l' r' x h hi hs => sspend_any a n c l' r' key 20 E Sg x dS W h hi dS_len ⟨by rw [hsk]; exact hs.out⟩⟩
    ⟨fun W a n c l' h hi => sspend_any a n c l' [] 2 20 E Sg 370 dS W h hi dS_len ⟨by rw [skB_two]; rfl⟩⟩
    ⟨fun W h => sask_any 4 4 0 0 0 370 (-1) dS W ⟨rfl⟩ (by decide) (by decide) (by decide) (by decide) h dS_len⟩
    ⟨fun W h => stake_any 4 4 0 0 0 1099511627777 0 0 0 370 dS zb32 W ⟨rfl⟩ (by decide) (by decide) (by decide) (by decide) h dS_len⟩
    ⟨fun W h => stake_any 2 4 0 0 0 5 0 0 0 90 dS zb32 W ⟨by
      have e1 : finishC 2 4 (stT dS 5) 0 0 0 = (0, 0, 90) := by unfold finishC; rw [show vd 2 = false from vdTwo, Bool.false_and, if_neg (by decide)]
      unfold stakeF
      rw [if_pos (by decide), e1, if_neg (by decide)]⟩ (by decide) (by decide) (by decide) (by decide) h dS_len⟩
    ⟨fun W h => sask_any 4 2 0 0 0 90 5 dS W ⟨by unfold saskF askC; rw [if_pos (by decide), show vd 2 = false from vdTwo, Bool.and_false, if_neg (by decide)]⟩ (by decide) (by decide) (by decide) (by decide) h dS_len⟩
theorem exec_store_row {P : Program} {o : Oper} {a : Act} {w : World} (ty : TypeId) (x y : Operand) (ho : o.op = .store ty x y)
    (g : Nat) (cells : Array Value) (hx : a.eval x = .pointer (some ⟨g, 0, none⟩)) (hy : a.eval y = .agg cells)
    (t : TypeId) (old : Array Value) (hg : w.heap[g]? = some (.cells old t (0, 0))) (hi : (P.info? ty).map (·.size) = some cells.size)
    (hold : old.size = cells.size) (h1 : cells.all (·.oneCell') = true) : (execOp a.eval o).run P w = .ok .skip (w.setRow g cells) := by
  unfold execOp
  simp only [ho, hx, hy, Instr.storeAt, Instr.sureAddr, Sem.run_bind, Sem.run_pure, Result.andThen_ok, run_storeVar_row w g t ty old cells hg hi hold h1]

theorem rangeAt_setRow {w : World} {g b off : Nat} {cs : List Value} {ds : Array Value} (h : w.rangeAt b off cs) (hne : b ≠ g) : (w.setRow g ds).rangeAt b off cs :=
  fun j u hu => (cell_setRow_other w g ds ⟨b, off + j, none⟩ hne).trans (h j u hu)

/-- a stretch of a walk, ended by what its slots and its world are -/
def CutQ (F : Nat → Act) (R : Nat → World → Prop) : Exit → Act → World → Prop
  | .normal, a, W => ∃ g, a = F g ∧ R g W
  | _, _, _ => False
theorem wp_cut {P : Program} {c : Code} {Q : Exit → Act → World → Prop} {a : Act} {w : World} (F : Nat → Act) (R : Nat → World → Prop)
    (h : c.wp P (CutQ F R) a w) (hQ : ∀ g W, R g W → Q .normal (F g) W) : c.wp P Q a w :=
  Code.wp_mono (fun e a W hq => by
    cases e with
    | normal => obtain ⟨g, ha, hR⟩ := hq; subst ha; exact hQ g W hR
    | _ => exact hq.elim) h

theorem rnumber13_any (n : Int) (w : World) : Calls Tryd.prog 97 #[.int .i64 n] w fun e w' => e = .returned (.agg #[.int .i64 1, .int .i64 n, .string ByteArray.empty, .slice none 0 0]) ∧ Below w.heap.size w w' := by
  go_enter Tryd.func97, Tryd.ntmps97
  go_wp2
  refine bodyPost_ret (results_cell_row (fn := Tryd.f97) rfl _ _ w.heap.size 79 _ (0, 0) _ rfl (heap_alloc_new w _) Tryd.underlying79 rfl (by kernel_rfl)) rfl ⟨rfl, below_alloc _ _⟩

theorem rlist13_any (a : Option Addr) (n c : Nat) (w : World) : Calls Tryd.prog 95 #[.slice a n c] w fun e w' => e = .returned (.agg #[.int .i64 3, .int .i64 0, .string ByteArray.empty, .slice a n c]) ∧ Below w.heap.size w w' := by
  go_enter Tryd.func95, Tryd.ntmps95
  go_wp2
  refine bodyPost_ret (results_cell_row (fn := Tryd.f95) rfl _ _ w.heap.size 79 _ (0, 0) _ rfl (heap_alloc_new w _) Tryd.underlying79 rfl (by kernel_rfl)) rfl ⟨rfl, below_alloc _ _⟩

set_option maxHeartbeats 2000000 in
theorem rtext13_any (T : Bytes) (w : World) (hT : T.length = 32) : Calls Tryd.prog 96 #[.agg (T.map B).toArray] w fun e w' => e = .returned (.agg #[.int .i64 2, .int .i64 0, .string ⟨T.toArray⟩, .slice none 0 0]) ∧ Below w.heap.size w w' := by
  obtain ⟨Y, hY⟩ : ∃ Y : World, Y = (w.alloc (.cells (T.map B).toArray 25)).alloc (.cells #[.int .i64 0, .int .i64 0, .string ⟨#[]⟩, .slice none 0 0] 79) := ⟨_, rfl⟩
  have hYb : Seal (Below w.heap.size w Y) := ⟨by rw [hY]; exact ((Below.refl _ w).alloc (Nat.le_refl _) _).alloc (by simp) _⟩
  have hYr : Seal (Y.rangeAt w.heap.size 0 (T.map B)) := ⟨rangeAt_row (by rw [hY]; exact heap_alloc2_old w _ _)⟩
  have hYz : Seal (Y.heap[w.heap.size + 1]? = some (.cells #[.int .i64 0, .int .i64 0, .string ⟨#[]⟩, .slice none 0 0] 79 (0, 0))) := ⟨by rw [hY]; exact heap_alloc2_new w _ _⟩
  have hYs : Seal (Y.heap.size = w.heap.size + 2) := ⟨by rw [hY, size_alloc, size_alloc]⟩
  have HT := Seal.mk hT
  clear hT
  go_enter Tryd.func96, Tryd.ntmps96
  go_upto_region 1 with (fail)
  rw [← hY]
  clear hY
  go_wp2
  go_loopw [3, 4] (fun s i wr => ∃ k g c : Nat, k ≤ 32 ∧ s = .slice (some ⟨g, 0, none⟩) k c ∧ i = .int .i64 k ∧ Seal (Stg Y wr g k c (T.take k))) (fun _ i _ => 32 - (intOf i).toNat)
  case atStart => exact ⟨0, Y.heap.size, 0, by omega, rfl, rfl, ⟨stg_new Y [] 0 rfl (by decide)⟩⟩
  case round =>
    obtain ⟨k, g, c, hk, rfl, rfl, hS⟩ := hrel
    by_cases hlt : k < 32
    · have cc : wr.cell? ⟨w.heap.size, k, none⟩ = some (.int .u8 ((T.getD k 0).toNat : Int)) := by
        have := cellB (rangeAt_below' hYr.out hS.out.bel) (i := k) (by rw [HT.out]; exact hlt)
        rwa [Nat.zero_add] at this
      have q1 : (k : Int) < 32 := by omega
      have q2 : (0 : Int) ≤ (k : Int) := by omega
      obtain ⟨b, hb⟩ : ∃ b, b = T.getD k 0 := ⟨_, rfl⟩
      rw [← hb] at cc
      have HTK : Seal (T.take (k + 1) = T.take k ++ [b]) := ⟨by
        rw [hb, List.take_succ_eq_append_getElem (by rw [HT.out]; exact hlt), List.getD_eq_getElem?_getD, List.getElem?_eq_getElem (by rw [HT.out]; exact hlt)]
        rfl⟩
      have hSa : Seal (Stg Y (wr.alloc (.cells #[.int .u8 (b.toNat : Int)] 5)) g k c (T.take k)) := ⟨hS.out.alloc _⟩
      have hI : Seal (IsB (wr.alloc (.cells #[.int .u8 (b.toNat : Int)] 5)) (some ⟨wr.heap.size, 0, none⟩) 1 1 [b]) := ⟨isB_new wr [b] 1 5 (0, 0) rfl (by decide)⟩
      clear hb
      go_wp2_with (at_builtin; refine wpList_append_st rfl (.tmp 10) (.tmp 14) rfl Y g k c (T.take k) (some ⟨wr.heap.size, 0, none⟩) 1 1 [b] rfl rfl hSa hI (by omega) ?_; intro g3 cap3 w3 hS3 _ _; clear hS hSa hI cc)
      go_roundw
      case rel => exact ⟨k + 1, g3, cap3, by omega, rfl, by go_num, ⟨by rw [HTK.out]; exact hS3.out⟩⟩
      case measure => simp [intOf]; omega
    · obtain rfl : k = 32 := by omega
      have hq : ¬ (((32 : Nat) : Int) < 32) := by omega
      rw [List.take_of_length_le (by rw [HT.out]; exact Nat.le_refl _)] at hS
      have hcv := IsB.conv (hS.out.isB (by decide))
      have RZ : Seal (wr.heap[w.heap.size + 1]? = some (.cells #[.int .i64 0, .int .i64 0, .string ⟨#[]⟩, .slice none 0 0] 79 (0, 0))) := ⟨(hS.out.bel.block _ (by rw [hYs.out]; omega)).trans hYz.out⟩
      have HB : Seal (Below w.heap.size w wr) := ⟨hYb.out.trans (hS.out.bel.mono hYb.out.size)⟩
      have i4 : (Tryd.prog.info? 79).map (·.size) = some (#[Value.int .i64 2, .int .i64 0, .string ⟨T.toArray⟩, .slice none 0 0]).size := by kernel_rfl
      have a4 : (#[Value.int .i64 2, .int .i64 0, .string ⟨T.toArray⟩, .slice none 0 0]).all (·.oneCell') = true := by simp [Value.oneCell']
      rw [show ((32 : Nat) : Int) = 32 from rfl]
      clear hS
      go_wp2_with (refine wpList_store_row rfl 79 (.tmp 2) (.tmp 18) rfl (w.heap.size + 1) #[.int .i64 2, .int .i64 0, .string ⟨T.toArray⟩, .slice none 0 0] rfl rfl 79 #[.int .i64 0, .int .i64 0, .string ⟨#[]⟩, .slice none 0 0] RZ.out i4 rfl a4 ?_)
      refine bodyPost_ret (results_cell_row (fn := Tryd.f96) rfl _ _ (w.heap.size + 1) 79 #[.int .i64 2, .int .i64 0, .string ⟨T.toArray⟩, .slice none 0 0] (0, 0) _ rfl (setRow_heap _ _ _ _ _ _ RZ.out) Tryd.underlying79 rfl i4) rfl ⟨rfl, below_row HB.out (Nat.le_add_right _ _) _⟩

set_option maxHeartbeats 1000000 in
theorem rtext37_any (T : Bytes) (v : Int) (w : World) (hT : T.length = 32) (v1 : -9223372036854775808 ≤ v) (v2 : v ≤ 9223372036854775807) :
    Calls Tryd.prog 44 #[.agg (T.map B).toArray, .int .i64 v] w (ListPost (stT T v) w) := by
  obtain ⟨TC, hTC⟩ : ∃ TC, TC = T.map B := ⟨_, rfl⟩
  have HC1 : Seal (∀ W, Calls Tryd.prog 96 #[.agg TC.toArray] W fun e w' => e = .returned (.agg #[.int .i64 2, .int .i64 0, .string ⟨T.toArray⟩, .slice none 0 0]) ∧ Below W.heap.size W w') := ⟨fun W => by rw [hTC]; exact rtext13_any T W hT⟩
  have IT : Seal ((Tryd.prog.info? 25).map (·.size) = some TC.toArray.size) := ⟨by rw [hTC, List.size_toArray]; exact dg_info T hT⟩
  have HT := Seal.mk hT
  have HV := Seal.mk (And.intro v1 v2)
  obtain ⟨X, hX⟩ : ∃ X : World, X = w.alloc (.cells TC.toArray 25) := ⟨_, rfl⟩
  have hXb : Seal (Below w.heap.size w X) := ⟨by rw [hX]; exact below_alloc _ _⟩
  have hXn : Seal (X.heap[w.heap.size]? = some (.cells TC.toArray 25 (0, 0))) := ⟨by rw [hX]; exact heap_alloc_new w _⟩
  rw [← hTC]
  clear hT hTC v1 v2
  go_enter Tryd.func44, Tryd.ntmps44
  go_upto_region 1 with (fail)
  rw [← hX]
  clear hX
  go_wp2_with (refine wpList_load_row rfl 25 (.tmp 2) rfl w.heap.size rfl 25 TC.toArray (0, 0) _ hXn.out Tryd.underlying25 rfl IT.out ?_)
  refine (HC1.out _).mono ?_
  rintro e w1 ⟨rfl, hb⟩
  have HB1 : Seal (Below w.heap.size w w1) := ⟨hXb.out.trans (hb.mono hXb.out.size)⟩
  clear hb
  go_wp2_with fail
  refine (rnumber13_any v w1).mono ?_
  rintro e w2 ⟨rfl, hb⟩
  have HB2 : Seal (Below w.heap.size w w2) := ⟨HB1.out.trans (hb.mono HB1.out.size)⟩
  clear hb
  have HL : Seal (LeavesAt (w2.alloc (.cells #[.int .i64 2, .int .i64 0, .string ⟨T.toArray⟩, .slice none 0 0, .int .i64 1, .int .i64 v, .string ByteArray.empty, .slice none 0 0] 79)) w2.heap.size 0 [.t T, .i v]) := ⟨leavesAt_new w2 [.t T, .i v] (0, 0) _⟩
  go_wp2_with fail
  refine (rlist13_any _ _ _ _).mono ?_
  rintro e w3 ⟨rfl, hb⟩
  have HL3 : Seal (LeavesAt w3 w2.heap.size 0 [.t T, .i v] ∧ w2.heap.size < w3.heap.size) := ⟨HL.out.below hb (by rw [size_alloc]; omega), by have := hb.size; rw [size_alloc] at this; omega⟩
  have HB3 : Seal (Below w.heap.size w w3) := ⟨(HB2.out.alloc HB2.out.size _).trans (hb.mono (by rw [size_alloc]; have := HB2.out.size; omega))⟩
  clear hb HL
  have HE : Seal _ := ⟨rencode_any w2.heap.size 0 2 2 [.t T, .i v] w3 rfl (Nat.le_refl _) (by simp [wgts, Lf.wgt, HT.out]) HL3.out.1 HL3.out.2 (fun y hy => by
    simp only [List.mem_cons, List.not_mem_nil, or_false] at hy
    rcases hy with rfl | rfl
    · show T.length < 2 ^ 63; rw [HT.out]; decide
    · exact HV.out)⟩
  go_wp2_with fail
  refine HE.out.mono ?_
  rintro e w4 ⟨g', n', c', rfl, hS⟩
  have hlen := stT_length (v := v) HT.out
  unfold stT at hlen
  have hIB := hS.out.isB (by rw [← hS.out.len]; omega)
  have HF : Seal ((encL [.t T, .i v]).length = n' ∧ n' ≤ c' ∧ c' ≤ 9223372036854775807 ∧ Below w.heap.size w w4) := ⟨hS.out.len, hIB.lcap, hIB.cmax, HB3.out.trans (hS.out.bel.mono HB3.out.size)⟩
  have HA : Seal (g' < w4.heap.size ∧ w4.rangeAt g' 0 ((encL [.t T, .i v]).map B)) := ⟨by
    rcases hIB.at_ with h0 | ⟨g0, o0, e, hr, hg⟩
    · exfalso
      have h1 := hS.out.len
      rw [h0] at h1
      simp [encL] at h1
    · cases e
      exact ⟨hg, hr⟩⟩
  clear HE hS hIB hlen
  go_wp2
  go_ret
  exact ⟨g', n', c', ⟨HF.out.1⟩, rfl, ⟨HF.out.2.1, HF.out.2.2.1, HA.out.1, HA.out.2, HF.out.2.2.2⟩⟩

theorem eqAt_u8s (d : Nat) : EqAt Tryd.prog (d + 1) 5 := run_equalIn_deep d 1 5 (by kernel_rfl)

theorem eqDig_s (dd : Nat) (a b : Bytes) (ha : a.length = 32) (hb : b.length = 32) (w : World) :
    (Op.equalIn (dd + 1 + 1) 25 (.agg (a.map B).toArray) (.agg (b.map B).toArray)).run Tryd.prog w = .ok (a == b) w := by
  obtain ⟨i0, hi, _⟩ := info_parts info_u8
  rw [run_equalIn_array w (dd + 1) _ _ Tryd.underlying25 hi]
  obtain ⟨r, hr, hiff⟩ := run_eqItems_deep w (dd + 1) (eqAt_u8s dd) (a.map B).toArray (b.map B).toArray (List.range 32) _ _ (lits_u8 a 32 ha) (lits_u8 b 32 hb)
  rw [hr]
  congr 1
  have key : (((List.range 32).map fun i => [Lit.int .u8 ((a.getD i 0).toNat : Int)]).flatten = ((List.range 32).map fun i => [Lit.int .u8 ((b.getD i 0).toNat : Int)]).flatten) ↔ a = b := by
    constructor
    · intro h
      apply bytes_ext (by rw [ha, hb])
      intro j hj
      have e : ∀ c : Bytes, ((List.range 32).map fun i => [Lit.int .u8 ((c.getD i 0).toNat : Int)]).flatten = (List.range 32).map fun i => Lit.int .u8 ((c.getD i 0).toNat : Int) := by
        intro c
        exact flatten_one _ _
      rw [e, e] at h
      have h2 := congrArg (·[j]?) h
      simp only [List.getElem?_map, List.getElem?_range (show j < 32 by omega), Option.map_some, Option.some.injEq, Lit.int.injEq, true_and] at h2
      exact UInt8.toNat_inj.1 (by omega)
    · intro h; rw [h]
  cases r with
  | true => exact (beq_iff_eq.2 (key.1 (hiff.1 rfl))).symm
  | false =>
    symm
    rw [beq_eq_false_iff_ne]
    intro e
    have := hiff.2 (key.2 e)
    cases this

theorem eqFields_s {P : Program} (d : Nat) (xs ys : Array Value) (f : Field) (fs : List Field) (w : World) (a b : Value) (r : Bool) (hn : f.name ≠ "_") (ha : (part f.type xs f.offset).run P w = .ok a w) (hb : (part f.type ys f.offset).run P w = .ok b w) (hr : (Op.equalIn d f.type a b).run P w = .ok r w) :
    (Op.eqFields d xs ys (f :: fs)).run P w = if r = true then (Op.eqFields d xs ys fs).run P w else .ok false w := by
  rw [Op.eqFields, if_pos hn]
  simp only [Sem.run_bind, ha, hb, hr, Result.andThen_ok]
  cases r <;> rfl

theorem eqInt_s (d : Nat) (a b : Int) (w : World) : (Op.equalIn (d + 1) 3 (.int .i64 a) (.int .i64 b)).run Tryd.prog w = .ok (a == b) w := by
  have u3 := Tryd.underlying3
  go_simp

set_option maxHeartbeats 1000000 in
theorem eqSig_at (d : Nat) (a b c e : Int) (w : World) : (Op.equalIn (d + 1 + 1) 67 (.agg #[.int .i64 a, .int .i64 b]) (.agg #[.int .i64 c, .int .i64 e])).run Tryd.prog w = .ok (a == c && b == e) w := by
  have u3 := Tryd.underlying3
  have a3 := Tryd.isAgg3
  have z3 := Tryd.sizeOf3
  have hS : Tryd.prog.underlying 67 = some (.struct (Tryd.prog.fieldsOf 67)) := by kernel_rfl
  have hp : Tryd.prog.stoodInHeld 67 = false := by kernel_rfl
  rw [run_equalIn_agg w (d + 1) 67 _ _ hS hp]
  simp only [Program.fieldsOf, Tryd.underlying67]
  go_simp
  by_cases h1 : a = c <;> by_cases h2 : b = e <;> simp [h1, h2]

theorem eqStamp_same (T : Bytes) (v E S : Int) (hT : T.length = 32) (w : World) :
    (Op.equalIn 10000 69 (.agg (stC T v E S).toArray) (.agg (stC T v E S).toArray)).run Tryd.prog w = .ok true w := by
  have a3 := Tryd.isAgg3
  have aC := Tryd.isAgg67
  have aD := Tryd.isAgg25
  have zC := Tryd.sizeOf67
  have zD := Tryd.sizeOf25
  have hS : Tryd.prog.underlying 69 = some (.struct (Tryd.prog.fieldsOf 69)) := by kernel_rfl
  have hp : Tryd.prog.stoodInHeld 69 = false := by kernel_rfl
  have hm : (T.map B).length = 32 := by rw [List.length_map, hT]
  have p0 : (part 25 (stC T v E S).toArray 0).run Tryd.prog w = .ok (.agg (T.map B).toArray) w := by
    simp [part, aD, zD, stC]
    rw [List.take_append_of_le_length (by simp [hT]), List.take_of_length_le (by simp [hT])]
  have p1 : (part 3 (stC T v E S).toArray 32).run Tryd.prog w = .ok (.int .i64 v) w := by
    have := (stC_head (v := v) (E := E) (S := S) hT).value
    simp [part, a3, this]
  have p2 : (part 67 (stC T v E S).toArray 33).run Tryd.prog w = .ok (.agg #[.int .i64 E, .int .i64 S]) w := by
    have e : (stC T v E S).drop 33 = [.int .i64 E, .int .i64 S] := by
      unfold stC
      rw [List.drop_append, List.drop_of_length_le (by rw [hm]; decide), hm]
      rfl
    simp [part, aC, zC, e]
  rw [show (10000 : Nat) = 9999 + 1 from rfl, run_equalIn_agg w 9999 69 _ _ hS hp]
  simp only [Program.fieldsOf, Tryd.underlying69]
  rw [eqFields_s _ _ _ _ _ _ _ _ _ (by decide) p0 p0 (eqDig_s 9997 T T hT hT w),
    eqFields_s _ _ _ _ _ _ _ _ _ (by decide) p1 p1 (eqInt_s 9998 v v w),
    eqFields_s _ _ _ _ _ _ _ _ _ (by decide) p2 p2 (eqSig_at 9997 E S E S w)]
  have he : (Op.eqFields 9999 (stC T v E S).toArray (stC T v E S).toArray []).run Tryd.prog w = .ok true w := by rw [Op.eqFields]; rfl
  rw [he]
  simp

set_option maxHeartbeats 32000000 in
theorem stamps_unseen (a b cc m n u v x y z val1 val2 key r c s p q E2 S2 : Int) (T U : Bytes) (w : World) (hG : Glob w) (hT : T.length = 32) (hU : U.length = 32) (v2 : -9223372036854775808 ≤ val2 ∧ val2 ≤ 9223372036854775807)
    (Hs1 : Seal (∀ W, Calls Tryd.prog 35 #[.int .u32 a] W fun e w' => e = .returned (.int .i64 x) ∧ W = w'))
    (Hs2 : Seal (∀ W, Calls Tryd.prog 35 #[.int .u32 b] W fun e w' => e = .returned (.int .i64 y) ∧ W = w'))
    (Hs3 : Seal (∀ W, Calls Tryd.prog 35 #[.int .u32 cc] W fun e w' => e = .returned (.int .i64 z) ∧ W = w'))
    (Hv1 : Seal (∀ W, Calls Tryd.prog 37 #[.int .i64 m] W fun e w' => e = .returned (.int .i64 val1) ∧ W = w'))
    (Hv2 : Seal (∀ W, Calls Tryd.prog 37 #[.int .i64 n] W fun e w' => e = .returned (.int .i64 val2) ∧ W = w'))
    (Hp : Seal (∀ W, Calls Tryd.prog 28 #[.int .i64 x] W fun e w' => e = .returned (.tuple #[.int .i64 key, .int .i64 0]) ∧ Below W.heap.size W w'))
    (TC UC F1 F2 : List Value) (hTC : TC = T.map B) (hUC : UC = U.map B)
    (IF1 : Seal ((Tryd.prog.info? 69).map (·.size) = some F1.toArray.size)) (SF1 : Seal ((List.toArray (.int .u8 0 :: .int .u8 0 :: .int .u8 0 :: .int .u8 0 :: .int .u8 0 :: .int .u8 0 :: .int .u8 0 :: .int .u8 0 :: .int .u8 0 :: .int .u8 0 :: .int .u8 0 :: .int .u8 0 :: .int .u8 0 :: .int .u8 0 :: .int .u8 0 :: .int .u8 0 :: .int .u8 0 :: .int .u8 0 :: .int .u8 0 :: .int .u8 0 :: .int .u8 0 :: .int .u8 0 :: .int .u8 0 :: .int .u8 0 :: .int .u8 0 :: .int .u8 0 :: .int .u8 0 :: .int .u8 0 :: .int .u8 0 :: .int .u8 0 :: .int .u8 0 :: .int .u8 0 :: .int .i64 0 :: .int .i64 0 :: .int .i64 0 :: [] : List Value) : Array Value).size = F1.toArray.size)) (AF1 : Seal (F1.toArray.all (·.oneCell') = true))
    (hF2 : F2 = stC U val2 E2 S2) (r1 c1 s1 : Int)
    (Hi1 : Seal (∀ W, Glob W → Calls Tryd.prog 36 #[.int .i64 x, .int .i64 y, .agg TC.toArray, .int .i64 val1, .int .i64 u, .int .i64 v] W fun e w' => e = .returned (.tuple #[.agg F1.toArray, .int .i64 r, .int .i64 c, .int .i64 s, .bool true]) ∧ Below W.heap.size W w'))
    (Hi2 : Seal (∀ W, Glob W → Calls Tryd.prog 36 #[.int .i64 x, .int .i64 z, .agg UC.toArray, .int .i64 val2, .int .i64 v, .int .i64 u] W fun e w' => e = .returned (.tuple #[.agg F2.toArray, .int .i64 r1, .int .i64 c1, .int .i64 s1, .bool true]) ∧ Below W.heap.size W w'))
    (Hlk : Seal (∀ W a len cap, Glob W → IsB W a len cap (stT U val2) → len ≤ 1099511627776 → Calls Tryd.prog 43 #[.int .i64 key, .int .i64 r, .int .i64 c, .int .i64 s, .slice a len cap, .agg #[.int .i64 E2, .int .i64 S2]] W fun e w' => e = .returned (.tuple #[.int .i64 p, .int .i64 q, .bool true]) ∧ Below W.heap.size W w'))
    (Hak : Seal (∀ W, Glob W → Calls Tryd.prog 45 #[.int .i64 key, .int .i64 r, .agg UC.toArray, .int .i64 val2, .int .i64 p, .int .i64 q] W fun e w' => e = .returned (.tuple #[.int .i64 c, .int .i64 0]) ∧ Below W.heap.size W w'))
    (Htk : Seal (∀ W, Glob W → Calls Tryd.prog 46 #[.int .i64 key, .int .i64 r, .agg UC.toArray, .int .i64 val2, .int .i64 p, .int .i64 q, .int .i64 s] W fun e w' => e = .returned (.tuple #[.agg F2.toArray, .int .i64 0]) ∧ Below W.heap.size W w')) :
    Calls Tryd.prog 11 #[.int .u32 a, .int .u32 b, .int .u32 cc, .agg TC.toArray, .agg UC.toArray, .int .i64 m, .int .i64 n, .int .i64 u, .int .i64 v] w fun e w' => e = .returned (.bool true) ∧ Below w.heap.size w w' := by
  have iD : (Tryd.prog.info? 25).map (·.size) = some TC.length := by rw [hTC]; exact dg_info T hT
  have iU : (Tryd.prog.info? 25).map (·.size) = some UC.length := by rw [hUC]; exact dg_info U hU
  have uD := Tryd.underlying25
  have IF2 : Seal ((Tryd.prog.info? 69).map (·.size) = some F2.toArray.size) := ⟨by rw [hF2, List.size_toArray]; exact stC_info hU⟩
  have SF2 : Seal ((List.toArray (.int .u8 0 :: .int .u8 0 :: .int .u8 0 :: .int .u8 0 :: .int .u8 0 :: .int .u8 0 :: .int .u8 0 :: .int .u8 0 :: .int .u8 0 :: .int .u8 0 :: .int .u8 0 :: .int .u8 0 :: .int .u8 0 :: .int .u8 0 :: .int .u8 0 :: .int .u8 0 :: .int .u8 0 :: .int .u8 0 :: .int .u8 0 :: .int .u8 0 :: .int .u8 0 :: .int .u8 0 :: .int .u8 0 :: .int .u8 0 :: .int .u8 0 :: .int .u8 0 :: .int .u8 0 :: .int .u8 0 :: .int .u8 0 :: .int .u8 0 :: .int .u8 0 :: .int .u8 0 :: .int .i64 0 :: .int .i64 0 :: .int .i64 0 :: [] : List Value) : Array Value).size = F2.toArray.size) := ⟨by show 35 = F2.toArray.size; rw [hF2, List.size_toArray, stC_len hU]⟩
  have AF2 : Seal (F2.toArray.all (·.oneCell') = true) := ⟨by rw [hF2]; exact all_oneCell_toArray (stC_one _ _ _ _)⟩
  have HH : Seal (F2.drop 33 = [.int .i64 E2, .int .i64 S2]) := ⟨by
    rw [hF2]
    unfold stC
    rw [List.drop_append, List.drop_of_length_le (by rw [List.length_map, hU]; decide), List.length_map, hU]
    rfl⟩
  have HEQ : Seal (∀ W, (Op.equalIn 10000 69 (.agg F2.toArray) (.agg F2.toArray)).run Tryd.prog W = .ok true W) := ⟨fun W => by rw [hF2]; exact eqStamp_same U val2 E2 S2 hU W⟩
  have HUl : Seal (UC.length = 32) := ⟨by rw [hUC, List.length_map, hU]⟩
  have HGw := Seal.mk hG
  have HTx : Seal (∀ W, Calls Tryd.prog 44 #[.agg UC.toArray, .int .i64 val2] W (ListPost (stT U val2) W)) := ⟨fun W => by rw [hUC]; exact rtext37_any U val2 W hU v2.1 v2.2⟩
  have HSL : Seal ((stT U val2).length ≤ 65) := ⟨stT_length hU⟩
  have HE0 : Seal (Env ((w.alloc (.cells TC.toArray 25)).alloc (.cells UC.toArray 25)) none 0 0 [] [(w.heap.size + 1, .cells UC.toArray 25), (w.heap.size, .cells TC.toArray 25)]) := ⟨by
    have h := Env.push (Env.push (bs := []) ⟨hG, isB_nil w, by intro p hp; cases hp⟩ (.cells TC.toArray 25)) (.cells UC.toArray 25)
    simp only [size_alloc] at h
    exact h⟩
  have HB0 : Seal (Below w.heap.size w ((w.alloc (.cells TC.toArray 25)).alloc (.cells UC.toArray 25))) := ⟨((Below.refl _ w).alloc (Nat.le_refl _) _).alloc (by simp) _⟩
  clear hG hT hU hTC hUC hF2 v2
  go_enter Tryd.func11, Tryd.ntmps11
  go_wp2_with fail
  refine (ssane_any _ HE0.out.glob).mono ?_
  rintro e w1 ⟨rfl, hb⟩
  have HE1 := Seal.mk (HE0.out.below hb)
  have HB1 := Seal.mk (HB0.out.trans (hb.mono HB0.out.size))
  clear hb HE0 HB0
  go_wp2_with fail
  refine (Hs1.out _).mono ?_
  rintro e w' ⟨rfl, rfl⟩
  go_wp2_with fail
  refine (Hp.out _).mono ?_
  rintro e w3 ⟨rfl, hb⟩
  have HE3 := Seal.mk (HE1.out.below hb)
  have HB3 := Seal.mk (HB1.out.trans (hb.mono HB1.out.size))
  clear hb HE1 HB1 Hp
  go_wp2_with fail
  have rT0' := HE3.out.keep (w.heap.size, .cells TC.toArray 25) (by simp)
  have rU0' := HE3.out.keep (w.heap.size + 1, .cells UC.toArray 25) (by simp)
  apply wp_cut (R := fun g W => Seal (W.heap[w.heap.size + 1]? = some (.cells UC.toArray 25 (0, 0)) ∧ Below w.heap.size w W))
  · have rT' : w3.rangeAt w.heap.size 0 TC := rangeAt_row rT0'
    refine wp_region_held_drew (S := fun w' => w'.rangeAt w.heap.size 0 TC) (by kernel_rfl) rT' (fun hHeld => ?_)
    obtain ⟨V, hV⟩ : ∃ V, V = w3.drew := ⟨_, rfl⟩
    have rT : V.rangeAt w.heap.size 0 TC := by rw [hV]; exact rT'
    have rU0 : V.heap[w.heap.size + 1]? = some (.cells UC.toArray 25 (0, 0)) := by rw [hV]; exact rU0'
    have hHV2 : w.heap.size + 1 < V.heap.size := (Array.getElem?_eq_some_iff.1 rU0).1
    have HV : Seal (Below w.heap.size w V) := ⟨by rw [hV]; exact HB3.out.trans ((below_drewn w3).mono HB3.out.size)⟩
    have HG : Seal (Glob V) := ⟨HGw.out.below HV.out⟩
    have hHV : w.heap.size ≤ V.heap.size := HV.out.size
    rw [← hV] at hHeld ⊢
    clear hV rT'
    obtain ⟨gA, hgA⟩ : ∃ g, V.heap.size = g := ⟨_, rfl⟩
    refine take_h 0 ?_ rfl (by kernel_rfl) (by kernel_rfl) (by kernel_rfl) (fun _ _ _ h => h) (Or.inl ⟨by kernel_rfl, ?_⟩) (by assumption) ?_
    rotate_left
    · (intro w hSw; (try dsimp only at hSw); go_simp; try (with_reducible rfl))
    try simp only [Act.put, List.setIfInBounds_toArray, List.set_cons_zero, List.set_cons_succ]
    refine take_h 2 ?_ rfl (by kernel_rfl) (by kernel_rfl) (by kernel_rfl) (fun _ _ _ h => h) (Or.inl ⟨by kernel_rfl, ?_⟩) (by assumption) ?_
    rotate_left
    · (intro w hSw; (try dsimp only at hSw); go_simp; try (with_reducible rfl))
    try simp only [Act.put, List.setIfInBounds_toArray, List.set_cons_zero, List.set_cons_succ]
    refine take_h 5 ?_ rfl (by kernel_rfl) (by kernel_rfl) (by kernel_rfl) (fun _ _ _ h => h) (Or.inl ⟨by kernel_rfl, ?_⟩) (by assumption) ?_
    rotate_left
    · (intro w hSw; (try dsimp only at hSw); go_simp; try (with_reducible rfl))
    try simp only [Act.put, List.setIfInBounds_toArray, List.set_cons_zero, List.set_cons_succ]
    refine take_h 7 ?_ rfl (by kernel_rfl) (by kernel_rfl) (by kernel_rfl) (fun _ _ _ h => h) (Or.inl ⟨by kernel_rfl, ?_⟩) (by assumption) ?_
    rotate_left
    · (intro w hSw; (try dsimp only at hSw); go_simp; try (with_reducible rfl))
    try simp only [Act.put, List.setIfInBounds_toArray, List.set_cons_zero, List.set_cons_succ]
    refine take_h 8 ?_ rfl (by kernel_rfl) (by kernel_rfl) (by kernel_rfl) (fun _ _ _ h => h) (Or.inl ⟨by kernel_rfl, ?_⟩) (by assumption) ?_
    rotate_left
    · (intro w hSw; (try dsimp only at hSw); go_simp; try (with_reducible rfl))
    try simp only [Act.put, List.setIfInBounds_toArray, List.set_cons_zero, List.set_cons_succ]
    refine take_h 4 _ rfl (by kernel_rfl) (by kernel_rfl) (by kernel_rfl) (fun _ _ _ h => h) (yieldsIf_load_mid (by kernel_rfl) 25 (.tmp 12) rfl w.heap.size 0 rfl TC _ (fun w hSw => hSw) uD rfl iD) (by assumption) ?_
    try simp only [Act.put, List.setIfInBounds_toArray, List.set_cons_zero, List.set_cons_succ]
    refine wpAnyH_ready (rs := [1, 16]) (by kernel_rfl) (by simp) (call_b 1 rfl 35 #[.int .u32 a] (by kernel_rfl) (by go_simp) ?_ (oper_b 16 (.pointer (some ⟨gA, 0, none⟩)) (V.alloc (.cells (List.toArray (.int .u8 0 :: .int .u8 0 :: .int .u8 0 :: .int .u8 0 :: .int .u8 0 :: .int .u8 0 :: .int .u8 0 :: .int .u8 0 :: .int .u8 0 :: .int .u8 0 :: .int .u8 0 :: .int .u8 0 :: .int .u8 0 :: .int .u8 0 :: .int .u8 0 :: .int .u8 0 :: .int .u8 0 :: .int .u8 0 :: .int .u8 0 :: .int .u8 0 :: .int .u8 0 :: .int .u8 0 :: .int .u8 0 :: .int .u8 0 :: .int .u8 0 :: .int .u8 0 :: .int .u8 0 :: .int .u8 0 :: .int .u8 0 :: .int .u8 0 :: .int .u8 0 :: .int .u8 0 :: .int .i64 0 :: .int .i64 0 :: .int .i64 0 :: [] : List Value) : Array Value) 69)) rfl (by kernel_rfl) (by rw [← hgA]; go_simp) (World.rangeAt_alloc rT _) (fun hHeld2 => ?_) AllReadyH.nil))
    · skip
      refine (Hs1.out _).mono ?_
      rintro e w' ⟨rfl, rfl⟩
      refine ⟨_, rfl, by assumption, fun _ => ?_⟩
      try simp only [Act.put, List.setIfInBounds_toArray, List.set_cons_zero, List.set_cons_succ]
      refine wpAnyH_ready (rs := [3, 16]) (by kernel_rfl) (by simp) (call_b 3 rfl 35 #[.int .u32 b] (by kernel_rfl) (by go_simp) ?_ (oper_b 16 (.pointer (some ⟨gA, 0, none⟩)) (V.alloc (.cells (List.toArray (.int .u8 0 :: .int .u8 0 :: .int .u8 0 :: .int .u8 0 :: .int .u8 0 :: .int .u8 0 :: .int .u8 0 :: .int .u8 0 :: .int .u8 0 :: .int .u8 0 :: .int .u8 0 :: .int .u8 0 :: .int .u8 0 :: .int .u8 0 :: .int .u8 0 :: .int .u8 0 :: .int .u8 0 :: .int .u8 0 :: .int .u8 0 :: .int .u8 0 :: .int .u8 0 :: .int .u8 0 :: .int .u8 0 :: .int .u8 0 :: .int .u8 0 :: .int .u8 0 :: .int .u8 0 :: .int .u8 0 :: .int .u8 0 :: .int .u8 0 :: .int .u8 0 :: .int .u8 0 :: .int .i64 0 :: .int .i64 0 :: .int .i64 0 :: [] : List Value) : Array Value) 69)) rfl (by kernel_rfl) (by rw [← hgA]; go_simp) (World.rangeAt_alloc rT _) (fun hHeld2 => ?_) AllReadyH.nil))
      · skip
        refine (Hs2.out _).mono ?_
        rintro e w' ⟨rfl, rfl⟩
        refine ⟨_, rfl, by assumption, fun _ => ?_⟩
        try simp only [Act.put, List.setIfInBounds_toArray, List.set_cons_zero, List.set_cons_succ]
        refine wpAnyH_ready (rs := [6, 16]) (by kernel_rfl) (by simp) (call_b 6 rfl 37 #[.int .i64 m] (by kernel_rfl) (by go_simp) ?_ (oper_b 16 (.pointer (some ⟨gA, 0, none⟩)) (V.alloc (.cells (List.toArray (.int .u8 0 :: .int .u8 0 :: .int .u8 0 :: .int .u8 0 :: .int .u8 0 :: .int .u8 0 :: .int .u8 0 :: .int .u8 0 :: .int .u8 0 :: .int .u8 0 :: .int .u8 0 :: .int .u8 0 :: .int .u8 0 :: .int .u8 0 :: .int .u8 0 :: .int .u8 0 :: .int .u8 0 :: .int .u8 0 :: .int .u8 0 :: .int .u8 0 :: .int .u8 0 :: .int .u8 0 :: .int .u8 0 :: .int .u8 0 :: .int .u8 0 :: .int .u8 0 :: .int .u8 0 :: .int .u8 0 :: .int .u8 0 :: .int .u8 0 :: .int .u8 0 :: .int .u8 0 :: .int .i64 0 :: .int .i64 0 :: .int .i64 0 :: [] : List Value) : Array Value) 69)) rfl (by kernel_rfl) (by rw [← hgA]; go_simp) (World.rangeAt_alloc rT _) (fun hHeld2 => ?_) AllReadyH.nil))
        · skip
          refine (Hv1.out _).mono ?_
          rintro e w' ⟨rfl, rfl⟩
          refine ⟨_, rfl, by assumption, fun _ => ?_⟩
          try simp only [Act.put, List.setIfInBounds_toArray, List.set_cons_zero, List.set_cons_succ]
          refine wpAnyH_ready (rs := [9, 16]) (by kernel_rfl) (by simp) (call_b 9 rfl 36 #[.int .i64 x, .int .i64 y, .agg TC.toArray, .int .i64 val1, .int .i64 u, .int .i64 v] (by kernel_rfl) (by go_simp) ?_ (oper_b 16 (.pointer (some ⟨gA, 0, none⟩)) (V.alloc (.cells (List.toArray (.int .u8 0 :: .int .u8 0 :: .int .u8 0 :: .int .u8 0 :: .int .u8 0 :: .int .u8 0 :: .int .u8 0 :: .int .u8 0 :: .int .u8 0 :: .int .u8 0 :: .int .u8 0 :: .int .u8 0 :: .int .u8 0 :: .int .u8 0 :: .int .u8 0 :: .int .u8 0 :: .int .u8 0 :: .int .u8 0 :: .int .u8 0 :: .int .u8 0 :: .int .u8 0 :: .int .u8 0 :: .int .u8 0 :: .int .u8 0 :: .int .u8 0 :: .int .u8 0 :: .int .u8 0 :: .int .u8 0 :: .int .u8 0 :: .int .u8 0 :: .int .u8 0 :: .int .u8 0 :: .int .i64 0 :: .int .i64 0 :: .int .i64 0 :: [] : List Value) : Array Value) 69)) rfl (by kernel_rfl) (by rw [← hgA]; go_simp) (World.rangeAt_alloc rT _) (fun hHeld2 => ?_) AllReadyH.nil))
          · skip
            refine (Hi1.out _ HG.out).mono ?_
            rintro e w5 ⟨rfl, hb5⟩
            refine ⟨_, rfl, rangeAt_below' rT hb5, fun hHeld5 => ?_⟩
            try simp only [Act.put, List.setIfInBounds_toArray, List.set_cons_zero, List.set_cons_succ]
            refine take_h 10 ?_ rfl (by kernel_rfl) (by kernel_rfl) (by kernel_rfl) (fun _ _ _ h => h) (Or.inl ⟨by kernel_rfl, ?_⟩) (by assumption) ?_
            rotate_left
            · (intro w hSw; (try dsimp only at hSw); go_simp; try (with_reducible rfl))
            try simp only [Act.put, List.setIfInBounds_toArray, List.set_cons_zero, List.set_cons_succ]
            refine take_h 11 ?_ rfl (by kernel_rfl) (by kernel_rfl) (by kernel_rfl) (fun _ _ _ h => h) (Or.inl ⟨by kernel_rfl, ?_⟩) (by assumption) ?_
            rotate_left
            · (intro w hSw; (try dsimp only at hSw); go_simp; try (with_reducible rfl))
            try simp only [Act.put, List.setIfInBounds_toArray, List.set_cons_zero, List.set_cons_succ]
            refine take_h 12 ?_ rfl (by kernel_rfl) (by kernel_rfl) (by kernel_rfl) (fun _ _ _ h => h) (Or.inl ⟨by kernel_rfl, ?_⟩) (by assumption) ?_
            rotate_left
            · (intro w hSw; (try dsimp only at hSw); go_simp; try (with_reducible rfl))
            try simp only [Act.put, List.setIfInBounds_toArray, List.set_cons_zero, List.set_cons_succ]
            refine take_h 13 ?_ rfl (by kernel_rfl) (by kernel_rfl) (by kernel_rfl) (fun _ _ _ h => h) (Or.inl ⟨by kernel_rfl, ?_⟩) (by assumption) ?_
            rotate_left
            · (intro w hSw; (try dsimp only at hSw); go_simp; try (with_reducible rfl))
            try simp only [Act.put, List.setIfInBounds_toArray, List.set_cons_zero, List.set_cons_succ]
            refine take_h 14 ?_ rfl (by kernel_rfl) (by kernel_rfl) (by kernel_rfl) (fun _ _ _ h => h) (Or.inl ⟨by kernel_rfl, ?_⟩) (by assumption) ?_
            rotate_left
            · (intro w hSw; (try dsimp only at hSw); go_simp; try (with_reducible rfl))
            try simp only [Act.put, List.setIfInBounds_toArray, List.set_cons_zero, List.set_cons_succ]
            refine take_h 15 ?_ rfl (by kernel_rfl) (by kernel_rfl) (by kernel_rfl) (fun _ _ _ h => h) (Or.inl ⟨by kernel_rfl, ?_⟩) (by assumption) ?_
            rotate_left
            · (intro w hSw; (try dsimp only at hSw); go_simp; try (with_reducible rfl))
            try simp only [Act.put, List.setIfInBounds_toArray, List.set_cons_zero, List.set_cons_succ]
            obtain ⟨gB, hgB⟩ : ∃ g, w5.heap.size = g := ⟨_, rfl⟩
            refine oper_h 16 (.pointer (some ⟨gB, 0, none⟩)) (w5.alloc (.cells (List.toArray (.int .u8 0 :: .int .u8 0 :: .int .u8 0 :: .int .u8 0 :: .int .u8 0 :: .int .u8 0 :: .int .u8 0 :: .int .u8 0 :: .int .u8 0 :: .int .u8 0 :: .int .u8 0 :: .int .u8 0 :: .int .u8 0 :: .int .u8 0 :: .int .u8 0 :: .int .u8 0 :: .int .u8 0 :: .int .u8 0 :: .int .u8 0 :: .int .u8 0 :: .int .u8 0 :: .int .u8 0 :: .int .u8 0 :: .int .u8 0 :: .int .u8 0 :: .int .u8 0 :: .int .u8 0 :: .int .u8 0 :: .int .u8 0 :: .int .u8 0 :: .int .u8 0 :: .int .u8 0 :: .int .i64 0 :: .int .i64 0 :: .int .i64 0 :: [] : List Value) : Array Value) 69)) rfl (by kernel_rfl) (by kernel_rfl) (by rw [← hgB]; go_simp) (World.rangeAt_alloc hHeld5 _) (fun hHeld6 => ?_)
            clear hHeld5
            try simp only [Act.put, List.setIfInBounds_toArray, List.set_cons_zero, List.set_cons_succ]
            refine skip_h 17 ((w5.alloc (.cells (List.toArray (.int .u8 0 :: .int .u8 0 :: .int .u8 0 :: .int .u8 0 :: .int .u8 0 :: .int .u8 0 :: .int .u8 0 :: .int .u8 0 :: .int .u8 0 :: .int .u8 0 :: .int .u8 0 :: .int .u8 0 :: .int .u8 0 :: .int .u8 0 :: .int .u8 0 :: .int .u8 0 :: .int .u8 0 :: .int .u8 0 :: .int .u8 0 :: .int .u8 0 :: .int .u8 0 :: .int .u8 0 :: .int .u8 0 :: .int .u8 0 :: .int .u8 0 :: .int .u8 0 :: .int .u8 0 :: .int .u8 0 :: .int .u8 0 :: .int .u8 0 :: .int .u8 0 :: .int .u8 0 :: .int .i64 0 :: .int .i64 0 :: .int .i64 0 :: [] : List Value) : Array Value) 69)).setRow gB F1.toArray) rfl (by kernel_rfl) (by kernel_rfl) (exec_store_row 69 (.tmp 21) (.tmp 57) rfl gB F1.toArray rfl rfl 69 (List.toArray (.int .u8 0 :: .int .u8 0 :: .int .u8 0 :: .int .u8 0 :: .int .u8 0 :: .int .u8 0 :: .int .u8 0 :: .int .u8 0 :: .int .u8 0 :: .int .u8 0 :: .int .u8 0 :: .int .u8 0 :: .int .u8 0 :: .int .u8 0 :: .int .u8 0 :: .int .u8 0 :: .int .u8 0 :: .int .u8 0 :: .int .u8 0 :: .int .u8 0 :: .int .u8 0 :: .int .u8 0 :: .int .u8 0 :: .int .u8 0 :: .int .u8 0 :: .int .u8 0 :: .int .u8 0 :: .int .u8 0 :: .int .u8 0 :: .int .u8 0 :: .int .u8 0 :: .int .u8 0 :: .int .i64 0 :: .int .i64 0 :: .int .i64 0 :: [] : List Value) : Array Value) (by rw [← hgB]; exact heap_alloc_new w5 _) IF1.out SF1.out AF1.out) (rangeAt_setRow hHeld6 (by have := hb5.size; omega)) (fun hHeld7 => ?_)
            clear hHeld6
            try simp only [Act.put]
            refine take_h 18 ?_ rfl (by kernel_rfl) (by kernel_rfl) (by kernel_rfl) (fun _ _ _ h => h) (Or.inl ⟨by kernel_rfl, ?_⟩) (by assumption) ?_
            rotate_left
            · (intro w hSw; (try dsimp only at hSw); go_simp; try (with_reducible rfl))
            try simp only [Act.put, List.setIfInBounds_toArray, List.set_cons_zero, List.set_cons_succ]
            refine take_h 19 ?_ rfl (by kernel_rfl) (by kernel_rfl) (by kernel_rfl) (fun _ _ _ h => h) (Or.inl ⟨by kernel_rfl, ?_⟩) (by assumption) ?_
            rotate_left
            · (intro w hSw; (try dsimp only at hSw); go_simp; try (with_reducible rfl))
            try simp only [Act.put, List.setIfInBounds_toArray, List.set_cons_zero, List.set_cons_succ]
            refine take_h 20 ?_ rfl (by kernel_rfl) (by kernel_rfl) (by kernel_rfl) (fun _ _ _ h => h) (Or.inl ⟨by kernel_rfl, ?_⟩) (by assumption) ?_
            rotate_left
            · (intro w hSw; (try dsimp only at hSw); go_simp; try (with_reducible rfl))
            try simp only [Act.put, List.setIfInBounds_toArray, List.set_cons_zero, List.set_cons_succ]
            refine take_h 21 ?_ rfl (by kernel_rfl) (by kernel_rfl) (by kernel_rfl) (fun _ _ _ h => h) (Or.inl ⟨by kernel_rfl, ?_⟩) (by assumption) ?_
            rotate_left
            · (intro w hSw; (try dsimp only at hSw); go_simp; try (with_reducible rfl))
            try simp only [Act.put, List.setIfInBounds_toArray, List.set_cons_zero, List.set_cons_succ]
            refine wpAnyH_done (by kernel_rfl) ?_ _
            have hz := hb5.size
            exact ⟨gB, rfl, ⟨(setRow_other _ gB (w.heap.size + 1) _ (by omega)).trans ((Below.heap_alloc w5 _ _ (by omega)).trans (blk hb5 hHV2 rU0)), below_row ((HV.out.trans (hb5.mono HV.out.size)).alloc (by have := HV.out.size; omega) _) (by have := HV.out.size; omega) _⟩⟩
          · try simp only [Act.put, List.setIfInBounds_toArray, List.set_cons_zero, List.set_cons_succ]
            refine call_h 9 rfl (by kernel_rfl) 36 #[.int .i64 x, .int .i64 y, .agg TC.toArray, .int .i64 val1, .int .i64 u, .int .i64 v] (by kernel_rfl) (by go_simp) ?_
            refine (Hi1.out _ (HG.out.below (below_alloc V _))).mono ?_
            rintro e w5 ⟨rfl, hb5⟩
            have hb6 : Below V.heap.size V w5 := (below_alloc V _).trans (hb5.mono (by rw [size_alloc]; omega))
            have rz5 : w5.heap[gA]? = some (.cells (List.toArray (.int .u8 0 :: .int .u8 0 :: .int .u8 0 :: .int .u8 0 :: .int .u8 0 :: .int .u8 0 :: .int .u8 0 :: .int .u8 0 :: .int .u8 0 :: .int .u8 0 :: .int .u8 0 :: .int .u8 0 :: .int .u8 0 :: .int .u8 0 :: .int .u8 0 :: .int .u8 0 :: .int .u8 0 :: .int .u8 0 :: .int .u8 0 :: .int .u8 0 :: .int .u8 0 :: .int .u8 0 :: .int .u8 0 :: .int .u8 0 :: .int .u8 0 :: .int .u8 0 :: .int .u8 0 :: .int .u8 0 :: .int .u8 0 :: .int .u8 0 :: .int .u8 0 :: .int .u8 0 :: .int .i64 0 :: .int .i64 0 :: .int .i64 0 :: [] : List Value) : Array Value) 69 (0, 0)) := by rw [← hgA]; exact (hb5.block _ (by rw [size_alloc]; omega)).trans (heap_alloc_new V _)
            refine ⟨_, rfl, rangeAt_below' rT hb6, fun hHeld5 => ?_⟩
            try simp only [Act.put, List.setIfInBounds_toArray, List.set_cons_zero, List.set_cons_succ]
            refine take_h 10 ?_ rfl (by kernel_rfl) (by kernel_rfl) (by kernel_rfl) (fun _ _ _ h => h) (Or.inl ⟨by kernel_rfl, ?_⟩) (by assumption) ?_
            rotate_left
            · (intro w hSw; (try dsimp only at hSw); go_simp; try (with_reducible rfl))
            try simp only [Act.put, List.setIfInBounds_toArray, List.set_cons_zero, List.set_cons_succ]
            refine take_h 11 ?_ rfl (by kernel_rfl) (by kernel_rfl) (by kernel_rfl) (fun _ _ _ h => h) (Or.inl ⟨by kernel_rfl, ?_⟩) (by assumption) ?_
            rotate_left
            · (intro w hSw; (try dsimp only at hSw); go_simp; try (with_reducible rfl))
            try simp only [Act.put, List.setIfInBounds_toArray, List.set_cons_zero, List.set_cons_succ]
            refine take_h 12 ?_ rfl (by kernel_rfl) (by kernel_rfl) (by kernel_rfl) (fun _ _ _ h => h) (Or.inl ⟨by kernel_rfl, ?_⟩) (by assumption) ?_
            rotate_left
            · (intro w hSw; (try dsimp only at hSw); go_simp; try (with_reducible rfl))
            try simp only [Act.put, List.setIfInBounds_toArray, List.set_cons_zero, List.set_cons_succ]
            refine take_h 13 ?_ rfl (by kernel_rfl) (by kernel_rfl) (by kernel_rfl) (fun _ _ _ h => h) (Or.inl ⟨by kernel_rfl, ?_⟩) (by assumption) ?_
            rotate_left
            · (intro w hSw; (try dsimp only at hSw); go_simp; try (with_reducible rfl))
            try simp only [Act.put, List.setIfInBounds_toArray, List.set_cons_zero, List.set_cons_succ]
            refine take_h 14 ?_ rfl (by kernel_rfl) (by kernel_rfl) (by kernel_rfl) (fun _ _ _ h => h) (Or.inl ⟨by kernel_rfl, ?_⟩) (by assumption) ?_
            rotate_left
            · (intro w hSw; (try dsimp only at hSw); go_simp; try (with_reducible rfl))
            try simp only [Act.put, List.setIfInBounds_toArray, List.set_cons_zero, List.set_cons_succ]
            refine take_h 15 ?_ rfl (by kernel_rfl) (by kernel_rfl) (by kernel_rfl) (fun _ _ _ h => h) (Or.inl ⟨by kernel_rfl, ?_⟩) (by assumption) ?_
            rotate_left
            · (intro w hSw; (try dsimp only at hSw); go_simp; try (with_reducible rfl))
            try simp only [Act.put, List.setIfInBounds_toArray, List.set_cons_zero, List.set_cons_succ]
            refine skip_h 17 (w5.setRow gA F1.toArray) rfl (by kernel_rfl) (by kernel_rfl) (exec_store_row 69 (.tmp 21) (.tmp 57) rfl gA F1.toArray rfl rfl 69 (List.toArray (.int .u8 0 :: .int .u8 0 :: .int .u8 0 :: .int .u8 0 :: .int .u8 0 :: .int .u8 0 :: .int .u8 0 :: .int .u8 0 :: .int .u8 0 :: .int .u8 0 :: .int .u8 0 :: .int .u8 0 :: .int .u8 0 :: .int .u8 0 :: .int .u8 0 :: .int .u8 0 :: .int .u8 0 :: .int .u8 0 :: .int .u8 0 :: .int .u8 0 :: .int .u8 0 :: .int .u8 0 :: .int .u8 0 :: .int .u8 0 :: .int .u8 0 :: .int .u8 0 :: .int .u8 0 :: .int .u8 0 :: .int .u8 0 :: .int .u8 0 :: .int .u8 0 :: .int .u8 0 :: .int .i64 0 :: .int .i64 0 :: .int .i64 0 :: [] : List Value) : Array Value) rz5 IF1.out SF1.out AF1.out) (rangeAt_setRow hHeld5 (by omega)) (fun hHeld6 => ?_)
            clear hHeld5
            try simp only [Act.put]
            refine take_h 18 ?_ rfl (by kernel_rfl) (by kernel_rfl) (by kernel_rfl) (fun _ _ _ h => h) (Or.inl ⟨by kernel_rfl, ?_⟩) (by assumption) ?_
            rotate_left
            · (intro w hSw; (try dsimp only at hSw); go_simp; try (with_reducible rfl))
            try simp only [Act.put, List.setIfInBounds_toArray, List.set_cons_zero, List.set_cons_succ]
            refine take_h 19 ?_ rfl (by kernel_rfl) (by kernel_rfl) (by kernel_rfl) (fun _ _ _ h => h) (Or.inl ⟨by kernel_rfl, ?_⟩) (by assumption) ?_
            rotate_left
            · (intro w hSw; (try dsimp only at hSw); go_simp; try (with_reducible rfl))
            try simp only [Act.put, List.setIfInBounds_toArray, List.set_cons_zero, List.set_cons_succ]
            refine take_h 20 ?_ rfl (by kernel_rfl) (by kernel_rfl) (by kernel_rfl) (fun _ _ _ h => h) (Or.inl ⟨by kernel_rfl, ?_⟩) (by assumption) ?_
            rotate_left
            · (intro w hSw; (try dsimp only at hSw); go_simp; try (with_reducible rfl))
            try simp only [Act.put, List.setIfInBounds_toArray, List.set_cons_zero, List.set_cons_succ]
            refine take_h 21 ?_ rfl (by kernel_rfl) (by kernel_rfl) (by kernel_rfl) (fun _ _ _ h => h) (Or.inl ⟨by kernel_rfl, ?_⟩) (by assumption) ?_
            rotate_left
            · (intro w hSw; (try dsimp only at hSw); go_simp; try (with_reducible rfl))
            try simp only [Act.put, List.setIfInBounds_toArray, List.set_cons_zero, List.set_cons_succ]
            refine wpAnyH_done (by kernel_rfl) ?_ _
            exact ⟨gA, rfl, ⟨(setRow_other w5 gA (w.heap.size + 1) _ (by omega)).trans (blk hb6 hHV2 rU0), below_row (HV.out.trans (hb6.mono HV.out.size)) (by rw [← hgA]; exact HV.out.size) _⟩⟩
        · try simp only [Act.put, List.setIfInBounds_toArray, List.set_cons_zero, List.set_cons_succ]
          refine call_h 6 rfl (by kernel_rfl) 37 #[.int .i64 m] (by kernel_rfl) (by go_simp) ?_
          refine (Hv1.out _).mono ?_
          rintro e w' ⟨rfl, rfl⟩
          refine ⟨_, rfl, by assumption, fun _ => ?_⟩
          try simp only [Act.put, List.setIfInBounds_toArray, List.set_cons_zero, List.set_cons_succ]
          refine call_h 9 rfl (by kernel_rfl) 36 #[.int .i64 x, .int .i64 y, .agg TC.toArray, .int .i64 val1, .int .i64 u, .int .i64 v] (by kernel_rfl) (by go_simp) ?_
          refine (Hi1.out _ (HG.out.below (below_alloc V _))).mono ?_
          rintro e w5 ⟨rfl, hb5⟩
          have hb6 : Below V.heap.size V w5 := (below_alloc V _).trans (hb5.mono (by rw [size_alloc]; omega))
          have rz5 : w5.heap[gA]? = some (.cells (List.toArray (.int .u8 0 :: .int .u8 0 :: .int .u8 0 :: .int .u8 0 :: .int .u8 0 :: .int .u8 0 :: .int .u8 0 :: .int .u8 0 :: .int .u8 0 :: .int .u8 0 :: .int .u8 0 :: .int .u8 0 :: .int .u8 0 :: .int .u8 0 :: .int .u8 0 :: .int .u8 0 :: .int .u8 0 :: .int .u8 0 :: .int .u8 0 :: .int .u8 0 :: .int .u8 0 :: .int .u8 0 :: .int .u8 0 :: .int .u8 0 :: .int .u8 0 :: .int .u8 0 :: .int .u8 0 :: .int .u8 0 :: .int .u8 0 :: .int .u8 0 :: .int .u8 0 :: .int .u8 0 :: .int .i64 0 :: .int .i64 0 :: .int .i64 0 :: [] : List Value) : Array Value) 69 (0, 0)) := by rw [← hgA]; exact (hb5.block _ (by rw [size_alloc]; omega)).trans (heap_alloc_new V _)
          refine ⟨_, rfl, rangeAt_below' rT hb6, fun hHeld5 => ?_⟩
          try simp only [Act.put, List.setIfInBounds_toArray, List.set_cons_zero, List.set_cons_succ]
          refine take_h 10 ?_ rfl (by kernel_rfl) (by kernel_rfl) (by kernel_rfl) (fun _ _ _ h => h) (Or.inl ⟨by kernel_rfl, ?_⟩) (by assumption) ?_
          rotate_left
          · (intro w hSw; (try dsimp only at hSw); go_simp; try (with_reducible rfl))
          try simp only [Act.put, List.setIfInBounds_toArray, List.set_cons_zero, List.set_cons_succ]
          refine take_h 11 ?_ rfl (by kernel_rfl) (by kernel_rfl) (by kernel_rfl) (fun _ _ _ h => h) (Or.inl ⟨by kernel_rfl, ?_⟩) (by assumption) ?_
          rotate_left
          · (intro w hSw; (try dsimp only at hSw); go_simp; try (with_reducible rfl))
          try simp only [Act.put, List.setIfInBounds_toArray, List.set_cons_zero, List.set_cons_succ]
          refine take_h 12 ?_ rfl (by kernel_rfl) (by kernel_rfl) (by kernel_rfl) (fun _ _ _ h => h) (Or.inl ⟨by kernel_rfl, ?_⟩) (by assumption) ?_
          rotate_left
          · (intro w hSw; (try dsimp only at hSw); go_simp; try (with_reducible rfl))
          try simp only [Act.put, List.setIfInBounds_toArray, List.set_cons_zero, List.set_cons_succ]
          refine take_h 13 ?_ rfl (by kernel_rfl) (by kernel_rfl) (by kernel_rfl) (fun _ _ _ h => h) (Or.inl ⟨by kernel_rfl, ?_⟩) (by assumption) ?_
          rotate_left
          · (intro w hSw; (try dsimp only at hSw); go_simp; try (with_reducible rfl))
          try simp only [Act.put, List.setIfInBounds_toArray, List.set_cons_zero, List.set_cons_succ]
          refine take_h 14 ?_ rfl (by kernel_rfl) (by kernel_rfl) (by kernel_rfl) (fun _ _ _ h => h) (Or.inl ⟨by kernel_rfl, ?_⟩) (by assumption) ?_
          rotate_left
          · (intro w hSw; (try dsimp only at hSw); go_simp; try (with_reducible rfl))
          try simp only [Act.put, List.setIfInBounds_toArray, List.set_cons_zero, List.set_cons_succ]
          refine take_h 15 ?_ rfl (by kernel_rfl) (by kernel_rfl) (by kernel_rfl) (fun _ _ _ h => h) (Or.inl ⟨by kernel_rfl, ?_⟩) (by assumption) ?_
          rotate_left
          · (intro w hSw; (try dsimp only at hSw); go_simp; try (with_reducible rfl))
          try simp only [Act.put, List.setIfInBounds_toArray, List.set_cons_zero, List.set_cons_succ]
          refine skip_h 17 (w5.setRow gA F1.toArray) rfl (by kernel_rfl) (by kernel_rfl) (exec_store_row 69 (.tmp 21) (.tmp 57) rfl gA F1.toArray rfl rfl 69 (List.toArray (.int .u8 0 :: .int .u8 0 :: .int .u8 0 :: .int .u8 0 :: .int .u8 0 :: .int .u8 0 :: .int .u8 0 :: .int .u8 0 :: .int .u8 0 :: .int .u8 0 :: .int .u8 0 :: .int .u8 0 :: .int .u8 0 :: .int .u8 0 :: .int .u8 0 :: .int .u8 0 :: .int .u8 0 :: .int .u8 0 :: .int .u8 0 :: .int .u8 0 :: .int .u8 0 :: .int .u8 0 :: .int .u8 0 :: .int .u8 0 :: .int .u8 0 :: .int .u8 0 :: .int .u8 0 :: .int .u8 0 :: .int .u8 0 :: .int .u8 0 :: .int .u8 0 :: .int .u8 0 :: .int .i64 0 :: .int .i64 0 :: .int .i64 0 :: [] : List Value) : Array Value) rz5 IF1.out SF1.out AF1.out) (rangeAt_setRow hHeld5 (by omega)) (fun hHeld6 => ?_)
          clear hHeld5
          try simp only [Act.put]
          refine take_h 18 ?_ rfl (by kernel_rfl) (by kernel_rfl) (by kernel_rfl) (fun _ _ _ h => h) (Or.inl ⟨by kernel_rfl, ?_⟩) (by assumption) ?_
          rotate_left
          · (intro w hSw; (try dsimp only at hSw); go_simp; try (with_reducible rfl))
          try simp only [Act.put, List.setIfInBounds_toArray, List.set_cons_zero, List.set_cons_succ]
          refine take_h 19 ?_ rfl (by kernel_rfl) (by kernel_rfl) (by kernel_rfl) (fun _ _ _ h => h) (Or.inl ⟨by kernel_rfl, ?_⟩) (by assumption) ?_
          rotate_left
          · (intro w hSw; (try dsimp only at hSw); go_simp; try (with_reducible rfl))
          try simp only [Act.put, List.setIfInBounds_toArray, List.set_cons_zero, List.set_cons_succ]
          refine take_h 20 ?_ rfl (by kernel_rfl) (by kernel_rfl) (by kernel_rfl) (fun _ _ _ h => h) (Or.inl ⟨by kernel_rfl, ?_⟩) (by assumption) ?_
          rotate_left
          · (intro w hSw; (try dsimp only at hSw); go_simp; try (with_reducible rfl))
          try simp only [Act.put, List.setIfInBounds_toArray, List.set_cons_zero, List.set_cons_succ]
          refine take_h 21 ?_ rfl (by kernel_rfl) (by kernel_rfl) (by kernel_rfl) (fun _ _ _ h => h) (Or.inl ⟨by kernel_rfl, ?_⟩) (by assumption) ?_
          rotate_left
          · (intro w hSw; (try dsimp only at hSw); go_simp; try (with_reducible rfl))
          try simp only [Act.put, List.setIfInBounds_toArray, List.set_cons_zero, List.set_cons_succ]
          refine wpAnyH_done (by kernel_rfl) ?_ _
          exact ⟨gA, rfl, ⟨(setRow_other w5 gA (w.heap.size + 1) _ (by omega)).trans (blk hb6 hHV2 rU0), below_row (HV.out.trans (hb6.mono HV.out.size)) (by rw [← hgA]; exact HV.out.size) _⟩⟩
      · try simp only [Act.put, List.setIfInBounds_toArray, List.set_cons_zero, List.set_cons_succ]
        refine call_h 3 rfl (by kernel_rfl) 35 #[.int .u32 b] (by kernel_rfl) (by go_simp) ?_
        refine (Hs2.out _).mono ?_
        rintro e w' ⟨rfl, rfl⟩
        refine ⟨_, rfl, by assumption, fun _ => ?_⟩
        try simp only [Act.put, List.setIfInBounds_toArray, List.set_cons_zero, List.set_cons_succ]
        refine call_h 6 rfl (by kernel_rfl) 37 #[.int .i64 m] (by kernel_rfl) (by go_simp) ?_
        refine (Hv1.out _).mono ?_
        rintro e w' ⟨rfl, rfl⟩
        refine ⟨_, rfl, by assumption, fun _ => ?_⟩
        try simp only [Act.put, List.setIfInBounds_toArray, List.set_cons_zero, List.set_cons_succ]
        refine call_h 9 rfl (by kernel_rfl) 36 #[.int .i64 x, .int .i64 y, .agg TC.toArray, .int .i64 val1, .int .i64 u, .int .i64 v] (by kernel_rfl) (by go_simp) ?_
        refine (Hi1.out _ (HG.out.below (below_alloc V _))).mono ?_
        rintro e w5 ⟨rfl, hb5⟩
        have hb6 : Below V.heap.size V w5 := (below_alloc V _).trans (hb5.mono (by rw [size_alloc]; omega))
        have rz5 : w5.heap[gA]? = some (.cells (List.toArray (.int .u8 0 :: .int .u8 0 :: .int .u8 0 :: .int .u8 0 :: .int .u8 0 :: .int .u8 0 :: .int .u8 0 :: .int .u8 0 :: .int .u8 0 :: .int .u8 0 :: .int .u8 0 :: .int .u8 0 :: .int .u8 0 :: .int .u8 0 :: .int .u8 0 :: .int .u8 0 :: .int .u8 0 :: .int .u8 0 :: .int .u8 0 :: .int .u8 0 :: .int .u8 0 :: .int .u8 0 :: .int .u8 0 :: .int .u8 0 :: .int .u8 0 :: .int .u8 0 :: .int .u8 0 :: .int .u8 0 :: .int .u8 0 :: .int .u8 0 :: .int .u8 0 :: .int .u8 0 :: .int .i64 0 :: .int .i64 0 :: .int .i64 0 :: [] : List Value) : Array Value) 69 (0, 0)) := by rw [← hgA]; exact (hb5.block _ (by rw [size_alloc]; omega)).trans (heap_alloc_new V _)
        refine ⟨_, rfl, rangeAt_below' rT hb6, fun hHeld5 => ?_⟩
        try simp only [Act.put, List.setIfInBounds_toArray, List.set_cons_zero, List.set_cons_succ]
        refine take_h 10 ?_ rfl (by kernel_rfl) (by kernel_rfl) (by kernel_rfl) (fun _ _ _ h => h) (Or.inl ⟨by kernel_rfl, ?_⟩) (by assumption) ?_
        rotate_left
        · (intro w hSw; (try dsimp only at hSw); go_simp; try (with_reducible rfl))
        try simp only [Act.put, List.setIfInBounds_toArray, List.set_cons_zero, List.set_cons_succ]
        refine take_h 11 ?_ rfl (by kernel_rfl) (by kernel_rfl) (by kernel_rfl) (fun _ _ _ h => h) (Or.inl ⟨by kernel_rfl, ?_⟩) (by assumption) ?_
        rotate_left
        · (intro w hSw; (try dsimp only at hSw); go_simp; try (with_reducible rfl))
        try simp only [Act.put, List.setIfInBounds_toArray, List.set_cons_zero, List.set_cons_succ]
        refine take_h 12 ?_ rfl (by kernel_rfl) (by kernel_rfl) (by kernel_rfl) (fun _ _ _ h => h) (Or.inl ⟨by kernel_rfl, ?_⟩) (by assumption) ?_
        rotate_left
        · (intro w hSw; (try dsimp only at hSw); go_simp; try (with_reducible rfl))
        try simp only [Act.put, List.setIfInBounds_toArray, List.set_cons_zero, List.set_cons_succ]
        refine take_h 13 ?_ rfl (by kernel_rfl) (by kernel_rfl) (by kernel_rfl) (fun _ _ _ h => h) (Or.inl ⟨by kernel_rfl, ?_⟩) (by assumption) ?_
        rotate_left
        · (intro w hSw; (try dsimp only at hSw); go_simp; try (with_reducible rfl))
        try simp only [Act.put, List.setIfInBounds_toArray, List.set_cons_zero, List.set_cons_succ]
        refine take_h 14 ?_ rfl (by kernel_rfl) (by kernel_rfl) (by kernel_rfl) (fun _ _ _ h => h) (Or.inl ⟨by kernel_rfl, ?_⟩) (by assumption) ?_
        rotate_left
        · (intro w hSw; (try dsimp only at hSw); go_simp; try (with_reducible rfl))
        try simp only [Act.put, List.setIfInBounds_toArray, List.set_cons_zero, List.set_cons_succ]
        refine take_h 15 ?_ rfl (by kernel_rfl) (by kernel_rfl) (by kernel_rfl) (fun _ _ _ h => h) (Or.inl ⟨by kernel_rfl, ?_⟩) (by assumption) ?_
        rotate_left
        · (intro w hSw; (try dsimp only at hSw); go_simp; try (with_reducible rfl))
        try simp only [Act.put, List.setIfInBounds_toArray, List.set_cons_zero, List.set_cons_succ]
        refine skip_h 17 (w5.setRow gA F1.toArray) rfl (by kernel_rfl) (by kernel_rfl) (exec_store_row 69 (.tmp 21) (.tmp 57) rfl gA F1.toArray rfl rfl 69 (List.toArray (.int .u8 0 :: .int .u8 0 :: .int .u8 0 :: .int .u8 0 :: .int .u8 0 :: .int .u8 0 :: .int .u8 0 :: .int .u8 0 :: .int .u8 0 :: .int .u8 0 :: .int .u8 0 :: .int .u8 0 :: .int .u8 0 :: .int .u8 0 :: .int .u8 0 :: .int .u8 0 :: .int .u8 0 :: .int .u8 0 :: .int .u8 0 :: .int .u8 0 :: .int .u8 0 :: .int .u8 0 :: .int .u8 0 :: .int .u8 0 :: .int .u8 0 :: .int .u8 0 :: .int .u8 0 :: .int .u8 0 :: .int .u8 0 :: .int .u8 0 :: .int .u8 0 :: .int .u8 0 :: .int .i64 0 :: .int .i64 0 :: .int .i64 0 :: [] : List Value) : Array Value) rz5 IF1.out SF1.out AF1.out) (rangeAt_setRow hHeld5 (by omega)) (fun hHeld6 => ?_)
        clear hHeld5
        try simp only [Act.put]
        refine take_h 18 ?_ rfl (by kernel_rfl) (by kernel_rfl) (by kernel_rfl) (fun _ _ _ h => h) (Or.inl ⟨by kernel_rfl, ?_⟩) (by assumption) ?_
        rotate_left
        · (intro w hSw; (try dsimp only at hSw); go_simp; try (with_reducible rfl))
        try simp only [Act.put, List.setIfInBounds_toArray, List.set_cons_zero, List.set_cons_succ]
        refine take_h 19 ?_ rfl (by kernel_rfl) (by kernel_rfl) (by kernel_rfl) (fun _ _ _ h => h) (Or.inl ⟨by kernel_rfl, ?_⟩) (by assumption) ?_
        rotate_left
        · (intro w hSw; (try dsimp only at hSw); go_simp; try (with_reducible rfl))
        try simp only [Act.put, List.setIfInBounds_toArray, List.set_cons_zero, List.set_cons_succ]
        refine take_h 20 ?_ rfl (by kernel_rfl) (by kernel_rfl) (by kernel_rfl) (fun _ _ _ h => h) (Or.inl ⟨by kernel_rfl, ?_⟩) (by assumption) ?_
        rotate_left
        · (intro w hSw; (try dsimp only at hSw); go_simp; try (with_reducible rfl))
        try simp only [Act.put, List.setIfInBounds_toArray, List.set_cons_zero, List.set_cons_succ]
        refine take_h 21 ?_ rfl (by kernel_rfl) (by kernel_rfl) (by kernel_rfl) (fun _ _ _ h => h) (Or.inl ⟨by kernel_rfl, ?_⟩) (by assumption) ?_
        rotate_left
        · (intro w hSw; (try dsimp only at hSw); go_simp; try (with_reducible rfl))
        try simp only [Act.put, List.setIfInBounds_toArray, List.set_cons_zero, List.set_cons_succ]
        refine wpAnyH_done (by kernel_rfl) ?_ _
        exact ⟨gA, rfl, ⟨(setRow_other w5 gA (w.heap.size + 1) _ (by omega)).trans (blk hb6 hHV2 rU0), below_row (HV.out.trans (hb6.mono HV.out.size)) (by rw [← hgA]; exact HV.out.size) _⟩⟩
    · try simp only [Act.put, List.setIfInBounds_toArray, List.set_cons_zero, List.set_cons_succ]
      refine call_h 1 rfl (by kernel_rfl) 35 #[.int .u32 a] (by kernel_rfl) (by go_simp) ?_
      refine (Hs1.out _).mono ?_
      rintro e w' ⟨rfl, rfl⟩
      refine ⟨_, rfl, by assumption, fun _ => ?_⟩
      try simp only [Act.put, List.setIfInBounds_toArray, List.set_cons_zero, List.set_cons_succ]
      refine call_h 3 rfl (by kernel_rfl) 35 #[.int .u32 b] (by kernel_rfl) (by go_simp) ?_
      refine (Hs2.out _).mono ?_
      rintro e w' ⟨rfl, rfl⟩
      refine ⟨_, rfl, by assumption, fun _ => ?_⟩
      try simp only [Act.put, List.setIfInBounds_toArray, List.set_cons_zero, List.set_cons_succ]
      refine call_h 6 rfl (by kernel_rfl) 37 #[.int .i64 m] (by kernel_rfl) (by go_simp) ?_
      refine (Hv1.out _).mono ?_
      rintro e w' ⟨rfl, rfl⟩
      refine ⟨_, rfl, by assumption, fun _ => ?_⟩
      try simp only [Act.put, List.setIfInBounds_toArray, List.set_cons_zero, List.set_cons_succ]
      refine call_h 9 rfl (by kernel_rfl) 36 #[.int .i64 x, .int .i64 y, .agg TC.toArray, .int .i64 val1, .int .i64 u, .int .i64 v] (by kernel_rfl) (by go_simp) ?_
      refine (Hi1.out _ (HG.out.below (below_alloc V _))).mono ?_
      rintro e w5 ⟨rfl, hb5⟩
      have hb6 : Below V.heap.size V w5 := (below_alloc V _).trans (hb5.mono (by rw [size_alloc]; omega))
      have rz5 : w5.heap[gA]? = some (.cells (List.toArray (.int .u8 0 :: .int .u8 0 :: .int .u8 0 :: .int .u8 0 :: .int .u8 0 :: .int .u8 0 :: .int .u8 0 :: .int .u8 0 :: .int .u8 0 :: .int .u8 0 :: .int .u8 0 :: .int .u8 0 :: .int .u8 0 :: .int .u8 0 :: .int .u8 0 :: .int .u8 0 :: .int .u8 0 :: .int .u8 0 :: .int .u8 0 :: .int .u8 0 :: .int .u8 0 :: .int .u8 0 :: .int .u8 0 :: .int .u8 0 :: .int .u8 0 :: .int .u8 0 :: .int .u8 0 :: .int .u8 0 :: .int .u8 0 :: .int .u8 0 :: .int .u8 0 :: .int .u8 0 :: .int .i64 0 :: .int .i64 0 :: .int .i64 0 :: [] : List Value) : Array Value) 69 (0, 0)) := by rw [← hgA]; exact (hb5.block _ (by rw [size_alloc]; omega)).trans (heap_alloc_new V _)
      refine ⟨_, rfl, rangeAt_below' rT hb6, fun hHeld5 => ?_⟩
      try simp only [Act.put, List.setIfInBounds_toArray, List.set_cons_zero, List.set_cons_succ]
      refine take_h 10 ?_ rfl (by kernel_rfl) (by kernel_rfl) (by kernel_rfl) (fun _ _ _ h => h) (Or.inl ⟨by kernel_rfl, ?_⟩) (by assumption) ?_
      rotate_left
      · (intro w hSw; (try dsimp only at hSw); go_simp; try (with_reducible rfl))
      try simp only [Act.put, List.setIfInBounds_toArray, List.set_cons_zero, List.set_cons_succ]
      refine take_h 11 ?_ rfl (by kernel_rfl) (by kernel_rfl) (by kernel_rfl) (fun _ _ _ h => h) (Or.inl ⟨by kernel_rfl, ?_⟩) (by assumption) ?_
      rotate_left
      · (intro w hSw; (try dsimp only at hSw); go_simp; try (with_reducible rfl))
      try simp only [Act.put, List.setIfInBounds_toArray, List.set_cons_zero, List.set_cons_succ]
      refine take_h 12 ?_ rfl (by kernel_rfl) (by kernel_rfl) (by kernel_rfl) (fun _ _ _ h => h) (Or.inl ⟨by kernel_rfl, ?_⟩) (by assumption) ?_
      rotate_left
      · (intro w hSw; (try dsimp only at hSw); go_simp; try (with_reducible rfl))
      try simp only [Act.put, List.setIfInBounds_toArray, List.set_cons_zero, List.set_cons_succ]
      refine take_h 13 ?_ rfl (by kernel_rfl) (by kernel_rfl) (by kernel_rfl) (fun _ _ _ h => h) (Or.inl ⟨by kernel_rfl, ?_⟩) (by assumption) ?_
      rotate_left
      · (intro w hSw; (try dsimp only at hSw); go_simp; try (with_reducible rfl))
      try simp only [Act.put, List.setIfInBounds_toArray, List.set_cons_zero, List.set_cons_succ]
      refine take_h 14 ?_ rfl (by kernel_rfl) (by kernel_rfl) (by kernel_rfl) (fun _ _ _ h => h) (Or.inl ⟨by kernel_rfl, ?_⟩) (by assumption) ?_
      rotate_left
      · (intro w hSw; (try dsimp only at hSw); go_simp; try (with_reducible rfl))
      try simp only [Act.put, List.setIfInBounds_toArray, List.set_cons_zero, List.set_cons_succ]
      refine take_h 15 ?_ rfl (by kernel_rfl) (by kernel_rfl) (by kernel_rfl) (fun _ _ _ h => h) (Or.inl ⟨by kernel_rfl, ?_⟩) (by assumption) ?_
      rotate_left
      · (intro w hSw; (try dsimp only at hSw); go_simp; try (with_reducible rfl))
      try simp only [Act.put, List.setIfInBounds_toArray, List.set_cons_zero, List.set_cons_succ]
      refine skip_h 17 (w5.setRow gA F1.toArray) rfl (by kernel_rfl) (by kernel_rfl) (exec_store_row 69 (.tmp 21) (.tmp 57) rfl gA F1.toArray rfl rfl 69 (List.toArray (.int .u8 0 :: .int .u8 0 :: .int .u8 0 :: .int .u8 0 :: .int .u8 0 :: .int .u8 0 :: .int .u8 0 :: .int .u8 0 :: .int .u8 0 :: .int .u8 0 :: .int .u8 0 :: .int .u8 0 :: .int .u8 0 :: .int .u8 0 :: .int .u8 0 :: .int .u8 0 :: .int .u8 0 :: .int .u8 0 :: .int .u8 0 :: .int .u8 0 :: .int .u8 0 :: .int .u8 0 :: .int .u8 0 :: .int .u8 0 :: .int .u8 0 :: .int .u8 0 :: .int .u8 0 :: .int .u8 0 :: .int .u8 0 :: .int .u8 0 :: .int .u8 0 :: .int .u8 0 :: .int .i64 0 :: .int .i64 0 :: .int .i64 0 :: [] : List Value) : Array Value) rz5 IF1.out SF1.out AF1.out) (rangeAt_setRow hHeld5 (by omega)) (fun hHeld6 => ?_)
      clear hHeld5
      try simp only [Act.put]
      refine take_h 18 ?_ rfl (by kernel_rfl) (by kernel_rfl) (by kernel_rfl) (fun _ _ _ h => h) (Or.inl ⟨by kernel_rfl, ?_⟩) (by assumption) ?_
      rotate_left
      · (intro w hSw; (try dsimp only at hSw); go_simp; try (with_reducible rfl))
      try simp only [Act.put, List.setIfInBounds_toArray, List.set_cons_zero, List.set_cons_succ]
      refine take_h 19 ?_ rfl (by kernel_rfl) (by kernel_rfl) (by kernel_rfl) (fun _ _ _ h => h) (Or.inl ⟨by kernel_rfl, ?_⟩) (by assumption) ?_
      rotate_left
      · (intro w hSw; (try dsimp only at hSw); go_simp; try (with_reducible rfl))
      try simp only [Act.put, List.setIfInBounds_toArray, List.set_cons_zero, List.set_cons_succ]
      refine take_h 20 ?_ rfl (by kernel_rfl) (by kernel_rfl) (by kernel_rfl) (fun _ _ _ h => h) (Or.inl ⟨by kernel_rfl, ?_⟩) (by assumption) ?_
      rotate_left
      · (intro w hSw; (try dsimp only at hSw); go_simp; try (with_reducible rfl))
      try simp only [Act.put, List.setIfInBounds_toArray, List.set_cons_zero, List.set_cons_succ]
      refine take_h 21 ?_ rfl (by kernel_rfl) (by kernel_rfl) (by kernel_rfl) (fun _ _ _ h => h) (Or.inl ⟨by kernel_rfl, ?_⟩) (by assumption) ?_
      rotate_left
      · (intro w hSw; (try dsimp only at hSw); go_simp; try (with_reducible rfl))
      try simp only [Act.put, List.setIfInBounds_toArray, List.set_cons_zero, List.set_cons_succ]
      refine wpAnyH_done (by kernel_rfl) ?_ _
      exact ⟨gA, rfl, ⟨(setRow_other w5 gA (w.heap.size + 1) _ (by omega)).trans (blk hb6 hHV2 rU0), below_row (HV.out.trans (hb6.mono HV.out.size)) (by rw [← hgA]; exact HV.out.size) _⟩⟩
  intro g0 W4 hR4
  have HB4 : Seal (Below w.heap.size w W4) := ⟨hR4.out.2⟩
  have rU4 := hR4.out.1
  clear hR4 rT0' rU0' HE3 HB3
  go_wp2_with fail
  apply wp_cut (R := fun g W => Seal (W.heap[w.heap.size + 1]? = some (.cells UC.toArray 25 (0, 0)) ∧ W.heap[g]? = some (.cells F2.toArray 69 (0, 0)) ∧ Below w.heap.size w W))
  · have rT' : W4.rangeAt (w.heap.size + 1) 0 UC := rangeAt_row rU4
    refine wp_region_held_drew (S := fun w' => w'.rangeAt (w.heap.size + 1) 0 UC) (by kernel_rfl) rT' (fun hHeld => ?_)
    obtain ⟨V, hV⟩ : ∃ V, V = W4.drew := ⟨_, rfl⟩
    have rT : V.rangeAt (w.heap.size + 1) 0 UC := by rw [hV]; exact rT'
    have rU0 : V.heap[w.heap.size + 1]? = some (.cells UC.toArray 25 (0, 0)) := by rw [hV]; exact rU4
    have hHV2 : w.heap.size + 1 < V.heap.size := (Array.getElem?_eq_some_iff.1 rU0).1
    have HV : Seal (Below w.heap.size w V) := ⟨by rw [hV]; exact HB4.out.trans ((below_drewn W4).mono HB4.out.size)⟩
    have HG : Seal (Glob V) := ⟨HGw.out.below HV.out⟩
    have hHV : w.heap.size ≤ V.heap.size := HV.out.size
    rw [← hV] at hHeld ⊢
    clear hV rT'
    obtain ⟨gA, hgA⟩ : ∃ g, V.heap.size = g := ⟨_, rfl⟩
    refine take_h 0 ?_ rfl (by kernel_rfl) (by kernel_rfl) (by kernel_rfl) (fun _ _ _ h => h) (Or.inl ⟨by kernel_rfl, ?_⟩) (by assumption) ?_
    rotate_left
    · (intro w hSw; (try dsimp only at hSw); go_simp; try (with_reducible rfl))
    try simp only [Act.put, List.setIfInBounds_toArray, List.set_cons_zero, List.set_cons_succ]
    refine take_h 2 ?_ rfl (by kernel_rfl) (by kernel_rfl) (by kernel_rfl) (fun _ _ _ h => h) (Or.inl ⟨by kernel_rfl, ?_⟩) (by assumption) ?_
    rotate_left
    · (intro w hSw; (try dsimp only at hSw); go_simp; try (with_reducible rfl))
    try simp only [Act.put, List.setIfInBounds_toArray, List.set_cons_zero, List.set_cons_succ]
    refine take_h 5 ?_ rfl (by kernel_rfl) (by kernel_rfl) (by kernel_rfl) (fun _ _ _ h => h) (Or.inl ⟨by kernel_rfl, ?_⟩) (by assumption) ?_
    rotate_left
    · (intro w hSw; (try dsimp only at hSw); go_simp; try (with_reducible rfl))
    try simp only [Act.put, List.setIfInBounds_toArray, List.set_cons_zero, List.set_cons_succ]
    refine take_h 7 ?_ rfl (by kernel_rfl) (by kernel_rfl) (by kernel_rfl) (fun _ _ _ h => h) (Or.inl ⟨by kernel_rfl, ?_⟩) (by assumption) ?_
    rotate_left
    · (intro w hSw; (try dsimp only at hSw); go_simp; try (with_reducible rfl))
    try simp only [Act.put, List.setIfInBounds_toArray, List.set_cons_zero, List.set_cons_succ]
    refine take_h 8 ?_ rfl (by kernel_rfl) (by kernel_rfl) (by kernel_rfl) (fun _ _ _ h => h) (Or.inl ⟨by kernel_rfl, ?_⟩) (by assumption) ?_
    rotate_left
    · (intro w hSw; (try dsimp only at hSw); go_simp; try (with_reducible rfl))
    try simp only [Act.put, List.setIfInBounds_toArray, List.set_cons_zero, List.set_cons_succ]
    refine take_h 4 _ rfl (by kernel_rfl) (by kernel_rfl) (by kernel_rfl) (fun _ _ _ h => h) (yieldsIf_load_mid (by kernel_rfl) 25 (.tmp 13) rfl (w.heap.size + 1) 0 rfl UC _ (fun w hSw => hSw) uD rfl iU) (by assumption) ?_
    try simp only [Act.put, List.setIfInBounds_toArray, List.set_cons_zero, List.set_cons_succ]
    refine wpAnyH_ready (rs := [1, 16]) (by kernel_rfl) (by simp) (call_b 1 rfl 35 #[.int .u32 a] (by kernel_rfl) (by go_simp) ?_ (oper_b 16 (.pointer (some ⟨gA, 0, none⟩)) (V.alloc (.cells (List.toArray (.int .u8 0 :: .int .u8 0 :: .int .u8 0 :: .int .u8 0 :: .int .u8 0 :: .int .u8 0 :: .int .u8 0 :: .int .u8 0 :: .int .u8 0 :: .int .u8 0 :: .int .u8 0 :: .int .u8 0 :: .int .u8 0 :: .int .u8 0 :: .int .u8 0 :: .int .u8 0 :: .int .u8 0 :: .int .u8 0 :: .int .u8 0 :: .int .u8 0 :: .int .u8 0 :: .int .u8 0 :: .int .u8 0 :: .int .u8 0 :: .int .u8 0 :: .int .u8 0 :: .int .u8 0 :: .int .u8 0 :: .int .u8 0 :: .int .u8 0 :: .int .u8 0 :: .int .u8 0 :: .int .i64 0 :: .int .i64 0 :: .int .i64 0 :: [] : List Value) : Array Value) 69)) rfl (by kernel_rfl) (by rw [← hgA]; go_simp) (World.rangeAt_alloc rT _) (fun hHeld2 => ?_) AllReadyH.nil))
    · skip
      refine (Hs1.out _).mono ?_
      rintro e w' ⟨rfl, rfl⟩
      refine ⟨_, rfl, by assumption, fun _ => ?_⟩
      try simp only [Act.put, List.setIfInBounds_toArray, List.set_cons_zero, List.set_cons_succ]
      refine wpAnyH_ready (rs := [3, 16]) (by kernel_rfl) (by simp) (call_b 3 rfl 35 #[.int .u32 cc] (by kernel_rfl) (by go_simp) ?_ (oper_b 16 (.pointer (some ⟨gA, 0, none⟩)) (V.alloc (.cells (List.toArray (.int .u8 0 :: .int .u8 0 :: .int .u8 0 :: .int .u8 0 :: .int .u8 0 :: .int .u8 0 :: .int .u8 0 :: .int .u8 0 :: .int .u8 0 :: .int .u8 0 :: .int .u8 0 :: .int .u8 0 :: .int .u8 0 :: .int .u8 0 :: .int .u8 0 :: .int .u8 0 :: .int .u8 0 :: .int .u8 0 :: .int .u8 0 :: .int .u8 0 :: .int .u8 0 :: .int .u8 0 :: .int .u8 0 :: .int .u8 0 :: .int .u8 0 :: .int .u8 0 :: .int .u8 0 :: .int .u8 0 :: .int .u8 0 :: .int .u8 0 :: .int .u8 0 :: .int .u8 0 :: .int .i64 0 :: .int .i64 0 :: .int .i64 0 :: [] : List Value) : Array Value) 69)) rfl (by kernel_rfl) (by rw [← hgA]; go_simp) (World.rangeAt_alloc rT _) (fun hHeld2 => ?_) AllReadyH.nil))
      · skip
        refine (Hs3.out _).mono ?_
        rintro e w' ⟨rfl, rfl⟩
        refine ⟨_, rfl, by assumption, fun _ => ?_⟩
        try simp only [Act.put, List.setIfInBounds_toArray, List.set_cons_zero, List.set_cons_succ]
        refine wpAnyH_ready (rs := [6, 16]) (by kernel_rfl) (by simp) (call_b 6 rfl 37 #[.int .i64 n] (by kernel_rfl) (by go_simp) ?_ (oper_b 16 (.pointer (some ⟨gA, 0, none⟩)) (V.alloc (.cells (List.toArray (.int .u8 0 :: .int .u8 0 :: .int .u8 0 :: .int .u8 0 :: .int .u8 0 :: .int .u8 0 :: .int .u8 0 :: .int .u8 0 :: .int .u8 0 :: .int .u8 0 :: .int .u8 0 :: .int .u8 0 :: .int .u8 0 :: .int .u8 0 :: .int .u8 0 :: .int .u8 0 :: .int .u8 0 :: .int .u8 0 :: .int .u8 0 :: .int .u8 0 :: .int .u8 0 :: .int .u8 0 :: .int .u8 0 :: .int .u8 0 :: .int .u8 0 :: .int .u8 0 :: .int .u8 0 :: .int .u8 0 :: .int .u8 0 :: .int .u8 0 :: .int .u8 0 :: .int .u8 0 :: .int .i64 0 :: .int .i64 0 :: .int .i64 0 :: [] : List Value) : Array Value) 69)) rfl (by kernel_rfl) (by rw [← hgA]; go_simp) (World.rangeAt_alloc rT _) (fun hHeld2 => ?_) AllReadyH.nil))
        · skip
          refine (Hv2.out _).mono ?_
          rintro e w' ⟨rfl, rfl⟩
          refine ⟨_, rfl, by assumption, fun _ => ?_⟩
          try simp only [Act.put, List.setIfInBounds_toArray, List.set_cons_zero, List.set_cons_succ]
          refine wpAnyH_ready (rs := [9, 16]) (by kernel_rfl) (by simp) (call_b 9 rfl 36 #[.int .i64 x, .int .i64 z, .agg UC.toArray, .int .i64 val2, .int .i64 v, .int .i64 u] (by kernel_rfl) (by go_simp) ?_ (oper_b 16 (.pointer (some ⟨gA, 0, none⟩)) (V.alloc (.cells (List.toArray (.int .u8 0 :: .int .u8 0 :: .int .u8 0 :: .int .u8 0 :: .int .u8 0 :: .int .u8 0 :: .int .u8 0 :: .int .u8 0 :: .int .u8 0 :: .int .u8 0 :: .int .u8 0 :: .int .u8 0 :: .int .u8 0 :: .int .u8 0 :: .int .u8 0 :: .int .u8 0 :: .int .u8 0 :: .int .u8 0 :: .int .u8 0 :: .int .u8 0 :: .int .u8 0 :: .int .u8 0 :: .int .u8 0 :: .int .u8 0 :: .int .u8 0 :: .int .u8 0 :: .int .u8 0 :: .int .u8 0 :: .int .u8 0 :: .int .u8 0 :: .int .u8 0 :: .int .u8 0 :: .int .i64 0 :: .int .i64 0 :: .int .i64 0 :: [] : List Value) : Array Value) 69)) rfl (by kernel_rfl) (by rw [← hgA]; go_simp) (World.rangeAt_alloc rT _) (fun hHeld2 => ?_) AllReadyH.nil))
          · skip
            refine (Hi2.out _ HG.out).mono ?_
            rintro e w5 ⟨rfl, hb5⟩
            refine ⟨_, rfl, rangeAt_below' rT hb5, fun hHeld5 => ?_⟩
            try simp only [Act.put, List.setIfInBounds_toArray, List.set_cons_zero, List.set_cons_succ]
            refine take_h 10 ?_ rfl (by kernel_rfl) (by kernel_rfl) (by kernel_rfl) (fun _ _ _ h => h) (Or.inl ⟨by kernel_rfl, ?_⟩) (by assumption) ?_
            rotate_left
            · (intro w hSw; (try dsimp only at hSw); go_simp; try (with_reducible rfl))
            try simp only [Act.put, List.setIfInBounds_toArray, List.set_cons_zero, List.set_cons_succ]
            refine take_h 11 ?_ rfl (by kernel_rfl) (by kernel_rfl) (by kernel_rfl) (fun _ _ _ h => h) (Or.inl ⟨by kernel_rfl, ?_⟩) (by assumption) ?_
            rotate_left
            · (intro w hSw; (try dsimp only at hSw); go_simp; try (with_reducible rfl))
            try simp only [Act.put, List.setIfInBounds_toArray, List.set_cons_zero, List.set_cons_succ]
            refine take_h 12 ?_ rfl (by kernel_rfl) (by kernel_rfl) (by kernel_rfl) (fun _ _ _ h => h) (Or.inl ⟨by kernel_rfl, ?_⟩) (by assumption) ?_
            rotate_left
            · (intro w hSw; (try dsimp only at hSw); go_simp; try (with_reducible rfl))
            try simp only [Act.put, List.setIfInBounds_toArray, List.set_cons_zero, List.set_cons_succ]
            refine take_h 13 ?_ rfl (by kernel_rfl) (by kernel_rfl) (by kernel_rfl) (fun _ _ _ h => h) (Or.inl ⟨by kernel_rfl, ?_⟩) (by assumption) ?_
            rotate_left
            · (intro w hSw; (try dsimp only at hSw); go_simp; try (with_reducible rfl))
            try simp only [Act.put, List.setIfInBounds_toArray, List.set_cons_zero, List.set_cons_succ]
            refine take_h 14 ?_ rfl (by kernel_rfl) (by kernel_rfl) (by kernel_rfl) (fun _ _ _ h => h) (Or.inl ⟨by kernel_rfl, ?_⟩) (by assumption) ?_
            rotate_left
            · (intro w hSw; (try dsimp only at hSw); go_simp; try (with_reducible rfl))
            try simp only [Act.put, List.setIfInBounds_toArray, List.set_cons_zero, List.set_cons_succ]
            refine take_h 15 ?_ rfl (by kernel_rfl) (by kernel_rfl) (by kernel_rfl) (fun _ _ _ h => h) (Or.inl ⟨by kernel_rfl, ?_⟩) (by assumption) ?_
            rotate_left
            · (intro w hSw; (try dsimp only at hSw); go_simp; try (with_reducible rfl))
            try simp only [Act.put, List.setIfInBounds_toArray, List.set_cons_zero, List.set_cons_succ]
            obtain ⟨gB, hgB⟩ : ∃ g, w5.heap.size = g := ⟨_, rfl⟩
            refine oper_h 16 (.pointer (some ⟨gB, 0, none⟩)) (w5.alloc (.cells (List.toArray (.int .u8 0 :: .int .u8 0 :: .int .u8 0 :: .int .u8 0 :: .int .u8 0 :: .int .u8 0 :: .int .u8 0 :: .int .u8 0 :: .int .u8 0 :: .int .u8 0 :: .int .u8 0 :: .int .u8 0 :: .int .u8 0 :: .int .u8 0 :: .int .u8 0 :: .int .u8 0 :: .int .u8 0 :: .int .u8 0 :: .int .u8 0 :: .int .u8 0 :: .int .u8 0 :: .int .u8 0 :: .int .u8 0 :: .int .u8 0 :: .int .u8 0 :: .int .u8 0 :: .int .u8 0 :: .int .u8 0 :: .int .u8 0 :: .int .u8 0 :: .int .u8 0 :: .int .u8 0 :: .int .i64 0 :: .int .i64 0 :: .int .i64 0 :: [] : List Value) : Array Value) 69)) rfl (by kernel_rfl) (by kernel_rfl) (by rw [← hgB]; go_simp) (World.rangeAt_alloc hHeld5 _) (fun hHeld6 => ?_)
            clear hHeld5
            try simp only [Act.put, List.setIfInBounds_toArray, List.set_cons_zero, List.set_cons_succ]
            refine skip_h 17 ((w5.alloc (.cells (List.toArray (.int .u8 0 :: .int .u8 0 :: .int .u8 0 :: .int .u8 0 :: .int .u8 0 :: .int .u8 0 :: .int .u8 0 :: .int .u8 0 :: .int .u8 0 :: .int .u8 0 :: .int .u8 0 :: .int .u8 0 :: .int .u8 0 :: .int .u8 0 :: .int .u8 0 :: .int .u8 0 :: .int .u8 0 :: .int .u8 0 :: .int .u8 0 :: .int .u8 0 :: .int .u8 0 :: .int .u8 0 :: .int .u8 0 :: .int .u8 0 :: .int .u8 0 :: .int .u8 0 :: .int .u8 0 :: .int .u8 0 :: .int .u8 0 :: .int .u8 0 :: .int .u8 0 :: .int .u8 0 :: .int .i64 0 :: .int .i64 0 :: .int .i64 0 :: [] : List Value) : Array Value) 69)).setRow gB F2.toArray) rfl (by kernel_rfl) (by kernel_rfl) (exec_store_row 69 (.tmp 26) (.tmp 73) rfl gB F2.toArray rfl rfl 69 (List.toArray (.int .u8 0 :: .int .u8 0 :: .int .u8 0 :: .int .u8 0 :: .int .u8 0 :: .int .u8 0 :: .int .u8 0 :: .int .u8 0 :: .int .u8 0 :: .int .u8 0 :: .int .u8 0 :: .int .u8 0 :: .int .u8 0 :: .int .u8 0 :: .int .u8 0 :: .int .u8 0 :: .int .u8 0 :: .int .u8 0 :: .int .u8 0 :: .int .u8 0 :: .int .u8 0 :: .int .u8 0 :: .int .u8 0 :: .int .u8 0 :: .int .u8 0 :: .int .u8 0 :: .int .u8 0 :: .int .u8 0 :: .int .u8 0 :: .int .u8 0 :: .int .u8 0 :: .int .u8 0 :: .int .i64 0 :: .int .i64 0 :: .int .i64 0 :: [] : List Value) : Array Value) (by rw [← hgB]; exact heap_alloc_new w5 _) IF2.out SF2.out AF2.out) (rangeAt_setRow hHeld6 (by have := hb5.size; omega)) (fun hHeld7 => ?_)
            clear hHeld6
            try simp only [Act.put]
            refine take_h 18 ?_ rfl (by kernel_rfl) (by kernel_rfl) (by kernel_rfl) (fun _ _ _ h => h) (Or.inl ⟨by kernel_rfl, ?_⟩) (by assumption) ?_
            rotate_left
            · (intro w hSw; (try dsimp only at hSw); go_simp; try (with_reducible rfl))
            try simp only [Act.put, List.setIfInBounds_toArray, List.set_cons_zero, List.set_cons_succ]
            refine take_h 19 ?_ rfl (by kernel_rfl) (by kernel_rfl) (by kernel_rfl) (fun _ _ _ h => h) (Or.inl ⟨by kernel_rfl, ?_⟩) (by assumption) ?_
            rotate_left
            · (intro w hSw; (try dsimp only at hSw); go_simp; try (with_reducible rfl))
            try simp only [Act.put, List.setIfInBounds_toArray, List.set_cons_zero, List.set_cons_succ]
            refine take_h 20 ?_ rfl (by kernel_rfl) (by kernel_rfl) (by kernel_rfl) (fun _ _ _ h => h) (Or.inl ⟨by kernel_rfl, ?_⟩) (by assumption) ?_
            rotate_left
            · (intro w hSw; (try dsimp only at hSw); go_simp; try (with_reducible rfl))
            try simp only [Act.put, List.setIfInBounds_toArray, List.set_cons_zero, List.set_cons_succ]
            refine take_h 21 ?_ rfl (by kernel_rfl) (by kernel_rfl) (by kernel_rfl) (fun _ _ _ h => h) (Or.inl ⟨by kernel_rfl, ?_⟩) (by assumption) ?_
            rotate_left
            · (intro w hSw; (try dsimp only at hSw); go_simp; try (with_reducible rfl))
            try simp only [Act.put, List.setIfInBounds_toArray, List.set_cons_zero, List.set_cons_succ]
            refine wpAnyH_done (by kernel_rfl) ?_ _
            have hz := hb5.size
            exact ⟨gB, rfl, ⟨(setRow_other _ gB (w.heap.size + 1) _ (by omega)).trans ((Below.heap_alloc w5 _ _ (by omega)).trans (blk hb5 hHV2 rU0)), setRow_heap _ _ _ _ _ _ (by rw [← hgB]; exact heap_alloc_new w5 _), below_row ((HV.out.trans (hb5.mono HV.out.size)).alloc (by have := HV.out.size; omega) _) (by have := HV.out.size; omega) _⟩⟩
          · try simp only [Act.put, List.setIfInBounds_toArray, List.set_cons_zero, List.set_cons_succ]
            refine call_h 9 rfl (by kernel_rfl) 36 #[.int .i64 x, .int .i64 z, .agg UC.toArray, .int .i64 val2, .int .i64 v, .int .i64 u] (by kernel_rfl) (by go_simp) ?_
            refine (Hi2.out _ (HG.out.below (below_alloc V _))).mono ?_
            rintro e w5 ⟨rfl, hb5⟩
            have hb6 : Below V.heap.size V w5 := (below_alloc V _).trans (hb5.mono (by rw [size_alloc]; omega))
            have rz5 : w5.heap[gA]? = some (.cells (List.toArray (.int .u8 0 :: .int .u8 0 :: .int .u8 0 :: .int .u8 0 :: .int .u8 0 :: .int .u8 0 :: .int .u8 0 :: .int .u8 0 :: .int .u8 0 :: .int .u8 0 :: .int .u8 0 :: .int .u8 0 :: .int .u8 0 :: .int .u8 0 :: .int .u8 0 :: .int .u8 0 :: .int .u8 0 :: .int .u8 0 :: .int .u8 0 :: .int .u8 0 :: .int .u8 0 :: .int .u8 0 :: .int .u8 0 :: .int .u8 0 :: .int .u8 0 :: .int .u8 0 :: .int .u8 0 :: .int .u8 0 :: .int .u8 0 :: .int .u8 0 :: .int .u8 0 :: .int .u8 0 :: .int .i64 0 :: .int .i64 0 :: .int .i64 0 :: [] : List Value) : Array Value) 69 (0, 0)) := by rw [← hgA]; exact (hb5.block _ (by rw [size_alloc]; omega)).trans (heap_alloc_new V _)
            refine ⟨_, rfl, rangeAt_below' rT hb6, fun hHeld5 => ?_⟩
            try simp only [Act.put, List.setIfInBounds_toArray, List.set_cons_zero, List.set_cons_succ]
            refine take_h 10 ?_ rfl (by kernel_rfl) (by kernel_rfl) (by kernel_rfl) (fun _ _ _ h => h) (Or.inl ⟨by kernel_rfl, ?_⟩) (by assumption) ?_
            rotate_left
            · (intro w hSw; (try dsimp only at hSw); go_simp; try (with_reducible rfl))
            try simp only [Act.put, List.setIfInBounds_toArray, List.set_cons_zero, List.set_cons_succ]
            refine take_h 11 ?_ rfl (by kernel_rfl) (by kernel_rfl) (by kernel_rfl) (fun _ _ _ h => h) (Or.inl ⟨by kernel_rfl, ?_⟩) (by assumption) ?_
            rotate_left
            · (intro w hSw; (try dsimp only at hSw); go_simp; try (with_reducible rfl))
            try simp only [Act.put, List.setIfInBounds_toArray, List.set_cons_zero, List.set_cons_succ]
            refine take_h 12 ?_ rfl (by kernel_rfl) (by kernel_rfl) (by kernel_rfl) (fun _ _ _ h => h) (Or.inl ⟨by kernel_rfl, ?_⟩) (by assumption) ?_
            rotate_left
            · (intro w hSw; (try dsimp only at hSw); go_simp; try (with_reducible rfl))
            try simp only [Act.put, List.setIfInBounds_toArray, List.set_cons_zero, List.set_cons_succ]
            refine take_h 13 ?_ rfl (by kernel_rfl) (by kernel_rfl) (by kernel_rfl) (fun _ _ _ h => h) (Or.inl ⟨by kernel_rfl, ?_⟩) (by assumption) ?_
            rotate_left
            · (intro w hSw; (try dsimp only at hSw); go_simp; try (with_reducible rfl))
            try simp only [Act.put, List.setIfInBounds_toArray, List.set_cons_zero, List.set_cons_succ]
            refine take_h 14 ?_ rfl (by kernel_rfl) (by kernel_rfl) (by kernel_rfl) (fun _ _ _ h => h) (Or.inl ⟨by kernel_rfl, ?_⟩) (by assumption) ?_
            rotate_left
            · (intro w hSw; (try dsimp only at hSw); go_simp; try (with_reducible rfl))
            try simp only [Act.put, List.setIfInBounds_toArray, List.set_cons_zero, List.set_cons_succ]
            refine take_h 15 ?_ rfl (by kernel_rfl) (by kernel_rfl) (by kernel_rfl) (fun _ _ _ h => h) (Or.inl ⟨by kernel_rfl, ?_⟩) (by assumption) ?_
            rotate_left
            · (intro w hSw; (try dsimp only at hSw); go_simp; try (with_reducible rfl))
            try simp only [Act.put, List.setIfInBounds_toArray, List.set_cons_zero, List.set_cons_succ]
            refine skip_h 17 (w5.setRow gA F2.toArray) rfl (by kernel_rfl) (by kernel_rfl) (exec_store_row 69 (.tmp 26) (.tmp 73) rfl gA F2.toArray rfl rfl 69 (List.toArray (.int .u8 0 :: .int .u8 0 :: .int .u8 0 :: .int .u8 0 :: .int .u8 0 :: .int .u8 0 :: .int .u8 0 :: .int .u8 0 :: .int .u8 0 :: .int .u8 0 :: .int .u8 0 :: .int .u8 0 :: .int .u8 0 :: .int .u8 0 :: .int .u8 0 :: .int .u8 0 :: .int .u8 0 :: .int .u8 0 :: .int .u8 0 :: .int .u8 0 :: .int .u8 0 :: .int .u8 0 :: .int .u8 0 :: .int .u8 0 :: .int .u8 0 :: .int .u8 0 :: .int .u8 0 :: .int .u8 0 :: .int .u8 0 :: .int .u8 0 :: .int .u8 0 :: .int .u8 0 :: .int .i64 0 :: .int .i64 0 :: .int .i64 0 :: [] : List Value) : Array Value) rz5 IF2.out SF2.out AF2.out) (rangeAt_setRow hHeld5 (by omega)) (fun hHeld6 => ?_)
            clear hHeld5
            try simp only [Act.put]
            refine take_h 18 ?_ rfl (by kernel_rfl) (by kernel_rfl) (by kernel_rfl) (fun _ _ _ h => h) (Or.inl ⟨by kernel_rfl, ?_⟩) (by assumption) ?_
            rotate_left
            · (intro w hSw; (try dsimp only at hSw); go_simp; try (with_reducible rfl))
            try simp only [Act.put, List.setIfInBounds_toArray, List.set_cons_zero, List.set_cons_succ]
            refine take_h 19 ?_ rfl (by kernel_rfl) (by kernel_rfl) (by kernel_rfl) (fun _ _ _ h => h) (Or.inl ⟨by kernel_rfl, ?_⟩) (by assumption) ?_
            rotate_left
            · (intro w hSw; (try dsimp only at hSw); go_simp; try (with_reducible rfl))
            try simp only [Act.put, List.setIfInBounds_toArray, List.set_cons_zero, List.set_cons_succ]
            refine take_h 20 ?_ rfl (by kernel_rfl) (by kernel_rfl) (by kernel_rfl) (fun _ _ _ h => h) (Or.inl ⟨by kernel_rfl, ?_⟩) (by assumption) ?_
            rotate_left
            · (intro w hSw; (try dsimp only at hSw); go_simp; try (with_reducible rfl))
            try simp only [Act.put, List.setIfInBounds_toArray, List.set_cons_zero, List.set_cons_succ]
            refine take_h 21 ?_ rfl (by kernel_rfl) (by kernel_rfl) (by kernel_rfl) (fun _ _ _ h => h) (Or.inl ⟨by kernel_rfl, ?_⟩) (by assumption) ?_
            rotate_left
            · (intro w hSw; (try dsimp only at hSw); go_simp; try (with_reducible rfl))
            try simp only [Act.put, List.setIfInBounds_toArray, List.set_cons_zero, List.set_cons_succ]
            refine wpAnyH_done (by kernel_rfl) ?_ _
            exact ⟨gA, rfl, ⟨(setRow_other w5 gA (w.heap.size + 1) _ (by omega)).trans (blk hb6 hHV2 rU0), setRow_heap _ _ _ _ _ _ rz5, below_row (HV.out.trans (hb6.mono HV.out.size)) (by rw [← hgA]; exact HV.out.size) _⟩⟩
        · try simp only [Act.put, List.setIfInBounds_toArray, List.set_cons_zero, List.set_cons_succ]
          refine call_h 6 rfl (by kernel_rfl) 37 #[.int .i64 n] (by kernel_rfl) (by go_simp) ?_
          refine (Hv2.out _).mono ?_
          rintro e w' ⟨rfl, rfl⟩
          refine ⟨_, rfl, by assumption, fun _ => ?_⟩
          try simp only [Act.put, List.setIfInBounds_toArray, List.set_cons_zero, List.set_cons_succ]
          refine call_h 9 rfl (by kernel_rfl) 36 #[.int .i64 x, .int .i64 z, .agg UC.toArray, .int .i64 val2, .int .i64 v, .int .i64 u] (by kernel_rfl) (by go_simp) ?_
          refine (Hi2.out _ (HG.out.below (below_alloc V _))).mono ?_
          rintro e w5 ⟨rfl, hb5⟩
          have hb6 : Below V.heap.size V w5 := (below_alloc V _).trans (hb5.mono (by rw [size_alloc]; omega))
          have rz5 : w5.heap[gA]? = some (.cells (List.toArray (.int .u8 0 :: .int .u8 0 :: .int .u8 0 :: .int .u8 0 :: .int .u8 0 :: .int .u8 0 :: .int .u8 0 :: .int .u8 0 :: .int .u8 0 :: .int .u8 0 :: .int .u8 0 :: .int .u8 0 :: .int .u8 0 :: .int .u8 0 :: .int .u8 0 :: .int .u8 0 :: .int .u8 0 :: .int .u8 0 :: .int .u8 0 :: .int .u8 0 :: .int .u8 0 :: .int .u8 0 :: .int .u8 0 :: .int .u8 0 :: .int .u8 0 :: .int .u8 0 :: .int .u8 0 :: .int .u8 0 :: .int .u8 0 :: .int .u8 0 :: .int .u8 0 :: .int .u8 0 :: .int .i64 0 :: .int .i64 0 :: .int .i64 0 :: [] : List Value) : Array Value) 69 (0, 0)) := by rw [← hgA]; exact (hb5.block _ (by rw [size_alloc]; omega)).trans (heap_alloc_new V _)
          refine ⟨_, rfl, rangeAt_below' rT hb6, fun hHeld5 => ?_⟩
          try simp only [Act.put, List.setIfInBounds_toArray, List.set_cons_zero, List.set_cons_succ]
          refine take_h 10 ?_ rfl (by kernel_rfl) (by kernel_rfl) (by kernel_rfl) (fun _ _ _ h => h) (Or.inl ⟨by kernel_rfl, ?_⟩) (by assumption) ?_
          rotate_left
          · (intro w hSw; (try dsimp only at hSw); go_simp; try (with_reducible rfl))
          try simp only [Act.put, List.setIfInBounds_toArray, List.set_cons_zero, List.set_cons_succ]
          refine take_h 11 ?_ rfl (by kernel_rfl) (by kernel_rfl) (by kernel_rfl) (fun _ _ _ h => h) (Or.inl ⟨by kernel_rfl, ?_⟩) (by assumption) ?_
          rotate_left
          · (intro w hSw; (try dsimp only at hSw); go_simp; try (with_reducible rfl))
          try simp only [Act.put, List.setIfInBounds_toArray, List.set_cons_zero, List.set_cons_succ]
          refine take_h 12 ?_ rfl (by kernel_rfl) (by kernel_rfl) (by kernel_rfl) (fun _ _ _ h => h) (Or.inl ⟨by kernel_rfl, ?_⟩) (by assumption) ?_
          rotate_left
          · (intro w hSw; (try dsimp only at hSw); go_simp; try (with_reducible rfl))
          try simp only [Act.put, List.setIfInBounds_toArray, List.set_cons_zero, List.set_cons_succ]
          refine take_h 13 ?_ rfl (by kernel_rfl) (by kernel_rfl) (by kernel_rfl) (fun _ _ _ h => h) (Or.inl ⟨by kernel_rfl, ?_⟩) (by assumption) ?_
          rotate_left
          · (intro w hSw; (try dsimp only at hSw); go_simp; try (with_reducible rfl))
          try simp only [Act.put, List.setIfInBounds_toArray, List.set_cons_zero, List.set_cons_succ]
          refine take_h 14 ?_ rfl (by kernel_rfl) (by kernel_rfl) (by kernel_rfl) (fun _ _ _ h => h) (Or.inl ⟨by kernel_rfl, ?_⟩) (by assumption) ?_
          rotate_left
          · (intro w hSw; (try dsimp only at hSw); go_simp; try (with_reducible rfl))
          try simp only [Act.put, List.setIfInBounds_toArray, List.set_cons_zero, List.set_cons_succ]
          refine take_h 15 ?_ rfl (by kernel_rfl) (by kernel_rfl) (by kernel_rfl) (fun _ _ _ h => h) (Or.inl ⟨by kernel_rfl, ?_⟩) (by assumption) ?_
          rotate_left
          · (intro w hSw; (try dsimp only at hSw); go_simp; try (with_reducible rfl))
          try simp only [Act.put, List.setIfInBounds_toArray, List.set_cons_zero, List.set_cons_succ]
          refine skip_h 17 (w5.setRow gA F2.toArray) rfl (by kernel_rfl) (by kernel_rfl) (exec_store_row 69 (.tmp 26) (.tmp 73) rfl gA F2.toArray rfl rfl 69 (List.toArray (.int .u8 0 :: .int .u8 0 :: .int .u8 0 :: .int .u8 0 :: .int .u8 0 :: .int .u8 0 :: .int .u8 0 :: .int .u8 0 :: .int .u8 0 :: .int .u8 0 :: .int .u8 0 :: .int .u8 0 :: .int .u8 0 :: .int .u8 0 :: .int .u8 0 :: .int .u8 0 :: .int .u8 0 :: .int .u8 0 :: .int .u8 0 :: .int .u8 0 :: .int .u8 0 :: .int .u8 0 :: .int .u8 0 :: .int .u8 0 :: .int .u8 0 :: .int .u8 0 :: .int .u8 0 :: .int .u8 0 :: .int .u8 0 :: .int .u8 0 :: .int .u8 0 :: .int .u8 0 :: .int .i64 0 :: .int .i64 0 :: .int .i64 0 :: [] : List Value) : Array Value) rz5 IF2.out SF2.out AF2.out) (rangeAt_setRow hHeld5 (by omega)) (fun hHeld6 => ?_)
          clear hHeld5
          try simp only [Act.put]
          refine take_h 18 ?_ rfl (by kernel_rfl) (by kernel_rfl) (by kernel_rfl) (fun _ _ _ h => h) (Or.inl ⟨by kernel_rfl, ?_⟩) (by assumption) ?_
          rotate_left
          · (intro w hSw; (try dsimp only at hSw); go_simp; try (with_reducible rfl))
          try simp only [Act.put, List.setIfInBounds_toArray, List.set_cons_zero, List.set_cons_succ]
          refine take_h 19 ?_ rfl (by kernel_rfl) (by kernel_rfl) (by kernel_rfl) (fun _ _ _ h => h) (Or.inl ⟨by kernel_rfl, ?_⟩) (by assumption) ?_
          rotate_left
          · (intro w hSw; (try dsimp only at hSw); go_simp; try (with_reducible rfl))
          try simp only [Act.put, List.setIfInBounds_toArray, List.set_cons_zero, List.set_cons_succ]
          refine take_h 20 ?_ rfl (by kernel_rfl) (by kernel_rfl) (by kernel_rfl) (fun _ _ _ h => h) (Or.inl ⟨by kernel_rfl, ?_⟩) (by assumption) ?_
          rotate_left
          · (intro w hSw; (try dsimp only at hSw); go_simp; try (with_reducible rfl))
          try simp only [Act.put, List.setIfInBounds_toArray, List.set_cons_zero, List.set_cons_succ]
          refine take_h 21 ?_ rfl (by kernel_rfl) (by kernel_rfl) (by kernel_rfl) (fun _ _ _ h => h) (Or.inl ⟨by kernel_rfl, ?_⟩) (by assumption) ?_
          rotate_left
          · (intro w hSw; (try dsimp only at hSw); go_simp; try (with_reducible rfl))
          try simp only [Act.put, List.setIfInBounds_toArray, List.set_cons_zero, List.set_cons_succ]
          refine wpAnyH_done (by kernel_rfl) ?_ _
          exact ⟨gA, rfl, ⟨(setRow_other w5 gA (w.heap.size + 1) _ (by omega)).trans (blk hb6 hHV2 rU0), setRow_heap _ _ _ _ _ _ rz5, below_row (HV.out.trans (hb6.mono HV.out.size)) (by rw [← hgA]; exact HV.out.size) _⟩⟩
      · try simp only [Act.put, List.setIfInBounds_toArray, List.set_cons_zero, List.set_cons_succ]
        refine call_h 3 rfl (by kernel_rfl) 35 #[.int .u32 cc] (by kernel_rfl) (by go_simp) ?_
        refine (Hs3.out _).mono ?_
        rintro e w' ⟨rfl, rfl⟩
        refine ⟨_, rfl, by assumption, fun _ => ?_⟩
        try simp only [Act.put, List.setIfInBounds_toArray, List.set_cons_zero, List.set_cons_succ]
        refine call_h 6 rfl (by kernel_rfl) 37 #[.int .i64 n] (by kernel_rfl) (by go_simp) ?_
        refine (Hv2.out _).mono ?_
        rintro e w' ⟨rfl, rfl⟩
        refine ⟨_, rfl, by assumption, fun _ => ?_⟩
        try simp only [Act.put, List.setIfInBounds_toArray, List.set_cons_zero, List.set_cons_succ]
        refine call_h 9 rfl (by kernel_rfl) 36 #[.int .i64 x, .int .i64 z, .agg UC.toArray, .int .i64 val2, .int .i64 v, .int .i64 u] (by kernel_rfl) (by go_simp) ?_
        refine (Hi2.out _ (HG.out.below (below_alloc V _))).mono ?_
        rintro e w5 ⟨rfl, hb5⟩
        have hb6 : Below V.heap.size V w5 := (below_alloc V _).trans (hb5.mono (by rw [size_alloc]; omega))
        have rz5 : w5.heap[gA]? = some (.cells (List.toArray (.int .u8 0 :: .int .u8 0 :: .int .u8 0 :: .int .u8 0 :: .int .u8 0 :: .int .u8 0 :: .int .u8 0 :: .int .u8 0 :: .int .u8 0 :: .int .u8 0 :: .int .u8 0 :: .int .u8 0 :: .int .u8 0 :: .int .u8 0 :: .int .u8 0 :: .int .u8 0 :: .int .u8 0 :: .int .u8 0 :: .int .u8 0 :: .int .u8 0 :: .int .u8 0 :: .int .u8 0 :: .int .u8 0 :: .int .u8 0 :: .int .u8 0 :: .int .u8 0 :: .int .u8 0 :: .int .u8 0 :: .int .u8 0 :: .int .u8 0 :: .int .u8 0 :: .int .u8 0 :: .int .i64 0 :: .int .i64 0 :: .int .i64 0 :: [] : List Value) : Array Value) 69 (0, 0)) := by rw [← hgA]; exact (hb5.block _ (by rw [size_alloc]; omega)).trans (heap_alloc_new V _)
        refine ⟨_, rfl, rangeAt_below' rT hb6, fun hHeld5 => ?_⟩
        try simp only [Act.put, List.setIfInBounds_toArray, List.set_cons_zero, List.set_cons_succ]
        refine take_h 10 ?_ rfl (by kernel_rfl) (by kernel_rfl) (by kernel_rfl) (fun _ _ _ h => h) (Or.inl ⟨by kernel_rfl, ?_⟩) (by assumption) ?_
        rotate_left
        · (intro w hSw; (try dsimp only at hSw); go_simp; try (with_reducible rfl))
        try simp only [Act.put, List.setIfInBounds_toArray, List.set_cons_zero, List.set_cons_succ]
        refine take_h 11 ?_ rfl (by kernel_rfl) (by kernel_rfl) (by kernel_rfl) (fun _ _ _ h => h) (Or.inl ⟨by kernel_rfl, ?_⟩) (by assumption) ?_
        rotate_left
        · (intro w hSw; (try dsimp only at hSw); go_simp; try (with_reducible rfl))
        try simp only [Act.put, List.setIfInBounds_toArray, List.set_cons_zero, List.set_cons_succ]
        refine take_h 12 ?_ rfl (by kernel_rfl) (by kernel_rfl) (by kernel_rfl) (fun _ _ _ h => h) (Or.inl ⟨by kernel_rfl, ?_⟩) (by assumption) ?_
        rotate_left
        · (intro w hSw; (try dsimp only at hSw); go_simp; try (with_reducible rfl))
        try simp only [Act.put, List.setIfInBounds_toArray, List.set_cons_zero, List.set_cons_succ]
        refine take_h 13 ?_ rfl (by kernel_rfl) (by kernel_rfl) (by kernel_rfl) (fun _ _ _ h => h) (Or.inl ⟨by kernel_rfl, ?_⟩) (by assumption) ?_
        rotate_left
        · (intro w hSw; (try dsimp only at hSw); go_simp; try (with_reducible rfl))
        try simp only [Act.put, List.setIfInBounds_toArray, List.set_cons_zero, List.set_cons_succ]
        refine take_h 14 ?_ rfl (by kernel_rfl) (by kernel_rfl) (by kernel_rfl) (fun _ _ _ h => h) (Or.inl ⟨by kernel_rfl, ?_⟩) (by assumption) ?_
        rotate_left
        · (intro w hSw; (try dsimp only at hSw); go_simp; try (with_reducible rfl))
        try simp only [Act.put, List.setIfInBounds_toArray, List.set_cons_zero, List.set_cons_succ]
        refine take_h 15 ?_ rfl (by kernel_rfl) (by kernel_rfl) (by kernel_rfl) (fun _ _ _ h => h) (Or.inl ⟨by kernel_rfl, ?_⟩) (by assumption) ?_
        rotate_left
        · (intro w hSw; (try dsimp only at hSw); go_simp; try (with_reducible rfl))
        try simp only [Act.put, List.setIfInBounds_toArray, List.set_cons_zero, List.set_cons_succ]
        refine skip_h 17 (w5.setRow gA F2.toArray) rfl (by kernel_rfl) (by kernel_rfl) (exec_store_row 69 (.tmp 26) (.tmp 73) rfl gA F2.toArray rfl rfl 69 (List.toArray (.int .u8 0 :: .int .u8 0 :: .int .u8 0 :: .int .u8 0 :: .int .u8 0 :: .int .u8 0 :: .int .u8 0 :: .int .u8 0 :: .int .u8 0 :: .int .u8 0 :: .int .u8 0 :: .int .u8 0 :: .int .u8 0 :: .int .u8 0 :: .int .u8 0 :: .int .u8 0 :: .int .u8 0 :: .int .u8 0 :: .int .u8 0 :: .int .u8 0 :: .int .u8 0 :: .int .u8 0 :: .int .u8 0 :: .int .u8 0 :: .int .u8 0 :: .int .u8 0 :: .int .u8 0 :: .int .u8 0 :: .int .u8 0 :: .int .u8 0 :: .int .u8 0 :: .int .u8 0 :: .int .i64 0 :: .int .i64 0 :: .int .i64 0 :: [] : List Value) : Array Value) rz5 IF2.out SF2.out AF2.out) (rangeAt_setRow hHeld5 (by omega)) (fun hHeld6 => ?_)
        clear hHeld5
        try simp only [Act.put]
        refine take_h 18 ?_ rfl (by kernel_rfl) (by kernel_rfl) (by kernel_rfl) (fun _ _ _ h => h) (Or.inl ⟨by kernel_rfl, ?_⟩) (by assumption) ?_
        rotate_left
        · (intro w hSw; (try dsimp only at hSw); go_simp; try (with_reducible rfl))
        try simp only [Act.put, List.setIfInBounds_toArray, List.set_cons_zero, List.set_cons_succ]
        refine take_h 19 ?_ rfl (by kernel_rfl) (by kernel_rfl) (by kernel_rfl) (fun _ _ _ h => h) (Or.inl ⟨by kernel_rfl, ?_⟩) (by assumption) ?_
        rotate_left
        · (intro w hSw; (try dsimp only at hSw); go_simp; try (with_reducible rfl))
        try simp only [Act.put, List.setIfInBounds_toArray, List.set_cons_zero, List.set_cons_succ]
        refine take_h 20 ?_ rfl (by kernel_rfl) (by kernel_rfl) (by kernel_rfl) (fun _ _ _ h => h) (Or.inl ⟨by kernel_rfl, ?_⟩) (by assumption) ?_
        rotate_left
        · (intro w hSw; (try dsimp only at hSw); go_simp; try (with_reducible rfl))
        try simp only [Act.put, List.setIfInBounds_toArray, List.set_cons_zero, List.set_cons_succ]
        refine take_h 21 ?_ rfl (by kernel_rfl) (by kernel_rfl) (by kernel_rfl) (fun _ _ _ h => h) (Or.inl ⟨by kernel_rfl, ?_⟩) (by assumption) ?_
        rotate_left
        · (intro w hSw; (try dsimp only at hSw); go_simp; try (with_reducible rfl))
        try simp only [Act.put, List.setIfInBounds_toArray, List.set_cons_zero, List.set_cons_succ]
        refine wpAnyH_done (by kernel_rfl) ?_ _
        exact ⟨gA, rfl, ⟨(setRow_other w5 gA (w.heap.size + 1) _ (by omega)).trans (blk hb6 hHV2 rU0), setRow_heap _ _ _ _ _ _ rz5, below_row (HV.out.trans (hb6.mono HV.out.size)) (by rw [← hgA]; exact HV.out.size) _⟩⟩
    · try simp only [Act.put, List.setIfInBounds_toArray, List.set_cons_zero, List.set_cons_succ]
      refine call_h 1 rfl (by kernel_rfl) 35 #[.int .u32 a] (by kernel_rfl) (by go_simp) ?_
      refine (Hs1.out _).mono ?_
      rintro e w' ⟨rfl, rfl⟩
      refine ⟨_, rfl, by assumption, fun _ => ?_⟩
      try simp only [Act.put, List.setIfInBounds_toArray, List.set_cons_zero, List.set_cons_succ]
      refine call_h 3 rfl (by kernel_rfl) 35 #[.int .u32 cc] (by kernel_rfl) (by go_simp) ?_
      refine (Hs3.out _).mono ?_
      rintro e w' ⟨rfl, rfl⟩
      refine ⟨_, rfl, by assumption, fun _ => ?_⟩
      try simp only [Act.put, List.setIfInBounds_toArray, List.set_cons_zero, List.set_cons_succ]
      refine call_h 6 rfl (by kernel_rfl) 37 #[.int .i64 n] (by kernel_rfl) (by go_simp) ?_
      refine (Hv2.out _).mono ?_
      rintro e w' ⟨rfl, rfl⟩
      refine ⟨_, rfl, by assumption, fun _ => ?_⟩
      try simp only [Act.put, List.setIfInBounds_toArray, List.set_cons_zero, List.set_cons_succ]
      refine call_h 9 rfl (by kernel_rfl) 36 #[.int .i64 x, .int .i64 z, .agg UC.toArray, .int .i64 val2, .int .i64 v, .int .i64 u] (by kernel_rfl) (by go_simp) ?_
      refine (Hi2.out _ (HG.out.below (below_alloc V _))).mono ?_
      rintro e w5 ⟨rfl, hb5⟩
      have hb6 : Below V.heap.size V w5 := (below_alloc V _).trans (hb5.mono (by rw [size_alloc]; omega))
      have rz5 : w5.heap[gA]? = some (.cells (List.toArray (.int .u8 0 :: .int .u8 0 :: .int .u8 0 :: .int .u8 0 :: .int .u8 0 :: .int .u8 0 :: .int .u8 0 :: .int .u8 0 :: .int .u8 0 :: .int .u8 0 :: .int .u8 0 :: .int .u8 0 :: .int .u8 0 :: .int .u8 0 :: .int .u8 0 :: .int .u8 0 :: .int .u8 0 :: .int .u8 0 :: .int .u8 0 :: .int .u8 0 :: .int .u8 0 :: .int .u8 0 :: .int .u8 0 :: .int .u8 0 :: .int .u8 0 :: .int .u8 0 :: .int .u8 0 :: .int .u8 0 :: .int .u8 0 :: .int .u8 0 :: .int .u8 0 :: .int .u8 0 :: .int .i64 0 :: .int .i64 0 :: .int .i64 0 :: [] : List Value) : Array Value) 69 (0, 0)) := by rw [← hgA]; exact (hb5.block _ (by rw [size_alloc]; omega)).trans (heap_alloc_new V _)
      refine ⟨_, rfl, rangeAt_below' rT hb6, fun hHeld5 => ?_⟩
      try simp only [Act.put, List.setIfInBounds_toArray, List.set_cons_zero, List.set_cons_succ]
      refine take_h 10 ?_ rfl (by kernel_rfl) (by kernel_rfl) (by kernel_rfl) (fun _ _ _ h => h) (Or.inl ⟨by kernel_rfl, ?_⟩) (by assumption) ?_
      rotate_left
      · (intro w hSw; (try dsimp only at hSw); go_simp; try (with_reducible rfl))
      try simp only [Act.put, List.setIfInBounds_toArray, List.set_cons_zero, List.set_cons_succ]
      refine take_h 11 ?_ rfl (by kernel_rfl) (by kernel_rfl) (by kernel_rfl) (fun _ _ _ h => h) (Or.inl ⟨by kernel_rfl, ?_⟩) (by assumption) ?_
      rotate_left
      · (intro w hSw; (try dsimp only at hSw); go_simp; try (with_reducible rfl))
      try simp only [Act.put, List.setIfInBounds_toArray, List.set_cons_zero, List.set_cons_succ]
      refine take_h 12 ?_ rfl (by kernel_rfl) (by kernel_rfl) (by kernel_rfl) (fun _ _ _ h => h) (Or.inl ⟨by kernel_rfl, ?_⟩) (by assumption) ?_
      rotate_left
      · (intro w hSw; (try dsimp only at hSw); go_simp; try (with_reducible rfl))
      try simp only [Act.put, List.setIfInBounds_toArray, List.set_cons_zero, List.set_cons_succ]
      refine take_h 13 ?_ rfl (by kernel_rfl) (by kernel_rfl) (by kernel_rfl) (fun _ _ _ h => h) (Or.inl ⟨by kernel_rfl, ?_⟩) (by assumption) ?_
      rotate_left
      · (intro w hSw; (try dsimp only at hSw); go_simp; try (with_reducible rfl))
      try simp only [Act.put, List.setIfInBounds_toArray, List.set_cons_zero, List.set_cons_succ]
      refine take_h 14 ?_ rfl (by kernel_rfl) (by kernel_rfl) (by kernel_rfl) (fun _ _ _ h => h) (Or.inl ⟨by kernel_rfl, ?_⟩) (by assumption) ?_
      rotate_left
      · (intro w hSw; (try dsimp only at hSw); go_simp; try (with_reducible rfl))
      try simp only [Act.put, List.setIfInBounds_toArray, List.set_cons_zero, List.set_cons_succ]
      refine take_h 15 ?_ rfl (by kernel_rfl) (by kernel_rfl) (by kernel_rfl) (fun _ _ _ h => h) (Or.inl ⟨by kernel_rfl, ?_⟩) (by assumption) ?_
      rotate_left
      · (intro w hSw; (try dsimp only at hSw); go_simp; try (with_reducible rfl))
      try simp only [Act.put, List.setIfInBounds_toArray, List.set_cons_zero, List.set_cons_succ]
      refine skip_h 17 (w5.setRow gA F2.toArray) rfl (by kernel_rfl) (by kernel_rfl) (exec_store_row 69 (.tmp 26) (.tmp 73) rfl gA F2.toArray rfl rfl 69 (List.toArray (.int .u8 0 :: .int .u8 0 :: .int .u8 0 :: .int .u8 0 :: .int .u8 0 :: .int .u8 0 :: .int .u8 0 :: .int .u8 0 :: .int .u8 0 :: .int .u8 0 :: .int .u8 0 :: .int .u8 0 :: .int .u8 0 :: .int .u8 0 :: .int .u8 0 :: .int .u8 0 :: .int .u8 0 :: .int .u8 0 :: .int .u8 0 :: .int .u8 0 :: .int .u8 0 :: .int .u8 0 :: .int .u8 0 :: .int .u8 0 :: .int .u8 0 :: .int .u8 0 :: .int .u8 0 :: .int .u8 0 :: .int .u8 0 :: .int .u8 0 :: .int .u8 0 :: .int .u8 0 :: .int .i64 0 :: .int .i64 0 :: .int .i64 0 :: [] : List Value) : Array Value) rz5 IF2.out SF2.out AF2.out) (rangeAt_setRow hHeld5 (by omega)) (fun hHeld6 => ?_)
      clear hHeld5
      try simp only [Act.put]
      refine take_h 18 ?_ rfl (by kernel_rfl) (by kernel_rfl) (by kernel_rfl) (fun _ _ _ h => h) (Or.inl ⟨by kernel_rfl, ?_⟩) (by assumption) ?_
      rotate_left
      · (intro w hSw; (try dsimp only at hSw); go_simp; try (with_reducible rfl))
      try simp only [Act.put, List.setIfInBounds_toArray, List.set_cons_zero, List.set_cons_succ]
      refine take_h 19 ?_ rfl (by kernel_rfl) (by kernel_rfl) (by kernel_rfl) (fun _ _ _ h => h) (Or.inl ⟨by kernel_rfl, ?_⟩) (by assumption) ?_
      rotate_left
      · (intro w hSw; (try dsimp only at hSw); go_simp; try (with_reducible rfl))
      try simp only [Act.put, List.setIfInBounds_toArray, List.set_cons_zero, List.set_cons_succ]
      refine take_h 20 ?_ rfl (by kernel_rfl) (by kernel_rfl) (by kernel_rfl) (fun _ _ _ h => h) (Or.inl ⟨by kernel_rfl, ?_⟩) (by assumption) ?_
      rotate_left
      · (intro w hSw; (try dsimp only at hSw); go_simp; try (with_reducible rfl))
      try simp only [Act.put, List.setIfInBounds_toArray, List.set_cons_zero, List.set_cons_succ]
      refine take_h 21 ?_ rfl (by kernel_rfl) (by kernel_rfl) (by kernel_rfl) (fun _ _ _ h => h) (Or.inl ⟨by kernel_rfl, ?_⟩) (by assumption) ?_
      rotate_left
      · (intro w hSw; (try dsimp only at hSw); go_simp; try (with_reducible rfl))
      try simp only [Act.put, List.setIfInBounds_toArray, List.set_cons_zero, List.set_cons_succ]
      refine wpAnyH_done (by kernel_rfl) ?_ _
      exact ⟨gA, rfl, ⟨(setRow_other w5 gA (w.heap.size + 1) _ (by omega)).trans (blk hb6 hHV2 rU0), setRow_heap _ _ _ _ _ _ rz5, below_row (HV.out.trans (hb6.mono HV.out.size)) (by rw [← hgA]; exact HV.out.size) _⟩⟩
  intro g W5 hR5
  have HB5 : Seal (Below w.heap.size w W5) := ⟨hR5.out.2.2⟩
  have rG5 := hR5.out.2.1
  have rU5 : W5.rangeAt (w.heap.size + 1) 0 UC := rangeAt_row hR5.out.1
  have rS5 : W5.rangeAt g 33 [.int .i64 E2, .int .i64 S2] := by have := rangeAt_drop (rangeAt_row rG5) 33; rw [HH.out] at this; simpa using this
  have iS : (Tryd.prog.info? 67).map (·.size) = some [Value.int .i64 E2, .int .i64 S2].length := by kernel_rfl
  have uS := Tryd.underlying67
  clear hR5 rU4 HB4
  go_wp2_with fail
  refine wp_region_held_drew (S := fun w' => w'.rangeAt (w.heap.size + 1) 0 UC ∧ w'.rangeAt g 33 [.int .i64 E2, .int .i64 S2]) (by kernel_rfl) ⟨rU5, rS5⟩ (fun hHeld => ?_)
  refine take_h 0 ?_ rfl (by kernel_rfl) (by kernel_rfl) (by kernel_rfl) (fun _ _ _ h => h) (Or.inl ⟨by kernel_rfl, ?_⟩) (by assumption) ?_
  rotate_left
  · (intro w hSw; (try dsimp only at hSw); go_simp; try (with_reducible rfl))
  try simp only [Act.put, List.setIfInBounds_toArray, List.set_cons_zero, List.set_cons_succ]
  refine take_h 1 ?_ rfl (by kernel_rfl) (by kernel_rfl) (by kernel_rfl) (fun _ _ _ h => h) (Or.inl ⟨by kernel_rfl, ?_⟩) (by assumption) ?_
  rotate_left
  · (intro w hSw; (try dsimp only at hSw); go_simp; try (with_reducible rfl))
  try simp only [Act.put, List.setIfInBounds_toArray, List.set_cons_zero, List.set_cons_succ]
  refine take_h 2 ?_ rfl (by kernel_rfl) (by kernel_rfl) (by kernel_rfl) (fun _ _ _ h => h) (Or.inl ⟨by kernel_rfl, ?_⟩) (by assumption) ?_
  rotate_left
  · (intro w hSw; (try dsimp only at hSw); go_simp; try (with_reducible rfl))
  try simp only [Act.put, List.setIfInBounds_toArray, List.set_cons_zero, List.set_cons_succ]
  refine take_h 3 ?_ rfl (by kernel_rfl) (by kernel_rfl) (by kernel_rfl) (fun _ _ _ h => h) (Or.inl ⟨by kernel_rfl, ?_⟩) (by assumption) ?_
  rotate_left
  · (intro w hSw; (try dsimp only at hSw); go_simp; try (with_reducible rfl))
  try simp only [Act.put, List.setIfInBounds_toArray, List.set_cons_zero, List.set_cons_succ]
  refine take_h 4 _ rfl (by kernel_rfl) (by kernel_rfl) (by kernel_rfl) (fun _ _ _ h => h) (yieldsIf_load_mid (by kernel_rfl) 25 (.tmp 13) rfl (w.heap.size + 1) 0 rfl UC _ (fun w hSw => hSw.1) uD rfl iU) (by assumption) ?_
  try simp only [Act.put, List.setIfInBounds_toArray, List.set_cons_zero, List.set_cons_succ]
  refine take_h 5 ?_ rfl (by kernel_rfl) (by kernel_rfl) (by kernel_rfl) (fun _ _ _ h => h) (Or.inl ⟨by kernel_rfl, ?_⟩) (by assumption) ?_
  rotate_left
  · (intro w hSw; (try dsimp only at hSw); go_simp; try (with_reducible rfl))
  try simp only [Act.put, List.setIfInBounds_toArray, List.set_cons_zero, List.set_cons_succ]
  refine take_h 8 ?_ rfl (by kernel_rfl) (by kernel_rfl) (by kernel_rfl) (fun _ _ _ h => h) (Or.inl ⟨by kernel_rfl, ?_⟩) (by assumption) ?_
  rotate_left
  · (intro w hSw; (try dsimp only at hSw); go_simp; try (with_reducible rfl))
  try simp only [Act.put, List.setIfInBounds_toArray, List.set_cons_zero, List.set_cons_succ]
  refine take_h 9 _ rfl (by kernel_rfl) (by kernel_rfl) (by kernel_rfl) (fun _ _ _ h => h) (yieldsIf_load_mid (by kernel_rfl) 67 (.tmp 97) rfl g 33 rfl [.int .i64 E2, .int .i64 S2] _ (fun w hSw => hSw.2) uS rfl iS) (by assumption) ?_
  try simp only [Act.put, List.setIfInBounds_toArray, List.set_cons_zero, List.set_cons_succ]
  refine call_h 6 rfl (by kernel_rfl) 37 #[.int .i64 n] (by kernel_rfl) (by go_simp) ?_
  refine (Hv2.out _).mono ?_
  rintro e w' ⟨rfl, rfl⟩
  refine ⟨_, rfl, by assumption, fun _ => ?_⟩
  try simp only [Act.put, List.setIfInBounds_toArray, List.set_cons_zero, List.set_cons_succ]
  refine call_h 7 rfl (by kernel_rfl) 44 #[.agg UC.toArray, .int .i64 val2] (by kernel_rfl) (by go_simp) ?_
  refine (HTx.out W5.drew).mono ?_
  rintro e w6 ⟨g', n', c', hn, rfl, hf⟩
  have hb6 : Below W5.heap.size W5 w6 := ⟨hf.out.2.2.2.2.os, hf.out.2.2.2.2.tape, hf.out.2.2.2.2.output, hf.out.2.2.2.2.size, hf.out.2.2.2.2.block⟩
  have HB6 : Seal (Below w.heap.size w w6) := ⟨HB5.out.trans (hb6.mono HB5.out.size)⟩
  have HIB : Seal (IsB w6 (some ⟨g', 0, none⟩) n' c' (stT U val2) ∧ n' ≤ 1099511627776) := ⟨⟨hn.out, hf.out.1, by rw [← hn.out]; have := HSL.out; omega, hf.out.2.1, .inr ⟨g', 0, rfl, hf.out.2.2.2.1, hf.out.2.2.1⟩⟩, by rw [← hn.out]; have := HSL.out; omega⟩
  have rG6 := blk hb6 (Array.getElem?_eq_some_iff.1 rG5).1 rG5
  refine ⟨_, rfl, ⟨rangeAt_below' rU5 hb6, rangeAt_below' rS5 hb6⟩, fun hHeld2 => ?_⟩
  have rU6 := hHeld2.1
  have rS6 := hHeld2.2
  clear hf hHeld hb6 rU5 rS5 rG5
  try simp only [Act.put, List.setIfInBounds_toArray, List.set_cons_zero, List.set_cons_succ]
  refine call_h 10 rfl (by kernel_rfl) 43 #[.int .i64 key, .int .i64 r, .int .i64 c, .int .i64 s, .slice (some ⟨g', 0, none⟩) n' c', .agg #[.int .i64 E2, .int .i64 S2]] (by kernel_rfl) (by go_simp) ?_
  refine (Hlk.out w6 _ n' c' (HGw.out.below HB6.out) HIB.out.1 HIB.out.2).mono ?_
  rintro e w7 ⟨rfl, hb7⟩
  have HB7 : Seal (Below w.heap.size w w7) := ⟨HB6.out.trans (hb7.mono HB6.out.size)⟩
  have rG7 := blk hb7 (Array.getElem?_eq_some_iff.1 rG6).1 rG6
  refine ⟨_, rfl, ⟨rangeAt_below' rU6 hb7, rangeAt_below' rS6 hb7⟩, fun hHeld3 => ?_⟩
  have rU7 := hHeld3.1
  clear hHeld2 hb7 rU6 rS6 rG6 HIB
  try simp only [Act.put, List.setIfInBounds_toArray, List.set_cons_zero, List.set_cons_succ]
  refine take_h 11 ?_ rfl (by kernel_rfl) (by kernel_rfl) (by kernel_rfl) (fun _ _ _ h => h) (Or.inl ⟨by kernel_rfl, ?_⟩) (by assumption) ?_
  rotate_left
  · (intro w hSw; (try dsimp only at hSw); go_simp; try (with_reducible rfl))
  try simp only [Act.put, List.setIfInBounds_toArray, List.set_cons_zero, List.set_cons_succ]
  refine take_h 12 ?_ rfl (by kernel_rfl) (by kernel_rfl) (by kernel_rfl) (fun _ _ _ h => h) (Or.inl ⟨by kernel_rfl, ?_⟩) (by assumption) ?_
  rotate_left
  · (intro w hSw; (try dsimp only at hSw); go_simp; try (with_reducible rfl))
  try simp only [Act.put, List.setIfInBounds_toArray, List.set_cons_zero, List.set_cons_succ]
  refine take_h 13 ?_ rfl (by kernel_rfl) (by kernel_rfl) (by kernel_rfl) (fun _ _ _ h => h) (Or.inl ⟨by kernel_rfl, ?_⟩) (by assumption) ?_
  rotate_left
  · (intro w hSw; (try dsimp only at hSw); go_simp; try (with_reducible rfl))
  try simp only [Act.put, List.setIfInBounds_toArray, List.set_cons_zero, List.set_cons_succ]
  refine take_h 14 ?_ rfl (by kernel_rfl) (by kernel_rfl) (by kernel_rfl) (fun _ _ _ h => h) (Or.inl ⟨by kernel_rfl, ?_⟩) (by assumption) ?_
  rotate_left
  · (intro w hSw; (try dsimp only at hSw); go_simp; try (with_reducible rfl))
  try simp only [Act.put, List.setIfInBounds_toArray, List.set_cons_zero, List.set_cons_succ]
  refine take_h 15 ?_ rfl (by kernel_rfl) (by kernel_rfl) (by kernel_rfl) (fun _ _ _ h => h) (Or.inl ⟨by kernel_rfl, ?_⟩) (by assumption) ?_
  rotate_left
  · (intro w hSw; (try dsimp only at hSw); go_simp; try (with_reducible rfl))
  try simp only [Act.put, List.setIfInBounds_toArray, List.set_cons_zero, List.set_cons_succ]
  refine take_h 16 ?_ rfl (by kernel_rfl) (by kernel_rfl) (by kernel_rfl) (fun _ _ _ h => h) (Or.inl ⟨by kernel_rfl, ?_⟩) (by assumption) ?_
  rotate_left
  · (intro w hSw; (try dsimp only at hSw); go_simp; try (with_reducible rfl))
  try simp only [Act.put, List.setIfInBounds_toArray, List.set_cons_zero, List.set_cons_succ]
  refine take_h 17 ?_ rfl (by kernel_rfl) (by kernel_rfl) (by kernel_rfl) (fun _ _ _ h => h) (Or.inl ⟨by kernel_rfl, ?_⟩) (by assumption) ?_
  rotate_left
  · (intro w hSw; (try dsimp only at hSw); go_simp; try (with_reducible rfl))
  try simp only [Act.put, List.setIfInBounds_toArray, List.set_cons_zero, List.set_cons_succ]
  refine wpAnyH_done (by kernel_rfl) ?_ _
  clear hHeld3
  go_wp2_with fail
  refine wp_region_held_drew (S := fun w' => w'.rangeAt (w.heap.size + 1) 0 UC) (by kernel_rfl) rU7 (fun hHeld => ?_)
  refine take_h 0 ?_ rfl (by kernel_rfl) (by kernel_rfl) (by kernel_rfl) (fun _ _ _ h => h) (Or.inl ⟨by kernel_rfl, ?_⟩) (by assumption) ?_
  rotate_left
  · (intro w hSw; (try dsimp only at hSw); go_simp; try (with_reducible rfl))
  try simp only [Act.put, List.setIfInBounds_toArray, List.set_cons_zero, List.set_cons_succ]
  refine take_h 1 ?_ rfl (by kernel_rfl) (by kernel_rfl) (by kernel_rfl) (fun _ _ _ h => h) (Or.inl ⟨by kernel_rfl, ?_⟩) (by assumption) ?_
  rotate_left
  · (intro w hSw; (try dsimp only at hSw); go_simp; try (with_reducible rfl))
  try simp only [Act.put, List.setIfInBounds_toArray, List.set_cons_zero, List.set_cons_succ]
  refine take_h 2 _ rfl (by kernel_rfl) (by kernel_rfl) (by kernel_rfl) (fun _ _ _ h => h) (yieldsIf_load_mid (by kernel_rfl) 25 (.tmp 13) rfl (w.heap.size + 1) 0 rfl UC _ (fun w hSw => hSw) uD rfl iU) (by assumption) ?_
  try simp only [Act.put, List.setIfInBounds_toArray, List.set_cons_zero, List.set_cons_succ]
  refine take_h 3 ?_ rfl (by kernel_rfl) (by kernel_rfl) (by kernel_rfl) (fun _ _ _ h => h) (Or.inl ⟨by kernel_rfl, ?_⟩) (by assumption) ?_
  rotate_left
  · (intro w hSw; (try dsimp only at hSw); go_simp; try (with_reducible rfl))
  try simp only [Act.put, List.setIfInBounds_toArray, List.set_cons_zero, List.set_cons_succ]
  refine take_h 5 ?_ rfl (by kernel_rfl) (by kernel_rfl) (by kernel_rfl) (fun _ _ _ h => h) (Or.inl ⟨by kernel_rfl, ?_⟩) (by assumption) ?_
  rotate_left
  · (intro w hSw; (try dsimp only at hSw); go_simp; try (with_reducible rfl))
  try simp only [Act.put, List.setIfInBounds_toArray, List.set_cons_zero, List.set_cons_succ]
  refine take_h 6 ?_ rfl (by kernel_rfl) (by kernel_rfl) (by kernel_rfl) (fun _ _ _ h => h) (Or.inl ⟨by kernel_rfl, ?_⟩) (by assumption) ?_
  rotate_left
  · (intro w hSw; (try dsimp only at hSw); go_simp; try (with_reducible rfl))
  try simp only [Act.put, List.setIfInBounds_toArray, List.set_cons_zero, List.set_cons_succ]
  refine call_h 4 rfl (by kernel_rfl) 37 #[.int .i64 n] (by kernel_rfl) (by go_simp) ?_
  refine (Hv2.out _).mono ?_
  rintro e w' ⟨rfl, rfl⟩
  refine ⟨_, rfl, by assumption, fun _ => ?_⟩
  try simp only [Act.put, List.setIfInBounds_toArray, List.set_cons_zero, List.set_cons_succ]
  refine call_h 7 rfl (by kernel_rfl) 45 #[.int .i64 key, .int .i64 r, .agg UC.toArray, .int .i64 val2, .int .i64 p, .int .i64 q] (by kernel_rfl) (by go_simp) ?_
  refine (Hak.out w7.drew (HGw.out.below (HB7.out.trans ((below_drewn w7).mono HB7.out.size)))).mono ?_
  rintro e w8 ⟨rfl, hb⟩
  have hb8 : Below w7.heap.size w7 w8 := ⟨hb.os, hb.tape, hb.output, hb.size, hb.block⟩
  have HB8 : Seal (Below w.heap.size w w8) := ⟨HB7.out.trans (hb8.mono HB7.out.size)⟩
  have rG8 := blk hb8 (Array.getElem?_eq_some_iff.1 rG7).1 rG7
  refine ⟨_, rfl, rangeAt_below' rU7 hb8, fun hHeld2 => ?_⟩
  have rU8 := hHeld2
  clear hHeld hb hb8 rU7 rG7
  try simp only [Act.put, List.setIfInBounds_toArray, List.set_cons_zero, List.set_cons_succ]
  refine take_h 8 ?_ rfl (by kernel_rfl) (by kernel_rfl) (by kernel_rfl) (fun _ _ _ h => h) (Or.inl ⟨by kernel_rfl, ?_⟩) (by assumption) ?_
  rotate_left
  · (intro w hSw; (try dsimp only at hSw); go_simp; try (with_reducible rfl))
  try simp only [Act.put, List.setIfInBounds_toArray, List.set_cons_zero, List.set_cons_succ]
  refine take_h 9 ?_ rfl (by kernel_rfl) (by kernel_rfl) (by kernel_rfl) (fun _ _ _ h => h) (Or.inl ⟨by kernel_rfl, ?_⟩) (by assumption) ?_
  rotate_left
  · (intro w hSw; (try dsimp only at hSw); go_simp; try (with_reducible rfl))
  try simp only [Act.put, List.setIfInBounds_toArray, List.set_cons_zero, List.set_cons_succ]
  refine take_h 10 ?_ rfl (by kernel_rfl) (by kernel_rfl) (by kernel_rfl) (fun _ _ _ h => h) (Or.inl ⟨by kernel_rfl, ?_⟩) (by assumption) ?_
  rotate_left
  · (intro w hSw; (try dsimp only at hSw); go_simp; try (with_reducible rfl))
  try simp only [Act.put, List.setIfInBounds_toArray, List.set_cons_zero, List.set_cons_succ]
  refine take_h 11 ?_ rfl (by kernel_rfl) (by kernel_rfl) (by kernel_rfl) (fun _ _ _ h => h) (Or.inl ⟨by kernel_rfl, ?_⟩) (by assumption) ?_
  rotate_left
  · (intro w hSw; (try dsimp only at hSw); go_simp; try (with_reducible rfl))
  try simp only [Act.put, List.setIfInBounds_toArray, List.set_cons_zero, List.set_cons_succ]
  refine take_h 12 ?_ rfl (by kernel_rfl) (by kernel_rfl) (by kernel_rfl) (fun _ _ _ h => h) (Or.inl ⟨by kernel_rfl, ?_⟩) (by assumption) ?_
  rotate_left
  · (intro w hSw; (try dsimp only at hSw); go_simp; try (with_reducible rfl))
  try simp only [Act.put, List.setIfInBounds_toArray, List.set_cons_zero, List.set_cons_succ]
  refine wpAnyH_done (by kernel_rfl) ?_ _
  clear hHeld2
  go_wp2_with fail
  apply wp_cut (R := fun g' W => Seal (W.heap[g]? = some (.cells F2.toArray 69 (0, 0)) ∧ W.heap[g']? = some (.cells F2.toArray 69 (0, 0)) ∧ Below w.heap.size w W))
  · have rT' := rU8
    refine wp_region_held_drew (S := fun w' => w'.rangeAt (w.heap.size + 1) 0 UC) (by kernel_rfl) rT' (fun hHeld => ?_)
    obtain ⟨V, hV⟩ : ∃ V, V = w8.drew := ⟨_, rfl⟩
    have rT : V.rangeAt (w.heap.size + 1) 0 UC := by rw [hV]; exact rT'
    have rG0 : V.heap[g]? = some (.cells F2.toArray 69 (0, 0)) := by rw [hV]; exact rG8
    have hHg : g < V.heap.size := (Array.getElem?_eq_some_iff.1 rG0).1
    have hHV2 : w.heap.size + 1 < V.heap.size := by have := block_lt_of_cell (rT 0 _ (List.getElem?_eq_getElem (show 0 < UC.length by rw [HUl.out]; decide))); exact this
    have HV : Seal (Below w.heap.size w V) := ⟨by rw [hV]; exact HB8.out.trans ((below_drewn w8).mono HB8.out.size)⟩
    have HG : Seal (Glob V) := ⟨HGw.out.below HV.out⟩
    have hHV : w.heap.size ≤ V.heap.size := HV.out.size
    rw [← hV] at hHeld ⊢
    clear hV rT'
    obtain ⟨gA, hgA⟩ : ∃ g, V.heap.size = g := ⟨_, rfl⟩
    refine take_h 0 ?_ rfl (by kernel_rfl) (by kernel_rfl) (by kernel_rfl) (fun _ _ _ h => h) (Or.inl ⟨by kernel_rfl, ?_⟩) (by assumption) ?_
    rotate_left
    · (intro w hSw; (try dsimp only at hSw); go_simp; try (with_reducible rfl))
    try simp only [Act.put, List.setIfInBounds_toArray, List.set_cons_zero, List.set_cons_succ]
    refine take_h 1 ?_ rfl (by kernel_rfl) (by kernel_rfl) (by kernel_rfl) (fun _ _ _ h => h) (Or.inl ⟨by kernel_rfl, ?_⟩) (by assumption) ?_
    rotate_left
    · (intro w hSw; (try dsimp only at hSw); go_simp; try (with_reducible rfl))
    try simp only [Act.put, List.setIfInBounds_toArray, List.set_cons_zero, List.set_cons_succ]
    refine take_h 2 _ rfl (by kernel_rfl) (by kernel_rfl) (by kernel_rfl) (fun _ _ _ h => h) (yieldsIf_load_mid (by kernel_rfl) 25 (.tmp 13) rfl (w.heap.size + 1) 0 rfl UC _ (fun w hSw => hSw) uD rfl iU) (by assumption) ?_
    try simp only [Act.put, List.setIfInBounds_toArray, List.set_cons_zero, List.set_cons_succ]
    refine take_h 3 ?_ rfl (by kernel_rfl) (by kernel_rfl) (by kernel_rfl) (fun _ _ _ h => h) (Or.inl ⟨by kernel_rfl, ?_⟩) (by assumption) ?_
    rotate_left
    · (intro w hSw; (try dsimp only at hSw); go_simp; try (with_reducible rfl))
    try simp only [Act.put, List.setIfInBounds_toArray, List.set_cons_zero, List.set_cons_succ]
    refine take_h 5 ?_ rfl (by kernel_rfl) (by kernel_rfl) (by kernel_rfl) (fun _ _ _ h => h) (Or.inl ⟨by kernel_rfl, ?_⟩) (by assumption) ?_
    rotate_left
    · (intro w hSw; (try dsimp only at hSw); go_simp; try (with_reducible rfl))
    try simp only [Act.put, List.setIfInBounds_toArray, List.set_cons_zero, List.set_cons_succ]
    refine take_h 6 ?_ rfl (by kernel_rfl) (by kernel_rfl) (by kernel_rfl) (fun _ _ _ h => h) (Or.inl ⟨by kernel_rfl, ?_⟩) (by assumption) ?_
    rotate_left
    · (intro w hSw; (try dsimp only at hSw); go_simp; try (with_reducible rfl))
    try simp only [Act.put, List.setIfInBounds_toArray, List.set_cons_zero, List.set_cons_succ]
    refine take_h 7 ?_ rfl (by kernel_rfl) (by kernel_rfl) (by kernel_rfl) (fun _ _ _ h => h) (Or.inl ⟨by kernel_rfl, ?_⟩) (by assumption) ?_
    rotate_left
    · (intro w hSw; (try dsimp only at hSw); go_simp; try (with_reducible rfl))
    try simp only [Act.put, List.setIfInBounds_toArray, List.set_cons_zero, List.set_cons_succ]
    refine wpAnyH_ready (rs := [4, 12]) (by kernel_rfl) (by simp) (call_b 4 rfl 37 #[.int .i64 n] (by kernel_rfl) (by go_simp) ?_ (oper_b 12 (.pointer (some ⟨gA, 0, none⟩)) (V.alloc (.cells (List.toArray (.int .u8 0 :: .int .u8 0 :: .int .u8 0 :: .int .u8 0 :: .int .u8 0 :: .int .u8 0 :: .int .u8 0 :: .int .u8 0 :: .int .u8 0 :: .int .u8 0 :: .int .u8 0 :: .int .u8 0 :: .int .u8 0 :: .int .u8 0 :: .int .u8 0 :: .int .u8 0 :: .int .u8 0 :: .int .u8 0 :: .int .u8 0 :: .int .u8 0 :: .int .u8 0 :: .int .u8 0 :: .int .u8 0 :: .int .u8 0 :: .int .u8 0 :: .int .u8 0 :: .int .u8 0 :: .int .u8 0 :: .int .u8 0 :: .int .u8 0 :: .int .u8 0 :: .int .u8 0 :: .int .i64 0 :: .int .i64 0 :: .int .i64 0 :: [] : List Value) : Array Value) 69)) rfl (by kernel_rfl) (by rw [← hgA]; go_simp) (World.rangeAt_alloc rT _) (fun hHeld2 => ?_) AllReadyH.nil))
    · skip
      refine (Hv2.out _).mono ?_
      rintro e w' ⟨rfl, rfl⟩
      refine ⟨_, rfl, by assumption, fun _ => ?_⟩
      try simp only [Act.put, List.setIfInBounds_toArray, List.set_cons_zero, List.set_cons_succ]
      refine wpAnyH_ready (rs := [8, 12]) (by kernel_rfl) (by simp) (call_b 8 rfl 46 #[.int .i64 key, .int .i64 r, .agg UC.toArray, .int .i64 val2, .int .i64 p, .int .i64 q, .int .i64 s] (by kernel_rfl) (by go_simp) ?_ (oper_b 12 (.pointer (some ⟨gA, 0, none⟩)) (V.alloc (.cells (List.toArray (.int .u8 0 :: .int .u8 0 :: .int .u8 0 :: .int .u8 0 :: .int .u8 0 :: .int .u8 0 :: .int .u8 0 :: .int .u8 0 :: .int .u8 0 :: .int .u8 0 :: .int .u8 0 :: .int .u8 0 :: .int .u8 0 :: .int .u8 0 :: .int .u8 0 :: .int .u8 0 :: .int .u8 0 :: .int .u8 0 :: .int .u8 0 :: .int .u8 0 :: .int .u8 0 :: .int .u8 0 :: .int .u8 0 :: .int .u8 0 :: .int .u8 0 :: .int .u8 0 :: .int .u8 0 :: .int .u8 0 :: .int .u8 0 :: .int .u8 0 :: .int .u8 0 :: .int .u8 0 :: .int .i64 0 :: .int .i64 0 :: .int .i64 0 :: [] : List Value) : Array Value) 69)) rfl (by kernel_rfl) (by rw [← hgA]; go_simp) (World.rangeAt_alloc rT _) (fun hHeld2 => ?_) AllReadyH.nil))
      · skip
        refine (Htk.out _ HG.out).mono ?_
        rintro e w5 ⟨rfl, hb5⟩
        refine ⟨_, rfl, rangeAt_below' rT hb5, fun hHeld5 => ?_⟩
        try simp only [Act.put, List.setIfInBounds_toArray, List.set_cons_zero, List.set_cons_succ]
        refine take_h 9 ?_ rfl (by kernel_rfl) (by kernel_rfl) (by kernel_rfl) (fun _ _ _ h => h) (Or.inl ⟨by kernel_rfl, ?_⟩) (by assumption) ?_
        rotate_left
        · (intro w hSw; (try dsimp only at hSw); go_simp; try (with_reducible rfl))
        try simp only [Act.put, List.setIfInBounds_toArray, List.set_cons_zero, List.set_cons_succ]
        refine take_h 10 ?_ rfl (by kernel_rfl) (by kernel_rfl) (by kernel_rfl) (fun _ _ _ h => h) (Or.inl ⟨by kernel_rfl, ?_⟩) (by assumption) ?_
        rotate_left
        · (intro w hSw; (try dsimp only at hSw); go_simp; try (with_reducible rfl))
        try simp only [Act.put, List.setIfInBounds_toArray, List.set_cons_zero, List.set_cons_succ]
        refine take_h 11 ?_ rfl (by kernel_rfl) (by kernel_rfl) (by kernel_rfl) (fun _ _ _ h => h) (Or.inl ⟨by kernel_rfl, ?_⟩) (by assumption) ?_
        rotate_left
        · (intro w hSw; (try dsimp only at hSw); go_simp; try (with_reducible rfl))
        try simp only [Act.put, List.setIfInBounds_toArray, List.set_cons_zero, List.set_cons_succ]
        obtain ⟨gB, hgB⟩ : ∃ g, w5.heap.size = g := ⟨_, rfl⟩
        refine oper_h 12 (.pointer (some ⟨gB, 0, none⟩)) (w5.alloc (.cells (List.toArray (.int .u8 0 :: .int .u8 0 :: .int .u8 0 :: .int .u8 0 :: .int .u8 0 :: .int .u8 0 :: .int .u8 0 :: .int .u8 0 :: .int .u8 0 :: .int .u8 0 :: .int .u8 0 :: .int .u8 0 :: .int .u8 0 :: .int .u8 0 :: .int .u8 0 :: .int .u8 0 :: .int .u8 0 :: .int .u8 0 :: .int .u8 0 :: .int .u8 0 :: .int .u8 0 :: .int .u8 0 :: .int .u8 0 :: .int .u8 0 :: .int .u8 0 :: .int .u8 0 :: .int .u8 0 :: .int .u8 0 :: .int .u8 0 :: .int .u8 0 :: .int .u8 0 :: .int .u8 0 :: .int .i64 0 :: .int .i64 0 :: .int .i64 0 :: [] : List Value) : Array Value) 69)) rfl (by kernel_rfl) (by kernel_rfl) (by rw [← hgB]; go_simp) (World.rangeAt_alloc hHeld5 _) (fun hHeld6 => ?_)
        clear hHeld5
        try simp only [Act.put, List.setIfInBounds_toArray, List.set_cons_zero, List.set_cons_succ]
        refine skip_h 13 ((w5.alloc (.cells (List.toArray (.int .u8 0 :: .int .u8 0 :: .int .u8 0 :: .int .u8 0 :: .int .u8 0 :: .int .u8 0 :: .int .u8 0 :: .int .u8 0 :: .int .u8 0 :: .int .u8 0 :: .int .u8 0 :: .int .u8 0 :: .int .u8 0 :: .int .u8 0 :: .int .u8 0 :: .int .u8 0 :: .int .u8 0 :: .int .u8 0 :: .int .u8 0 :: .int .u8 0 :: .int .u8 0 :: .int .u8 0 :: .int .u8 0 :: .int .u8 0 :: .int .u8 0 :: .int .u8 0 :: .int .u8 0 :: .int .u8 0 :: .int .u8 0 :: .int .u8 0 :: .int .u8 0 :: .int .u8 0 :: .int .i64 0 :: .int .i64 0 :: .int .i64 0 :: [] : List Value) : Array Value) 69)).setRow gB F2.toArray) rfl (by kernel_rfl) (by kernel_rfl) (exec_store_row 69 (.tmp 36) (.tmp 124) rfl gB F2.toArray rfl rfl 69 (List.toArray (.int .u8 0 :: .int .u8 0 :: .int .u8 0 :: .int .u8 0 :: .int .u8 0 :: .int .u8 0 :: .int .u8 0 :: .int .u8 0 :: .int .u8 0 :: .int .u8 0 :: .int .u8 0 :: .int .u8 0 :: .int .u8 0 :: .int .u8 0 :: .int .u8 0 :: .int .u8 0 :: .int .u8 0 :: .int .u8 0 :: .int .u8 0 :: .int .u8 0 :: .int .u8 0 :: .int .u8 0 :: .int .u8 0 :: .int .u8 0 :: .int .u8 0 :: .int .u8 0 :: .int .u8 0 :: .int .u8 0 :: .int .u8 0 :: .int .u8 0 :: .int .u8 0 :: .int .u8 0 :: .int .i64 0 :: .int .i64 0 :: .int .i64 0 :: [] : List Value) : Array Value) (by rw [← hgB]; exact heap_alloc_new w5 _) IF2.out SF2.out AF2.out) (rangeAt_setRow hHeld6 (by have := hb5.size; omega)) (fun hHeld7 => ?_)
        clear hHeld6
        try simp only [Act.put]
        refine take_h 14 ?_ rfl (by kernel_rfl) (by kernel_rfl) (by kernel_rfl) (fun _ _ _ h => h) (Or.inl ⟨by kernel_rfl, ?_⟩) (by assumption) ?_
        rotate_left
        · (intro w hSw; (try dsimp only at hSw); go_simp; try (with_reducible rfl))
        try simp only [Act.put, List.setIfInBounds_toArray, List.set_cons_zero, List.set_cons_succ]
        refine wpAnyH_done (by kernel_rfl) ?_ _
        have hz := hb5.size
        exact ⟨gB, rfl, ⟨(setRow_other _ gB (g) _ (by omega)).trans ((Below.heap_alloc w5 _ _ (by omega)).trans (blk hb5 hHg rG0)), setRow_heap _ _ _ _ _ _ (by rw [← hgB]; exact heap_alloc_new w5 _), below_row ((HV.out.trans (hb5.mono HV.out.size)).alloc (by have := HV.out.size; omega) _) (by have := HV.out.size; omega) _⟩⟩
      · try simp only [Act.put, List.setIfInBounds_toArray, List.set_cons_zero, List.set_cons_succ]
        refine call_h 8 rfl (by kernel_rfl) 46 #[.int .i64 key, .int .i64 r, .agg UC.toArray, .int .i64 val2, .int .i64 p, .int .i64 q, .int .i64 s] (by kernel_rfl) (by go_simp) ?_
        refine (Htk.out _ (HG.out.below (below_alloc V _))).mono ?_
        rintro e w5 ⟨rfl, hb5⟩
        have hb6 : Below V.heap.size V w5 := (below_alloc V _).trans (hb5.mono (by rw [size_alloc]; omega))
        have rz5 : w5.heap[gA]? = some (.cells (List.toArray (.int .u8 0 :: .int .u8 0 :: .int .u8 0 :: .int .u8 0 :: .int .u8 0 :: .int .u8 0 :: .int .u8 0 :: .int .u8 0 :: .int .u8 0 :: .int .u8 0 :: .int .u8 0 :: .int .u8 0 :: .int .u8 0 :: .int .u8 0 :: .int .u8 0 :: .int .u8 0 :: .int .u8 0 :: .int .u8 0 :: .int .u8 0 :: .int .u8 0 :: .int .u8 0 :: .int .u8 0 :: .int .u8 0 :: .int .u8 0 :: .int .u8 0 :: .int .u8 0 :: .int .u8 0 :: .int .u8 0 :: .int .u8 0 :: .int .u8 0 :: .int .u8 0 :: .int .u8 0 :: .int .i64 0 :: .int .i64 0 :: .int .i64 0 :: [] : List Value) : Array Value) 69 (0, 0)) := by rw [← hgA]; exact (hb5.block _ (by rw [size_alloc]; omega)).trans (heap_alloc_new V _)
        refine ⟨_, rfl, rangeAt_below' rT hb6, fun hHeld5 => ?_⟩
        try simp only [Act.put, List.setIfInBounds_toArray, List.set_cons_zero, List.set_cons_succ]
        refine take_h 9 ?_ rfl (by kernel_rfl) (by kernel_rfl) (by kernel_rfl) (fun _ _ _ h => h) (Or.inl ⟨by kernel_rfl, ?_⟩) (by assumption) ?_
        rotate_left
        · (intro w hSw; (try dsimp only at hSw); go_simp; try (with_reducible rfl))
        try simp only [Act.put, List.setIfInBounds_toArray, List.set_cons_zero, List.set_cons_succ]
        refine take_h 10 ?_ rfl (by kernel_rfl) (by kernel_rfl) (by kernel_rfl) (fun _ _ _ h => h) (Or.inl ⟨by kernel_rfl, ?_⟩) (by assumption) ?_
        rotate_left
        · (intro w hSw; (try dsimp only at hSw); go_simp; try (with_reducible rfl))
        try simp only [Act.put, List.setIfInBounds_toArray, List.set_cons_zero, List.set_cons_succ]
        refine take_h 11 ?_ rfl (by kernel_rfl) (by kernel_rfl) (by kernel_rfl) (fun _ _ _ h => h) (Or.inl ⟨by kernel_rfl, ?_⟩) (by assumption) ?_
        rotate_left
        · (intro w hSw; (try dsimp only at hSw); go_simp; try (with_reducible rfl))
        try simp only [Act.put, List.setIfInBounds_toArray, List.set_cons_zero, List.set_cons_succ]
        refine skip_h 13 (w5.setRow gA F2.toArray) rfl (by kernel_rfl) (by kernel_rfl) (exec_store_row 69 (.tmp 36) (.tmp 124) rfl gA F2.toArray rfl rfl 69 (List.toArray (.int .u8 0 :: .int .u8 0 :: .int .u8 0 :: .int .u8 0 :: .int .u8 0 :: .int .u8 0 :: .int .u8 0 :: .int .u8 0 :: .int .u8 0 :: .int .u8 0 :: .int .u8 0 :: .int .u8 0 :: .int .u8 0 :: .int .u8 0 :: .int .u8 0 :: .int .u8 0 :: .int .u8 0 :: .int .u8 0 :: .int .u8 0 :: .int .u8 0 :: .int .u8 0 :: .int .u8 0 :: .int .u8 0 :: .int .u8 0 :: .int .u8 0 :: .int .u8 0 :: .int .u8 0 :: .int .u8 0 :: .int .u8 0 :: .int .u8 0 :: .int .u8 0 :: .int .u8 0 :: .int .i64 0 :: .int .i64 0 :: .int .i64 0 :: [] : List Value) : Array Value) rz5 IF2.out SF2.out AF2.out) (rangeAt_setRow hHeld5 (by omega)) (fun hHeld6 => ?_)
        clear hHeld5
        try simp only [Act.put]
        refine take_h 14 ?_ rfl (by kernel_rfl) (by kernel_rfl) (by kernel_rfl) (fun _ _ _ h => h) (Or.inl ⟨by kernel_rfl, ?_⟩) (by assumption) ?_
        rotate_left
        · (intro w hSw; (try dsimp only at hSw); go_simp; try (with_reducible rfl))
        try simp only [Act.put, List.setIfInBounds_toArray, List.set_cons_zero, List.set_cons_succ]
        refine wpAnyH_done (by kernel_rfl) ?_ _
        exact ⟨gA, rfl, ⟨(setRow_other w5 gA (g) _ (by omega)).trans (blk hb6 hHg rG0), setRow_heap _ _ _ _ _ _ rz5, below_row (HV.out.trans (hb6.mono HV.out.size)) (by rw [← hgA]; exact HV.out.size) _⟩⟩
    · try simp only [Act.put, List.setIfInBounds_toArray, List.set_cons_zero, List.set_cons_succ]
      refine call_h 4 rfl (by kernel_rfl) 37 #[.int .i64 n] (by kernel_rfl) (by go_simp) ?_
      refine (Hv2.out _).mono ?_
      rintro e w' ⟨rfl, rfl⟩
      refine ⟨_, rfl, by assumption, fun _ => ?_⟩
      try simp only [Act.put, List.setIfInBounds_toArray, List.set_cons_zero, List.set_cons_succ]
      refine call_h 8 rfl (by kernel_rfl) 46 #[.int .i64 key, .int .i64 r, .agg UC.toArray, .int .i64 val2, .int .i64 p, .int .i64 q, .int .i64 s] (by kernel_rfl) (by go_simp) ?_
      refine (Htk.out _ (HG.out.below (below_alloc V _))).mono ?_
      rintro e w5 ⟨rfl, hb5⟩
      have hb6 : Below V.heap.size V w5 := (below_alloc V _).trans (hb5.mono (by rw [size_alloc]; omega))
      have rz5 : w5.heap[gA]? = some (.cells (List.toArray (.int .u8 0 :: .int .u8 0 :: .int .u8 0 :: .int .u8 0 :: .int .u8 0 :: .int .u8 0 :: .int .u8 0 :: .int .u8 0 :: .int .u8 0 :: .int .u8 0 :: .int .u8 0 :: .int .u8 0 :: .int .u8 0 :: .int .u8 0 :: .int .u8 0 :: .int .u8 0 :: .int .u8 0 :: .int .u8 0 :: .int .u8 0 :: .int .u8 0 :: .int .u8 0 :: .int .u8 0 :: .int .u8 0 :: .int .u8 0 :: .int .u8 0 :: .int .u8 0 :: .int .u8 0 :: .int .u8 0 :: .int .u8 0 :: .int .u8 0 :: .int .u8 0 :: .int .u8 0 :: .int .i64 0 :: .int .i64 0 :: .int .i64 0 :: [] : List Value) : Array Value) 69 (0, 0)) := by rw [← hgA]; exact (hb5.block _ (by rw [size_alloc]; omega)).trans (heap_alloc_new V _)
      refine ⟨_, rfl, rangeAt_below' rT hb6, fun hHeld5 => ?_⟩
      try simp only [Act.put, List.setIfInBounds_toArray, List.set_cons_zero, List.set_cons_succ]
      refine take_h 9 ?_ rfl (by kernel_rfl) (by kernel_rfl) (by kernel_rfl) (fun _ _ _ h => h) (Or.inl ⟨by kernel_rfl, ?_⟩) (by assumption) ?_
      rotate_left
      · (intro w hSw; (try dsimp only at hSw); go_simp; try (with_reducible rfl))
      try simp only [Act.put, List.setIfInBounds_toArray, List.set_cons_zero, List.set_cons_succ]
      refine take_h 10 ?_ rfl (by kernel_rfl) (by kernel_rfl) (by kernel_rfl) (fun _ _ _ h => h) (Or.inl ⟨by kernel_rfl, ?_⟩) (by assumption) ?_
      rotate_left
      · (intro w hSw; (try dsimp only at hSw); go_simp; try (with_reducible rfl))
      try simp only [Act.put, List.setIfInBounds_toArray, List.set_cons_zero, List.set_cons_succ]
      refine take_h 11 ?_ rfl (by kernel_rfl) (by kernel_rfl) (by kernel_rfl) (fun _ _ _ h => h) (Or.inl ⟨by kernel_rfl, ?_⟩) (by assumption) ?_
      rotate_left
      · (intro w hSw; (try dsimp only at hSw); go_simp; try (with_reducible rfl))
      try simp only [Act.put, List.setIfInBounds_toArray, List.set_cons_zero, List.set_cons_succ]
      refine skip_h 13 (w5.setRow gA F2.toArray) rfl (by kernel_rfl) (by kernel_rfl) (exec_store_row 69 (.tmp 36) (.tmp 124) rfl gA F2.toArray rfl rfl 69 (List.toArray (.int .u8 0 :: .int .u8 0 :: .int .u8 0 :: .int .u8 0 :: .int .u8 0 :: .int .u8 0 :: .int .u8 0 :: .int .u8 0 :: .int .u8 0 :: .int .u8 0 :: .int .u8 0 :: .int .u8 0 :: .int .u8 0 :: .int .u8 0 :: .int .u8 0 :: .int .u8 0 :: .int .u8 0 :: .int .u8 0 :: .int .u8 0 :: .int .u8 0 :: .int .u8 0 :: .int .u8 0 :: .int .u8 0 :: .int .u8 0 :: .int .u8 0 :: .int .u8 0 :: .int .u8 0 :: .int .u8 0 :: .int .u8 0 :: .int .u8 0 :: .int .u8 0 :: .int .u8 0 :: .int .i64 0 :: .int .i64 0 :: .int .i64 0 :: [] : List Value) : Array Value) rz5 IF2.out SF2.out AF2.out) (rangeAt_setRow hHeld5 (by omega)) (fun hHeld6 => ?_)
      clear hHeld5
      try simp only [Act.put]
      refine take_h 14 ?_ rfl (by kernel_rfl) (by kernel_rfl) (by kernel_rfl) (fun _ _ _ h => h) (Or.inl ⟨by kernel_rfl, ?_⟩) (by assumption) ?_
      rotate_left
      · (intro w hSw; (try dsimp only at hSw); go_simp; try (with_reducible rfl))
      try simp only [Act.put, List.setIfInBounds_toArray, List.set_cons_zero, List.set_cons_succ]
      refine wpAnyH_done (by kernel_rfl) ?_ _
      exact ⟨gA, rfl, ⟨(setRow_other w5 gA (g) _ (by omega)).trans (blk hb6 hHg rG0), setRow_heap _ _ _ _ _ _ rz5, below_row (HV.out.trans (hb6.mono HV.out.size)) (by rw [← hgA]; exact HV.out.size) _⟩⟩
  intro g2 W9 hR9
  have HB9 : Seal (Below w.heap.size w W9) := ⟨hR9.out.2.2⟩
  have q1 := hR9.out.1
  have q2 := hR9.out.2.1
  have heq := HEQ.out
  clear hR9 rU8 rG8 HB8 HEQ
  go_wp2_with (first | (refine wpList_load_row_g (by rfl) 69 (.tmp 36) rfl g2 rfl 69 F2.toArray (0, 0) _ q2 Tryd.underlying69 rfl IF2.out ?_) | (refine wpList_load_row_g (by rfl) 69 (.tmp 26) rfl g rfl 69 F2.toArray (0, 0) _ q1 Tryd.underlying69 rfl IF2.out ?_))
  go_ret
  exact ⟨rfl, HB9.out⟩

theorem lq_self {n : Int} (h : 0 ≤ n ∧ n < 1073741789) : ((lq n : Nat) : Int) = n := by
  rw [lq_cast, show ((Q : Nat) : Int) = 1073741789 from rfl]
  omega

theorem law_stampsUnseen (a b cc m n u v : Int) (T U : Bytes) (w : World) (hG : Glob w) (hT : T.length = 32) (hU : U.length = 32) (a1 : 0 ≤ a ∧ a < 4294967296) (b1 : 0 ≤ b ∧ b < 4294967296) (c1 : 0 ≤ cc ∧ cc < 4294967296) (u1 : -9223372036854775808 ≤ u ∧ u ≤ 9223372036854775807) (v1 : -9223372036854775808 ≤ v ∧ v ≤ 9223372036854775807) :
    Calls Tryd.prog 11 #[.int .u32 a, .int .u32 b, .int .u32 cc, .agg (T.map B).toArray, .agg (U.map B).toArray, .int .i64 m, .int .i64 n, .int .i64 u, .int .i64 v] w fun e w' => e = .returned (.bool true) ∧ Below w.heap.size w w' := by
  have fm := valF_ok m
  have fn := valF_ok n
  have fn2 : -9223372036854775808 ≤ valF n ∧ valF n ≤ 9223372036854775807 := by unfold fitB at fn; simp at fn; omega
  have rng : ∀ k : Int, -9223372036854775808 ≤ secF k ∧ secF k ≤ 9223372036854775807 := fun k => by have h := secF_ok k; unfold secB at h; simp at h; omega
  obtain ⟨key, r, c, s, E1, S1, I1⟩ := issue_plain (secF a) (secF b) u v (valF m) T (secF_ok a) (secF_ok b) fm
  obtain ⟨key', r', c', s', E2, S2, I2⟩ := issue_plain (secF a) (secF cc) v u (valF n) U (secF_ok a) (secF_ok cc) fn
  obtain rfl : key = key' := I1.hkey.symm.trans I2.hkey
  have ha := any_askC I1.fits I2.right
  have hf := any_finC I1.fits I2.right
  rw [lq_self I1.hc] at ha
  have hlk : linkC key r c s (stT U (valF n)) E2 S2 = (((lq (S2 - (lq s : Nat)) : Nat) : Int), ((lq ((lq c : Nat) - E2) : Nat) : Int), true) := by
    unfold linkC
    rw [if_pos (by rw [link_tr, I1.fits, I2.right]; rfl)]
  have p1 := lq_rng (S2 - (lq s : Nat))
  have q1 := lq_rng ((lq c : Nat) - E2)
  rw [lq_self I1.hc] at hlk q1 hf
  have hcc := I1.hc
  have hss := I1.hs
  exact stamps_unseen a b cc m n u v (secF a) (secF b) (secF cc) (valF m) (valF n) key r c s _ _ E2 S2 T U w hG hT hU fn2
    ⟨fun W => lsecret_any a _ W a1.1 a1.2 ⟨rfl⟩⟩ ⟨fun W => lsecret_any b _ W b1.1 b1.2 ⟨rfl⟩⟩ ⟨fun W => lsecret_any cc _ W c1.1 c1.2 ⟨rfl⟩⟩ ⟨fun W => lvalue_any m _ W ⟨rfl⟩⟩ ⟨fun W => lvalue_any n _ W ⟨rfl⟩⟩ ⟨fun W => public_at _ _ _ W ⟨I1.pub⟩ (rng a).1 (rng a).2⟩
    (T.map B) (U.map B) (stC T (valF m) E1 S1) (stC U (valF n) E2 S2) rfl rfl
    ⟨by rw [List.size_toArray]; exact stC_info hT⟩ ⟨by show 35 = _; rw [List.size_toArray, stC_len hT]⟩ ⟨all_oneCell_toArray (stC_one _ _ _ _)⟩ rfl r' c' s'
    ⟨fun W h => issued_any _ _ key r c s E1 S1 (valF m) u v T W h hT (rng a).1 (rng a).2 (rng b).1 (rng b).2 u1.1 u1.2 v1.1 v1.2 ⟨I1.pub⟩ ⟨I1.beg⟩ ⟨I1.ask⟩ ⟨I1.ans⟩ ⟨I1.take⟩⟩
    ⟨fun W h => issued_any _ _ key r' c' s' E2 S2 (valF n) v u U W h hU (rng a).1 (rng a).2 (rng cc).1 (rng cc).2 v1.1 v1.2 u1.1 u1.2 ⟨I2.pub⟩ ⟨I2.beg⟩ ⟨I2.ask⟩ ⟨I2.ans⟩ ⟨I2.take⟩⟩
    ⟨fun W a len cap h hb hl => link_at key r c s E2 S2 _ _ true a len cap _ W ⟨hlk⟩ (by omega) (by omega) (by omega) (by omega) hb hl h⟩
    ⟨fun W h => sask_any key r _ _ c 0 (valF n) U W ⟨by unfold saskF; rw [if_pos fn]; exact ha⟩ (by omega) (by omega) (by omega) (by omega) h hU⟩
    ⟨fun W h => stake_any key r _ _ s (valF n) (valF n) E2 S2 0 U U W ⟨by unfold stakeF; rw [if_pos fn, hf, if_pos rfl]⟩ (by omega) (by omega) (by omega) (by omega) h hU⟩

open Go.ChangeShapes Go.WideShapes Go.ChangeAt
section
variable {H : Type} {enc : TypeId × Value → H} {W : World} {base : Nat} {sp : Nat → Bool} {hd : Bool} {fuel : Nat} {cs : List Value} {x : DataW H × List MemPlace}

theorem cells_ints {t e : TypeId} {k : IntKind} {n : Nat} (ht : Tryd.prog.underlying t = some (.array n e)) (he : Tryd.prog.underlying e = some (.int k)) (hc : Tryd.prog.cellsOf e = 1) (hn : Tryd.prog.cellsOf t = n)
    (h : DataW.trod enc Tryd.prog W base sp hd fuel t cs = some x) : ∃ zs : List Int, zs.length = n ∧ cs = zs.map (fun z => .int k z) ∧ ∀ z ∈ zs, (Lit.int k z).wf = true := by
  obtain ⟨xs, m, _, _, hlen, hxl, hel⟩ := DataW.trod_array ht h
  rw [hn] at hlen
  have key : ∀ i, i < n → ∃ z, cs[i]? = some (.int k z) ∧ (Lit.int k z).wf = true := fun i hi => by
    have h1 := hel i hi
    rw [hc, List.getElem?_eq_getElem (by omega), Nat.mul_one] at h1
    obtain ⟨z, e1, _, hw⟩ := DataW.trod_int he h1
    refine ⟨z, ?_, hw⟩
    have := congrArg (·[0]?) e1
    simp only [List.getElem?_take, List.getElem?_drop] at this
    simpa using this
  refine ⟨cs.map intOf, by simp [hlen], ?_, ?_⟩
  · apply List.ext_getElem?
    intro i
    by_cases hi : i < n
    · obtain ⟨z, e1, _⟩ := key i hi
      simp [e1, intOf]
    · rw [List.getElem?_eq_none (by omega), List.getElem?_eq_none (by simp; omega)]
  · intro z hz
    obtain ⟨v, hv, rfl⟩ := List.mem_map.1 hz
    obtain ⟨i, hi, e⟩ := List.getElem_of_mem hv
    obtain ⟨z, e1, hw⟩ := key i (by omega)
    rw [List.getElem?_eq_getElem hi, e] at e1
    cases e1
    exact hw

theorem cells_digest (h : DataW.trod enc Tryd.prog W base sp hd fuel 25 cs = some x) : ∃ T : Bytes, T.length = 32 ∧ cs = T.map B := by
  obtain ⟨zs, hl, e, hw⟩ := cells_ints Tryd.underlying25 Tryd.underlying5 (by kernel_rfl) (by kernel_rfl) h
  refine ⟨zs.map fun z => UInt8.ofNat z.toNat, by simpa using hl, ?_⟩
  rw [e, List.map_map]
  apply List.map_congr_left
  intro z hz
  have := hw z hz
  simp [Lit.wf] at this
  have h1 : IntKind.u8.min = 0 := by decide
  have h2 : IntKind.u8.max = 255 := by decide
  show Value.int .u8 z = .int .u8 _
  congr 1
  rw [UInt8.toNat_ofNat_of_lt' (Nat.lt_of_lt_of_le (show z.toNat < 256 by omega) (by decide))]
  omega
end

theorem okWide_array' {w : World} {r : Reach} {base n : Nat} {t e : TypeId} {v : Value} (ht : Tryd.prog.underlying t = some (.array n e)) (h : Value.okWide Tryd.prog w r base t v) : ∃ cs, v = .agg cs ∧ cs.size = Tryd.prog.cellsOf t := by
  simp only [Value.okWide, ht] at h
  obtain ⟨cs, h1, h2, _⟩ := h
  exact ⟨cs, h1, h2⟩

theorem digest_open {H : Type} {enc : TypeId × Value → H} {W : World} {base : Nat} {v : Value} {d : DataW H} {p : List MemPlace} (hval : Value.okWide Tryd.prog W .any base 25 v) (h1 : DataW.Trod enc Tryd.prog W 0 (fun _ => true) true 25 v d p) :
    ∃ T : Bytes, v = .agg (T.map B).toArray ∧ T.length = 32 := by
  obtain ⟨cs, rfl, hsz⟩ := okWide_array' Tryd.underlying25 hval
  obtain ⟨fuel, hf⟩ := h1
  obtain ⟨T, hT, e⟩ := cells_digest hf
  have e' : cs.toList = T.map B := e
  exact ⟨T, by rw [← e'], hT⟩

theorem u32_open {H : Type} {enc : TypeId × Value → H} {W : World} {base : Nat} {v : Value} {d : DataW H} {p : List MemPlace} (hval : Value.okWide Tryd.prog W .any base 64 v) (h1 : DataW.Trod enc Tryd.prog W 0 (fun _ => true) true 64 v d p) :
    ∃ x, v = .int .u32 x ∧ 0 ≤ x ∧ x < 4294967296 := by
  obtain ⟨x, rfl, _, _, hw⟩ := open_int Tryd.underlying64 hval h1
  refine ⟨x, rfl, ?_⟩
  simp [Lit.wf] at hw
  have h1 : IntKind.u32.min = 0 := by decide
  have h2 : IntKind.u32.max = 4294967295 := by decide
  omega
end Frk
namespace Go.Proofs.YtcioeedlfbioaaaDoor
open Go Go.RowKit Go.Proofs Go.ChangeShapes Go.WideShapes Go.ChangeAt Frk
set_option maxRecDepth 100000

theorem lifted (os : Os) (started : os.Started) (H : Type) (enc : TypeId × Value → H) :
    ReturnsInHanded {} Tryd.checked os 11 .any (fun w args => (Rows.stampsUnseenSpec.pre enc Tryd.prog Tryd.f11 [] false w args ∧ laidMetH Tryd.prog laid w) ∧ sizedMet enc Tryd.prog Tryd.f11 (OpenSpec.ofChange Rows.stampsUnseenSpec) false w args)
      (Rows.stampsUnseenSpec.post enc Tryd.prog Tryd.f11 false true false false) := by
  refine returnsInHanded_of_change_and (C := Tryd.checked) (X := fun w _ => laidMetH Tryd.prog laid w) (fun _ _ _ hh h => h.of_heap hh) own started (by kernel_rfl) Tryd.func11
    (ChangeSpec.witness_shaped (enc := enc) (C := Tryd.checked) (os := os) (X := fun w _ => laidMetH Tryd.prog laid w) false (World.doorLaid Tryd.prog 400 os) #[.int .u32 0, .int .u32 0, .int .u32 0, .agg #[.int .u8 0, .int .u8 0, .int .u8 0, .int .u8 0, .int .u8 0, .int .u8 0, .int .u8 0, .int .u8 0, .int .u8 0, .int .u8 0, .int .u8 0, .int .u8 0, .int .u8 0, .int .u8 0, .int .u8 0, .int .u8 0, .int .u8 0, .int .u8 0, .int .u8 0, .int .u8 0, .int .u8 0, .int .u8 0, .int .u8 0, .int .u8 0, .int .u8 0, .int .u8 0, .int .u8 0, .int .u8 0, .int .u8 0, .int .u8 0, .int .u8 0, .int .u8 0], .agg #[.int .u8 0, .int .u8 0, .int .u8 0, .int .u8 0, .int .u8 0, .int .u8 0, .int .u8 0, .int .u8 0, .int .u8 0, .int .u8 0, .int .u8 0, .int .u8 0, .int .u8 0, .int .u8 0, .int .u8 0, .int .u8 0, .int .u8 0, .int .u8 0, .int .u8 0, .int .u8 0, .int .u8 0, .int .u8 0, .int .u8 0, .int .u8 0, .int .u8 0, .int .u8 0, .int .u8 0, .int .u8 0, .int .u8 0, .int .u8 0, .int .u8 0, .int .u8 0], .int .i64 0, .int .i64 0, .int .i64 0, .int .i64 0] 8 rfl (World.shaped_of_RefB (by kernel_rfl) (by kernel_rfl)) (by kernel_rfl) (by kernel_rfl) (by kernel_rfl) (door_met os _)) ?_
  intro W base args ds gs before hval0 hW _ _ hL _
  have hval : ∀ (j : Nat) t v, Tryd.f11.params[j]? = some t → args[j]? = some v → Value.okWide Tryd.prog W .any base t v := hval0
  have hW' := hW
  obtain ⟨p, q, hA0, hV, rfl, hfz, hnd⟩ := hW
  have hA : DataW.TrodAll enc Tryd.prog W 0 (fun _ => true) true Tryd.f11.params.toList args.toList ds p := hA0
  rw [Tryd.params11] at hA hval
  obtain ⟨args⟩ := args
  obtain ⟨v0, vs0, d0, ds0, p0, q0, e0, rfl, rfl, h0, hr0⟩ := trodAll_cons hA
  obtain ⟨v1, vs1, d1, ds1, p1, q1, e1, rfl, rfl, h1, hr1⟩ := trodAll_cons hr0
  obtain ⟨v2, vs2, d2, ds2, p2, q2, e2, rfl, rfl, h2, hr2⟩ := trodAll_cons hr1
  obtain ⟨v3, vs3, d3, ds3, p3, q3, e3, rfl, rfl, h3, hr3⟩ := trodAll_cons hr2
  obtain ⟨v4, vs4, d4, ds4, p4, q4, e4, rfl, rfl, h4, hr4⟩ := trodAll_cons hr3
  obtain ⟨v5, vs5, d5, ds5, p5, q5, e5, rfl, rfl, h5, hr5⟩ := trodAll_cons hr4
  obtain ⟨v6, vs6, d6, ds6, p6, q6, e6, rfl, rfl, h6, hr6⟩ := trodAll_cons hr5
  obtain ⟨v7, vs7, d7, ds7, p7, q7, e7, rfl, rfl, h7, hr7⟩ := trodAll_cons hr6
  obtain ⟨v8, vs8, d8, ds8, p8, q8, e8, rfl, rfl, h8, hr8⟩ := trodAll_cons hr7
  obtain ⟨rfl, rfl, rfl⟩ := trodAll_nil hr8
  obtain rfl : args = [v0, v1, v2, v3, v4, v5, v6, v7, v8] := by simpa [e1, e2, e3, e4, e5, e6, e7, e8] using e0
  obtain ⟨x0, rfl, wx0⟩ := u32_open (hval 0 64 v0 rfl rfl) h0
  obtain ⟨x1, rfl, wx1⟩ := u32_open (hval 1 64 v1 rfl rfl) h1
  obtain ⟨x2, rfl, wx2⟩ := u32_open (hval 2 64 v2 rfl rfl) h2
  obtain ⟨T3, rfl, rT3⟩ := digest_open (hval 3 25 v3 rfl rfl) h3
  obtain ⟨T4, rfl, rT4⟩ := digest_open (hval 4 25 v4 rfl rfl) h4
  obtain ⟨x5, rfl, wx5⟩ := int_open (hval 5 3 v5 rfl rfl) h5
  obtain ⟨x6, rfl, wx6⟩ := int_open (hval 6 3 v6 rfl rfl) h6
  obtain ⟨x7, rfl, wx7⟩ := int_open (hval 7 3 v7 rfl rfl) h7
  obtain ⟨x8, rfl, wx8⟩ := int_open (hval 8 3 v8 rfl rfl) h8
  obtain ⟨rfl, rfl⟩ := trodVars_none hV
  have hG := glob_of_laid hL
  refine (law_stampsUnseen x0 x1 x2 x5 x6 x7 x8 T3 T4 W hG rT3 rT4 wx0 wx1 wx2 wx7 wx8).mono fun e W' ⟨he, hb⟩ => ?_
  subst he
  exact ⟨_, rfl, law_fin (by rw [Tryd.params11]; simp only [List.mem_cons, List.not_mem_nil, or_false]; intro t ht; rcases ht with rfl | rfl | rfl | rfl | rfl | rfl | rfl | rfl | rfl <;> exact ⟨by kernel_rfl, of_decide_eq_true (by kernel_rfl)⟩) (by kernel_rfl) rfl rfl hW' hb⟩

theorem stampsUnseen_row : Rows.StampsUnseenSaid :=
  OpenClaim.holds_of_wide 11 Tryd.f11 rfl rfl rfl rfl rfl rfl rfl ⟨rfl, rfl, rfl, rfl, rfl⟩ rfl rfl rfl rfl rfl (by kernel_rfl) Tryd.func11 (by kernel_rfl)
    (of_decide_eq_true (by kernel_rfl)) (by unfold Func.isWrapper; first | (rw [if_pos (by decide +kernel)]; kernel_rfl) | (rw [if_neg (by decide +kernel)]; exact ⟨rfl, rfl⟩))
    (fun os started H enc _ => lifted os started H enc)

theorem stampsUnseen_holds : Rows.StampsUnseenCardSaid :=
  Claim7.holds_tied_plain_at .later [] [.data, .data] true Rows.stampsUnseenCard.stood.harness true
    stampsUnseen_row (fun _ h => by cases h) (by kernel_rfl) (fun _ h => by cases h) stampsUnseen_row_tie rfl ⟨rfl, rfl⟩ (by kernel_rfl) rfl
    (fun f fn hf hfn => by
      obtain rfl : f = 11 := Option.some.inj ((show Tryd.prog.funcNamed "franking/frankinglaw37.StampsUnseen" = some 11 by kernel_rfl).symm.trans hf) |>.symm
      obtain rfl : fn = Tryd.f11 := (Option.some.inj (Tryd.func11.symm.trans hfn)).symm
      exact ⟨by kernel_rfl, fun j t ht => by
        rw [Tryd.params11] at ht
        have hm : t ∈ [64, 64, 64, 25, 25, 3, 3, 3, 3] := by simpa using Array.mem_of_getElem? ht
        have hall : ([64, 64, 64, 25, 25, 3, 3, 3, 3].all fun u => !Tryd.prog.wantsStandIn u) = true := by kernel_rfl
        exact (show Tryd.prog.wantsStandIn t = false by simpa using List.all_eq_true.1 hall t hm)⟩)
    (by kernel_rfl)
#print axioms stampsUnseen_holds
end Go.Proofs.YtcioeedlfbioaaaDoor
