/- Parts of the proof, joined. -/
import Derived.Test.YtllbjakfjpjfnaaGreatDoorVxgHop
import Derived.Deep.Cut
/- Law 57: arguments. -/
namespace Frk
open Go Go.RowKit Go.Proofs Go.ChangeShapes Go.WideShapes Go.ChangeAt
set_option maxRecDepth 100000
section
variable {H : Type} {enc : TypeId × Value → H} {W : World} {base : Nat} {sp : Nat → Bool} {hd : Bool} {fuel : Nat} {cs : List Value} {x : DataW H × List MemPlace}

theorem i64_wf {n : Int} (h : (Lit.int .i64 n).wf = true) : I64 n := by
  simp [Lit.wf] at h
  have h1 := i64min
  have h2 := i64max
  exact ⟨by omega, by omega⟩

theorem cells_int (h : DataW.trod enc Tryz.prog W base sp hd fuel 3 cs = some x) : ∃ n, cs = [.int .i64 n] ∧ I64 n := by
  obtain ⟨n, e, _, hw⟩ := DataW.trod_int Tryz.underlying3 h
  exact ⟨n, e, i64_wf hw⟩

theorem cells_ints {t e : TypeId} {k : IntKind} {n : Nat} (ht : Tryz.prog.underlying t = some (.array n e)) (he : Tryz.prog.underlying e = some (.int k)) (hc : Tryz.prog.cellsOf e = 1) (hn : Tryz.prog.cellsOf t = n)
    (h : DataW.trod enc Tryz.prog W base sp hd fuel t cs = some x) : ∃ zs : List Int, zs.length = n ∧ cs = zs.map (fun z => .int k z) ∧ ∀ z ∈ zs, (Lit.int k z).wf = true := by
  obtain ⟨xs, m, _, _, hlen, hxl, hel⟩ := DataW.trod_array ht h
  rw [hn] at hlen
  have key : ∀ i, i < n → ∃ z, cs[i]? = some (.int k z) ∧ (Lit.int k z).wf = true := fun i hi => by
    have h1 := hel i hi
    rw [hc, List.getElem?_eq_getElem (by omega), Nat.mul_one] at h1
    obtain ⟨z, e1, _, hw⟩ := DataW.trod_int he h1
    refine ⟨z, ?_, hw⟩
    have := congrArg (·[0]?) e1
    simp only [List.getElem?_take, List.getElem?_drop] at this
    simpa using this
  refine ⟨cs.map intOf, by simp [hlen], ?_, ?_⟩
  · apply List.ext_getElem?
    intro i
    by_cases hi : i < n
    · obtain ⟨z, e1, _⟩ := key i hi
      simp [e1, intOf]
    · rw [List.getElem?_eq_none (by omega), List.getElem?_eq_none (by simp; omega)]
  · intro z hz
    obtain ⟨v, hv, rfl⟩ := List.mem_map.1 hz
    obtain ⟨i, hi, e⟩ := List.getElem_of_mem hv
    obtain ⟨z, e1, hw⟩ := key i (by omega)
    rw [List.getElem?_eq_getElem hi, e] at e1
    cases e1
    exact hw

theorem cells_digest (h : DataW.trod enc Tryz.prog W base sp hd fuel 42 cs = some x) : ∃ T : Bytes, T.length = 32 ∧ cs = T.map B := by
  obtain ⟨zs, hl, e, hw⟩ := cells_ints Tryz.underlying42 Tryz.underlying5 (by kernel_rfl) (by kernel_rfl) h
  refine ⟨zs.map fun z => UInt8.ofNat z.toNat, by simpa using hl, ?_⟩
  rw [e, List.map_map]
  apply List.map_congr_left
  intro z hz
  have := hw z hz
  simp [Lit.wf] at this
  have h1 : IntKind.u8.min = 0 := by decide
  have h2 : IntKind.u8.max = 255 := by decide
  show Value.int .u8 z = .int .u8 _
  congr 1
  rw [UInt8.toNat_ofNat_of_lt' (Nat.lt_of_lt_of_le (show z.toNat < 256 by omega) (by decide))]
  omega

/-- a slice of rows that came in -/
theorem rows_open {α : Type} {C : α → List Value} {ok : α → Prop} {z : Nat} {t e : TypeId} (ht : Tryz.prog.underlying t = some (.slice e)) (c1 : Tryz.prog.cellsOf e = z) (hz : 0 < z) (hlen : ∀ k, ok k → (C k).length = z)
    (hcells : ∀ (n : Nat) (cs : List Value) (x : DataW H × List MemPlace), DataW.trod enc Tryz.prog W 0 (fun _ => true) true n e cs = some x → ∃ k, cs = C k ∧ ok k)
    (hf : DataW.trod enc Tryz.prog W 0 (fun _ => true) true fuel t cs = some x) :
    ∃ a len cap l, cs = [.slice a len cap] ∧ (len : Int) ≤ 9223372036854775807 ∧ (∀ x ∈ l, ok x) ∧ (len ≤ 5000 → IsC C z W a len cap l) ∧ (cap = 0 ∨ ∃ g off, a = some ⟨g, off, none⟩) := by
  rcases DataW.trod_slice ht hf with ⟨hcs, hx⟩ | ⟨a, len, cap, elems, rest, n, hn, hcs, hx, hb, hl, hm, hel, hat, hsp, _⟩
  · exact ⟨none, 0, 0, [], hcs, by decide, by simp, fun _ => ⟨rfl, Nat.le_refl _, by decide, by decide, by simp, .inl rfl⟩, .inl rfl⟩
  · rw [c1] at hat hsp
    obtain ⟨hrl, hrest⟩ := hsp rfl
    unfold maxLen at hm
    have hall : ∀ i, i < cap → ∃ T : α, ok T ∧ W.cells? 0 (a.add (i * z)) z = some (C T) := fun i hi => by
      have key : ∃ y, (W.cells? 0 (a.add (i * z)) z).bind (DataW.trod enc Tryz.prog W 0 (fun _ => true) true n e) = some y := by
        by_cases h : i < len
        · exact ⟨_, (hat i h).trans (List.getElem?_eq_getElem (by omega))⟩
        · have := hrest (i - len) (by omega)
          rw [show len + (i - len) = i from by omega] at this
          exact ⟨_, this.trans (List.getElem?_eq_getElem (by omega))⟩
      obtain ⟨y, hy⟩ := key
      obtain ⟨cs, h1, h2⟩ := Option.bind_eq_some_iff.1 hy
      obtain ⟨T, rfl, hT⟩ := hcells _ _ _ h2
      exact ⟨T, hT, h1⟩
    have hrow : ∀ m, m ≤ len → ∃ l : List α, l.length = m ∧ (∀ d ∈ l, ok d) ∧ ∀ j u, (l.flatMap C)[j]? = some u → W.cell? (a.add j) = some u := by
      intro m
      induction m with
      | zero => exact fun _ => ⟨[], rfl, by simp, fun j u h => by simp at h⟩
      | succ m ih =>
        intro hm'
        obtain ⟨l, h1, h2, h3⟩ := ih (by omega)
        obtain ⟨T, hT, hc⟩ := hall m (by omega)
        refine ⟨l ++ [T], by simp [h1], ?_, fun j u hj => ?_⟩
        · intro d hd
          rcases List.mem_append.1 hd with h | h
          · exact h2 d h
          · rw [List.mem_singleton.1 h]; exact hT
        · rw [List.flatMap_append, show [T].flatMap C = C T from by simp] at hj
          have hdl := isC_flat_len (C := C) (z := z) (l := l) fun x hx => hlen x (h2 x hx)
          by_cases hjl : j < m * z
          · rw [List.getElem?_append_left (by rw [hdl, h1]; exact hjl)] at hj
            exact h3 j u hj
          · rw [List.getElem?_append_right (by rw [hdl, h1]; omega), hdl, h1] at hj
            have hj32 : j - m * z < z := by have := (List.getElem?_eq_some_iff.1 hj).1; rwa [hlen T hT] at this
            have := (World.cells?_some hc).2.2 (j - m * z) hj32
            rw [hj] at this
            rw [Addr.add_add, show m * z + (j - m * z) = j from by omega] at this
            exact this
    obtain ⟨l, hl1, hl2, hl3⟩ := hrow len (Nat.le_refl _)
    have hspot : 0 < cap → a = ⟨a.block, a.off, none⟩ ∧ a.block < W.heap.size := fun h => by
      obtain ⟨T, hT, hc⟩ := hall 0 h
      have h0 := (World.cells?_some hc).2.2 0 hz
      rw [List.getElem?_eq_getElem (show 0 < (C T).length by rw [hlen T hT]; exact hz)] at h0
      obtain ⟨ab, ao, spot⟩ := a
      have hspot : spot = none := by simpa [Addr.add] using World.cell?_spot h0
      subst hspot
      refine ⟨rfl, ?_⟩
      rw [Addr.add_add, Addr.add_mid] at h0
      have := block_lt_of_cell h0
      exact this
    refine ⟨some a, len, cap, l, hcs, by omega, hl2, fun h40 => ⟨hl1, hl, h40, by omega, fun x hx => hlen x (hl2 x hx), ?_⟩, ?_⟩
    · rcases Nat.eq_zero_or_pos len with h0 | h0
      · exact .inl h0
      · right
        obtain ⟨ea, hlt⟩ := hspot (by omega)
        refine ⟨a.block, a.off, by rw [← ea], fun j u hu => ?_, hlt⟩
        have := hl3 j u hu
        rw [ea, Addr.add_mid] at this
        exact this
    · rcases Nat.eq_zero_or_pos cap with h0 | h0
      · exact .inl h0
      · exact .inr ⟨a.block, a.off, by rw [← (hspot h0).1]⟩

theorem cells_cipherF (h : DataW.trod enc Tryz.prog W base sp hd fuel 116 cs = some x) : ∃ P Q, cs = [.int .i64 P, .int .i64 Q] ∧ I64 P ∧ I64 Q := by
  obtain ⟨y0, y1, n, _, hl, h0, h1⟩ := trod_struct2 Tryz.underlying116 h
  have c1 : Tryz.prog.cellsOf 3 = 1 := by kernel_rfl
  have c2 : Tryz.prog.cellsOf 116 = 2 := by kernel_rfl
  rw [c2] at hl
  simp only [c1] at h0 h1
  obtain ⟨P, e0, hP⟩ := cells_int h0
  obtain ⟨Q, e1, hQ⟩ := cells_int h1
  match cs, hl with
  | [a, b], _ =>
    simp at e0 e1
    subst e0; subst e1
    exact ⟨P, Q, rfl, hP, hQ⟩
theorem cells_six (h : DataW.trod enc Tryz.prog W base sp hd fuel 118 cs = some x) : ∃ s : List Int, cs = s.map (Value.int .i64) ∧ okS s := by
  obtain ⟨xs, m, _, _, hlen, hxl, hel⟩ := DataW.trod_array Tryz.underlying118 h
  have c1 : Tryz.prog.cellsOf 116 = 2 := by kernel_rfl
  have c2 : Tryz.prog.cellsOf 118 = 6 := by kernel_rfl
  rw [c2] at hlen
  have key : ∀ i, i < 3 → ∃ P Q, (cs.drop (i * 2)).take 2 = [.int .i64 P, .int .i64 Q] ∧ I64 P ∧ I64 Q := fun i hi => by
    have h1 := hel i hi
    rw [c1, List.getElem?_eq_getElem (by omega)] at h1
    exact cells_cipherF h1
  obtain ⟨a0, b0, e0, h0, h0'⟩ := key 0 (by decide)
  obtain ⟨a1, b1, e1, h1, h1'⟩ := key 1 (by decide)
  obtain ⟨a2, b2, e2, h2, h2'⟩ := key 2 (by decide)
  match cs, hlen with
  | [u0, u1, u2, u3, u4, u5], _ =>
    simp at e0 e1 e2
    obtain ⟨rfl, rfl⟩ := e0
    obtain ⟨rfl, rfl⟩ := e1
    obtain ⟨rfl, rfl⟩ := e2
    refine ⟨[a0, b0, a1, b1, a2, b2], rfl, rfl, fun x hx => ?_⟩
    simp only [List.mem_cons, List.not_mem_nil, or_false] at hx
    rcases hx with rfl | rfl | rfl | rfl | rfl | rfl <;> assumption
theorem cells_epoch (h : DataW.trod enc Tryz.prog W base sp hd fuel 80 cs = some x) : ∃ k : Ep, cs = k.C := by
  obtain ⟨xs, n, _, _, hl, hlen, hg⟩ := DataW.trod_struct Tryz.underlying80 h
  have c1 : Tryz.prog.cellsOf 3 = 1 := by kernel_rfl
  have c2 : Tryz.prog.cellsOf 80 = 3 := by kernel_rfl
  rw [c2] at hl
  match xs, hlen with
  | [y0, y1, y2], _ =>
    have g0 : DataW.trod enc Tryz.prog W base sp hd n 3 ((cs.drop 0).take (Tryz.prog.cellsOf 3)) = some y0 := hg 0 _ rfl
    have g1 : DataW.trod enc Tryz.prog W base sp hd n 3 ((cs.drop 1).take (Tryz.prog.cellsOf 3)) = some y1 := hg 1 _ rfl
    have g2 : DataW.trod enc Tryz.prog W base sp hd n 3 ((cs.drop 2).take (Tryz.prog.cellsOf 3)) = some y2 := hg 2 _ rfl
    rw [c1] at g0 g1 g2
    obtain ⟨a, e0, ha⟩ := cells_int g0
    obtain ⟨b, e1, hb⟩ := cells_int g1
    obtain ⟨c, e2, hc⟩ := cells_int g2
    match cs, hl with
    | [u0, u1, u2], _ =>
      simp at e0 e1 e2
      subst e0; subst e1; subst e2
      exact ⟨⟨a, b, c⟩, rfl⟩
theorem cells_three {t : TypeId} (ht : Tryz.prog.underlying t = some (.array 3 3)) (hn : Tryz.prog.cellsOf t = 3) (h : DataW.trod enc Tryz.prog W base sp hd fuel t cs = some x) : ∃ a b c, cs = [.int .i64 a, .int .i64 b, .int .i64 c] ∧ I64 a ∧ I64 b ∧ I64 c := by
  obtain ⟨zs, hl, e, hw⟩ := cells_ints ht Tryz.underlying3 (by kernel_rfl) hn h
  match zs, hl with
  | [a, b, c], _ => exact ⟨a, b, c, e, i64_wf (hw a (by simp)), i64_wf (hw b (by simp)), i64_wf (hw c (by simp))⟩
theorem cells_runF (h : DataW.trod enc Tryz.prog W base sp hd fuel 26 cs = some x) : ∃ a b c, cs = [.int .i64 a, .int .i64 b, .int .i64 c] ∧ I64 a ∧ I64 b ∧ I64 c := by
  obtain ⟨xs, n, _, _, hl, hlen, hg⟩ := DataW.trod_struct Tryz.underlying26 h
  have c1 : Tryz.prog.cellsOf 3 = 1 := by kernel_rfl
  have c2 : Tryz.prog.cellsOf 26 = 3 := by kernel_rfl
  rw [c2] at hl
  match xs, hlen with
  | [y0, y1, y2], _ =>
    have g0 : DataW.trod enc Tryz.prog W base sp hd n 3 ((cs.drop 0).take (Tryz.prog.cellsOf 3)) = some y0 := hg 0 _ rfl
    have g1 : DataW.trod enc Tryz.prog W base sp hd n 3 ((cs.drop 1).take (Tryz.prog.cellsOf 3)) = some y1 := hg 1 _ rfl
    have g2 : DataW.trod enc Tryz.prog W base sp hd n 3 ((cs.drop 2).take (Tryz.prog.cellsOf 3)) = some y2 := hg 2 _ rfl
    rw [c1] at g0 g1 g2
    obtain ⟨a, e0, ha⟩ := cells_int g0
    obtain ⟨b, e1, hb⟩ := cells_int g1
    obtain ⟨c, e2, hc⟩ := cells_int g2
    match cs, hl with
    | [u0, u1, u2], _ =>
      simp at e0 e1 e2
      subst e0; subst e1; subst e2
      exact ⟨a, b, c, rfl, ha, hb, hc⟩
theorem cells_slice {t e : TypeId} (ht : Tryz.prog.underlying t = some (.slice e)) (h : DataW.trod enc Tryz.prog W base sp hd fuel t cs = some x) : ∃ v : Value, cs = [v] ∧ v.oneCell' = true := by
  rcases DataW.trod_slice ht h with ⟨hcs, _⟩ | ⟨a, len, cap, elems, rest, n, _, hcs, _⟩
  · exact ⟨_, hcs, rfl⟩
  · exact ⟨_, hcs, rfl⟩
theorem cells_path (h : DataW.trod enc Tryz.prog W base sp hd fuel 33 cs = some x) : ∃ P a b c r1 r2 r3 vS, cs = [.int .i64 P, .int .i64 a, .int .i64 b, .int .i64 c, .int .i64 r1, .int .i64 r2, .int .i64 r3, vS] ∧ I64 P ∧ I64 a ∧ I64 b ∧ I64 c ∧ vS.oneCell' = true := by
  obtain ⟨xs, n, _, _, hl, hlen, hg⟩ := DataW.trod_struct Tryz.underlying33 h
  have c1 : Tryz.prog.cellsOf 3 = 1 := by kernel_rfl
  have c2 : Tryz.prog.cellsOf 30 = 3 := by kernel_rfl
  have c3 : Tryz.prog.cellsOf 29 = 3 := by kernel_rfl
  have c4 : Tryz.prog.cellsOf 31 = 1 := by kernel_rfl
  have c5 : Tryz.prog.cellsOf 33 = 8 := by kernel_rfl
  rw [c5] at hl
  match xs, hlen with
  | [y0, y1, y2, y3], _ =>
    have g0 : DataW.trod enc Tryz.prog W base sp hd n 3 ((cs.drop 0).take (Tryz.prog.cellsOf 3)) = some y0 := hg 0 _ rfl
    have g1 : DataW.trod enc Tryz.prog W base sp hd n 30 ((cs.drop 1).take (Tryz.prog.cellsOf 30)) = some y1 := hg 1 _ rfl
    have g2 : DataW.trod enc Tryz.prog W base sp hd n 29 ((cs.drop 4).take (Tryz.prog.cellsOf 29)) = some y2 := hg 2 _ rfl
    have g3 : DataW.trod enc Tryz.prog W base sp hd n 31 ((cs.drop 7).take (Tryz.prog.cellsOf 31)) = some y3 := hg 3 _ rfl
    rw [c1] at g0
    rw [c2] at g1
    rw [c3] at g2
    rw [c4] at g3
    obtain ⟨P, e0, hP⟩ := cells_int g0
    obtain ⟨a, b, c, e1, ha, hb, hc⟩ := cells_three Tryz.underlying30 c2 g1
    obtain ⟨r1, r2, r3, e2, _⟩ := cells_three Tryz.underlying29 c3 g2
    obtain ⟨vS, e3, hS⟩ := cells_slice Tryz.underlying31 g3
    match cs, hl with
    | [u0, u1, u2, u3, u4, u5, u6, u7], _ =>
      simp at e0 e1 e2 e3
      obtain ⟨rfl, rfl, rfl⟩ := e1
      obtain ⟨rfl, rfl, rfl⟩ := e2
      subst e0; subst e3
      exact ⟨P, a, b, c, r1, r2, r3, _, rfl, hP, ha, hb, hc, hS⟩
theorem isL_rows {a : Option Addr} {n c : Nat} {l : List (List Int)} (h : n ≤ 5000 → IsC (fun s : List Int => s.map (Value.int .i64)) 6 W a n c l) (hok : ∀ s ∈ l, okS s) : n ≤ 1000 → IsL W a n c l := fun hn => by
  have h1 := h (by omega)
  refine ⟨h1.llen, h1.lcap, hn, h1.cmax, hok, ?_⟩
  rcases h1.at_ with h0 | ⟨g, o, e, hr, hg⟩
  · exact .inl h0
  · refine .inr ⟨g, o, e, ?_, hg⟩
    rw [List.map_flatten, ← List.flatMap_def]
    exact hr
theorem isD_rows {a : Option Addr} {n c : Nat} {l : List Bytes} (h : n ≤ 5000 → IsC (fun s : Bytes => s.map B) 32 W a n c l) : n ≤ 5000 → IsD W a n c l := fun hn => by
  have h1 := h hn
  refine ⟨h1.llen, h1.lcap, by omega, h1.cmax, fun d hd => by have := h1.each d hd; simpa using this, ?_⟩
  rcases h1.at_ with h0 | ⟨g, o, e, hr, hg⟩
  · exact .inl h0
  · refine .inr ⟨g, o, e, ?_, hg⟩
    unfold dcells
    rw [List.map_flatten, ← List.flatMap_def]
    exact hr
theorem epochs_open {v : Value} {d : DataW H} {p : List MemPlace} (hval : Value.okWide Tryz.prog W .any base 22 v) (h1 : DataW.Trod enc Tryz.prog W 0 (fun _ => true) true 22 v d p) :
    ∃ a n c l, v = .slice a n c ∧ (n ≤ 5000 → IsE W a n c l) := by
  obtain ⟨a1, len, cap, rfl⟩ := okWide_slice Tryz.underlying22 hval
  obtain ⟨fuel, hf⟩ := h1
  obtain ⟨a, n, c, l, e, _, _, h, _⟩ := rows_open (C := Ep.C) (ok := fun _ => True) (z := 3) Tryz.underlying22 (by kernel_rfl) (by decide) (fun _ _ => rfl) (fun n cs x h => by obtain ⟨k, e⟩ := cells_epoch h; exact ⟨k, e, trivial⟩) hf
  simp [Value.cells] at e
  obtain ⟨rfl, rfl, rfl⟩ := e
  exact ⟨_, _, _, l, rfl, h⟩
theorem nums_open {v : Value} {d : DataW H} {p : List MemPlace} (hval : Value.okWide Tryz.prog W .any base 23 v) (h1 : DataW.Trod enc Tryz.prog W 0 (fun _ => true) true 23 v d p) :
    ∃ a n c l, v = .slice a n c ∧ (n ≤ 5000 → IsIs W a n c l) := by
  obtain ⟨a1, len, cap, rfl⟩ := okWide_slice Tryz.underlying23 hval
  obtain ⟨fuel, hf⟩ := h1
  obtain ⟨a, n, c, l, e, _, _, h, _⟩ := rows_open (C := intC) (ok := I64) (z := 1) Tryz.underlying23 (by kernel_rfl) (by decide) (fun _ _ => rfl) (fun n cs x h => cells_int h) hf
  simp [Value.cells] at e
  obtain ⟨rfl, rfl, rfl⟩ := e
  exact ⟨_, _, _, l, rfl, h⟩
theorem case_open {v : Value} {d : DataW H} {p : List MemPlace} (hval : Value.okWide Tryz.prog W .any base 35 v) (h1 : DataW.Trod enc Tryz.prog W 0 (fun _ => true) true 35 v d p) :
    ∃ x : CaX, v = .agg x.C.toArray ∧ CaIn W x := by
  obtain ⟨cs, rfl, hsz⟩ := okWide_struct Tryz.underlying35 hval
  obtain ⟨fuel, hf⟩ := h1
  have hf : DataW.trod enc Tryz.prog W 0 (fun _ => true) true fuel 35 cs.toList = some (d, p) := hf
  obtain ⟨xs, n, _, _, hl, hlen, hg⟩ := DataW.trod_struct Tryz.underlying35 hf
  have c1 : Tryz.prog.cellsOf 3 = 1 := by kernel_rfl
  have c2 : Tryz.prog.cellsOf 26 = 3 := by kernel_rfl
  have c3 : Tryz.prog.cellsOf 27 = 1 := by kernel_rfl
  have c4 : Tryz.prog.cellsOf 23 = 1 := by kernel_rfl
  have c5 : Tryz.prog.cellsOf 28 = 1 := by kernel_rfl
  have c6 : Tryz.prog.cellsOf 33 = 8 := by kernel_rfl
  have c7 : Tryz.prog.cellsOf 35 = 15 := by kernel_rfl
  rw [c7] at hl
  match xs, hlen with
  | [y0, y1, y2, y3, y4, y5], _ =>
    have g0 : DataW.trod enc Tryz.prog W 0 (fun _ => true) true n 26 ((cs.toList.drop 0).take (Tryz.prog.cellsOf 26)) = some y0 := hg 0 _ rfl
    have g1 : DataW.trod enc Tryz.prog W 0 (fun _ => true) true n 27 ((cs.toList.drop 3).take (Tryz.prog.cellsOf 27)) = some y1 := hg 1 _ rfl
    have g2 : DataW.trod enc Tryz.prog W 0 (fun _ => true) true n 23 ((cs.toList.drop 4).take (Tryz.prog.cellsOf 23)) = some y2 := hg 2 _ rfl
    have g3 : DataW.trod enc Tryz.prog W 0 (fun _ => true) true n 28 ((cs.toList.drop 5).take (Tryz.prog.cellsOf 28)) = some y3 := hg 3 _ rfl
    have g4 : DataW.trod enc Tryz.prog W 0 (fun _ => true) true n 33 ((cs.toList.drop 6).take (Tryz.prog.cellsOf 33)) = some y4 := hg 4 _ rfl
    have g5 : DataW.trod enc Tryz.prog W 0 (fun _ => true) true n 3 ((cs.toList.drop 14).take (Tryz.prog.cellsOf 3)) = some y5 := hg 5 _ rfl
    rw [c2] at g0
    rw [c3] at g1
    rw [c4] at g2
    rw [c5] at g3
    rw [c6] at g4
    rw [c1] at g5
    obtain ⟨L, A, R, e0, hL, hA, hR⟩ := cells_runF g0
    obtain ⟨aF, nF, cF, F, e1, _, okF, hF, _⟩ := rows_open (C := fun s : List Int => s.map (Value.int .i64)) (ok := okS) (z := 6) Tryz.underlying27 (by kernel_rfl) (by decide) (fun k hk => by rw [List.length_map, hk.1]) (fun n cs x h => cells_six h) g1
    obtain ⟨aK, nK, cK, K, e2, _, _, hK, _⟩ := rows_open (C := intC) (ok := I64) (z := 1) Tryz.underlying23 (by kernel_rfl) (by decide) (fun _ _ => rfl) (fun n cs x h => cells_int h) g2
    obtain ⟨vJ, e3, hJ⟩ := cells_slice Tryz.underlying28 g3
    obtain ⟨P, a, b, c, r1, r2, r3, vS, e4, hP, ha, hb, hc, hS⟩ := cells_path g4
    obtain ⟨T, e5, hT⟩ := cells_int g5
    refine ⟨⟨⟨L, A, R, P, a, b, c, T, F, K⟩, aF, nF, cF, aK, nK, cK, vJ, vS, .int .i64 r1, .int .i64 r2, .int .i64 r3⟩, ?_, isL_rows hF okF, hK, ⟨hL, hA, hR, hP, ha, hb, hc, hT, hJ, hS, rfl, rfl, rfl⟩⟩
    match hcs : cs.toList, hl with
    | [u0, u1, u2, u3, u4, u5, u6, u7, u8, u9, u10, u11, u12, u13, u14], _ =>
      rw [hcs] at e0 e1 e2 e3 e4 e5
      simp at e0 e1 e2 e3 e4 e5
      obtain ⟨rfl, rfl, rfl⟩ := e0
      obtain ⟨rfl, rfl, rfl, rfl, rfl, rfl, rfl, rfl⟩ := e4
      subst e1; subst e2; subst e3; subst e5
      show Value.agg cs = .agg _
      rw [show cs = cs.toList.toArray from by simp, hcs]
      rfl
end
end Frk

/- Law 57: slices of digests as arguments, with their blocks. -/
namespace Frk
open Go Go.RowKit Go.Proofs Go.ChangeShapes Go.WideShapes Go.ChangeAt
set_option maxRecDepth 100000
theorem digq_open {H : Type} {enc : TypeId × Value → H} {W : World} {base : Nat} {v : Value} {d : DataW H} {p : List MemPlace} (hval : Value.okWide Tryz.prog W .any base 24 v) (h1 : DataW.Trod enc Tryz.prog W 0 (fun _ => true) true 24 v d p) :
    ∃ a n c l, v = .slice a n c ∧ (n ≤ 5000 → IsD W a n c l) ∧ (c = 0 ∨ ∃ g off, a = some ⟨g, off, none⟩) := by
  obtain ⟨a1, len, cap, rfl⟩ := okWide_slice Tryz.underlying24 hval
  obtain ⟨fuel, hf⟩ := h1
  obtain ⟨a, n, c, l, e, _, _, h, ha⟩ := rows_open (C := fun s : Bytes => s.map B) (ok := fun d => d.length = 32) (z := 32) Tryz.underlying24 (by kernel_rfl) (by decide) (fun k hk => by rw [List.length_map, hk]) (fun n cs x h => by obtain ⟨T, hT, e⟩ := cells_digest h; exact ⟨T, e, hT⟩) hf
  simp [Value.cells] at e
  obtain ⟨rfl, rfl, rfl⟩ := e
  exact ⟨_, _, _, l, rfl, isD_rows h, ha⟩
end Frk

