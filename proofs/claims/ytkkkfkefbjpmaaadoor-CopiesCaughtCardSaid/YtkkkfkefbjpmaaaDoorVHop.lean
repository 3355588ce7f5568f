/- A hand-over that came in. -/
import Derived.Test.YtkkkfkefbjpmaaaDoorVHac
import Derived.Test.YtkkkfkefbjpmaaaDoorVHol
namespace Frk
open Go Go.RowKit Go.Proofs Go.ChangeShapes Go.WideShapes Go.ChangeAt
set_option maxRecDepth 100000
section
variable {H : Type} {enc : TypeId × Value → H} {W : World} {base : Nat} {sp : Nat → Bool} {hd : Bool} {fuel : Nat} {cs : List Value} {x : DataW H × List MemPlace}

theorem i64_wf {n : Int} (h : (Lit.int .i64 n).wf = true) : I64 n := by
  simp [Lit.wf] at h
  have h1 := i64min
  have h2 := i64max
  exact ⟨by omega, by omega⟩

theorem cells_int (h : DataW.trod enc Tryd.prog W base sp hd fuel 3 cs = some x) : ∃ n, cs = [.int .i64 n] ∧ I64 n := by
  obtain ⟨n, e, _, hw⟩ := DataW.trod_int Tryd.underlying3 h
  exact ⟨n, e, i64_wf hw⟩

theorem cells_ints {t e : TypeId} {k : IntKind} {n : Nat} (ht : Tryd.prog.underlying t = some (.array n e)) (he : Tryd.prog.underlying e = some (.int k)) (hc : Tryd.prog.cellsOf e = 1) (hn : Tryd.prog.cellsOf t = n)
    (h : DataW.trod enc Tryd.prog W base sp hd fuel t cs = some x) : ∃ zs : List Int, zs.length = n ∧ cs = zs.map (fun z => .int k z) ∧ ∀ z ∈ zs, (Lit.int k z).wf = true := by
  obtain ⟨xs, m, _, _, hlen, hxl, hel⟩ := DataW.trod_array ht h
  rw [hn] at hlen
  have key : ∀ i, i < n → ∃ z, cs[i]? = some (.int k z) ∧ (Lit.int k z).wf = true := fun i hi => by
    have h1 := hel i hi
    rw [hc, List.getElem?_eq_getElem (by omega), Nat.mul_one] at h1
    obtain ⟨z, e1, _, hw⟩ := DataW.trod_int he h1
    refine ⟨z, ?_, hw⟩
    have := congrArg (·[0]?) e1
    simp only [List.getElem?_take, List.getElem?_drop] at this
    simpa using this
  refine ⟨cs.map intOf, by simp [hlen], ?_, ?_⟩
  · apply List.ext_getElem?
    intro i
    by_cases hi : i < n
    · obtain ⟨z, e1, _⟩ := key i hi
      simp [e1, intOf]
    · rw [List.getElem?_eq_none (by omega), List.getElem?_eq_none (by simp; omega)]
  · intro z hz
    obtain ⟨v, hv, rfl⟩ := List.mem_map.1 hz
    obtain ⟨i, hi, e⟩ := List.getElem_of_mem hv
    obtain ⟨z, e1, hw⟩ := key i (by omega)
    rw [List.getElem?_eq_getElem hi, e] at e1
    cases e1
    exact hw

theorem cells_digest (h : DataW.trod enc Tryd.prog W base sp hd fuel 25 cs = some x) : ∃ T : Bytes, T.length = 32 ∧ cs = T.map B := by
  obtain ⟨zs, hl, e, hw⟩ := cells_ints Tryd.underlying25 Tryd.underlying5 (by kernel_rfl) (by kernel_rfl) h
  refine ⟨zs.map fun z => UInt8.ofNat z.toNat, by simpa using hl, ?_⟩
  rw [e, List.map_map]
  apply List.map_congr_left
  intro z hz
  have := hw z hz
  simp [Lit.wf] at this
  have h1 : IntKind.u8.min = 0 := by decide
  have h2 : IntKind.u8.max = 255 := by decide
  show Value.int .u8 z = .int .u8 _
  congr 1
  rw [UInt8.toNat_ofNat_of_lt' (Nat.lt_of_lt_of_le (show z.toNat < 256 by omega) (by decide))]
  omega

theorem cells_run (h : DataW.trod enc Tryd.prog W base sp hd fuel 23 cs = some x) : ∃ a b c, cs = [.int .i64 a, .int .i64 b, .int .i64 c] ∧ I64 a ∧ I64 b ∧ I64 c := by
  obtain ⟨xs, n, _, _, hl, hlen, hg⟩ := DataW.trod_struct Tryd.underlying23 h
  have c1 : Tryd.prog.cellsOf 3 = 1 := by kernel_rfl
  have c2 : Tryd.prog.cellsOf 23 = 3 := by kernel_rfl
  rw [c2] at hl
  match xs, hlen with
  | [y0, y1, y2], _ =>
    have g0 : DataW.trod enc Tryd.prog W base sp hd n 3 ((cs.drop 0).take (Tryd.prog.cellsOf 3)) = some y0 := hg 0 _ rfl
    have g1 : DataW.trod enc Tryd.prog W base sp hd n 3 ((cs.drop 1).take (Tryd.prog.cellsOf 3)) = some y1 := hg 1 _ rfl
    have g2 : DataW.trod enc Tryd.prog W base sp hd n 3 ((cs.drop 2).take (Tryd.prog.cellsOf 3)) = some y2 := hg 2 _ rfl
    rw [c1] at g0 g1 g2
    obtain ⟨a, e0, ha⟩ := cells_int g0
    obtain ⟨b, e1, hb⟩ := cells_int g1
    obtain ⟨c, e2, hc⟩ := cells_int g2
    match cs, hl with
    | [u0, u1, u2], _ =>
      simp at e0 e1 e2
      subst e0; subst e1; subst e2
      exact ⟨a, b, c, rfl, ha, hb, hc⟩

theorem cells_sig (h : DataW.trod enc Tryd.prog W base sp hd fuel 27 cs = some x) : ∃ P Q, cs = [.int .i64 P, .int .i64 Q] ∧ I64 P ∧ I64 Q := by
  obtain ⟨y0, y1, n, _, hl, h0, h1⟩ := trod_struct2 Tryd.underlying27 h
  have c1 : Tryd.prog.cellsOf 3 = 1 := by kernel_rfl
  have c2 : Tryd.prog.cellsOf 27 = 2 := by kernel_rfl
  rw [c2] at hl
  simp only [c1] at h0 h1
  obtain ⟨P, e0, hP⟩ := cells_int h0
  obtain ⟨Q, e1, hQ⟩ := cells_int h1
  match cs, hl with
  | [a, b], _ =>
    simp at e0 e1
    subst e0; subst e1
    exact ⟨P, Q, rfl, hP, hQ⟩

theorem cells_hand (h : DataW.trod enc Tryd.prog W base sp hd fuel 29 cs = some x) : ∃ k : Hd, cs = k.C ∧ k.ok := by
  obtain ⟨xs, n, _, _, hl, hlen, hg⟩ := DataW.trod_struct Tryd.underlying29 h
  have c1 : Tryd.prog.cellsOf 3 = 1 := by kernel_rfl
  have c2 : Tryd.prog.cellsOf 27 = 2 := by kernel_rfl
  have c3 : Tryd.prog.cellsOf 25 = 32 := by kernel_rfl
  have c5 : Tryd.prog.cellsOf 23 = 3 := by kernel_rfl
  have c4 : Tryd.prog.cellsOf 29 = 42 := by kernel_rfl
  rw [c4] at hl
  match xs, hlen with
  | [y0, y1, y2, y3, y4, y5, y6, y7], _ =>
    have g0 : DataW.trod enc Tryd.prog W base sp hd n 23 ((cs.drop 0).take (Tryd.prog.cellsOf 23)) = some y0 := hg 0 _ rfl
    have g1 : DataW.trod enc Tryd.prog W base sp hd n 3 ((cs.drop 3).take (Tryd.prog.cellsOf 3)) = some y1 := hg 1 _ rfl
    have g2 : DataW.trod enc Tryd.prog W base sp hd n 3 ((cs.drop 4).take (Tryd.prog.cellsOf 3)) = some y2 := hg 2 _ rfl
    have g3 : DataW.trod enc Tryd.prog W base sp hd n 3 ((cs.drop 5).take (Tryd.prog.cellsOf 3)) = some y3 := hg 3 _ rfl
    have g4 : DataW.trod enc Tryd.prog W base sp hd n 3 ((cs.drop 6).take (Tryd.prog.cellsOf 3)) = some y4 := hg 4 _ rfl
    have g5 : DataW.trod enc Tryd.prog W base sp hd n 25 ((cs.drop 7).take (Tryd.prog.cellsOf 25)) = some y5 := hg 5 _ rfl
    have g6 : DataW.trod enc Tryd.prog W base sp hd n 3 ((cs.drop 39).take (Tryd.prog.cellsOf 3)) = some y6 := hg 6 _ rfl
    have g7 : DataW.trod enc Tryd.prog W base sp hd n 27 ((cs.drop 40).take (Tryd.prog.cellsOf 27)) = some y7 := hg 7 _ rfl
    rw [c5] at g0
    rw [c1] at g1 g2 g3 g4 g6
    rw [c3] at g5
    rw [c2] at g7
    obtain ⟨L, A, R, e0, hL, hA, hR⟩ := cells_run g0
    obtain ⟨leg, e1, h1⟩ := cells_int g1
    obtain ⟨fr, e2, h2⟩ := cells_int g2
    obtain ⟨to, e3, h3⟩ := cells_int g3
    obtain ⟨mn, e4, h4⟩ := cells_int g4
    obtain ⟨T, hT, e5⟩ := cells_digest g5
    obtain ⟨tm, e6, h6⟩ := cells_int g6
    obtain ⟨E, S, e7, _, _⟩ := cells_sig g7
    refine ⟨⟨L, A, R, leg, fr, to, mn, T, tm, E, S⟩, ?_, ⟨hT, hL, hA, hR, h1, h2, h3, h4, h6⟩⟩
    rw [List.take_of_length_le (by rw [List.length_drop]; omega)] at e7
    unfold Hd.C
    show cs = ([.int .i64 L, .int .i64 A, .int .i64 R] ++ ([.int .i64 leg] ++ ([.int .i64 fr] ++ ([.int .i64 to] ++ ([.int .i64 mn] ++ T.map B))))) ++ ([.int .i64 tm] ++ [.int .i64 E, .int .i64 S])
    rw [← e0, ← e1, ← e2, ← e3, ← e4, ← e5, ← e6, ← e7]
    have d1 : cs.drop 4 = (cs.drop 3).drop 1 := by rw [List.drop_drop]
    have d2 : cs.drop 5 = (cs.drop 4).drop 1 := by rw [List.drop_drop]
    have d3 : cs.drop 6 = (cs.drop 5).drop 1 := by rw [List.drop_drop]
    have d4 : cs.drop 7 = (cs.drop 6).drop 1 := by rw [List.drop_drop]
    have d5 : cs.drop 39 = (cs.drop 7).drop 32 := by rw [List.drop_drop]
    have d6 : cs.drop 40 = (cs.drop 39).drop 1 := by rw [List.drop_drop]
    rw [d6, List.take_append_drop, List.append_assoc, List.append_assoc, List.append_assoc, List.append_assoc, List.append_assoc, d5, List.take_append_drop, d4, List.take_append_drop, d3, List.take_append_drop, d2, List.take_append_drop, d1, List.take_append_drop, List.drop_zero, List.take_append_drop]
end

end Frk
