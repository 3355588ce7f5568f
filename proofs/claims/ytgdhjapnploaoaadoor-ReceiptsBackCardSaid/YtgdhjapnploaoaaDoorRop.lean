/- Words, arrays and numbers that came in. -/
import Derived.Test.YtgdhjapnploaoaaDoorHol
import Derived.Test.YtgdhjapnploaoaaDoorOsp
namespace Frk
open Go Go.RowKit Go.Proofs Go.ChangeShapes Go.WideShapes Go.ChangeAt
set_option maxRecDepth 100000

section
variable {H : Type} {enc : TypeId × Value → H} {W : World} {base : Nat} {sp : Nat → Bool} {hd : Bool} {fuel : Nat} {cs : List Value} {x : DataW H × List MemPlace}

theorem i64_wf {n : Int} (h : (Lit.int .i64 n).wf = true) : I64 n := by
  simp [Lit.wf] at h
  have h1 := i64min
  have h2 := i64max
  exact ⟨by omega, by omega⟩

theorem cells_int (h : DataW.trod enc Tryd.prog W base sp hd fuel 3 cs = some x) : ∃ n, cs = [.int .i64 n] ∧ I64 n := by
  obtain ⟨n, e, _, hw⟩ := DataW.trod_int Tryd.underlying3 h
  exact ⟨n, e, i64_wf hw⟩

theorem cells_ints {t e : TypeId} {k : IntKind} {n : Nat} (ht : Tryd.prog.underlying t = some (.array n e)) (he : Tryd.prog.underlying e = some (.int k)) (hc : Tryd.prog.cellsOf e = 1) (hn : Tryd.prog.cellsOf t = n)
    (h : DataW.trod enc Tryd.prog W base sp hd fuel t cs = some x) : ∃ zs : List Int, zs.length = n ∧ cs = zs.map (fun z => .int k z) ∧ ∀ z ∈ zs, (Lit.int k z).wf = true := by
  obtain ⟨xs, m, _, _, hlen, hxl, hel⟩ := DataW.trod_array ht h
  rw [hn] at hlen
  have key : ∀ i, i < n → ∃ z, cs[i]? = some (.int k z) ∧ (Lit.int k z).wf = true := fun i hi => by
    have h1 := hel i hi
    rw [hc, List.getElem?_eq_getElem (by omega), Nat.mul_one] at h1
    obtain ⟨z, e1, _, hw⟩ := DataW.trod_int he h1
    refine ⟨z, ?_, hw⟩
    have := congrArg (·[0]?) e1
    simp only [List.getElem?_take, List.getElem?_drop] at this
    simpa using this
  refine ⟨cs.map intOf, by simp [hlen], ?_, ?_⟩
  · apply List.ext_getElem?
    intro i
    by_cases hi : i < n
    · obtain ⟨z, e1, _⟩ := key i hi
      simp [e1, intOf]
    · rw [List.getElem?_eq_none (by omega), List.getElem?_eq_none (by simp; omega)]
  · intro z hz
    obtain ⟨v, hv, rfl⟩ := List.mem_map.1 hz
    obtain ⟨i, hi, e⟩ := List.getElem_of_mem hv
    obtain ⟨z, e1, hw⟩ := key i (by omega)
    rw [List.getElem?_eq_getElem hi, e] at e1
    cases e1
    exact hw

theorem cells_cipher (h : DataW.trod enc Tryd.prog W base sp hd fuel 25 cs = some x) : ∃ P Q, cs = [.int .i64 P, .int .i64 Q] ∧ I64 P ∧ I64 Q := by
  obtain ⟨y0, y1, n, _, hl, h0, h1⟩ := trod_struct2 Tryd.underlying25 h
  have c1 : Tryd.prog.cellsOf 3 = 1 := by kernel_rfl
  have c2 : Tryd.prog.cellsOf 25 = 2 := by kernel_rfl
  rw [c2] at hl
  simp only [c1] at h0 h1
  obtain ⟨P, e0, hP⟩ := cells_int h0
  obtain ⟨Q, e1, hQ⟩ := cells_int h1
  match cs, hl with
  | [a, b], _ =>
    simp at e0 e1
    subst e0; subst e1
    exact ⟨P, Q, rfl, hP, hQ⟩

theorem cells_digest (h : DataW.trod enc Tryd.prog W base sp hd fuel 27 cs = some x) : ∃ T : Bytes, T.length = 32 ∧ cs = T.map B := by
  obtain ⟨zs, hl, e, hw⟩ := cells_ints Tryd.underlying27 Tryd.underlying5 (by kernel_rfl) (by kernel_rfl) h
  refine ⟨zs.map fun z => UInt8.ofNat z.toNat, by simpa using hl, ?_⟩
  rw [e, List.map_map]
  apply List.map_congr_left
  intro z hz
  have := hw z hz
  simp [Lit.wf] at this
  have h1 : IntKind.u8.min = 0 := by decide
  have h2 : IntKind.u8.max = 255 := by decide
  show Value.int .u8 z = .int .u8 _
  congr 1
  rw [UInt8.toNat_ofNat_of_lt' (Nat.lt_of_lt_of_le (show z.toNat < 256 by omega) (by decide))]
  omega

theorem cells_ret (h : DataW.trod enc Tryd.prog W base sp hd fuel 29 cs = some x) : ∃ L K P Q T, cs = retC L K P Q T ∧ I64 L ∧ I64 K ∧ I64 P ∧ I64 Q ∧ T.length = 32 := by
  obtain ⟨xs, n, _, _, hl, hlen, hg⟩ := DataW.trod_struct Tryd.underlying29 h
  have c1 : Tryd.prog.cellsOf 3 = 1 := by kernel_rfl
  have c2 : Tryd.prog.cellsOf 25 = 2 := by kernel_rfl
  have c3 : Tryd.prog.cellsOf 27 = 32 := by kernel_rfl
  have c4 : Tryd.prog.cellsOf 29 = 36 := by kernel_rfl
  rw [c4] at hl
  match xs, hlen with
  | [y0, y1, y2, y3], _ =>
    have g0 : DataW.trod enc Tryd.prog W base sp hd n 3 ((cs.drop 0).take (Tryd.prog.cellsOf 3)) = some y0 := hg 0 _ rfl
    have g1 : DataW.trod enc Tryd.prog W base sp hd n 3 ((cs.drop 1).take (Tryd.prog.cellsOf 3)) = some y1 := hg 1 _ rfl
    have g2 : DataW.trod enc Tryd.prog W base sp hd n 25 ((cs.drop 2).take (Tryd.prog.cellsOf 25)) = some y2 := hg 2 _ rfl
    have g3 : DataW.trod enc Tryd.prog W base sp hd n 27 ((cs.drop 4).take (Tryd.prog.cellsOf 27)) = some y3 := hg 3 _ rfl
    rw [c1] at g0 g1
    rw [c2] at g2
    rw [c3] at g3
    obtain ⟨L, e0, hL⟩ := cells_int g0
    obtain ⟨K, e1, hK⟩ := cells_int g1
    obtain ⟨P, Q, e2, hP, hQ⟩ := cells_cipher g2
    obtain ⟨T, hT, e3⟩ := cells_digest g3
    refine ⟨L, K, P, Q, T, ?_, hL, hK, hP, hQ, hT⟩
    rw [List.take_of_length_le (by rw [List.length_drop]; omega)] at e3
    match cs, hl with
    | a :: b :: c :: d :: r, _ =>
      simp at e0 e1 e2 e3
      obtain ⟨rfl, rfl⟩ := e2
      subst e0; subst e1; subst e3
      rfl
end

theorem ret_open {H : Type} {enc : TypeId × Value → H} {W : World} {base : Nat} {v : Value} {d : DataW H} {p : List MemPlace} (hval : Value.okWide Tryd.prog W .any base 29 v) (h1 : DataW.Trod enc Tryd.prog W 0 (fun _ => true) true 29 v d p) :
    ∃ L K P Q T, v = .agg (retC L K P Q T).toArray ∧ I64 L ∧ I64 K ∧ I64 P ∧ I64 Q ∧ T.length = 32 := by
  obtain ⟨cs, rfl, hsz⟩ := okWide_struct Tryd.underlying29 hval
  obtain ⟨fuel, hf⟩ := h1
  obtain ⟨L, K, P, Q, T, e, h⟩ := cells_ret hf
  have e' : cs.toList = retC L K P Q T := e
  exact ⟨L, K, P, Q, T, by rw [← e'], h⟩

theorem cipher_open {H : Type} {enc : TypeId × Value → H} {W : World} {base : Nat} {v : Value} {d : DataW H} {p : List MemPlace} (hval : Value.okWide Tryd.prog W .any base 25 v) (h1 : DataW.Trod enc Tryd.prog W 0 (fun _ => true) true 25 v d p) :
    ∃ P Q, v = .agg #[.int .i64 P, .int .i64 Q] ∧ I64 P ∧ I64 Q := by
  obtain ⟨cs, rfl, hsz⟩ := okWide_struct Tryd.underlying25 hval
  obtain ⟨fuel, hf⟩ := h1
  obtain ⟨P, Q, e, h⟩ := cells_cipher hf
  have e' : cs.toList = [.int .i64 P, .int .i64 Q] := e
  exact ⟨P, Q, by rw [← e'], h⟩

theorem okWide_array' {w : World} {r : Reach} {base n : Nat} {t e : TypeId} {v : Value} (ht : Tryd.prog.underlying t = some (.array n e)) (h : Value.okWide Tryd.prog w r base t v) : ∃ cs, v = .agg cs ∧ cs.size = Tryd.prog.cellsOf t := by
  simp only [Value.okWide, ht] at h
  obtain ⟨cs, h1, h2, _⟩ := h
  exact ⟨cs, h1, h2⟩

theorem three_open {H : Type} {enc : TypeId × Value → H} {W : World} {base : Nat} {v : Value} {d : DataW H} {p : List MemPlace} (hval : Value.okWide Tryd.prog W .any base 22 v) (h1 : DataW.Trod enc Tryd.prog W 0 (fun _ => true) true 22 v d p) :
    ∃ x y z, v = .agg #[.int .i64 x, .int .i64 y, .int .i64 z] ∧ I64 x ∧ I64 y ∧ I64 z := by
  obtain ⟨cs, rfl, hsz⟩ := okWide_array' Tryd.underlying22 hval
  obtain ⟨fuel, hf⟩ := h1
  obtain ⟨zs, hl, e, hw⟩ := cells_ints Tryd.underlying22 Tryd.underlying3 (by kernel_rfl) (by kernel_rfl) hf
  match zs, hl with
  | [x, y, z], _ =>
    have e' : cs.toList = [.int .i64 x, .int .i64 y, .int .i64 z] := e
    exact ⟨x, y, z, by rw [← e'], i64_wf (hw x (by simp)), i64_wf (hw y (by simp)), i64_wf (hw z (by simp))⟩

theorem words_open {H : Type} {enc : TypeId × Value → H} {W : World} {base : Nat} {v : Value} {d : DataW H} {p : List MemPlace} (hval : Value.okWide Tryd.prog W .any base 23 v) (h1 : DataW.Trod enc Tryd.prog W 0 (fun _ => true) true 23 v d p) :
    ∃ x y z, v = .agg #[.int .i64 x, .int .i64 y, .int .i64 z] ∧ I64 x ∧ I64 y ∧ I64 z := by
  obtain ⟨cs, rfl, hsz⟩ := okWide_array' Tryd.underlying23 hval
  obtain ⟨fuel, hf⟩ := h1
  obtain ⟨zs, hl, e, hw⟩ := cells_ints Tryd.underlying23 Tryd.underlying3 (by kernel_rfl) (by kernel_rfl) hf
  match zs, hl with
  | [x, y, z], _ =>
    have e' : cs.toList = [.int .i64 x, .int .i64 y, .int .i64 z] := e
    exact ⟨x, y, z, by rw [← e'], i64_wf (hw x (by simp)), i64_wf (hw y (by simp)), i64_wf (hw z (by simp))⟩

end Frk
