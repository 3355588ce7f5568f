/- Parts of the proof, joined. -/
import Derived.Test.YtemoomfnmiodeaaGreatDoorVugHop
import Derived.Test.YtemoomfnmiodeaaGreatDoorVuOsk
import Derived.Test.YtemoomfnmiodeaaGreatDoorVugKeb
import Derived.Deep.Cut
import Derived.Test.YtemoomfnmiodeaaGreatDoorVuKbu
/- Words, arrays and numbers that came in. -/
namespace Frk
open Go Go.RowKit Go.Proofs Go.ChangeShapes Go.WideShapes Go.ChangeAt
set_option maxRecDepth 100000

section
variable {H : Type} {enc : TypeId × Value → H} {W : World} {base : Nat} {sp : Nat → Bool} {hd : Bool} {fuel : Nat} {cs : List Value} {x : DataW H × List MemPlace}

theorem cells_cipher_k (h : DataW.trod enc Tryz.prog W base sp hd fuel 24 cs = some x) : ∃ P Q, cs = [.int .i64 P, .int .i64 Q] ∧ I64 P ∧ I64 Q := by
  obtain ⟨y0, y1, n, _, hl, h0, h1⟩ := trod_struct2 Tryz.underlying24 h
  have c1 : Tryz.prog.cellsOf 3 = 1 := by kernel_rfl
  have c2 : Tryz.prog.cellsOf 24 = 2 := by kernel_rfl
  rw [c2] at hl
  simp only [c1] at h0 h1
  obtain ⟨P, e0, hP⟩ := cells_int h0
  obtain ⟨Q, e1, hQ⟩ := cells_int h1
  match cs, hl with
  | [a, b], _ =>
    simp at e0 e1
    subst e0; subst e1
    exact ⟨P, Q, rfl, hP, hQ⟩

theorem cells_ret (h : DataW.trod enc Tryz.prog W base sp hd fuel 28 cs = some x) : ∃ L K P Q T, cs = retC L K P Q T ∧ I64 L ∧ I64 K ∧ I64 P ∧ I64 Q ∧ T.length = 32 := by
  obtain ⟨xs, n, _, _, hl, hlen, hg⟩ := DataW.trod_struct Tryz.underlying28 h
  have c1 : Tryz.prog.cellsOf 3 = 1 := by kernel_rfl
  have c2 : Tryz.prog.cellsOf 24 = 2 := by kernel_rfl
  have c3 : Tryz.prog.cellsOf 26 = 32 := by kernel_rfl
  have c4 : Tryz.prog.cellsOf 28 = 36 := by kernel_rfl
  rw [c4] at hl
  match xs, hlen with
  | [y0, y1, y2, y3], _ =>
    have g0 : DataW.trod enc Tryz.prog W base sp hd n 3 ((cs.drop 0).take (Tryz.prog.cellsOf 3)) = some y0 := hg 0 _ rfl
    have g1 : DataW.trod enc Tryz.prog W base sp hd n 3 ((cs.drop 1).take (Tryz.prog.cellsOf 3)) = some y1 := hg 1 _ rfl
    have g2 : DataW.trod enc Tryz.prog W base sp hd n 24 ((cs.drop 2).take (Tryz.prog.cellsOf 24)) = some y2 := hg 2 _ rfl
    have g3 : DataW.trod enc Tryz.prog W base sp hd n 26 ((cs.drop 4).take (Tryz.prog.cellsOf 26)) = some y3 := hg 3 _ rfl
    rw [c1] at g0 g1
    rw [c2] at g2
    rw [c3] at g3
    obtain ⟨L, e0, hL⟩ := cells_int g0
    obtain ⟨K, e1, hK⟩ := cells_int g1
    obtain ⟨P, Q, e2, hP, hQ⟩ := cells_cipher_k g2
    obtain ⟨T, hT, e3⟩ := cells_digest g3
    refine ⟨L, K, P, Q, T, ?_, hL, hK, hP, hQ, hT⟩
    rw [List.take_of_length_le (by rw [List.length_drop]; omega)] at e3
    match cs, hl with
    | a :: b :: c :: d :: r, _ =>
      simp at e0 e1 e2 e3
      obtain ⟨rfl, rfl⟩ := e2
      subst e0; subst e1; subst e3
      rfl
end

end Frk

/- Law 45: kept letters as arguments; slices of rows as arguments. -/
namespace Frk
open Go Go.RowKit Go.Proofs Go.ChangeShapes Go.WideShapes Go.ChangeAt
set_option maxRecDepth 100000
section
variable {H : Type} {enc : TypeId × Value → H} {W : World} {base : Nat} {sp : Nat → Bool} {hd : Bool} {fuel : Nat} {cs : List Value} {x : DataW H × List MemPlace}

/-- a slice of rows that came in -/
theorem rows_open {α : Type} {C : α → List Value} {ok : α → Prop} {z : Nat} {t e : TypeId} (ht : Tryz.prog.underlying t = some (.slice e)) (c1 : Tryz.prog.cellsOf e = z) (hz : 0 < z) (hlen : ∀ k, ok k → (C k).length = z)
    (hcells : ∀ (n : Nat) (cs : List Value) (x : DataW H × List MemPlace), DataW.trod enc Tryz.prog W 0 (fun _ => true) true n e cs = some x → ∃ k, cs = C k ∧ ok k)
    (hf : DataW.trod enc Tryz.prog W 0 (fun _ => true) true fuel t cs = some x) :
    ∃ a len cap l, cs = [.slice a len cap] ∧ (len : Int) ≤ 9223372036854775807 ∧ (∀ x ∈ l, ok x) ∧ (len ≤ 5000 → IsC C z W a len cap l) ∧ (cap = 0 ∨ ∃ g off, a = some ⟨g, off, none⟩) := by
  rcases DataW.trod_slice ht hf with ⟨hcs, hx⟩ | ⟨a, len, cap, elems, rest, n, hn, hcs, hx, hb, hl, hm, hel, hat, hsp, _⟩
  · exact ⟨none, 0, 0, [], hcs, by decide, by simp, fun _ => ⟨rfl, Nat.le_refl _, by decide, by decide, by simp, .inl rfl⟩, .inl rfl⟩
  · rw [c1] at hat hsp
    obtain ⟨hrl, hrest⟩ := hsp rfl
    unfold maxLen at hm
    have hall : ∀ i, i < cap → ∃ T : α, ok T ∧ W.cells? 0 (a.add (i * z)) z = some (C T) := fun i hi => by
      have key : ∃ y, (W.cells? 0 (a.add (i * z)) z).bind (DataW.trod enc Tryz.prog W 0 (fun _ => true) true n e) = some y := by
        by_cases h : i < len
        · exact ⟨_, (hat i h).trans (List.getElem?_eq_getElem (by omega))⟩
        · have := hrest (i - len) (by omega)
          rw [show len + (i - len) = i from by omega] at this
          exact ⟨_, this.trans (List.getElem?_eq_getElem (by omega))⟩
      obtain ⟨y, hy⟩ := key
      obtain ⟨cs, h1, h2⟩ := Option.bind_eq_some_iff.1 hy
      obtain ⟨T, rfl, hT⟩ := hcells _ _ _ h2
      exact ⟨T, hT, h1⟩
    have hrow : ∀ m, m ≤ len → ∃ l : List α, l.length = m ∧ (∀ d ∈ l, ok d) ∧ ∀ j u, (l.flatMap C)[j]? = some u → W.cell? (a.add j) = some u := by
      intro m
      induction m with
      | zero => exact fun _ => ⟨[], rfl, by simp, fun j u h => by simp at h⟩
      | succ m ih =>
        intro hm'
        obtain ⟨l, h1, h2, h3⟩ := ih (by omega)
        obtain ⟨T, hT, hc⟩ := hall m (by omega)
        refine ⟨l ++ [T], by simp [h1], ?_, fun j u hj => ?_⟩
        · intro d hd
          rcases List.mem_append.1 hd with h | h
          · exact h2 d h
          · rw [List.mem_singleton.1 h]; exact hT
        · rw [List.flatMap_append, show [T].flatMap C = C T from by simp] at hj
          have hdl := isC_flat_len (C := C) (z := z) (l := l) fun x hx => hlen x (h2 x hx)
          by_cases hjl : j < m * z
          · rw [List.getElem?_append_left (by rw [hdl, h1]; exact hjl)] at hj
            exact h3 j u hj
          · rw [List.getElem?_append_right (by rw [hdl, h1]; omega), hdl, h1] at hj
            have hj32 : j - m * z < z := by have := (List.getElem?_eq_some_iff.1 hj).1; rwa [hlen T hT] at this
            have := (World.cells?_some hc).2.2 (j - m * z) hj32
            rw [hj] at this
            rw [Addr.add_add, show m * z + (j - m * z) = j from by omega] at this
            exact this
    obtain ⟨l, hl1, hl2, hl3⟩ := hrow len (Nat.le_refl _)
    have hspot : 0 < cap → a = ⟨a.block, a.off, none⟩ ∧ a.block < W.heap.size := fun h => by
      obtain ⟨T, hT, hc⟩ := hall 0 h
      have h0 := (World.cells?_some hc).2.2 0 hz
      rw [List.getElem?_eq_getElem (show 0 < (C T).length by rw [hlen T hT]; exact hz)] at h0
      obtain ⟨ab, ao, spot⟩ := a
      have hspot : spot = none := by simpa [Addr.add] using World.cell?_spot h0
      subst hspot
      refine ⟨rfl, ?_⟩
      rw [Addr.add_add, Addr.add_mid] at h0
      have := block_lt_of_cell h0
      exact this
    refine ⟨some a, len, cap, l, hcs, by omega, hl2, fun h40 => ⟨hl1, hl, h40, by omega, fun x hx => hlen x (hl2 x hx), ?_⟩, ?_⟩
    · rcases Nat.eq_zero_or_pos len with h0 | h0
      · exact .inl h0
      · right
        obtain ⟨ea, hlt⟩ := hspot (by omega)
        refine ⟨a.block, a.off, by rw [← ea], fun j u hu => ?_, hlt⟩
        have := hl3 j u hu
        rw [ea, Addr.add_mid] at this
        exact this
    · rcases Nat.eq_zero_or_pos cap with h0 | h0
      · exact .inl h0
      · exact .inr ⟨a.block, a.off, by rw [← (hspot h0).1]⟩

theorem cells_kept (h : DataW.trod enc Tryz.prog W base sp hd fuel 30 cs = some x) : ∃ k : Ltr, cs = k.C ∧ k.ok := by
  obtain ⟨y0, y1, y2, n, _, hl, h0, h1, h2⟩ := Deep.trod_struct3 Tryz.underlying30 h
  have c1 : Tryz.prog.cellsOf 3 = 1 := by kernel_rfl
  have c2 : Tryz.prog.cellsOf 28 = 36 := by kernel_rfl
  have c3 : Tryz.prog.cellsOf 30 = 38 := by kernel_rfl
  rw [c3] at hl
  simp only [c1, c2] at h0 h1 h2
  obtain ⟨N, e0, hN⟩ := cells_int h0
  obtain ⟨U, e1, hU⟩ := cells_int h1
  obtain ⟨L, K, P, Q, T, e2, hL, hK, hP, hQ, hT⟩ := cells_ret h2
  refine ⟨⟨N, U, L, K, P, Q, T⟩, ?_, hN, hU, hL, hK, hP, hQ, hT⟩
  rw [List.take_of_length_le (by rw [List.length_drop]; omega)] at e2
  match cs, hl with
  | a :: b :: r, _ =>
    simp at e0 e1 e2
    subst e0; subst e1; subst e2
    rfl
theorem kepts_open {v : Value} {d : DataW H} {p : List MemPlace} (hval : Value.okWide Tryz.prog W .any base 22 v) (h1 : DataW.Trod enc Tryz.prog W 0 (fun _ => true) true 22 v d p) :
    ∃ a n c l, v = .slice a n c ∧ (n : Int) ≤ 9223372036854775807 ∧ (∀ x ∈ l, Ltr.ok x) ∧ (n ≤ 5000 → IsC Ltr.C 38 W a n c l) ∧ (c = 0 ∨ ∃ g off, a = some ⟨g, off, none⟩) := by
  obtain ⟨a1, len, cap, rfl⟩ := okWide_slice Tryz.underlying22 hval
  obtain ⟨fuel, hf⟩ := h1
  obtain ⟨a, n, c, l, e, hm, hok, hd, hx⟩ := rows_open (C := Ltr.C) (ok := Ltr.ok) (z := 38) Tryz.underlying22 (by kernel_rfl) (by decide) (fun _ h => Ltr.C_len h.t32) (fun n cs x h => cells_kept h) hf
  simp [Value.cells] at e
  obtain ⟨rfl, rfl, rfl⟩ := e
  exact ⟨_, _, _, l, rfl, hm, hok, hd, hx⟩
end
end Frk

/- Law 45: a proof of burning as an argument. -/
namespace Frk
open Go Go.RowKit Go.Proofs Go.ChangeShapes Go.WideShapes Go.ChangeAt
set_option maxRecDepth 100000
section
variable {H : Type} {enc : TypeId × Value → H} {W : World} {base : Nat}
theorem burnt_open {v : Value} {d : DataW H} {p : List MemPlace} (hval : Value.okWide Tryz.prog W .any base 50 v) (h1 : DataW.Trod enc Tryz.prog W 0 (fun _ => true) true 50 v d p) :
    ∃ ag ng cg, ∃ b : Brn, v = .agg (brC b (.slice ag ng cg)).toArray ∧ b.B.length = 32 ∧ b.A.length = 32 ∧ (ng : Int) ≤ 9223372036854775807 ∧ (ng ≤ 5000 → IsIs W ag ng cg b.G) ∧ (cg = 0 ∨ ∃ g off, ag = some ⟨g, off, none⟩) := by
  obtain ⟨cs, rfl, hsz⟩ := okWide_struct Tryz.underlying50 hval
  obtain ⟨fuel, hf⟩ := h1
  have hf : DataW.trod enc Tryz.prog W 0 (fun _ => true) true fuel 50 cs.toList = some (d, p) := hf
  obtain ⟨y0, y1, y2, n, _, hl, h0, h1, h2⟩ := Deep.trod_struct3 Tryz.underlying50 hf
  have c1 : Tryz.prog.cellsOf 26 = 32 := by kernel_rfl
  have c2 : Tryz.prog.cellsOf 48 = 1 := by kernel_rfl
  have c3 : Tryz.prog.cellsOf 50 = 65 := by kernel_rfl
  rw [c3] at hl
  simp only [c1, c2] at h0 h1 h2
  obtain ⟨X, hX, e0⟩ := cells_digest h0
  obtain ⟨Y, hY, e1⟩ := cells_digest h1
  obtain ⟨ga, gn, gc, G, e2, gm, _, gs, gp⟩ := rows_open (C := intC) (ok := I64) (z := 1) Tryz.underlying48 (by kernel_rfl) (by decide) (fun _ _ => rfl) (fun n cs x h => cells_int h) h2
  refine ⟨ga, gn, gc, ⟨X, Y, G⟩, ?_, hX, hY, gm, gs, gp⟩
  congr 1
  apply Array.ext'
  rw [List.toList_toArray]
  unfold brC
  generalize cs.toList = L at *
  simp only [List.drop_zero] at e0
  have s1 : L = L.take 32 ++ L.drop 32 := (List.take_append_drop 32 L).symm
  have s2 : L.drop 32 = (L.drop 32).take 32 ++ (L.drop 32).drop 32 := (List.take_append_drop 32 _).symm
  have s3 : (L.drop 32).drop 32 = L.drop 64 := by rw [List.drop_drop]
  have s4 : (L.drop 64).take 1 = L.drop 64 := List.take_of_length_le (by rw [List.length_drop]; omega)
  rw [s1, s2, s3, e0, e1, ← s4, e2]
end
end Frk

