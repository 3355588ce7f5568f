/- Parts of the proof, joined. -/
import Derived.Test.YtnpnboldjbljaaaDoorVfDgo
import Derived.Test.YtnpnboldjbljaaaDoorVfgHol
import Derived.Deep.Cut
import Derived.Test.YtnpnboldjbljaaaDoorVfDow
import Derived.Test.YtnpnboldjbljaaaDoorVfDpi
import Derived.Test.YtnpnboldjbljaaaDoorVfRpv
/- Slices of rows as arguments; law 44's devices. -/
namespace Frk
open Go Go.RowKit Go.Proofs Go.ChangeShapes Go.WideShapes Go.ChangeAt
set_option maxRecDepth 100000
section
variable {H : Type} {enc : TypeId × Value → H} {W : World} {base : Nat} {sp : Nat → Bool} {hd : Bool} {fuel : Nat} {cs : List Value} {x : DataW H × List MemPlace}

/-- a slice of rows that came in -/
theorem rows_open {α : Type} {C : α → List Value} {ok : α → Prop} {z : Nat} {t e : TypeId} (ht : Tryd.prog.underlying t = some (.slice e)) (c1 : Tryd.prog.cellsOf e = z) (hz : 0 < z) (hlen : ∀ k, ok k → (C k).length = z)
    (hcells : ∀ (n : Nat) (cs : List Value) (x : DataW H × List MemPlace), DataW.trod enc Tryd.prog W 0 (fun _ => true) true n e cs = some x → ∃ k, cs = C k ∧ ok k)
    (hf : DataW.trod enc Tryd.prog W 0 (fun _ => true) true fuel t cs = some x) :
    ∃ a len cap l, cs = [.slice a len cap] ∧ (len : Int) ≤ 9223372036854775807 ∧ (∀ x ∈ l, ok x) ∧ (len ≤ 5000 → IsC C z W a len cap l) ∧ (cap = 0 ∨ ∃ g off, a = some ⟨g, off, none⟩) := by
  rcases DataW.trod_slice ht hf with ⟨hcs, hx⟩ | ⟨a, len, cap, elems, rest, n, hn, hcs, hx, hb, hl, hm, hel, hat, hsp, _⟩
  · exact ⟨none, 0, 0, [], hcs, by decide, by simp, fun _ => ⟨rfl, Nat.le_refl _, by decide, by decide, by simp, .inl rfl⟩, .inl rfl⟩
  · rw [c1] at hat hsp
    obtain ⟨hrl, hrest⟩ := hsp rfl
    unfold maxLen at hm
    have hall : ∀ i, i < cap → ∃ T : α, ok T ∧ W.cells? 0 (a.add (i * z)) z = some (C T) := fun i hi => by
      have key : ∃ y, (W.cells? 0 (a.add (i * z)) z).bind (DataW.trod enc Tryd.prog W 0 (fun _ => true) true n e) = some y := by
        by_cases h : i < len
        · exact ⟨_, (hat i h).trans (List.getElem?_eq_getElem (by omega))⟩
        · have := hrest (i - len) (by omega)
          rw [show len + (i - len) = i from by omega] at this
          exact ⟨_, this.trans (List.getElem?_eq_getElem (by omega))⟩
      obtain ⟨y, hy⟩ := key
      obtain ⟨cs, h1, h2⟩ := Option.bind_eq_some_iff.1 hy
      obtain ⟨T, rfl, hT⟩ := hcells _ _ _ h2
      exact ⟨T, hT, h1⟩
    have hrow : ∀ m, m ≤ len → ∃ l : List α, l.length = m ∧ (∀ d ∈ l, ok d) ∧ ∀ j u, (l.flatMap C)[j]? = some u → W.cell? (a.add j) = some u := by
      intro m
      induction m with
      | zero => exact fun _ => ⟨[], rfl, by simp, fun j u h => by simp at h⟩
      | succ m ih =>
        intro hm'
        obtain ⟨l, h1, h2, h3⟩ := ih (by omega)
        obtain ⟨T, hT, hc⟩ := hall m (by omega)
        refine ⟨l ++ [T], by simp [h1], ?_, fun j u hj => ?_⟩
        · intro d hd
          rcases List.mem_append.1 hd with h | h
          · exact h2 d h
          · rw [List.mem_singleton.1 h]; exact hT
        · rw [List.flatMap_append, show [T].flatMap C = C T from by simp] at hj
          have hdl := isC_flat_len (C := C) (z := z) (l := l) fun x hx => hlen x (h2 x hx)
          by_cases hjl : j < m * z
          · rw [List.getElem?_append_left (by rw [hdl, h1]; exact hjl)] at hj
            exact h3 j u hj
          · rw [List.getElem?_append_right (by rw [hdl, h1]; omega), hdl, h1] at hj
            have hj32 : j - m * z < z := by have := (List.getElem?_eq_some_iff.1 hj).1; rwa [hlen T hT] at this
            have := (World.cells?_some hc).2.2 (j - m * z) hj32
            rw [hj] at this
            rw [Addr.add_add, show m * z + (j - m * z) = j from by omega] at this
            exact this
    obtain ⟨l, hl1, hl2, hl3⟩ := hrow len (Nat.le_refl _)
    have hspot : 0 < cap → a = ⟨a.block, a.off, none⟩ ∧ a.block < W.heap.size := fun h => by
      obtain ⟨T, hT, hc⟩ := hall 0 h
      have h0 := (World.cells?_some hc).2.2 0 hz
      rw [List.getElem?_eq_getElem (show 0 < (C T).length by rw [hlen T hT]; exact hz)] at h0
      obtain ⟨ab, ao, spot⟩ := a
      have hspot : spot = none := by simpa [Addr.add] using World.cell?_spot h0
      subst hspot
      refine ⟨rfl, ?_⟩
      rw [Addr.add_add, Addr.add_mid] at h0
      have := block_lt_of_cell h0
      exact this
    refine ⟨some a, len, cap, l, hcs, by omega, hl2, fun h40 => ⟨hl1, hl, h40, by omega, fun x hx => hlen x (hl2 x hx), ?_⟩, ?_⟩
    · rcases Nat.eq_zero_or_pos len with h0 | h0
      · exact .inl h0
      · right
        obtain ⟨ea, hlt⟩ := hspot (by omega)
        refine ⟨a.block, a.off, by rw [← ea], fun j u hu => ?_, hlt⟩
        have := hl3 j u hu
        rw [ea, Addr.add_mid] at this
        exact this
    · rcases Nat.eq_zero_or_pos cap with h0 | h0
      · exact .inl h0
      · exact .inr ⟨a.block, a.off, by rw [← (hspot h0).1]⟩

/-- a device that came in -/
structure DevArg (W : World) (pa ga : Option Addr) (pn pc gn gc : Nat) (D : Dv) : Prop where
  pm : (pn : Int) ≤ 9223372036854775807
  gm : (gn : Int) ≤ 9223372036854775807
  p32 : ∀ x ∈ D.P, x.S.length = 32
  ps : pn ≤ 5000 → IsPs W pa pn pc D.P
  is_ : gn ≤ 5000 → IsIs W ga gn gc D.G
  pp : pc = 0 ∨ ∃ g off, pa = some ⟨g, off, none⟩
  gp : gc = 0 ∨ ∃ g off, ga = some ⟨g, off, none⟩
end
end Frk

/- Appends of rows of equal length, in general. -/
namespace Frk
open Go Go.RowKit Go.Proofs
set_option maxRecDepth 100000

/-- slices of type tS have elements of type tE, which C lays out in z cells -/
structure RowT {α : Type} (C : α → List Value) (z : Nat) (tS tE : TypeId) : Prop where
  ut : Tryd.prog.underlying tS = some (.slice tE)
  info : ∃ (i : TypeInfo) (zv : Value) (b : Nat), Tryd.prog.info? tE = some i ∧ i.zero = some zv ∧ i.size = z ∧ i.bytes = b ∧ zv.cells.size = z ∧ 0 < z ∧ b ≤ 1000
  one : ∀ x, ∀ u ∈ C x, u.oneCell' = true
section
variable {α : Type} {C : α → List Value} {z : Nat} {tS tE : TypeId} (R : RowT C z tS tE)
def OwnC (C : α → List Value) (z : Nat) (tE : TypeId) (w : World) (base : Nat) (v : Value) (n : Nat) (l : List α) : Prop := w.ownsRow base tE z v n (l.flatMap C)
theorem flatC_take : ∀ (l : List α) (k : Nat), (∀ d ∈ l, (C d).length = z) → (l.take k).flatMap C = (l.flatMap C).take (k * z)
  | [], k, _ => by simp
  | d :: l, 0, _ => by simp
  | d :: l, k + 1, h => by
    rw [List.take_succ_cons, List.flatMap_cons, List.flatMap_cons, flatC_take l k (fun x hx => h x (List.mem_cons_of_mem _ hx)), List.take_append, h d List.mem_cons_self, List.take_of_length_le (l := C d) (by rw [h d List.mem_cons_self, Nat.succ_mul]; omega), show (k + 1) * z - z = k * z from by rw [Nat.succ_mul]; omega]
theorem flatC_drop : ∀ (l : List α) (k : Nat), (∀ d ∈ l, (C d).length = z) → (l.drop k).flatMap C = (l.flatMap C).drop (k * z)
  | [], k, _ => by simp
  | d :: l, 0, _ => by simp
  | d :: l, k + 1, h => by
    rw [List.drop_succ_cons, List.flatMap_cons, flatC_drop l k (fun x hx => h x (List.mem_cons_of_mem _ hx)), List.drop_append, h d List.mem_cons_self, List.drop_of_length_le (l := C d) (by rw [h d List.mem_cons_self, Nat.succ_mul]; omega), List.nil_append, show (k + 1) * z - z = k * z from by rw [Nat.succ_mul]; omega]
end
/-- a slice with a plain address -/
def PlainA (a : Option Addr) (c : Nat) : Prop := c = 0 ∨ ∃ g off, a = some ⟨g, off, none⟩
/-- block b is that of a slice that is not empty -/
def OldOf (a : Option Addr) (n b : Nat) : Prop := (∃ o, a = some ⟨b, o, none⟩) ∧ 0 < n
/-- a slice of rows is returned: one that was there (old), or one that is new -/
def RowPost {α : Type} (C : α → List Value) (z : Nat) (old : Nat → Prop) (l : List α) (w : World) (e : Ending) (w' : World) : Prop :=
  ∃ a n c, e = .returned (.slice a n c) ∧ Seal (IsC C z w' a n c l ∧ PlainA a c ∧ (∀ g o, a = some ⟨g, o, none⟩ → 0 < n → (old g ∨ w.heap.size ≤ g))) ∧ Below w.heap.size w w'
theorem IsC.setRow {α : Type} {C : α → List Value} {z : Nat} {w : World} {a : Option Addr} {n c : Nat} {l : List α} (h : IsC C z w a n c l) (k : Nat) (R : Array Value) (hne : ∀ g o, a = some ⟨g, o, none⟩ → 0 < n → g ≠ k) : IsC C z (w.setRow k R) a n c l :=
  ⟨h.llen, h.lcap, h.lmax, h.cmax, h.each, by
    rcases Nat.eq_zero_or_pos n with h1 | h1
    · exact .inl h1
    rcases h.at_ with h0 | ⟨g, o, e, hr, hg⟩
    · exact .inl h0
    · exact .inr ⟨g, o, e, rangeAt_setRow hr (hne g o e h1), by simpa [World.setRow] using hg⟩⟩
end Frk

