/- Appends of rows of equal length, in general. -/
import Derived.Test.YtnpnboldjbljaaaDoorVegDow
import Derived.Test.YtnpnboldjbljaaaDoorVeDpi
import Derived.Test.YtnpnboldjbljaaaDoorVeRpv
namespace Frk
open Go Go.RowKit Go.Proofs
set_option maxRecDepth 100000

/-- slices of type tS have elements of type tE, which C lays out in z cells -/
structure RowT {α : Type} (C : α → List Value) (z : Nat) (tS tE : TypeId) : Prop where
  ut : Tryd.prog.underlying tS = some (.slice tE)
  info : ∃ (i : TypeInfo) (zv : Value) (b : Nat), Tryd.prog.info? tE = some i ∧ i.zero = some zv ∧ i.size = z ∧ i.bytes = b ∧ zv.cells.size = z ∧ 0 < z ∧ b ≤ 1000
  one : ∀ x, ∀ u ∈ C x, u.oneCell' = true
theorem rowT_of {α : Type} {C : α → List Value} {z : Nat} {tS tE : TypeId} {zv : Value} {b : Nat} (hu : Tryd.prog.underlying tS = some (.slice tE)) (h : (Tryd.prog.info? tE).map (fun i => (i.zero, i.size, i.bytes)) = some (some zv, z, b)) (hz : zv.cells.size = z) (h0 : 0 < z) (hb : b ≤ 1000) (h1 : ∀ x, ∀ u ∈ C x, u.oneCell' = true) : RowT C z tS tE := by
  obtain ⟨i0, hi, hz0, hz1, hz2⟩ := info_parts h
  exact ⟨hu, ⟨i0, zv, b, hi, hz0, hz1, hz2, hz, h0, hb⟩, h1⟩
theorem rowT_po : RowT Po.C 33 22 31 := rowT_of Tryd.underlying22 info_po (by rfl) (by decide) (by decide) Po.C_one
theorem rowT_int : RowT intC 1 23 3 := rowT_of Tryd.underlying23 info_int2 (by rfl) (by decide) (by decide) (by intro x u hu; rw [List.mem_singleton.1 hu]; rfl)

section
variable {α : Type} {C : α → List Value} {z : Nat} {tS tE : TypeId} (R : RowT C z tS tE)
def OwnC (C : α → List Value) (z : Nat) (tE : TypeId) (w : World) (base : Nat) (v : Value) (n : Nat) (l : List α) : Prop := w.ownsRow base tE z v n (l.flatMap C)
theorem flatC_take : ∀ (l : List α) (k : Nat), (∀ d ∈ l, (C d).length = z) → (l.take k).flatMap C = (l.flatMap C).take (k * z)
  | [], k, _ => by simp
  | d :: l, 0, _ => by simp
  | d :: l, k + 1, h => by
    rw [List.take_succ_cons, List.flatMap_cons, List.flatMap_cons, flatC_take l k (fun x hx => h x (List.mem_cons_of_mem _ hx)), List.take_append, h d List.mem_cons_self, List.take_of_length_le (l := C d) (by rw [h d List.mem_cons_self, Nat.succ_mul]; omega), show (k + 1) * z - z = k * z from by rw [Nat.succ_mul]; omega]
theorem flatC_drop : ∀ (l : List α) (k : Nat), (∀ d ∈ l, (C d).length = z) → (l.drop k).flatMap C = (l.flatMap C).drop (k * z)
  | [], k, _ => by simp
  | d :: l, 0, _ => by simp
  | d :: l, k + 1, h => by
    rw [List.drop_succ_cons, List.flatMap_cons, flatC_drop l k (fun x hx => h x (List.mem_cons_of_mem _ hx)), List.drop_append, h d List.mem_cons_self, List.drop_of_length_le (l := C d) (by rw [h d List.mem_cons_self, Nat.succ_mul]; omega), List.nil_append, show (k + 1) * z - z = k * z from by rw [Nat.succ_mul]; omega]
theorem flatC_one {l : List α} (h : ∀ x, ∀ u ∈ C x, u.oneCell' = true) : ∀ u ∈ l.flatMap C, u.oneCell' = true := fun u hu => by
  obtain ⟨x, _, hx⟩ := List.mem_flatMap.1 hu
  exact h x u hx
include R
theorem run_app_c (w : World) (ty : TypeId) (base n m c : Nat) (v : Value) (l1 l2 : List α) (hown : OwnC C z tE w base v n l1) (ad : Addr) (hl : l2.length = m) (he : ∀ d ∈ l2, (C d).length = z) (hc : ∀ j u, (l2.flatMap C)[j]? = some u → w.cell? (ad.add j) = some u) (hn : n + m ≤ 10000000) (hbase : base ≤ w.heap.size) :
    ∃ v' w', (Builtin.append_ #[tS, tS] ty #[v, .slice (some ad) m c]).run Tryd.prog w = .ok v' w' ∧ OwnC C z tE w' base v' (n + m) (l1 ++ l2) ∧ w.grownBy w' v.ownBlock ∧ (v'.ownBlock = v.ownBlock ∨ v'.ownBlock = some w.heap.size) := by
  obtain ⟨i0, zv, b, hi, hz0, hz1, hz2, hzs, h0, hb⟩ := R.info
  obtain ⟨v', w', h1, h2, h3, _, h5⟩ := run_append_own_at (P := Tryd.prog) w base tS ty tE i0 _ z b R.ut hi hz0 hz1 hz2 hzs h0 v n (l1.flatMap C) hown ad m c (l2.flatMap C) (by rw [isC_flat_len he, hl]) hc (flatC_one R.one) (by unfold maxLen; omega) (by
    have := Nat.mul_le_mul hn hb
    omega) hbase
  refine ⟨v', w', h1, ?_, h3, h5⟩
  unfold OwnC
  rw [List.flatMap_append]
  exact h2
theorem run_app_c0 (w : World) (ty : TypeId) (base n : Nat) (v : Value) (l1 : List α) (hown : OwnC C z tE w base v n l1) : (Builtin.append_ #[tS, tS] ty #[v, .slice none 0 0]).run Tryd.prog w = .ok v w := by
  obtain ⟨i0, zv, b, hi, _⟩ := R.info
  exact run_append_owned_none (P := Tryd.prog) (w := w) base tS ty tE i0 z R.ut hi v n (l1.flatMap C) hown
/-- one more -/
theorem put_one_c (k : Nat) (l1 : List α) (d : α) (h : (C d).length = z) (hk : k ≤ 10000) (W : World) (base vb : Nat) (v : Value) (ty : TypeId) (ho : OwnC C z tE W base v k l1) (hv : W.heap[vb]? = some (.cells (C d).toArray tE (0, 0))) (hb : base ≤ W.heap.size) :
    ∃ v2 W2, (Builtin.append_ #[tS, tS] ty #[v, .slice (some ⟨vb, 0, none⟩) 1 1]).run Tryd.prog W = .ok v2 W2 ∧ OwnC C z tE W2 base v2 (k + 1) (l1 ++ [d]) ∧ Below base W W2 := by
  obtain ⟨v2, W2, h1, h2, h3, _⟩ := run_app_c R W ty base k 1 1 v l1 [d] ho ⟨vb, 0, none⟩ rfl (by simpa using h) (by
    rw [show [d].flatMap C = C d from by simp]
    exact World.news_of_block hv) (by omega) hb
  exact ⟨v2, W2, h1, h2, below_own ho hb h3⟩
/-- the first part of a list, into a new row -/
theorem put_head_c (V : World) (g off len cap k : Nat) (l : List α) (hd : IsC C z V (some ⟨g, off, none⟩) len cap l) (hk : k ≤ len) (W : World) (b0 : Nat) (ty : TypeId) (hO : OwnC C z tE W V.heap.size (.slice (some ⟨b0, 0, none⟩) 0 0) 0 []) (hb : Below V.heap.size V W) :
    ∃ v1 W1, (Builtin.append_ #[tS, tS] ty #[.slice (some ⟨b0, 0, none⟩) 0 0, .slice (some ⟨g, off, none⟩) k cap]).run Tryd.prog W = .ok v1 W1 ∧ OwnC C z tE W1 V.heap.size v1 k (l.take k) ∧ W.grownBy W1 (some b0) ∧ Below V.heap.size W W1 := by
  have he : ∀ d ∈ l.take k, (C d).length = z := fun d h => hd.each d (List.mem_of_mem_take h)
  have hlm := hd.lmax
  obtain ⟨v1, W1, h1, h2, h3, _⟩ := run_app_c R W ty V.heap.size 0 k cap _ [] (l.take k) hO ⟨g, off, none⟩ (by rw [List.length_take, hd.llen]; omega) he (fun j u hj => by
    rcases hd.at_ with h0 | ⟨g', off', e, hr, hg⟩
    · obtain rfl : k = 0 := by omega
      simp at hj
    · cases e
      rw [Addr.add_mid]
      have hj' : (l.flatMap C)[j]? = some u := by
        rw [flatC_take l k hd.each, List.getElem?_take] at hj
        split at hj
        · exact hj
        · cases hj
      exact (World.cell?_of_block (w := V) (hb.block g hg)).trans (hr j u hj')) (by omega) hb.size
  rw [Nat.zero_add, List.nil_append] at h2
  exact ⟨v1, W1, h1, h2, h3, below_own hO hb.size h3⟩
/-- the rest of a list -/
theorem put_rest_c (V : World) (g off len cap k c : Nat) (l l1 : List α) (n : Nat) (hd : IsC C z V (some ⟨g, off, none⟩) len cap l) (hk : k ≤ len) (W : World) (v : Value) (ty : TypeId) (hO : OwnC C z tE W V.heap.size v n l1) (hn : n ≤ 10000) (hb : Below V.heap.size V W) (ad : Addr) (had : 0 < len - k → ad = ⟨g, off + k * z, none⟩) :
    ∃ v3 W4, (Builtin.append_ #[tS, tS] ty #[v, .slice (some ad) (len - k) c]).run Tryd.prog W = .ok v3 W4 ∧ OwnC C z tE W4 V.heap.size v3 (n + (len - k)) (l1 ++ l.drop k) ∧ Below V.heap.size W W4 := by
  have he : ∀ d ∈ l.drop k, (C d).length = z := fun d h => hd.each d (List.mem_of_mem_drop h)
  have hlm := hd.lmax
  obtain ⟨v1, W1, h1, h2, h3, _⟩ := run_app_c R W ty V.heap.size n (len - k) c v l1 (l.drop k) hO ad (by rw [List.length_drop, hd.llen]) he (fun j u hj => by
    by_cases h0 : 0 < len - k
    · rw [had h0]
      rcases hd.at_ with h0 | ⟨g', off', e, hr, hg⟩
      · omega
      · cases e
        rw [Addr.add_mid]
        have hj' : (l.flatMap C)[k * z + j]? = some u := by
          rw [flatC_drop l k hd.each, List.getElem?_drop] at hj
          exact hj
        have := hr _ u hj'
        rw [← Nat.add_assoc] at this
        exact (World.cell?_of_block (w := V) (hb.block g hg)).trans this
    · rw [List.drop_of_length_le (by rw [hd.llen]; omega)] at hj
      simp at hj) (by omega) hb.size
  exact ⟨v1, W1, h1, h2, below_own hO hb.size h3⟩
theorem own_empty_c (w : World) (base : Nat) (hb : base ≤ w.heap.size) : OwnC C z tE (w.alloc (.cells #[] tE)) base (.slice (some ⟨w.heap.size, 0, none⟩) 0 0) 0 [] := by
  have _ := R
  exact ⟨by simp, .inr ⟨w.heap.size, 0, #[], rfl, hb, heap_alloc_new w _, Nat.le_refl _, by unfold maxLen; omega, by simp, by simp⟩⟩
theorem put_head0_c (a : Option Addr) (base : Nat) (W : World) (b0 : Nat) (ty : TypeId) (hO : OwnC C z tE W base (.slice (some ⟨b0, 0, none⟩) 0 0) 0 []) (hs : base ≤ W.heap.size) :
    ∃ v1 W1, (Builtin.append_ #[tS, tS] ty #[.slice (some ⟨b0, 0, none⟩) 0 0, .slice a 0 0]).run Tryd.prog W = .ok v1 W1 ∧ OwnC C z tE W1 base v1 0 [] ∧ W.grownBy W1 (some b0) ∧ Below base W W1 := by
  cases a with
  | none => exact ⟨_, W, run_app_c0 R W ty base 0 _ [] hO, hO, ⟨rfl, rfl, rfl, Nat.le_refl _, fun _ _ _ => rfl⟩, Below.refl _ _⟩
  | some ad =>
    obtain ⟨v1, W1, h1, h2, h3, _⟩ := run_app_c R W ty base 0 0 0 _ [] [] hO ad rfl (by simp) (fun j u hj => by simp at hj) (by omega) hs
    exact ⟨v1, W1, h1, h2, h3, below_own hO hs h3⟩
theorem put_rest0_c (a : Option Addr) (base : Nat) (W : World) (v : Value) (n : Nat) (l1 : List α) (ty : TypeId) (hO : OwnC C z tE W base v n l1) (hn : n ≤ 10000) (hs : base ≤ W.heap.size) :
    ∃ v1 W1, (Builtin.append_ #[tS, tS] ty #[v, .slice a 0 0]).run Tryd.prog W = .ok v1 W1 ∧ OwnC C z tE W1 base v1 n l1 ∧ Below base W W1 := by
  cases a with
  | none => exact ⟨v, W, run_app_c0 R W ty base n v l1 hO, hO, Below.refl _ _⟩
  | some ad =>
    obtain ⟨v1, W1, h1, h2, h3, _⟩ := run_app_c R W ty base n 0 0 v l1 [] hO ad rfl (by simp) (fun j u hj => by simp at hj) (by omega) hs
    rw [List.append_nil] at h2
    exact ⟨v1, W1, h1, h2, below_own hO hs h3⟩
/-- one's own row, not empty, as a slice -/
theorem isC_ownC {w : World} {base n : Nat} {v : Value} {l : List α} (h : OwnC C z tE w base v n l) (h0 : 0 < n) (he : ∀ x ∈ l, (C x).length = z) (hl : l.length = n) (hm : n ≤ 5000) : ∃ g c, v = .slice (some ⟨g, 0, none⟩) n c ∧ IsC C z w (some ⟨g, 0, none⟩) n c l := by
  have _ := R
  rcases h.2 with ⟨rfl, rfl⟩ | ⟨g, cap, cur, rfl, _, hg, hc, hcm, hs, ht⟩
  · omega
  · refine ⟨g, cap, rfl, hl, hc, hm, by unfold maxLen at hcm; omega, he, .inr ⟨g, 0, rfl, ?_, (Array.getElem?_eq_some_iff.1 hg).1⟩⟩
    intro j u hu
    rw [cell_of_row _ _ _ _ _ _ hg]
    rw [← ht, List.getElem?_take] at hu
    split at hu
    · simpa using hu
    · cases hu
end
/-- a slice with a plain address -/
def PlainA (a : Option Addr) (c : Nat) : Prop := c = 0 ∨ ∃ g off, a = some ⟨g, off, none⟩
/-- block b is that of a slice that is not empty -/
def OldOf (a : Option Addr) (n b : Nat) : Prop := (∃ o, a = some ⟨b, o, none⟩) ∧ 0 < n
/-- a slice of rows is returned: one that was there (old), or one that is new -/
def RowPost {α : Type} (C : α → List Value) (z : Nat) (old : Nat → Prop) (l : List α) (w : World) (e : Ending) (w' : World) : Prop :=
  ∃ a n c, e = .returned (.slice a n c) ∧ Seal (IsC C z w' a n c l ∧ PlainA a c ∧ (∀ g o, a = some ⟨g, o, none⟩ → 0 < n → (old g ∨ w.heap.size ≤ g))) ∧ Below w.heap.size w w'
theorem rowPost_of {α : Type} {C : α → List Value} {z : Nat} {tS tE : TypeId} (R : RowT C z tS tE) {old : Nat → Prop} {W w : World} {base n : Nat} {v : Value} {l : List α} (h : OwnC C z tE W base v n l) (h0 : 0 < n) (hl : l.length = n) (he : ∀ x ∈ l, (C x).length = z) (hn : n ≤ 5000) (hbase : w.heap.size ≤ base) (hb : Below w.heap.size w W) : RowPost C z old l w (.returned v) W := by
  obtain ⟨g, c, rfl, hh⟩ := isC_ownC R h h0 he hl hn
  exact ⟨_, n, c, rfl, ⟨hh, .inr ⟨g, 0, rfl⟩, fun g' o' e _ => by cases e; exact .inr (by have := (World.ownsRow.lt h g rfl).1; omega)⟩, hb⟩
theorem IsC.setRow {α : Type} {C : α → List Value} {z : Nat} {w : World} {a : Option Addr} {n c : Nat} {l : List α} (h : IsC C z w a n c l) (k : Nat) (R : Array Value) (hne : ∀ g o, a = some ⟨g, o, none⟩ → 0 < n → g ≠ k) : IsC C z (w.setRow k R) a n c l :=
  ⟨h.llen, h.lcap, h.lmax, h.cmax, h.each, by
    rcases Nat.eq_zero_or_pos n with h1 | h1
    · exact .inl h1
    rcases h.at_ with h0 | ⟨g, o, e, hr, hg⟩
    · exact .inl h0
    · exact .inr ⟨g, o, e, rangeAt_setRow hr (hne g o e h1), by simpa [World.setRow] using hg⟩⟩
end Frk
