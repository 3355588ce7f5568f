/- Law 44's reference: Find, Has, SameInts, Few. -/
import Derived.Test.YtnpnboldjbljaaaDoorVdgDpa
import Derived.Deep.Cut
namespace Frk
open Go Go.RowKit Go.Proofs
set_option maxRecDepth 100000

/-- where Find says that an order is -/
def FindR (l : List Po) (q i : Int) : Prop := (i = -1 ∧ hasK Po.o l q = false) ∨ ∃ (j : Nat) (x : Po), i = (j : Int) ∧ l[j]? = some x ∧ x.o = q
set_option maxHeartbeats 1000000 in
theorem rfind44_any (a : Option Addr) (n c : Nat) (l : List Po) (q : Int) (w : World) (hl : IsPs w a n c l) :
    Calls Tryd.prog 31 #[.slice a n c, .int .i64 q] w fun e w' => ∃ i : Int, e = .returned (.int .i64 i) ∧ Seal (FindR l q i) ∧ w = w' := by
  have HL := Seal.mk hl
  have hmx := hl.lmax
  have hll := hl.llen
  clear hl
  go_enter Tryd.func31, Tryd.ntmps31
  go_wp2
  go_loopw [5] (fun i wr => ∃ k : Nat, k ≤ n ∧ i = .int .i64 k ∧ Seal (w = wr ∧ ∀ (j : Nat) (x : Po), j < k → l[j]? = some x → x.o ≠ q)) (fun i _ => n - (intOf i).toNat)
  case atStart => exact ⟨0, by omega, rfl, ⟨rfl, fun j x hj => by omega⟩⟩
  case round =>
    obtain ⟨k, hk, rfl, hH⟩ := hrel
    obtain rfl := hH.out.1
    by_cases hlt : k < n
    · rcases HL.out.at_ with h0 | ⟨g, off, rfl, hr, hg⟩
      · omega
      · obtain ⟨x, hx⟩ : ∃ x, l[k]? = some x := ⟨_, List.getElem?_eq_getElem (by omega)⟩
        obtain ⟨o, ho⟩ : ∃ o, o = x.o := ⟨_, rfl⟩
        have c0 : w.cell? ⟨g, off + k * 33, none⟩ = some (.int .i64 o) := by have := rangeC_row hr HL.out.each hx 0 (.int .i64 x.o) rfl; rw [ho]; simpa using this
        have HX := Seal.mk (And.intro hx ho)
        have q5 : (k : Int) < (n : Int) := by omega
        have q6 : (0 : Int) ≤ (k : Int) := by omega
        clear hr hg hx ho
        by_cases hoq : o = q
        · subst hoq
          go_wp2
          go_ret
          exact ⟨(k : Int), rfl, ⟨.inr ⟨k, x, rfl, HX.out.1, HX.out.2.symm⟩⟩, rfl⟩
        · have z1 : (o == q) = false := by simp [hoq]
          have HNE := Seal.mk hoq
          go_wp2
          go_roundw
          case rel =>
            refine ⟨k + 1, by omega, by go_num, ⟨by first | rfl | trivial, fun j y hj hy => ?_⟩⟩
            by_cases hjk : j < k
            · exact hH.out.2 j y hjk hy
            · obtain rfl : j = k := by omega
              rw [HX.out.1] at hy
              cases hy
              rw [← HX.out.2]
              exact HNE.out
          case measure => simp [intOf]; omega
    · have HF : Seal (hasK Po.o l q = false) := ⟨hasK_not.2 fun x hx => by
        obtain ⟨j, hj⟩ := List.mem_iff_getElem?.1 hx
        exact hH.out.2 j x (by have := (List.getElem?_eq_some_iff.1 hj).1; omega) hj⟩
      have q5 : ¬ (k : Int) < (n : Int) := by omega
      clear hH
      go_wp2
      go_ret
      exact ⟨-1, rfl, ⟨.inl ⟨rfl, HF.out⟩⟩, rfl⟩

set_option maxHeartbeats 1000000 in
theorem rhas44_any (a : Option Addr) (n c : Nat) (l : List Int) (q : Int) (w : World) (hl : IsIs w a n c l) :
    Calls Tryd.prog 32 #[.slice a n c, .int .i64 q] w fun e w' => e = .returned (.bool (hasK idI l q)) ∧ w = w' := by
  have HL := Seal.mk hl
  have hmx := hl.lmax
  have hll := hl.llen
  clear hl
  go_enter Tryd.func32, Tryd.ntmps32
  go_wp2
  go_loopw [5] (fun i wr => ∃ k : Nat, k ≤ n ∧ i = .int .i64 k ∧ Seal (w = wr ∧ ∀ (j : Nat) (x : Int), j < k → l[j]? = some x → x ≠ q)) (fun i _ => n - (intOf i).toNat)
  case atStart => exact ⟨0, by omega, rfl, ⟨rfl, fun j x hj => by omega⟩⟩
  case round =>
    obtain ⟨k, hk, rfl, hH⟩ := hrel
    obtain rfl := hH.out.1
    by_cases hlt : k < n
    · rcases HL.out.at_ with h0 | ⟨g, off, rfl, hr, hg⟩
      · omega
      · obtain ⟨o, hx⟩ : ∃ x, l[k]? = some x := ⟨_, List.getElem?_eq_getElem (by omega)⟩
        have c0 : w.cell? ⟨g, off + k, none⟩ = some (.int .i64 o) := by have := rangeC_row hr HL.out.each hx 0 (.int .i64 o) rfl; simpa using this
        have HX := Seal.mk hx
        have q5 : (k : Int) < (n : Int) := by omega
        have q6 : (0 : Int) ≤ (k : Int) := by omega
        clear hr hg hx
        by_cases hoq : o = q
        · have HT : Seal (hasK idI l q = true) := ⟨hasK_iff.2 ⟨o, List.mem_of_getElem? HX.out, hoq⟩⟩
          subst hoq
          go_wp2
          go_ret
          exact ⟨ret_bool HT.out.symm, rfl⟩
        · have z1 : (o == q) = false := by simp [hoq]
          have HNE := Seal.mk hoq
          go_wp2
          go_roundw
          case rel =>
            refine ⟨k + 1, by omega, by go_num, ⟨by first | rfl | trivial, fun j y hj hy => ?_⟩⟩
            by_cases hjk : j < k
            · exact hH.out.2 j y hjk hy
            · obtain rfl : j = k := by omega
              rw [HX.out] at hy
              cases hy
              exact HNE.out
          case measure => simp [intOf]; omega
    · have HF : Seal (hasK idI l q = false) := ⟨hasK_not.2 fun x hx => by
        obtain ⟨j, hj⟩ := List.mem_iff_getElem?.1 hx
        exact hH.out.2 j x (by have := (List.getElem?_eq_some_iff.1 hj).1; omega) hj⟩
      have q5 : ¬ (k : Int) < (n : Int) := by omega
      clear hH
      go_wp2
      go_ret
      exact ⟨ret_bool HF.out.symm, rfl⟩

def fewB (pn gn : Nat) : Bool := decide (gn ≤ 40) && (decide (pn ≤ 40) || (decide (4096 < pn) && decide (pn ≤ 5000)))
theorem rfew44_any (pa ga : Option Addr) (pn pc gn gc : Nat) (w : World) :
    Calls Tryd.prog 10 #[.agg #[.slice pa pn pc, .slice ga gn gc]] w fun e w' => e = .returned (.bool (fewB pn gn)) ∧ Below w.heap.size w w' := by
  obtain ⟨X, hX⟩ : ∃ X : World, X = w.alloc (.cells #[.slice pa pn pc, .slice ga gn gc] 25) := ⟨_, rfl⟩
  have HB : Seal (Below w.heap.size w X) := ⟨by rw [hX]; exact below_alloc _ _⟩
  have hrow : X.heap[w.heap.size]? = some (.cells #[.slice pa pn pc, .slice ga gn gc] 25 (0, 0)) := by rw [hX]; exact heap_alloc_new _ _
  have c0 : X.cell? ⟨w.heap.size, 0, none⟩ = some (.slice pa pn pc) := by rw [cell_of_row _ _ _ _ _ _ hrow]; rfl
  have c1 : X.cell? ⟨w.heap.size, 1, none⟩ = some (.slice ga gn gc) := by rw [cell_of_row _ _ _ _ _ _ hrow]; rfl
  have HF : ∀ b, b = fewB pn gn → Seal (b = fewB pn gn) := fun b h => ⟨h⟩
  clear hrow
  by_cases h1 : gn ≤ 40
  · have q1 : (gn : Int) ≤ 40 := by omega
    by_cases h2 : pn ≤ 40
    · have q2 : (pn : Int) ≤ 40 := by omega
      have HR := HF true (by unfold fewB; simp [h1, h2])
      clear HF
      go_enter Tryd.func10, Tryd.ntmps10
      go_upto_region 1 with (fail)
      rw [← hX]
      clear hX
      go_wp2
      go_ret
      exact ⟨ret_bool HR.out, HB.out⟩
    · have q2 : ¬ (pn : Int) ≤ 40 := by omega
      by_cases h3 : 4096 < pn
      · have q3 : (4096 : Int) < (pn : Int) := by omega
        by_cases h4 : pn ≤ 5000
        · have q4 : (pn : Int) ≤ 5000 := by omega
          have HR := HF true (by unfold fewB; simp [h1, h3, h4])
          clear HF
          go_enter Tryd.func10, Tryd.ntmps10
          go_upto_region 1 with (fail)
          rw [← hX]
          clear hX
          go_wp2
          go_ret
          exact ⟨ret_bool HR.out, HB.out⟩
        · have q4 : ¬ (pn : Int) ≤ 5000 := by omega
          have HR := HF false (by unfold fewB; simp [h2, h4])
          clear HF
          go_enter Tryd.func10, Tryd.ntmps10
          go_upto_region 1 with (fail)
          rw [← hX]
          clear hX
          go_wp2
          go_ret
          exact ⟨ret_bool HR.out, HB.out⟩
      · have q3 : ¬ (4096 : Int) < (pn : Int) := by omega
        have HR := HF false (by unfold fewB; simp [h2, h3])
        clear HF
        go_enter Tryd.func10, Tryd.ntmps10
        go_upto_region 1 with (fail)
        rw [← hX]
        clear hX
        go_wp2
        go_ret
        exact ⟨ret_bool HR.out, HB.out⟩
  · have q1 : ¬ (gn : Int) ≤ 40 := by omega
    have HR := HF false (by unfold fewB; simp [h1])
    clear HF
    go_enter Tryd.func10, Tryd.ntmps10
    go_upto_region 1 with (fail)
    rw [← hX]
    clear hX
    go_wp2
    go_ret
    exact ⟨ret_bool HR.out, HB.out⟩
end Frk
