/- Law 57: between, slices.Contains of numbers, formed. -/
import Derived.Test.YtllbjakfjpjfnaaDoorVwFdg
namespace Frk
open Go Go.RowKit Go.Proofs
set_option maxRecDepth 100000

theorem fbetween_any (n m : Int) (w : World) : Calls Tryd.prog 23 #[.int .i64 n, .int .i64 m] w fun e w' => e = .returned (.bool (betw n m)) ∧ w = w' := by
  by_cases h1 : 0 ≤ n
  · by_cases h2 : n < m
    · have HR : Seal (betw n m = true) := ⟨betw_iff.2 ⟨h1, h2⟩⟩
      go_enter Tryd.func23, Tryd.ntmps23
      go_wp2
      go_ret
      exact ⟨by rw [HR.out]; rfl, rfl⟩
    · have HR : Seal (betw n m = false) := ⟨by cases h : betw n m with | false => rfl | true => exact absurd (betw_iff.1 h).2 h2⟩
      go_enter Tryd.func23, Tryd.ntmps23
      go_wp2
      go_ret
      exact ⟨by rw [HR.out]; rfl, rfl⟩
  · have HR : Seal (betw n m = false) := ⟨by cases h : betw n m with | false => rfl | true => exact absurd (betw_iff.1 h).1 h1⟩
    go_enter Tryd.func23, Tryd.ntmps23
    go_wp2
    go_ret
    exact ⟨by rw [HR.out]; rfl, rfl⟩

/-- what Index tells -/
def MemI (l : List Int) (x i : Int) : Prop := 0 ≤ i ↔ x ∈ l
theorem findex_any (a : Option Addr) (n c : Nat) (l : List Int) (x : Int) (w : World) (hd : IsIs w a n c l) :
    Calls Tryd.prog 65 #[.slice a n c, .int .i64 x] w fun e w' => ∃ i : Int, e = .returned (.int .i64 i) ∧ Seal (MemI l x i ∧ Below w.heap.size w w') := by
  have HD := Seal.mk hd
  have hll := hd.llen
  have hlm := hd.lmax
  clear hd
  go_enter Tryd.func65, Tryd.ntmps65
  go_wp2
  go_loopw [8] (fun i wr => ∃ k : Nat, k ≤ n ∧ i = .int .i64 k ∧ Seal (Below w.heap.size w wr ∧ x ∉ l.take k)) (fun i _ => n - (intOf i).toNat)
  case atStart => exact ⟨0, by omega, rfl, ⟨Below.refl _ _, by simp⟩⟩
  case round =>
    obtain ⟨wo, rfl⟩ : ∃ z, z = wr := ⟨_, rfl⟩
    obtain ⟨k, hk, rfl, hH⟩ := hrel
    by_cases hlt : k < n
    · have hD := HD.out.below hH.out.1
      rcases hD.at_ with hz | ⟨g, off, rfl, hr, hg⟩
      · omega
      · obtain ⟨y, hy⟩ : ∃ y, l[k]? = some y := ⟨_, List.getElem?_eq_getElem (by omega)⟩
        have cY : wo.cell? ⟨g, off + k, none⟩ = some (.int .i64 y) := by have := rangeC_row hr hD.each hy 0 (.int .i64 y) rfl; simpa using this
        have q5 : (k : Int) < (n : Int) := by omega
        have q6 : (0 : Int) ≤ (k : Int) := by omega
        have HY := Seal.mk hy
        clear hr hg hy hD
        by_cases he : x = y
        · have qe : (x == y) = true := by rw [beq_iff_eq]; exact he
          have HN : Seal (MemI l x k ∧ Below w.heap.size w wo) := ⟨⟨fun _ => by rw [he]; exact List.mem_of_getElem? HY.out, fun _ => q6⟩, hH.out.1⟩
          clear hH he
          go_wp2
          go_ret
          exact ⟨_, rfl, HN⟩
        · have qe : (x == y) = false := by rw [beq_eq_false_iff_ne]; exact he
          have HN : Seal (Below w.heap.size w wo ∧ x ∉ l.take (k + 1)) := ⟨hH.out.1, by rw [List.take_add_one, HY.out]; simp [he]; exact hH.out.2⟩
          clear hH he
          go_wp2
          go_roundw
          case rel => exact ⟨k + 1, by omega, by go_num, HN⟩
          case measure => simp [intOf]; omega
    · obtain rfl : k = n := by omega
      have q5 : ¬ (k : Int) < (k : Int) := by omega
      have HN : Seal (MemI l x (-1) ∧ Below w.heap.size w wo) := ⟨by
        have h := hH.out.2
        rw [List.take_of_length_le (by omega)] at h
        exact ⟨fun h0 => by omega, fun h0 => absurd h0 h⟩, hH.out.1⟩
      clear hH
      go_wp2
      go_ret
      exact ⟨_, rfl, HN⟩
theorem fcontains_any (a : Option Addr) (n c : Nat) (l : List Int) (x : Int) (w : World) (hd : IsIs w a n c l) :
    Calls Tryd.prog 45 #[.slice a n c, .int .i64 x] w fun e w' => e = .returned (.bool (decide (x ∈ l))) ∧ Below w.heap.size w w' := by
  have HI := Seal.mk (findex_any a n c l x w hd)
  obtain ⟨b, hb⟩ : ∃ b, b = decide (x ∈ l) := ⟨_, rfl⟩
  have HB0 := Seal.mk hb
  rw [← hb]
  clear hd hb
  go_enter Tryd.func45, Tryd.ntmps45
  go_wp2_with fail
  refine HI.out.mono ?_
  rintro e w1 ⟨i, rfl, hi⟩
  clear HI
  by_cases h0 : 0 ≤ i
  · have HB : Seal (b = true) := ⟨by rw [HB0.out]; exact decide_eq_true (hi.out.1.1 h0)⟩
    have HBe := Seal.mk hi.out.2
    clear HB0 hi
    go_wp2
    go_ret
    exact ⟨by rw [HB.out]; rfl, HBe.out⟩
  · have HB : Seal (b = false) := ⟨by rw [HB0.out]; exact decide_eq_false (fun h => h0 (hi.out.1.2 h))⟩
    have HBe := Seal.mk hi.out.2
    clear HB0 hi
    go_wp2
    go_ret
    exact ⟨by rw [HB.out]; simp [h0], HBe.out⟩
end Frk
