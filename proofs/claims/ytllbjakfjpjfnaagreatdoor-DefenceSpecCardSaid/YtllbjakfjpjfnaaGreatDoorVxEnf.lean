/- The program's codec.Encode at flat lists: the form, the writer, the whole. -/
import Derived.Test.YtllbjakfjpjfnaaGreatDoorVxEnl
import Derived.Deep.RegionWith
import Derived.BigRegion
namespace Frk
open Go Go.RowKit Go.Proofs
set_option maxRecDepth 100000

/-- a leaf as an aggregate -/
def Lf.val (x : Lf) : Value := .agg x.cells.toArray

set_option maxHeartbeats 1000000 in
theorem formed_int (n : Int) (w : World) :
    Calls Tryz.prog 68 #[.agg #[.int .i64 1, .int .i64 n, .string ByteArray.empty, .slice none 0 0]] w fun e w' => e = .returned (.tuple #[.int .i64 0, .bool true]) ∧ Below w.heap.size w w' := by
  by_cases h : n = 0
  · subst h
    go_enter Tryz.func68, Tryz.ntmps68
    go_wp2
    go_ret2
    exact ⟨rfl, ((Below.refl _ _).alloc (Nat.le_refl _) _).alloc (by simp) _⟩
  · have h1 : (n == 0) = false := by simpa using h
    go_enter Tryz.func68, Tryz.ntmps68
    go_wp2
    go_ret2
    exact ⟨rfl, ((Below.refl _ _).alloc (Nat.le_refl _) _).alloc (by simp) _⟩

set_option maxHeartbeats 1000000 in
theorem formed_text (s : ByteArray) (w : World) :
    Calls Tryz.prog 68 #[.agg #[.int .i64 2, .int .i64 0, .string s, .slice none 0 0]] w fun e w' => e = .returned (.tuple #[.int .i64 0, .bool true]) ∧ Below w.heap.size w w' := by
  by_cases h : s.toList = []
  · go_enter Tryz.func68, Tryz.ntmps68
    go_wp2
    go_ret2
    exact ⟨rfl, ((Below.refl _ _).alloc (Nat.le_refl _) _).alloc (by simp) _⟩
  · have h1 : s.toList.isEmpty = false := by simpa using h
    go_enter Tryz.func68, Tryz.ntmps68
    go_wp2
    go_ret2
    exact ⟨rfl, ((Below.refl _ _).alloc (Nat.le_refl _) _).alloc (by simp) _⟩

set_option maxHeartbeats 1000000 in
theorem formed_list (g off k cap : Nat) (xs : List Lf) (w : World) (hk : xs.length = k) (hkc : k ≤ cap) (hkm : k ≤ 140737488355328) (hk0 : 0 < k) (hL : LeavesAt w g off xs) (hg : g < w.heap.size) :
    Calls Tryz.prog 68 #[.agg #[.int .i64 3, .int .i64 0, .string ByteArray.empty, .slice (some ⟨g, off, none⟩) k cap]] w fun e w' => e = .returned (.tuple #[.int .i64 1, .bool true]) ∧ Below w.heap.size w w' := by
  have HK := Seal.mk hk
  have HL := Seal.mk hL
  have hk1 : ((k : Int) == 0) = false := by simp; omega
  clear hk hL
  go_enter Tryz.func68, Tryz.ntmps68
  go_wp2
  go_loopw [2, 57] (fun d i wr => d = .int .i64 0 ∧ ∃ j : Nat, j ≤ k ∧ i = .int .i64 j ∧ Seal (Below w.heap.size w wr)) (fun _ i _ => k - (intOf i).toNat)
  case atStart => exact ⟨rfl, 0, Nat.zero_le _, rfl, ⟨((Below.refl _ _).alloc (Nat.le_refl _) _).alloc (by simp) _⟩⟩
  case round =>
    obtain ⟨rfl, j, hj, rfl, hb⟩ := hrel
    by_cases hlt : j < k
    · obtain ⟨x, hx⟩ : ∃ x, xs[j]? = some x := ⟨_, List.getElem?_eq_getElem (by rw [HK.out]; exact hlt)⟩
      have hL' := HL.out.below hb.out hg
      have hz := hb.out.size
      cases x with
      | i n =>
        have c0 := hL' j _ hx 0 _ rfl
        have c1 := hL' j _ hx 1 _ rfl
        have c2 := hL' j _ hx 2 _ rfl
        have c3 := hL' j _ hx 3 _ rfl
        rw [Nat.add_zero] at c0
        clear hL' hx
        go_wp2_with (go_at_call 68; refine (formed_int n _).mono ?_; rintro e w1 ⟨rfl, hb1⟩)
        rw [show ((j : Nat) : Int) + 1 = ((j + 1 : Nat) : Int) from rfl]
        refine ⟨⟨rfl, j + 1, hlt, rfl, ⟨(hb.out.alloc hz _).trans (hb1.mono (by simp; omega))⟩⟩, ?_⟩
        simp only [intOf]; omega
      | t b =>
        obtain ⟨s2, rfl⟩ : ∃ s : ByteArray, b = s.data.toList := ⟨⟨b.toArray⟩, by simp⟩
        have c0 := hL' j _ hx 0 _ rfl
        have c1 := hL' j _ hx 1 _ rfl
        have c2 := hL' j _ hx 2 _ rfl
        have c3 := hL' j _ hx 3 _ rfl
        rw [Nat.add_zero] at c0
        clear hL' hx
        go_wp2_with (go_at_call 68; refine (formed_text s2 _).mono ?_; rintro e w1 ⟨rfl, hb1⟩)
        rw [show ((j : Nat) : Int) + 1 = ((j + 1 : Nat) : Int) from rfl]
        refine ⟨⟨rfl, j + 1, hlt, rfl, ⟨(hb.out.alloc hz _).trans (hb1.mono (by simp; omega))⟩⟩, ?_⟩
        simp only [intOf]; omega
    · obtain rfl : j = k := by omega
      have hb' := Seal.mk hb
      clear hb
      go_wp2
      go_ret2
      exact ⟨rfl, hb'.out.out⟩

set_option maxHeartbeats 1000000 in
theorem check_list (g off k cap : Nat) (xs : List Lf) (w : World) (hk : xs.length = k) (hkc : k ≤ cap) (hkm : k ≤ 140737488355328) (hk0 : 0 < k) (hL : LeavesAt w g off xs) (hg : g < w.heap.size) :
    Calls Tryz.prog 42 #[.agg #[.int .i64 3, .int .i64 0, .string ByteArray.empty, .slice (some ⟨g, off, none⟩) k cap]] w fun e w' => e = .returned (.int .i64 0) ∧ Below w.heap.size w w' := by
  have HC : Seal _ := ⟨formed_list g off k cap xs (w.alloc (.cells #[.int .i64 3, .int .i64 0, .string ByteArray.empty, .slice (some ⟨g, off, none⟩) k cap] 51)) hk hkc hkm hk0 (hL.below (below_alloc _ _) hg) (by rw [size_alloc]; omega)⟩
  clear hL hk
  go_enter Tryz.func42, Tryz.ntmps42
  go_wp2_with (go_at_call 68; refine HC.out.mono ?_; rintro e w1 ⟨rfl, hb1⟩)
  go_ret
  exact ⟨rfl, (below_alloc w _).trans (hb1.mono (by simp))⟩

set_option maxHeartbeats 1000000 in
theorem writer_new (w : World) :
    Calls Tryz.prog 43 #[] w fun e w' => e = .returned (.pointer (some ⟨w.heap.size, 0, none⟩)) ∧ Writer w' (w.heap.size + 1) w.heap.size (w.heap.size + 2) ∧ Below w.heap.size w w' ∧ w'.heap.size = w.heap.size + 2 := by
  go_enter Tryz.func43, Tryz.ntmps43
  go_wp2
  go_ret
  refine ⟨rfl, ⟨by omega, by omega, by go_simp, by go_simp, by go_simp, by go_simp⟩, ((Below.refl _ _).alloc (Nat.le_refl _) _).alloc (by simp) _, by simp⟩

theorem own_facts {w : World} {base g n cap : Nat} {l : Bytes} (h : Own w base (.slice (some ⟨g, 0, none⟩) n cap) l) (hn : l.length = n) :
    n ≤ cap ∧ cap ≤ 9223372036854775807 ∧ g < w.heap.size ∧ w.rangeAt g 0 (l.map B) := by
  have h' := h.len hn
  rcases h'.2 with ⟨e, _⟩ | ⟨g', cap', cur, hv, hg, hheap, hle, hmax, hsize, htake⟩
  · cases e
  · cases hv
    refine ⟨hle, hmax, (Array.getElem?_eq_some_iff.1 hheap).1, ?_⟩
    have hr := rangeAt_take (rangeAt_row (cs := cur.toList) (by simpa using hheap)) (n * 1)
    rwa [htake] at hr

/-- what Encode leaves -/
def EncPost (l : Bytes) (w : World) (e : Ending) (w' : World) : Prop := ∃ g' n' cap', Seal (l.length = n') ∧
      e = .returned (.tuple #[.slice (some ⟨g', 0, none⟩) n' cap', .int .i64 0]) ∧ Seal (n' ≤ cap' ∧ cap' ≤ 9223372036854775807 ∧ g' < w'.heap.size ∧ w'.rangeAt g' 0 (l.map B) ∧ Below w.heap.size w w')

theorem enc_close {w w1 w2 w3 : World} {base g n cap : Nat} {l : Bytes} (h1 : Below w.heap.size w w1) (h2 : Below w1.heap.size w1 w2) (h3 : w2.grownBy w3 none) (hn : ([] ++ l).length = n) (ho : Own w3 base (.slice (some ⟨g, 0, none⟩) n cap) ([] ++ l)) :
    EncPost l w (.returned (.tuple #[.slice (some ⟨g, 0, none⟩) n cap, .int .i64 0])) w3 := by
  rw [List.nil_append] at hn ho
  have hf := own_facts ho hn
  refine ⟨g, n, cap, ⟨hn⟩, rfl, ⟨hf.1, hf.2.1, hf.2.2.1, hf.2.2.2, ?_⟩⟩
  have h12 := h1.trans (h2.mono h1.size)
  exact h12.trans ((below_of_grown_none h3).mono h12.size)

set_option maxHeartbeats 1000000 in
/-- the encoding of a list of leaves -/
theorem encode_any (g off k cap : Nat) (xs : List Lf) (w : World) (hk : xs.length = k) (hkc : k ≤ cap) (hl : wgts xs + 22 ≤ 140737488355328) (hk0 : 0 < k) (hL : LeavesAt w g off xs) (hg : g < w.heap.size) (hf : ∀ y ∈ xs, y.fits) :
    Calls Tryz.prog 13 #[.agg #[.int .i64 3, .int .i64 0, .string ByteArray.empty, .slice (some ⟨g, off, none⟩) k cap]] w (EncPost (encL xs) w) := by
  have hkm : k ≤ 140737488355328 := by have := wgts_ge xs; omega
  have HL := Seal.mk hL
  have HC : Seal _ := ⟨check_list g off k cap xs (w.alloc (.cells #[.int .i64 3, .int .i64 0, .string ByteArray.empty, .slice (some ⟨g, off, none⟩) k cap] 51)) hk hkc hkm hk0 (hL.below (below_alloc _ _) hg) (by rw [size_alloc]; omega)⟩
  have HK := Seal.mk hk
  have HF := Seal.mk hf
  have HW := Seal.mk hl
  clear hL hk hf hl
  go_enter Tryz.func13, Tryz.ntmps13
  go_wp2_with (go_at_call 42; refine HC.out.mono ?_; rintro e w1 ⟨rfl, hb1⟩)
  have hz1 : w.heap.size < w1.heap.size := by have := hb1.size; simp at this; omega
  have b0 : w1.cell? ⟨w.heap.size, 0, none⟩ = some (.int .i64 3) := (hb1.cell (p := ⟨w.heap.size, 0, none⟩) (by simp)).trans (by go_simp)
  have b1 : w1.cell? ⟨w.heap.size, 1, none⟩ = some (.int .i64 0) := (hb1.cell (p := ⟨w.heap.size, 1, none⟩) (by simp)).trans (by go_simp)
  have b2 : w1.cell? ⟨w.heap.size, 2, none⟩ = some (.string ByteArray.empty) := (hb1.cell (p := ⟨w.heap.size, 2, none⟩) (by simp)).trans (by go_simp)
  have b3 : w1.cell? ⟨w.heap.size, 3, none⟩ = some (.slice (some ⟨g, off, none⟩) k cap) := (hb1.cell (p := ⟨w.heap.size, 3, none⟩) (by simp)).trans (by go_simp)
  have HB1 : Seal (Below w.heap.size w w1) := ⟨(below_alloc w _).trans (hb1.mono (by simp))⟩
  clear hb1 HC
  have hB2 := HB1.out.size
  go_region_with (first
    | (go_at_call 43; refine (writer_new _).mono ?_; rintro e w2 ⟨rfl, hW, hbW', hzW⟩; have hbW : Seal (Below w1.heap.size w1 w2) := ⟨⟨hbW'.os, hbW'.tape, hbW'.output, hbW'.size, hbW'.block⟩⟩; have HW2 : Seal (Writer w2 (w1.heap.size + 1) w1.heap.size (w1.heap.size + 2)) := ⟨hW⟩; have hz2 : w2.heap.size = w1.heap.size + 2 := hzW; have HZ2 := Seal.mk hz2; have c3 : w2.cell? ⟨w1.heap.size, 3, none⟩ = some (.func (.func 73) #[] #[.pointer (some ⟨w1.heap.size + 1, 0, none⟩)]) := hW.c3; have e0 := (hbW'.cell (p := ⟨w.heap.size, 0, none⟩) hz1).trans b0; have e1 := (hbW'.cell (p := ⟨w.heap.size, 1, none⟩) hz1).trans b1; have e2 := (hbW'.cell (p := ⟨w.heap.size, 2, none⟩) hz1).trans b2; have e3 := (hbW'.cell (p := ⟨w.heap.size, 3, none⟩) hz1).trans b3; clear hbW' hW hzW hz2)
    | (go_at_call 73; refine (write_list (w1.heap.size + 2) (w1.heap.size + 1) w1.heap.size (.slice none 0 0) 0 [] g off k cap xs 0 ByteArray.empty w2 rfl (World.ownsRow_nil _ _ _ _) HK.out hkc (by have := HW.out; omega) (by rw [HZ2.out]; exact Nat.le_refl _) HW2.out ((HL.out.below HB1.out hg).below hbW.out (by omega)) (by omega) HF.out).mono ?_; rintro e w3 ⟨g3, n3, cap3, hn3, rfl, hown3, hgr3, hrn3⟩))
  all_goals (go_wp2; go_ret2; exact enc_close HB1.out hbW.out hgr3.out hn3.out hown3.out)
end Frk
