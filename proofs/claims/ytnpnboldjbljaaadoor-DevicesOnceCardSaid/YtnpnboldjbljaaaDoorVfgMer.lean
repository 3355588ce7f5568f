/- Parts of the proof, joined. -/
import Derived.Test.YtnpnboldjbljaaaDoorVfDpd
import Derived.Deep.Cut
import Derived.Test.YtnpnboldjbljaaaDoorVfgRng
import Derived.RangeFuncCalls
/- Law 44: find, Check. -/
namespace Frk
open Go Go.RowKit Go.Proofs
set_option maxRecDepth 100000

def zbD : Bytes := List.replicate 32 0
def zPo (n : Int) : Po := ⟨n, zbD⟩

theorem dfind_any (a : Option Addr) (len cap : Nat) (l : List Po) (n : Int) (w : World) (hd : IsPs w a len cap l) (h32 : ∀ x ∈ l, x.S.length = 32) (hu : RisK Po.o l) :
    Calls Tryd.prog 33 #[.slice a len cap, .int .i64 n] w fun e w' => e = .returned (.tuple #[.int .i64 (atK Po.o l n : Nat), .bool (hasK Po.o l n)]) ∧ Below w.heap.size w w' := by
  have HS := Seal.mk (dsearchP_any a len cap l (zPo n) w hd h32 rfl hu)
  obtain ⟨i, hi⟩ : ∃ i, i = atK Po.o l n := ⟨_, rfl⟩
  obtain ⟨b, hb⟩ : ∃ b, b = hasK Po.o l n := ⟨_, rfl⟩
  have HS2 : Seal (Calls Tryd.prog 64 #[.slice a len cap, .agg (zPo n).C.toArray, .func (.func 40) #[] #[]] w fun e w' => e = .returned (.tuple #[.int .i64 (i : Nat), .bool b]) ∧ Below w.heap.size w w') := ⟨by rw [hi, hb]; exact HS.out⟩
  rw [← hi, ← hb]
  clear HS hd h32 hu hi hb
  go_enter Tryd.func33, Tryd.ntmps33
  go_wp2_with fail
  refine HS2.out.mono ?_
  rintro e w1 ⟨rfl, hb⟩
  have HB := Seal.mk hb
  clear hb HS2
  go_wp2
  go_ret2
  exact ⟨rfl, HB.out⟩

set_option maxHeartbeats 4000000 in
theorem dcheck_any (pa ga : Option Addr) (pn pc gn gc : Nat) (D : Dv) (w : World) (hP : IsPs w pa pn pc D.P) (h32 : ∀ x ∈ D.P, x.S.length = 32) (hG : IsIs w ga gn gc D.G) :
    Calls Tryd.prog 13 #[.agg #[.slice pa pn pc, .slice ga gn gc]] w fun e w' => e = .returned (.int .i64 (chkD D)) ∧ Below w.heap.size w w' := by
  obtain ⟨X, hX⟩ : ∃ X : World, X = w.alloc (.cells #[.slice pa pn pc, .slice ga gn gc] 25) := ⟨_, rfl⟩
  have HB : Seal (Below w.heap.size w X) := ⟨by rw [hX]; exact below_alloc _ _⟩
  have hrow : X.heap[w.heap.size]? = some (.cells #[.slice pa pn pc, .slice ga gn gc] 25 (0, 0)) := by rw [hX]; exact heap_alloc_new _ _
  have c0 : X.cell? ⟨w.heap.size, 0, none⟩ = some (.slice pa pn pc) := by rw [cell_of_row _ _ _ _ _ _ hrow]; rfl
  have c1 : X.cell? ⟨w.heap.size, 1, none⟩ = some (.slice ga gn gc) := by rw [cell_of_row _ _ _ _ _ _ hrow]; rfl
  have hlp := hP.llen
  have hlg := hG.llen
  have hgx := hG.lmax
  have hgs : w.heap.size < X.heap.size := (Array.getElem?_eq_some_iff.1 hrow).1
  have HP : Seal (∀ W, Below w.heap.size w W → IsPs W pa pn pc D.P) := ⟨fun W h => hP.below h⟩
  have HGs : Seal (∀ W, Below w.heap.size w W → IsIs W ga gn gc D.G) := ⟨fun W h => hG.below h⟩
  have H32 := Seal.mk h32
  have HC : Seal (∀ W, Below w.heap.size w W → Calls Tryd.prog 38 #[.slice pa pn pc, .func (.func 37) #[] #[]] W fun e w' => e = .returned (.bool (!D.P.all okP)) ∧ Below W.heap.size W w') := ⟨fun W h => dcontains_any pa pn pc D.P W (hP.below h) h32⟩
  have HRP : Seal (∀ W, Below w.heap.size w W → Calls Tryd.prog 39 #[.slice pa pn pc, .func (.func 40) #[] #[]] W fun e w' => e = .returned (.bool (risB Po.o D.P)) ∧ Below W.heap.size W w') := ⟨fun W h => drisP_any pa pn pc D.P W (hP.below h) h32⟩
  have HRI : Seal (∀ W, Below w.heap.size w W → Calls Tryd.prog 41 #[.slice ga gn gc, .func (.func 42) #[] #[]] W fun e w' => e = .returned (.bool (risB idI D.G)) ∧ Below W.heap.size W w') := ⟨fun W h => drisI_any ga gn gc D.G W (hG.below h)⟩
  have HLE : Seal (D.P.length = pn ∧ D.G.length = gn) := ⟨hlp, hlg⟩
  clear hP h32 hG hrow
  by_cases h4 : 4096 < pn
  · have HR : Seal (chkD D = 2) := ⟨by unfold chkD; rw [if_pos (by omega)]⟩
    have q1 : (4096 : Int) < (pn : Int) := by omega
    clear hlp hlg
    go_enter Tryd.func13, Tryd.ntmps13
    go_upto_region 1 with (fail)
    rw [← hX]
    clear hX
    go_wp2
    go_ret
    exact ⟨by rw [HR.out]; rfl, HB.out⟩
  · have q1 : ¬ (4096 : Int) < (pn : Int) := by omega
    have HR0 : Seal (rightD D = false → chkD D = 440) := ⟨fun h => by unfold chkD; rw [if_neg (by omega), h]; rfl⟩
    have HR1 : Seal (rightD D = true → chkD D = 0) := ⟨fun h => by unfold chkD; rw [if_neg (by omega), h]; rfl⟩
    have HX0 : Seal (Below X.heap.size X X) := ⟨Below.refl _ _⟩
    obtain ⟨b1, hb1⟩ : ∃ b, b = D.P.all okP := ⟨_, rfl⟩
    obtain ⟨b2, hb2⟩ : ∃ b, b = risB Po.o D.P := ⟨_, rfl⟩
    obtain ⟨b3, hb3⟩ : ∃ b, b = risB idI D.G := ⟨_, rfl⟩
    have HRD : Seal (rightD D = (b1 && (b2 && (b3 && D.G.all (fun n => hasK Po.o D.P n))))) := ⟨by rw [hb1, hb2, hb3]; rfl⟩
    have HK2 := Seal.mk hb2
    rw [← hb1] at HC
    rw [← hb2] at HRP
    rw [← hb3] at HRI
    clear hlp hlg hb1 hb2 hb3
    go_enter Tryd.func13, Tryd.ntmps13
    go_upto_region 1 with (fail)
    rw [← hX]
    clear hX
    go_wp2_with fail
    refine (HC.out _ HB.out).mono ?_
    rintro e w1 ⟨rfl, hb⟩
    have HB1 := Seal.mk (HB.out.trans (hb.mono HB.out.size))
    have c0 := cell_below' hb c0
    have c1 := cell_below' hb c1
    have hgs := Nat.lt_of_lt_of_le hgs hb.size
    clear hb HB HC
    cases b1 with
    | false =>
      have HR : Seal (chkD D = 440) := ⟨HR0.out (by rw [HRD.out]; rfl)⟩
      go_wp2
      go_ret
      exact ⟨by rw [HR.out]; rfl, HB1.out⟩
    | true =>
      go_wp2_with fail
      refine (HRP.out _ HB1.out).mono ?_
      rintro e w2 ⟨rfl, hb⟩
      have HB2 := Seal.mk (HB1.out.trans (hb.mono HB1.out.size))
      have c0 := cell_below' hb c0
      have c1 := cell_below' hb c1
      have hgs := Nat.lt_of_lt_of_le hgs hb.size
      clear hb HB1 HRP
      cases b2 with
      | false =>
        have HR : Seal (chkD D = 440) := ⟨HR0.out (by rw [HRD.out]; rfl)⟩
        go_wp2
        go_ret
        exact ⟨by rw [HR.out]; rfl, HB2.out⟩
      | true =>
        go_wp2_with fail
        refine (HRI.out _ HB2.out).mono ?_
        rintro e w3 ⟨rfl, hb⟩
        have HB3 := Seal.mk (HB2.out.trans (hb.mono HB2.out.size))
        have c0 := cell_below' hb c0
        have c1 := cell_below' hb c1
        have hgs := Nat.lt_of_lt_of_le hgs hb.size
        clear hb HB2 HRI
        cases b3 with
        | false =>
          have HR : Seal (chkD D = 440) := ⟨HR0.out (by rw [HRD.out]; rfl)⟩
          go_wp2
          go_ret
          exact ⟨by rw [HR.out]; rfl, HB3.out⟩
        | true =>
          have HU : Seal (RisK Po.o D.P) := ⟨risB_iff.1 HK2.out.symm⟩
          obtain ⟨gx, hgX⟩ : ∃ g, g = w.heap.size := ⟨_, rfl⟩
          have HGX := Seal.mk hgX
          rw [← hgX] at c0 c1 hgs ⊢
          clear hgX HX0
          go_wp2
          go_loopw [31] (fun i wr => ∃ k : Nat, k ≤ gn ∧ i = .int .i64 k ∧ Seal (Below w3.heap.size w3 wr ∧ ∀ (j : Nat) (n : Int), j < k → D.G[j]? = some n → hasK Po.o D.P n = true)) (fun i _ => gn - (intOf i).toNat)
          case atStart => exact ⟨0, by omega, rfl, ⟨Below.refl _ _, fun j x hj => by omega⟩⟩
          case round =>
            obtain ⟨k, hk, rfl, hH⟩ := hrel
            have HBw : Seal (Below w.heap.size w wr) := ⟨HB3.out.trans (hH.out.1.mono HB3.out.size)⟩
            by_cases hlt : k < gn
            · have hGw := HGs.out wr HBw.out
              rcases hGw.at_ with h0 | ⟨g, off, rfl, hr, hg⟩
              · omega
              · obtain ⟨n, hn⟩ : ∃ n, D.G[k]? = some n := ⟨_, List.getElem?_eq_getElem (by have := HLE.out; omega)⟩
                have cn : wr.cell? ⟨g, off + k, none⟩ = some (.int .i64 n) := by have := rangeC_row hr hGw.each hn 0 (.int .i64 n) rfl; simpa using this
                have c0w := cell_below' hH.out.1 c0
                have HF := Seal.mk (dfind_any pa pn pc D.P n wr (HP.out wr HBw.out) H32.out HU.out)
                obtain ⟨i, hi⟩ : ∃ i, i = atK Po.o D.P n := ⟨_, rfl⟩
                obtain ⟨b, hb⟩ : ∃ b, b = hasK Po.o D.P n := ⟨_, rfl⟩
                rw [← hi, ← hb] at HF
                have q5 : (k : Int) < (gn : Int) := by omega
                have q6 : (0 : Int) ≤ (k : Int) := by omega
                have HN := Seal.mk (And.intro hn hb)
                clear hGw hr hg hn hi hb
                go_wp2_with fail
                refine HF.out.mono ?_
                rintro e w4 ⟨rfl, hb⟩
                have HB4 := Seal.mk (hH.out.1.trans (hb.mono hH.out.1.size))
                have HBz := Seal.mk (HBw.out.trans (hb.mono HBw.out.size))
                clear hb HF HBw
                cases b with
                | false =>
                  have HR : Seal (chkD D = 440) := ⟨HR0.out (by
                    rw [HRD.out]
                    simp only [Bool.true_and]
                    exact List.all_eq_false.2 ⟨n, List.mem_of_getElem? HN.out.1, by rw [← HN.out.2]; simp⟩)⟩
                  go_wp2
                  go_ret
                  exact ⟨by rw [HR.out]; rfl, HBz.out⟩
                | true =>
                  go_wp2
                  go_roundw
                  case rel =>
                    refine ⟨k + 1, by omega, by go_num, ⟨HB4.out, fun j x hj hx => ?_⟩⟩
                    by_cases hjk : j < k
                    · exact hH.out.2 j x hjk hx
                    · obtain rfl : j = k := by omega
                      rw [HN.out.1] at hx
                      cases hx
                      exact HN.out.2.symm
                  case measure => simp [intOf]; omega
            · have HR : Seal (chkD D = 0) := ⟨HR1.out (by
                rw [HRD.out]
                simp only [Bool.true_and]
                exact List.all_eq_true.2 fun n hn => by
                  obtain ⟨j, hj⟩ := List.mem_iff_getElem?.1 hn
                  exact hH.out.2 j n (by have := (List.getElem?_eq_some_iff.1 hj).1; have := HLE.out; omega) hj)⟩
              have q5 : ¬ (k : Int) < (gn : Int) := by omega
              clear hH
              go_wp2
              go_ret
              exact ⟨by rw [HR.out]; rfl, HBw.out⟩
end Frk

/- A range over a function whose iterator yields what it has made itself: the law for the caller. -/
namespace Frk
open Go Go.RowKit

/-- what an iterator promises that is never stopped: what it yields (G: the data of x, in blocks that it has made since the last round ended) it finds again behind the round; the blocks of mine are those that it reads -/
def SeqMem {α : Type} (F : Fence) (n : Nat) (P : Program) (g : Nat) (lb : Array Value) (encs : α → Array Value) (G : Nat → List α → α → World → Prop) (mine : Nat → Prop) (S : List α → Prop) (N : Nat) (w : World) : Prop :=
  ∀ (l : Nat) (J : List α → World → Prop) (W : World), Below w.heap.size w W →
    (∀ pre x W0 W1, J pre W0 → Below W0.heap.size W0 W1 → W.heap.size ≤ W0.heap.size → G W0.heap.size pre x W1 → pre.length < N → YieldAt F (n - 1) P l (encs x) W1 fun e W' =>
      e = .returned (.bool true) ∧ J (pre ++ [x]) W' ∧ G W0.heap.size pre x W' ∧ W1.heap.size ≤ W'.heap.size ∧ ∀ r, mine r → W'.heap[r]? = W1.heap[r]?) →
    J [] W →
    CallsIn F n P g (#[.func (.yield l) #[] #[]] ++ lb) W fun e W' => (∃ v, e = .returned v) ∧ ∃ xs W0, S xs ∧ J xs W0 ∧ Below W0.heap.size W0 W' ∧ W.heap.size ≤ W0.heap.size

/-- how a round's body is left -/
def memPost {α : Type} (mine : Nat → Prop) (I : List α → World → Prop) (G : World → Prop) (xs : List α) (W : World) : Exit → Act → World → Prop
  | .normal, _, W' => KeepsOthers W W' ∧ (∀ r, mine r → W'.heap[r]? = W.heap[r]?) ∧ G W' ∧ I xs W'
  | _, _, _ => False

variable {F : Fence} {n : Nat} {P : Program}

end Frk

/- A range over a function: the law for a body that writes what is no cells (maps), and whose loop variable lies in memory. -/
namespace Frk
open Go Go.RowKit

/-- how a round's body is left: the loop's own two blocks stand az they stood -/
def keptPost {α : Type} (L : Nat) (mine : Nat → Prop) (I : List α → World → Prop) (G : World → Prop) (xs : List α) (W : World) : Exit → Act → World → Prop
  | .normal, _, W' => (W.heap.size ≤ W'.heap.size ∧ ∀ r, r = L ∨ r = L + 1 → W'.heap[r]? = W.heap[r]?) ∧ (∀ r, mine r → W'.heap[r]? = W.heap[r]?) ∧ G W' ∧ I xs W'
  | _, _, _ => False

variable {F : Fence} {n : Nat} {P : Program}
end Frk

