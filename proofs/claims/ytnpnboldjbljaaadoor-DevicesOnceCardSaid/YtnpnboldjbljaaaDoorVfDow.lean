/- Law 44: Owed. -/
import Derived.Test.YtnpnboldjbljaaaDoorVfgMer
import Derived.Test.YtnpnboldjbljaaaDoorVfRow
import Derived.Deep.Cut
import Derived.Deep.Onto
namespace Frk
open Go Go.RowKit Go.Proofs
set_option maxRecDepth 100000

def owedK (D : Dv) (k : Nat) : List Int := ((D.P.take k).map Po.o).filter (fun n => !hasK idI D.G n)
theorem owedK_succ {D : Dv} {k : Nat} {x : Po} (h : D.P[k]? = some x) : owedK D (k + 1) = owedK D k ++ (if hasK idI D.G x.o then [] else [x.o]) := by
  unfold owedK
  rw [List.take_add_one, h, List.map_append, List.filter_append]
  cases hx : hasK idI D.G x.o <;> simp [hx]
theorem owedK_le (D : Dv) (k : Nat) : (owedK D k).length ≤ k := by
  unfold owedK
  have := List.length_filter_le (fun n => !hasK idI D.G n) ((D.P.take k).map Po.o)
  rw [List.length_map, List.length_take] at this
  omega
theorem sform {w : World} {base : Nat} {e : TypeId} {size n : Nat} {v : Value} {xs : List Value} (h : w.ownsRow base e size v n xs) : ∃ a m c, v = .slice a m c := by
  rcases h.2 with ⟨rfl, _⟩ | ⟨g, cap, cur, rfl, _⟩
  · exact ⟨_, _, _, rfl⟩
  · exact ⟨_, _, _, rfl⟩
theorem info_int2 : (Tryd.prog.info? 3).map (fun i => (i.zero, i.size, i.bytes)) = some (some (.int .i64 0), 1, 8) := by kernel_rfl
def OwedPost (D : Dv) (w : World) (e : Ending) (w' : World) : Prop :=
  ∃ v, e = .returned (.tuple #[v, .int .i64 (chkD D)]) ∧ Seal (w'.ownsRow w.heap.size 3 1 v (if chkD D = 0 then owedL D else []).length ((if chkD D = 0 then owedL D else []).map (Value.int .i64)) ∧ Below w.heap.size w w')

set_option maxHeartbeats 4000000 in
theorem dowed_any (pa ga : Option Addr) (pn pc gn gc : Nat) (D : Dv) (w : World) (hP : IsPs w pa pn pc D.P) (h32 : ∀ x ∈ D.P, x.S.length = 32) (hG : IsIs w ga gn gc D.G) :
    Calls Tryd.prog 22 #[.agg #[.slice pa pn pc, .slice ga gn gc]] w (OwedPost D w) := by
  obtain ⟨X, hX⟩ : ∃ X : World, X = w.alloc (.cells #[.slice pa pn pc, .slice ga gn gc] 25) := ⟨_, rfl⟩
  have HB : Seal (Below w.heap.size w X) := ⟨by rw [hX]; exact below_alloc _ _⟩
  have hrow : X.heap[w.heap.size]? = some (.cells #[.slice pa pn pc, .slice ga gn gc] 25 (0, 0)) := by rw [hX]; exact heap_alloc_new _ _
  have c0 : X.cell? ⟨w.heap.size, 0, none⟩ = some (.slice pa pn pc) := by rw [cell_of_row _ _ _ _ _ _ hrow]; rfl
  have c1 : X.cell? ⟨w.heap.size, 1, none⟩ = some (.slice ga gn gc) := by rw [cell_of_row _ _ _ _ _ _ hrow]; rfl
  have hpx := hP.lmax
  have hlp := hP.llen
  have HP : Seal (∀ W, Below w.heap.size w W → IsPs W pa pn pc D.P) := ⟨fun W h => hP.below h⟩
  have HGs : Seal (∀ W, Below w.heap.size w W → IsIs W ga gn gc D.G) := ⟨fun W h => hG.below h⟩
  have H32 := Seal.mk h32
  have HCk : Seal (∀ W, Below w.heap.size w W → Calls Tryd.prog 13 #[.agg #[.slice pa pn pc, .slice ga gn gc]] W fun e w' => e = .returned (.int .i64 (chkD D)) ∧ Below W.heap.size W w') := ⟨fun W h => dcheck_any pa ga pn pc gn gc D W (hP.below h) h32 (hG.below h)⟩
  obtain ⟨er, her⟩ : ∃ e, e = chkD D := ⟨_, rfl⟩
  unfold OwedPost
  rw [← her] at HCk ⊢
  have HER := Seal.mk her
  obtain ⟨i0, hi, hz0, hz1, hz2⟩ := info_parts info_int2
  have HI := Seal.mk (And.intro hi (And.intro hz0 (And.intro hz1 hz2)))
  have ut := Tryd.underlying31
  clear hP h32 hG hrow her hi hz0 hz1 hz2
  go_enter Tryd.func22, Tryd.ntmps22
  go_upto_region 1 with (fail)
  rw [← hX]
  clear hX
  go_wp2_with fail
  refine (HCk.out X HB.out).mono ?_
  rintro e w1 ⟨rfl, hb⟩
  have HB1 := Seal.mk (HB.out.trans (hb.mono HB.out.size))
  have c0 := cell_below' hb c0
  have c1 := cell_below' hb c1
  clear hb HB HCk
  by_cases h0 : er = 0
  · subst h0
    have HCz : Seal (chkD D = 0) := ⟨HER.out.symm⟩
    have HRi : Seal (RisK idI D.G) := ⟨(rightD_iff.1 (chkD_zero.1 HCz.out).2).2.2.1⟩
    obtain ⟨gx, hgx⟩ : ∃ g, g = w.heap.size := ⟨_, rfl⟩
    have HGX := Seal.mk hgx
    have hgs : gx < w1.heap.size := by rw [hgx]; exact block_lt_of_cell c0
    rw [← hgx] at c0 c1 ⊢
    have H0 : Seal (w1.ownsRow w1.heap.size 3 1 (.slice none 0 0) (owedK D 0).length ((owedK D 0).map (Value.int .i64)) ∧ Below w1.heap.size w1 w1) := ⟨World.ownsRow_nil _ _ _ _, Below.refl _ _⟩
    clear HER hgx
    go_wp2
    go_loopw [2, 16] (fun u i wr => ∃ (k : Nat) (v : Value), k ≤ pn ∧ v = u ∧ i = .int .i64 k ∧ Seal (wr.ownsRow w1.heap.size 3 1 v (owedK D k).length ((owedK D k).map (Value.int .i64)) ∧ Below w1.heap.size w1 wr)) (fun _ i _ => pn - (intOf i).toNat)
    case atStart => exact ⟨0, _, by omega, rfl, rfl, H0⟩
    case round =>
      obtain ⟨wo, rfl⟩ : ∃ z, z = wr := ⟨_, rfl⟩
      obtain ⟨k, v, hk, rfl, rfl, hH⟩ := hrel
      clear H0
      have HBw : Seal (Below w.heap.size w wo) := ⟨HB1.out.trans (hH.out.2.mono HB1.out.size)⟩
      by_cases hlt : k < pn
      · have hPs := HP.out wo HBw.out
        rcases hPs.at_ with hz | ⟨g, off, rfl, hr, hg⟩
        · omega
        · obtain ⟨x, hx⟩ : ∃ x, D.P[k]? = some x := ⟨_, List.getElem?_eq_getElem (by omega)⟩
          have rC := rangeC_row hr hPs.each hx
          have x32 := H32.out x (List.mem_of_getElem? hx)
          obtain ⟨C, hC⟩ : ∃ C, C = x.C := ⟨_, rfl⟩
          have iC : (Tryd.prog.info? 31).map (·.size) = some C.length := by rw [hC]; exact Po.C_info x32
          have HC : Seal (C.length = 33 ∧ (∀ v ∈ C, v.oneCell' = true) ∧ C[0]? = some (.int .i64 x.o)) := ⟨by rw [hC]; exact ⟨Po.C_len x32, Po.C_one x, rfl⟩⟩
          rw [← hC] at rC
          have q5 : (k : Int) < (pn : Int) := by omega
          have q6 : (0 : Int) ≤ (k : Int) := by omega
          have c1w := cell_below' hH.out.2 c1
          have hgw := Nat.lt_of_lt_of_le hgs hH.out.2.size
          have hn5 := heap_alloc_new wo (.cells #[.int .i64 0, .int .u8 0, .int .u8 0, .int .u8 0, .int .u8 0, .int .u8 0, .int .u8 0, .int .u8 0, .int .u8 0, .int .u8 0, .int .u8 0, .int .u8 0, .int .u8 0, .int .u8 0, .int .u8 0, .int .u8 0, .int .u8 0, .int .u8 0, .int .u8 0, .int .u8 0, .int .u8 0, .int .u8 0, .int .u8 0, .int .u8 0, .int .u8 0, .int .u8 0, .int .u8 0, .int .u8 0, .int .u8 0, .int .u8 0, .int .u8 0, .int .u8 0, .int .u8 0] 31)
          obtain ⟨o, ho⟩ : ∃ o, o = x.o := ⟨_, rfl⟩
          have HK : Seal (owedK D (k + 1) = owedK D k ++ (if hasK idI D.G o then [] else [o]) ∧ (owedK D k).length ≤ k) := ⟨by rw [ho]; exact ⟨owedK_succ hx, owedK_le D k⟩⟩
          rw [← ho] at HC
          have SZ : Seal ((#[.int .i64 0, .int .u8 0, .int .u8 0, .int .u8 0, .int .u8 0, .int .u8 0, .int .u8 0, .int .u8 0, .int .u8 0, .int .u8 0, .int .u8 0, .int .u8 0, .int .u8 0, .int .u8 0, .int .u8 0, .int .u8 0, .int .u8 0, .int .u8 0, .int .u8 0, .int .u8 0, .int .u8 0, .int .u8 0, .int .u8 0, .int .u8 0, .int .u8 0, .int .u8 0, .int .u8 0, .int .u8 0, .int .u8 0, .int .u8 0, .int .u8 0, .int .u8 0, .int .u8 0] : Array Value).size = C.toArray.size ∧ C.toArray.all (·.oneCell') = true) := ⟨by simp [HC.out.1], all_oneCell_toArray HC.out.2.1⟩
          clear hPs hr hg hx x32 hC ho
          go_wp2_with (first
            | (refine wpList_load_mid rfl 31 (.tmp 18) rfl g (off + k * 33) rfl C _ rC ut rfl iC ?_; (try simp only [Act.put, List.setIfInBounds_toArray, List.set_cons_zero, List.set_cons_succ]))
            | (refine wpList_store_row rfl 31 (.tmp 5) (.tmp 19) rfl wo.heap.size C.toArray rfl rfl 31 #[.int .i64 0, .int .u8 0, .int .u8 0, .int .u8 0, .int .u8 0, .int .u8 0, .int .u8 0, .int .u8 0, .int .u8 0, .int .u8 0, .int .u8 0, .int .u8 0, .int .u8 0, .int .u8 0, .int .u8 0, .int .u8 0, .int .u8 0, .int .u8 0, .int .u8 0, .int .u8 0, .int .u8 0, .int .u8 0, .int .u8 0, .int .u8 0, .int .u8 0, .int .u8 0, .int .u8 0, .int .u8 0, .int .u8 0, .int .u8 0, .int .u8 0, .int .u8 0, .int .u8 0] hn5 (by simpa using iC) SZ.out.1 SZ.out.2 ?_; obtain ⟨Z, hZ⟩ : ∃ Z, Z = (wo.alloc (.cells #[.int .i64 0, .int .u8 0, .int .u8 0, .int .u8 0, .int .u8 0, .int .u8 0, .int .u8 0, .int .u8 0, .int .u8 0, .int .u8 0, .int .u8 0, .int .u8 0, .int .u8 0, .int .u8 0, .int .u8 0, .int .u8 0, .int .u8 0, .int .u8 0, .int .u8 0, .int .u8 0, .int .u8 0, .int .u8 0, .int .u8 0, .int .u8 0, .int .u8 0, .int .u8 0, .int .u8 0, .int .u8 0, .int .u8 0, .int .u8 0, .int .u8 0, .int .u8 0, .int .u8 0] 31)).setRow wo.heap.size C.toArray := ⟨_, rfl⟩; have hZ2 : Z = wo.alloc (.cells C.toArray 31) := (by rw [hZ]; exact setRow_new wo [Value.int .i64 0, .int .u8 0, .int .u8 0, .int .u8 0, .int .u8 0, .int .u8 0, .int .u8 0, .int .u8 0, .int .u8 0, .int .u8 0, .int .u8 0, .int .u8 0, .int .u8 0, .int .u8 0, .int .u8 0, .int .u8 0, .int .u8 0, .int .u8 0, .int .u8 0, .int .u8 0, .int .u8 0, .int .u8 0, .int .u8 0, .int .u8 0, .int .u8 0, .int .u8 0, .int .u8 0, .int .u8 0, .int .u8 0, .int .u8 0, .int .u8 0, .int .u8 0, .int .u8 0] C _); have bZ : Below wo.heap.size wo Z := (by rw [hZ2]; exact below_alloc _ _); have k0 : Z.cell? ⟨wo.heap.size, 0, none⟩ = some (.int .i64 o) := (by rw [hZ2, cell_of_row _ _ _ _ _ _ (heap_alloc_new wo _)]; simpa using HC.out.2.2); have c1z := cell_below' bZ c1w; have HZ : Seal (Below w.heap.size w Z ∧ Below w1.heap.size w1 Z ∧ Z.ownsRow w1.heap.size 3 1 v (owedK D k).length ((owedK D k).map (Value.int .i64)) ∧ gx < Z.heap.size) := ⟨⟨HBw.out.trans (bZ.mono HBw.out.size), hH.out.2.trans (bZ.mono hH.out.2.size), (by rw [hZ2]; exact hH.out.1.alloc _), Nat.lt_of_lt_of_le hgw bZ.size⟩⟩; rw [← hZ]; clear hZ hZ2 bZ c1w hn5 hgw rC; (try simp only [Act.put])))
          refine (dsearchI_any ga gn gc D.G o Z (HGs.out Z HZ.out.1) HRi.out).mono ?_
          rintro e w2 ⟨rfl, hb⟩
          have H2 : Seal (Below w1.heap.size w1 w2 ∧ w2.ownsRow w1.heap.size 3 1 v (owedK D k).length ((owedK D k).map (Value.int .i64)) ∧ gx < w2.heap.size) := ⟨HZ.out.2.1.trans (hb.mono HZ.out.2.1.size), ownsRow_below HZ.out.2.2.1 hb, Nat.lt_of_lt_of_le HZ.out.2.2.2 hb.size⟩
          have k0 := cell_below' hb k0
          clear hb HZ c1z
          obtain ⟨ai, hai⟩ : ∃ i, i = atK idI D.G o := ⟨_, rfl⟩
          rw [← hai]
          clear hai
          obtain ⟨b, hb⟩ : ∃ b, b = hasK idI D.G o := ⟨_, rfl⟩
          rw [← hb] at HK ⊢
          clear hb
          cases b with
          | true =>
            go_wp2
            go_roundw
            case rel => exact ⟨k + 1, v, by omega, rfl, by go_num, ⟨by rw [HK.out.1]; simpa using H2.out.2.1, H2.out.1⟩⟩
            case measure => simp [intOf]; omega
          | false =>
            have HV : Seal ((w2.alloc (.cells #[.int .i64 o] 3)).ownsRow w1.heap.size 3 1 v (owedK D k).length ((owedK D k).map (Value.int .i64)) ∧ (∀ j u, [Value.int .i64 o][j]? = some u → (w2.alloc (.cells #[.int .i64 o] 3)).cell? ((⟨w2.heap.size, 0, none⟩ : Addr).add j) = some u) ∧ Below w1.heap.size w1 (w2.alloc (.cells #[.int .i64 o] 3))) := ⟨H2.out.2.1.alloc _, fun j u hu => (by rw [Addr.add_mid]; exact rangeAt_row (heap_alloc_new w2 _) j u hu), H2.out.1.alloc H2.out.1.size _⟩
            have hgb : w1.heap.size ≤ (w2.alloc (.cells #[.int .i64 o] 3)).heap.size := by have := H2.out.1.size; simp; omega
            go_wp2_with (at_builtin; go_loud (refine wpList_append_own _ rfl (.tmp 30) (.tmp 33) 23 rfl w1.heap.size 3 i0 _ 1 8 Tryd.underlying23 HI.out.1 HI.out.2.1 HI.out.2.2.1 HI.out.2.2.2 rfl (by decide) v (owedK D k).length ((owedK D k).map (Value.int .i64)) rfl HV.out.1 ⟨w2.heap.size, 0, none⟩ 1 1 [.int .i64 o] rfl rfl HV.out.2.1 (by simp [Value.oneCell']) (by unfold maxLen; have := HK.out.2; omega) (by have := HK.out.2; omega) hgb ?_; intro v5 w5 hown5 hgrow5 _; have vlt := HV.out.1.lt; have H5 : Seal (w5.ownsRow w1.heap.size 3 1 v5 (owedK D (k + 1)).length ((owedK D (k + 1)).map (Value.int .i64)) ∧ Below w1.heap.size w1 w5) := ⟨(by rw [HK.out.1]; simpa using hown5), HV.out.2.2.grown hgrow5 hgb (fun k e => (vlt k e).1)⟩; obtain ⟨va, vn, vc, rfl⟩ := (by exact sform hown5 : ∃ a m c, v5 = .slice a m c); clear hown5 hgrow5 vlt; (try simp only [Act.put, List.setIfInBounds_toArray, List.set_cons_zero, List.set_cons_succ])))
            go_roundw
            case rel => exact ⟨k + 1, _, by omega, rfl, by go_num, H5⟩
            case measure => simp [intOf]; omega
      · obtain rfl : k = pn := by omega
        have q5 : ¬ (k : Int) < (k : Int) := by omega
        have e : owedK D k = owedL D := by unfold owedK owedL; rw [List.take_of_length_le (by omega)]
        have HF : Seal (wo.ownsRow w.heap.size 3 1 v (owedL D).length ((owedL D).map (Value.int .i64)) ∧ Below w.heap.size w wo) := ⟨by rw [← e]; exact hH.out.1.mono HB1.out.size, HBw.out⟩
        clear hH e
        go_wp2
        go_ret2
        exact ⟨_, rfl, ⟨by simpa using HF.out.1, HF.out.2⟩⟩
  · have q0 : ¬ er = 0 := h0
    clear HER
    go_wp2
    go_ret2
    exact ⟨_, rfl, ⟨World.ownsRow_nil _ _ _ _, HB1.out⟩⟩
end Frk
