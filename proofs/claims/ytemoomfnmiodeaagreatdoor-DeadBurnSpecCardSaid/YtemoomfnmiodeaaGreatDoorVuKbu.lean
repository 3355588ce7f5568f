/- Law 45: dead.Burn. -/
import Derived.Test.YtemoomfnmiodeaaGreatDoorVugKdf
import Derived.Test.YtemoomfnmiodeaaGreatDoorVuKro
namespace Frk
open Go Go.RowKit Go.Proofs
set_option maxRecDepth 100000

/-- a proof of burning -/
structure Brn where
  B : Bytes
  A : Bytes
  G : List Int
def brC (b : Brn) (v : Value) : List Value := b.B.map B ++ (b.A.map B ++ [v])
def noBrn : Brn := ⟨zb32, zb32, []⟩
def burnL (l : List Ltr) (t : Int) : List Ltr := if burnE l t = 0 then stayK l t else []
def burnB (l : List Ltr) (t : Int) : Brn := if burnE l t = 0 then ⟨rootB (l.map txK), rootB ((stayK l t).map txK), goneK l t⟩ else noBrn
theorem brzl_eq (v : Value) : (zs 64 ++ [v]).length = 65 := rfl
theorem brz_no : (Tryz.zeroCells50 : Array Value) = (brC noBrn (.slice none 0 0)).toArray := by kernel_rfl
theorem brz_zs : (Tryz.zeroCells50 : Array Value) = (zs 64 ++ [Value.slice none 0 0]).toArray := by kernel_rfl
/-- the numbers that a slice bears -/
def GoneAt (w : World) (v : Value) (G : List Int) : Prop := ∃ a c, v = .slice a G.length c ∧ IsIs w a G.length c G
theorem GoneAt.below {w w' : World} {v : Value} {G : List Int} (h : GoneAt w v G) (hb : Below w.heap.size w w') : GoneAt w' v G := by
  obtain ⟨a, c, e, h⟩ := h
  exact ⟨a, c, e, h.below hb⟩
theorem gone_nil (w : World) : GoneAt w (.slice none 0 0) [] := ⟨none, 0, rfl, rfl, Nat.le_refl _, by decide, by decide, by simp, .inl rfl⟩
/-- what Burn returns -/
def BurnPost (L : List Ltr) (b : Brn) (x : Int) (w : World) (e : Ending) (w' : World) : Prop :=
  ∃ a c v, e = .returned (.tuple #[.slice a L.length c, .agg (brC b v).toArray, .int .i64 x]) ∧ Seal (IsC Ltr.C 38 w' a L.length c L ∧ GoneAt w' v b.G) ∧ Below w.heap.size w w'

/-- what is gathered in the loop -/
structure BuI (w : World) (l : List Ltr) (t : Int) (k : Nat) (v : Value) (W : World) : Prop where
  row : W.heap[w.heap.size]? = some (.cells (zs 64 ++ [v]).toArray 50 (0, 0))
  own : W.ownsRow (w.heap.size + 1) 3 1 v (goneK (l.take k) t).length ((goneK (l.take k) t).map (Value.int .i64))
  bel : Below w.heap.size w W
  big : w.heap.size + 1 ≤ W.heap.size
theorem BuI.later {w : World} {l : List Ltr} {t : Int} {k : Nat} {v : Value} {W W' : World} (h : BuI w l t k v W) (hb : Below W.heap.size W W') : BuI w l t k v W' :=
  ⟨(hb.block _ (by have := h.big; omega)).trans h.row, ownsRow_below h.own hb, h.bel.trans (hb.mono h.bel.size), by have := hb.size; have := h.big; omega⟩
theorem zs64_set (v v' : Value) : (zs 64 ++ [v]).set 64 v' = zs 64 ++ [v'] := rfl

theorem grown_setC (w : World) (b i : Nat) (v : Value) : w.grownBy (w.setCell ⟨b, i, none⟩ v) (some b) :=
  ⟨rfl, rfl, rfl, by simp, fun k _ hne => Below.heap_setCell _ _ _ _ (fun e => hne (by rw [e]))⟩
theorem BuI.next {w : World} {l : List Ltr} {t : Int} {k : Nat} {v : Value} {W : World} (h : BuI w l t k v W) {x : Ltr} (hx : l[k]? = some x) (hu : ¬ x.U ≤ t) : BuI w l t (k + 1) v W := by
  have e := gone_take_succ hx t
  rw [if_neg hu] at e
  exact ⟨h.row, by rw [e]; exact h.own, h.bel, h.big⟩
theorem BuI.row5 {w : World} {l : List Ltr} {t : Int} {k : Nat} {v : Value} {W w5 : World} (h : BuI w l t k v W) {o : Obj} (hg : (W.alloc o).grownBy w5 v.ownBlock) : w5.heap[w.heap.size]? = some (.cells (zs 64 ++ [v]).toArray 50 (0, 0)) :=
  (hg.block _ (by rw [size_alloc]; have := h.big; omega) (fun e => by have := (h.own.lt _ e.symm).1; omega)).trans ((Below.heap_alloc W _ _ (by have := h.big; omega)).trans h.row)
theorem BuI.put {w : World} {l : List Ltr} {t : Int} {k : Nat} {v v5 : Value} {W w5 : World} {o : Obj} (h : BuI w l t k v W) {x : Ltr} (hx : l[k]? = some x) (hu : x.U ≤ t)
    (hown : w5.ownsRow (w.heap.size + 1) 3 1 v5 ((goneK (l.take k) t).length + 1) ((goneK (l.take k) t).map (Value.int .i64) ++ [.int .i64 x.N])) (hg : (W.alloc o).grownBy w5 v.ownBlock) :
    BuI w l t (k + 1) v5 (w5.setCell ⟨w.heap.size, 64, none⟩ v5) := by
  have e := gone_take_succ hx t
  rw [if_pos hu] at e
  have hbig := h.big
  have hz5 := hg.size
  rw [size_alloc] at hz5
  have r5 := h.row5 hg
  have hset := grown_setC w5 w.heap.size 64 v5
  have bel5 : Below w.heap.size w w5 := (h.bel.alloc (by omega) _).grown hg (by rw [size_alloc]; omega) (fun k e => by have := (h.own.lt k e).1; omega)
  refine ⟨?_, ?_, bel5.setCell (p := ⟨w.heap.size, 64, none⟩) (by simp) _, by have := hset.size; omega⟩
  · have := heap_setCell_row (i := 64) v5 r5
    rwa [zs64_set] at this
  · have := hown.kept hset (by
      cases hv : v5.ownBlock with
      | none => exact .inl rfl
      | some b => exact .inr (fun e => by have := (hown.lt b hv).1; have := Option.some.inj e; omega))
    rw [e, List.length_append, List.map_append]
    exact this
theorem BuI.gone {w : World} {l : List Ltr} {t : Int} {k : Nat} {v : Value} {W : World} (h : BuI w l t k v W) (hk : l.length ≤ k) (hm : l.length ≤ 5000) : ∃ a c, v = .slice a (goneK l t).length c ∧ IsIs W a (goneK l t).length c (goneK l t) ∧ ∀ g o, a = some ⟨g, o, none⟩ → w.heap.size + 1 ≤ g := by
  have ho := h.own
  have e : l.take k = l := List.take_of_length_le hk
  rw [e] at ho
  have hl : (goneK l t).length ≤ 5000 := by have := stay_gone l t; omega
  rw [← intC_flat] at ho
  obtain ⟨a, c, ev, hi⟩ := isC_own (C := intC) ho (fun _ _ => rfl) rfl hl
  refine ⟨a, c, ev, hi, fun g o ea => ?_⟩
  subst ea
  subst ev
  exact (h.own.lt g rfl).1
theorem brn_row {D1 D2 : Bytes} (h1 : D1.length = 32) (h2 : D2.length = 32) (v : Value) : lay (lay (zs 64 ++ [v]) 0 (D1.map B)) 32 (D2.map B) = D1.map B ++ (D2.map B ++ [v]) := by
  have h := lay_lay (zs 64 ++ [v]) (D1.map B) (D2.map B) 0 (by rw [List.length_map, List.length_map, h1, h2, brzl_eq]; decide)
  rw [List.length_map, h1, Nat.zero_add] at h
  rw [h]
  unfold lay
  rw [List.take_zero, List.nil_append, List.length_append, List.length_map, List.length_map, h1, h2, List.append_assoc]
  rfl
theorem len_brC {b : Brn} (h1 : b.B.length = 32) (h2 : b.A.length = 32) (v : Value) : (brC b v).length = 65 := by simp [brC, h1, h2]
theorem brC_one (b : Brn) {v : Value} (hv : v.oneCell' = true) : ∀ u ∈ brC b v, u.oneCell' = true := by
  intro u hu
  unfold brC at hu
  simp only [List.mem_append, List.mem_map, List.mem_singleton] at hu
  rcases hu with ⟨_, _, rfl⟩ | ⟨_, _, rfl⟩ | rfl
  · rfl
  · rfl
  · exact hv

set_option maxHeartbeats 8000000 in
theorem kburn_any (a : Option Addr) (n c : Nat) (l : List Ltr) (t : Int) (w : World) (hG : Glob w) (hd : IsC Ltr.C 38 w a n c l) (hok : ∀ x ∈ l, x.ok) (hn : n ≤ 100) :
    Calls Tryz.prog 17 #[.slice a n c, .int .i64 t] w (BurnPost (burnL l t) (burnB l t) (burnE l t) w) := by
  obtain ⟨X, hX⟩ : ∃ X : World, X = w.alloc (.cells Tryz.zeroCells50 50) := ⟨_, rfl⟩
  have HX : Seal (Below w.heap.size w X ∧ X.heap[w.heap.size]? = some (.cells Tryz.zeroCells50 50 (0, 0)) ∧ w.heap.size < X.heap.size) := ⟨by rw [hX]; exact ⟨below_alloc _ _, heap_alloc_new w _, by rw [size_alloc]; omega⟩⟩
  have HGl : Seal (∀ W, Below w.heap.size w W → Glob W) := ⟨fun W h => hG.below h⟩
  have HD : Seal (∀ W, Below w.heap.size w W → IsC Ltr.C 38 W a n c l) := ⟨fun W h => hd.below h⟩
  have HOK := Seal.mk hok
  have hll := hd.llen
  have hlm := hd.lmax
  obtain ⟨e0, he0⟩ : ∃ e, e = chkL l := ⟨_, rfl⟩
  have HC1 := Seal.mk (kchk_any a n c l X (HGl.out X HX.out.1) (HD.out X HX.out.1) hok)
  rw [← he0] at HC1
  obtain ⟨RL, hRL⟩ : ∃ R, R = burnL l t := ⟨_, rfl⟩
  obtain ⟨RB, hRB⟩ : ∃ R, R = burnB l t := ⟨_, rfl⟩
  obtain ⟨RE, hRE⟩ : ∃ R, R = burnE l t := ⟨_, rfl⟩
  rw [← hRL, ← hRB, ← hRE]
  have iB : Seal ((Tryz.prog.info? 50).map (·.size) = some Tryz.zeroCells50.size ∧ Tryz.zeroCells50.all (·.oneCell') = true) := ⟨by kernel_rfl, by kernel_rfl⟩
  clear hG hd hok
  by_cases hz : e0 = 0
  · subst hz
    by_cases ht : t < 0 ∨ 2097152 ≤ t
    · have hE : burnE l t = 1 := by unfold burnE; rw [← he0, if_neg (by simp), if_pos ht]
      have HR : Seal (RL = [] ∧ RB = noBrn ∧ RE = 1) := ⟨by rw [hRL, hRB, hRE]; unfold burnL burnB; rw [hE]; simp⟩
      have HTt := Seal.mk ht
      clear hRL hRB hRE he0 hE ht
      by_cases ht0 : t < 0
      · skip
        go_enter Tryz.func17, Tryz.ntmps17
        go_upto_region 1 with (fail)
        rw [← hX]
        clear hX
        go_wp2_with fail
        refine HC1.out.mono ?_
        rintro e w1 ⟨rfl, hb⟩
        have HX1 : Seal (Below w.heap.size w w1 ∧ w1.heap[w.heap.size]? = some (.cells Tryz.zeroCells50 50 (0, 0)) ∧ w.heap.size < w1.heap.size) := ⟨HX.out.1.trans (hb.mono HX.out.1.size), (hb.block _ HX.out.2.2).trans HX.out.2.1, Nat.lt_of_lt_of_le HX.out.2.2 hb.size⟩
        clear hb HC1 HX
        go_wp2_with (refine wpList_store_row rfl 50 (.tmp 5) (.tmp 22) rfl w.heap.size Tryz.zeroCells50 rfl rfl 50 _ HX1.out.2.1 iB.out.1 rfl iB.out.2 ?_)
        refine bodyPost_ret (results_mid (fn := Tryz.f17) rfl _ _ w.heap.size 50 Tryz.zeroCells50 (0, 0) _ _ _ rfl rfl rfl (setRow_heap _ _ _ _ _ _ HX1.out.2.1) Tryz.underlying50 rfl iB.out.1) rfl ?_
        exact ⟨none, 0, .slice none 0 0, by rw [HR.out.1, HR.out.2.1, HR.out.2.2, ← brz_no]; rfl, ⟨by rw [HR.out.1, HR.out.2.1]; exact ⟨isC_nilK _, gone_nil _⟩⟩, below_row HX1.out.1 (Nat.le_refl _) _⟩
      · have ht1 : 2097152 ≤ t := by have := HTt.out; omega
        go_enter Tryz.func17, Tryz.ntmps17
        go_upto_region 1 with (fail)
        rw [← hX]
        clear hX
        go_wp2_with fail
        refine HC1.out.mono ?_
        rintro e w1 ⟨rfl, hb⟩
        have HX1 : Seal (Below w.heap.size w w1 ∧ w1.heap[w.heap.size]? = some (.cells Tryz.zeroCells50 50 (0, 0)) ∧ w.heap.size < w1.heap.size) := ⟨HX.out.1.trans (hb.mono HX.out.1.size), (hb.block _ HX.out.2.2).trans HX.out.2.1, Nat.lt_of_lt_of_le HX.out.2.2 hb.size⟩
        clear hb HC1 HX
        go_wp2_with (refine wpList_store_row rfl 50 (.tmp 5) (.tmp 22) rfl w.heap.size Tryz.zeroCells50 rfl rfl 50 _ HX1.out.2.1 iB.out.1 rfl iB.out.2 ?_)
        refine bodyPost_ret (results_mid (fn := Tryz.f17) rfl _ _ w.heap.size 50 Tryz.zeroCells50 (0, 0) _ _ _ rfl rfl rfl (setRow_heap _ _ _ _ _ _ HX1.out.2.1) Tryz.underlying50 rfl iB.out.1) rfl ?_
        exact ⟨none, 0, .slice none 0 0, by rw [HR.out.1, HR.out.2.1, HR.out.2.2, ← brz_no]; rfl, ⟨by rw [HR.out.1, HR.out.2.1]; exact ⟨isC_nilK _, gone_nil _⟩⟩, below_row HX1.out.1 (Nat.le_refl _) _⟩
    · have hE : burnE l t = 0 := burnE_zero.2 ⟨he0.symm, by omega, by omega⟩
      have HR : Seal (RL = stayK l t ∧ RB = ⟨rootB (l.map txK), rootB ((stayK l t).map txK), goneK l t⟩ ∧ RE = 0) := ⟨by rw [hRL, hRB, hRE]; unfold burnL burnB; rw [hE]; exact ⟨rfl, rfl, rfl⟩⟩
      have ht0 : ¬ t < 0 := by omega
      have ht1 : ¬ 2097152 ≤ t := by omega
      have ut := Tryz.underlying30
      obtain ⟨i0, hi, hz0, hz1, hz2⟩ := info_parts (show (Tryz.prog.info? 3).map (fun i => (i.zero, i.size, i.bytes)) = some (some (.int .i64 0), 1, 8) by kernel_rfl)
      have HI := Seal.mk (And.intro hi (And.intro hz0 (And.intro hz1 hz2)))
      clear hRL hRB hRE he0 hE ht hi hz0 hz1 hz2
      go_enter Tryz.func17, Tryz.ntmps17
      go_upto_region 1 with (fail)
      rw [← hX]
      clear hX
      go_wp2_with fail
      refine HC1.out.mono ?_
      rintro e w1 ⟨rfl, hb⟩
      have HX1 : Seal (Below w.heap.size w w1 ∧ w1.heap[w.heap.size]? = some (.cells Tryz.zeroCells50 50 (0, 0)) ∧ w.heap.size < w1.heap.size) := ⟨HX.out.1.trans (hb.mono HX.out.1.size), (hb.block _ HX.out.2.2).trans HX.out.2.1, Nat.lt_of_lt_of_le HX.out.2.2 hb.size⟩
      clear hb HC1 HX
      have HS : Seal (BuI w l t 0 (.slice none 0 0) w1) := ⟨by rw [← brz_zs]; exact HX1.out.2.1, World.ownsRow_nil _ _ _ _, HX1.out.1, HX1.out.2.2⟩
      clear HX1
      go_wp2
      go_loopw [25] (fun iv wr => ∃ (k : Nat), k ≤ n ∧ iv = .int .i64 k ∧ Seal (∃ v, BuI w l t k v wr)) (fun iv _ => n - (intOf iv).toNat)
      case atStart => exact ⟨0, by omega, rfl, ⟨_, HS.out⟩⟩
      case round =>
        obtain ⟨wo, rfl⟩ : ∃ z, z = wr := ⟨_, rfl⟩
        obtain ⟨k, hk, rfl, hH⟩ := hrel
        obtain ⟨v, hBu⟩ := hH.out
        clear HS hH
        by_cases hlt : k < n
        · obtain ⟨x, hx⟩ : ∃ x, l[k]? = some x := ⟨_, List.getElem?_eq_getElem (by omega)⟩
          have HDw := HD.out wo hBu.bel
          rcases HDw.at_ with h0 | ⟨g, off, rfl, hr, hg⟩
          · omega
          have rX := rangeC_row hr HDw.each hx
          have x32 := (HOK.out x (List.mem_of_getElem? hx)).t32
          have q5 : (k : Int) < (n : Int) := by omega
          have q6 : (0 : Int) ≤ (k : Int) := by omega
          obtain ⟨C, hC⟩ : ∃ C, C = x.C := ⟨_, rfl⟩
          obtain ⟨N, hN⟩ : ∃ N, N = x.N := ⟨_, rfl⟩
          have HX := Seal.mk hx
          have IC : Seal ((Tryz.prog.info? 30).map (·.size) = some C.length ∧ ((List.toArray (.int .i64 0 :: .int .i64 0 :: .int .i64 0 :: .int .i64 0 :: .int .i64 0 :: .int .i64 0 :: .int .u8 0 :: .int .u8 0 :: .int .u8 0 :: .int .u8 0 :: .int .u8 0 :: .int .u8 0 :: .int .u8 0 :: .int .u8 0 :: .int .u8 0 :: .int .u8 0 :: .int .u8 0 :: .int .u8 0 :: .int .u8 0 :: .int .u8 0 :: .int .u8 0 :: .int .u8 0 :: .int .u8 0 :: .int .u8 0 :: .int .u8 0 :: .int .u8 0 :: .int .u8 0 :: .int .u8 0 :: .int .u8 0 :: .int .u8 0 :: .int .u8 0 :: .int .u8 0 :: .int .u8 0 :: .int .u8 0 :: .int .u8 0 :: .int .u8 0 :: .int .u8 0 :: .int .u8 0 :: [] : List Value) : Array Value) : Array Value).size = C.toArray.size ∧ C.toArray.all (·.oneCell') = true) := ⟨by rw [hC]; exact Ltr.info x32, by rw [hC, ktzz_len, List.size_toArray, Ltr.C_len x32], by rw [hC]; exact all_oneCell_toArray (Ltr.C_one _)⟩
          obtain ⟨b, hb⟩ : ∃ b, b = decide (x.U ≤ t) := ⟨_, rfl⟩
          have HBb := Seal.mk hb
          have HCk : Seal (∀ W, Calls Tryz.prog 39 #[.int .i64 t, .agg C.toArray] W fun e w' => e = .returned (.bool b) ∧ Below W.heap.size W w') := ⟨fun W => by rw [hC, hb]; exact kover_any x t W⟩
          rw [← hC] at rX
          have hn5 := heap_alloc_new wo (.cells (List.toArray (.int .i64 0 :: .int .i64 0 :: .int .i64 0 :: .int .i64 0 :: .int .i64 0 :: .int .i64 0 :: .int .u8 0 :: .int .u8 0 :: .int .u8 0 :: .int .u8 0 :: .int .u8 0 :: .int .u8 0 :: .int .u8 0 :: .int .u8 0 :: .int .u8 0 :: .int .u8 0 :: .int .u8 0 :: .int .u8 0 :: .int .u8 0 :: .int .u8 0 :: .int .u8 0 :: .int .u8 0 :: .int .u8 0 :: .int .u8 0 :: .int .u8 0 :: .int .u8 0 :: .int .u8 0 :: .int .u8 0 :: .int .u8 0 :: .int .u8 0 :: .int .u8 0 :: .int .u8 0 :: .int .u8 0 :: .int .u8 0 :: .int .u8 0 :: .int .u8 0 :: .int .u8 0 :: .int .u8 0 :: [] : List Value) : Array Value) 30)
          obtain ⟨gd, hgd⟩ : ∃ z, z = wo.heap.size := ⟨_, rfl⟩
          obtain ⟨V, hV⟩ : ∃ V, V = wo.alloc (.cells C.toArray 30) := ⟨_, rfl⟩
          have hVz : (wo.alloc (.cells (List.toArray (.int .i64 0 :: .int .i64 0 :: .int .i64 0 :: .int .i64 0 :: .int .i64 0 :: .int .i64 0 :: .int .u8 0 :: .int .u8 0 :: .int .u8 0 :: .int .u8 0 :: .int .u8 0 :: .int .u8 0 :: .int .u8 0 :: .int .u8 0 :: .int .u8 0 :: .int .u8 0 :: .int .u8 0 :: .int .u8 0 :: .int .u8 0 :: .int .u8 0 :: .int .u8 0 :: .int .u8 0 :: .int .u8 0 :: .int .u8 0 :: .int .u8 0 :: .int .u8 0 :: .int .u8 0 :: .int .u8 0 :: .int .u8 0 :: .int .u8 0 :: .int .u8 0 :: .int .u8 0 :: .int .u8 0 :: .int .u8 0 :: .int .u8 0 :: .int .u8 0 :: .int .u8 0 :: .int .u8 0 :: [] : List Value) : Array Value) 30)).setRow wo.heap.size C.toArray = V := by rw [hV]; exact setRow_new wo (.int .i64 0 :: .int .i64 0 :: .int .i64 0 :: .int .i64 0 :: .int .i64 0 :: .int .i64 0 :: .int .u8 0 :: .int .u8 0 :: .int .u8 0 :: .int .u8 0 :: .int .u8 0 :: .int .u8 0 :: .int .u8 0 :: .int .u8 0 :: .int .u8 0 :: .int .u8 0 :: .int .u8 0 :: .int .u8 0 :: .int .u8 0 :: .int .u8 0 :: .int .u8 0 :: .int .u8 0 :: .int .u8 0 :: .int .u8 0 :: .int .u8 0 :: .int .u8 0 :: .int .u8 0 :: .int .u8 0 :: .int .u8 0 :: .int .u8 0 :: .int .u8 0 :: .int .u8 0 :: .int .u8 0 :: .int .u8 0 :: .int .u8 0 :: .int .u8 0 :: .int .u8 0 :: .int .u8 0 :: [] : List Value) C _
          have hbv : Below wo.heap.size wo V := by rw [hV]; exact below_alloc _ _
          have rV : V.rangeAt gd 0 C := rangeAt_row (by rw [hV, hgd]; exact heap_alloc_new wo _)
          have cN : V.cell? ⟨gd, 0, none⟩ = some (.int .i64 N) := by have h := rV 0 (.int .i64 N) (by rw [hC, hN]; rfl); simpa using h
          have HV := Seal.mk (hBu.later hbv)
          have HNN := Seal.mk hN
          have hgdn := hgd.symm
          rw [hgdn] at hVz hn5
          clear hx hC hN hb hgd hV hbv hBu x32 hr hg HDw
          go_wp2_with (first
            | (refine wpList_load_mid rfl 30 (.tmp 27) rfl g (off + k * 38) rfl C _ rX ut rfl IC.out.1 ?_; (try simp only [Act.put, List.setIfInBounds_toArray, List.set_cons_zero, List.set_cons_succ]))
            | ((try rw [hgdn]); refine wpList_store_row rfl 30 (.tmp 9) (.tmp 28) rfl gd C.toArray rfl rfl 30 _ hn5 (by simpa using IC.out.1) IC.out.2.1 IC.out.2.2 ?_; rw [hVz]; clear hVz hn5 hgdn rX; (try simp only [Act.put]))
            | (refine wpList_load_mid rfl 30 (.tmp 9) rfl gd 0 rfl C _ rV ut rfl IC.out.1 ?_; (try simp only [Act.put, List.setIfInBounds_toArray, List.set_cons_zero, List.set_cons_succ])))
          refine (HCk.out V).mono ?_
          rintro e V1 ⟨rfl, hb⟩
          have HV1 := Seal.mk (HV.out.later hb)
          have cN := cell_below' hb cN
          clear hb HV HCk rV
          cases b with
          | false =>
            have HNx : Seal (BuI w l t (k + 1) v V1) := ⟨HV1.out.next HX.out (by have := HBb.out; simpa using this.symm)⟩
            clear cN HV1
            go_wp2
            go_roundw
            case rel => exact ⟨k + 1, by omega, by go_num, ⟨_, HNx.out⟩⟩
            case measure => simp [intOf]; omega
          | true =>
            have hu : x.U ≤ t := by have := HBb.out; simpa using this.symm
            have HU := Seal.mk hu
            have c64 : V1.cell? ⟨w.heap.size, 64, none⟩ = some v := by rw [cell_of_row _ _ _ _ _ _ HV1.out.row]; rfl
            obtain ⟨m, hm⟩ : ∃ m, m = (goneK (l.take k) t).length := ⟨_, rfl⟩
            obtain ⟨GL, hGL⟩ : ∃ G, G = (goneK (l.take k) t).map (Value.int .i64) := ⟨_, rfl⟩
            have HO : Seal ((V1.alloc (.cells #[.int .i64 N] 3)).ownsRow (w.heap.size + 1) 3 1 v m GL) := ⟨by rw [hm, hGL]; exact HV1.out.own.alloc _⟩
            have HMM := Seal.mk (And.intro hm hGL)
            have HNw : Seal (∀ j u, [Value.int .i64 N][j]? = some u → (V1.alloc (.cells #[.int .i64 N] 3)).cell? ((⟨V1.heap.size, 0, none⟩ : Addr).add j) = some u) := ⟨fun j u hu => by
              rw [Addr.add_lit, cell_of_row _ _ _ _ _ _ (heap_alloc_new V1 _)]
              simpa using hu⟩
            have hmn : m ≤ 1000 := by
              rw [hm]
              have h1 := stay_gone (l.take k) t
              rw [List.length_take] at h1
              omega
            have hbig := HV1.out.big
            clear hu hm hGL
            go_wp2_with (at_builtin; refine wpList_append_own _ rfl (.tmp 33) (.tmp 36) 48 rfl (w.heap.size + 1) 3 i0 (.int .i64 0) 1 8 Tryz.underlying48 HI.out.1 HI.out.2.1 HI.out.2.2.1 HI.out.2.2.2 rfl (by decide) v m GL rfl HO.out ⟨V1.heap.size, 0, none⟩ 1 1 [.int .i64 N] rfl rfl HNw.out (by simp [Value.oneCell']) (by unfold maxLen; omega) (by omega) (by rw [size_alloc]; omega) ?_; intro v5 w5 hown5 hgrow5 _; have HNx : Seal (BuI w l t (k + 1) v5 (w5.setCell ⟨w.heap.size, 64, none⟩ v5)) := ⟨HV1.out.put HX.out HU.out (by rw [← HMM.out.1, ← HMM.out.2, ← HNN.out]; exact hown5) hgrow5⟩; have r5 := HV1.out.row5 hgrow5; have c5 : w5.cell? ⟨w.heap.size, 64, none⟩ = some v := (by rw [cell_of_row _ _ _ _ _ _ r5]; rfl); have f5 : w5.frozen? ⟨w.heap.size, 64, none⟩ = false := frozen_of_row _ _ _ _ _ r5; obtain ⟨a5, n5, q5, rfl⟩ := slice_form hown5; clear hown5 hgrow5 c64 cN r5)
            go_roundw
            case rel => exact ⟨k + 1, by omega, by go_num, ⟨_, HNx.out⟩⟩
            case measure => simp [intOf]; omega
        · obtain rfl : k = n := by omega
          have q5 : ¬ (k : Int) < (k : Int) := by omega
          have HBu := Seal.mk hBu
          have HCl := Seal.mk (kclone_any a k c l wo (HD.out wo hBu.bel))
          clear hBu
          go_wp2_with fail
          refine HCl.out.mono ?_
          rintro e w2 ⟨v2, rfl, ho, hv2, hb2⟩
          have HD2 := Seal.mk (kdelfun_any wo.heap.size k v2 l t w2 ho.out hll (fun x hx => (HOK.out x hx).t32) hlm hb2.size)
          have HB2 := Seal.mk hb2
          clear ho hv2 hb2 HCl
          go_wp2_with fail
          refine HD2.out.mono ?_
          rintro e w3 ⟨a1, c1, rfl, hK, hb3⟩
          have HB3 := Seal.mk (HBu.out.later (HB2.out.trans hb3))
          have HK3 : Seal (IsC Ltr.C 38 w3 a1 (stayK l t).length c1 (stayK l t) ∧ ∀ g o, a1 = some ⟨g, o, none⟩ → w.heap.size < g) := ⟨hK.out.1, fun g o e => by have := hK.out.2 g o e; have := HBu.out.big; omega⟩
          clear hb3 hK HD2 HB2 HBu
          obtain ⟨LS, hLS⟩ : ∃ L, L = stayK l t := ⟨_, rfl⟩
          have hLl : LS.length ≤ 100 := by rw [hLS]; have := stay_gone l t; omega
          have hLok : ∀ x ∈ LS, x.ok := fun x hx => HOK.out x (by rw [hLS] at hx; exact (List.mem_filter.1 hx).1)
          have hD1l := rootB_len (l.map txK)
          have hD2l := rootB_len (LS.map txK)
          have HGn := Seal.mk (HB3.out.gone (by omega) (by omega))
          rw [← hLS] at HK3 HR ⊢
          obtain ⟨D1, hD1⟩ : ∃ D, D = rootB (l.map txK) := ⟨_, rfl⟩
          obtain ⟨D2, hD2⟩ : ∃ D, D = rootB (LS.map txK) := ⟨_, rfl⟩
          obtain ⟨GG, hGG⟩ : ∃ G, G = goneK l t := ⟨_, rfl⟩
          have HRt1 : Seal (Calls Tryz.prog 26 #[.slice a k c] w3 fun e w' => e = .returned (.agg (D1.map B).toArray) ∧ Below w3.heap.size w3 w') := ⟨by rw [hD1]; exact droot_any a k c l w3 (HGl.out w3 HB3.out.bel) (HD.out w3 HB3.out.bel) HOK.out hn⟩
          have HRt2 : Seal (∀ W, Below w3.heap.size w3 W → Calls Tryz.prog 26 #[.slice a1 LS.length c1] W fun e w' => e = .returned (.agg (D2.map B).toArray) ∧ Below W.heap.size W w') := ⟨fun W h => by rw [hD2]; exact droot_any a1 _ c1 LS W (HGl.out W (HB3.out.bel.trans (h.mono HB3.out.bel.size))) (HK3.out.1.below h) hLok hLl⟩
          rw [← hD1] at hD1l HR
          rw [← hD2] at hD2l HR
          rw [← hGG] at HR HGn
          have HDl : Seal (D1.length = 32 ∧ D2.length = 32 ∧ (Tryz.prog.info? 26).map (·.size) = some (D1.map B).length ∧ (Tryz.prog.info? 26).map (·.size) = some (D2.map B).length) := ⟨hD1l, hD2l, dg_info _ hD1l, dg_info _ hD2l⟩
          clear hLS hLl hLok hD1l hD2l hD1 hD2 hGG
          go_wp2_with fail
          refine HRt1.out.mono ?_
          rintro e w4 ⟨rfl, hb4⟩
          have HRt := Seal.mk (HRt2.out w4 hb4)
          have HB4 := Seal.mk hb4
          clear hb4 HRt1 HRt2
          go_wp2_with fail
          refine HRt.out.mono ?_
          rintro e w5 ⟨rfl, hb5⟩
          have HB5 := Seal.mk (HB4.out.trans (hb5.mono HB4.out.size))
          clear hb5 HRt HB4
          have hrow := (HB3.out.later HB5.out).row
          obtain ⟨Y1, hY1⟩ : ∃ Y, Y = w5.setRow w.heap.size (lay (zs 64 ++ [v]) 0 (D1.map B)).toArray := ⟨_, rfl⟩
          have hrow1 : Y1.heap[w.heap.size]? = some (.cells (lay (zs 64 ++ [v]) 0 (D1.map B)).toArray 50 (0, 0)) := by rw [hY1]; exact setRow_heap _ _ _ _ _ _ hrow
          have hl1 : (lay (zs 64 ++ [v]) 0 (D1.map B)).length = 65 := by rw [length_lay (by rw [List.length_map, HDl.out.1, brzl_eq]; decide)]; exact brzl_eq v
          obtain ⟨a2, c2, hv, hgi, hgb⟩ := HGn.out
          obtain ⟨BRW, hBRW⟩ : ∃ L : List Value, L = D1.map B ++ (D2.map B ++ [v]) := ⟨_, rfl⟩
          obtain ⟨Y2, hY2⟩ : ∃ Y, Y = Y1.setRow w.heap.size (lay (lay (zs 64 ++ [v]) 0 (D1.map B)) 32 (D2.map B)).toArray := ⟨_, rfl⟩
          have HY : Seal (Y2.heap[w.heap.size]? = some (.cells BRW.toArray 50 (0, 0)) ∧ Below w.heap.size w Y2 ∧ IsC Ltr.C 38 Y2 a1 LS.length c1 LS ∧ IsIs Y2 a2 GG.length c2 GG) := ⟨by
            refine ⟨?_, ?_, ?_, ?_⟩
            · rw [hY2, hBRW, ← brn_row HDl.out.1 HDl.out.2.1 v]
              exact setRow_heap _ _ _ _ _ _ hrow1
            · rw [hY2, hY1]
              exact below_row (below_row (HB3.out.later HB5.out).bel (Nat.le_refl _) _) (Nat.le_refl _) _
            · rw [hY2, hY1]
              exact ((HK3.out.1.below HB5.out).other _ (fun g o e => by have := HK3.out.2 g o e; omega)).other _ (fun g o e => by have := HK3.out.2 g o e; omega)
            · rw [hY2, hY1]
              exact ((hgi.below HB5.out).other _ (fun g o e => by have := hgb g o e; omega)).other _ (fun g o e => by have := hgb g o e; omega)⟩
          have HGb := Seal.mk hgb
          have iW : Seal ((Tryz.prog.info? 50).map (·.size) = some BRW.length ∧ BRW.toArray.all (·.oneCell') = true ∧ BRW = brC ⟨D1, D2, GG⟩ v) := ⟨by
            have e : BRW = brC ⟨D1, D2, GG⟩ v := hBRW
            refine ⟨?_, ?_, e⟩
            · rw [e, len_brC HDl.out.1 HDl.out.2.1]; kernel_rfl
            · rw [e]; exact all_oneCell_toArray (brC_one _ (by rw [hv]; rfl))⟩
          have HVv := Seal.mk hv
          have uB := Tryz.underlying50
          clear hv hgi hgb hBRW
          go_wp2_with (first
            | (refine wpList_store_mid rfl 26 (.tmp 49) (.tmp 46) rfl w.heap.size 0 (D1.map B) rfl rfl 50 (zs 64 ++ [v]) hrow HDl.out.2.2.1 (by rw [List.length_map, HDl.out.1, brzl_eq]; decide) (by intro u hu; obtain ⟨b, _, rfl⟩ := List.mem_map.1 hu; rfl) ?_; rw [← hY1]; clear hY1 hrow; (try simp only [Act.put]))
            | (refine wpList_store_mid rfl 26 (.tmp 50) (.tmp 48) rfl w.heap.size 32 (D2.map B) rfl rfl 50 (lay (zs 64 ++ [v]) 0 (D1.map B)) hrow1 HDl.out.2.2.2 (by rw [List.length_map, HDl.out.2.1, hl1]; decide) (by intro u hu; obtain ⟨b, _, rfl⟩ := List.mem_map.1 hu; rfl) ?_; rw [← hY2]; clear hY2 hrow1; (try simp only [Act.put])))
          refine wp_region_held_drew (S := fun W => W.heap[w.heap.size]? = some (.cells BRW.toArray 50 (0, 0))) (by kernel_rfl) HY.out.1 (fun hHeld => ?_)
          obtain ⟨Z, hZ⟩ : ∃ Z, Z = Y2.drew := ⟨_, rfl⟩
          have HZ : Seal (Z.heap[w.heap.size]? = some (.cells BRW.toArray 50 (0, 0)) ∧ Below w.heap.size w Z ∧ IsC Ltr.C 38 Z a1 LS.length c1 LS ∧ IsIs Z a2 GG.length c2 GG) := ⟨by rw [hZ]; exact ⟨HY.out.1, HY.out.2.1.trans ((below_drewn_o _).mono HY.out.2.1.size), HY.out.2.2.1.below (below_drewn_o _), HY.out.2.2.2.below (below_drewn_o _)⟩⟩
          rw [← hZ] at hHeld ⊢
          clear hZ HY
          refine take_h 0 ?_ rfl (by kernel_rfl) (by kernel_rfl) (by kernel_rfl) (fun _ _ _ h => h) (Or.inl ⟨by kernel_rfl, ?_⟩) (by assumption) ?_
          rotate_left
          · (intro w hSw; (try dsimp only at hSw); go_simp; try (with_reducible rfl))
          try simp only [Act.put, List.setIfInBounds_toArray, List.set_cons_zero, List.set_cons_succ]
          refine take_h 1 _ rfl (by kernel_rfl) (by kernel_rfl) (by kernel_rfl) (fun _ _ _ h => h) (yieldsIf_load_mid (by kernel_rfl) 50 (.tmp 5) rfl w.heap.size 0 rfl BRW _ (fun w hSw => (rangeAt_row hSw)) uB rfl iW.out.1) (by assumption) ?_
          try simp only [Act.put, List.setIfInBounds_toArray, List.set_cons_zero, List.set_cons_succ]
          refine take_h 2 ?_ rfl (by kernel_rfl) (by kernel_rfl) (by kernel_rfl) (fun _ _ _ h => h) (Or.inl ⟨by kernel_rfl, ?_⟩) (by assumption) ?_
          rotate_left
          · (intro w hSw; (try dsimp only at hSw); go_simp; try (with_reducible rfl))
          try simp only [Act.put, List.setIfInBounds_toArray, List.set_cons_zero, List.set_cons_succ]
          refine skip_h 3 (Z.setRow w.heap.size BRW.toArray) rfl (by kernel_rfl) (by kernel_rfl) (exec_store_row 50 (.tmp 5) (.tmp 52) rfl w.heap.size BRW.toArray rfl rfl 50 _ HZ.out.1 (by simpa using iW.out.1) rfl iW.out.2.1) (setRow_heap _ _ _ _ _ _ HZ.out.1) (fun hHeld2 => ?_)
          try simp only [Act.put]
          refine take_h 4 ?_ rfl (by kernel_rfl) (by kernel_rfl) (by kernel_rfl) (fun _ _ _ h => h) (Or.inl ⟨by kernel_rfl, ?_⟩) (by assumption) ?_
          rotate_left
          · (intro w hSw; (try dsimp only at hSw); go_simp; try (with_reducible rfl))
          try simp only [Act.put, List.setIfInBounds_toArray, List.set_cons_zero, List.set_cons_succ]
          refine wpAnyH_done (by kernel_rfl) ?_ _
          clear hHeld hHeld2
          go_wp2
          refine bodyPost_ret (results_mid (fn := Tryz.f17) rfl _ _ w.heap.size 50 BRW.toArray (0, 0) _ _ _ rfl rfl rfl (setRow_heap _ _ _ _ _ _ HZ.out.1) Tryz.underlying50 rfl (by simpa using iW.out.1)) rfl ?_
          exact ⟨a1, c1, v, by rw [HR.out.1, HR.out.2.1, HR.out.2.2, iW.out.2.2]; rfl, ⟨by
            rw [HR.out.1, HR.out.2.1]
            exact ⟨HZ.out.2.2.1.other _ (fun g o e => by have := HK3.out.2 g o e; omega), a2, c2, HVv.out, HZ.out.2.2.2.other _ (fun g o e => by have := HGb.out g o e; omega)⟩⟩, below_row HZ.out.2.1 (Nat.le_refl _) _⟩
  · have hE : burnE l t = e0 := by unfold burnE; rw [← he0, if_pos hz]
    have HR : Seal (RL = [] ∧ RB = noBrn ∧ RE = e0) := ⟨by rw [hRL, hRB, hRE]; unfold burnL burnB; rw [hE, if_neg hz, if_neg hz]; exact ⟨rfl, rfl, rfl⟩⟩
    clear hRL hRB hRE he0 hE
    go_enter Tryz.func17, Tryz.ntmps17
    go_upto_region 1 with (fail)
    rw [← hX]
    clear hX
    go_wp2_with fail
    refine HC1.out.mono ?_
    rintro e w1 ⟨rfl, hb⟩
    have HX1 : Seal (Below w.heap.size w w1 ∧ w1.heap[w.heap.size]? = some (.cells Tryz.zeroCells50 50 (0, 0)) ∧ w.heap.size < w1.heap.size) := ⟨HX.out.1.trans (hb.mono HX.out.1.size), (hb.block _ HX.out.2.2).trans HX.out.2.1, Nat.lt_of_lt_of_le HX.out.2.2 hb.size⟩
    clear hb HC1 HX
    go_wp2_with (refine wpList_store_row rfl 50 (.tmp 5) (.tmp 14) rfl w.heap.size Tryz.zeroCells50 rfl rfl 50 _ HX1.out.2.1 iB.out.1 rfl iB.out.2 ?_)
    refine bodyPost_ret (results_mid (fn := Tryz.f17) rfl _ _ w.heap.size 50 Tryz.zeroCells50 (0, 0) _ _ _ rfl rfl rfl (setRow_heap _ _ _ _ _ _ HX1.out.2.1) Tryz.underlying50 rfl iB.out.1) rfl ?_
    exact ⟨none, 0, .slice none 0 0, by rw [HR.out.1, HR.out.2.1, HR.out.2.2, ← brz_no]; rfl, ⟨by rw [HR.out.1, HR.out.2.1]; exact ⟨isC_nilK _, gone_nil _⟩⟩, below_row HX1.out.1 (Nat.le_refl _) _⟩
end Frk
