/- Parts of the proof, joined. -/
import Derived.Test.YtnpnboldjbljaaaDoorVeRpv
import Derived.Test.YtnpnboldjbljaaaDoorVeSdv
import Derived.Test.YtnpnboldjbljaaaDoorVegDop
import Derived.Test.YtnpnboldjbljaaaDoorVeDtk
/- Law 44's reference: Take. -/
namespace Frk
open Go Go.RowKit Go.Proofs
set_option maxRecDepth 100000

set_option maxHeartbeats 4000000 in
theorem rtake44_any (a : Option Addr) (len cap : Nat) (l r : List Bytes) (b : Bool) (p : Po) (w : World) (hd : IsD w a len cap l) (ha : cap = 0 ∨ ∃ g off, a = some ⟨g, off, none⟩) (hT : p.S.length = 32) (hlen : len ≤ 1000000) (h : Seal (takeF l p.S = (r, b))) :
    Calls Tryd.prog 26 #[.slice a len cap, .agg p.C.toArray] w (TakePost r b w) := by
  obtain ⟨C, hC⟩ : ∃ C, C = p.C := ⟨_, rfl⟩
  obtain ⟨T, hTT⟩ : ∃ T, T = p.S := ⟨_, rfl⟩
  obtain ⟨X, hX⟩ : ∃ X : World, X = w.alloc (.cells C.toArray 31) := ⟨_, rfl⟩
  have hXb : Seal (Below w.heap.size w X) := ⟨by rw [hX]; exact below_alloc _ _⟩
  have hXn : Seal (X.heap[w.heap.size]? = some (.cells C.toArray 31 (0, 0))) := ⟨by rw [hX]; exact heap_alloc_new w _⟩
  have hXd : Seal (X.rangeAt w.heap.size 1 (T.map B)) := ⟨by
    have := rangeAt_drop (rangeAt_row hXn.out) 1
    rw [hC] at this
    rw [hTT]
    simpa [Po.C] using this⟩
  rw [← hTT] at hT h
  have HT := Seal.mk hT
  have HD := Seal.mk hd
  have HA := Seal.mk ha
  have HLE : Seal (l.length = len) := ⟨hd.llen⟩
  have HU : Seal (∀ W, Below w.heap.size w W → Calls Tryd.prog 30 #[.slice a len cap] W fun e w' => e = .returned (.bool (usedB l)) ∧ Below W.heap.size W w') := ⟨fun W h => rused_any a len cap l W (hd.of_heap h)⟩
  have HH : Seal (∀ W, Below w.heap.size w W → Calls Tryd.prog 61 #[.slice a len cap, .agg (T.map B).toArray] W fun e w' => e = .returned (.bool (hasB l T)) ∧ Below W.heap.size W w') := ⟨fun W h => rhas_any a len cap l T W (hd.of_heap h) hT⟩
  obtain ⟨u, hu⟩ : ∃ u, u = usedB l := ⟨_, rfl⟩
  obtain ⟨hs, hhs⟩ : ∃ u, u = hasB l T := ⟨_, rfl⟩
  have hh := h.out
  unfold takeF at hh
  rw [← hu, ← hhs] at hh
  rw [HLE.out] at hh
  have HF := Seal.mk hh
  rw [← hu] at HU
  rw [← hhs] at HH
  rw [← hC]
  have i1 := dg_info T hT
  clear hT hd hC ha hTT h hu hhs hh
  go_enter Tryd.func26, Tryd.ntmps26
  go_upto_region 1 with (fail)
  rw [← hX]
  clear hX
  go_wp2_with fail
  refine (HU.out X hXb.out).mono ?_
  rintro e w2 ⟨rfl, hb⟩
  have HB2 : Seal (Below w.heap.size w w2) := ⟨hXb.out.trans (hb.mono hXb.out.size)⟩
  have HR2 : Seal (w2.rangeAt w.heap.size 1 (T.map B)) := ⟨rangeAt_below' hXd.out hb⟩
  clear hb HU
  cases u with
  | false =>
    have HE : Seal ([] = r ∧ false = b) := ⟨by have := HF.out; rw [if_neg (by decide)] at this; exact Prod.mk.inj this⟩
    obtain ⟨rfl, rfl⟩ := HE.out
    clear HF HE
    go_wp2
    go_ret2
    exact ⟨none, 0, 0, rfl, ⟨disD_nil _⟩, HB2.out⟩
  | true =>
    have HF2 : Seal ((if hs = true then (l, false) else if 4096 ≤ len then (l, false) else (putB l T, true)) = (r, b)) := ⟨by have := HF.out; rwa [if_pos rfl] at this⟩
    clear HF
    go_wp2_with (refine wpList_load_mid rfl 29 (.tmp 10) rfl w.heap.size 1 rfl (T.map B) _ HR2.out Tryd.underlying29 rfl i1 ?_)
    refine (HH.out w2 HB2.out).mono ?_
    rintro e w3 ⟨rfl, hb⟩
    have HB3 : Seal (Below w.heap.size w w3) := ⟨HB2.out.trans (hb.mono HB2.out.size)⟩
    have HR3 : Seal (w3.rangeAt w.heap.size 1 (T.map B)) := ⟨rangeAt_below' HR2.out hb⟩
    clear hb HH HR2
    cases hs with
    | true =>
      have HE : Seal (l = r ∧ false = b) := ⟨by have := HF2.out; rw [if_pos rfl] at this; exact Prod.mk.inj this⟩
      obtain ⟨rfl, rfl⟩ := HE.out
      clear HF2 HE
      go_wp2
      go_ret2
      exact ⟨a, len, cap, rfl, ⟨HD.out.of_heap HB3.out⟩, HB3.out⟩
    | false =>
      have HF3 : Seal ((if 4096 ≤ len then (l, false) else (putB l T, true)) = (r, b)) := ⟨by have := HF2.out; rwa [if_neg (by decide)] at this⟩
      clear HF2
      by_cases hx : 4096 ≤ len
      · have hx' : (4096 : Int) ≤ (len : Int) := by omega
        have HE : Seal (l = r ∧ false = b) := ⟨by have := HF3.out; rw [if_pos hx] at this; exact Prod.mk.inj this⟩
        obtain ⟨rfl, rfl⟩ := HE.out
        clear HF3 HE
        go_wp2
        go_ret2
        exact ⟨a, len, cap, rfl, ⟨HD.out.of_heap HB3.out⟩, HB3.out⟩
      · have hx' : ¬ (4096 : Int) ≤ (len : Int) := by omega
        have HE : Seal (putB l T = r ∧ true = b) := ⟨by have := HF3.out; rw [if_neg hx] at this; exact Prod.mk.inj this⟩
        obtain ⟨hr, rfl⟩ := HE.out
        have HRr := Seal.mk hr
        have hx2 : len < 4096 := by omega
        clear HF3 HE hr
        go_wp2_with (refine wpList_load_mid rfl 29 (.tmp 20) rfl w.heap.size 1 rfl (T.map B) _ HR3.out Tryd.underlying29 rfl i1 ?_)
        refine (rput_any a len cap l T w3 (HD.out.of_heap HB3.out) HA.out HT.out hx2).mono ?_
        rintro e w4 ⟨g, n, c, rfl, hI, hb⟩
        have HB4 : Seal (Below w.heap.size w w4) := ⟨HB3.out.trans (hb.mono HB3.out.size)⟩
        clear hb
        go_wp2
        go_ret2
        exact ⟨_, n, c, rfl, ⟨by rw [← HRr.out]; exact hI.out⟩, HB4.out⟩
end Frk

/- Law 44: DevicesTakeSpec's walk. -/
namespace Frk
open Go Go.RowKit Go.Proofs
set_option maxRecDepth 100000

set_option maxHeartbeats 4000000 in
theorem law_devicesTakeSpec (a : Option Addr) (n c : Nat) (l : List Bytes) (x : Po) (w : World) (hG : Glob w) (hm : (n : Int) ≤ 9223372036854775807) (hd : n ≤ 1099511627776 → IsD w a n c l) (ha : c = 0 ∨ ∃ g off, a = some ⟨g, off, none⟩) (kx : x.ok) :
    Calls Tryd.prog 5 #[.slice a n c, .agg x.C.toArray] w fun e w' => e = .returned (.bool true) ∧ Below w.heap.size w w' := by
  obtain ⟨C, hC⟩ : ∃ C, C = x.C := ⟨_, rfl⟩
  obtain ⟨X, hX⟩ : ∃ X : World, X = w.alloc (.cells C.toArray 31) := ⟨_, rfl⟩
  have HB : Seal (Below w.heap.size w X) := ⟨by rw [hX]; exact below_alloc _ _⟩
  have HP : Seal (Kp X (PosC w.heap.size C)) := ⟨by rw [hX]; exact kp_pos (heap_alloc_new w _)⟩
  have IC : Seal ((Tryd.prog.info? 31).map (·.size) = some C.length) := ⟨by rw [hC]; exact Po.C_info kx.s32⟩
  obtain ⟨r, b, hrb⟩ : ∃ r b, takeF l x.S = (r, b) := ⟨_, _, rfl⟩
  have HRB := Seal.mk hrb
  have HD : Seal (n ≤ 1099511627776 → Kp w (fun W => IsD W a n c l)) := ⟨fun h => kp_isD (hd h)⟩
  have HA := Seal.mk ha
  have HS : Seal (Calls Tryd.prog 9 #[] X fun e w' => e = .returned (.bool true) ∧ Below X.heap.size X w') := ⟨sane44_any X (hG.below HB.out)⟩
  have K32 : Seal (x.S.length = 32) := ⟨kx.s32⟩
  have HC := Seal.mk hC
  have ut := Tryd.underlying31
  rw [← hC]
  clear hC hd ha hrb hG kx
  go_enter Tryd.func5, Tryd.ntmps5
  go_upto_region 1 with (fail)
  rw [← hX]
  clear hX
  go_wp2_with fail
  refine HS.out.mono ?_
  rintro e w1 ⟨rfl, hb⟩
  have HB1 := Seal.mk (HB.out.trans (hb.mono HB.out.size))
  have HP := Seal.mk (HP.out.step hb)
  clear hb HB HS
  obtain ⟨gx, hgx⟩ : ∃ g, g = w.heap.size := ⟨_, rfl⟩
  rw [← hgx] at HP ⊢
  clear hgx
  by_cases h1 : 40 < n ∧ n < 4090
  · have q1 : (40 : Int) < (n : Int) := by omega
    have q2 : (n : Int) < 4090 := by omega
    clear h1
    have HF := Seal.mk HB1.out
    go_wp2
    go_ret
    exact ⟨rfl, HF.out⟩
  by_cases h2 : 4200 < n
  · have q1 : (4200 : Int) < (n : Int) := by omega
    have q3 : (40 : Int) < (n : Int) := by omega
    have q4 : ¬ (n : Int) < 4090 := by omega
    clear h1
    have HF := Seal.mk HB1.out
    go_wp2
    go_ret
    exact ⟨rfl, HF.out⟩
  have HD1 : Seal (Kp w1 (fun W => IsD W a n c l)) := ⟨(HD.out (by omega)).step HB1.out⟩
  have hn : n ≤ 1000000 := by omega
  have q2 : ¬ (4200 : Int) < (n : Int) := by omega
  have HT : Seal (Calls Tryd.prog 25 #[.slice a n c, .agg C.toArray] w1 (TakePost r b w1)) := ⟨by rw [HC.out]; exact dtake_any a n c l r b x w1 HD1.out.at K32.out HRB⟩
  have HU : Seal (∀ W, Below w1.heap.size w1 W → Calls Tryd.prog 26 #[.slice a n c, .agg C.toArray] W (TakePost r b W)) := ⟨fun W h => by rw [HC.out]; exact rtake44_any a n c l r b x W (HD1.out W h) HA.out K32.out hn HRB⟩
  by_cases h3 : n ≤ 40
  · have q1 : ¬ (40 : Int) < (n : Int) := by omega
    clear h1
    go_wp2_with (refine wpList_load_mid rfl 31 (.tmp 3) rfl gx 0 rfl C _ HP.out.at ut rfl IC.out ?_)
    refine HT.out.mono ?_
    rintro e w2 ⟨a2, n2, c2, rfl, hd, hb⟩
    have HB2 := Seal.mk (HB1.out.trans (hb.mono HB1.out.size))
    have HP := Seal.mk (HP.out.step hb)
    have HU2 := Seal.mk (HU.out w2 hb)
    have H2 := Seal.mk (kp_isD hd.out)
    clear hb hd HT HU HB1
    go_wp2_with (refine wpList_load_mid rfl 31 (.tmp 3) rfl gx 0 rfl C _ HP.out.at ut rfl IC.out ?_)
    refine HU2.out.mono ?_
    rintro e w3 ⟨a3, n3, c3, rfl, hd, hb⟩
    have HB3 := Seal.mk (HB2.out.trans (hb.mono HB2.out.size))
    have H2 := Seal.mk (H2.out.step hb)
    have H3 := Seal.mk (kp_isD hd.out)
    clear hb hd HU2 HB2
    go_wp2_with fail
    have HX := rsame_any a2 a3 n2 c2 n3 c3 r r w3 H2.out.at H3.out.at
    rw [beq_self_eq_true] at HX
    refine HX.mono ?_
    clear HX
    rintro e w4 ⟨rfl, hb⟩
    have HB4 := Seal.mk (HB3.out.trans (hb.mono HB3.out.size))
    clear hb
    have qb : (b == b) = true := beq_self_eq_true b
    go_wp2
    go_ret
    exact ⟨rfl, HB4.out⟩
  · have q1 : (40 : Int) < (n : Int) := by omega
    have q4 : ¬ (n : Int) < 4090 := by omega
    clear h1 h3
    go_wp2_with (refine wpList_load_mid rfl 31 (.tmp 3) rfl gx 0 rfl C _ HP.out.at ut rfl IC.out ?_)
    refine HT.out.mono ?_
    rintro e w2 ⟨a2, n2, c2, rfl, hd, hb⟩
    have HB2 := Seal.mk (HB1.out.trans (hb.mono HB1.out.size))
    have HP := Seal.mk (HP.out.step hb)
    have HU2 := Seal.mk (HU.out w2 hb)
    have H2 := Seal.mk (kp_isD hd.out)
    clear hb hd HT HU HB1
    go_wp2_with (refine wpList_load_mid rfl 31 (.tmp 3) rfl gx 0 rfl C _ HP.out.at ut rfl IC.out ?_)
    refine HU2.out.mono ?_
    rintro e w3 ⟨a3, n3, c3, rfl, hd, hb⟩
    have HB3 := Seal.mk (HB2.out.trans (hb.mono HB2.out.size))
    have H2 := Seal.mk (H2.out.step hb)
    have H3 := Seal.mk (kp_isD hd.out)
    clear hb hd HU2 HB2
    go_wp2_with fail
    have HX := rsame_any a2 a3 n2 c2 n3 c3 r r w3 H2.out.at H3.out.at
    rw [beq_self_eq_true] at HX
    refine HX.mono ?_
    clear HX
    rintro e w4 ⟨rfl, hb⟩
    have HB4 := Seal.mk (HB3.out.trans (hb.mono HB3.out.size))
    clear hb
    have qb : (b == b) = true := beq_self_eq_true b
    go_wp2
    go_ret
    exact ⟨rfl, HB4.out⟩
end Frk

/- Slices of digests as arguments. -/
namespace Frk
open Go Go.RowKit Go.Proofs Go.ChangeShapes Go.WideShapes Go.ChangeAt
set_option maxRecDepth 100000

theorem dcells_snoc (l : List Bytes) (T : Bytes) : dcells (l ++ [T]) = dcells l ++ T.map B := by
  unfold dcells; simp

/-- a slice of digests that came in -/

theorem digests_open {H : Type} {enc : TypeId × Value → H} {W : World} {base : Nat} {v : Value} {d : DataW H} {p : List MemPlace} (hval : Value.okWide Tryd.prog W .any base 46 v) (h1 : DataW.Trod enc Tryd.prog W 0 (fun _ => true) true 46 v d p) :
    ∃ a len cap l, v = .slice a len cap ∧ (len : Int) ≤ 9223372036854775807 ∧ (len ≤ 1099511627776 → IsD W a len cap l) ∧ (cap = 0 ∨ ∃ g off, a = some ⟨g, off, none⟩) := by
  obtain ⟨a1, len, cap, rfl⟩ := okWide_slice Tryd.underlying46 hval
  obtain ⟨fuel, hf⟩ := h1
  have c1 : Tryd.prog.cellsOf 29 = 32 := by kernel_rfl
  rcases DataW.trod_slice Tryd.underlying46 hf with ⟨hcs, hx⟩ | ⟨a, len', cap', elems, rest, n, hn, hcs, hx, hb, hl, hm, hel, hat, hsp, _⟩
  · simp [Value.cells] at hcs
    obtain ⟨rfl, rfl, rfl⟩ := hcs
    exact ⟨none, 0, 0, [], rfl, by decide, fun _ => disD_nil W, .inl rfl⟩
  · simp [Value.cells] at hcs
    obtain ⟨rfl, rfl, rfl⟩ := hcs
    rw [c1] at hat hsp
    obtain ⟨hrl, hrest⟩ := hsp rfl
    unfold maxLen at hm
    have hall : ∀ i, i < cap → ∃ T : Bytes, T.length = 32 ∧ W.cells? 0 (a.add (i * 32)) 32 = some (T.map B) := fun i hi => by
      have key : ∃ e, (W.cells? 0 (a.add (i * 32)) 32).bind (DataW.trod enc Tryd.prog W 0 (fun _ => true) true n 29) = some e := by
        by_cases h : i < len
        · exact ⟨_, (hat i h).trans (List.getElem?_eq_getElem (by omega))⟩
        · have := hrest (i - len) (by omega)
          rw [show len + (i - len) = i from by omega] at this
          exact ⟨_, this.trans (List.getElem?_eq_getElem (by omega))⟩
      obtain ⟨e, he⟩ := key
      obtain ⟨cs, h1, h2⟩ := Option.bind_eq_some_iff.1 he
      obtain ⟨T, hT, rfl⟩ := cells_digest h2
      exact ⟨T, hT, h1⟩
    have hrow : ∀ m, m ≤ len → ∃ l : List Bytes, l.length = m ∧ (∀ d ∈ l, d.length = 32) ∧ ∀ j u, (dcells l)[j]? = some u → W.cell? (a.add j) = some u := by
      intro m
      induction m with
      | zero => exact fun _ => ⟨[], rfl, by simp, fun j u h => by simp [dcells] at h⟩
      | succ m ih =>
        intro hm'
        obtain ⟨l, h1, h2, h3⟩ := ih (by omega)
        obtain ⟨T, hT, hc⟩ := hall m (by omega)
        refine ⟨l ++ [T], by simp [h1], ?_, fun j u hj => ?_⟩
        · intro d hd
          rcases List.mem_append.1 hd with h | h
          · exact h2 d h
          · rw [List.mem_singleton.1 h]; exact hT
        · rw [dcells_snoc] at hj
          have hdl := dcells_length l h2
          by_cases hjl : j < m * 32
          · rw [List.getElem?_append_left (by omega)] at hj
            exact h3 j u hj
          · rw [List.getElem?_append_right (by omega), hdl, h1] at hj
            have hj32 : j - m * 32 < 32 := by have := (List.getElem?_eq_some_iff.1 hj).1; rwa [List.length_map, hT] at this
            have := (World.cells?_some hc).2.2 (j - m * 32) hj32
            rw [hj] at this
            rw [Addr.add_add, show m * 32 + (j - m * 32) = j from by omega] at this
            exact this
    obtain ⟨l, hl1, hl2, hl3⟩ := hrow len (Nat.le_refl _)
    have hspot : 0 < cap → a = ⟨a.block, a.off, none⟩ := fun h => by
      obtain ⟨T, hT, hc⟩ := hall 0 h
      have h0 := (World.cells?_some hc).2.2 0 (by decide)
      rw [List.getElem?_eq_getElem (show 0 < (T.map B).length by rw [List.length_map, hT]; decide)] at h0
      obtain ⟨ab, ao, spot⟩ := a
      have hspot : spot = none := by simpa [Addr.add] using World.cell?_spot h0
      rw [hspot]
    refine ⟨some a, len, cap, l, rfl, by omega, fun h40 => ⟨hl1, hl, h40, by omega, hl2, ?_⟩, ?_⟩
    · rcases Nat.eq_zero_or_pos len with h0 | h0
      · exact .inl h0
      · right
        have ea := hspot (by omega)
        obtain ⟨T, hT, hc⟩ := hall 0 (by omega)
        refine ⟨a.block, a.off, by rw [← ea], fun j u hu => ?_, ?_⟩
        · have := hl3 j u hu
          rw [ea, Addr.add_mid] at this
          exact this
        · have h0 := (World.cells?_some hc).2.2 0 (by decide)
          rw [List.getElem?_eq_getElem (show 0 < (T.map B).length by rw [List.length_map, hT]; decide), ea, Addr.add_add, Addr.add_mid] at h0
          have := block_lt_of_cell h0
          exact this
    · rcases Nat.eq_zero_or_pos cap with h0 | h0
      · exact .inl h0
      · exact .inr ⟨a.block, a.off, by rw [← hspot h0]⟩
end Frk

