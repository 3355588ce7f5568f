/- The statement ReceiptsBack of frankinglaw43 holds: for every input the law returns true, and each argument reads afterwards as it read before. Conditions: those of the row (the listed variables start as the program's text lays them; the card ties them). -/
import Derived.Test.YtgdhjapnploaoaaDoorBkp
import Derived.Test.YtgdhjapnploaoaaDoorHol
namespace Frk
open Go Go.RowKit Go.Proofs
set_option maxRecDepth 100000

theorem eqCi_at (d : Nat) (a b c e : Int) (w : World) : (Op.equalIn (d + 1 + 1) 25 (.agg #[.int .i64 a, .int .i64 b]) (.agg #[.int .i64 c, .int .i64 e])).run Tryd.prog w = .ok (a == c && b == e) w := by
  have u3 := Tryd.underlying3
  have a3 := Tryd.isAgg3
  have z3 := Tryd.sizeOf3
  have hS : Tryd.prog.underlying 25 = some (.struct (Tryd.prog.fieldsOf 25)) := by kernel_rfl
  have hp : Tryd.prog.stoodInHeld 25 = false := by kernel_rfl
  rw [run_equalIn_agg w (d + 1) 25 _ _ hS hp]
  simp only [Program.fieldsOf, Tryd.underlying25]
  go_simp
  by_cases h1 : a = c <;> by_cases h2 : b = e <;> simp [h1, h2]

theorem eqItems_step {P : Program} (d : Nat) (e : TypeId) (c : Nat) (xs ys : Array Value) (i : Nat) (is : List Nat) (w : World) (a b : Value) (ha : (part e xs (i * c)).run P w = .ok a w) (hb : (part e ys (i * c)).run P w = .ok b w) (hr : (Op.equalIn d e a b).run P w = .ok true w) :
    (Op.eqItems d e c xs ys (i :: is)).run P w = (Op.eqItems d e c xs ys is).run P w := by
  rw [Op.eqItems]
  simp only [Sem.run_bind, ha, hb, hr, Result.andThen_ok]
  rfl

theorem eqSe (x0 x1 x2 x3 x4 x5 : Int) (w : World) : (Op.equalIn 10000 32 (.agg #[.int .i64 x0, .int .i64 x1, .int .i64 x2, .int .i64 x3, .int .i64 x4, .int .i64 x5]) (.agg #[.int .i64 x0, .int .i64 x1, .int .i64 x2, .int .i64 x3, .int .i64 x4, .int .i64 x5])).run Tryd.prog w = .ok true w := by
  have aC := Tryd.isAgg25
  have zC := Tryd.sizeOf25
  have c2 : Tryd.prog.cellsOf 25 = 2 := by kernel_rfl
  obtain ⟨i0, hi⟩ : ∃ i, Tryd.prog.info? 25 = some i := by
    cases h : Tryd.prog.info? 25 with
    | none => have : (Tryd.prog.info? 25).isSome = true := by kernel_rfl
              rw [h] at this; cases this
    | some i => exact ⟨i, rfl⟩
  have e : ∀ a b : Int, (Op.equalIn 9999 25 (.agg #[.int .i64 a, .int .i64 b]) (.agg #[.int .i64 a, .int .i64 b])).run Tryd.prog w = .ok true w := fun a b => by
    rw [show (9999 : Nat) = 9997 + 1 + 1 from rfl, eqCi_at 9997 a b a b w]; simp
  have p0 : (part 25 #[.int .i64 x0, .int .i64 x1, .int .i64 x2, .int .i64 x3, .int .i64 x4, .int .i64 x5] (0 * 2)).run Tryd.prog w = .ok (.agg #[.int .i64 x0, .int .i64 x1]) w := by simp [part, aC, zC]
  have p1 : (part 25 #[.int .i64 x0, .int .i64 x1, .int .i64 x2, .int .i64 x3, .int .i64 x4, .int .i64 x5] (1 * 2)).run Tryd.prog w = .ok (.agg #[.int .i64 x2, .int .i64 x3]) w := by simp [part, aC, zC]
  have p2 : (part 25 #[.int .i64 x0, .int .i64 x1, .int .i64 x2, .int .i64 x3, .int .i64 x4, .int .i64 x5] (2 * 2)).run Tryd.prog w = .ok (.agg #[.int .i64 x4, .int .i64 x5]) w := by simp [part, aC, zC]
  rw [show (10000 : Nat) = 9999 + 1 from rfl, run_equalIn_array w 9999 _ _ Tryd.underlying32 hi, show List.range 3 = [0, 1, 2] from rfl, c2,
    eqItems_step _ _ _ _ _ _ _ _ _ _ p0 p0 (e _ _), eqItems_step _ _ _ _ _ _ _ _ _ _ p1 p1 (e _ _), eqItems_step _ _ _ _ _ _ _ _ _ _ p2 p2 (e _ _)]
  rw [Op.eqItems]
  rfl


set_option maxHeartbeats 4000000 in
theorem back_many (x a b c al n r0 r1 r2 : Int) (sa : Option Addr) (sn sc : Nat) (w : World) (hG : Glob w) (h4 : ¬ sn ≤ 4) :
    Calls Tryd.prog 7 #[.int .i64 x, .agg #[.int .i64 a, .int .i64 b, .int .i64 c], .slice sa sn sc, .int .i64 al, .int .i64 n, .agg #[.int .i64 r0, .int .i64 r1, .int .i64 r2]] w fun e w' => e = .returned (.bool true) ∧ Below w.heap.size w w' := by
  have q1 : (4 : Int) < (sn : Int) := by omega
  clear h4
  have HE1 : Seal (Env ((w.alloc (.cells #[.int .i64 a, .int .i64 b, .int .i64 c] 23)).alloc (.cells #[.int .i64 r0, .int .i64 r1, .int .i64 r2] 22)) none 0 0 [] [(w.heap.size + 1, .cells #[.int .i64 r0, .int .i64 r1, .int .i64 r2] 22), (w.heap.size, .cells #[.int .i64 a, .int .i64 b, .int .i64 c] 23)]) := ⟨by
    have h1 := Env.push (bs := []) ⟨hG, isB_nil w, by intro p hp; cases hp⟩ (.cells #[.int .i64 a, .int .i64 b, .int .i64 c] 23)
    have h2 := h1.push (.cells #[.int .i64 r0, .int .i64 r1, .int .i64 r2] 22)
    rw [size_alloc] at h2
    exact h2⟩
  have HB1 : Seal (Below w.heap.size w ((w.alloc (.cells #[.int .i64 a, .int .i64 b, .int .i64 c] 23)).alloc (.cells #[.int .i64 r0, .int .i64 r1, .int .i64 r2] 22))) := ⟨((Below.refl _ w).alloc (Nat.le_refl _) _).alloc (by simp) _⟩
  clear hG
  go_enter Tryd.func7, Tryd.ntmps7
  go_wp2_with fail
  refine (rcsane_any _ HE1.out.glob).mono ?_
  rintro e w2 ⟨rfl, hbb⟩
  have HE2 := Seal.mk (HE1.out.below hbb)
  have HB2 := Seal.mk (HB1.out.trans (hbb.mono HB1.out.size))
  clear hbb HE1 HB1
  go_wp2_with fail
  go_ret
  exact ⟨rfl, HB2.out⟩

theorem zrow_info : (Tryd.prog.info? 32).map (·.size) = some 6 := by kernel_rfl

set_option maxHeartbeats 32000000 in
theorem back_walk (x a b c al n r0 r1 r2 px y z e0 f0 s0 s1 s2 s3 s4 s5 : Int) (sa : Option Addr) (sn sc : Nat) (l : List Int) (L : Fin 3 → Int × Int) (Xl : List Value) (w : World) (hG : Glob w) (hS : IsN w sa sn sc l) (h4 : sn ≤ 4)
    (IX : Seal ((Tryd.prog.info? 29).map (·.size) = some Xl.length)) (LX : Seal ((.int .i64 0 :: .int .i64 0 :: .int .i64 0 :: .int .i64 0 :: .int .u8 0 :: .int .u8 0 :: .int .u8 0 :: .int .u8 0 :: .int .u8 0 :: .int .u8 0 :: .int .u8 0 :: .int .u8 0 :: .int .u8 0 :: .int .u8 0 :: .int .u8 0 :: .int .u8 0 :: .int .u8 0 :: .int .u8 0 :: .int .u8 0 :: .int .u8 0 :: .int .u8 0 :: .int .u8 0 :: .int .u8 0 :: .int .u8 0 :: .int .u8 0 :: .int .u8 0 :: .int .u8 0 :: .int .u8 0 :: .int .u8 0 :: .int .u8 0 :: .int .u8 0 :: .int .u8 0 :: .int .u8 0 :: .int .u8 0 :: .int .u8 0 :: .int .u8 0 :: [] : List Value).length = Xl.length)) (OX : Seal (∀ u ∈ Xl, u.oneCell' = true))
    (HM1 : Seal (∀ W, Glob W → Calls Tryd.prog 16 #[.int .i64 1, .int .i64 (jnF 1 l : Nat), .int .i64 al, .int .i64 n] W fun e w' => e = .returned (.tuple #[.agg Xl.toArray, .int .i64 e0]) ∧ Below W.heap.size W w'))
    (HM2 : Seal (∀ W, Glob W → Calls Tryd.prog 10 #[.int .i64 x, .agg #[.int .i64 a, .int .i64 b, .int .i64 c], .agg Xl.toArray, .agg #[.int .i64 r0, .int .i64 r1, .int .i64 r2]] W fun e w' => e = .returned (.tuple #[.agg #[.int .i64 s0, .int .i64 s1, .int .i64 s2, .int .i64 s3, .int .i64 s4, .int .i64 s5], .int .i64 f0]) ∧ Below W.heap.size W w'))
    (hcase : Seal ((f0 = 0 ∧ e0 = 0 ∧ okL L ∧ rowL L = [.int .i64 s0, .int .i64 s1, .int .i64 s2, .int .i64 s3, .int .i64 s4, .int .i64 s5] ∧
        (∀ W, Calls Tryd.prog 22 #[.agg (rowL (fun j => offs l (L j))).toArray] W fun e w' => e = .returned (.tuple #[.agg #[.int .i64 al, .int .i64 y, .int .i64 z], .int .i64 0]) ∧ Below W.heap.size W w') ∧
        (∀ W, Calls Tryd.prog 19 #[.int .i64 x] W fun e w' => e = .returned (.tuple #[.int .i64 px, .int .i64 0]) ∧ Below W.heap.size W w') ∧
        (∀ W, Glob W → Calls Tryd.prog 12 #[.int .i64 px, .agg #[.int .i64 a, .int .i64 b, .int .i64 c], .agg #[.int .i64 al, .int .i64 y, .int .i64 z]] W fun e w' => e = .returned (.bool true) ∧ Below W.heap.size W w')) ∨
      (¬ f0 = 0 ∧ s0 = 0 ∧ s1 = 0 ∧ s2 = 0 ∧ s3 = 0 ∧ s4 = 0 ∧ s5 = 0 ∧ (f0 = 110 ∨ f0 = 430 ∨ f0 = 160 ∧ e0 = 160)))) :
    Calls Tryd.prog 7 #[.int .i64 x, .agg #[.int .i64 a, .int .i64 b, .int .i64 c], .slice sa sn sc, .int .i64 al, .int .i64 n, .agg #[.int .i64 r0, .int .i64 r1, .int .i64 r2]] w fun e w' => e = .returned (.bool true) ∧ Below w.heap.size w w' := by
  have IW := Seal.mk (show (Tryd.prog.info? 23).map (·.size) = some 3 by kernel_rfl)
  have I3 := Seal.mk (show (Tryd.prog.info? 22).map (·.size) = some 3 by kernel_rfl)
  have IXa : Seal ((Tryd.prog.info? 29).map (·.size) = some Xl.toArray.size) := ⟨by rw [List.size_toArray]; exact IX.out⟩
  have HS := Seal.mk hS
  have hll := hS.llen
  clear hS
  have q1 : ¬ (4 : Int) < (sn : Int) := by omega
  have HG0 := Seal.mk hG
  have HE1 : Seal (Env ((w.alloc (.cells #[.int .i64 a, .int .i64 b, .int .i64 c] 23)).alloc (.cells #[.int .i64 r0, .int .i64 r1, .int .i64 r2] 22)) none 0 0 [] [(w.heap.size + 1, .cells #[.int .i64 r0, .int .i64 r1, .int .i64 r2] 22), (w.heap.size, .cells #[.int .i64 a, .int .i64 b, .int .i64 c] 23)]) := ⟨by
    have h1 := Env.push (bs := []) ⟨hG, isB_nil w, by intro p hp; cases hp⟩ (.cells #[.int .i64 a, .int .i64 b, .int .i64 c] 23)
    have h2 := h1.push (.cells #[.int .i64 r0, .int .i64 r1, .int .i64 r2] 22)
    rw [size_alloc] at h2
    exact h2⟩
  have HB1 : Seal (Below w.heap.size w ((w.alloc (.cells #[.int .i64 a, .int .i64 b, .int .i64 c] 23)).alloc (.cells #[.int .i64 r0, .int .i64 r1, .int .i64 r2] 22))) := ⟨((Below.refl _ w).alloc (Nat.le_refl _) _).alloc (by simp) _⟩
  clear hG
  go_enter Tryd.func7, Tryd.ntmps7
  go_wp2_with fail
  refine (rcsane_any _ HE1.out.glob).mono ?_
  rintro e w2 ⟨rfl, hbb⟩
  have HE2 := Seal.mk (HE1.out.below hbb)
  have HB2 := Seal.mk (HB1.out.trans (hbb.mono HB1.out.size))
  clear hbb HE1 HB1
  obtain ⟨i0, hi, hz0, hz1, hz2⟩ := info_parts (show (Tryd.prog.info? 3).map (fun i => (i.zero, i.size, i.bytes)) = some (some (.int .i64 0), 1, 8) by kernel_rfl)
  have HI := Seal.mk (And.intro hi (And.intro hz0 (And.intro hz1 hz2)))
  clear hi hz0 hz1 hz2
  go_wp2_with fail
  go_loopw [13, 14] (fun u i wr => ∃ (k : Nat) (v : Value), k ≤ sn ∧ v = u ∧ i = .int .i64 k ∧ Seal (wr.ownsRow w2.heap.size 3 1 v k ((keysOf (l.take k)).map (Value.int .i64)) ∧ Below w2.heap.size w2 wr ∧ ∀ s ∈ l.take k, 1 ≤ s ∧ s < 1073741789)) (fun _ i _ => sn - (intOf i).toNat)
  case atStart => exact ⟨0, _, by omega, rfl, rfl, ⟨World.ownsRow_nil _ _ _ _, Below.refl _ _, by simp⟩⟩
  case round =>
    obtain ⟨wo, rfl⟩ : ∃ z, z = wr := ⟨_, rfl⟩
    obtain ⟨k, v, hk, rfl, rfl, hH⟩ := hrel
    have HBo : Seal (Below w.heap.size w wo) := ⟨HB2.out.trans (hH.out.2.1.mono HB2.out.size)⟩
    by_cases hlt : k < sn
    · rcases (HS.out.of_heap HBo.out).at_ with h0 | ⟨gs, off, rfl, hr, hg⟩
      · omega
      · have q5 : (k : Int) < (sn : Int) := by omega
        have q6 : (0 : Int) ≤ (k : Int) := by omega
        have c1 := cell_n hr (k := k) (by omega)
        have c2 : l.getD k 0 ∈ l := by rw [List.getD_eq_getElem?_getD, List.getElem?_eq_getElem (by omega)]; exact List.getElem_mem _
        have ci := HS.out.each _ c2
        have T1 : Seal (l.take (k + 1) = l.take k ++ [l.getD k 0]) := ⟨by rw [List.take_add_one, List.getElem?_eq_getElem (by omega)]; simp [List.getD_eq_getElem?_getD, List.getElem?_eq_getElem (show k < l.length by omega)]⟩
        obtain ⟨s, hs⟩ : ∃ s, s = l.getD k 0 := ⟨_, rfl⟩
        rw [← hs] at c1 ci T1
        clear hs c2 hr hg
        obtain ⟨d, e1, hp⟩ : ∃ d e, pubF s = (d, e) := ⟨_, _, rfl⟩
        have HP := Seal.mk (public_at s d e1 wo ⟨hp⟩ ci.1 ci.2)
        clear ci
        by_cases hsec : secB s = true
        · have hp' := hp
          unfold pubF at hp'
          rw [if_pos hsec] at hp'
          simp only [Prod.mk.injEq] at hp'
          obtain ⟨rfl, rfl⟩ := hp'
          have hs1 : 1 ≤ s ∧ s < 1073741789 := by unfold secB at hsec; simp at hsec; omega
          have HS1 := Seal.mk hs1
          clear hp hsec hs1
          obtain ⟨d, hd⟩ : ∃ d : Nat, d = pw 4 s := ⟨_, rfl⟩
          rw [← hd] at HP
          go_wp2_with fail
          refine HP.out.mono ?_
          rintro e w3 ⟨rfl, hb⟩
          have HB3 : Seal (Below w2.heap.size w2 w3) := ⟨hH.out.2.1.trans (hb.mono hH.out.2.1.size)⟩
          have HO3 : Seal (w3.ownsRow w2.heap.size 3 1 v k ((keysOf (l.take k)).map (Value.int .i64))) := ⟨ownsRow_below hH.out.1 hb⟩
          have HA : Seal (∀ j u, [Value.int .i64 (d : Int)][j]? = some u → (w3.alloc (.cells #[.int .i64 (d : Int)] 3)).cell? ((⟨w3.heap.size, 0, none⟩ : Addr).add j) = some u) := ⟨fun j u hu => by
            rw [Addr.add_lit, cell_of_row _ _ _ _ _ _ (heap_alloc_new w3 _)]
            simpa using hu⟩
          have HO4 : Seal ((w3.alloc (.cells #[.int .i64 (d : Int)] 3)).ownsRow w2.heap.size 3 1 v k ((keysOf (l.take k)).map (Value.int .i64))) := ⟨World.ownsRow.alloc HO3.out _⟩
          have HB4 : Seal (Below w2.heap.size w2 (w3.alloc (.cells #[.int .i64 (d : Int)] 3))) := ⟨HB3.out.alloc HB3.out.size _⟩
          have HKn : Seal ((keysOf (l.take (k + 1))).map (Value.int .i64) = (keysOf (l.take k)).map (Value.int .i64) ++ [Value.int .i64 (d : Int)]) := ⟨by rw [T1.out]; unfold keysOf; rw [hd]; simp⟩
          have HD1 : Seal (∀ s ∈ l.take (k + 1), 1 ≤ s ∧ s < 1073741789) := ⟨by
            rw [T1.out]
            intro t ht
            rcases List.mem_append.1 ht with h | h
            · exact hH.out.2.2 t h
            · rw [List.mem_singleton.1 h]; exact HS1.out⟩
          clear hb hd hH T1 c1 HP HO3
          go_wp2_with (at_builtin; refine wpList_append_own _ rfl (.tmp 51) (.tmp 53) 54 rfl w2.heap.size 3 i0 (.int .i64 0) 1 8 Tryd.underlying54 HI.out.1 HI.out.2.1 HI.out.2.2.1 HI.out.2.2.2 rfl (by decide) v k ((keysOf (l.take k)).map (Value.int .i64)) rfl HO4.out ⟨w3.heap.size, 0, none⟩ 1 1 [.int .i64 (d : Int)] rfl rfl HA.out (by simp [Value.oneCell']) (by unfold maxLen; omega) (by omega) HB4.out.size ?_; intro v5 w5 hown5 hgrow5 _)
          have HB5 : Seal (Below w2.heap.size w2 w5) := ⟨HB4.out.trans (by
            have hlt := HO4.out.lt
            exact ⟨hgrow5.os, hgrow5.tape, hgrow5.output, hgrow5.size, fun k hk => hgrow5.block k (by have := HB4.out.size; omega) (fun e => by have := (hlt k e.symm).1; omega)⟩)⟩
          have HO5 := Seal.mk hown5
          clear hgrow5 hown5
          go_wp2_with fail
          go_roundw
          case rel => exact ⟨k + 1, v5, by omega, rfl, by go_num, ⟨by rw [HKn.out]; exact HO5.out, HB5.out, HD1.out⟩⟩
          case measure => simp [intOf]; omega
        · have hp' := hp
          unfold pubF at hp'
          rw [if_neg hsec] at hp'
          simp only [Prod.mk.injEq] at hp'
          obtain ⟨rfl, rfl⟩ := hp'
          clear hp hsec
          go_wp2_with fail
          refine HP.out.mono ?_
          rintro e w3 ⟨rfl, hb⟩
          have HB3 : Seal (Below w.heap.size w w3) := ⟨HBo.out.trans (hb.mono HBo.out.size)⟩
          clear hb
          go_wp2_with fail
          go_ret
          exact ⟨rfl, HB3.out⟩
    · obtain rfl : k = sn := by omega
      have q5 : ¬ (k : Int) < (k : Int) := by omega
      have e : l.take k = l := List.take_of_length_le (by omega)
      rw [e] at hH
      have HE3 := Seal.mk (HE2.out.below hH.out.2.1)
      have HSec : Seal (∀ s ∈ l, 1 ≤ s ∧ s < 1073741789) := ⟨hH.out.2.2⟩
      obtain ⟨ka, kc, rfl, hKN⟩ : ∃ ka kc, v = .slice ka k kc ∧ IsN wo ka k kc (keysOf l) := by
        have hkl : (keysOf l).length = k := by unfold keysOf; simpa using hll
        rcases hH.out.1.2 with ⟨rfl, rfl⟩ | ⟨g, cap, cur, rfl, hbg, hgc, hnc, hcm, hcs, htake⟩
        · exact ⟨none, 0, rfl, hkl, Nat.le_refl _, by decide, by decide, keysOf_i64 l, .inl rfl⟩
        · refine ⟨some ⟨g, 0, none⟩, cap, rfl, hkl, hnc, by omega, by unfold maxLen at hcm; omega, keysOf_i64 l, .inr ⟨g, 0, rfl, ?_, (Array.getElem?_eq_some_iff.1 hgc).1⟩⟩
          have hr := rangeAt_take (rangeAt_row (cs := cur.toList) (by simpa using hgc)) (k * 1)
          rw [htake] at hr
          exact hr
      have HJ := Seal.mk (ejoin_any ka k kc l wo hKN)
      clear hKN hH e HI HB2 HE2
      obtain ⟨J, hJ⟩ : ∃ J : Nat, J = jnF 1 l := ⟨_, rfl⟩
      rw [← hJ] at HM1 HJ
      clear hJ
      go_wp2_with fail
      refine HJ.out.mono ?_
      rintro e w3 ⟨rfl, rfl⟩
      clear HJ
      go_wp2_with fail
      refine (HM1.out _ HE3.out.glob).mono ?_
      rintro e w4 ⟨rfl, hbb⟩
      have HE4 := Seal.mk ((HE3.out.below hbb).push (.cells Xl.toArray 29))
      have HB4 := Seal.mk ((HBo.out.trans (hbb.mono HBo.out.size)).alloc (Nat.le_trans HBo.out.size hbb.size) (.cells Xl.toArray 29))
      clear hbb HE3 HM1
      go_wp2_with (first | (refine wpList_store_new rfl 29 (.tmp 19) (.tmp 65) rfl (.int .i64 0 :: .int .i64 0 :: .int .i64 0 :: .int .i64 0 :: .int .u8 0 :: .int .u8 0 :: .int .u8 0 :: .int .u8 0 :: .int .u8 0 :: .int .u8 0 :: .int .u8 0 :: .int .u8 0 :: .int .u8 0 :: .int .u8 0 :: .int .u8 0 :: .int .u8 0 :: .int .u8 0 :: .int .u8 0 :: .int .u8 0 :: .int .u8 0 :: .int .u8 0 :: .int .u8 0 :: .int .u8 0 :: .int .u8 0 :: .int .u8 0 :: .int .u8 0 :: .int .u8 0 :: .int .u8 0 :: .int .u8 0 :: .int .u8 0 :: .int .u8 0 :: .int .u8 0 :: .int .u8 0 :: .int .u8 0 :: .int .u8 0 :: .int .u8 0 :: [] : List Value) Xl 29 rfl rfl IX.out LX.out OX.out ?_) | (refine wpList_load_row rfl 23 (.tmp 7) rfl (w.heap.size) rfl 23 #[.int .i64 a, .int .i64 b, .int .i64 c] (0, 0) _ (HE4.out.keep (w.heap.size, .cells #[.int .i64 a, .int .i64 b, .int .i64 c] 23) (by simp)) Tryd.underlying23 rfl IW.out ?_) | (refine wpList_load_row rfl 29 (.tmp 19) rfl (w4.heap.size) rfl 29 Xl.toArray (0, 0) _ (HE4.out.keep (w4.heap.size, .cells Xl.toArray 29) (by simp)) Tryd.underlying29 rfl IXa.out ?_) | (refine wpList_load_row rfl 22 (.tmp 11) rfl (w.heap.size + 1) rfl 22 #[.int .i64 r0, .int .i64 r1, .int .i64 r2] (0, 0) _ (HE4.out.keep (w.heap.size + 1, .cells #[.int .i64 r0, .int .i64 r1, .int .i64 r2] 22) (by simp)) Tryd.underlying22 rfl I3.out ?_))
      refine (HM2.out _ HE4.out.glob).mono ?_
      rintro e w5 ⟨rfl, hbb⟩
      have HE5 := Seal.mk ((HE4.out.below hbb).push (.cells #[.int .i64 s0, .int .i64 s1, .int .i64 s2, .int .i64 s3, .int .i64 s4, .int .i64 s5] 32))
      have HB5 := Seal.mk ((HB4.out.trans (hbb.mono HB4.out.size)).alloc (Nat.le_trans HB4.out.size hbb.size) (.cells #[.int .i64 s0, .int .i64 s1, .int .i64 s2, .int .i64 s3, .int .i64 s4, .int .i64 s5] 32))
      clear hbb HE4 HM2 HB4 HBo IX LX OX IXa
      rcases hcase.out with ⟨rfl, rfl, hL, hrow, hRd, hPx, hCk⟩ | ⟨hf, rfl, rfl, rfl, rfl, rfl, rfl, hff⟩
      · clear hcase
        have HL := Seal.mk hL
        have HRd := Seal.mk hRd
        have HPx := Seal.mk hPx
        have HCk := Seal.mk hCk
        have R0 : Seal ((w5.alloc (.cells #[.int .i64 s0, .int .i64 s1, .int .i64 s2, .int .i64 s3, .int .i64 s4, .int .i64 s5] 32)).heap[w5.heap.size]? = some (.cells (rowL (fun j => offs (l.take 0) (L j))).toArray 32 (0, 0))) := ⟨by
          have e : (fun j => offs (l.take 0) (L j)) = L := by funext j; simp [offs]
          rw [e, hrow]; exact heap_alloc_new w5 _⟩
        have W0 := Seal.mk (HE5.out.keep (w.heap.size, .cells #[.int .i64 a, .int .i64 b, .int .i64 c] 23) (by simp))
        have HG5 := Seal.mk HE5.out.glob
        have HGt : Seal (w.heap.size < w5.heap.size) := ⟨by
          have h1 := HE5.out.keep (w4.heap.size, .cells Xl.toArray 29) (by simp)
          have h2 := (Array.getElem?_eq_some_iff.1 W0.out).1
          rw [size_alloc] at h2
          have h3 := HE5.out.keep (w.heap.size + 1, .cells #[.int .i64 r0, .int .i64 r1, .int .i64 r2] 22) (by simp)
          have h4 := (Array.getElem?_eq_some_iff.1 h3).1
          rw [size_alloc] at h4
          omega⟩
        clear hL hrow hRd hPx hCk HE5
        go_wp2_with fail
        obtain ⟨g4, hg4⟩ : ∃ g, g = w5.heap.size := ⟨_, rfl⟩
        obtain ⟨X, hX⟩ : ∃ X, X = w5.alloc (.cells #[.int .i64 s0, .int .i64 s1, .int .i64 s2, .int .i64 s3, .int .i64 s4, .int .i64 s5] 32) := ⟨_, rfl⟩
        rw [← hX, ← hg4] at R0
        rw [← hX] at W0 HG5 HB5
        rw [← hg4] at HGt
        rw [← hX, ← hg4]
        clear hX hg4
        go_loopw [23] (fun i wr => ∃ q : Nat, q ≤ k ∧ i = .int .i64 q ∧ Seal (Below w.heap.size w wr ∧ Glob wr ∧ wr.heap[w.heap.size]? = some (.cells #[.int .i64 a, .int .i64 b, .int .i64 c] 23 (0, 0)) ∧ wr.heap[g4]? = some (.cells (rowL (fun j => offs (l.take q) (L j))).toArray 32 (0, 0)))) (fun i _ => k - (intOf i).toNat)
        case atStart => exact ⟨0, by omega, rfl, ⟨HB5.out, HG5.out, W0.out, R0.out⟩⟩
        case round =>
          obtain ⟨wp, rfl⟩ : ∃ z, z = wr := ⟨_, rfl⟩
          obtain ⟨q, hq, rfl, hH⟩ := hrel
          obtain ⟨bo, go_, ro, co⟩ := hH.out
          clear hH R0 W0 HG5 HB5
          by_cases hqk : q < k
          · rcases (HS.out.of_heap bo).at_ with h0 | ⟨gs, off, rfl, hr, hg⟩
            · omega
            · have p1 : (q : Int) < (k : Int) := by omega
              have p2 : (0 : Int) ≤ (q : Int) := by omega
              have c1 := cell_n hr (k := q) (by omega)
              have c2 : l.getD q 0 ∈ l := by rw [List.getD_eq_getElem?_getD, List.getElem?_eq_getElem (by omega)]; exact List.getElem_mem _
              have hsb := HSec.out _ c2
              have T1 : l.take (q + 1) = l.take q ++ [l.getD q 0] := by rw [List.take_add_one, List.getElem?_eq_getElem (by omega)]; simp [List.getD_eq_getElem?_getD, List.getElem?_eq_getElem (show q < l.length by omega)]
              obtain ⟨s, hs⟩ : ∃ s, s = l.getD q 0 := ⟨_, rfl⟩
              rw [← hs] at c1 hsb T1
              clear hs c2 hr hg
              obtain ⟨M, hM⟩ : ∃ M : Fin 3 → Int × Int, M = fun j => offs (l.take q) (L j) := ⟨_, rfl⟩
              have okM : okL M := by rw [hM]; exact fun j => offs_ok _ (HL.out j)
              have hN : (fun j => offs (l.take (q + 1)) (L j)) = fun j => offP s (M j) := by funext j; rw [T1, offs_snoc, hM]
              have HSt0 := fun W => estrip_yes s M W okM hsb.1 hsb.2
              rw [← hM] at co
              obtain ⟨C, hC⟩ : ∃ C, C = rowL M := ⟨_, rfl⟩
              obtain ⟨D, hD⟩ : ∃ D, D = rowL (fun j => offP s (M j)) := ⟨_, rfl⟩
              have iC : (Tryd.prog.info? 32).map (·.size) = some C.length := by rw [hC, ← List.size_toArray]; exact rowL_info _
              have ID : Seal ((Tryd.prog.info? 32).map (·.size) = some D.toArray.size) := ⟨by rw [hD]; exact rowL_info _⟩
              have SD : Seal ((#[.int .i64 0, .int .i64 0, .int .i64 0, .int .i64 0, .int .i64 0, .int .i64 0] : Array Value).size = D.toArray.size) := ⟨by rw [hD]; rfl⟩
              have OD : Seal (D.toArray.all (·.oneCell') = true) := ⟨by rw [hD]; exact rowL_one _⟩
              have SCD : Seal (C.toArray.size = D.toArray.size) := ⟨by rw [hC, hD]; rfl⟩
              have HDn : Seal (rowL (fun j => offs (l.take (q + 1)) (L j)) = D) := ⟨by rw [hN, hD]⟩
              rw [← hC] at co
              rw [← hC, ← hD] at HSt0
              have HSt := Seal.mk HSt0
              have uS := Tryd.underlying32
              have Bo := Seal.mk bo
              have Go_ := Seal.mk go_
              clear hM hN HSt0 hC hD okM hsb T1 bo go_
              go_wp2_with fail
              apply wp_cut (R := fun g W => Seal (Below w.heap.size w W ∧ W.heap[w.heap.size]? = some (.cells #[.int .i64 a, .int .i64 b, .int .i64 c] 23 (0, 0)) ∧ W.heap[g4]? = some (.cells C.toArray 32 (0, 0)) ∧ W.heap[g]? = some (.cells D.toArray 32 (0, 0)) ∧ g ≠ g4))
              · refine wp_region_held_drew (S := fun w' => w'.cell? ⟨gs, off + q, none⟩ = some (.int .i64 s) ∧ w'.heap[g4]? = some (.cells C.toArray 32 (0, 0)) ∧ w'.heap[w.heap.size]? = some (.cells #[.int .i64 a, .int .i64 b, .int .i64 c] 23 (0, 0))) (by kernel_rfl) ⟨c1, co, ro⟩ (fun hHeld => ?_)
                obtain ⟨V, hV⟩ : ∃ V, V = wp.drew := ⟨_, rfl⟩
                have cV : V.cell? ⟨gs, off + q, none⟩ = some (.int .i64 s) := by rw [hV]; exact c1
                have gV : V.heap[g4]? = some (.cells C.toArray 32 (0, 0)) := by rw [hV]; exact co
                have wV : V.heap[w.heap.size]? = some (.cells #[.int .i64 a, .int .i64 b, .int .i64 c] 23 (0, 0)) := by rw [hV]; exact ro
                have HV : Seal (Below w.heap.size w V) := ⟨by rw [hV]; exact Bo.out.trans ((below_drewn wp).mono Bo.out.size)⟩
                have lV := (Array.getElem?_eq_some_iff.1 gV).1
                have mV := (Array.getElem?_eq_some_iff.1 wV).1
                have nV : gs < V.heap.size := block_lt_of_cell cV
                rw [← hV] at hHeld ⊢
                clear hV
                obtain ⟨gA, hgA⟩ : ∃ g, V.heap.size = g := ⟨_, rfl⟩
                refine take_h 0 ?_ rfl (by kernel_rfl) (by kernel_rfl) (by kernel_rfl) (fun _ _ _ h => h) (Or.inl ⟨by kernel_rfl, ?_⟩) (by assumption) ?_
                rotate_left
                · (intro w hSw; (try dsimp only at hSw); go_simp; try (with_reducible rfl))
                try simp only [Act.put, List.setIfInBounds_toArray, List.set_cons_zero, List.set_cons_succ]
                refine take_h 1 ?_ rfl (by kernel_rfl) (by kernel_rfl) (by kernel_rfl) (fun _ _ _ h => h) (Or.inl ⟨by kernel_rfl, ?_⟩) (by assumption) ?_
                rotate_left
                · (intro w hSw; (try dsimp only at hSw); go_simp; try (with_reducible rfl))
                try simp only [Act.put, List.setIfInBounds_toArray, List.set_cons_zero, List.set_cons_succ]
                refine take_h 2 ?_ rfl (by kernel_rfl) (by kernel_rfl) (by kernel_rfl) (fun _ _ _ h => h) (Or.inl ⟨by kernel_rfl, ?_⟩) (by assumption) ?_
                rotate_left
                · (intro w hSw; (try dsimp only at hSw); go_simp; try (with_reducible rfl))
                try simp only [Act.put, List.setIfInBounds_toArray, List.set_cons_zero, List.set_cons_succ]
                refine take_h 3 ?_ rfl (by kernel_rfl) (by kernel_rfl) (by kernel_rfl) (fun _ _ _ h => h) (Or.inl ⟨by kernel_rfl, ?_⟩) (by assumption) ?_
                rotate_left
                · (intro w hSw; (try dsimp only at hSw); go_simp; try (with_reducible rfl))
                try simp only [Act.put, List.setIfInBounds_toArray, List.set_cons_zero, List.set_cons_succ]
                refine take_h 4 _ rfl (by kernel_rfl) (by kernel_rfl) (by kernel_rfl) (fun _ _ _ h => h) (yieldsIf_load_mid (by kernel_rfl) 32 (.tmp 21) rfl g4 0 rfl C _ (fun w hSw => rangeAt_row hSw.2.1) uS rfl iC) (by assumption) ?_
                try simp only [Act.put, List.setIfInBounds_toArray, List.set_cons_zero, List.set_cons_succ]
                refine wpAnyH_ready (rs := [5, 9]) (by kernel_rfl) (by simp) (call_b 5 rfl 21 #[.int .i64 s, .agg C.toArray] (by kernel_rfl) (by go_simp) ?_ (oper_b 9 (.pointer (some ⟨gA, 0, none⟩)) (V.alloc (.cells #[.int .i64 0, .int .i64 0, .int .i64 0, .int .i64 0, .int .i64 0, .int .i64 0] 32)) rfl (by kernel_rfl) (by rw [← hgA]; go_simp) ⟨cell_allocd cV _, (Below.heap_alloc V _ _ lV).trans gV, (Below.heap_alloc V _ _ mV).trans wV⟩ (fun hHeld2 => ?_) AllReadyH.nil))
                · refine (HSt.out V).mono ?_
                  rintro e w6 ⟨rfl, hb6⟩
                  have c6 := cell_later hb6 cV
                  have g6 := blk hb6 lV gV
                  have m6 := blk hb6 mV wV
                  refine ⟨_, rfl, ⟨c6, g6, m6⟩, fun hHeld5 => ?_⟩
                  try simp only [Act.put, List.setIfInBounds_toArray, List.set_cons_zero, List.set_cons_succ]
                  refine take_h 6 ?_ rfl (by kernel_rfl) (by kernel_rfl) (by kernel_rfl) (fun _ _ _ h => h) (Or.inl ⟨by kernel_rfl, ?_⟩) (by assumption) ?_
                  rotate_left
                  · (intro w hSw; (try dsimp only at hSw); go_simp; try (with_reducible rfl))
                  try simp only [Act.put, List.setIfInBounds_toArray, List.set_cons_zero, List.set_cons_succ]
                  refine take_h 7 ?_ rfl (by kernel_rfl) (by kernel_rfl) (by kernel_rfl) (fun _ _ _ h => h) (Or.inl ⟨by kernel_rfl, ?_⟩) (by assumption) ?_
                  rotate_left
                  · (intro w hSw; (try dsimp only at hSw); go_simp; try (with_reducible rfl))
                  try simp only [Act.put, List.setIfInBounds_toArray, List.set_cons_zero, List.set_cons_succ]
                  refine take_h 8 ?_ rfl (by kernel_rfl) (by kernel_rfl) (by kernel_rfl) (fun _ _ _ h => h) (Or.inl ⟨by kernel_rfl, ?_⟩) (by assumption) ?_
                  rotate_left
                  · (intro w hSw; (try dsimp only at hSw); go_simp; try (with_reducible rfl))
                  try simp only [Act.put, List.setIfInBounds_toArray, List.set_cons_zero, List.set_cons_succ]
                  obtain ⟨gB, hgB⟩ : ∃ g, w6.heap.size = g := ⟨_, rfl⟩
                  have hz := hb6.size
                  refine oper_h 9 (.pointer (some ⟨gB, 0, none⟩)) (w6.alloc (.cells #[.int .i64 0, .int .i64 0, .int .i64 0, .int .i64 0, .int .i64 0, .int .i64 0] 32)) rfl (by kernel_rfl) (by kernel_rfl) (by rw [← hgB]; go_simp) ⟨cell_allocd c6 _, (Below.heap_alloc w6 _ _ (by omega)).trans g6, (Below.heap_alloc w6 _ _ (by omega)).trans m6⟩ (fun hHeld6 => ?_)
                  clear hHeld5
                  try simp only [Act.put, List.setIfInBounds_toArray, List.set_cons_zero, List.set_cons_succ]
                  have sg : ((w6.alloc (.cells #[.int .i64 0, .int .i64 0, .int .i64 0, .int .i64 0, .int .i64 0, .int .i64 0] 32)).setRow gB D.toArray).heap[g4]? = some (.cells C.toArray 32 (0, 0)) := (setRow_other _ gB g4 _ (by omega)).trans hHeld6.2.1
                  have sm : ((w6.alloc (.cells #[.int .i64 0, .int .i64 0, .int .i64 0, .int .i64 0, .int .i64 0, .int .i64 0] 32)).setRow gB D.toArray).heap[w.heap.size]? = some (.cells #[.int .i64 a, .int .i64 b, .int .i64 c] 23 (0, 0)) := (setRow_other _ gB w.heap.size _ (by omega)).trans hHeld6.2.2
                  refine skip_h 10 ((w6.alloc (.cells #[.int .i64 0, .int .i64 0, .int .i64 0, .int .i64 0, .int .i64 0, .int .i64 0] 32)).setRow gB D.toArray) rfl (by kernel_rfl) (by kernel_rfl) (xst_row 32 (.tmp 24) (.tmp 115) rfl gB D.toArray rfl rfl 32 #[.int .i64 0, .int .i64 0, .int .i64 0, .int .i64 0, .int .i64 0, .int .i64 0] (by rw [← hgB]; exact heap_alloc_new w6 _) ID.out SD.out OD.out) ⟨(World.cell?_of_block (w := w6.alloc (.cells #[.int .i64 0, .int .i64 0, .int .i64 0, .int .i64 0, .int .i64 0, .int .i64 0] 32)) (setRow_other _ gB gs _ (by omega))).trans hHeld6.1, sg, sm⟩ (fun hHeld7 => ?_)
                  clear hHeld6
                  try simp only [Act.put]
                  refine take_h 11 ?_ rfl (by kernel_rfl) (by kernel_rfl) (by kernel_rfl) (fun _ _ _ h => h) (Or.inl ⟨by kernel_rfl, ?_⟩) (by assumption) ?_
                  rotate_left
                  · (intro w hSw; (try dsimp only at hSw); go_simp; try (with_reducible rfl))
                  try simp only [Act.put, List.setIfInBounds_toArray, List.set_cons_zero, List.set_cons_succ]
                  refine wpAnyH_done (by kernel_rfl) ?_ _
                  exact ⟨gB, rfl, ⟨below_row ((HV.out.trans (hb6.mono HV.out.size)).alloc (by have := HV.out.size; omega) _) (by have := HV.out.size; omega) _, sm, sg, setRow_heap _ _ _ _ _ _ (by rw [← hgB]; exact heap_alloc_new w6 _), by omega⟩⟩
                · try simp only [Act.put, List.setIfInBounds_toArray, List.set_cons_zero, List.set_cons_succ]
                  refine call_h 5 rfl (by kernel_rfl) 21 #[.int .i64 s, .agg C.toArray] (by kernel_rfl) (by go_simp) ?_
                  refine (HSt.out (V.alloc (.cells #[.int .i64 0, .int .i64 0, .int .i64 0, .int .i64 0, .int .i64 0, .int .i64 0] 32))).mono ?_
                  rintro e w6 ⟨rfl, hb6⟩
                  have hb7 : Below V.heap.size V w6 := (below_alloc V _).trans (hb6.mono (by rw [size_alloc]; omega))
                  have rz6 : w6.heap[gA]? = some (.cells #[.int .i64 0, .int .i64 0, .int .i64 0, .int .i64 0, .int .i64 0, .int .i64 0] 32 (0, 0)) := by rw [← hgA]; exact (hb6.block _ (by rw [size_alloc]; omega)).trans (heap_alloc_new V _)
                  have c6 := cell_later hb7 cV
                  have g6 := blk hb7 lV gV
                  have m6 := blk hb7 mV wV
                  refine ⟨_, rfl, ⟨c6, g6, m6⟩, fun hHeld5 => ?_⟩
                  try simp only [Act.put, List.setIfInBounds_toArray, List.set_cons_zero, List.set_cons_succ]
                  refine take_h 6 ?_ rfl (by kernel_rfl) (by kernel_rfl) (by kernel_rfl) (fun _ _ _ h => h) (Or.inl ⟨by kernel_rfl, ?_⟩) (by assumption) ?_
                  rotate_left
                  · (intro w hSw; (try dsimp only at hSw); go_simp; try (with_reducible rfl))
                  try simp only [Act.put, List.setIfInBounds_toArray, List.set_cons_zero, List.set_cons_succ]
                  refine take_h 7 ?_ rfl (by kernel_rfl) (by kernel_rfl) (by kernel_rfl) (fun _ _ _ h => h) (Or.inl ⟨by kernel_rfl, ?_⟩) (by assumption) ?_
                  rotate_left
                  · (intro w hSw; (try dsimp only at hSw); go_simp; try (with_reducible rfl))
                  try simp only [Act.put, List.setIfInBounds_toArray, List.set_cons_zero, List.set_cons_succ]
                  refine take_h 8 ?_ rfl (by kernel_rfl) (by kernel_rfl) (by kernel_rfl) (fun _ _ _ h => h) (Or.inl ⟨by kernel_rfl, ?_⟩) (by assumption) ?_
                  rotate_left
                  · (intro w hSw; (try dsimp only at hSw); go_simp; try (with_reducible rfl))
                  try simp only [Act.put, List.setIfInBounds_toArray, List.set_cons_zero, List.set_cons_succ]
                  have sg : (w6.setRow gA D.toArray).heap[g4]? = some (.cells C.toArray 32 (0, 0)) := (setRow_other w6 gA g4 _ (by omega)).trans g6
                  have sm : (w6.setRow gA D.toArray).heap[w.heap.size]? = some (.cells #[.int .i64 a, .int .i64 b, .int .i64 c] 23 (0, 0)) := (setRow_other w6 gA w.heap.size _ (by omega)).trans m6
                  refine skip_h 10 (w6.setRow gA D.toArray) rfl (by kernel_rfl) (by kernel_rfl) (xst_row 32 (.tmp 24) (.tmp 115) rfl gA D.toArray rfl rfl 32 #[.int .i64 0, .int .i64 0, .int .i64 0, .int .i64 0, .int .i64 0, .int .i64 0] rz6 ID.out SD.out OD.out) ⟨(World.cell?_of_block (w := w6) (setRow_other _ gA gs _ (by omega))).trans c6, sg, sm⟩ (fun hHeld7 => ?_)
                  clear hHeld5
                  try simp only [Act.put]
                  refine take_h 11 ?_ rfl (by kernel_rfl) (by kernel_rfl) (by kernel_rfl) (fun _ _ _ h => h) (Or.inl ⟨by kernel_rfl, ?_⟩) (by assumption) ?_
                  rotate_left
                  · (intro w hSw; (try dsimp only at hSw); go_simp; try (with_reducible rfl))
                  try simp only [Act.put, List.setIfInBounds_toArray, List.set_cons_zero, List.set_cons_succ]
                  refine wpAnyH_done (by kernel_rfl) ?_ _
                  exact ⟨gA, rfl, ⟨below_row (HV.out.trans (hb7.mono HV.out.size)) (by rw [← hgA]; exact HV.out.size) _, sm, sg, setRow_heap _ _ _ _ _ _ rz6, by omega⟩⟩
              · rintro g W ⟨⟨bW, mW, gW, dW, hne⟩⟩
                have BW := Seal.mk bW
                have MW := Seal.mk mW
                have GW := Seal.mk gW
                have DW := Seal.mk dW
                have NE := Seal.mk hne
                have HGW := Seal.mk (HG0.out.below bW)
                clear bW mW gW dW hne
                go_wp2_with (first | (refine wpList_load_row rfl 32 (.tmp 24) rfl g rfl 32 D.toArray (0, 0) _ DW.out Tryd.underlying32 rfl ID.out ?_) | (refine wpList_store_row rfl 32 (.tmp 21) (.tmp 119) rfl g4 D.toArray rfl rfl 32 C.toArray GW.out ID.out SCD.out OD.out ?_))
                go_roundw
                case rel => exact ⟨q + 1, by omega, by go_num, ⟨below_row BW.out (by have := HGt.out; omega) _, HG0.out.below (below_row BW.out (by have := HGt.out; omega) _), (setRow_other W g4 w.heap.size _ (by have := HGt.out; omega)).trans MW.out, by rw [HDn.out]; exact setRow_heap _ _ _ _ _ _ GW.out⟩⟩
                case measure => simp [intOf]; omega
          · obtain rfl : q = k := by omega
            have p1 : ¬ (q : Int) < (q : Int) := by omega
            have e : l.take q = l := List.take_of_length_le (by omega)
            rw [e] at co
            obtain ⟨C, hC⟩ : ∃ C, C = rowL (fun j => offs l (L j)) := ⟨_, rfl⟩
            have IC : Seal ((Tryd.prog.info? 32).map (·.size) = some C.toArray.size) := ⟨by rw [hC]; exact rowL_info _⟩
            rw [← hC] at co HRd
            have CO := Seal.mk co
            have RO := Seal.mk ro
            have Bo := Seal.mk bo
            clear hC e co ro bo go_ HSec HL
            go_wp2_with (refine wpList_load_row rfl 32 (.tmp 21) rfl g4 rfl 32 C.toArray (0, 0) _ CO.out Tryd.underlying32 rfl IC.out ?_)
            refine (HRd.out _).mono ?_
            rintro e w6 ⟨rfl, hb6⟩
            have RO6 : Seal (w6.heap[w.heap.size]? = some (.cells #[.int .i64 a, .int .i64 b, .int .i64 c] 23 (0, 0))) := ⟨blk hb6 (Array.getElem?_eq_some_iff.1 RO.out).1 RO.out⟩
            have B6 : Seal (Below w.heap.size w w6) := ⟨Bo.out.trans (hb6.mono Bo.out.size)⟩
            clear hb6 RO CO Bo
            go_wp2_with fail
            refine (HPx.out _).mono ?_
            rintro e w7 ⟨rfl, hb7⟩
            have hm6 := (Array.getElem?_eq_some_iff.1 RO6.out).1
            have RO7 := blk hb7 (by rw [size_alloc]; omega) ((Below.heap_alloc w6 (.cells #[.int .i64 al, .int .i64 y, .int .i64 z] 23) _ hm6).trans RO6.out)
            have RX7 := blk hb7 (by rw [size_alloc]; omega) (heap_alloc_new w6 (.cells #[.int .i64 al, .int .i64 y, .int .i64 z] 23))
            have B7 : Seal (Below w.heap.size w w7) := ⟨(B6.out.alloc B6.out.size (.cells #[.int .i64 al, .int .i64 y, .int .i64 z] 23)).trans (hb7.mono (by rw [size_alloc]; have := B6.out.size; omega))⟩
            have a0 := (cell_of_row _ _ 0 _ _ _ RO7).trans (show _ = some (Value.int .i64 a) from rfl)
            have a1 := (cell_of_row _ _ 1 _ _ _ RO7).trans (show _ = some (Value.int .i64 b) from rfl)
            have a2 := (cell_of_row _ _ 2 _ _ _ RO7).trans (show _ = some (Value.int .i64 c) from rfl)
            have x0 := (cell_of_row _ _ 0 _ _ _ RX7).trans (show _ = some (Value.int .i64 al) from rfl)
            have x1 := (cell_of_row _ _ 1 _ _ _ RX7).trans (show _ = some (Value.int .i64 y) from rfl)
            have x2 := (cell_of_row _ _ 2 _ _ _ RX7).trans (show _ = some (Value.int .i64 z) from rfl)
            have HC7 := Seal.mk (HCk.out w7 (HG0.out.below B7.out))
            clear hb7 RO7 RX7 hm6 B6 RO6 HCk HPx HRd
            go_wp2_with fail
            refine HC7.out.mono ?_
            rintro e w8 ⟨rfl, hb8⟩
            have B8 : Seal (Below w.heap.size w w8) := ⟨B7.out.trans (hb8.mono B7.out.size)⟩
            clear hb8 B7 HC7 a0 a1 a2 x0 x1 x2
            go_wp2_with fail
            go_ret
            exact ⟨rfl, B8.out⟩
      · have heq := fun W => eqSe 0 0 0 0 0 0 W
        clear hcase HSec HS
        rcases hff with rfl | rfl | ⟨rfl, rfl⟩
        · go_wp2_with fail
          go_ret
          exact ⟨rfl, HB5.out⟩
        · go_wp2_with fail
          go_ret
          exact ⟨rfl, HB5.out⟩
        · go_wp2_with fail
          go_ret
          exact ⟨rfl, HB5.out⟩
end Frk

namespace Frk
open Go Go.RowKit Go.Proofs
set_option maxRecDepth 100000

theorem rcF_zero {x a b c K P Q r0 r1 r2 s0 s1 s2 s3 s4 s5 f : Int} {t : Bool} (h : rcF x a b c t K P Q r0 r1 r2 = (s0, s1, s2, s3, s4, s5, f)) (hf : f ≠ 0) : s0 = 0 ∧ s1 = 0 ∧ s2 = 0 ∧ s3 = 0 ∧ s4 = 0 ∧ s5 = 0 := by
  unfold rcF useF at h
  split at h
  · split at h
    · split at h
      · split at h
        · split at h
          · simp only [Prod.mk.injEq] at h; exact absurd h.2.2.2.2.2.2.symm hf
          · simp only [Prod.mk.injEq] at h; obtain ⟨rfl, rfl, rfl, rfl, rfl, rfl, _⟩ := h; simp
        · simp only [Prod.mk.injEq] at h; obtain ⟨rfl, rfl, rfl, rfl, rfl, rfl, _⟩ := h; simp
      · simp only [Prod.mk.injEq] at h; obtain ⟨rfl, rfl, rfl, rfl, rfl, rfl, _⟩ := h; simp
    · simp only [Prod.mk.injEq] at h; obtain ⟨rfl, rfl, rfl, rfl, rfl, rfl, _⟩ := h; simp
  · simp only [Prod.mk.injEq] at h; obtain ⟨rfl, rfl, rfl, rfl, rfl, rfl, _⟩ := h; simp

theorem rcF_ok {x a b c K P Q r0 r1 r2 s0 s1 s2 s3 s4 s5 : Int} {t : Bool} (h : rcF x a b c t K P Q r0 r1 r2 = (s0, s1, s2, s3, s4, s5, 0)) :
    (1 ≤ x ∧ x < 1073741789) ∧ t = true ∧ s0 = ((mp P.toNat (pw 4 r0) : Nat) : Int) ∧ s1 = ((mp Q.toNat (pw K.toNat r0) : Nat) : Int) ∧ s2 = ((mp (1 : Int).toNat (pw 4 r1) : Nat) : Int) ∧ s3 = ((mp (elB ((sgE x (rcT a b c) : Nat) + 1)).toNat (pw K.toNat r1) : Nat) : Int) ∧
      s4 = ((mp (1 : Int).toNat (pw 4 r2) : Nat) : Int) ∧ s5 = ((mp (elB (sgS x (rcT a b c) + 1)).toNat (pw K.toNat r2) : Nat) : Int) := by
  unfold rcF useF at h
  split at h
  · rename_i hx
    split at h
    · split at h
      · rename_i ht
        split at h
        · split at h
          · simp only [Prod.mk.injEq] at h
            obtain ⟨h0, h1, h2, h3, h4, h5, _⟩ := h
            exact ⟨hx, ht, h0.symm, h1.symm, h2.symm, h3.symm, h4.symm, h5.symm⟩
          · simp at h
        · simp at h
      · simp at h
    · simp at h
  · simp at h

theorem makeF_ok {L K al r a b c d : Int} {T : Bytes} (h : makeF L K al r = (a, b, c, d, T, 0)) :
    vd K = true ∧ (1 ≤ al ∧ al ≤ 1073741789) ∧ a = L ∧ b = K ∧ c = ((mp (1 : Int).toNat (pw 4 r) : Nat) : Int) ∧ d = ((mp (elB al).toNat (pw K.toNat r) : Nat) : Int) := by
  unfold makeF at h
  split at h
  · simp at h
  · split at h
    · rename_i hK
      split at h
      · rename_i ha
        simp only [Prod.mk.injEq] at h
        obtain ⟨h0, h1, h2, h3, h4, h5⟩ := h
        exact ⟨hK, ha, h0.symm, h1.symm, h2.symm, h3.symm⟩
      · simp at h
    · simp at h

theorem makeF_no {L K al r a b c d e : Int} {T : Bytes} (h : makeF L K al r = (a, b, c, d, T, e)) (he : e ≠ 0) : chkB a b c d T = false := by
  unfold makeF at h
  have z : chkB 0 0 0 0 zb32 = false := rcchk0
  split at h
  · simp only [Prod.mk.injEq] at h; obtain ⟨rfl, rfl, rfl, rfl, rfl, _⟩ := h; exact z
  · split at h
    · split at h
      · simp only [Prod.mk.injEq] at h; exact absurd h.2.2.2.2.2.symm he
      · simp only [Prod.mk.injEq] at h; obtain ⟨rfl, rfl, rfl, rfl, rfl, _⟩ := h; exact z
    · simp only [Prod.mk.injEq] at h; obtain ⟨rfl, rfl, rfl, rfl, rfl, _⟩ := h; exact z

theorem makeF_len' (L K al r : Int) : (makeF L K al r).2.2.2.2.1.length = 32 := by
  unfold makeF
  split
  · exact zb32_len
  · split
    · split
      · exact sha_length _
      · exact zb32_len
    · exact zb32_len

theorem i64_mp (a b : Nat) : I64 ((mp a b : Nat) : Int) := by
  have h := mp_lt a b
  have hP : P = 2147483579 := rfl
  exact ⟨by omega, by omega⟩

theorem makeF_chk {L K al r a b c d : Int} {T : Bytes} (h : makeF L K al r = (a, b, c, d, T, 0)) : chkB a b c d T = true := by
  have h0 := h
  unfold makeF at h
  split at h
  · simp at h
  · rename_i hL
    split at h
    · rename_i hK
      split at h
      · rename_i ha
        simp only [Prod.mk.injEq] at h
        obtain ⟨rfl, rfl, rfl, rfl, rfl, _⟩ := h
        obtain ⟨k, rfl, vk⟩ := vd_of_vd hK
        obtain ⟨e, he, ve, _⟩ := vd_cast (elB_vd ha.1 ha.2)
        have v1 : Vd 1 := (vd_iff _).1 (by decide +kernel)
        have w1 : vd ((mp (1 : Int).toNat (pw 4 r) : Nat) : Int) = true := (vd_iff _).2 (v1.mp (Vd.pw vd4 r))
        have w2 : vd ((mp (elB al).toNat (pw (k : Int).toNat r) : Nat) : Int) = true := by
          rw [he, Int.toNat_natCast, Int.toNat_natCast]; exact (vd_iff _).2 (ve.mp (vk.pw r))
        unfold chkB
        rw [decide_eq_true (by omega), decide_eq_true (by omega), hK, w1, w2]
        simp
      · simp at h
    · simp at h

theorem makeF_160 {K al r a b c d e : Int} {T : Bytes} (hK : vd K = true) (h : makeF 1 K al r = (a, b, c, d, T, e)) : e = 0 ∨ e = 160 := by
  unfold makeF at h
  rw [if_neg (by omega), if_pos hK] at h
  split at h
  · simp only [Prod.mk.injEq] at h; exact .inl h.2.2.2.2.2.symm
  · simp only [Prod.mk.injEq] at h; exact .inr h.2.2.2.2.2.symm

theorem rcF_err {x a b c K P Q r0 r1 r2 s0 s1 s2 s3 s4 s5 f : Int} {t : Bool} (h : rcF x a b c t K P Q r0 r1 r2 = (s0, s1, s2, s3, s4, s5, f)) (hf : f ≠ 0) : f = 110 ∨ f = 430 ∨ f = 160 ∧ t = false := by
  obtain ⟨h1, h2, h3, h4⟩ := sgES_rng x (rcT a b c)
  unfold rcF useF at h
  split at h
  · split at h
    · split at h
      · split at h
        · split at h
          · simp only [Prod.mk.injEq] at h; exact absurd h.2.2.2.2.2.2.symm hf
          · omega
        · omega
      · rename_i ht
        simp only [Prod.mk.injEq] at h
        exact .inr (.inr ⟨h.2.2.2.2.2.2.symm, by simpa using ht⟩)
    · simp only [Prod.mk.injEq] at h; exact .inr (.inl h.2.2.2.2.2.2.symm)
  · simp only [Prod.mk.injEq] at h; exact .inl h.2.2.2.2.2.2.symm

/-- a word, sealed for a joint key -/
def sealP (J : Nat) (t v : Int) : Int × Int := (((pw 4 t : Nat) : Int), ((mp (elB v).toNat (pw J t) : Nat) : Int))
theorem sealP_ok {J : Nat} (hJ : Vd J) (t : Int) {v : Int} (h1 : 1 ≤ v) (h2 : v ≤ 1073741789) : vd (sealP J t v).1 = true ∧ vd (sealP J t v).2 = true := by
  obtain ⟨a, e, ha, _⟩ := vd_cast (elB_vd h1 h2)
  refine ⟨(vd_iff _).2 (Vd.pw vd4 t), ?_⟩
  show vd ((mp (elB v).toNat (pw J t) : Nat) : Int) = true
  rw [e, Int.toNat_natCast]
  exact (vd_iff _).2 (ha.mp (hJ.pw t))
theorem sealP_read (l : List Int) (t : Int) {v : Int} (h1 : 1 ≤ v) (h2 : v ≤ 1073741789) : nuB (offs l (sealP (jnF 1 l) t v)).2 = v := by
  obtain ⟨a, e, _, ha⟩ := vd_cast (elB_vd h1 h2)
  unfold sealP
  rw [show (elB v).toNat = a from by rw [e, Int.toNat_natCast], offs_seal t l a ha]
  show nuB (a : Int) = v
  rw [← e, nuB_elB h1 h2]
def lett3 (a b c : Int × Int) : Fin 3 → Int × Int
  | 0 => a
  | 1 => b
  | 2 => c

theorem law_receiptsBack (x a b c al n r0 r1 r2 : Int) (sa : Option Addr) (sn sc : Nat) (l : List Int) (w : World) (hG : Glob w) (hS : sn ≤ 1099511627776 → IsN w sa sn sc l) (ha : I64 a) (hb : I64 b) (hc : I64 c) (hn : I64 n) (hr0 : I64 r0) (hr1 : I64 r1) (hr2 : I64 r2) :
    Calls Tryd.prog 7 #[.int .i64 x, .agg #[.int .i64 a, .int .i64 b, .int .i64 c], .slice sa sn sc, .int .i64 al, .int .i64 n, .agg #[.int .i64 r0, .int .i64 r1, .int .i64 r2]] w fun e w' => e = .returned (.bool true) ∧ Below w.heap.size w w' := by
  by_cases h4 : sn ≤ 4
  · have hS' := hS (by omega)
    have vJ : Vd (jnF 1 l) := jnF_vd l ((vd_iff _).1 (by decide +kernel))
    have iJ : I64 ((jnF 1 l : Nat) : Int) := by
      have h := vJ.2.1
      have hP : P = 2147483579 := rfl
      exact ⟨by omega, by omega⟩
    obtain ⟨L', K', P', Q', T', e0, hM⟩ : ∃ a b c d T' e', makeF 1 (jnF 1 l : Nat) al n = (a, b, c, d, T', e') := ⟨_, _, _, _, _, _, rfl⟩
    have hT' : T'.length = 32 := by have := makeF_len' 1 (jnF 1 l : Nat) al n; rw [hM] at this; exact this
    obtain ⟨s0, s1, s2, s3, s4, s5, f0, hU⟩ : ∃ x0 y0 x1 y1 x2 y2 e, rcF x a b c (chkB L' K' P' Q' T') K' P' Q' r0 r1 r2 = (x0, y0, x1, y1, x2, y2, e) := ⟨_, _, _, _, _, _, _, rfl⟩
    have z0 : I64 0 := ⟨by decide, by decide⟩
    have hi : I64 L' ∧ I64 K' ∧ I64 P' ∧ I64 Q' := by
      by_cases he : e0 = 0
      · subst he
        obtain ⟨_, _, rfl, rfl, rfl, rfl⟩ := makeF_ok hM
        exact ⟨⟨by decide, by decide⟩, iJ, i64_mp _ _, i64_mp _ _⟩
      · unfold makeF at hM
        split at hM
        · simp only [Prod.mk.injEq] at hM; obtain ⟨rfl, rfl, rfl, rfl, _⟩ := hM; exact ⟨z0, z0, z0, z0⟩
        · split at hM
          · split at hM
            · simp only [Prod.mk.injEq] at hM; exact absurd hM.2.2.2.2.2.symm he
            · simp only [Prod.mk.injEq] at hM; obtain ⟨rfl, rfl, rfl, rfl, _⟩ := hM; exact ⟨z0, z0, z0, z0⟩
          · simp only [Prod.mk.injEq] at hM; obtain ⟨rfl, rfl, rfl, rfl, _⟩ := hM; exact ⟨z0, z0, z0, z0⟩
    have IX : Seal ((Tryd.prog.info? 29).map (·.size) = some (retC L' K' P' Q' T').length) := ⟨retC_info hT'⟩
    have LX : Seal ((.int .i64 0 :: .int .i64 0 :: .int .i64 0 :: .int .i64 0 :: .int .u8 0 :: .int .u8 0 :: .int .u8 0 :: .int .u8 0 :: .int .u8 0 :: .int .u8 0 :: .int .u8 0 :: .int .u8 0 :: .int .u8 0 :: .int .u8 0 :: .int .u8 0 :: .int .u8 0 :: .int .u8 0 :: .int .u8 0 :: .int .u8 0 :: .int .u8 0 :: .int .u8 0 :: .int .u8 0 :: .int .u8 0 :: .int .u8 0 :: .int .u8 0 :: .int .u8 0 :: .int .u8 0 :: .int .u8 0 :: .int .u8 0 :: .int .u8 0 :: .int .u8 0 :: .int .u8 0 :: .int .u8 0 :: .int .u8 0 :: .int .u8 0 :: .int .u8 0 :: [] : List Value).length = (retC L' K' P' Q' T').length) := ⟨by rw [retC_len hT']; rfl⟩
    have HM1 := Seal.mk (fun W (g : Glob W) => omake_at 1 (jnF 1 l : Nat) al n L' K' P' Q' e0 T' W g ⟨by decide, by decide⟩ iJ hn.1 hn.2 ⟨hM⟩)
    have HM2 := Seal.mk (fun W (g : Glob W) => rcmake_at x a b c L' K' P' Q' r0 r1 r2 s0 s1 s2 s3 s4 s5 f0 T' W g ha hb hc hi.1 hi.2.1 hi.2.2.1 hi.2.2.2 hT' hr0 hr1 hr2 ⟨hU⟩)
    by_cases hf : f0 = 0
    · subst hf
      obtain ⟨hx, ht, h0, h1, h2, h3, h4', h5⟩ := rcF_ok hU
      have he : e0 = 0 := by
        by_cases he : e0 = 0
        · exact he
        · rw [makeF_no hM he] at ht; cases ht
      subst he
      obtain ⟨_, hal, rfl, rfl, rfl, rfl⟩ := makeF_ok hM
      obtain ⟨q1, q2, q3, q4⟩ := sgES_rng x (rcT a b c)
      obtain ⟨M, hMd⟩ : ∃ M, M = lett3 (sealP (jnF 1 l) (n + r0) al) (sealP (jnF 1 l) r1 ((sgE x (rcT a b c) : Nat) + 1)) (sealP (jnF 1 l) r2 (sgS x (rcT a b c) + 1)) := ⟨_, rfl⟩
      have okM : okL M := by
        rw [hMd]
        intro j
        rcases fin3e j with rfl | rfl | rfl
        · exact sealP_ok vJ _ hal.1 hal.2
        · exact sealP_ok vJ _ (by omega) (by omega)
        · exact sealP_ok vJ _ (by omega) (by omega)
      have hrow : rowL M = [.int .i64 s0, .int .i64 s1, .int .i64 s2, .int .i64 s3, .int .i64 s4, .int .i64 s5] := by
        rw [h0, h1, h2, h3, h4', h5, hMd]
        have o1 : ∀ t, mp (1 : Int).toNat (pw 4 t) = pw 4 t := fun t => one_mp (pw_lt _ _)
        rw [o1 r1, o1 r2, o1 n, Int.toNat_natCast, Int.toNat_natCast, Int.toNat_natCast]
        have e1 : mp (pw 4 n) (pw 4 r0) = pw 4 (n + r0) := (pw_add vd4 n r0).symm
        have e2 : mp (mp (elB al).toNat (pw (jnF 1 l) n)) (pw (jnF 1 l) r0) = mp (elB al).toNat (pw (jnF 1 l) (n + r0)) := by
          rw [mp_assoc]; congr 1; exact (pw_add vJ n r0).symm
        rw [e1, e2]
        rfl
      have r0' : nuB (offs l (M 0)).2 = al := by rw [hMd]; exact sealP_read l _ hal.1 hal.2
      have r1' : nuB (offs l (M 1)).2 = (sgE x (rcT a b c) : Nat) + 1 := by rw [hMd]; exact sealP_read l _ (by omega) (by omega)
      have r2' : nuB (offs l (M 2)).2 = sgS x (rcT a b c) + 1 := by rw [hMd]; exact sealP_read l _ (by omega) (by omega)
      have hpub : pubF x = (((pw 4 x : Nat) : Int), 0) := by unfold pubF secB; rw [decide_eq_true (by omega), decide_eq_true (by omega)]; rfl
      have hrc : rcB (pw 4 x : Nat) a b c ((sgE x (rcT a b c) : Nat) + 1) (sgS x (rcT a b c) + 1) = true := by
        have sr := sign_right x (rcT a b c)
        unfold rcB
        rw [(wdB_iff _).2 (by omega), (wdB_iff _).2 (by omega), Int.add_sub_cancel, Int.add_sub_cancel, sr]
        rfl
      refine back_walk x a b c al n r0 r1 r2 (pw 4 x : Nat) ((sgE x (rcT a b c) : Nat) + 1) (sgS x (rcT a b c) + 1) 0 0 s0 s1 s2 s3 s4 s5 sa sn sc l M _ w hG hS' h4 IX LX ⟨retC_one _ _ _ _ _⟩ HM1 HM2
        ⟨.inl ⟨rfl, rfl, okM, hrow, fun W => ?_, fun W => public_at x _ 0 W ⟨hpub⟩ (by omega) (by omega), fun W g => ?_⟩⟩
      · refine (eread_any (fun j => offs l (M j)) W (fun j => offs_ok l (okM j))).mono fun e w' h => ⟨h.1.trans ?_, h.2⟩
        show Ending.returned (.tuple #[.agg #[.int .i64 (nuB (offs l (M 0)).2), .int .i64 (nuB (offs l (M 1)).2), .int .i64 (nuB (offs l (M 2)).2)], .int .i64 0]) = _
        rw [r0', r1', r2']
      · have h := rccheck_any (pw 4 x : Nat) a b c al ((sgE x (rcT a b c) : Nat) + 1) (sgS x (rcT a b c) + 1) W g ha hb hc
        rw [hrc] at h
        exact h
    · obtain ⟨rfl, rfl, rfl, rfl, rfl, rfl⟩ := rcF_zero hU hf
      have hff : f0 = 110 ∨ f0 = 430 ∨ f0 = 160 ∧ e0 = 160 := by
        rcases rcF_err hU hf with h | h | ⟨h, ht⟩
        · exact .inl h
        · exact .inr (.inl h)
        · refine .inr (.inr ⟨h, ?_⟩)
          rcases makeF_160 ((vd_iff _).2 vJ) hM with he | he
          · subst he; rw [makeF_chk hM] at ht; cases ht
          · exact he
      exact back_walk x a b c al n r0 r1 r2 0 0 0 e0 f0 0 0 0 0 0 0 sa sn sc l (fun _ => (0, 0)) _ w hG hS' h4 IX LX ⟨retC_one _ _ _ _ _⟩ HM1 HM2 ⟨.inr ⟨hf, rfl, rfl, rfl, rfl, rfl, rfl, hff⟩⟩
  · exact back_many x a b c al n r0 r1 r2 sa sn sc w hG h4
end Frk

namespace Go.Proofs.YtgdhjapnploaoaaDoor
open Go Go.RowKit Go.Proofs Go.ChangeShapes Go.WideShapes Go.ChangeAt Frk
set_option maxRecDepth 100000

theorem lifted (os : Os) (started : os.Started) (H : Type) (enc : TypeId × Value → H) :
    ReturnsInHanded {} Tryd.checked os 7 .any (fun w args => (Rows.receiptsBackSpec.pre enc Tryd.prog Tryd.f7 [] false w args ∧ laidMetH Tryd.prog laid w) ∧ sizedMet enc Tryd.prog Tryd.f7 (OpenSpec.ofChange Rows.receiptsBackSpec) false w args)
      (Rows.receiptsBackSpec.post enc Tryd.prog Tryd.f7 false true false false) := by
  refine returnsInHanded_of_change_and (C := Tryd.checked) (X := fun w _ => laidMetH Tryd.prog laid w) (fun _ _ _ hh h => h.of_heap hh) own started (by kernel_rfl) Tryd.func7
    (ChangeSpec.witness_shaped (enc := enc) (C := Tryd.checked) (os := os) (X := fun w _ => laidMetH Tryd.prog laid w) false (World.doorLaid Tryd.prog 400 os) #[.int .i64 0, .agg #[.int .i64 0, .int .i64 0, .int .i64 0], .slice none 0 0, .int .i64 0, .int .i64 0, .agg #[.int .i64 0, .int .i64 0, .int .i64 0]] 8 rfl (World.shaped_of_RefB (by kernel_rfl) (by kernel_rfl)) (by kernel_rfl) (by kernel_rfl) (by kernel_rfl) (door_met os _)) ?_
  intro W base args ds gs before hval0 hW _ _ hL _
  have hval : ∀ (j : Nat) t v, Tryd.f7.params[j]? = some t → args[j]? = some v → Value.okWide Tryd.prog W .any base t v := hval0
  have hW' := hW
  obtain ⟨p, q, hA0, hV, rfl, hfz, hnd⟩ := hW
  have hA : DataW.TrodAll enc Tryd.prog W 0 (fun _ => true) true Tryd.f7.params.toList args.toList ds p := hA0
  rw [Tryd.params7] at hA hval
  obtain ⟨args⟩ := args
  obtain ⟨v0, vs0, d0, ds0, p0, q0, e0, rfl, rfl, h0, hr0⟩ := trodAll_cons hA
  obtain ⟨v1, vs1, d1, ds1, p1, q1, e1, rfl, rfl, h1, hr1⟩ := trodAll_cons hr0
  obtain ⟨v2, vs2, d2, ds2, p2, q2, e2, rfl, rfl, h2, hr2⟩ := trodAll_cons hr1
  obtain ⟨v3, vs3, d3, ds3, p3, q3, e3, rfl, rfl, h3, hr3⟩ := trodAll_cons hr2
  obtain ⟨v4, vs4, d4, ds4, p4, q4, e4, rfl, rfl, h4, hr4⟩ := trodAll_cons hr3
  obtain ⟨v5, vs5, d5, ds5, p5, q5, e5, rfl, rfl, h5, hr5⟩ := trodAll_cons hr4
  obtain ⟨rfl, rfl, rfl⟩ := trodAll_nil hr5
  obtain rfl : args = [v0, v1, v2, v3, v4, v5] := by simpa [e1, e2, e3, e4, e5] using e0
  obtain ⟨x0, rfl, wx0⟩ := int_open (hval 0 3 v0 rfl rfl) h0
  obtain ⟨X1, Y1, Z1, rfl, rX1, rY1, rZ1⟩ := words_open (hval 1 23 v1 rfl rfl) h1
  obtain ⟨a2, n2, c2, l2, rfl, m2, wx2⟩ := ints_open (hval 2 54 v2 rfl rfl) h2
  obtain ⟨x3, rfl, wx3⟩ := int_open (hval 3 3 v3 rfl rfl) h3
  obtain ⟨x4, rfl, wx4⟩ := int_open (hval 4 3 v4 rfl rfl) h4
  obtain ⟨X5, Y5, Z5, rfl, rX5, rY5, rZ5⟩ := three_open (hval 5 22 v5 rfl rfl) h5
  obtain ⟨rfl, rfl⟩ := trodVars_none hV
  have hG := glob_of_laid hL
  refine (law_receiptsBack x0 X1 Y1 Z1 x3 x4 X5 Y5 Z5 a2 n2 c2 l2 W hG wx2 rX1 rY1 rZ1 wx4 rX5 rY5 rZ5).mono fun e W' ⟨he, hb⟩ => ?_
  subst he
  exact ⟨_, rfl, law_fin (by rw [Tryd.params7]; simp only [List.mem_cons, List.not_mem_nil, or_false]; intro t ht; rcases ht with rfl | rfl | rfl | rfl | rfl | rfl <;> exact ⟨by kernel_rfl, of_decide_eq_true (by kernel_rfl)⟩) (by kernel_rfl) rfl rfl hW' hb⟩

theorem receiptsBack_row : Rows.ReceiptsBackSaid :=
  OpenClaim.holds_of_wide 7 Tryd.f7 rfl rfl rfl rfl rfl rfl rfl ⟨rfl, rfl, rfl, rfl, rfl⟩ rfl rfl rfl rfl rfl (by kernel_rfl) Tryd.func7 (by kernel_rfl)
    (of_decide_eq_true (by kernel_rfl)) (by unfold Func.isWrapper; first | (rw [if_pos (by decide +kernel)]; kernel_rfl) | (rw [if_neg (by decide +kernel)]; exact ⟨rfl, rfl⟩))
    (fun os started H enc _ => lifted os started H enc)

theorem receiptsBack_holds : Rows.ReceiptsBackCardSaid :=
  Claim7.holds_tied_plain_at .later [] [.data, .data] true Rows.receiptsBackCard.stood.harness true
    receiptsBack_row (fun _ h => by cases h) (by kernel_rfl) (fun _ h => by cases h) receiptsBack_row_tie rfl ⟨rfl, rfl⟩ (by kernel_rfl) rfl
    (fun f fn hf hfn => by
      obtain rfl : f = 7 := Option.some.inj ((show Tryd.prog.funcNamed "franking/frankinglaw43.ReceiptsBack" = some 7 by kernel_rfl).symm.trans hf) |>.symm
      obtain rfl : fn = Tryd.f7 := (Option.some.inj (Tryd.func7.symm.trans hfn)).symm
      exact ⟨by kernel_rfl, fun j t ht => by
        rw [Tryd.params7] at ht
        have hm : t ∈ [3, 23, 54, 3, 3, 22] := by simpa using Array.mem_of_getElem? ht
        have hall : ([3, 23, 54, 3, 3, 22].all fun u => !Tryd.prog.wantsStandIn u) = true := by kernel_rfl
        exact (show Tryd.prog.wantsStandIn t = false by simpa using List.all_eq_true.1 hall t hm)⟩)
    (by kernel_rfl)
#print axioms receiptsBack_holds
end Go.Proofs.YtgdhjapnploaoaaDoor
