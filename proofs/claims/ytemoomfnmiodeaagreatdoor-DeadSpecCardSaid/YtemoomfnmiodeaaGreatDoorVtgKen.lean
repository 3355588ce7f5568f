/- Parts of the proof, joined. -/
import Derived.Test.YtemoomfnmiodeaaGreatDoorVtKsv
import Derived.Test.YtemoomfnmiodeaaGreatDoorVtRkw
import Derived.Test.YtemoomfnmiodeaaGreatDoorVtRlr
import Derived.Test.YtemoomfnmiodeaaGreatDoorVtgHop
import Derived.Test.YtemoomfnmiodeaaGreatDoorVtOsk
import Derived.Test.YtemoomfnmiodeaaGreatDoorVtgKeb
import Derived.Deep.Cut
/- Law 45: DeadSpec's walk. -/
namespace Frk
open Go Go.RowKit Go.Proofs
set_option maxRecDepth 100000

theorem keepL_ok {l : List Ltr} {k : Ltr} (hl : ∀ x ∈ l, x.ok) (hk : k.ok) : ∀ x ∈ keepL l k, x.ok := by
  intro x hx
  unfold keepL at hx
  split at hx
  · rcases mem_insK.1 hx with rfl | hx
    · exact hk
    · exact hl x hx
  · cases hx
set_option maxHeartbeats 16000000 in
theorem law_deadSpec (a : Option Addr) (n c : Nat) (l : List Ltr) (k : Ltr) (w : World) (hG : Glob w) (hl : n ≤ 5000 → IsC Ltr.C 38 w a n c l) (hok : ∀ x ∈ l, x.ok) (hk : k.ok) :
    Calls Tryz.prog 3 #[.slice a n c, .agg k.C.toArray] w fun e w' => e = .returned (.bool true) ∧ Below w.heap.size w w' := by
  obtain ⟨X, hX⟩ : ∃ X : World, X = w.alloc (.cells k.C.toArray 30) := ⟨_, rfl⟩
  have HB : Seal (Below w.heap.size w X) := ⟨by rw [hX]; exact below_alloc _ _⟩
  have hp : X.rangeAt w.heap.size 0 k.C := rangeAt_row (by rw [hX]; exact heap_alloc_new w _)
  have HG : Seal (∀ W, Below w.heap.size w W → Glob W) := ⟨fun W h => hG.below h⟩
  have HL : Seal (∀ W, Below w.heap.size w W → n ≤ 12 → IsC Ltr.C 38 W a n c l) := ⟨fun W h hn => (hl (by omega)).below h⟩
  have HOK := Seal.mk hok
  have HK := Seal.mk hk
  obtain ⟨gp, hgp⟩ : ∃ g, g = w.heap.size := ⟨_, rfl⟩
  obtain ⟨CK, hCK⟩ : ∃ L, L = k.C := ⟨_, rfl⟩
  have HCK := Seal.mk hCK
  rw [← hgp, ← hCK] at hp
  have KP : Seal (Ko X fun W => W.rangeAt gp 0 CK) := ⟨ko_range hp⟩
  have IK : Seal ((Tryz.prog.info? 30).map (·.size) = some CK.length) := ⟨by rw [hCK]; exact Ltr.info hk.t32⟩
  have ut := Tryz.underlying30
  have ud := Tryz.underlying26
  rw [← hCK] at hX ⊢
  clear hG hl hok hk hp hCK
  go_enter Tryz.func3, Tryz.ntmps3
  go_upto_region 1 with (fail)
  rw [← hX, ← hgp]
  clear hX hgp
  go_wp2_with fail
  refine (sane45_any X (HG.out _ HB.out)).mono ?_
  rintro e w1 ⟨rfl, hb⟩
  have HB := Seal.mk (HB.out.trans ((hb).mono HB.out.size))
  have KP := Seal.mk (KP.out.step (hb))
  clear hb
  go_wp2_with fail
  refine (kfew_any a n c w1).mono ?_
  rintro e w2 ⟨rfl, rfl⟩
  by_cases hn : n ≤ 12
  rotate_left
  · have q1 : decide (n ≤ 12) = false := decide_eq_false hn
    rw [q1]
    go_wp2
    go_ret
    exact ⟨rfl, HB.out⟩
  · have q1 : decide (n ≤ 12) = true := decide_eq_true hn
    rw [q1]
    clear q1
    have HN := Seal.mk hn
    clear hn
    obtain ⟨RE, hRE⟩ : ∃ e, e = chkL l := ⟨_, rfl⟩
    obtain ⟨D, hD⟩ : ∃ L, L = (rootF45 l).map B := ⟨_, rfl⟩
    obtain ⟨KE, hKE⟩ : ∃ e, e = keepE l k := ⟨_, rfl⟩
    obtain ⟨KL, hKL⟩ : ∃ e, e = keepL l k := ⟨_, rfl⟩
    have h32 := rootF45_len l
    have ID : Seal ((Tryz.prog.info? 26).map (·.size) = some D.length ∧ (#[.int .u8 0, .int .u8 0, .int .u8 0, .int .u8 0, .int .u8 0, .int .u8 0, .int .u8 0, .int .u8 0, .int .u8 0, .int .u8 0, .int .u8 0, .int .u8 0, .int .u8 0, .int .u8 0, .int .u8 0, .int .u8 0, .int .u8 0, .int .u8 0, .int .u8 0, .int .u8 0, .int .u8 0, .int .u8 0, .int .u8 0, .int .u8 0, .int .u8 0, .int .u8 0, .int .u8 0, .int .u8 0, .int .u8 0, .int .u8 0, .int .u8 0, .int .u8 0] : Array Value).size = D.toArray.size ∧ D.toArray.all (·.oneCell') = true ∧ ∀ w, (Op.equalIn 10000 26 (.agg D.toArray) (.agg D.toArray)).run Tryz.prog w = .ok true w) := ⟨by rw [hD]; exact dg_info _ h32, by show 32 = _; rw [List.size_toArray, hD, List.length_map, h32], by rw [hD]; simp [Value.oneCell'], fun w => by rw [hD, eqDg _ _ h32 h32]; simp⟩
    have HKok : Seal (∀ x ∈ KL, x.T.length = 32) := ⟨fun x hx => by rw [hKL] at hx; exact (keepL_ok HOK.out HK.out x hx).t32⟩
    have HR1 : Seal (∀ W, Below w.heap.size w W → Calls Tryz.prog 8 #[.slice a n c] W fun e w' => e = .returned (.tuple #[.agg D.toArray, .int .i64 RE]) ∧ Below W.heap.size W w') := ⟨fun W hW => by rw [hD, hRE]; exact kroot_any a n c l W (HG.out _ hW) (HL.out _ hW HN.out) HOK.out (by have := HN.out; omega)⟩
    have HR2 : Seal (∀ W, Below w.heap.size w W → Calls Tryz.prog 9 #[.slice a n c] W fun e w' => e = .returned (.tuple #[.agg D.toArray, .int .i64 RE]) ∧ Below W.heap.size W w') := ⟨fun W hW => by rw [hD, hRE]; exact rroot45_any a n c l W (HG.out _ hW) (HL.out _ hW HN.out) HOK.out (by have := HN.out; omega)⟩
    have HR3 : Seal (∀ W, Below w.heap.size w W → Calls Tryz.prog 10 #[.slice a n c, .agg CK.toArray] W (KeptPost KL KE W)) := ⟨fun W hW => by rw [hKL, hKE, HCK.out]; exact kkeep_any a n c l k W (HG.out _ hW) (HL.out _ hW HN.out) HOK.out HK.out⟩
    have HR4 : Seal (∀ W, Below w.heap.size w W → Calls Tryz.prog 11 #[.slice a n c, .agg CK.toArray] W (KeptPost KL KE W)) := ⟨fun W hW => by rw [hKL, hKE, HCK.out]; exact rkeep45_any a n c l k W (HG.out _ hW) (HL.out _ hW HN.out) HOK.out HK.out⟩
    have HR5 : Seal (∀ W, Below w.heap.size w W → Calls Tryz.prog 12 #[.slice a n c] W fun e w' => e = .returned (.int .i64 RE) ∧ Below W.heap.size W w') := ⟨fun W hW => by rw [hRE]; exact kchk_any a n c l W (HG.out _ hW) (HL.out _ hW HN.out) HOK.out⟩
    have HR6 : Seal (∀ W, Below w.heap.size w W → Calls Tryz.prog 13 #[.slice a n c] W fun e w' => e = .returned (.int .i64 RE) ∧ Below W.heap.size W w') := ⟨fun W hW => by rw [hRE]; exact rcheck45_any a n c l W (HG.out _ hW) (HL.out _ hW HN.out) HOK.out⟩
    clear hRE hD hKE hKL h32
    go_wp2_with fail
    refine (HR1.out w1 HB.out).mono ?_
    rintro e w2 ⟨rfl, hb⟩
    have HB := Seal.mk (HB.out.trans ((hb).mono HB.out.size))
    have KP := Seal.mk (KP.out.step (hb))
    clear hb HR1
    obtain ⟨V, g5, hg, n1, n2, n3, n4, n5, n6⟩ := newv w2 #[.int .u8 0, .int .u8 0, .int .u8 0, .int .u8 0, .int .u8 0, .int .u8 0, .int .u8 0, .int .u8 0, .int .u8 0, .int .u8 0, .int .u8 0, .int .u8 0, .int .u8 0, .int .u8 0, .int .u8 0, .int .u8 0, .int .u8 0, .int .u8 0, .int .u8 0, .int .u8 0, .int .u8 0, .int .u8 0, .int .u8 0, .int .u8 0, .int .u8 0, .int .u8 0, .int .u8 0, .int .u8 0, .int .u8 0, .int .u8 0, .int .u8 0, .int .u8 0] D 26
    have HB := Seal.mk (HB.out.trans ((n4).mono HB.out.size))
    have KP := Seal.mk (KP.out.step (n4))
    have K5 := Seal.mk n3
    have hgn := hg.symm
    clear hg n3 n4 n5 n6
    go_wp2_with
      (refine wpList_store_row rfl 26 (.tmp 5) (.tmp 21) rfl g5 D.toArray rfl rfl 26 _ n2 (by simpa using ID.out.1) ID.out.2.1 ID.out.2.2.1 ?_; rw [n1]; clear n1 n2 hgn; (try simp only [Act.put]))
    refine (HR2.out V HB.out).mono ?_
    rintro e w3 ⟨rfl, hb⟩
    have HB := Seal.mk (HB.out.trans ((hb).mono HB.out.size))
    have KP := Seal.mk (KP.out.step (hb))
    have K5 := Seal.mk (K5.out.step hb)
    clear hb HR2
    obtain ⟨Z, g7, hg, n1, n2, n3, n4, n5, n6⟩ := newv w3 #[.int .u8 0, .int .u8 0, .int .u8 0, .int .u8 0, .int .u8 0, .int .u8 0, .int .u8 0, .int .u8 0, .int .u8 0, .int .u8 0, .int .u8 0, .int .u8 0, .int .u8 0, .int .u8 0, .int .u8 0, .int .u8 0, .int .u8 0, .int .u8 0, .int .u8 0, .int .u8 0, .int .u8 0, .int .u8 0, .int .u8 0, .int .u8 0, .int .u8 0, .int .u8 0, .int .u8 0, .int .u8 0, .int .u8 0, .int .u8 0, .int .u8 0, .int .u8 0] D 26
    have HB := Seal.mk (HB.out.trans ((n4).mono HB.out.size))
    have KP := Seal.mk (KP.out.step (n4))
    have K5 := Seal.mk (K5.out.step n4)
    have K7 := Seal.mk n3
    have hgn := hg.symm
    have rP := KP.out.at
    have iK := IK.out
    clear hg n3 n4 n5 n6
    go_wp2_with (first
      |
      (refine wpList_load_mid_g (by kernel_rfl) 30 (.tmp 3) rfl gp 0 rfl CK _ rP ut rfl iK ?_; (try simp only [Act.put, List.setIfInBounds_toArray, List.set_cons_zero, List.set_cons_succ]))
      |
      (refine wpList_store_row rfl 26 (.tmp 7) (.tmp 26) rfl g7 D.toArray rfl rfl 26 _ n2 (by simpa using ID.out.1) ID.out.2.1 ID.out.2.2.1 ?_; rw [n1]; clear n1 n2 hgn; (try simp only [Act.put]))
      )
    refine (HR3.out Z HB.out).mono ?_
    rintro e w4 ⟨a9, n9, c9, rfl, hi, hb⟩
    have HB := Seal.mk (HB.out.trans ((hb).mono HB.out.size))
    have KP := Seal.mk (KP.out.step (hb))
    have K5 := Seal.mk (K5.out.step hb)
    have K7 := Seal.mk (K7.out.step hb)
    have K9 := Seal.mk (ko_isC hi.out)
    clear hb HR3 hi rP
    have rP := KP.out.at
    go_wp2_with
      (refine wpList_load_mid_g (by kernel_rfl) 30 (.tmp 3) rfl gp 0 rfl CK _ rP ut rfl iK ?_; (try simp only [Act.put, List.setIfInBounds_toArray, List.set_cons_zero, List.set_cons_succ]))
    refine (HR4.out w4 HB.out).mono ?_
    rintro e w5 ⟨aB, nB, cB, rfl, hi, hb⟩
    have HB := Seal.mk (HB.out.trans ((hb).mono HB.out.size))
    have KP := Seal.mk (KP.out.step (hb))
    have K5 := Seal.mk (K5.out.step hb)
    have K7 := Seal.mk (K7.out.step hb)
    have K9 := Seal.mk (K9.out.step hb)
    have KB := Seal.mk (ko_isC hi.out)
    clear hb HR4 hi rP iK
    go_wp2_with fail
    refine (HR5.out w5 HB.out).mono ?_
    rintro e w6 ⟨rfl, hb⟩
    have HB := Seal.mk (HB.out.trans ((hb).mono HB.out.size))
    have KP := Seal.mk (KP.out.step (hb))
    have K5 := Seal.mk (K5.out.step hb)
    have K7 := Seal.mk (K7.out.step hb)
    have K9 := Seal.mk (K9.out.step hb)
    have KB := Seal.mk (KB.out.step hb)
    clear hb HR5
    go_wp2_with fail
    refine (HR6.out w6 HB.out).mono ?_
    rintro e w7 ⟨rfl, hb⟩
    have HB := Seal.mk (HB.out.trans ((hb).mono HB.out.size))
    have KP := Seal.mk (KP.out.step (hb))
    have r5 := (K5.out.step hb).at
    have r7 := (K7.out.step hb).at
    have K9 := Seal.mk (K9.out.step hb)
    have KB := Seal.mk (KB.out.step hb)
    have i5 := ID.out.1
    have qe := ID.out.2.2.2
    clear hb HR6 K5 K7
    have hS : Calls Tryz.prog 14 #[.slice a9 n9 c9, .slice aB nB cB] w7 fun e w' => e = .returned (.bool true) ∧ Below w7.heap.size w7 w' := by
      have h := rsameK_any a9 aB n9 c9 nB cB KL KL w7 K9.out.at KB.out.at HKok.out HKok.out
      rwa [decide_eq_true rfl] at h
    go_wp2_with (first
      | (refine wpList_load_mid_g (by kernel_rfl) 26 (.tmp 5) rfl g5 0 rfl D _ r5 ud rfl i5 ?_; (try simp only [Act.put, List.setIfInBounds_toArray, List.set_cons_zero, List.set_cons_succ]))
      | (refine wpList_load_mid_g (by kernel_rfl) 26 (.tmp 7) rfl g7 0 rfl D _ r7 ud rfl i5 ?_; (try simp only [Act.put, List.setIfInBounds_toArray, List.set_cons_zero, List.set_cons_succ])))
    refine hS.mono ?_
    rintro e w8 ⟨rfl, hb⟩
    have HB := Seal.mk (HB.out.trans ((hb).mono HB.out.size))
    have KP := Seal.mk (KP.out.step (hb))
    clear hb hS K9 KB r5 r7 i5 qe
    go_wp2
    go_ret
    exact ⟨rfl, HB.out⟩
end Frk

/- Words, arrays and numbers that came in. -/
namespace Frk
open Go Go.RowKit Go.Proofs Go.ChangeShapes Go.WideShapes Go.ChangeAt
set_option maxRecDepth 100000

section
variable {H : Type} {enc : TypeId × Value → H} {W : World} {base : Nat} {sp : Nat → Bool} {hd : Bool} {fuel : Nat} {cs : List Value} {x : DataW H × List MemPlace}

theorem cells_cipher_k (h : DataW.trod enc Tryz.prog W base sp hd fuel 24 cs = some x) : ∃ P Q, cs = [.int .i64 P, .int .i64 Q] ∧ I64 P ∧ I64 Q := by
  obtain ⟨y0, y1, n, _, hl, h0, h1⟩ := trod_struct2 Tryz.underlying24 h
  have c1 : Tryz.prog.cellsOf 3 = 1 := by kernel_rfl
  have c2 : Tryz.prog.cellsOf 24 = 2 := by kernel_rfl
  rw [c2] at hl
  simp only [c1] at h0 h1
  obtain ⟨P, e0, hP⟩ := cells_int h0
  obtain ⟨Q, e1, hQ⟩ := cells_int h1
  match cs, hl with
  | [a, b], _ =>
    simp at e0 e1
    subst e0; subst e1
    exact ⟨P, Q, rfl, hP, hQ⟩

theorem cells_ret (h : DataW.trod enc Tryz.prog W base sp hd fuel 28 cs = some x) : ∃ L K P Q T, cs = retC L K P Q T ∧ I64 L ∧ I64 K ∧ I64 P ∧ I64 Q ∧ T.length = 32 := by
  obtain ⟨xs, n, _, _, hl, hlen, hg⟩ := DataW.trod_struct Tryz.underlying28 h
  have c1 : Tryz.prog.cellsOf 3 = 1 := by kernel_rfl
  have c2 : Tryz.prog.cellsOf 24 = 2 := by kernel_rfl
  have c3 : Tryz.prog.cellsOf 26 = 32 := by kernel_rfl
  have c4 : Tryz.prog.cellsOf 28 = 36 := by kernel_rfl
  rw [c4] at hl
  match xs, hlen with
  | [y0, y1, y2, y3], _ =>
    have g0 : DataW.trod enc Tryz.prog W base sp hd n 3 ((cs.drop 0).take (Tryz.prog.cellsOf 3)) = some y0 := hg 0 _ rfl
    have g1 : DataW.trod enc Tryz.prog W base sp hd n 3 ((cs.drop 1).take (Tryz.prog.cellsOf 3)) = some y1 := hg 1 _ rfl
    have g2 : DataW.trod enc Tryz.prog W base sp hd n 24 ((cs.drop 2).take (Tryz.prog.cellsOf 24)) = some y2 := hg 2 _ rfl
    have g3 : DataW.trod enc Tryz.prog W base sp hd n 26 ((cs.drop 4).take (Tryz.prog.cellsOf 26)) = some y3 := hg 3 _ rfl
    rw [c1] at g0 g1
    rw [c2] at g2
    rw [c3] at g3
    obtain ⟨L, e0, hL⟩ := cells_int g0
    obtain ⟨K, e1, hK⟩ := cells_int g1
    obtain ⟨P, Q, e2, hP, hQ⟩ := cells_cipher_k g2
    obtain ⟨T, hT, e3⟩ := cells_digest g3
    refine ⟨L, K, P, Q, T, ?_, hL, hK, hP, hQ, hT⟩
    rw [List.take_of_length_le (by rw [List.length_drop]; omega)] at e3
    match cs, hl with
    | a :: b :: c :: d :: r, _ =>
      simp at e0 e1 e2 e3
      obtain ⟨rfl, rfl⟩ := e2
      subst e0; subst e1; subst e3
      rfl
end

end Frk

/- Law 45: kept letters as arguments; slices of rows as arguments. -/
namespace Frk
open Go Go.RowKit Go.Proofs Go.ChangeShapes Go.WideShapes Go.ChangeAt
set_option maxRecDepth 100000
section
variable {H : Type} {enc : TypeId × Value → H} {W : World} {base : Nat} {sp : Nat → Bool} {hd : Bool} {fuel : Nat} {cs : List Value} {x : DataW H × List MemPlace}

/-- a slice of rows that came in -/
theorem rows_open {α : Type} {C : α → List Value} {ok : α → Prop} {z : Nat} {t e : TypeId} (ht : Tryz.prog.underlying t = some (.slice e)) (c1 : Tryz.prog.cellsOf e = z) (hz : 0 < z) (hlen : ∀ k, ok k → (C k).length = z)
    (hcells : ∀ (n : Nat) (cs : List Value) (x : DataW H × List MemPlace), DataW.trod enc Tryz.prog W 0 (fun _ => true) true n e cs = some x → ∃ k, cs = C k ∧ ok k)
    (hf : DataW.trod enc Tryz.prog W 0 (fun _ => true) true fuel t cs = some x) :
    ∃ a len cap l, cs = [.slice a len cap] ∧ (len : Int) ≤ 9223372036854775807 ∧ (∀ x ∈ l, ok x) ∧ (len ≤ 5000 → IsC C z W a len cap l) ∧ (cap = 0 ∨ ∃ g off, a = some ⟨g, off, none⟩) := by
  rcases DataW.trod_slice ht hf with ⟨hcs, hx⟩ | ⟨a, len, cap, elems, rest, n, hn, hcs, hx, hb, hl, hm, hel, hat, hsp, _⟩
  · exact ⟨none, 0, 0, [], hcs, by decide, by simp, fun _ => ⟨rfl, Nat.le_refl _, by decide, by decide, by simp, .inl rfl⟩, .inl rfl⟩
  · rw [c1] at hat hsp
    obtain ⟨hrl, hrest⟩ := hsp rfl
    unfold maxLen at hm
    have hall : ∀ i, i < cap → ∃ T : α, ok T ∧ W.cells? 0 (a.add (i * z)) z = some (C T) := fun i hi => by
      have key : ∃ y, (W.cells? 0 (a.add (i * z)) z).bind (DataW.trod enc Tryz.prog W 0 (fun _ => true) true n e) = some y := by
        by_cases h : i < len
        · exact ⟨_, (hat i h).trans (List.getElem?_eq_getElem (by omega))⟩
        · have := hrest (i - len) (by omega)
          rw [show len + (i - len) = i from by omega] at this
          exact ⟨_, this.trans (List.getElem?_eq_getElem (by omega))⟩
      obtain ⟨y, hy⟩ := key
      obtain ⟨cs, h1, h2⟩ := Option.bind_eq_some_iff.1 hy
      obtain ⟨T, rfl, hT⟩ := hcells _ _ _ h2
      exact ⟨T, hT, h1⟩
    have hrow : ∀ m, m ≤ len → ∃ l : List α, l.length = m ∧ (∀ d ∈ l, ok d) ∧ ∀ j u, (l.flatMap C)[j]? = some u → W.cell? (a.add j) = some u := by
      intro m
      induction m with
      | zero => exact fun _ => ⟨[], rfl, by simp, fun j u h => by simp at h⟩
      | succ m ih =>
        intro hm'
        obtain ⟨l, h1, h2, h3⟩ := ih (by omega)
        obtain ⟨T, hT, hc⟩ := hall m (by omega)
        refine ⟨l ++ [T], by simp [h1], ?_, fun j u hj => ?_⟩
        · intro d hd
          rcases List.mem_append.1 hd with h | h
          · exact h2 d h
          · rw [List.mem_singleton.1 h]; exact hT
        · rw [List.flatMap_append, show [T].flatMap C = C T from by simp] at hj
          have hdl := isC_flat_len (C := C) (z := z) (l := l) fun x hx => hlen x (h2 x hx)
          by_cases hjl : j < m * z
          · rw [List.getElem?_append_left (by rw [hdl, h1]; exact hjl)] at hj
            exact h3 j u hj
          · rw [List.getElem?_append_right (by rw [hdl, h1]; omega), hdl, h1] at hj
            have hj32 : j - m * z < z := by have := (List.getElem?_eq_some_iff.1 hj).1; rwa [hlen T hT] at this
            have := (World.cells?_some hc).2.2 (j - m * z) hj32
            rw [hj] at this
            rw [Addr.add_add, show m * z + (j - m * z) = j from by omega] at this
            exact this
    obtain ⟨l, hl1, hl2, hl3⟩ := hrow len (Nat.le_refl _)
    have hspot : 0 < cap → a = ⟨a.block, a.off, none⟩ ∧ a.block < W.heap.size := fun h => by
      obtain ⟨T, hT, hc⟩ := hall 0 h
      have h0 := (World.cells?_some hc).2.2 0 hz
      rw [List.getElem?_eq_getElem (show 0 < (C T).length by rw [hlen T hT]; exact hz)] at h0
      obtain ⟨ab, ao, spot⟩ := a
      have hspot : spot = none := by simpa [Addr.add] using World.cell?_spot h0
      subst hspot
      refine ⟨rfl, ?_⟩
      rw [Addr.add_add, Addr.add_mid] at h0
      have := block_lt_of_cell h0
      exact this
    refine ⟨some a, len, cap, l, hcs, by omega, hl2, fun h40 => ⟨hl1, hl, h40, by omega, fun x hx => hlen x (hl2 x hx), ?_⟩, ?_⟩
    · rcases Nat.eq_zero_or_pos len with h0 | h0
      · exact .inl h0
      · right
        obtain ⟨ea, hlt⟩ := hspot (by omega)
        refine ⟨a.block, a.off, by rw [← ea], fun j u hu => ?_, hlt⟩
        have := hl3 j u hu
        rw [ea, Addr.add_mid] at this
        exact this
    · rcases Nat.eq_zero_or_pos cap with h0 | h0
      · exact .inl h0
      · exact .inr ⟨a.block, a.off, by rw [← (hspot h0).1]⟩

theorem cells_kept (h : DataW.trod enc Tryz.prog W base sp hd fuel 30 cs = some x) : ∃ k : Ltr, cs = k.C ∧ k.ok := by
  obtain ⟨y0, y1, y2, n, _, hl, h0, h1, h2⟩ := Deep.trod_struct3 Tryz.underlying30 h
  have c1 : Tryz.prog.cellsOf 3 = 1 := by kernel_rfl
  have c2 : Tryz.prog.cellsOf 28 = 36 := by kernel_rfl
  have c3 : Tryz.prog.cellsOf 30 = 38 := by kernel_rfl
  rw [c3] at hl
  simp only [c1, c2] at h0 h1 h2
  obtain ⟨N, e0, hN⟩ := cells_int h0
  obtain ⟨U, e1, hU⟩ := cells_int h1
  obtain ⟨L, K, P, Q, T, e2, hL, hK, hP, hQ, hT⟩ := cells_ret h2
  refine ⟨⟨N, U, L, K, P, Q, T⟩, ?_, hN, hU, hL, hK, hP, hQ, hT⟩
  rw [List.take_of_length_le (by rw [List.length_drop]; omega)] at e2
  match cs, hl with
  | a :: b :: r, _ =>
    simp at e0 e1 e2
    subst e0; subst e1; subst e2
    rfl
theorem kepts_open {v : Value} {d : DataW H} {p : List MemPlace} (hval : Value.okWide Tryz.prog W .any base 22 v) (h1 : DataW.Trod enc Tryz.prog W 0 (fun _ => true) true 22 v d p) :
    ∃ a n c l, v = .slice a n c ∧ (n : Int) ≤ 9223372036854775807 ∧ (∀ x ∈ l, Ltr.ok x) ∧ (n ≤ 5000 → IsC Ltr.C 38 W a n c l) ∧ (c = 0 ∨ ∃ g off, a = some ⟨g, off, none⟩) := by
  obtain ⟨a1, len, cap, rfl⟩ := okWide_slice Tryz.underlying22 hval
  obtain ⟨fuel, hf⟩ := h1
  obtain ⟨a, n, c, l, e, hm, hok, hd, hx⟩ := rows_open (C := Ltr.C) (ok := Ltr.ok) (z := 38) Tryz.underlying22 (by kernel_rfl) (by decide) (fun _ h => Ltr.C_len h.t32) (fun n cs x h => cells_kept h) hf
  simp [Value.cells] at e
  obtain ⟨rfl, rfl, rfl⟩ := e
  exact ⟨_, _, _, l, rfl, hm, hok, hd, hx⟩
theorem kept_open {v : Value} {d : DataW H} {p : List MemPlace} (hval : Value.okWide Tryz.prog W .any base 30 v) (h1 : DataW.Trod enc Tryz.prog W 0 (fun _ => true) true 30 v d p) :
    ∃ k : Ltr, v = .agg k.C.toArray ∧ k.ok := by
  obtain ⟨cs, rfl, hsz⟩ := okWide_struct Tryz.underlying30 hval
  obtain ⟨fuel, hf⟩ := h1
  obtain ⟨k, e, h⟩ := cells_kept hf
  have e' : cs.toList = k.C := e
  exact ⟨k, by rw [← e'], h⟩
end
end Frk

