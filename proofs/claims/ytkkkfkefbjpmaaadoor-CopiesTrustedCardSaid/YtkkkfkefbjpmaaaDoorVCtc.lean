/- The statement CopiesTrusted of frankinglaw51 holds: for every input the law returns true, and each argument reads afterwards as it read before. Conditions: those of the row (the listed variables start as the program's text lays them; the card ties them). -/
import Derived.Test.YtkkkfkefbjpmaaaDoorVCxc
import Derived.Test.YtkkkfkefbjpmaaaDoorVHop
import Derived.Test.YtkkkfkefbjpmaaaDoorVCxa
import Derived.Deep.Cut
import Derived.Test.YtkkkfkefbjpmaaaDoorVHol
namespace Frk
open Go Go.RowKit Go.Proofs
set_option maxRecDepth 100000

theorem fdF_lie (ks : List Int) (l : List Hd) (o : Int) : LieP (sgd ks l) o (fdF (sgd ks l) o) := fdF_spec _ _ rfl sgd_fm o
theorem fd_of {ks : List Int} {l : List Hd} {o : Int} {r : Option (Hd × Hd)} (h : LieP (sgd ks l) o r) : fdF (sgd ks l) o = r := (fdF_lie ks l o).unique h
theorem sgd_mem {ks : List Int} {l : List Hd} {h : Hd} : h ∈ sgd ks l ↔ h ∈ l ∧ sgn ks h = true := List.mem_filter
theorem sgn_iff (ks : List Int) (h : Hd) : sgn ks h = true ↔ 0 ≤ h.fr ∧ h.fr < (ks.length : Int) ∧ chB (ks.getD h.fr.toNat 0) h = true := by
  unfold sgn
  simp only [Bool.and_eq_true, decide_eq_true_eq]

/-- what is found, at one of its places -/
theorem fnd_mem {ks : List Int} {l : List Hd} (h24 : ks.length ≤ 24) {x : Hd × Hd} : x ∈ fnd ks l ↔ 0 ≤ x.1.fr ∧ x.1.fr < (ks.length : Int) ∧ fdF (sgd ks l) x.1.fr = some x := by
  unfold fnd fndP
  rw [if_neg (by omega), List.mem_filterMap]
  constructor
  · rintro ⟨o, ho, e⟩
    have hl := fdF_lie ks l (o : Int)
    rw [e] at hl
    obtain ⟨a, b⟩ := x
    have hf : a.fr = (o : Int) := hl.1
    rw [List.mem_range] at ho
    show 0 ≤ a.fr ∧ a.fr < _ ∧ fdF _ a.fr = _
    rw [hf]
    exact ⟨by omega, by omega, e⟩
  · rintro ⟨h1, h2, e⟩
    refine ⟨x.1.fr.toNat, List.mem_range.2 (by omega), ?_⟩
    rw [show ((x.1.fr.toNat : Nat) : Int) = x.1.fr from by omega]
    exact e

/-- an office is among those found when its hand-overs clash -/
theorem fnd_any {ks : List Int} {l : List Hd} (h24 : ks.length ≤ 24) {h : Hd} (hs : sgn ks h = true) : (fnd ks l).any (fun x => decide (x.1.fr = h.fr)) = !(fdF (sgd ks l) h.fr).isNone := by
  have hh := (sgn_iff ks h).1 hs
  cases e : fdF (sgd ks l) h.fr with
  | none =>
    rw [List.any_eq_false.2]
    · rfl
    · intro x hx hd
      have hd := of_decide_eq_true hd
      have := (fnd_mem h24).1 hx
      rw [hd, e] at this
      exact absurd this.2.2 (by simp)
  | some x =>
    rw [List.any_eq_true.2]
    · rfl
    · have hl := fdF_lie ks l h.fr
      rw [e] at hl
      obtain ⟨a, b⟩ := x
      have hf : a.fr = h.fr := hl.1
      exact ⟨(a, b), (fnd_mem h24).2 ⟨by show 0 ≤ a.fr; omega, by show a.fr < _; omega, by show fdF _ a.fr = _; rw [hf]; exact e⟩, decide_eq_true hf⟩

/-- who is trusted, told by what is found -/
def wnt (ks : List Int) (F : List (Hd × Hd)) (h : Hd) : Bool := sgn ks h && !(F.any (fun x => decide (x.1.fr = h.fr)))
theorem trs_wnt (ks : List Int) (l : List Hd) (h24 : ks.length ≤ 24) : trs ks l = l.filter (wnt ks (fnd ks l)) := by
  unfold trs trsP
  rw [if_neg (by omega)]
  have e1 : sgd ks l = l.filter (sgn ks) := rfl
  conv => lhs; arg 2; rw [e1]
  rw [List.filter_filter]
  refine List.filter_congr fun h _ => ?_
  unfold wnt
  cases hs : sgn ks h with
  | false => simp
  | true => rw [fnd_any h24 hs, Bool.and_true, Bool.not_not, Bool.true_and]

theorem trs_mem {ks : List Int} {l : List Hd} (h24 : ks.length ≤ 24) {h : Hd} : h ∈ trs ks l ↔ h ∈ sgd ks l ∧ fdF (sgd ks l) h.fr = none := by
  unfold trs trsP
  rw [if_neg (by omega), List.mem_filter, Option.isNone_iff_eq_none]
theorem trs_sgd (ks : List Int) (l : List Hd) (h24 : ks.length ≤ 24) : sgd ks (trs ks l) = trs ks l :=
  List.filter_eq_self.2 fun _ hh => (sgd_mem.1 ((trs_mem h24).1 hh).1).2
/-- what is trusted has no lies -/
theorem trs_clean (ks : List Int) (l : List Hd) (h24 : ks.length ≤ 24) (o : Int) : fdF (sgd ks (trs ks l)) o = none := by
  refine fd_of (r := none) ?_
  intro a ha b hb ho
  rw [trs_sgd ks l h24] at ha hb
  have h1 := (trs_mem h24).1 ha
  have h2 := (trs_mem h24).1 hb
  have hl := fdF_lie ks l a.fr
  rw [h1.2] at hl
  exact hl a h1.1 b h2.1 rfl
theorem fnd_trs (ks : List Int) (l : List Hd) (h24 : ks.length ≤ 24) : fnd ks (trs ks l) = [] := by
  refine List.eq_nil_iff_forall_not_mem.2 fun x hx => ?_
  have := (fnd_mem h24).1 hx
  rw [trs_clean ks l h24] at this
  exact absurd this.2.2 (by simp)
theorem trs_trs (ks : List Int) (l : List Hd) (h24 : ks.length ≤ 24) : trs ks (trs ks l) = trs ks l := by
  have e : ∀ m : List Hd, trs ks m = (sgd ks m).filter (fun h => (fdF (sgd ks m) h.fr).isNone) := fun m => by
    unfold trs trsP
    rw [if_neg (by omega)]
  rw [e (trs ks l), trs_sgd ks l h24]
  refine List.filter_eq_self.2 fun h _ => ?_
  have := trs_clean ks l h24 h.fr
  rw [trs_sgd ks l h24] at this
  rw [this]
  rfl

/-- what is found, told for the law CopiesCaught -/
theorem fnd_at {ks : List Int} {l : List Hd} (h24 : ks.length ≤ 24) {x : Hd × Hd} (hx : x ∈ fnd ks l) :
    x.1 ∈ l ∧ x.2 ∈ l ∧ 0 ≤ x.1.fr ∧ x.1.fr < (ks.length : Int) ∧ chL (ks.getD x.1.fr.toNat 0) x.1 x.2 = true := by
  have h := (fnd_mem h24).1 hx
  have hl := fdF_lie ks l x.1.fr
  rw [h.2.2] at hl
  obtain ⟨a, b⟩ := x
  have hm := hl.some_mem
  have ha := sgd_mem.1 hm.1
  have hb := sgd_mem.1 hm.2.1
  have hs := (cq_sl a b).1 (cq_cl hm.2.2).2.2
  refine ⟨ha.1, hb.1, h.1, h.2.1, ?_⟩
  show chL (ks.getD a.fr.toNat 0) a b = true
  unfold chL
  have h1 := ((sgn_iff ks a).1 ha.2).2.2
  have h2 := ((sgn_iff ks b).1 hb.2).2.2
  rw [← hs.2.2.2.2] at h2
  rw [hm.2.2, h1, h2]
  rfl
/-- offices come in order -/
theorem fnd_up {ks : List Int} {l : List Hd} (h24 : ks.length ≤ 24) : (fnd ks l).Pairwise (fun x y => x.1.fr < y.1.fr) := by
  unfold fnd fndP
  rw [if_neg (by omega), List.pairwise_filterMap]
  refine List.Pairwise.imp ?_ List.pairwise_lt_range
  intro i j hij x hx y hy
  have h1 := fdF_lie ks l (i : Int)
  have h2 := fdF_lie ks l (j : Int)
  rw [hx] at h1
  rw [hy] at h2
  have e1 : x.1.fr = (i : Int) := h1.1
  have e2 : y.1.fr = (j : Int) := h2.1
  omega
/-- two signed hand-overs that clash are found, with their slot or an earlier one -/
theorem fnd_hit {ks : List Int} {l : List Hd} (h24 : ks.length ≤ 24) {a b : Hd} (ha : a ∈ l) (hb : b ∈ l) (hc : clB a b = true) (h0 : 0 ≤ a.fr) (h1 : a.fr < (ks.length : Int)) (c1 : chB (ks.getD a.fr.toNat 0) a = true) (c2 : chB (ks.getD a.fr.toNat 0) b = true) :
    ∃ x ∈ fnd ks l, x.1.fr = a.fr ∧ befB a x.1 = false := by
  have hs := (cq_sl a b).1 (cq_cl hc).2.2
  have sa : a ∈ sgd ks l := sgd_mem.2 ⟨ha, (sgn_iff ks a).2 ⟨h0, h1, c1⟩⟩
  have sb : b ∈ sgd ks l := sgd_mem.2 ⟨hb, (sgn_iff ks b).2 ⟨by omega, by omega, by rw [← hs.2.2.2.2]; exact c2⟩⟩
  have hl := fdF_lie ks l a.fr
  cases e : fdF (sgd ks l) a.fr with
  | none =>
    rw [e] at hl
    have := hl a sa b sb rfl
    rw [hc] at this
    cases this
  | some x =>
    rw [e] at hl
    obtain ⟨A, B⟩ := x
    have hf : A.fr = a.fr := hl.1
    exact ⟨(A, B), (fnd_mem h24).2 ⟨by show 0 ≤ A.fr; omega, by show A.fr < _; omega, by show fdF _ A.fr = _; rw [hf]; exact e⟩, hf, hl.2.2.2 a sa b sb rfl hc⟩
end Frk

namespace Frk
open Go Go.RowKit Go.Proofs
set_option maxRecDepth 100000

def wk (ks : List Int) (F : List (Hd × Hd)) (l : List Hd) : List Hd := l.filter (wnt ks F)
theorem wk_take {ks : List Int} {F : List (Hd × Hd)} {l : List Hd} {k : Nat} {h : Hd} (e : l[k]? = some h) : wk ks F (l.take (k + 1)) = wk ks F (l.take k) ++ (if wnt ks F h = true then [h] else []) := by
  unfold wk
  rw [List.take_add_one, e, List.filter_append]
  cases hw : wnt ks F h <;> simp [hw]
def anyF (F : List (Hd × Hd)) (fr : Int) : Bool := F.any (fun x => decide (x.1.fr = fr))
theorem anyF_take {F : List (Hd × Hd)} {fr : Int} {k : Nat} {x : Hd × Hd} (e : F[k]? = some x) : anyF (F.take (k + 1)) fr = (anyF (F.take k) fr || (x.1.fr == fr)) := by
  unfold anyF
  rw [List.take_add_one, e, List.any_append]
  by_cases hx : x.1.fr = fr <;> simp [hx]

set_option maxHeartbeats 4000000 in
theorem trusted_many (n c kn kc : Nat) (a ka : Option Addr) (w : World) (hG : Glob w) (hn : ¬ (kn ≤ 30 ∧ n ≤ 16)) :
    Calls Tryd.prog 10 #[.slice ka kn kc, .slice a n c] w fun e w' => e = .returned (.bool true) ∧ Below w.heap.size w w' := by
  have HFew : Seal ((decide (kn ≤ 30) && decide (n ≤ 16)) = false) := ⟨by rw [Bool.and_eq_false_iff, decide_eq_false_iff_not, decide_eq_false_iff_not]; omega⟩
  have HB : Seal (Below w.heap.size w w) := ⟨Below.refl _ _⟩
  have HE : Seal (Env w none 0 0 [] []) := ⟨⟨hG, isB_nil w, by intro q hq; cases hq⟩⟩
  clear hG hn
  go_enter Tryd.func10, Tryd.ntmps10
  go_wp2_with fail
  refine (sane51_any w HE.out.glob).mono ?_
  rintro e w1 ⟨rfl, hb⟩
  have HB2 := Seal.mk (HB.out.trans (hb.mono HB.out.size))
  clear hb HB HE
  go_wp2_with fail
  refine (rfew_any a ka n c kn kc _ w1 HFew.out).mono ?_
  rintro e w2 ⟨rfl, rfl⟩
  go_wp2
  go_ret
  exact ⟨rfl, HB2.out⟩

set_option maxHeartbeats 8000000 in
theorem trusted_over (n c kn kc : Nat) (a ka : Option Addr) (l : List Hd) (ks : List Int) (w : World) (hG : Glob w) (hl : IsHs w a n c l) (hk : IsKs w ka kn kc ks) (hn : kn ≤ 30 ∧ n ≤ 16) (h24 : 24 < kn) :
    Calls Tryd.prog 10 #[.slice ka kn kc, .slice a n c] w fun e w' => e = .returned (.bool true) ∧ Below w.heap.size w w' := by
  have HFew : Seal ((decide (kn ≤ 30) && decide (n ≤ 16)) = true) := ⟨by rw [Bool.and_eq_true, decide_eq_true_eq, decide_eq_true_eq]; exact hn⟩
  have hkl := hk.llen
  have HL : Seal (IsHs w a n c l) := ⟨hl⟩
  have HK : Seal (IsKs w ka kn kc ks) := ⟨hk⟩
  obtain ⟨FL, hFL⟩ : ∃ F, F = fnd ks l := ⟨_, rfl⟩
  obtain ⟨TL, hTL⟩ : ∃ F, F = trs ks l := ⟨_, rfl⟩
  obtain ⟨er, her⟩ : ∃ F, F = ler ks := ⟨_, rfl⟩
  obtain ⟨fn, hfn⟩ : ∃ F, F = FL.length := ⟨_, rfl⟩
  obtain ⟨tn, htn⟩ : ∃ F, F = TL.length := ⟨_, rfl⟩
  have HFL : Seal ((∀ x ∈ FL, x.1.ok ∧ x.2.ok) ∧ FL.length ≤ 5000) := ⟨by rw [hFL]; exact ⟨fnd_ok hl.each, Nat.le_trans (fnd_len _ _) (by decide)⟩⟩
  have htl16 : TL.length ≤ 16 := by rw [hTL]; have h1 := trs_len ks l; have := hl.llen; omega
  have HTL : Seal ((∀ x ∈ TL, x.ok) ∧ TL.length ≤ 5000) := ⟨by rw [hTL]; exact ⟨trs_ok hl.each, Nat.le_trans (trs_len _ _) (by have := hl.llen; omega)⟩⟩
  have h16 : n ≤ 16 := hn.2
  have HF1 : Seal (∀ W, Glob W → IsHs W a n c l → IsKs W ka kn kc ks → Calls Tryd.prog 34 #[.slice ka kn kc, .slice a n c] W (FindPost FL er W)) := ⟨fun W g1 g2 g3 => by rw [hFL, her]; exact cfind_any n c kn kc a ka l ks W g1 g2 g3 (by omega)⟩
  have HT1 : Seal (∀ W, Glob W → IsHs W a n c l → IsKs W ka kn kc ks → Calls Tryd.prog 36 #[.slice ka kn kc, .slice a n c] W (TrustPost TL er W)) := ⟨fun W g1 g2 g3 => by rw [hTL, her]; exact ctrust_any n c kn kc a ka l ks W g1 g2 g3 (by omega)⟩
  have HB : Seal (Below w.heap.size w w) := ⟨Below.refl _ _⟩
  have HE : Seal (Env w none 0 0 [] []) := ⟨⟨hG, isB_nil w, by intro q hq; cases hq⟩⟩
  have HLN : Seal (FL.length = 0 ∧ TL.length = 0) := ⟨by rw [hFL, hTL]; unfold fnd trs; rw [if_pos (by omega), if_pos (by omega)]; exact ⟨rfl, rfl⟩⟩
  obtain rfl : er = 2 := by rw [her]; unfold ler; rw [if_pos (by omega)]
  obtain rfl : fn = 0 := by rw [hfn, HLN.out.1]
  obtain rfl : tn = 0 := by rw [htn, HLN.out.2]
  clear hG hn hl hk hFL hTL her h16 hfn htn htl16 h24 hkl
  go_enter Tryd.func10, Tryd.ntmps10
  go_wp2_with fail
  refine (sane51_any w HE.out.glob).mono ?_
  rintro e w1 ⟨rfl, hb⟩
  have HB2 := Seal.mk (HB.out.trans (hb.mono HB.out.size))
  have HE2 := Seal.mk (HE.out.below hb)
  have HK2 := Seal.mk (HK.out.below hb)
  have HL2 := Seal.mk (HL.out.below hb)
  clear hb HB HE HK HL
  have HB := HB2
  have HE := HE2
  have HK := HK2
  have HL := HL2
  clear HB2 HE2 HK2 HL2
  go_wp2_with fail
  refine (rfew_any a ka n c kn kc _ w1 HFew.out).mono ?_
  rintro e w2 ⟨rfl, rfl⟩
  go_wp2_with fail
  refine (HF1.out w1 HE.out.glob HL.out HK.out).mono ?_
  rintro e w3 ⟨vx, rfl, hP⟩
  have hb := hP.out.2
  obtain ⟨ax, cx, hv, hX⟩ := isLs_own hP.out.1 HFL.out.1 HFL.out.2
  rw [HLN.out.1] at hv hX
  obtain rfl : vx = .slice ax 0 cx := hv
  have HB2 := Seal.mk (HB.out.trans (hb.mono HB.out.size))
  have HE2 := Seal.mk (HE.out.below hb)
  have HK2 := Seal.mk (HK.out.below hb)
  have HL2 := Seal.mk (HL.out.below hb)
  clear hb HB HE HK HL
  have HB := HB2
  have HE := HE2
  have HK := HK2
  have HL := HL2
  clear HB2 HE2 HK2 HL2
  have HRx : Seal (IsLs w3 ax 0 cx FL) := ⟨hX⟩
  clear hP hX HF1
  go_wp2_with fail
  refine (HT1.out w3 HE.out.glob HL.out HK.out).mono ?_
  rintro e w4 ⟨vu, rfl, hP⟩
  have hb := hP.out.2
  obtain ⟨au, cu, hv, hX⟩ := hs_of_own hP.out.1 HTL.out.1 HTL.out.2
  rw [HLN.out.2] at hv hX
  obtain rfl : vu = .slice au 0 cu := hv
  have HB2 := Seal.mk (HB.out.trans (hb.mono HB.out.size))
  have HE2 := Seal.mk (HE.out.below hb)
  have HK2 := Seal.mk (HK.out.below hb)
  have HL2 := Seal.mk (HL.out.below hb)
  have HRx2 := Seal.mk (HRx.out.below hb)
  clear hb HB HE HK HL HRx
  have HB := HB2
  have HE := HE2
  have HK := HK2
  have HL := HL2
  have HRx := HRx2
  clear HB2 HE2 HK2 HL2 HRx2
  have HRu : Seal (IsHs w4 au 0 cu TL) := ⟨hX⟩
  clear hP hX HT1
  go_wp2
  go_ret
  exact ⟨rfl, HB.out⟩


set_option maxHeartbeats 16000000 in
theorem trusted_few (n c kn kc : Nat) (a ka : Option Addr) (l : List Hd) (ks : List Int) (w : World) (hG : Glob w) (hl : IsHs w a n c l) (hk : IsKs w ka kn kc ks) (hn : kn ≤ 30 ∧ n ≤ 16) (h24 : kn ≤ 24) :
    Calls Tryd.prog 10 #[.slice ka kn kc, .slice a n c] w fun e w' => e = .returned (.bool true) ∧ Below w.heap.size w w' := by
  have HFew : Seal ((decide (kn ≤ 30) && decide (n ≤ 16)) = true) := ⟨by rw [Bool.and_eq_true, decide_eq_true_eq, decide_eq_true_eq]; exact hn⟩
  have hkl := hk.llen
  have HL : Seal (IsHs w a n c l) := ⟨hl⟩
  have HK : Seal (IsKs w ka kn kc ks) := ⟨hk⟩
  obtain ⟨FL, hFL⟩ : ∃ F, F = fnd ks l := ⟨_, rfl⟩
  obtain ⟨TL, hTL⟩ : ∃ F, F = trs ks l := ⟨_, rfl⟩
  obtain ⟨er, her⟩ : ∃ F, F = ler ks := ⟨_, rfl⟩
  obtain ⟨fn, hfn⟩ : ∃ F, F = FL.length := ⟨_, rfl⟩
  obtain ⟨tn, htn⟩ : ∃ F, F = TL.length := ⟨_, rfl⟩
  have HFL : Seal ((∀ x ∈ FL, x.1.ok ∧ x.2.ok) ∧ FL.length ≤ 5000) := ⟨by rw [hFL]; exact ⟨fnd_ok hl.each, Nat.le_trans (fnd_len _ _) (by decide)⟩⟩
  have htl16 : TL.length ≤ 16 := by rw [hTL]; have h1 := trs_len ks l; have := hl.llen; omega
  have HTL : Seal ((∀ x ∈ TL, x.ok) ∧ TL.length ≤ 5000) := ⟨by rw [hTL]; exact ⟨trs_ok hl.each, Nat.le_trans (trs_len _ _) (by have := hl.llen; omega)⟩⟩
  have h16 : n ≤ 16 := hn.2
  have HF1 : Seal (∀ W, Glob W → IsHs W a n c l → IsKs W ka kn kc ks → Calls Tryd.prog 34 #[.slice ka kn kc, .slice a n c] W (FindPost FL er W)) := ⟨fun W g1 g2 g3 => by rw [hFL, her]; exact cfind_any n c kn kc a ka l ks W g1 g2 g3 (by omega)⟩
  have HT1 : Seal (∀ W, Glob W → IsHs W a n c l → IsKs W ka kn kc ks → Calls Tryd.prog 36 #[.slice ka kn kc, .slice a n c] W (TrustPost TL er W)) := ⟨fun W g1 g2 g3 => by rw [hTL, her]; exact ctrust_any n c kn kc a ka l ks W g1 g2 g3 (by omega)⟩
  have HB : Seal (Below w.heap.size w w) := ⟨Below.refl _ _⟩
  have HE : Seal (Env w none 0 0 [] []) := ⟨⟨hG, isB_nil w, by intro q hq; cases hq⟩⟩
  have HLN : Seal (FL.length = fn ∧ TL.length = tn) := ⟨hfn.symm, htn.symm⟩
  have HP1 : Seal (fnd ks TL = [] ∧ trs ks TL = TL ∧ wk ks FL l = TL ∧ ler ks = 0) := ⟨by rw [hTL, hFL]; exact ⟨fnd_trs ks l (by omega), trs_trs ks l (by omega), (trs_wnt ks l (by omega)).symm, by unfold ler; rw [if_neg (by omega)]⟩⟩
  obtain rfl : er = 0 := by rw [her]; unfold ler; rw [if_neg (by omega)]
  have HSZ : Seal (n ≤ 16 ∧ kn = ks.length ∧ l.length = n ∧ tn ≤ 16) := ⟨by have := hl.llen; omega⟩
  obtain ⟨i0, hi, hz0, hz1, hz2⟩ := info_parts info_hand
  have HI := Seal.mk (And.intro hi (And.intro hz0 (And.intro hz1 hz2)))
  have uH := Tryd.underlying29
  clear hG hn hl hk hFL hTL her h16 hfn htn htl16 h24 hkl hi hz0 hz1 hz2
  go_enter Tryd.func10, Tryd.ntmps10
  go_wp2_with fail
  refine (sane51_any w HE.out.glob).mono ?_
  rintro e w1 ⟨rfl, hb⟩
  have HB2 := Seal.mk (HB.out.trans (hb.mono HB.out.size))
  have HE2 := Seal.mk (HE.out.below hb)
  have HK2 := Seal.mk (HK.out.below hb)
  have HL2 := Seal.mk (HL.out.below hb)
  clear hb HB HE HK HL
  have HB := HB2
  have HE := HE2
  have HK := HK2
  have HL := HL2
  clear HB2 HE2 HK2 HL2
  go_wp2_with fail
  refine (rfew_any a ka n c kn kc _ w1 HFew.out).mono ?_
  rintro e w2 ⟨rfl, rfl⟩
  go_wp2_with fail
  refine (HF1.out w1 HE.out.glob HL.out HK.out).mono ?_
  rintro e w3 ⟨vx, rfl, hP⟩
  have hb := hP.out.2
  obtain ⟨ax, cx, hv, hX⟩ := isLs_own hP.out.1 HFL.out.1 HFL.out.2
  rw [HLN.out.1] at hv hX
  obtain rfl : vx = .slice ax fn cx := hv
  have HB2 := Seal.mk (HB.out.trans (hb.mono HB.out.size))
  have HE2 := Seal.mk (HE.out.below hb)
  have HK2 := Seal.mk (HK.out.below hb)
  have HL2 := Seal.mk (HL.out.below hb)
  clear hb HB HE HK HL
  have HB := HB2
  have HE := HE2
  have HK := HK2
  have HL := HL2
  clear HB2 HE2 HK2 HL2
  have HRx : Seal (IsLs w3 ax fn cx FL) := ⟨hX⟩
  clear hP hX HF1
  go_wp2_with fail
  refine (HT1.out w3 HE.out.glob HL.out HK.out).mono ?_
  rintro e w4 ⟨vu, rfl, hP⟩
  have hb := hP.out.2
  obtain ⟨au, cu, hv, hX⟩ := hs_of_own hP.out.1 HTL.out.1 HTL.out.2
  rw [HLN.out.2] at hv hX
  obtain rfl : vu = .slice au tn cu := hv
  have HB2 := Seal.mk (HB.out.trans (hb.mono HB.out.size))
  have HE2 := Seal.mk (HE.out.below hb)
  have HK2 := Seal.mk (HK.out.below hb)
  have HL2 := Seal.mk (HL.out.below hb)
  have HRx2 := Seal.mk (HRx.out.below hb)
  clear hb HB HE HK HL HRx
  have HB := HB2
  have HE := HE2
  have HK := HK2
  have HL := HL2
  have HRx := HRx2
  clear HB2 HE2 HK2 HL2 HRx2
  have HRu : Seal (IsHs w4 au tn cu TL) := ⟨hX⟩
  clear hP hX HT1
  have hmx : n ≤ 5000 := by have := HSZ.out.1; omega
  have hfx : fn ≤ 5000 := by have := HFL.out.2; have := HLN.out.1; omega
  have H0 : Seal (w4.ownsRow w4.heap.size 29 42 (.slice none 0 0) (wk ks FL (l.take 0)).length (hcells (wk ks FL (l.take 0))) ∧ Below w4.heap.size w4 w4) := ⟨World.ownsRow_nil _ _ _ _, Below.refl _ _⟩
  go_wp2
  go_loopw [9, 10] (fun u i wr => ∃ (k : Nat) (v : Value), k ≤ n ∧ v = u ∧ i = .int .i64 k ∧ Seal (wr.ownsRow w4.heap.size 29 42 v (wk ks FL (l.take k)).length (hcells (wk ks FL (l.take k))) ∧ Below w4.heap.size w4 wr)) (fun _ i _ => n - (intOf i).toNat)
  case atStart => exact ⟨0, _, by omega, rfl, rfl, H0⟩
  case round =>
    obtain ⟨wo, rfl⟩ : ∃ z, z = wr := ⟨_, rfl⟩
    obtain ⟨k, v, hk, rfl, rfl, hH⟩ := hrel
    clear H0
    by_cases hlt : k < n
    · have hIs := HL.out.below hH.out.2
      have hKs := HK.out.below hH.out.2
      rcases hIs.at_ with hz | ⟨g, off, rfl, hr, hg⟩
      · omega
      · obtain ⟨h, hs⟩ : ∃ h, l[k]? = some h := ⟨_, List.getElem?_eq_getElem (by have := hIs.llen; omega)⟩
        have ok := hIs.each h (List.mem_of_getElem? hs)
        have rC := rangeC_at hr (fun x hx => Hd.C_len (hIs.each x hx).t32) hs
        have q5 : (k : Int) < (n : Int) := by omega
        have q6 : (0 : Int) ≤ (k : Int) := by omega
        obtain ⟨t, ht⟩ : ∃ t, t = sgn ks h := ⟨_, rfl⟩
        obtain ⟨fr, hfr⟩ : ∃ fr, fr = h.fr := ⟨_, rfl⟩
        have c4 : wo.cell? ⟨g, off + k * 42 + 4, none⟩ = some (.int .i64 fr) := by rw [hfr]; exact rC 4 _ rfl
        obtain ⟨fd, hfd⟩ : ∃ b, b = anyF FL fr := ⟨_, rfl⟩
        obtain ⟨C, hC⟩ : ∃ C, C = h.C := ⟨_, rfl⟩
        have iC : (Tryd.prog.info? 29).map (·.size) = some C.length := by rw [hC]; exact Hd.C_info ok.t32
        have oC : Seal (C.length = 42 ∧ (∀ v ∈ C, v.oneCell' = true)) := ⟨by rw [hC]; exact ⟨Hd.C_len ok.t32, Hd.C_one h⟩⟩
        rw [← hC] at rC
        have hGo := HE.out.glob.below hH.out.2
        have HS : Seal (wk ks FL (l.take (k + 1)) = wk ks FL (l.take k) ++ (if (t && !fd) = true then [h] else []) ∧ C = h.C ∧ (wk ks FL (l.take k)).length ≤ k) := ⟨by rw [wk_take hs, ht, hfd, hfr]; rfl, hC, by
          have h2 := List.length_filter_le (wnt ks FL) (l.take k)
          rw [List.length_take] at h2
          unfold wk; omega⟩
        by_cases h0 : 0 ≤ fr
        · by_cases h1 : fr < (kn : Int)
          · rcases hKs.at_ with hz | ⟨kg, ko, rfl, hkr, hkg⟩
            · omega
            · obtain ⟨f, hf⟩ : ∃ f : Nat, fr = (f : Int) := ⟨fr.toNat, by omega⟩
              obtain ⟨key, hkey⟩ : ∃ key, ks[f]? = some key := ⟨_, List.getElem?_eq_getElem (by have := hKs.llen; omega)⟩
              have ck : wo.cell? ⟨kg, ko + f, none⟩ = some (.int .i64 key) := hkr f (.int .i64 key) (by rw [List.getElem?_map, hkey]; rfl)
              have HCk : Seal (∀ W', Glob W' → Calls Tryd.prog 15 #[.int .i64 key, .agg C.toArray] W' fun e w' => e = .returned (.bool t) ∧ Below W'.heap.size W' w') := ⟨fun W' hG => by
                have e : t = chB key h := by rw [ht]; unfold sgn; rw [← hfr, hf]; simp [hkey]; have := hKs.llen; omega
                rw [hC, e]; exact hcheck_any key h W' ok hG⟩
              have HGo := Seal.mk hGo
              have HFd := Seal.mk hfd
              subst hf
              have q7 : (f : Int) < (kn : Int) := by omega
              have q8 : (0 : Int) ≤ (f : Int) := by omega
              have z1 : ((f : Int) < 0) = False := by simp
              have z2 : (kn ≤ f) = False := by simp; omega
              clear hIs hKs hGo hr hg hs ok ht hfr hC hkr hkg hkey h0 h1 hfd
              go_wp2_with fail
              refine wp_region_held_drew (S := fun w' => w'.rangeAt g (off + k * 42) C ∧ w'.cell? ⟨kg, ko + f, none⟩ = some (.int .i64 key)) (by kernel_rfl) ⟨rC, ck⟩ (fun hHeld => ?_)
              obtain ⟨V, hV⟩ : ∃ V, V = wo.drew := ⟨_, rfl⟩
              have HV : Seal (Glob V ∧ V.ownsRow w4.heap.size 29 42 v (wk ks FL (l.take k)).length (hcells (wk ks FL (l.take k))) ∧ Below w4.heap.size w4 V) := ⟨by rw [hV]; exact ⟨HGo.out.below (below_drewn _), ownsRow_below hH.out.1 (below_drewn wo), hH.out.2.trans ((below_drewn wo).mono hH.out.2.size)⟩⟩
              rw [← hV] at hHeld ⊢
              clear hV rC ck c4 hH HGo
              refine take_h 0 ?_ rfl (by kernel_rfl) (by kernel_rfl) (by kernel_rfl) (fun _ _ _ h => h) (Or.inl ⟨by kernel_rfl, ?_⟩) (by assumption) ?_
              rotate_left
              · (intro w hSw; (try dsimp only at hSw); go_simp; try (with_reducible rfl))
              try simp only [Act.put, List.setIfInBounds_toArray, List.set_cons_zero, List.set_cons_succ]
              refine take_h 1 ?_ rfl (by kernel_rfl) (by kernel_rfl) (by kernel_rfl) (fun _ _ _ h => h) (Or.inl ⟨by kernel_rfl, ?_⟩) (by assumption) ?_
              rotate_left
              · (intro w hSw; (try dsimp only at hSw); go_simp; try (with_reducible rfl))
              try simp only [Act.put, List.setIfInBounds_toArray, List.set_cons_zero, List.set_cons_succ]
              refine take_h 2 ?_ rfl (by kernel_rfl) (by kernel_rfl) (by kernel_rfl) (fun _ _ _ h => h) (Or.inl ⟨by kernel_rfl, ?_⟩) (by assumption) ?_
              rotate_left
              · (intro w hSw; (try dsimp only at hSw); go_simp; try (with_reducible rfl))
              try simp only [Act.put, List.setIfInBounds_toArray, List.set_cons_zero, List.set_cons_succ]
              refine take_h 3 ?_ rfl (by kernel_rfl) (by kernel_rfl) (by kernel_rfl) (fun _ _ _ h => h) (Or.inl ⟨by kernel_rfl, ?_⟩) (by assumption) ?_
              rotate_left
              · (intro w hSw; (try dsimp only at hSw); go_simp; try (with_reducible rfl))
              try simp only [Act.put, List.setIfInBounds_toArray, List.set_cons_zero, List.set_cons_succ]
              refine take_h 4 ?_ rfl (by kernel_rfl) (by kernel_rfl) (by kernel_rfl) (fun _ _ _ h => h) (Or.inl ⟨by kernel_rfl, ?_⟩) (by assumption) ?_
              rotate_left
              · (intro w hSw; (try dsimp only at hSw); go_simp; try (with_reducible rfl))
              try simp only [Act.put, List.setIfInBounds_toArray, List.set_cons_zero, List.set_cons_succ]
              refine take_h 5 ?_ rfl (by kernel_rfl) (by kernel_rfl) (by kernel_rfl) (fun _ _ _ h => h) (Or.inl ⟨by kernel_rfl, ?_⟩) (by assumption) ?_
              rotate_left
              · (intro w hSw; (try dsimp only at hSw); go_simp; try (with_reducible rfl))
              try simp only [Act.put, List.setIfInBounds_toArray, List.set_cons_zero, List.set_cons_succ]
              refine take_h 6 ?_ rfl (by kernel_rfl) (by kernel_rfl) (by kernel_rfl) (fun _ _ _ h => h) (Or.inl ⟨by kernel_rfl, ?_⟩) (by assumption) ?_
              rotate_left
              · (intro w hSw; (try dsimp only at hSw); go_simp; try (with_reducible rfl))
              try simp only [Act.put, List.setIfInBounds_toArray, List.set_cons_zero, List.set_cons_succ]
              refine take_h 7 ?_ rfl (by kernel_rfl) (by kernel_rfl) (by kernel_rfl) (fun _ _ _ h => h) (Or.inl ⟨by kernel_rfl, ?_⟩) (by assumption) ?_
              rotate_left
              · (intro w hSw; (try dsimp only at hSw); go_simp; try (with_reducible rfl))
              try simp only [Act.put, List.setIfInBounds_toArray, List.set_cons_zero, List.set_cons_succ]
              refine take_h 8 ?_ rfl (by kernel_rfl) (by kernel_rfl) (by kernel_rfl) (fun _ _ _ h => h) (Or.inl ⟨by kernel_rfl, ?_⟩) (by assumption) ?_
              rotate_left
              · (intro w hSw; (try dsimp only at hSw); go_simp; try (with_reducible rfl))
              try simp only [Act.put, List.setIfInBounds_toArray, List.set_cons_zero, List.set_cons_succ]
              refine take_h 9 ?_ rfl (by kernel_rfl) (by kernel_rfl) (by kernel_rfl) (fun _ _ _ h => h) (Or.inl ⟨by kernel_rfl, ?_⟩) (by assumption) ?_
              rotate_left
              · (intro w hSw; (try dsimp only at hSw); go_simp; try (with_reducible rfl))
              try simp only [Act.put, List.setIfInBounds_toArray, List.set_cons_zero, List.set_cons_succ]
              refine take_h 10 ?_ rfl (by kernel_rfl) (by kernel_rfl) (by kernel_rfl) (fun _ _ _ h => h) (Or.inl ⟨by kernel_rfl, ?_⟩) (by assumption) ?_
              rotate_left
              · (intro w hSw; (try dsimp only at hSw); go_simp; try (with_reducible rfl))
              try simp only [Act.put, List.setIfInBounds_toArray, List.set_cons_zero, List.set_cons_succ]
              refine take_h 11 ?_ rfl (by kernel_rfl) (by kernel_rfl) (by kernel_rfl) (fun _ _ _ h => h) (Or.inl ⟨by kernel_rfl, ?_⟩) (by assumption) ?_
              rotate_left
              · (intro w hSw; (try dsimp only at hSw); go_simp; try (with_reducible rfl))
              try simp only [Act.put, List.setIfInBounds_toArray, List.set_cons_zero, List.set_cons_succ]
              refine take_h 12 ?_ rfl (by kernel_rfl) (by kernel_rfl) (by kernel_rfl) (fun _ _ _ h => h) (Or.inl ⟨by kernel_rfl, ?_⟩) (by assumption) ?_
              rotate_left
              · (intro w hSw; (try dsimp only at hSw); go_simp; try (with_reducible rfl))
              try simp only [Act.put, List.setIfInBounds_toArray, List.set_cons_zero, List.set_cons_succ]
              refine take_h 13 ?_ rfl (by kernel_rfl) (by kernel_rfl) (by kernel_rfl) (fun _ _ _ h => h) (Or.inl ⟨by kernel_rfl, ?_⟩) (by assumption) ?_
              rotate_left
              · (intro w hSw; (try dsimp only at hSw); go_simp; try (with_reducible rfl))
              try simp only [Act.put, List.setIfInBounds_toArray, List.set_cons_zero, List.set_cons_succ]
              refine take_h 14 ?_ rfl (by kernel_rfl) (by kernel_rfl) (by kernel_rfl) (fun _ _ _ h => h) (Or.inl ⟨by kernel_rfl, ?_⟩) (by assumption) ?_
              rotate_left
              · (intro w hSw; (try dsimp only at hSw); go_simp; try (with_reducible rfl))
              try simp only [Act.put, List.setIfInBounds_toArray, List.set_cons_zero, List.set_cons_succ]
              refine take_h 15 ?_ rfl (by kernel_rfl) (by kernel_rfl) (by kernel_rfl) (fun _ _ _ h => h) (Or.inl ⟨by kernel_rfl, ?_⟩) (by assumption) ?_
              rotate_left
              · (intro w hSw; (try dsimp only at hSw); go_simp; try (with_reducible rfl))
              try simp only [Act.put, List.setIfInBounds_toArray, List.set_cons_zero, List.set_cons_succ]
              refine take_h 16 _ rfl (by kernel_rfl) (by kernel_rfl) (by kernel_rfl) (fun _ _ _ h => h) (yieldsIf_load_mid (by kernel_rfl) 29 (.tmp 81) rfl g (off + k * 42) rfl C _ (fun w hSw => hSw.1) uH rfl iC) (by assumption) ?_
              try simp only [Act.put, List.setIfInBounds_toArray, List.set_cons_zero, List.set_cons_succ]
              refine call_h 17 rfl (by kernel_rfl) 15 #[.int .i64 key, .agg C.toArray] (by kernel_rfl) (by go_simp) ?_
              refine (HCk.out V HV.out.1).mono ?_
              rintro e V1 ⟨rfl, hb1⟩
              have rC1 := rangeAt_below' hHeld.1 hb1
              refine ⟨_, rfl, ⟨rC1, cell_below' hb1 hHeld.2⟩, fun _ => ?_⟩
              try simp only [Act.put, List.setIfInBounds_toArray, List.set_cons_zero, List.set_cons_succ]
              have HN : Seal (V1.ownsRow w4.heap.size 29 42 v (wk ks FL (l.take k)).length (hcells (wk ks FL (l.take k))) ∧ Below w4.heap.size w4 V1) := ⟨ownsRow_below HV.out.2.1 hb1, HV.out.2.2.trans (hb1.mono HV.out.2.2.size)⟩
              clear hb1 hHeld HV HCk
              cases t with
              | false =>
                refine take_h 18 ?_ rfl (by kernel_rfl) (by kernel_rfl) (by kernel_rfl) (fun _ _ _ h => h) (Or.inl ⟨by kernel_rfl, ?_⟩) (by assumption) ?_
                rotate_left
                · (intro w hSw; (try dsimp only at hSw); go_simp; try (with_reducible rfl))
                try simp only [Act.put, List.setIfInBounds_toArray, List.set_cons_zero, List.set_cons_succ]
                refine take_h 19 ?_ rfl (by kernel_rfl) (by kernel_rfl) (by kernel_rfl) (fun _ _ _ h => h) (Or.inl ⟨by kernel_rfl, ?_⟩) (by assumption) ?_
                rotate_left
                · (intro w hSw; (try dsimp only at hSw); go_simp; try (with_reducible rfl))
                try simp only [Act.put, List.setIfInBounds_toArray, List.set_cons_zero, List.set_cons_succ]
                refine wpAnyH_done (by kernel_rfl) ?_ _
                go_wp2
                go_roundw
                case rel => exact ⟨k + 1, v, by omega, rfl, by go_num, ⟨by rw [HS.out.1]; simp; exact HN.out⟩⟩
                case measure => simp [intOf]; omega
              | true =>
                refine take_h 18 ?_ rfl (by kernel_rfl) (by kernel_rfl) (by kernel_rfl) (fun _ _ _ h => h) (Or.inl ⟨by kernel_rfl, ?_⟩) (by assumption) ?_
                rotate_left
                · (intro w hSw; (try dsimp only at hSw); go_simp; try (with_reducible rfl))
                try simp only [Act.put, List.setIfInBounds_toArray, List.set_cons_zero, List.set_cons_succ]
                refine take_h 19 ?_ rfl (by kernel_rfl) (by kernel_rfl) (by kernel_rfl) (fun _ _ _ h => h) (Or.inl ⟨by kernel_rfl, ?_⟩) (by assumption) ?_
                rotate_left
                · (intro w hSw; (try dsimp only at hSw); go_simp; try (with_reducible rfl))
                try simp only [Act.put, List.setIfInBounds_toArray, List.set_cons_zero, List.set_cons_succ]
                refine wpAnyH_done (by kernel_rfl) ?_ _
                go_wp2
                go_loopw [12, 13] (fun u i wr => ∃ (q : Nat), q ≤ fn ∧ u = .bool (anyF (FL.take q) (f : Int)) ∧ i = .int .i64 q ∧ Seal (V1 = wr)) (fun _ i _ => fn - (intOf i).toNat)
                case atStart => exact ⟨0, by omega, rfl, rfl, ⟨by first | rfl | trivial⟩⟩
                case round =>
                  obtain ⟨q, hq, rfl, rfl, hW⟩ := hrel
                  obtain rfl := hW.out
                  by_cases hlt2 : q < fn
                  · have hIx := HRx.out.below HN.out.2
                    rcases hIx.at_ with hz | ⟨g2, off2, rfl, hr2, hg2⟩
                    · omega
                    · obtain ⟨x, hx⟩ : ∃ x, FL[q]? = some x := ⟨_, List.getElem?_eq_getElem (by have := hIx.llen; omega)⟩
                      have rX := rangeC_at hr2 (fun x hx => lieC_len (hIx.each x hx).1.t32 (hIx.each x hx).2.t32) hx
                      have c5 : V1.cell? ⟨g2, off2 + q * 84 + 4, none⟩ = some (.int .i64 x.1.fr) := rX 4 _ rfl
                      have HQ : Seal (anyF (FL.take (q + 1)) (f : Int) = (anyF (FL.take q) (f : Int) || (x.1.fr == (f : Int)))) := ⟨anyF_take hx⟩
                      obtain ⟨xf, hxf⟩ : ∃ xf, xf = x.1.fr := ⟨_, rfl⟩
                      rw [← hxf] at c5 HQ
                      have q9 : (q : Int) < (fn : Int) := by omega
                      have q10 : (0 : Int) ≤ (q : Int) := by omega
                      obtain ⟨b, hb⟩ : ∃ b, b = anyF (FL.take q) (f : Int) := ⟨_, rfl⟩
                      rw [← hb] at HQ ⊢
                      clear hIx hr2 hg2 hx rX hxf hb
                      cases b with
                      | false =>
                        go_wp2
                        go_roundw
                        case rel => exact ⟨q + 1, by omega, by rw [HQ.out]; simp, by go_num, ⟨by first | rfl | trivial⟩⟩
                        case measure => simp [intOf]; omega
                      | true =>
                        go_wp2
                        go_roundw
                        case rel => exact ⟨q + 1, by omega, by rw [HQ.out]; simp, by go_num, ⟨by first | rfl | trivial⟩⟩
                        case measure => simp [intOf]; omega
                  · obtain rfl : q = fn := by omega
                    have q9 : ¬ (q : Int) < (q : Int) := by omega
                    have e : anyF (FL.take q) (f : Int) = fd := by rw [List.take_of_length_le (by have := HRx.out.llen; omega)]; exact HFd.out.symm
                    rw [e]
                    clear e
                    cases fd with
                    | true =>
                      go_wp2
                      go_roundw
                      case rel => exact ⟨k + 1, v, by omega, rfl, by go_num, ⟨by rw [HS.out.1]; simp; exact HN.out⟩⟩
                      case measure => simp [intOf]; omega
                    | false =>
                      have HS2 : Seal (wk ks FL (l.take (k + 1)) = wk ks FL (l.take k) ++ [h]) := ⟨by rw [HS.out.1]; simp⟩
                      go_wp2_with (first
                        | (refine wpList_load_mid rfl 29 (.tmp 108) rfl g (off + k * 42) rfl C _ rC1 uH rfl iC ?_; (try simp only [Act.put, List.setIfInBounds_toArray, List.set_cons_zero, List.set_cons_succ]))
                        | (refine wpList_bslice (by kernel_rfl) 66 29 1 42 #[(0, .tmp 109)] rfl [C] Tryd.underlying66 size_hand _ zeroHd rfl rfl (by intro D hD; obtain rfl : D = C := (by simpa using hD); exact oC.out.1) (by decide) (by decide) rfl ?_; obtain ⟨V2, hV2⟩ : ∃ Z, Z = V1.alloc (.cells [C].flatten.toArray 29) := ⟨_, rfl⟩; have HN2 : Seal (V2.ownsRow w4.heap.size 29 42 v (wk ks FL (l.take k)).length (hcells (wk ks FL (l.take k))) ∧ Below w4.heap.size w4 V2 ∧ ∀ j u, C[j]? = some u → V2.cell? ((⟨V1.heap.size, 0, none⟩ : Addr).add j) = some u) := ⟨(by rw [hV2]; exact ⟨HN.out.1.alloc _, HN.out.2.alloc HN.out.2.size _, fun j u hu => (by rw [Addr.add_mid]; exact rangeAt_row (heap_alloc_new V1 _) j u (by simpa using hu))⟩)⟩; rw [← hV2]; clear hV2 HN rC1; (try simp only [Act.put, List.setIfInBounds_toArray, List.set_cons_zero, List.set_cons_succ]))
                        | (at_builtin; go_loud (refine wpList_append_own _ rfl (.tmp 105) (.tmp 110) 66 rfl w4.heap.size 29 i0 _ 42 112 Tryd.underlying66 HI.out.1 HI.out.2.1 HI.out.2.2.1 HI.out.2.2.2 rfl (by decide) v (wk ks FL (l.take k)).length (hcells (wk ks FL (l.take k))) rfl HN2.out.1 ⟨V1.heap.size, 0, none⟩ 1 1 C rfl oC.out.1 HN2.out.2.2 oC.out.2 (by unfold maxLen; have := HS.out.2.2; have := HSZ.out.1; omega) (by have := HS.out.2.2; have := HSZ.out.1; omega) HN2.out.2.1.size ?_; intro v5 w5 hown5 hgrow5 _; have vlt := HN2.out.1.lt; have HO5 : Seal (w5.ownsRow w4.heap.size 29 42 v5 (wk ks FL (l.take (k + 1))).length (hcells (wk ks FL (l.take (k + 1)))) ∧ Below w4.heap.size w4 w5) := ⟨(by rw [HS2.out, hcells_app, List.length_append]; have e : hcells [h] = C := (by rw [HS.out.2.1]; simp [hcells]); rw [e]; exact hown5), HN2.out.2.1.grown hgrow5 HN2.out.2.1.size (fun k e => (vlt k e).1)⟩; obtain ⟨va, vn, vc, rfl⟩ := slice_form hown5; clear hown5 hgrow5 HN2 vlt; (try simp only [Act.put, List.setIfInBounds_toArray, List.set_cons_zero, List.set_cons_succ]))))
                      go_roundw
                      case rel => exact ⟨k + 1, _, by omega, rfl, by go_num, HO5⟩
                      case measure => simp [intOf]; omega
          · have e : t = false := by rw [ht]; unfold sgn; rw [hKs.llen, ← hfr]; simp [h1]
            subst e
            have z1 : (fr < 0) = False := by simp; omega
            have z2 : ((kn : Int) ≤ fr) = True := by simp; omega
            have HGo := Seal.mk hGo
            clear hIs hKs hGo hr hg hs ok ht hfr hC hfd rC
            go_wp2_with fail
            refine wp_region_held_drew (S := fun _ => True) (by kernel_rfl) trivial (fun hHeld => ?_)
            obtain ⟨V, hV⟩ : ∃ V, V = wo.drew := ⟨_, rfl⟩
            have HN : Seal (V.ownsRow w4.heap.size 29 42 v (wk ks FL (l.take k)).length (hcells (wk ks FL (l.take k))) ∧ Below w4.heap.size w4 V) := ⟨by rw [hV]; exact ⟨ownsRow_below hH.out.1 (below_drewn wo), hH.out.2.trans ((below_drewn wo).mono hH.out.2.size)⟩⟩
            clear hHeld
            have hHeld : True := trivial
            rw [← hV]
            clear hV c4 hH HGo
            refine take_h 0 ?_ rfl (by kernel_rfl) (by kernel_rfl) (by kernel_rfl) (fun _ _ _ h => h) (Or.inl ⟨by kernel_rfl, ?_⟩) (by assumption) ?_
            rotate_left
            · (intro w hSw; (try dsimp only at hSw); go_simp; try (with_reducible rfl))
            try simp only [Act.put, List.setIfInBounds_toArray, List.set_cons_zero, List.set_cons_succ]
            refine take_h 1 ?_ rfl (by kernel_rfl) (by kernel_rfl) (by kernel_rfl) (fun _ _ _ h => h) (Or.inl ⟨by kernel_rfl, ?_⟩) (by assumption) ?_
            rotate_left
            · (intro w hSw; (try dsimp only at hSw); go_simp; try (with_reducible rfl))
            try simp only [Act.put, List.setIfInBounds_toArray, List.set_cons_zero, List.set_cons_succ]
            refine take_h 2 ?_ rfl (by kernel_rfl) (by kernel_rfl) (by kernel_rfl) (fun _ _ _ h => h) (Or.inl ⟨by kernel_rfl, ?_⟩) (by assumption) ?_
            rotate_left
            · (intro w hSw; (try dsimp only at hSw); go_simp; try (with_reducible rfl))
            try simp only [Act.put, List.setIfInBounds_toArray, List.set_cons_zero, List.set_cons_succ]
            refine take_h 3 ?_ rfl (by kernel_rfl) (by kernel_rfl) (by kernel_rfl) (fun _ _ _ h => h) (Or.inl ⟨by kernel_rfl, ?_⟩) (by assumption) ?_
            rotate_left
            · (intro w hSw; (try dsimp only at hSw); go_simp; try (with_reducible rfl))
            try simp only [Act.put, List.setIfInBounds_toArray, List.set_cons_zero, List.set_cons_succ]
            refine take_h 4 ?_ rfl (by kernel_rfl) (by kernel_rfl) (by kernel_rfl) (fun _ _ _ h => h) (Or.inl ⟨by kernel_rfl, ?_⟩) (by assumption) ?_
            rotate_left
            · (intro w hSw; (try dsimp only at hSw); go_simp; try (with_reducible rfl))
            try simp only [Act.put, List.setIfInBounds_toArray, List.set_cons_zero, List.set_cons_succ]
            refine take_h 5 ?_ rfl (by kernel_rfl) (by kernel_rfl) (by kernel_rfl) (fun _ _ _ h => h) (Or.inl ⟨by kernel_rfl, ?_⟩) (by assumption) ?_
            rotate_left
            · (intro w hSw; (try dsimp only at hSw); go_simp; try (with_reducible rfl))
            try simp only [Act.put, List.setIfInBounds_toArray, List.set_cons_zero, List.set_cons_succ]
            refine take_h 6 ?_ rfl (by kernel_rfl) (by kernel_rfl) (by kernel_rfl) (fun _ _ _ h => h) (Or.inl ⟨by kernel_rfl, ?_⟩) (by assumption) ?_
            rotate_left
            · (intro w hSw; (try dsimp only at hSw); go_simp; try (with_reducible rfl))
            try simp only [Act.put, List.setIfInBounds_toArray, List.set_cons_zero, List.set_cons_succ]
            refine take_h 7 ?_ rfl (by kernel_rfl) (by kernel_rfl) (by kernel_rfl) (fun _ _ _ h => h) (Or.inl ⟨by kernel_rfl, ?_⟩) (by assumption) ?_
            rotate_left
            · (intro w hSw; (try dsimp only at hSw); go_simp; try (with_reducible rfl))
            try simp only [Act.put, List.setIfInBounds_toArray, List.set_cons_zero, List.set_cons_succ]
            refine take_h 8 ?_ rfl (by kernel_rfl) (by kernel_rfl) (by kernel_rfl) (fun _ _ _ h => h) (Or.inl ⟨by kernel_rfl, ?_⟩) (by assumption) ?_
            rotate_left
            · (intro w hSw; (try dsimp only at hSw); go_simp; try (with_reducible rfl))
            try simp only [Act.put, List.setIfInBounds_toArray, List.set_cons_zero, List.set_cons_succ]
            refine take_h 9 undef rfl (by kernel_rfl) (by kernel_rfl) (by kernel_rfl) (fun _ _ _ h => h) (Or.inr ⟨by kernel_rfl, rfl⟩) (by assumption) ?_
            try simp only [Act.put, List.setIfInBounds_toArray, List.set_cons_zero, List.set_cons_succ]
            refine take_h 10 undef rfl (by kernel_rfl) (by kernel_rfl) (by kernel_rfl) (fun _ _ _ h => h) (Or.inr ⟨by kernel_rfl, rfl⟩) (by assumption) ?_
            try simp only [Act.put, List.setIfInBounds_toArray, List.set_cons_zero, List.set_cons_succ]
            refine take_h 11 undef rfl (by kernel_rfl) (by kernel_rfl) (by kernel_rfl) (fun _ _ _ h => h) (Or.inr ⟨by kernel_rfl, rfl⟩) (by assumption) ?_
            try simp only [Act.put, List.setIfInBounds_toArray, List.set_cons_zero, List.set_cons_succ]
            refine take_h 12 undef rfl (by kernel_rfl) (by kernel_rfl) (by kernel_rfl) (fun _ _ _ h => h) (Or.inr ⟨by kernel_rfl, rfl⟩) (by assumption) ?_
            try simp only [Act.put, List.setIfInBounds_toArray, List.set_cons_zero, List.set_cons_succ]
            refine take_h 13 undef rfl (by kernel_rfl) (by kernel_rfl) (by kernel_rfl) (fun _ _ _ h => h) (Or.inr ⟨by kernel_rfl, rfl⟩) (by assumption) ?_
            try simp only [Act.put, List.setIfInBounds_toArray, List.set_cons_zero, List.set_cons_succ]
            refine take_h 14 undef rfl (by kernel_rfl) (by kernel_rfl) (by kernel_rfl) (fun _ _ _ h => h) (Or.inr ⟨by kernel_rfl, rfl⟩) (by assumption) ?_
            try simp only [Act.put, List.setIfInBounds_toArray, List.set_cons_zero, List.set_cons_succ]
            refine take_h 15 undef rfl (by kernel_rfl) (by kernel_rfl) (by kernel_rfl) (fun _ _ _ h => h) (Or.inr ⟨by kernel_rfl, rfl⟩) (by assumption) ?_
            try simp only [Act.put, List.setIfInBounds_toArray, List.set_cons_zero, List.set_cons_succ]
            refine take_h 16 undef rfl (by kernel_rfl) (by kernel_rfl) (by kernel_rfl) (fun _ _ _ h => h) (Or.inr ⟨by kernel_rfl, rfl⟩) (by assumption) ?_
            try simp only [Act.put, List.setIfInBounds_toArray, List.set_cons_zero, List.set_cons_succ]
            refine take_h 17 undef rfl (by kernel_rfl) (by kernel_rfl) (by kernel_rfl) (fun _ _ _ h => h) (Or.inr ⟨by kernel_rfl, rfl⟩) (by assumption) ?_
            try simp only [Act.put, List.setIfInBounds_toArray, List.set_cons_zero, List.set_cons_succ]
            refine take_h 18 undef rfl (by kernel_rfl) (by kernel_rfl) (by kernel_rfl) (fun _ _ _ h => h) (Or.inr ⟨by kernel_rfl, rfl⟩) (by assumption) ?_
            try simp only [Act.put, List.setIfInBounds_toArray, List.set_cons_zero, List.set_cons_succ]
            refine take_h 19 ?_ rfl (by kernel_rfl) (by kernel_rfl) (by kernel_rfl) (fun _ _ _ h => h) (Or.inl ⟨by kernel_rfl, ?_⟩) (by assumption) ?_
            rotate_left
            · (intro w hSw; (try dsimp only at hSw); go_simp; try (with_reducible rfl))
            try simp only [Act.put, List.setIfInBounds_toArray, List.set_cons_zero, List.set_cons_succ]
            refine wpAnyH_done (by kernel_rfl) ?_ _
            go_wp2
            go_roundw
            case rel => exact ⟨k + 1, v, by omega, rfl, by go_num, ⟨by rw [HS.out.1]; simp; exact HN.out⟩⟩
            case measure => simp [intOf]; omega
        · have e : t = false := by rw [ht]; unfold sgn; rw [← hfr]; simp [h0]
          subst e
          have z1 : (fr < 0) = True := by simp; omega
          have HGo := Seal.mk hGo
          clear hIs hKs hGo hr hg hs ok ht hfr hC hfd rC
          go_wp2_with fail
          refine wp_region_held_drew (S := fun _ => True) (by kernel_rfl) trivial (fun hHeld => ?_)
          obtain ⟨V, hV⟩ : ∃ V, V = wo.drew := ⟨_, rfl⟩
          have HN : Seal (V.ownsRow w4.heap.size 29 42 v (wk ks FL (l.take k)).length (hcells (wk ks FL (l.take k))) ∧ Below w4.heap.size w4 V) := ⟨by rw [hV]; exact ⟨ownsRow_below hH.out.1 (below_drewn wo), hH.out.2.trans ((below_drewn wo).mono hH.out.2.size)⟩⟩
          clear hHeld
          have hHeld : True := trivial
          rw [← hV]
          clear hV c4 hH HGo
          refine take_h 0 ?_ rfl (by kernel_rfl) (by kernel_rfl) (by kernel_rfl) (fun _ _ _ h => h) (Or.inl ⟨by kernel_rfl, ?_⟩) (by assumption) ?_
          rotate_left
          · (intro w hSw; (try dsimp only at hSw); go_simp; try (with_reducible rfl))
          try simp only [Act.put, List.setIfInBounds_toArray, List.set_cons_zero, List.set_cons_succ]
          refine take_h 1 ?_ rfl (by kernel_rfl) (by kernel_rfl) (by kernel_rfl) (fun _ _ _ h => h) (Or.inl ⟨by kernel_rfl, ?_⟩) (by assumption) ?_
          rotate_left
          · (intro w hSw; (try dsimp only at hSw); go_simp; try (with_reducible rfl))
          try simp only [Act.put, List.setIfInBounds_toArray, List.set_cons_zero, List.set_cons_succ]
          refine take_h 2 ?_ rfl (by kernel_rfl) (by kernel_rfl) (by kernel_rfl) (fun _ _ _ h => h) (Or.inl ⟨by kernel_rfl, ?_⟩) (by assumption) ?_
          rotate_left
          · (intro w hSw; (try dsimp only at hSw); go_simp; try (with_reducible rfl))
          try simp only [Act.put, List.setIfInBounds_toArray, List.set_cons_zero, List.set_cons_succ]
          refine take_h 3 undef rfl (by kernel_rfl) (by kernel_rfl) (by kernel_rfl) (fun _ _ _ h => h) (Or.inr ⟨by kernel_rfl, rfl⟩) (by assumption) ?_
          try simp only [Act.put, List.setIfInBounds_toArray, List.set_cons_zero, List.set_cons_succ]
          refine take_h 4 undef rfl (by kernel_rfl) (by kernel_rfl) (by kernel_rfl) (fun _ _ _ h => h) (Or.inr ⟨by kernel_rfl, rfl⟩) (by assumption) ?_
          try simp only [Act.put, List.setIfInBounds_toArray, List.set_cons_zero, List.set_cons_succ]
          refine take_h 5 undef rfl (by kernel_rfl) (by kernel_rfl) (by kernel_rfl) (fun _ _ _ h => h) (Or.inr ⟨by kernel_rfl, rfl⟩) (by assumption) ?_
          try simp only [Act.put, List.setIfInBounds_toArray, List.set_cons_zero, List.set_cons_succ]
          refine take_h 6 undef rfl (by kernel_rfl) (by kernel_rfl) (by kernel_rfl) (fun _ _ _ h => h) (Or.inr ⟨by kernel_rfl, rfl⟩) (by assumption) ?_
          try simp only [Act.put, List.setIfInBounds_toArray, List.set_cons_zero, List.set_cons_succ]
          refine take_h 7 ?_ rfl (by kernel_rfl) (by kernel_rfl) (by kernel_rfl) (fun _ _ _ h => h) (Or.inl ⟨by kernel_rfl, ?_⟩) (by assumption) ?_
          rotate_left
          · (intro w hSw; (try dsimp only at hSw); go_simp; try (with_reducible rfl))
          try simp only [Act.put, List.setIfInBounds_toArray, List.set_cons_zero, List.set_cons_succ]
          refine take_h 8 ?_ rfl (by kernel_rfl) (by kernel_rfl) (by kernel_rfl) (fun _ _ _ h => h) (Or.inl ⟨by kernel_rfl, ?_⟩) (by assumption) ?_
          rotate_left
          · (intro w hSw; (try dsimp only at hSw); go_simp; try (with_reducible rfl))
          try simp only [Act.put, List.setIfInBounds_toArray, List.set_cons_zero, List.set_cons_succ]
          refine take_h 9 undef rfl (by kernel_rfl) (by kernel_rfl) (by kernel_rfl) (fun _ _ _ h => h) (Or.inr ⟨by kernel_rfl, rfl⟩) (by assumption) ?_
          try simp only [Act.put, List.setIfInBounds_toArray, List.set_cons_zero, List.set_cons_succ]
          refine take_h 10 undef rfl (by kernel_rfl) (by kernel_rfl) (by kernel_rfl) (fun _ _ _ h => h) (Or.inr ⟨by kernel_rfl, rfl⟩) (by assumption) ?_
          try simp only [Act.put, List.setIfInBounds_toArray, List.set_cons_zero, List.set_cons_succ]
          refine take_h 11 undef rfl (by kernel_rfl) (by kernel_rfl) (by kernel_rfl) (fun _ _ _ h => h) (Or.inr ⟨by kernel_rfl, rfl⟩) (by assumption) ?_
          try simp only [Act.put, List.setIfInBounds_toArray, List.set_cons_zero, List.set_cons_succ]
          refine take_h 12 undef rfl (by kernel_rfl) (by kernel_rfl) (by kernel_rfl) (fun _ _ _ h => h) (Or.inr ⟨by kernel_rfl, rfl⟩) (by assumption) ?_
          try simp only [Act.put, List.setIfInBounds_toArray, List.set_cons_zero, List.set_cons_succ]
          refine take_h 13 undef rfl (by kernel_rfl) (by kernel_rfl) (by kernel_rfl) (fun _ _ _ h => h) (Or.inr ⟨by kernel_rfl, rfl⟩) (by assumption) ?_
          try simp only [Act.put, List.setIfInBounds_toArray, List.set_cons_zero, List.set_cons_succ]
          refine take_h 14 undef rfl (by kernel_rfl) (by kernel_rfl) (by kernel_rfl) (fun _ _ _ h => h) (Or.inr ⟨by kernel_rfl, rfl⟩) (by assumption) ?_
          try simp only [Act.put, List.setIfInBounds_toArray, List.set_cons_zero, List.set_cons_succ]
          refine take_h 15 undef rfl (by kernel_rfl) (by kernel_rfl) (by kernel_rfl) (fun _ _ _ h => h) (Or.inr ⟨by kernel_rfl, rfl⟩) (by assumption) ?_
          try simp only [Act.put, List.setIfInBounds_toArray, List.set_cons_zero, List.set_cons_succ]
          refine take_h 16 undef rfl (by kernel_rfl) (by kernel_rfl) (by kernel_rfl) (fun _ _ _ h => h) (Or.inr ⟨by kernel_rfl, rfl⟩) (by assumption) ?_
          try simp only [Act.put, List.setIfInBounds_toArray, List.set_cons_zero, List.set_cons_succ]
          refine take_h 17 undef rfl (by kernel_rfl) (by kernel_rfl) (by kernel_rfl) (fun _ _ _ h => h) (Or.inr ⟨by kernel_rfl, rfl⟩) (by assumption) ?_
          try simp only [Act.put, List.setIfInBounds_toArray, List.set_cons_zero, List.set_cons_succ]
          refine take_h 18 undef rfl (by kernel_rfl) (by kernel_rfl) (by kernel_rfl) (fun _ _ _ h => h) (Or.inr ⟨by kernel_rfl, rfl⟩) (by assumption) ?_
          try simp only [Act.put, List.setIfInBounds_toArray, List.set_cons_zero, List.set_cons_succ]
          refine take_h 19 ?_ rfl (by kernel_rfl) (by kernel_rfl) (by kernel_rfl) (fun _ _ _ h => h) (Or.inl ⟨by kernel_rfl, ?_⟩) (by assumption) ?_
          rotate_left
          · (intro w hSw; (try dsimp only at hSw); go_simp; try (with_reducible rfl))
          try simp only [Act.put, List.setIfInBounds_toArray, List.set_cons_zero, List.set_cons_succ]
          refine wpAnyH_done (by kernel_rfl) ?_ _
          go_wp2
          go_roundw
          case rel => exact ⟨k + 1, v, by omega, rfl, by go_num, ⟨by rw [HS.out.1]; simp; exact HN.out⟩⟩
          case measure => simp [intOf]; omega
    · obtain rfl : k = n := by omega
      have q5 : ¬ (k : Int) < (k : Int) := by omega
      have e : wk ks FL (l.take k) = TL := by rw [List.take_of_length_le (by have := HSZ.out.2.2.1; omega)]; exact HP1.out.2.2.1
      rw [e] at hH
      obtain ⟨av, cv, hv, hX⟩ := hs_of_own hH.out.1 HTL.out.1 HTL.out.2
      rw [HLN.out.2] at hv hX
      obtain rfl : v = .slice av tn cv := hv
      have HB2 := Seal.mk (HB.out.trans (hH.out.2.mono HB.out.size))
      have HE2 := Seal.mk (HE.out.below hH.out.2)
      have HK2 := Seal.mk (HK.out.below hH.out.2)
      have HRu2 := Seal.mk (HRu.out.below hH.out.2)
      have HRv : Seal (IsHs wo av tn cv TL) := ⟨hX⟩
      clear hH hX e HB HE HK HRu HRx HL hmx
      go_wp2_with fail
      refine (cfind_any tn cu kn kc au ka TL ks wo HE2.out.glob HRu2.out HK2.out (by have := HSZ.out.2.2.2; omega)).mono ?_
      rintro e w5 ⟨v5, rfl, hP⟩
      rw [HP1.out.1] at hP
      rw [HP1.out.2.2.2]
      obtain ⟨a5, c5, hv, _⟩ := isLs_own hP.out.1 (by intro x hx; cases hx) (by decide)
      obtain rfl : v5 = .slice a5 0 c5 := hv
      have hb := hP.out.2
      have HB := Seal.mk (HB2.out.trans (hb.mono HB2.out.size))
      have HE := Seal.mk (HE2.out.below hb)
      have HK := Seal.mk (HK2.out.below hb)
      have HRu := Seal.mk (HRu2.out.below hb)
      have HRv1 := Seal.mk (HRv.out.below hb)
      clear hP hb HB2 HE2 HK2 HRu2 HRv
      go_wp2_with fail
      refine (ctrust_any tn cu kn kc au ka TL ks w5 HE.out.glob HRu.out HK.out (by have := HSZ.out.2.2.2; omega)).mono ?_
      rintro e w6 ⟨v6, rfl, hP⟩
      rw [HP1.out.2.1] at hP
      rw [HP1.out.2.2.2]
      obtain ⟨a6, c6, hv, hX⟩ := hs_of_own hP.out.1 HTL.out.1 HTL.out.2
      rw [HLN.out.2] at hv hX
      obtain rfl : v6 = .slice a6 tn c6 := hv
      have hb := hP.out.2
      have HB2 := Seal.mk (HB.out.trans (hb.mono HB.out.size))
      have HRu2 := Seal.mk (HRu.out.below hb)
      have HRv2 := Seal.mk (HRv1.out.below hb)
      have HR6 : Seal (IsHs w6 a6 tn c6 TL) := ⟨hX⟩
      clear hP hb hX HB HE HK HRu HRv1
      go_wp2_with fail
      refine (rsameh_eq au av tn cu cv TL w6 HRu2.out HRv2.out).mono ?_
      rintro e w7 ⟨rfl, hb⟩
      have HB := Seal.mk (HB2.out.trans (hb.mono HB2.out.size))
      have HRu := Seal.mk (HRu2.out.below hb)
      have HR7 := Seal.mk (HR6.out.below hb)
      clear hb HB2 HRu2 HRv2 HR6
      go_wp2_with fail
      refine (rsameh_eq a6 au tn c6 cu TL w7 HR7.out HRu.out).mono ?_
      rintro e w8 ⟨rfl, hb⟩
      have HB2 := Seal.mk (HB.out.trans (hb.mono HB.out.size))
      clear hb HB
      go_wp2
      go_ret
      exact ⟨rfl, HB2.out⟩

theorem law_copiesTrusted (n c kn kc : Nat) (a ka : Option Addr) (l : List Hd) (ks : List Int) (w : World) (hG : Glob w) (hk : kn ≤ 5000 → IsKs w ka kn kc ks) (hl : n ≤ 5000 → IsHs w a n c l) :
    Calls Tryd.prog 10 #[.slice ka kn kc, .slice a n c] w fun e w' => e = .returned (.bool true) ∧ Below w.heap.size w w' := by
  by_cases h : kn ≤ 30 ∧ n ≤ 16
  · by_cases h24 : 24 < kn
    · exact trusted_over n c kn kc a ka l ks w hG (hl (by omega)) (hk (by omega)) h h24
    · exact trusted_few n c kn kc a ka l ks w hG (hl (by omega)) (hk (by omega)) h (by omega)
  · exact trusted_many n c kn kc a ka w hG h
end Frk

namespace Frk
open Go Go.RowKit Go.Proofs Go.ChangeShapes Go.WideShapes Go.ChangeAt
set_option maxRecDepth 100000

theorem keys_open {H : Type} {enc : TypeId × Value → H} {W : World} {base : Nat} {v : Value} {d : DataW H} {p : List MemPlace} (hval : Value.okWide Tryd.prog W .any base 65 v) (h1 : DataW.Trod enc Tryd.prog W 0 (fun _ => true) true 65 v d p) :
    ∃ a len cap l, v = .slice a len cap ∧ (len : Int) ≤ 9223372036854775807 ∧ (len ≤ 5000 → IsKs W a len cap l) := by
  obtain ⟨a1, len, cap, rfl⟩ := okWide_slice Tryd.underlying65 hval
  obtain ⟨fuel, hf⟩ := h1
  have c1 : Tryd.prog.cellsOf 3 = 1 := by kernel_rfl
  rcases open_ints Tryd.underlying65 Tryd.underlying3 c1 hf with ⟨hcs, hx⟩ | ⟨a, len', cap', zs, hcs, _, hl, hm, hz, hx, hcell, hwz⟩
  · simp [Value.cells] at hcs
    obtain ⟨rfl, rfl, rfl⟩ := hcs
    exact ⟨none, 0, 0, [], rfl, by decide, fun _ => ⟨rfl, Nat.le_refl _, by decide, by decide, .inl rfl⟩⟩
  · simp [Value.cells] at hcs
    obtain ⟨rfl, rfl, rfl⟩ := hcs
    simp only [if_true] at hz
    unfold maxLen at hm
    have hlen : (zs.take len).length = len := by simp; omega
    refine ⟨some a, len, cap, zs.take len, rfl, by omega, fun h40 => ⟨hlen, hl, h40, by omega, ?_⟩⟩
    rcases Nat.eq_zero_or_pos len with h0 | h0
    · exact .inl h0
    · right
      obtain ⟨ab, ao, spot⟩ := a
      have hspot : spot = none := by simpa [Addr.add] using World.cell?_spot (hcell 0 (by omega))
      subst hspot
      refine ⟨ab, ao, rfl, fun j u hu => ?_, ?_⟩
      · have hj : j < len := by have := (List.getElem?_eq_some_iff.1 hu).1; rw [List.length_map, hlen] at this; exact this
        have hcj := hcell j (by omega)
        rw [Addr.add_lit] at hcj
        rw [hcj, ← hu, List.getElem?_map, List.getElem?_take, if_pos hj, List.getElem?_eq_getElem (show j < zs.length by omega)]
        have e : zs.getD j 0 = zs[j]'(by omega) := by simp [List.getD_eq_getElem?_getD, List.getElem?_eq_getElem (show j < zs.length by omega)]
        rw [e]
        rfl
      · have hc0 := hcell 0 (by omega)
        rw [Addr.add_lit] at hc0
        exact block_lt_of_cell hc0

theorem hflat_len : ∀ (l : List Hd), (∀ h ∈ l, h.ok) → (l.flatMap Hd.C).length = l.length * 42
  | [], _ => rfl
  | s :: l, h => by
    have h1 := Hd.C_len (h s (by simp)).t32
    have h2 := hflat_len l (fun s hs => h s (by simp [hs]))
    rw [List.flatMap_cons, List.length_append, h1, h2, List.length_cons]
    omega

theorem hands_open {H : Type} {enc : TypeId × Value → H} {W : World} {base : Nat} {v : Value} {d : DataW H} {p : List MemPlace} (hval : Value.okWide Tryd.prog W .any base 66 v) (h1 : DataW.Trod enc Tryd.prog W 0 (fun _ => true) true 66 v d p) :
    ∃ a len cap l, v = .slice a len cap ∧ (len : Int) ≤ 9223372036854775807 ∧ (len ≤ 5000 → IsHs W a len cap l) := by
  obtain ⟨a1, len, cap, rfl⟩ := okWide_slice Tryd.underlying66 hval
  obtain ⟨fuel, hf⟩ := h1
  have c1 : Tryd.prog.cellsOf 29 = 42 := by kernel_rfl
  rcases DataW.trod_slice Tryd.underlying66 hf with ⟨hcs, hx⟩ | ⟨a, len', cap', elems, rest, n, hn, hcs, hx, hb, hl, hm, hel, hat, hsp, _⟩
  · simp [Value.cells] at hcs
    obtain ⟨rfl, rfl, rfl⟩ := hcs
    exact ⟨none, 0, 0, [], rfl, by decide, fun _ => ⟨rfl, Nat.le_refl _, by decide, by decide, by simp, .inl rfl⟩⟩
  · simp [Value.cells] at hcs
    obtain ⟨rfl, rfl, rfl⟩ := hcs
    rw [c1] at hat hsp
    obtain ⟨hrl, hrest⟩ := hsp rfl
    unfold maxLen at hm
    have hall : ∀ i, i < cap → ∃ T : Hd, T.ok ∧ W.cells? 0 (a.add (i * 42)) 42 = some T.C := fun i hi => by
      have key : ∃ e, (W.cells? 0 (a.add (i * 42)) 42).bind (DataW.trod enc Tryd.prog W 0 (fun _ => true) true n 29) = some e := by
        by_cases h : i < len
        · exact ⟨_, (hat i h).trans (List.getElem?_eq_getElem (by omega))⟩
        · have := hrest (i - len) (by omega)
          rw [show len + (i - len) = i from by omega] at this
          exact ⟨_, this.trans (List.getElem?_eq_getElem (by omega))⟩
      obtain ⟨e, he⟩ := key
      obtain ⟨cs, h1, h2⟩ := Option.bind_eq_some_iff.1 he
      obtain ⟨T, rfl, hT⟩ := cells_hand h2
      exact ⟨T, hT, h1⟩
    have hrow : ∀ m, m ≤ len → ∃ l : List Hd, l.length = m ∧ (∀ d ∈ l, d.ok) ∧ ∀ j u, (l.flatMap Hd.C)[j]? = some u → W.cell? (a.add j) = some u := by
      intro m
      induction m with
      | zero => exact fun _ => ⟨[], rfl, by simp, fun j u h => by simp at h⟩
      | succ m ih =>
        intro hm'
        obtain ⟨l, h1, h2, h3⟩ := ih (by omega)
        obtain ⟨T, hT, hc⟩ := hall m (by omega)
        refine ⟨l ++ [T], by simp [h1], ?_, fun j u hj => ?_⟩
        · intro d hd
          rcases List.mem_append.1 hd with h | h
          · exact h2 d h
          · rw [List.mem_singleton.1 h]; exact hT
        · rw [List.flatMap_append, show [T].flatMap Hd.C = T.C from by simp] at hj
          have hdl := hflat_len l h2
          by_cases hjl : j < m * 42
          · rw [List.getElem?_append_left (by omega)] at hj
            exact h3 j u hj
          · rw [List.getElem?_append_right (by omega), hdl, h1] at hj
            have hj32 : j - m * 42 < 42 := by have := (List.getElem?_eq_some_iff.1 hj).1; rwa [Hd.C_len hT.t32] at this
            have := (World.cells?_some hc).2.2 (j - m * 42) hj32
            rw [hj] at this
            rw [Addr.add_add, show m * 42 + (j - m * 42) = j from by omega] at this
            exact this
    obtain ⟨l, hl1, hl2, hl3⟩ := hrow len (Nat.le_refl _)
    have hspot : 0 < cap → a = ⟨a.block, a.off, none⟩ := fun h => by
      obtain ⟨T, hT, hc⟩ := hall 0 h
      have h0 := (World.cells?_some hc).2.2 0 (by decide)
      rw [List.getElem?_eq_getElem (show 0 < T.C.length by rw [Hd.C_len hT.t32]; decide)] at h0
      obtain ⟨ab, ao, spot⟩ := a
      have hspot : spot = none := by simpa [Addr.add] using World.cell?_spot h0
      rw [hspot]
    refine ⟨some a, len, cap, l, rfl, by omega, fun h40 => ⟨hl1, hl, h40, by omega, hl2, ?_⟩⟩
    rcases Nat.eq_zero_or_pos len with h0 | h0
    · exact .inl h0
    · right
      have ea := hspot (by omega)
      obtain ⟨T, hT, hc⟩ := hall 0 (by omega)
      refine ⟨a.block, a.off, by rw [← ea], fun j u hu => ?_, ?_⟩
      · have := hl3 j u hu
        rw [ea, Addr.add_mid] at this
        exact this
      · have h0 := (World.cells?_some hc).2.2 0 (by decide)
        rw [List.getElem?_eq_getElem (show 0 < T.C.length by rw [Hd.C_len hT.t32]; decide), ea, Addr.add_add, Addr.add_mid] at h0
        have := block_lt_of_cell h0
        exact this
end Frk

namespace Go.Proofs.YtkkkfkefbjpmaaaDoor
open Go Go.RowKit Go.Proofs Go.ChangeShapes Go.WideShapes Go.ChangeAt Frk
set_option maxRecDepth 100000

theorem lifted (os : Os) (started : os.Started) (H : Type) (enc : TypeId × Value → H) :
    ReturnsInHanded {} Tryd.checked os 10 .any (fun w args => (Rows.copiesTrustedSpec.pre enc Tryd.prog Tryd.f10 [] false w args ∧ laidMetH Tryd.prog laid w) ∧ sizedMet enc Tryd.prog Tryd.f10 (OpenSpec.ofChange Rows.copiesTrustedSpec) false w args)
      (Rows.copiesTrustedSpec.post enc Tryd.prog Tryd.f10 false true false false) := by
  refine returnsInHanded_of_change_and (C := Tryd.checked) (X := fun w _ => laidMetH Tryd.prog laid w) (fun _ _ _ hh h => h.of_heap hh) own started (by kernel_rfl) Tryd.func10
    (ChangeSpec.witness_shaped (enc := enc) (C := Tryd.checked) (os := os) (X := fun w _ => laidMetH Tryd.prog laid w) false (World.doorLaid Tryd.prog 400 os) #[.slice none 0 0, .slice none 0 0] 8 rfl (World.shaped_of_RefB (by kernel_rfl) (by kernel_rfl)) (by kernel_rfl) (by kernel_rfl) (by kernel_rfl) (door_met os _)) ?_
  intro W base args ds gs before hval0 hW _ _ hL _
  have hval : ∀ (j : Nat) t v, Tryd.f10.params[j]? = some t → args[j]? = some v → Value.okWide Tryd.prog W .any base t v := hval0
  have hW' := hW
  obtain ⟨p, q, hA0, hV, rfl, hfz, hnd⟩ := hW
  have hA : DataW.TrodAll enc Tryd.prog W 0 (fun _ => true) true Tryd.f10.params.toList args.toList ds p := hA0
  rw [Tryd.params10] at hA hval
  obtain ⟨args⟩ := args
  obtain ⟨v0, vs0, d0, ds0, p0, q0, e0, rfl, rfl, h0, hr0⟩ := trodAll_cons hA
  obtain ⟨v1, vs1, d1, ds1, p1, q1, e1, rfl, rfl, h1, hr1⟩ := trodAll_cons hr0
  obtain ⟨rfl, rfl, rfl⟩ := trodAll_nil hr1
  obtain rfl : args = [v0, v1] := by simpa [e1] using e0
  obtain ⟨a0, n0, c0, l0, rfl, m0, wx0⟩ := keys_open (hval 0 65 v0 rfl rfl) h0
  obtain ⟨a1, n1, c1, l1, rfl, m1, wx1⟩ := hands_open (hval 1 66 v1 rfl rfl) h1
  obtain ⟨rfl, rfl⟩ := trodVars_none hV
  have hG := glob_of_laid hL
  refine (law_copiesTrusted n1 c1 n0 c0 a1 a0 l1 l0 W hG wx0 wx1).mono fun e W' ⟨he, hb⟩ => ?_
  subst he
  exact ⟨_, rfl, law_fin (by rw [Tryd.params10]; simp only [List.mem_cons, List.not_mem_nil, or_false]; intro t ht; rcases ht with rfl | rfl <;> exact ⟨by kernel_rfl, of_decide_eq_true (by kernel_rfl)⟩) (by kernel_rfl) rfl rfl hW' hb⟩

theorem copiesTrusted_row : Rows.CopiesTrustedSaid :=
  OpenClaim.holds_of_wide 10 Tryd.f10 rfl rfl rfl rfl rfl rfl rfl ⟨rfl, rfl, rfl, rfl, rfl⟩ rfl rfl rfl rfl rfl (by kernel_rfl) Tryd.func10 (by kernel_rfl)
    (of_decide_eq_true (by kernel_rfl)) (by unfold Func.isWrapper; first | (rw [if_pos (by decide +kernel)]; kernel_rfl) | (rw [if_neg (by decide +kernel)]; exact ⟨rfl, rfl⟩))
    (fun os started H enc _ => lifted os started H enc)

theorem copiesTrusted_holds : Rows.CopiesTrustedCardSaid :=
  Claim7.holds_tied_plain_at .later [] [.data, .data] true Rows.copiesTrustedCard.stood.harness true
    copiesTrusted_row (fun _ h => by cases h) (by kernel_rfl) (fun _ h => by cases h) copiesTrusted_row_tie rfl ⟨rfl, rfl⟩ (by kernel_rfl) rfl
    (fun f fn hf hfn => by
      obtain rfl : f = 10 := Option.some.inj ((show Tryd.prog.funcNamed "franking/frankinglaw51.CopiesTrusted" = some 10 by kernel_rfl).symm.trans hf) |>.symm
      obtain rfl : fn = Tryd.f10 := (Option.some.inj (Tryd.func10.symm.trans hfn)).symm
      exact ⟨by kernel_rfl, fun j t ht => by
        rw [Tryd.params10] at ht
        have hm : t ∈ [65, 66] := by simpa using Array.mem_of_getElem? ht
        have hall : ([65, 66].all fun u => !Tryd.prog.wantsStandIn u) = true := by kernel_rfl
        exact (show Tryd.prog.wantsStandIn t = false by simpa using List.all_eq_true.1 hall t hm)⟩)
    (by kernel_rfl)
#print axioms copiesTrusted_holds
end Go.Proofs.YtkkkfkefbjpmaaaDoor
