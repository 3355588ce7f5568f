/- The statement CopiesCaught of frankinglaw51 holds: for every input the law returns true, and each argument reads afterwards as it read before. Conditions: those of the row (the listed variables start as the program's text lays them; the card ties them). -/
import Derived.Test.YtkkkfkefbjpmaaaDoorVCxc
import Derived.Test.YtkkkfkefbjpmaaaDoorVHop
import Derived.Test.YtkkkfkefbjpmaaaDoorVCxa
import Derived.Deep.Cut
import Derived.Test.YtkkkfkefbjpmaaaDoorVHol
namespace Frk
open Go Go.RowKit Go.Proofs
set_option maxRecDepth 100000

theorem fdF_lie (ks : List Int) (l : List Hd) (o : Int) : LieP (sgd ks l) o (fdF (sgd ks l) o) := fdF_spec _ _ rfl sgd_fm o
theorem fd_of {ks : List Int} {l : List Hd} {o : Int} {r : Option (Hd × Hd)} (h : LieP (sgd ks l) o r) : fdF (sgd ks l) o = r := (fdF_lie ks l o).unique h
theorem sgd_mem {ks : List Int} {l : List Hd} {h : Hd} : h ∈ sgd ks l ↔ h ∈ l ∧ sgn ks h = true := List.mem_filter
theorem sgn_iff (ks : List Int) (h : Hd) : sgn ks h = true ↔ 0 ≤ h.fr ∧ h.fr < (ks.length : Int) ∧ chB (ks.getD h.fr.toNat 0) h = true := by
  unfold sgn
  simp only [Bool.and_eq_true, decide_eq_true_eq]

/-- what is found, at one of its places -/
theorem fnd_mem {ks : List Int} {l : List Hd} (h24 : ks.length ≤ 24) {x : Hd × Hd} : x ∈ fnd ks l ↔ 0 ≤ x.1.fr ∧ x.1.fr < (ks.length : Int) ∧ fdF (sgd ks l) x.1.fr = some x := by
  unfold fnd fndP
  rw [if_neg (by omega), List.mem_filterMap]
  constructor
  · rintro ⟨o, ho, e⟩
    have hl := fdF_lie ks l (o : Int)
    rw [e] at hl
    obtain ⟨a, b⟩ := x
    have hf : a.fr = (o : Int) := hl.1
    rw [List.mem_range] at ho
    show 0 ≤ a.fr ∧ a.fr < _ ∧ fdF _ a.fr = _
    rw [hf]
    exact ⟨by omega, by omega, e⟩
  · rintro ⟨h1, h2, e⟩
    refine ⟨x.1.fr.toNat, List.mem_range.2 (by omega), ?_⟩
    rw [show ((x.1.fr.toNat : Nat) : Int) = x.1.fr from by omega]
    exact e

/-- an office is among those found when its hand-overs clash -/
theorem fnd_any {ks : List Int} {l : List Hd} (h24 : ks.length ≤ 24) {h : Hd} (hs : sgn ks h = true) : (fnd ks l).any (fun x => decide (x.1.fr = h.fr)) = !(fdF (sgd ks l) h.fr).isNone := by
  have hh := (sgn_iff ks h).1 hs
  cases e : fdF (sgd ks l) h.fr with
  | none =>
    rw [List.any_eq_false.2]
    · rfl
    · intro x hx hd
      have hd := of_decide_eq_true hd
      have := (fnd_mem h24).1 hx
      rw [hd, e] at this
      exact absurd this.2.2 (by simp)
  | some x =>
    rw [List.any_eq_true.2]
    · rfl
    · have hl := fdF_lie ks l h.fr
      rw [e] at hl
      obtain ⟨a, b⟩ := x
      have hf : a.fr = h.fr := hl.1
      exact ⟨(a, b), (fnd_mem h24).2 ⟨by show 0 ≤ a.fr; omega, by show a.fr < _; omega, by show fdF _ a.fr = _; rw [hf]; exact e⟩, decide_eq_true hf⟩

/-- who is trusted, told by what is found -/
def wnt (ks : List Int) (F : List (Hd × Hd)) (h : Hd) : Bool := sgn ks h && !(F.any (fun x => decide (x.1.fr = h.fr)))
theorem trs_wnt (ks : List Int) (l : List Hd) (h24 : ks.length ≤ 24) : trs ks l = l.filter (wnt ks (fnd ks l)) := by
  unfold trs trsP
  rw [if_neg (by omega)]
  have e1 : sgd ks l = l.filter (sgn ks) := rfl
  conv => lhs; arg 2; rw [e1]
  rw [List.filter_filter]
  refine List.filter_congr fun h _ => ?_
  unfold wnt
  cases hs : sgn ks h with
  | false => simp
  | true => rw [fnd_any h24 hs, Bool.and_true, Bool.not_not, Bool.true_and]

theorem trs_mem {ks : List Int} {l : List Hd} (h24 : ks.length ≤ 24) {h : Hd} : h ∈ trs ks l ↔ h ∈ sgd ks l ∧ fdF (sgd ks l) h.fr = none := by
  unfold trs trsP
  rw [if_neg (by omega), List.mem_filter, Option.isNone_iff_eq_none]
theorem trs_sgd (ks : List Int) (l : List Hd) (h24 : ks.length ≤ 24) : sgd ks (trs ks l) = trs ks l :=
  List.filter_eq_self.2 fun _ hh => (sgd_mem.1 ((trs_mem h24).1 hh).1).2
/-- what is trusted has no lies -/
theorem trs_clean (ks : List Int) (l : List Hd) (h24 : ks.length ≤ 24) (o : Int) : fdF (sgd ks (trs ks l)) o = none := by
  refine fd_of (r := none) ?_
  intro a ha b hb ho
  rw [trs_sgd ks l h24] at ha hb
  have h1 := (trs_mem h24).1 ha
  have h2 := (trs_mem h24).1 hb
  have hl := fdF_lie ks l a.fr
  rw [h1.2] at hl
  exact hl a h1.1 b h2.1 rfl
theorem fnd_trs (ks : List Int) (l : List Hd) (h24 : ks.length ≤ 24) : fnd ks (trs ks l) = [] := by
  refine List.eq_nil_iff_forall_not_mem.2 fun x hx => ?_
  have := (fnd_mem h24).1 hx
  rw [trs_clean ks l h24] at this
  exact absurd this.2.2 (by simp)
theorem trs_trs (ks : List Int) (l : List Hd) (h24 : ks.length ≤ 24) : trs ks (trs ks l) = trs ks l := by
  have e : ∀ m : List Hd, trs ks m = (sgd ks m).filter (fun h => (fdF (sgd ks m) h.fr).isNone) := fun m => by
    unfold trs trsP
    rw [if_neg (by omega)]
  rw [e (trs ks l), trs_sgd ks l h24]
  refine List.filter_eq_self.2 fun h _ => ?_
  have := trs_clean ks l h24 h.fr
  rw [trs_sgd ks l h24] at this
  rw [this]
  rfl

/-- what is found, told for the law CopiesCaught -/
theorem fnd_at {ks : List Int} {l : List Hd} (h24 : ks.length ≤ 24) {x : Hd × Hd} (hx : x ∈ fnd ks l) :
    x.1 ∈ l ∧ x.2 ∈ l ∧ 0 ≤ x.1.fr ∧ x.1.fr < (ks.length : Int) ∧ chL (ks.getD x.1.fr.toNat 0) x.1 x.2 = true := by
  have h := (fnd_mem h24).1 hx
  have hl := fdF_lie ks l x.1.fr
  rw [h.2.2] at hl
  obtain ⟨a, b⟩ := x
  have hm := hl.some_mem
  have ha := sgd_mem.1 hm.1
  have hb := sgd_mem.1 hm.2.1
  have hs := (cq_sl a b).1 (cq_cl hm.2.2).2.2
  refine ⟨ha.1, hb.1, h.1, h.2.1, ?_⟩
  show chL (ks.getD a.fr.toNat 0) a b = true
  unfold chL
  have h1 := ((sgn_iff ks a).1 ha.2).2.2
  have h2 := ((sgn_iff ks b).1 hb.2).2.2
  rw [← hs.2.2.2.2] at h2
  rw [hm.2.2, h1, h2]
  rfl
/-- offices come in order -/
theorem fnd_up {ks : List Int} {l : List Hd} (h24 : ks.length ≤ 24) : (fnd ks l).Pairwise (fun x y => x.1.fr < y.1.fr) := by
  unfold fnd fndP
  rw [if_neg (by omega), List.pairwise_filterMap]
  refine List.Pairwise.imp ?_ List.pairwise_lt_range
  intro i j hij x hx y hy
  have h1 := fdF_lie ks l (i : Int)
  have h2 := fdF_lie ks l (j : Int)
  rw [hx] at h1
  rw [hy] at h2
  have e1 : x.1.fr = (i : Int) := h1.1
  have e2 : y.1.fr = (j : Int) := h2.1
  omega
/-- two signed hand-overs that clash are found, with their slot or an earlier one -/
theorem fnd_hit {ks : List Int} {l : List Hd} (h24 : ks.length ≤ 24) {a b : Hd} (ha : a ∈ l) (hb : b ∈ l) (hc : clB a b = true) (h0 : 0 ≤ a.fr) (h1 : a.fr < (ks.length : Int)) (c1 : chB (ks.getD a.fr.toNat 0) a = true) (c2 : chB (ks.getD a.fr.toNat 0) b = true) :
    ∃ x ∈ fnd ks l, x.1.fr = a.fr ∧ befB a x.1 = false := by
  have hs := (cq_sl a b).1 (cq_cl hc).2.2
  have sa : a ∈ sgd ks l := sgd_mem.2 ⟨ha, (sgn_iff ks a).2 ⟨h0, h1, c1⟩⟩
  have sb : b ∈ sgd ks l := sgd_mem.2 ⟨hb, (sgn_iff ks b).2 ⟨by omega, by omega, by rw [← hs.2.2.2.2]; exact c2⟩⟩
  have hl := fdF_lie ks l a.fr
  cases e : fdF (sgd ks l) a.fr with
  | none =>
    rw [e] at hl
    have := hl a sa b sb rfl
    rw [hc] at this
    cases this
  | some x =>
    rw [e] at hl
    obtain ⟨A, B⟩ := x
    have hf : A.fr = a.fr := hl.1
    exact ⟨(A, B), (fnd_mem h24).2 ⟨by show 0 ≤ A.fr; omega, by show A.fr < _; omega, by show fdF _ A.fr = _; rw [hf]; exact e⟩, hf, hl.2.2.2 a sa b sb rfl hc⟩
end Frk

namespace Frk
open Go Go.RowKit Go.Proofs
set_option maxRecDepth 100000

def anyE (l : List Hd) (x : Hd) : Bool := l.any (fun h => hdB h x)
theorem anyE_take {l : List Hd} {x h : Hd} {k : Nat} (e : l[k]? = some h) : anyE (l.take (k + 1)) x = (anyE (l.take k) x || hdB h x) := by
  unfold anyE
  rw [List.take_add_one, e, List.any_append]
  simp
theorem anyE_mem {l : List Hd} {x : Hd} (h : x ∈ l) : anyE l x = true := List.any_eq_true.2 ⟨x, h, (hdB_iff x x).2 rfl⟩
theorem fnd_one {ks : List Int} {l : List Hd} (h24 : ks.length ≤ 24) {x y : Hd × Hd} (hx : x ∈ fnd ks l) (hy : y ∈ fnd ks l) (e : x.1.fr = y.1.fr) : x = y := by
  have h1 := (fnd_mem h24).1 hx
  have h2 := (fnd_mem h24).1 hy
  rw [e, h2.2.2] at h1
  exact (Option.some.inj h1.2.2).symm
theorem fnd_empty {ks : List Int} (h24 : ks.length ≤ 24) : fnd ks [] = [] := List.eq_nil_iff_forall_not_mem.2 fun x hx => by
  have := (fnd_at h24 hx).1
  cases this

set_option maxHeartbeats 4000000 in
theorem caught_many (n c kn kc : Nat) (a ka : Option Addr) (ui uk : Int) (w : World) (hG : Glob w) (hn : ¬ (kn ≤ 30 ∧ n ≤ 16)) :
    Calls Tryd.prog 9 #[.slice ka kn kc, .slice a n c, .int .u8 ui, .int .u8 uk] w fun e w' => e = .returned (.bool true) ∧ Below w.heap.size w w' := by
  have HFew : Seal ((decide (kn ≤ 30) && decide (n ≤ 16)) = false) := ⟨by rw [Bool.and_eq_false_iff, decide_eq_false_iff_not, decide_eq_false_iff_not]; omega⟩
  have HB : Seal (Below w.heap.size w w) := ⟨Below.refl _ _⟩
  have HE : Seal (Env w none 0 0 [] []) := ⟨⟨hG, isB_nil w, by intro q hq; cases hq⟩⟩
  clear hG hn
  go_enter Tryd.func9, Tryd.ntmps9
  go_wp2_with fail
  refine (sane51_any w HE.out.glob).mono ?_
  rintro e w1 ⟨rfl, hb⟩
  have HB2 := Seal.mk (HB.out.trans (hb.mono HB.out.size))
  clear hb HB HE
  go_wp2_with fail
  refine (rfew_any a ka n c kn kc _ w1 HFew.out).mono ?_
  rintro e w2 ⟨rfl, rfl⟩
  go_wp2
  go_ret
  exact ⟨rfl, HB2.out⟩

set_option maxHeartbeats 8000000 in
theorem caught_over (n c kn kc : Nat) (a ka : Option Addr) (l : List Hd) (ks : List Int) (ui uk : Int) (_hu0 : 0 ≤ ui) (_hu1 : ui < 256) (_hk0 : 0 ≤ uk) (_hk1 : uk < 256) (w : World) (hG : Glob w) (hl : IsHs w a n c l) (hk : IsKs w ka kn kc ks) (hn : kn ≤ 30 ∧ n ≤ 16) (h24 : 24 < kn) :
    Calls Tryd.prog 9 #[.slice ka kn kc, .slice a n c, .int .u8 ui, .int .u8 uk] w fun e w' => e = .returned (.bool true) ∧ Below w.heap.size w w' := by
  have HFew : Seal ((decide (kn ≤ 30) && decide (n ≤ 16)) = true) := ⟨by rw [Bool.and_eq_true, decide_eq_true_eq, decide_eq_true_eq]; exact hn⟩
  have hkl := hk.llen
  have HL : Seal (IsHs w a n c l) := ⟨hl⟩
  have HK : Seal (IsKs w ka kn kc ks) := ⟨hk⟩
  obtain ⟨FL, hFL⟩ : ∃ F, F = fnd ks l := ⟨_, rfl⟩
  obtain ⟨er, her⟩ : ∃ F, F = ler ks := ⟨_, rfl⟩
  obtain ⟨fn, hfn⟩ : ∃ F, F = FL.length := ⟨_, rfl⟩
  have HFL : Seal ((∀ x ∈ FL, x.1.ok ∧ x.2.ok) ∧ FL.length ≤ 5000) := ⟨by rw [hFL]; exact ⟨fnd_ok hl.each, Nat.le_trans (fnd_len _ _) (by decide)⟩⟩
  have h16 : n ≤ 16 := hn.2
  have HF1 : Seal (∀ W, Glob W → IsHs W a n c l → IsKs W ka kn kc ks → Calls Tryd.prog 34 #[.slice ka kn kc, .slice a n c] W (FindPost FL er W)) := ⟨fun W g1 g2 g3 => by rw [hFL, her]; exact cfind_any n c kn kc a ka l ks W g1 g2 g3 (by omega)⟩
  have HB : Seal (Below w.heap.size w w) := ⟨Below.refl _ _⟩
  have HE : Seal (Env w none 0 0 [] []) := ⟨⟨hG, isB_nil w, by intro q hq; cases hq⟩⟩
  have HLN : Seal (FL.length = 0) := ⟨by rw [hFL]; unfold fnd; rw [if_pos (by omega)]; rfl⟩
  obtain rfl : er = 2 := by rw [her]; unfold ler; rw [if_pos (by omega)]
  obtain rfl : fn = 0 := by rw [hfn, HLN.out]
  clear hG hn hl hk hFL her h16 hfn h24 hkl
  go_enter Tryd.func9, Tryd.ntmps9
  go_wp2_with fail
  refine (sane51_any w HE.out.glob).mono ?_
  rintro e w1 ⟨rfl, hb⟩
  have HB2 := Seal.mk (HB.out.trans (hb.mono HB.out.size))
  have HE2 := Seal.mk (HE.out.below hb)
  have HK2 := Seal.mk (HK.out.below hb)
  have HL2 := Seal.mk (HL.out.below hb)
  clear hb HB HE HK HL
  have HB := HB2
  have HE := HE2
  have HK := HK2
  have HL := HL2
  clear HB2 HE2 HK2 HL2
  go_wp2_with fail
  refine (rfew_any a ka n c kn kc _ w1 HFew.out).mono ?_
  rintro e w2 ⟨rfl, rfl⟩
  go_wp2_with fail
  refine (HF1.out w1 HE.out.glob HL.out HK.out).mono ?_
  rintro e w3 ⟨vx, rfl, hP⟩
  have hb := hP.out.2
  obtain ⟨ax, cx, hv, hX⟩ := isLs_own hP.out.1 HFL.out.1 HFL.out.2
  rw [HLN.out] at hv hX
  obtain rfl : vx = .slice ax 0 cx := hv
  have HB2 := Seal.mk (HB.out.trans (hb.mono HB.out.size))
  have HE2 := Seal.mk (HE.out.below hb)
  have HK2 := Seal.mk (HK.out.below hb)
  have HL2 := Seal.mk (HL.out.below hb)
  clear hb HB HE HK HL
  have HB := HB2
  have HE := HE2
  have HK := HK2
  have HL := HL2
  clear HB2 HE2 HK2 HL2
  have HRx : Seal (IsLs w3 ax 0 cx FL) := ⟨hX⟩
  clear hP hX HF1
  go_wp2
  go_ret
  exact ⟨rfl, HB.out⟩


set_option maxHeartbeats 16000000 in
theorem caught_few (n c kn kc : Nat) (a ka : Option Addr) (l : List Hd) (ks : List Int) (ui uk : Int) (hu0 : 0 ≤ ui) (hu1 : ui < 256) (hk0 : 0 ≤ uk) (hk1 : uk < 256) (w : World) (hG : Glob w) (hl : IsHs w a n c l) (hk : IsKs w ka kn kc ks) (hn : kn ≤ 30 ∧ n ≤ 16) (h24 : kn ≤ 24) :
    Calls Tryd.prog 9 #[.slice ka kn kc, .slice a n c, .int .u8 ui, .int .u8 uk] w fun e w' => e = .returned (.bool true) ∧ Below w.heap.size w w' := by
  have HFew : Seal ((decide (kn ≤ 30) && decide (n ≤ 16)) = true) := ⟨by rw [Bool.and_eq_true, decide_eq_true_eq, decide_eq_true_eq]; exact hn⟩
  have hkl := hk.llen
  have HL : Seal (IsHs w a n c l) := ⟨hl⟩
  have HK : Seal (IsKs w ka kn kc ks) := ⟨hk⟩
  obtain ⟨FL, hFL⟩ : ∃ F, F = fnd ks l := ⟨_, rfl⟩
  obtain ⟨er, her⟩ : ∃ F, F = ler ks := ⟨_, rfl⟩
  obtain ⟨fn, hfn⟩ : ∃ F, F = FL.length := ⟨_, rfl⟩
  have HFL : Seal ((∀ x ∈ FL, x.1.ok ∧ x.2.ok) ∧ FL.length ≤ 5000) := ⟨by rw [hFL]; exact ⟨fnd_ok hl.each, Nat.le_trans (fnd_len _ _) (by decide)⟩⟩
  have h16 : n ≤ 16 := hn.2
  have HF1 : Seal (∀ W, Glob W → IsHs W a n c l → IsKs W ka kn kc ks → Calls Tryd.prog 34 #[.slice ka kn kc, .slice a n c] W (FindPost FL er W)) := ⟨fun W g1 g2 g3 => by rw [hFL, her]; exact cfind_any n c kn kc a ka l ks W g1 g2 g3 (by omega)⟩
  have HB : Seal (Below w.heap.size w w) := ⟨Below.refl _ _⟩
  have HE : Seal (Env w none 0 0 [] []) := ⟨⟨hG, isB_nil w, by intro q hq; cases hq⟩⟩
  have HLN : Seal (FL.length = fn) := ⟨hfn.symm⟩
  obtain rfl : er = 0 := by rw [her]; unfold ler; rw [if_neg (by omega)]
  have HSZ : Seal (n ≤ 16 ∧ kn = ks.length ∧ l.length = n ∧ FL = fnd ks l ∧ ks.length ≤ 24) := ⟨by have := hl.llen; refine ⟨by omega, by omega, by omega, hFL, by omega⟩⟩
  have uH := Tryd.underlying29
  have uL := Tryd.underlying74
  have hmx : n ≤ 5000 := by omega
  have hkx : kn ≤ 5000 := by omega
  clear hG hn hl hk hFL her h16 hfn h24 hkl
  go_enter Tryd.func9, Tryd.ntmps9
  go_wp2_with fail
  refine (sane51_any w HE.out.glob).mono ?_
  rintro e w1 ⟨rfl, hb⟩
  have HB2 := Seal.mk (HB.out.trans (hb.mono HB.out.size))
  have HE2 := Seal.mk (HE.out.below hb)
  have HK2 := Seal.mk (HK.out.below hb)
  have HL2 := Seal.mk (HL.out.below hb)
  clear hb HB HE HK HL
  have HB := HB2
  have HE := HE2
  have HK := HK2
  have HL := HL2
  clear HB2 HE2 HK2 HL2
  go_wp2_with fail
  refine (rfew_any a ka n c kn kc _ w1 HFew.out).mono ?_
  rintro e w2 ⟨rfl, rfl⟩
  go_wp2_with fail
  refine (HF1.out w1 HE.out.glob HL.out HK.out).mono ?_
  rintro e w3 ⟨vx, rfl, hP⟩
  have hb := hP.out.2
  obtain ⟨ax, cx, hv, hX⟩ := isLs_own hP.out.1 HFL.out.1 HFL.out.2
  rw [HLN.out] at hv hX
  obtain rfl : vx = .slice ax fn cx := hv
  have HB2 := Seal.mk (HB.out.trans (hb.mono HB.out.size))
  have HE2 := Seal.mk (HE.out.below hb)
  have HK2 := Seal.mk (HK.out.below hb)
  have HL2 := Seal.mk (HL.out.below hb)
  clear hb HB HE HK HL
  have HB := HB2
  have HE := HE2
  have HK := HK2
  have HL := HL2
  clear HB2 HE2 HK2 HL2
  have HRx : Seal (IsLs w3 ax fn cx FL) := ⟨hX⟩
  clear hP hX HF1
  have hfx : fn ≤ 5000 := by have := HFL.out.2; have := HLN.out; omega
  go_wp2
  go_loopw [11] (fun i wr => ∃ (j : Nat), j ≤ fn ∧ i = .int .i64 j ∧ Seal (Below w3.heap.size w3 wr)) (fun i _ => fn - (intOf i).toNat)
  case atStart => exact ⟨0, by omega, rfl, ⟨Below.refl _ _⟩⟩
  case round =>
    obtain ⟨wo, rfl⟩ : ∃ z, z = wr := ⟨_, rfl⟩
    obtain ⟨j, hj, rfl, hH⟩ := hrel
    by_cases hlt : j < fn
    · obtain ⟨x, hx⟩ : ∃ x, FL[j]? = some x := ⟨_, List.getElem?_eq_getElem (by have := HLN.out; omega)⟩
      have hxm : x ∈ fnd ks l := by rw [← HSZ.out.2.2.2.1]; exact List.mem_of_getElem? hx
      have HAT := Seal.mk (fnd_at HSZ.out.2.2.2.2 hxm)
      have HXJ := Seal.mk hx
      obtain ⟨g2, off2, rfl⟩ : ∃ g o, ax = some ⟨g, o, none⟩ := by
        rcases HRx.out.at_ with hz | ⟨g, o, e, _, _⟩
        · omega
        · exact ⟨g, o, e⟩
      have okx := HFL.out.1 x (List.mem_of_getElem? hx)
      obtain ⟨C1, hC1⟩ : ∃ C, C = x.1.C := ⟨_, rfl⟩
      obtain ⟨C2, hC2⟩ : ∃ C, C = x.2.C := ⟨_, rfl⟩
      have iC1 : (Tryd.prog.info? 29).map (·.size) = some C1.length := by rw [hC1]; exact Hd.C_info okx.1.t32
      have iC2 : (Tryd.prog.info? 29).map (·.size) = some C2.length := by rw [hC2]; exact Hd.C_info okx.2.t32
      have HRX : Seal (∀ W, Below w3.heap.size w3 W → W.rangeAt g2 (off2 + j * 84) (C1 ++ C2) ∧ W.rangeAt g2 (off2 + j * 84) C1 ∧ W.rangeAt g2 (off2 + j * 84 + 42) C2) := ⟨fun W hW => by
        rcases (HRx.out.below hW).at_ with hz | ⟨g, o, e, hr, _⟩
        · omega
        · cases e
          have rX := rangeC_at hr (fun x hx => lieC_len ((HFL.out.1 x hx).1.t32) ((HFL.out.1 x hx).2.t32)) hx
          have r1 := rangeAt_take rX 42
          have r2 := rangeAt_drop rX 42
          rw [show (lieC x.1 x.2).take 42 = x.1.C from List.take_left' (Hd.C_len okx.1.t32)] at r1
          rw [show (lieC x.1 x.2).drop 42 = x.2.C from List.drop_left' (Hd.C_len okx.1.t32)] at r2
          rw [hC1, hC2]
          exact ⟨rX, r1, r2⟩⟩
      have HC := Seal.mk (And.intro hC1 hC2)
      have q5 : (j : Int) < (fn : Int) := by omega
      have q6 : (0 : Int) ≤ (j : Int) := by omega
      clear hx hxm okx hC1 hC2
      go_wp2
      go_loopw [12, 13, 14] (fun u1 u2 i wr => ∃ (m : Nat), m ≤ n ∧ u1 = .bool (anyE (l.take m) x.1) ∧ u2 = .bool (anyE (l.take m) x.2) ∧ i = .int .i64 m ∧ Seal (Below w3.heap.size w3 wr)) (fun _ _ i _ => n - (intOf i).toNat)
      case atStart => exact ⟨0, by omega, rfl, rfl, rfl, hH⟩
      case round =>
        obtain ⟨wi, rfl⟩ : ∃ z, z = wr := ⟨_, rfl⟩
        obtain ⟨m, hm, rfl, rfl, rfl, HW⟩ := hrel
        clear hH
        by_cases hlt2 : m < n
        · have hIs := HL.out.below HW.out
          rcases hIs.at_ with hz | ⟨g, off, rfl, hr, hg⟩
          · omega
          · obtain ⟨h, hs⟩ : ∃ h, l[m]? = some h := ⟨_, List.getElem?_eq_getElem (by have := hIs.llen; omega)⟩
            have ok := hIs.each h (List.mem_of_getElem? hs)
            have okx := HFL.out.1 x (List.mem_of_getElem? HXJ.out)
            have rC := rangeC_at hr (fun x hx => Hd.C_len (hIs.each x hx).t32) hs
            obtain ⟨C, hC⟩ : ∃ C, C = h.C := ⟨_, rfl⟩
            have iC : (Tryd.prog.info? 29).map (·.size) = some C.length := by rw [hC]; exact Hd.C_info ok.t32
            rw [← hC] at rC
            have rX1 := (HRX.out wi HW.out).2.1
            have rX2 := (HRX.out wi HW.out).2.2
            obtain ⟨e1, he1⟩ : ∃ b, b = hdB h x.1 := ⟨_, rfl⟩
            obtain ⟨e2, he2⟩ : ∃ b, b = hdB h x.2 := ⟨_, rfl⟩
            have qe1 : ∀ w, (Op.equalIn 10000 29 (.agg C.toArray) (.agg C1.toArray)).run Tryd.prog w = .ok e1 w := fun w => by rw [hC, HC.out.1, he1]; exact eqHand h x.1 ok.t32 okx.1.t32 w
            have qe2 : ∀ w, (Op.equalIn 10000 29 (.agg C.toArray) (.agg C2.toArray)).run Tryd.prog w = .ok e2 w := fun w => by rw [hC, HC.out.2, he2]; exact eqHand h x.2 ok.t32 okx.2.t32 w
            obtain ⟨b1, hb1⟩ : ∃ b, b = anyE (l.take m) x.1 := ⟨_, rfl⟩
            obtain ⟨b2, hb2⟩ : ∃ b, b = anyE (l.take m) x.2 := ⟨_, rfl⟩
            have HA1 : Seal (anyE (l.take (m + 1)) x.1 = (b1 || e1)) := ⟨by rw [hb1, he1]; exact anyE_take hs⟩
            have HA2 : Seal (anyE (l.take (m + 1)) x.2 = (b2 || e2)) := ⟨by rw [hb2, he2]; exact anyE_take hs⟩
            rw [← hb1, ← hb2]
            have q7 : (m : Int) < (n : Int) := by omega
            have q8 : (0 : Int) ≤ (m : Int) := by omega
            clear hIs hr hg hs ok okx hC he1 he2 hb1 hb2
            go_wp2_with fail
            cases b1 with
            | false =>
              refine wp_region_held_drew (S := fun w' => w'.rangeAt g (off + m * 42) C ∧ w'.rangeAt g2 (off2 + j * 84) C1 ∧ w'.rangeAt g2 (off2 + j * 84 + 42) C2) (by kernel_rfl) ⟨rC, rX1, rX2⟩ (fun hHeld => ?_)
              obtain ⟨V, hV⟩ : ∃ Z, Z = wi.drew := ⟨_, rfl⟩
              have HV : Seal (Below w3.heap.size w3 V) := ⟨by rw [hV]; exact HW.out.trans ((below_drewn _).mono HW.out.size)⟩
              rw [← hV] at hHeld ⊢
              clear hV rC rX1 rX2
              refine take_h 0 ?_ rfl (by kernel_rfl) (by kernel_rfl) (by kernel_rfl) (fun _ _ _ h => h) (Or.inl ⟨by kernel_rfl, ?_⟩) (by assumption) ?_
              rotate_left
              · (intro w hSw; (try dsimp only at hSw); go_simp; try (with_reducible rfl))
              try simp only [Act.put, List.setIfInBounds_toArray, List.set_cons_zero, List.set_cons_succ]
              refine take_h 1 ?_ rfl (by kernel_rfl) (by kernel_rfl) (by kernel_rfl) (fun _ _ _ h => h) (Or.inl ⟨by kernel_rfl, ?_⟩) (by assumption) ?_
              rotate_left
              · (intro w hSw; (try dsimp only at hSw); go_simp; try (with_reducible rfl))
              try simp only [Act.put, List.setIfInBounds_toArray, List.set_cons_zero, List.set_cons_succ]
              refine take_h 2 ?_ rfl (by kernel_rfl) (by kernel_rfl) (by kernel_rfl) (fun _ _ _ h => h) (Or.inl ⟨by kernel_rfl, ?_⟩) (by assumption) ?_
              rotate_left
              · (intro w hSw; (try dsimp only at hSw); go_simp; try (with_reducible rfl))
              try simp only [Act.put, List.setIfInBounds_toArray, List.set_cons_zero, List.set_cons_succ]
              refine take_h 3 ?_ rfl (by kernel_rfl) (by kernel_rfl) (by kernel_rfl) (fun _ _ _ h => h) (Or.inl ⟨by kernel_rfl, ?_⟩) (by assumption) ?_
              rotate_left
              · (intro w hSw; (try dsimp only at hSw); go_simp; try (with_reducible rfl))
              try simp only [Act.put, List.setIfInBounds_toArray, List.set_cons_zero, List.set_cons_succ]
              refine take_h 4 ?_ rfl (by kernel_rfl) (by kernel_rfl) (by kernel_rfl) (fun _ _ _ h => h) (Or.inl ⟨by kernel_rfl, ?_⟩) (by assumption) ?_
              rotate_left
              · (intro w hSw; (try dsimp only at hSw); go_simp; try (with_reducible rfl))
              try simp only [Act.put, List.setIfInBounds_toArray, List.set_cons_zero, List.set_cons_succ]
              refine take_h 5 _ rfl (by kernel_rfl) (by kernel_rfl) (by kernel_rfl) (fun _ _ _ h => h) (yieldsIf_load_mid (by kernel_rfl) 29 (.tmp 52) rfl g (off + m * 42) rfl C _ (fun w hSw => hSw.1) uH rfl iC) (by assumption) ?_
              try simp only [Act.put, List.setIfInBounds_toArray, List.set_cons_zero, List.set_cons_succ]
              refine take_h 6 ?_ rfl (by kernel_rfl) (by kernel_rfl) (by kernel_rfl) (fun _ _ _ h => h) (Or.inl ⟨by kernel_rfl, ?_⟩) (by assumption) ?_
              rotate_left
              · (intro w hSw; (try dsimp only at hSw); go_simp; try (with_reducible rfl))
              try simp only [Act.put, List.setIfInBounds_toArray, List.set_cons_zero, List.set_cons_succ]
              refine take_h 7 ?_ rfl (by kernel_rfl) (by kernel_rfl) (by kernel_rfl) (fun _ _ _ h => h) (Or.inl ⟨by kernel_rfl, ?_⟩) (by assumption) ?_
              rotate_left
              · (intro w hSw; (try dsimp only at hSw); go_simp; try (with_reducible rfl))
              try simp only [Act.put, List.setIfInBounds_toArray, List.set_cons_zero, List.set_cons_succ]
              refine take_h 8 ?_ rfl (by kernel_rfl) (by kernel_rfl) (by kernel_rfl) (fun _ _ _ h => h) (Or.inl ⟨by kernel_rfl, ?_⟩) (by assumption) ?_
              rotate_left
              · (intro w hSw; (try dsimp only at hSw); go_simp; try (with_reducible rfl))
              try simp only [Act.put, List.setIfInBounds_toArray, List.set_cons_zero, List.set_cons_succ]
              refine take_h 9 ?_ rfl (by kernel_rfl) (by kernel_rfl) (by kernel_rfl) (fun _ _ _ h => h) (Or.inl ⟨by kernel_rfl, ?_⟩) (by assumption) ?_
              rotate_left
              · (intro w hSw; (try dsimp only at hSw); go_simp; try (with_reducible rfl))
              try simp only [Act.put, List.setIfInBounds_toArray, List.set_cons_zero, List.set_cons_succ]
              refine take_h 10 _ rfl (by kernel_rfl) (by kernel_rfl) (by kernel_rfl) (fun _ _ _ h => h) (yieldsIf_load_mid (by kernel_rfl) 29 (.tmp 57) rfl g2 (off2 + j * 84) rfl C1 _ (fun w hSw => hSw.2.1) uH rfl iC1) (by assumption) ?_
              try simp only [Act.put, List.setIfInBounds_toArray, List.set_cons_zero, List.set_cons_succ]
              refine take_h 11 ?_ rfl (by kernel_rfl) (by kernel_rfl) (by kernel_rfl) (fun _ _ _ h => h) (Or.inl ⟨by kernel_rfl, ?_⟩) (by assumption) ?_
              rotate_left
              · (intro w hSw; (try dsimp only at hSw); go_simp; try (with_reducible rfl))
              try simp only [Act.put, List.setIfInBounds_toArray, List.set_cons_zero, List.set_cons_succ]
              refine take_h 12 ?_ rfl (by kernel_rfl) (by kernel_rfl) (by kernel_rfl) (fun _ _ _ h => h) (Or.inl ⟨by kernel_rfl, ?_⟩) (by assumption) ?_
              rotate_left
              · (intro w hSw; (try dsimp only at hSw); go_simp; try (with_reducible rfl))
              try simp only [Act.put, List.setIfInBounds_toArray, List.set_cons_zero, List.set_cons_succ]
              refine take_h 13 ?_ rfl (by kernel_rfl) (by kernel_rfl) (by kernel_rfl) (fun _ _ _ h => h) (Or.inl ⟨by kernel_rfl, ?_⟩) (by assumption) ?_
              rotate_left
              · (intro w hSw; (try dsimp only at hSw); go_simp; try (with_reducible rfl))
              try simp only [Act.put, List.setIfInBounds_toArray, List.set_cons_zero, List.set_cons_succ]
              refine wpAnyH_done (by kernel_rfl) ?_ _
              have rC := hHeld.1
              have rX1 := hHeld.2.1
              have rX2 := hHeld.2.2
              clear hHeld
              go_wp2_with fail
              cases b2 with
              | false =>
                refine wp_region_held_drew (S := fun w' => w'.rangeAt g (off + m * 42) C ∧ w'.rangeAt g2 (off2 + j * 84) C1 ∧ w'.rangeAt g2 (off2 + j * 84 + 42) C2) (by kernel_rfl) ⟨rC, rX1, rX2⟩ (fun hHeld => ?_)
                obtain ⟨U, hV⟩ : ∃ Z, Z = V.drew := ⟨_, rfl⟩
                have HU : Seal (Below w3.heap.size w3 U) := ⟨by rw [hV]; exact HV.out.trans ((below_drewn _).mono HV.out.size)⟩
                rw [← hV] at hHeld ⊢
                clear hV rC rX1 rX2
                refine take_h 0 ?_ rfl (by kernel_rfl) (by kernel_rfl) (by kernel_rfl) (fun _ _ _ h => h) (Or.inl ⟨by kernel_rfl, ?_⟩) (by assumption) ?_
                rotate_left
                · (intro w hSw; (try dsimp only at hSw); go_simp; try (with_reducible rfl))
                try simp only [Act.put, List.setIfInBounds_toArray, List.set_cons_zero, List.set_cons_succ]
                refine take_h 1 ?_ rfl (by kernel_rfl) (by kernel_rfl) (by kernel_rfl) (fun _ _ _ h => h) (Or.inl ⟨by kernel_rfl, ?_⟩) (by assumption) ?_
                rotate_left
                · (intro w hSw; (try dsimp only at hSw); go_simp; try (with_reducible rfl))
                try simp only [Act.put, List.setIfInBounds_toArray, List.set_cons_zero, List.set_cons_succ]
                refine take_h 2 ?_ rfl (by kernel_rfl) (by kernel_rfl) (by kernel_rfl) (fun _ _ _ h => h) (Or.inl ⟨by kernel_rfl, ?_⟩) (by assumption) ?_
                rotate_left
                · (intro w hSw; (try dsimp only at hSw); go_simp; try (with_reducible rfl))
                try simp only [Act.put, List.setIfInBounds_toArray, List.set_cons_zero, List.set_cons_succ]
                refine take_h 3 ?_ rfl (by kernel_rfl) (by kernel_rfl) (by kernel_rfl) (fun _ _ _ h => h) (Or.inl ⟨by kernel_rfl, ?_⟩) (by assumption) ?_
                rotate_left
                · (intro w hSw; (try dsimp only at hSw); go_simp; try (with_reducible rfl))
                try simp only [Act.put, List.setIfInBounds_toArray, List.set_cons_zero, List.set_cons_succ]
                refine take_h 4 ?_ rfl (by kernel_rfl) (by kernel_rfl) (by kernel_rfl) (fun _ _ _ h => h) (Or.inl ⟨by kernel_rfl, ?_⟩) (by assumption) ?_
                rotate_left
                · (intro w hSw; (try dsimp only at hSw); go_simp; try (with_reducible rfl))
                try simp only [Act.put, List.setIfInBounds_toArray, List.set_cons_zero, List.set_cons_succ]
                refine take_h 5 _ rfl (by kernel_rfl) (by kernel_rfl) (by kernel_rfl) (fun _ _ _ h => h) (yieldsIf_load_mid (by kernel_rfl) 29 (.tmp 65) rfl g (off + m * 42) rfl C _ (fun w hSw => hSw.1) uH rfl iC) (by assumption) ?_
                try simp only [Act.put, List.setIfInBounds_toArray, List.set_cons_zero, List.set_cons_succ]
                refine take_h 6 ?_ rfl (by kernel_rfl) (by kernel_rfl) (by kernel_rfl) (fun _ _ _ h => h) (Or.inl ⟨by kernel_rfl, ?_⟩) (by assumption) ?_
                rotate_left
                · (intro w hSw; (try dsimp only at hSw); go_simp; try (with_reducible rfl))
                try simp only [Act.put, List.setIfInBounds_toArray, List.set_cons_zero, List.set_cons_succ]
                refine take_h 7 ?_ rfl (by kernel_rfl) (by kernel_rfl) (by kernel_rfl) (fun _ _ _ h => h) (Or.inl ⟨by kernel_rfl, ?_⟩) (by assumption) ?_
                rotate_left
                · (intro w hSw; (try dsimp only at hSw); go_simp; try (with_reducible rfl))
                try simp only [Act.put, List.setIfInBounds_toArray, List.set_cons_zero, List.set_cons_succ]
                refine take_h 8 ?_ rfl (by kernel_rfl) (by kernel_rfl) (by kernel_rfl) (fun _ _ _ h => h) (Or.inl ⟨by kernel_rfl, ?_⟩) (by assumption) ?_
                rotate_left
                · (intro w hSw; (try dsimp only at hSw); go_simp; try (with_reducible rfl))
                try simp only [Act.put, List.setIfInBounds_toArray, List.set_cons_zero, List.set_cons_succ]
                refine take_h 9 ?_ rfl (by kernel_rfl) (by kernel_rfl) (by kernel_rfl) (fun _ _ _ h => h) (Or.inl ⟨by kernel_rfl, ?_⟩) (by assumption) ?_
                rotate_left
                · (intro w hSw; (try dsimp only at hSw); go_simp; try (with_reducible rfl))
                try simp only [Act.put, List.setIfInBounds_toArray, List.set_cons_zero, List.set_cons_succ]
                refine take_h 10 _ rfl (by kernel_rfl) (by kernel_rfl) (by kernel_rfl) (fun _ _ _ h => h) (yieldsIf_load_mid (by kernel_rfl) 29 (.tmp 70) rfl g2 (off2 + j * 84 + 42) rfl C2 _ (fun w hSw => hSw.2.2) uH rfl iC2) (by assumption) ?_
                try simp only [Act.put, List.setIfInBounds_toArray, List.set_cons_zero, List.set_cons_succ]
                refine take_h 11 ?_ rfl (by kernel_rfl) (by kernel_rfl) (by kernel_rfl) (fun _ _ _ h => h) (Or.inl ⟨by kernel_rfl, ?_⟩) (by assumption) ?_
                rotate_left
                · (intro w hSw; (try dsimp only at hSw); go_simp; try (with_reducible rfl))
                try simp only [Act.put, List.setIfInBounds_toArray, List.set_cons_zero, List.set_cons_succ]
                refine take_h 12 ?_ rfl (by kernel_rfl) (by kernel_rfl) (by kernel_rfl) (fun _ _ _ h => h) (Or.inl ⟨by kernel_rfl, ?_⟩) (by assumption) ?_
                rotate_left
                · (intro w hSw; (try dsimp only at hSw); go_simp; try (with_reducible rfl))
                try simp only [Act.put, List.setIfInBounds_toArray, List.set_cons_zero, List.set_cons_succ]
                refine take_h 13 ?_ rfl (by kernel_rfl) (by kernel_rfl) (by kernel_rfl) (fun _ _ _ h => h) (Or.inl ⟨by kernel_rfl, ?_⟩) (by assumption) ?_
                rotate_left
                · (intro w hSw; (try dsimp only at hSw); go_simp; try (with_reducible rfl))
                try simp only [Act.put, List.setIfInBounds_toArray, List.set_cons_zero, List.set_cons_succ]
                refine wpAnyH_done (by kernel_rfl) ?_ _
                have rC := hHeld.1
                have rX1 := hHeld.2.1
                have rX2 := hHeld.2.2
                clear hHeld
                go_wp2_with fail
                go_roundw
                case rel => exact ⟨m + 1, by omega, by rw [HA1.out]; simp, by rw [HA2.out]; simp, by go_num, HU⟩
                case measure => simp [intOf]; omega
              | true =>
                refine wp_region_held_drew (S := fun w' => w'.rangeAt g (off + m * 42) C ∧ w'.rangeAt g2 (off2 + j * 84) C1 ∧ w'.rangeAt g2 (off2 + j * 84 + 42) C2) (by kernel_rfl) ⟨rC, rX1, rX2⟩ (fun hHeld => ?_)
                obtain ⟨U, hV⟩ : ∃ Z, Z = V.drew := ⟨_, rfl⟩
                have HU : Seal (Below w3.heap.size w3 U) := ⟨by rw [hV]; exact HV.out.trans ((below_drewn _).mono HV.out.size)⟩
                rw [← hV] at hHeld ⊢
                clear hV rC rX1 rX2
                refine take_h 0 ?_ rfl (by kernel_rfl) (by kernel_rfl) (by kernel_rfl) (fun _ _ _ h => h) (Or.inl ⟨by kernel_rfl, ?_⟩) (by assumption) ?_
                rotate_left
                · (intro w hSw; (try dsimp only at hSw); go_simp; try (with_reducible rfl))
                try simp only [Act.put, List.setIfInBounds_toArray, List.set_cons_zero, List.set_cons_succ]
                refine take_h 1 ?_ rfl (by kernel_rfl) (by kernel_rfl) (by kernel_rfl) (fun _ _ _ h => h) (Or.inl ⟨by kernel_rfl, ?_⟩) (by assumption) ?_
                rotate_left
                · (intro w hSw; (try dsimp only at hSw); go_simp; try (with_reducible rfl))
                try simp only [Act.put, List.setIfInBounds_toArray, List.set_cons_zero, List.set_cons_succ]
                refine take_h 2 undef rfl (by kernel_rfl) (by kernel_rfl) (by kernel_rfl) (fun _ _ _ h => h) (Or.inr ⟨by kernel_rfl, rfl⟩) (by assumption) ?_
                try simp only [Act.put, List.setIfInBounds_toArray, List.set_cons_zero, List.set_cons_succ]
                refine take_h 3 undef rfl (by kernel_rfl) (by kernel_rfl) (by kernel_rfl) (fun _ _ _ h => h) (Or.inr ⟨by kernel_rfl, rfl⟩) (by assumption) ?_
                try simp only [Act.put, List.setIfInBounds_toArray, List.set_cons_zero, List.set_cons_succ]
                refine take_h 4 undef rfl (by kernel_rfl) (by kernel_rfl) (by kernel_rfl) (fun _ _ _ h => h) (Or.inr ⟨by kernel_rfl, rfl⟩) (by assumption) ?_
                try simp only [Act.put, List.setIfInBounds_toArray, List.set_cons_zero, List.set_cons_succ]
                refine take_h 5 undef rfl (by kernel_rfl) (by kernel_rfl) (by kernel_rfl) (fun _ _ _ h => h) (Or.inr ⟨by kernel_rfl, rfl⟩) (by assumption) ?_
                try simp only [Act.put, List.setIfInBounds_toArray, List.set_cons_zero, List.set_cons_succ]
                refine take_h 6 undef rfl (by kernel_rfl) (by kernel_rfl) (by kernel_rfl) (fun _ _ _ h => h) (Or.inr ⟨by kernel_rfl, rfl⟩) (by assumption) ?_
                try simp only [Act.put, List.setIfInBounds_toArray, List.set_cons_zero, List.set_cons_succ]
                refine take_h 7 undef rfl (by kernel_rfl) (by kernel_rfl) (by kernel_rfl) (fun _ _ _ h => h) (Or.inr ⟨by kernel_rfl, rfl⟩) (by assumption) ?_
                try simp only [Act.put, List.setIfInBounds_toArray, List.set_cons_zero, List.set_cons_succ]
                refine take_h 8 undef rfl (by kernel_rfl) (by kernel_rfl) (by kernel_rfl) (fun _ _ _ h => h) (Or.inr ⟨by kernel_rfl, rfl⟩) (by assumption) ?_
                try simp only [Act.put, List.setIfInBounds_toArray, List.set_cons_zero, List.set_cons_succ]
                refine take_h 9 undef rfl (by kernel_rfl) (by kernel_rfl) (by kernel_rfl) (fun _ _ _ h => h) (Or.inr ⟨by kernel_rfl, rfl⟩) (by assumption) ?_
                try simp only [Act.put, List.setIfInBounds_toArray, List.set_cons_zero, List.set_cons_succ]
                refine take_h 10 undef rfl (by kernel_rfl) (by kernel_rfl) (by kernel_rfl) (fun _ _ _ h => h) (Or.inr ⟨by kernel_rfl, rfl⟩) (by assumption) ?_
                try simp only [Act.put, List.setIfInBounds_toArray, List.set_cons_zero, List.set_cons_succ]
                refine take_h 11 undef rfl (by kernel_rfl) (by kernel_rfl) (by kernel_rfl) (fun _ _ _ h => h) (Or.inr ⟨by kernel_rfl, rfl⟩) (by assumption) ?_
                try simp only [Act.put, List.setIfInBounds_toArray, List.set_cons_zero, List.set_cons_succ]
                refine take_h 12 ?_ rfl (by kernel_rfl) (by kernel_rfl) (by kernel_rfl) (fun _ _ _ h => h) (Or.inl ⟨by kernel_rfl, ?_⟩) (by assumption) ?_
                rotate_left
                · (intro w hSw; (try dsimp only at hSw); go_simp; try (with_reducible rfl))
                try simp only [Act.put, List.setIfInBounds_toArray, List.set_cons_zero, List.set_cons_succ]
                refine take_h 13 ?_ rfl (by kernel_rfl) (by kernel_rfl) (by kernel_rfl) (fun _ _ _ h => h) (Or.inl ⟨by kernel_rfl, ?_⟩) (by assumption) ?_
                rotate_left
                · (intro w hSw; (try dsimp only at hSw); go_simp; try (with_reducible rfl))
                try simp only [Act.put, List.setIfInBounds_toArray, List.set_cons_zero, List.set_cons_succ]
                refine wpAnyH_done (by kernel_rfl) ?_ _
                have rC := hHeld.1
                have rX1 := hHeld.2.1
                have rX2 := hHeld.2.2
                clear hHeld
                go_wp2_with fail
                go_roundw
                case rel => exact ⟨m + 1, by omega, by rw [HA1.out]; simp, by rw [HA2.out]; simp, by go_num, HU⟩
                case measure => simp [intOf]; omega
            | true =>
              refine wp_region_held_drew (S := fun w' => w'.rangeAt g (off + m * 42) C ∧ w'.rangeAt g2 (off2 + j * 84) C1 ∧ w'.rangeAt g2 (off2 + j * 84 + 42) C2) (by kernel_rfl) ⟨rC, rX1, rX2⟩ (fun hHeld => ?_)
              obtain ⟨V, hV⟩ : ∃ Z, Z = wi.drew := ⟨_, rfl⟩
              have HV : Seal (Below w3.heap.size w3 V) := ⟨by rw [hV]; exact HW.out.trans ((below_drewn _).mono HW.out.size)⟩
              rw [← hV] at hHeld ⊢
              clear hV rC rX1 rX2
              refine take_h 0 ?_ rfl (by kernel_rfl) (by kernel_rfl) (by kernel_rfl) (fun _ _ _ h => h) (Or.inl ⟨by kernel_rfl, ?_⟩) (by assumption) ?_
              rotate_left
              · (intro w hSw; (try dsimp only at hSw); go_simp; try (with_reducible rfl))
              try simp only [Act.put, List.setIfInBounds_toArray, List.set_cons_zero, List.set_cons_succ]
              refine take_h 1 ?_ rfl (by kernel_rfl) (by kernel_rfl) (by kernel_rfl) (fun _ _ _ h => h) (Or.inl ⟨by kernel_rfl, ?_⟩) (by assumption) ?_
              rotate_left
              · (intro w hSw; (try dsimp only at hSw); go_simp; try (with_reducible rfl))
              try simp only [Act.put, List.setIfInBounds_toArray, List.set_cons_zero, List.set_cons_succ]
              refine take_h 2 undef rfl (by kernel_rfl) (by kernel_rfl) (by kernel_rfl) (fun _ _ _ h => h) (Or.inr ⟨by kernel_rfl, rfl⟩) (by assumption) ?_
              try simp only [Act.put, List.setIfInBounds_toArray, List.set_cons_zero, List.set_cons_succ]
              refine take_h 3 undef rfl (by kernel_rfl) (by kernel_rfl) (by kernel_rfl) (fun _ _ _ h => h) (Or.inr ⟨by kernel_rfl, rfl⟩) (by assumption) ?_
              try simp only [Act.put, List.setIfInBounds_toArray, List.set_cons_zero, List.set_cons_succ]
              refine take_h 4 undef rfl (by kernel_rfl) (by kernel_rfl) (by kernel_rfl) (fun _ _ _ h => h) (Or.inr ⟨by kernel_rfl, rfl⟩) (by assumption) ?_
              try simp only [Act.put, List.setIfInBounds_toArray, List.set_cons_zero, List.set_cons_succ]
              refine take_h 5 undef rfl (by kernel_rfl) (by kernel_rfl) (by kernel_rfl) (fun _ _ _ h => h) (Or.inr ⟨by kernel_rfl, rfl⟩) (by assumption) ?_
              try simp only [Act.put, List.setIfInBounds_toArray, List.set_cons_zero, List.set_cons_succ]
              refine take_h 6 undef rfl (by kernel_rfl) (by kernel_rfl) (by kernel_rfl) (fun _ _ _ h => h) (Or.inr ⟨by kernel_rfl, rfl⟩) (by assumption) ?_
              try simp only [Act.put, List.setIfInBounds_toArray, List.set_cons_zero, List.set_cons_succ]
              refine take_h 7 undef rfl (by kernel_rfl) (by kernel_rfl) (by kernel_rfl) (fun _ _ _ h => h) (Or.inr ⟨by kernel_rfl, rfl⟩) (by assumption) ?_
              try simp only [Act.put, List.setIfInBounds_toArray, List.set_cons_zero, List.set_cons_succ]
              refine take_h 8 undef rfl (by kernel_rfl) (by kernel_rfl) (by kernel_rfl) (fun _ _ _ h => h) (Or.inr ⟨by kernel_rfl, rfl⟩) (by assumption) ?_
              try simp only [Act.put, List.setIfInBounds_toArray, List.set_cons_zero, List.set_cons_succ]
              refine take_h 9 undef rfl (by kernel_rfl) (by kernel_rfl) (by kernel_rfl) (fun _ _ _ h => h) (Or.inr ⟨by kernel_rfl, rfl⟩) (by assumption) ?_
              try simp only [Act.put, List.setIfInBounds_toArray, List.set_cons_zero, List.set_cons_succ]
              refine take_h 10 undef rfl (by kernel_rfl) (by kernel_rfl) (by kernel_rfl) (fun _ _ _ h => h) (Or.inr ⟨by kernel_rfl, rfl⟩) (by assumption) ?_
              try simp only [Act.put, List.setIfInBounds_toArray, List.set_cons_zero, List.set_cons_succ]
              refine take_h 11 undef rfl (by kernel_rfl) (by kernel_rfl) (by kernel_rfl) (fun _ _ _ h => h) (Or.inr ⟨by kernel_rfl, rfl⟩) (by assumption) ?_
              try simp only [Act.put, List.setIfInBounds_toArray, List.set_cons_zero, List.set_cons_succ]
              refine take_h 12 ?_ rfl (by kernel_rfl) (by kernel_rfl) (by kernel_rfl) (fun _ _ _ h => h) (Or.inl ⟨by kernel_rfl, ?_⟩) (by assumption) ?_
              rotate_left
              · (intro w hSw; (try dsimp only at hSw); go_simp; try (with_reducible rfl))
              try simp only [Act.put, List.setIfInBounds_toArray, List.set_cons_zero, List.set_cons_succ]
              refine take_h 13 ?_ rfl (by kernel_rfl) (by kernel_rfl) (by kernel_rfl) (fun _ _ _ h => h) (Or.inl ⟨by kernel_rfl, ?_⟩) (by assumption) ?_
              rotate_left
              · (intro w hSw; (try dsimp only at hSw); go_simp; try (with_reducible rfl))
              try simp only [Act.put, List.setIfInBounds_toArray, List.set_cons_zero, List.set_cons_succ]
              refine wpAnyH_done (by kernel_rfl) ?_ _
              have rC := hHeld.1
              have rX1 := hHeld.2.1
              have rX2 := hHeld.2.2
              clear hHeld
              go_wp2_with fail
              cases b2 with
              | false =>
                refine wp_region_held_drew (S := fun w' => w'.rangeAt g (off + m * 42) C ∧ w'.rangeAt g2 (off2 + j * 84) C1 ∧ w'.rangeAt g2 (off2 + j * 84 + 42) C2) (by kernel_rfl) ⟨rC, rX1, rX2⟩ (fun hHeld => ?_)
                obtain ⟨U, hV⟩ : ∃ Z, Z = V.drew := ⟨_, rfl⟩
                have HU : Seal (Below w3.heap.size w3 U) := ⟨by rw [hV]; exact HV.out.trans ((below_drewn _).mono HV.out.size)⟩
                rw [← hV] at hHeld ⊢
                clear hV rC rX1 rX2
                refine take_h 0 ?_ rfl (by kernel_rfl) (by kernel_rfl) (by kernel_rfl) (fun _ _ _ h => h) (Or.inl ⟨by kernel_rfl, ?_⟩) (by assumption) ?_
                rotate_left
                · (intro w hSw; (try dsimp only at hSw); go_simp; try (with_reducible rfl))
                try simp only [Act.put, List.setIfInBounds_toArray, List.set_cons_zero, List.set_cons_succ]
                refine take_h 1 ?_ rfl (by kernel_rfl) (by kernel_rfl) (by kernel_rfl) (fun _ _ _ h => h) (Or.inl ⟨by kernel_rfl, ?_⟩) (by assumption) ?_
                rotate_left
                · (intro w hSw; (try dsimp only at hSw); go_simp; try (with_reducible rfl))
                try simp only [Act.put, List.setIfInBounds_toArray, List.set_cons_zero, List.set_cons_succ]
                refine take_h 2 ?_ rfl (by kernel_rfl) (by kernel_rfl) (by kernel_rfl) (fun _ _ _ h => h) (Or.inl ⟨by kernel_rfl, ?_⟩) (by assumption) ?_
                rotate_left
                · (intro w hSw; (try dsimp only at hSw); go_simp; try (with_reducible rfl))
                try simp only [Act.put, List.setIfInBounds_toArray, List.set_cons_zero, List.set_cons_succ]
                refine take_h 3 ?_ rfl (by kernel_rfl) (by kernel_rfl) (by kernel_rfl) (fun _ _ _ h => h) (Or.inl ⟨by kernel_rfl, ?_⟩) (by assumption) ?_
                rotate_left
                · (intro w hSw; (try dsimp only at hSw); go_simp; try (with_reducible rfl))
                try simp only [Act.put, List.setIfInBounds_toArray, List.set_cons_zero, List.set_cons_succ]
                refine take_h 4 ?_ rfl (by kernel_rfl) (by kernel_rfl) (by kernel_rfl) (fun _ _ _ h => h) (Or.inl ⟨by kernel_rfl, ?_⟩) (by assumption) ?_
                rotate_left
                · (intro w hSw; (try dsimp only at hSw); go_simp; try (with_reducible rfl))
                try simp only [Act.put, List.setIfInBounds_toArray, List.set_cons_zero, List.set_cons_succ]
                refine take_h 5 _ rfl (by kernel_rfl) (by kernel_rfl) (by kernel_rfl) (fun _ _ _ h => h) (yieldsIf_load_mid (by kernel_rfl) 29 (.tmp 65) rfl g (off + m * 42) rfl C _ (fun w hSw => hSw.1) uH rfl iC) (by assumption) ?_
                try simp only [Act.put, List.setIfInBounds_toArray, List.set_cons_zero, List.set_cons_succ]
                refine take_h 6 ?_ rfl (by kernel_rfl) (by kernel_rfl) (by kernel_rfl) (fun _ _ _ h => h) (Or.inl ⟨by kernel_rfl, ?_⟩) (by assumption) ?_
                rotate_left
                · (intro w hSw; (try dsimp only at hSw); go_simp; try (with_reducible rfl))
                try simp only [Act.put, List.setIfInBounds_toArray, List.set_cons_zero, List.set_cons_succ]
                refine take_h 7 ?_ rfl (by kernel_rfl) (by kernel_rfl) (by kernel_rfl) (fun _ _ _ h => h) (Or.inl ⟨by kernel_rfl, ?_⟩) (by assumption) ?_
                rotate_left
                · (intro w hSw; (try dsimp only at hSw); go_simp; try (with_reducible rfl))
                try simp only [Act.put, List.setIfInBounds_toArray, List.set_cons_zero, List.set_cons_succ]
                refine take_h 8 ?_ rfl (by kernel_rfl) (by kernel_rfl) (by kernel_rfl) (fun _ _ _ h => h) (Or.inl ⟨by kernel_rfl, ?_⟩) (by assumption) ?_
                rotate_left
                · (intro w hSw; (try dsimp only at hSw); go_simp; try (with_reducible rfl))
                try simp only [Act.put, List.setIfInBounds_toArray, List.set_cons_zero, List.set_cons_succ]
                refine take_h 9 ?_ rfl (by kernel_rfl) (by kernel_rfl) (by kernel_rfl) (fun _ _ _ h => h) (Or.inl ⟨by kernel_rfl, ?_⟩) (by assumption) ?_
                rotate_left
                · (intro w hSw; (try dsimp only at hSw); go_simp; try (with_reducible rfl))
                try simp only [Act.put, List.setIfInBounds_toArray, List.set_cons_zero, List.set_cons_succ]
                refine take_h 10 _ rfl (by kernel_rfl) (by kernel_rfl) (by kernel_rfl) (fun _ _ _ h => h) (yieldsIf_load_mid (by kernel_rfl) 29 (.tmp 70) rfl g2 (off2 + j * 84 + 42) rfl C2 _ (fun w hSw => hSw.2.2) uH rfl iC2) (by assumption) ?_
                try simp only [Act.put, List.setIfInBounds_toArray, List.set_cons_zero, List.set_cons_succ]
                refine take_h 11 ?_ rfl (by kernel_rfl) (by kernel_rfl) (by kernel_rfl) (fun _ _ _ h => h) (Or.inl ⟨by kernel_rfl, ?_⟩) (by assumption) ?_
                rotate_left
                · (intro w hSw; (try dsimp only at hSw); go_simp; try (with_reducible rfl))
                try simp only [Act.put, List.setIfInBounds_toArray, List.set_cons_zero, List.set_cons_succ]
                refine take_h 12 ?_ rfl (by kernel_rfl) (by kernel_rfl) (by kernel_rfl) (fun _ _ _ h => h) (Or.inl ⟨by kernel_rfl, ?_⟩) (by assumption) ?_
                rotate_left
                · (intro w hSw; (try dsimp only at hSw); go_simp; try (with_reducible rfl))
                try simp only [Act.put, List.setIfInBounds_toArray, List.set_cons_zero, List.set_cons_succ]
                refine take_h 13 ?_ rfl (by kernel_rfl) (by kernel_rfl) (by kernel_rfl) (fun _ _ _ h => h) (Or.inl ⟨by kernel_rfl, ?_⟩) (by assumption) ?_
                rotate_left
                · (intro w hSw; (try dsimp only at hSw); go_simp; try (with_reducible rfl))
                try simp only [Act.put, List.setIfInBounds_toArray, List.set_cons_zero, List.set_cons_succ]
                refine wpAnyH_done (by kernel_rfl) ?_ _
                have rC := hHeld.1
                have rX1 := hHeld.2.1
                have rX2 := hHeld.2.2
                clear hHeld
                go_wp2_with fail
                go_roundw
                case rel => exact ⟨m + 1, by omega, by rw [HA1.out]; simp, by rw [HA2.out]; simp, by go_num, HU⟩
                case measure => simp [intOf]; omega
              | true =>
                refine wp_region_held_drew (S := fun w' => w'.rangeAt g (off + m * 42) C ∧ w'.rangeAt g2 (off2 + j * 84) C1 ∧ w'.rangeAt g2 (off2 + j * 84 + 42) C2) (by kernel_rfl) ⟨rC, rX1, rX2⟩ (fun hHeld => ?_)
                obtain ⟨U, hV⟩ : ∃ Z, Z = V.drew := ⟨_, rfl⟩
                have HU : Seal (Below w3.heap.size w3 U) := ⟨by rw [hV]; exact HV.out.trans ((below_drewn _).mono HV.out.size)⟩
                rw [← hV] at hHeld ⊢
                clear hV rC rX1 rX2
                refine take_h 0 ?_ rfl (by kernel_rfl) (by kernel_rfl) (by kernel_rfl) (fun _ _ _ h => h) (Or.inl ⟨by kernel_rfl, ?_⟩) (by assumption) ?_
                rotate_left
                · (intro w hSw; (try dsimp only at hSw); go_simp; try (with_reducible rfl))
                try simp only [Act.put, List.setIfInBounds_toArray, List.set_cons_zero, List.set_cons_succ]
                refine take_h 1 ?_ rfl (by kernel_rfl) (by kernel_rfl) (by kernel_rfl) (fun _ _ _ h => h) (Or.inl ⟨by kernel_rfl, ?_⟩) (by assumption) ?_
                rotate_left
                · (intro w hSw; (try dsimp only at hSw); go_simp; try (with_reducible rfl))
                try simp only [Act.put, List.setIfInBounds_toArray, List.set_cons_zero, List.set_cons_succ]
                refine take_h 2 undef rfl (by kernel_rfl) (by kernel_rfl) (by kernel_rfl) (fun _ _ _ h => h) (Or.inr ⟨by kernel_rfl, rfl⟩) (by assumption) ?_
                try simp only [Act.put, List.setIfInBounds_toArray, List.set_cons_zero, List.set_cons_succ]
                refine take_h 3 undef rfl (by kernel_rfl) (by kernel_rfl) (by kernel_rfl) (fun _ _ _ h => h) (Or.inr ⟨by kernel_rfl, rfl⟩) (by assumption) ?_
                try simp only [Act.put, List.setIfInBounds_toArray, List.set_cons_zero, List.set_cons_succ]
                refine take_h 4 undef rfl (by kernel_rfl) (by kernel_rfl) (by kernel_rfl) (fun _ _ _ h => h) (Or.inr ⟨by kernel_rfl, rfl⟩) (by assumption) ?_
                try simp only [Act.put, List.setIfInBounds_toArray, List.set_cons_zero, List.set_cons_succ]
                refine take_h 5 undef rfl (by kernel_rfl) (by kernel_rfl) (by kernel_rfl) (fun _ _ _ h => h) (Or.inr ⟨by kernel_rfl, rfl⟩) (by assumption) ?_
                try simp only [Act.put, List.setIfInBounds_toArray, List.set_cons_zero, List.set_cons_succ]
                refine take_h 6 undef rfl (by kernel_rfl) (by kernel_rfl) (by kernel_rfl) (fun _ _ _ h => h) (Or.inr ⟨by kernel_rfl, rfl⟩) (by assumption) ?_
                try simp only [Act.put, List.setIfInBounds_toArray, List.set_cons_zero, List.set_cons_succ]
                refine take_h 7 undef rfl (by kernel_rfl) (by kernel_rfl) (by kernel_rfl) (fun _ _ _ h => h) (Or.inr ⟨by kernel_rfl, rfl⟩) (by assumption) ?_
                try simp only [Act.put, List.setIfInBounds_toArray, List.set_cons_zero, List.set_cons_succ]
                refine take_h 8 undef rfl (by kernel_rfl) (by kernel_rfl) (by kernel_rfl) (fun _ _ _ h => h) (Or.inr ⟨by kernel_rfl, rfl⟩) (by assumption) ?_
                try simp only [Act.put, List.setIfInBounds_toArray, List.set_cons_zero, List.set_cons_succ]
                refine take_h 9 undef rfl (by kernel_rfl) (by kernel_rfl) (by kernel_rfl) (fun _ _ _ h => h) (Or.inr ⟨by kernel_rfl, rfl⟩) (by assumption) ?_
                try simp only [Act.put, List.setIfInBounds_toArray, List.set_cons_zero, List.set_cons_succ]
                refine take_h 10 undef rfl (by kernel_rfl) (by kernel_rfl) (by kernel_rfl) (fun _ _ _ h => h) (Or.inr ⟨by kernel_rfl, rfl⟩) (by assumption) ?_
                try simp only [Act.put, List.setIfInBounds_toArray, List.set_cons_zero, List.set_cons_succ]
                refine take_h 11 undef rfl (by kernel_rfl) (by kernel_rfl) (by kernel_rfl) (fun _ _ _ h => h) (Or.inr ⟨by kernel_rfl, rfl⟩) (by assumption) ?_
                try simp only [Act.put, List.setIfInBounds_toArray, List.set_cons_zero, List.set_cons_succ]
                refine take_h 12 ?_ rfl (by kernel_rfl) (by kernel_rfl) (by kernel_rfl) (fun _ _ _ h => h) (Or.inl ⟨by kernel_rfl, ?_⟩) (by assumption) ?_
                rotate_left
                · (intro w hSw; (try dsimp only at hSw); go_simp; try (with_reducible rfl))
                try simp only [Act.put, List.setIfInBounds_toArray, List.set_cons_zero, List.set_cons_succ]
                refine take_h 13 ?_ rfl (by kernel_rfl) (by kernel_rfl) (by kernel_rfl) (fun _ _ _ h => h) (Or.inl ⟨by kernel_rfl, ?_⟩) (by assumption) ?_
                rotate_left
                · (intro w hSw; (try dsimp only at hSw); go_simp; try (with_reducible rfl))
                try simp only [Act.put, List.setIfInBounds_toArray, List.set_cons_zero, List.set_cons_succ]
                refine wpAnyH_done (by kernel_rfl) ?_ _
                have rC := hHeld.1
                have rX1 := hHeld.2.1
                have rX2 := hHeld.2.2
                clear hHeld
                go_wp2_with fail
                go_roundw
                case rel => exact ⟨m + 1, by omega, by rw [HA1.out]; simp, by rw [HA2.out]; simp, by go_num, HU⟩
                case measure => simp [intOf]; omega
        · obtain rfl : m = n := by omega
          have q7 : ¬ (m : Int) < (m : Int) := by omega
          have ef : l.take m = l := List.take_of_length_le (by have := HSZ.out.2.2.1; omega)
          rw [ef, anyE_mem HAT.out.1, anyE_mem HAT.out.2.1]
          have okx := HFL.out.1 x (List.mem_of_getElem? HXJ.out)
          obtain ⟨f, hf⟩ : ∃ f : Nat, x.1.fr = (f : Int) := ⟨x.1.fr.toNat, by have := HAT.out.2.2.1; omega⟩
          have hfk : f < kn := by have := HAT.out.2.2.2.1; have := HSZ.out.2.1; omega
          have hKs := HK.out.below HW.out
          obtain ⟨key, hkey⟩ : ∃ key, ks[f]? = some key := ⟨_, List.getElem?_eq_getElem (by have := hKs.llen; omega)⟩
          obtain ⟨CL, hCL⟩ : ∃ C, C = C1 ++ C2 := ⟨_, rfl⟩
          have iL : (Tryd.prog.info? 74).map (·.size) = some CL.length := by rw [hCL, HC.out.1, HC.out.2]; exact lieC_info okx.1.t32 okx.2.t32
          have HCk : Seal (∀ W', Glob W' → Calls Tryd.prog 38 #[.int .i64 key, .agg CL.toArray] W' fun e w' => e = .returned (.bool true) ∧ Below W'.heap.size W' w') := ⟨fun W' hG => by
            have e : chL key x.1 x.2 = true := by have h := HAT.out.2.2.2.2; rw [hf] at h; simpa [hkey] using h
            have h := ccheckl_any key x.1 x.2 W' okx.1 okx.2 hG
            rw [e] at h
            rw [hCL, HC.out.1, HC.out.2]; exact h⟩
          have rX := (HRX.out wi HW.out).1
          rw [← hCL] at rX
          have c4 : wi.cell? ⟨g2, off2 + j * 84 + 4, none⟩ = some (.int .i64 (f : Int)) := by rw [← hf]; exact rX 4 _ (by rw [hCL, HC.out.1]; rfl)
          have z1 : ((f : Int) < 0) = False := by simp
          have z2 : (kn ≤ f) = False := by simp; omega
          have q9 : (f : Int) < (kn : Int) := by omega
          have q10 : (0 : Int) ≤ (f : Int) := by omega
          have HG3 := Seal.mk (HE.out.glob.below HW.out)
          rcases hKs.at_ with hz | ⟨kg, ko, rfl, hkr, hkg⟩
          · omega
          · have ck : wi.cell? ⟨kg, ko + f, none⟩ = some (.int .i64 key) := hkr f (.int .i64 key) (by rw [List.getElem?_map, hkey]; rfl)
            rcases Nat.eq_zero_or_pos j with h0 | h0
            · subst h0
              clear ef okx hfk hKs hkey hCL hkr hkg hf
              go_wp2_with fail
              refine wp_region_held_drew (S := fun w' => w'.rangeAt g2 (off2 + 0 * 84) CL ∧ w'.cell? ⟨kg, ko + f, none⟩ = some (.int .i64 key)) (by kernel_rfl) ⟨rX, ck⟩ (fun hHeld => ?_)
              obtain ⟨U, hV⟩ : ∃ Z, Z = wi.drew := ⟨_, rfl⟩
              have HU : Seal (Glob U ∧ Below w3.heap.size w3 U) := ⟨by rw [hV]; exact ⟨HG3.out.below (below_drewn _), HW.out.trans ((below_drewn _).mono HW.out.size)⟩⟩
              rw [← hV] at hHeld ⊢
              clear hV
              clear c4 rX ck
              refine take_h 0 ?_ rfl (by kernel_rfl) (by kernel_rfl) (by kernel_rfl) (fun _ _ _ h => h) (Or.inl ⟨by kernel_rfl, ?_⟩) (by assumption) ?_
              rotate_left
              · (intro w hSw; (try dsimp only at hSw); go_simp; try (with_reducible rfl))
              try simp only [Act.put, List.setIfInBounds_toArray, List.set_cons_zero, List.set_cons_succ]
              refine take_h 1 ?_ rfl (by kernel_rfl) (by kernel_rfl) (by kernel_rfl) (fun _ _ _ h => h) (Or.inl ⟨by kernel_rfl, ?_⟩) (by assumption) ?_
              rotate_left
              · (intro w hSw; (try dsimp only at hSw); go_simp; try (with_reducible rfl))
              try simp only [Act.put, List.setIfInBounds_toArray, List.set_cons_zero, List.set_cons_succ]
              refine take_h 2 ?_ rfl (by kernel_rfl) (by kernel_rfl) (by kernel_rfl) (fun _ _ _ h => h) (Or.inl ⟨by kernel_rfl, ?_⟩) (by assumption) ?_
              rotate_left
              · (intro w hSw; (try dsimp only at hSw); go_simp; try (with_reducible rfl))
              try simp only [Act.put, List.setIfInBounds_toArray, List.set_cons_zero, List.set_cons_succ]
              refine take_h 3 ?_ rfl (by kernel_rfl) (by kernel_rfl) (by kernel_rfl) (fun _ _ _ h => h) (Or.inl ⟨by kernel_rfl, ?_⟩) (by assumption) ?_
              rotate_left
              · (intro w hSw; (try dsimp only at hSw); go_simp; try (with_reducible rfl))
              try simp only [Act.put, List.setIfInBounds_toArray, List.set_cons_zero, List.set_cons_succ]
              refine take_h 4 ?_ rfl (by kernel_rfl) (by kernel_rfl) (by kernel_rfl) (fun _ _ _ h => h) (Or.inl ⟨by kernel_rfl, ?_⟩) (by assumption) ?_
              rotate_left
              · (intro w hSw; (try dsimp only at hSw); go_simp; try (with_reducible rfl))
              try simp only [Act.put, List.setIfInBounds_toArray, List.set_cons_zero, List.set_cons_succ]
              refine take_h 5 ?_ rfl (by kernel_rfl) (by kernel_rfl) (by kernel_rfl) (fun _ _ _ h => h) (Or.inl ⟨by kernel_rfl, ?_⟩) (by assumption) ?_
              rotate_left
              · (intro w hSw; (try dsimp only at hSw); go_simp; try (with_reducible rfl))
              try simp only [Act.put, List.setIfInBounds_toArray, List.set_cons_zero, List.set_cons_succ]
              refine take_h 6 ?_ rfl (by kernel_rfl) (by kernel_rfl) (by kernel_rfl) (fun _ _ _ h => h) (Or.inl ⟨by kernel_rfl, ?_⟩) (by assumption) ?_
              rotate_left
              · (intro w hSw; (try dsimp only at hSw); go_simp; try (with_reducible rfl))
              try simp only [Act.put, List.setIfInBounds_toArray, List.set_cons_zero, List.set_cons_succ]
              refine take_h 7 ?_ rfl (by kernel_rfl) (by kernel_rfl) (by kernel_rfl) (fun _ _ _ h => h) (Or.inl ⟨by kernel_rfl, ?_⟩) (by assumption) ?_
              rotate_left
              · (intro w hSw; (try dsimp only at hSw); go_simp; try (with_reducible rfl))
              try simp only [Act.put, List.setIfInBounds_toArray, List.set_cons_zero, List.set_cons_succ]
              refine take_h 8 ?_ rfl (by kernel_rfl) (by kernel_rfl) (by kernel_rfl) (fun _ _ _ h => h) (Or.inl ⟨by kernel_rfl, ?_⟩) (by assumption) ?_
              rotate_left
              · (intro w hSw; (try dsimp only at hSw); go_simp; try (with_reducible rfl))
              try simp only [Act.put, List.setIfInBounds_toArray, List.set_cons_zero, List.set_cons_succ]
              refine take_h 9 ?_ rfl (by kernel_rfl) (by kernel_rfl) (by kernel_rfl) (fun _ _ _ h => h) (Or.inl ⟨by kernel_rfl, ?_⟩) (by assumption) ?_
              rotate_left
              · (intro w hSw; (try dsimp only at hSw); go_simp; try (with_reducible rfl))
              try simp only [Act.put, List.setIfInBounds_toArray, List.set_cons_zero, List.set_cons_succ]
              refine take_h 10 ?_ rfl (by kernel_rfl) (by kernel_rfl) (by kernel_rfl) (fun _ _ _ h => h) (Or.inl ⟨by kernel_rfl, ?_⟩) (by assumption) ?_
              rotate_left
              · (intro w hSw; (try dsimp only at hSw); go_simp; try (with_reducible rfl))
              try simp only [Act.put, List.setIfInBounds_toArray, List.set_cons_zero, List.set_cons_succ]
              refine take_h 11 ?_ rfl (by kernel_rfl) (by kernel_rfl) (by kernel_rfl) (fun _ _ _ h => h) (Or.inl ⟨by kernel_rfl, ?_⟩) (by assumption) ?_
              rotate_left
              · (intro w hSw; (try dsimp only at hSw); go_simp; try (with_reducible rfl))
              try simp only [Act.put, List.setIfInBounds_toArray, List.set_cons_zero, List.set_cons_succ]
              refine take_h 12 ?_ rfl (by kernel_rfl) (by kernel_rfl) (by kernel_rfl) (fun _ _ _ h => h) (Or.inl ⟨by kernel_rfl, ?_⟩) (by assumption) ?_
              rotate_left
              · (intro w hSw; (try dsimp only at hSw); go_simp; try (with_reducible rfl))
              try simp only [Act.put, List.setIfInBounds_toArray, List.set_cons_zero, List.set_cons_succ]
              refine take_h 13 ?_ rfl (by kernel_rfl) (by kernel_rfl) (by kernel_rfl) (fun _ _ _ h => h) (Or.inl ⟨by kernel_rfl, ?_⟩) (by assumption) ?_
              rotate_left
              · (intro w hSw; (try dsimp only at hSw); go_simp; try (with_reducible rfl))
              try simp only [Act.put, List.setIfInBounds_toArray, List.set_cons_zero, List.set_cons_succ]
              refine take_h 14 ?_ rfl (by kernel_rfl) (by kernel_rfl) (by kernel_rfl) (fun _ _ _ h => h) (Or.inl ⟨by kernel_rfl, ?_⟩) (by assumption) ?_
              rotate_left
              · (intro w hSw; (try dsimp only at hSw); go_simp; try (with_reducible rfl))
              try simp only [Act.put, List.setIfInBounds_toArray, List.set_cons_zero, List.set_cons_succ]
              refine take_h 15 ?_ rfl (by kernel_rfl) (by kernel_rfl) (by kernel_rfl) (fun _ _ _ h => h) (Or.inl ⟨by kernel_rfl, ?_⟩) (by assumption) ?_
              rotate_left
              · (intro w hSw; (try dsimp only at hSw); go_simp; try (with_reducible rfl))
              try simp only [Act.put, List.setIfInBounds_toArray, List.set_cons_zero, List.set_cons_succ]
              refine take_h 16 ?_ rfl (by kernel_rfl) (by kernel_rfl) (by kernel_rfl) (fun _ _ _ h => h) (Or.inl ⟨by kernel_rfl, ?_⟩) (by assumption) ?_
              rotate_left
              · (intro w hSw; (try dsimp only at hSw); go_simp; try (with_reducible rfl))
              try simp only [Act.put, List.setIfInBounds_toArray, List.set_cons_zero, List.set_cons_succ]
              refine take_h 17 ?_ rfl (by kernel_rfl) (by kernel_rfl) (by kernel_rfl) (fun _ _ _ h => h) (Or.inl ⟨by kernel_rfl, ?_⟩) (by assumption) ?_
              rotate_left
              · (intro w hSw; (try dsimp only at hSw); go_simp; try (with_reducible rfl))
              try simp only [Act.put, List.setIfInBounds_toArray, List.set_cons_zero, List.set_cons_succ]
              refine take_h 18 ?_ rfl (by kernel_rfl) (by kernel_rfl) (by kernel_rfl) (fun _ _ _ h => h) (Or.inl ⟨by kernel_rfl, ?_⟩) (by assumption) ?_
              rotate_left
              · (intro w hSw; (try dsimp only at hSw); go_simp; try (with_reducible rfl))
              try simp only [Act.put, List.setIfInBounds_toArray, List.set_cons_zero, List.set_cons_succ]
              refine take_h 19 ?_ rfl (by kernel_rfl) (by kernel_rfl) (by kernel_rfl) (fun _ _ _ h => h) (Or.inl ⟨by kernel_rfl, ?_⟩) (by assumption) ?_
              rotate_left
              · (intro w hSw; (try dsimp only at hSw); go_simp; try (with_reducible rfl))
              try simp only [Act.put, List.setIfInBounds_toArray, List.set_cons_zero, List.set_cons_succ]
              refine take_h 20 ?_ rfl (by kernel_rfl) (by kernel_rfl) (by kernel_rfl) (fun _ _ _ h => h) (Or.inl ⟨by kernel_rfl, ?_⟩) (by assumption) ?_
              rotate_left
              · (intro w hSw; (try dsimp only at hSw); go_simp; try (with_reducible rfl))
              try simp only [Act.put, List.setIfInBounds_toArray, List.set_cons_zero, List.set_cons_succ]
              refine take_h 21 ?_ rfl (by kernel_rfl) (by kernel_rfl) (by kernel_rfl) (fun _ _ _ h => h) (Or.inl ⟨by kernel_rfl, ?_⟩) (by assumption) ?_
              rotate_left
              · (intro w hSw; (try dsimp only at hSw); go_simp; try (with_reducible rfl))
              try simp only [Act.put, List.setIfInBounds_toArray, List.set_cons_zero, List.set_cons_succ]
              refine take_h 22 ?_ rfl (by kernel_rfl) (by kernel_rfl) (by kernel_rfl) (fun _ _ _ h => h) (Or.inl ⟨by kernel_rfl, ?_⟩) (by assumption) ?_
              rotate_left
              · (intro w hSw; (try dsimp only at hSw); go_simp; try (with_reducible rfl))
              try simp only [Act.put, List.setIfInBounds_toArray, List.set_cons_zero, List.set_cons_succ]
              refine take_h 23 ?_ rfl (by kernel_rfl) (by kernel_rfl) (by kernel_rfl) (fun _ _ _ h => h) (Or.inl ⟨by kernel_rfl, ?_⟩) (by assumption) ?_
              rotate_left
              · (intro w hSw; (try dsimp only at hSw); go_simp; try (with_reducible rfl))
              try simp only [Act.put, List.setIfInBounds_toArray, List.set_cons_zero, List.set_cons_succ]
              refine take_h 24 _ rfl (by kernel_rfl) (by kernel_rfl) (by kernel_rfl) (fun _ _ _ h => h) (yieldsIf_load_mid (by kernel_rfl) 74 (.tmp 103) rfl g2 (off2 + 0 * 84) rfl CL _ (fun w hSw => hSw.1) uL rfl iL) (by assumption) ?_
              try simp only [Act.put, List.setIfInBounds_toArray, List.set_cons_zero, List.set_cons_succ]
              refine call_h 25 rfl (by kernel_rfl) 38 #[.int .i64 key, .agg CL.toArray] (by kernel_rfl) (by go_simp) ?_
              refine (HCk.out U HU.out.1).mono ?_
              rintro e U1 ⟨rfl, hb1⟩
              refine ⟨_, rfl, ⟨rangeAt_below' hHeld.1 hb1, cell_below' hb1 hHeld.2⟩, fun hHeld2 => ?_⟩
              try simp only [Act.put, List.setIfInBounds_toArray, List.set_cons_zero, List.set_cons_succ]
              have HU1 : Seal (Below w3.heap.size w3 U1) := ⟨HU.out.2.trans (hb1.mono HU.out.2.size)⟩
              clear hb1 hHeld
              refine take_h 26 ?_ rfl (by kernel_rfl) (by kernel_rfl) (by kernel_rfl) (fun _ _ _ h => h) (Or.inl ⟨by kernel_rfl, ?_⟩) (by assumption) ?_
              rotate_left
              · (intro w hSw; (try dsimp only at hSw); go_simp; try (with_reducible rfl))
              try simp only [Act.put, List.setIfInBounds_toArray, List.set_cons_zero, List.set_cons_succ]
              refine take_h 27 ?_ rfl (by kernel_rfl) (by kernel_rfl) (by kernel_rfl) (fun _ _ _ h => h) (Or.inl ⟨by kernel_rfl, ?_⟩) (by assumption) ?_
              rotate_left
              · (intro w hSw; (try dsimp only at hSw); go_simp; try (with_reducible rfl))
              try simp only [Act.put, List.setIfInBounds_toArray, List.set_cons_zero, List.set_cons_succ]
              refine take_h 28 ?_ rfl (by kernel_rfl) (by kernel_rfl) (by kernel_rfl) (fun _ _ _ h => h) (Or.inl ⟨by kernel_rfl, ?_⟩) (by assumption) ?_
              rotate_left
              · (intro w hSw; (try dsimp only at hSw); go_simp; try (with_reducible rfl))
              try simp only [Act.put, List.setIfInBounds_toArray, List.set_cons_zero, List.set_cons_succ]
              refine take_h 29 ?_ rfl (by kernel_rfl) (by kernel_rfl) (by kernel_rfl) (fun _ _ _ h => h) (Or.inl ⟨by kernel_rfl, ?_⟩) (by assumption) ?_
              rotate_left
              · (intro w hSw; (try dsimp only at hSw); go_simp; try (with_reducible rfl))
              try simp only [Act.put, List.setIfInBounds_toArray, List.set_cons_zero, List.set_cons_succ]
              refine take_h 30 ?_ rfl (by kernel_rfl) (by kernel_rfl) (by kernel_rfl) (fun _ _ _ h => h) (Or.inl ⟨by kernel_rfl, ?_⟩) (by assumption) ?_
              rotate_left
              · (intro w hSw; (try dsimp only at hSw); go_simp; try (with_reducible rfl))
              try simp only [Act.put, List.setIfInBounds_toArray, List.set_cons_zero, List.set_cons_succ]
              refine take_h 31 ?_ rfl (by kernel_rfl) (by kernel_rfl) (by kernel_rfl) (fun _ _ _ h => h) (Or.inl ⟨by kernel_rfl, ?_⟩) (by assumption) ?_
              rotate_left
              · (intro w hSw; (try dsimp only at hSw); go_simp; try (with_reducible rfl))
              try simp only [Act.put, List.setIfInBounds_toArray, List.set_cons_zero, List.set_cons_succ]
              refine take_h 32 undef rfl (by kernel_rfl) (by kernel_rfl) (by kernel_rfl) (fun _ _ _ h => h) (Or.inr ⟨by kernel_rfl, rfl⟩) (by assumption) ?_
              try simp only [Act.put, List.setIfInBounds_toArray, List.set_cons_zero, List.set_cons_succ]
              refine take_h 33 undef rfl (by kernel_rfl) (by kernel_rfl) (by kernel_rfl) (fun _ _ _ h => h) (Or.inr ⟨by kernel_rfl, rfl⟩) (by assumption) ?_
              try simp only [Act.put, List.setIfInBounds_toArray, List.set_cons_zero, List.set_cons_succ]
              refine take_h 34 undef rfl (by kernel_rfl) (by kernel_rfl) (by kernel_rfl) (fun _ _ _ h => h) (Or.inr ⟨by kernel_rfl, rfl⟩) (by assumption) ?_
              try simp only [Act.put, List.setIfInBounds_toArray, List.set_cons_zero, List.set_cons_succ]
              refine take_h 35 undef rfl (by kernel_rfl) (by kernel_rfl) (by kernel_rfl) (fun _ _ _ h => h) (Or.inr ⟨by kernel_rfl, rfl⟩) (by assumption) ?_
              try simp only [Act.put, List.setIfInBounds_toArray, List.set_cons_zero, List.set_cons_succ]
              refine take_h 36 undef rfl (by kernel_rfl) (by kernel_rfl) (by kernel_rfl) (fun _ _ _ h => h) (Or.inr ⟨by kernel_rfl, rfl⟩) (by assumption) ?_
              try simp only [Act.put, List.setIfInBounds_toArray, List.set_cons_zero, List.set_cons_succ]
              refine take_h 37 undef rfl (by kernel_rfl) (by kernel_rfl) (by kernel_rfl) (fun _ _ _ h => h) (Or.inr ⟨by kernel_rfl, rfl⟩) (by assumption) ?_
              try simp only [Act.put, List.setIfInBounds_toArray, List.set_cons_zero, List.set_cons_succ]
              refine take_h 38 undef rfl (by kernel_rfl) (by kernel_rfl) (by kernel_rfl) (fun _ _ _ h => h) (Or.inr ⟨by kernel_rfl, rfl⟩) (by assumption) ?_
              try simp only [Act.put, List.setIfInBounds_toArray, List.set_cons_zero, List.set_cons_succ]
              refine take_h 39 undef rfl (by kernel_rfl) (by kernel_rfl) (by kernel_rfl) (fun _ _ _ h => h) (Or.inr ⟨by kernel_rfl, rfl⟩) (by assumption) ?_
              try simp only [Act.put, List.setIfInBounds_toArray, List.set_cons_zero, List.set_cons_succ]
              refine take_h 40 undef rfl (by kernel_rfl) (by kernel_rfl) (by kernel_rfl) (fun _ _ _ h => h) (Or.inr ⟨by kernel_rfl, rfl⟩) (by assumption) ?_
              try simp only [Act.put, List.setIfInBounds_toArray, List.set_cons_zero, List.set_cons_succ]
              refine take_h 41 ?_ rfl (by kernel_rfl) (by kernel_rfl) (by kernel_rfl) (fun _ _ _ h => h) (Or.inl ⟨by kernel_rfl, ?_⟩) (by assumption) ?_
              rotate_left
              · (intro w hSw; (try dsimp only at hSw); go_simp; try (with_reducible rfl))
              try simp only [Act.put, List.setIfInBounds_toArray, List.set_cons_zero, List.set_cons_succ]
              refine take_h 42 ?_ rfl (by kernel_rfl) (by kernel_rfl) (by kernel_rfl) (fun _ _ _ h => h) (Or.inl ⟨by kernel_rfl, ?_⟩) (by assumption) ?_
              rotate_left
              · (intro w hSw; (try dsimp only at hSw); go_simp; try (with_reducible rfl))
              try simp only [Act.put, List.setIfInBounds_toArray, List.set_cons_zero, List.set_cons_succ]
              refine wpAnyH_done (by kernel_rfl) ?_ _
              go_wp2
              go_roundw
              case rel => exact ⟨0 + 1, by omega, by go_num, HU1⟩
              case measure => simp [intOf]; omega
            · obtain ⟨i, hi⟩ : ∃ i, j = i + 1 := ⟨j - 1, by omega⟩
              obtain ⟨y, hy⟩ : ∃ y, FL[i]? = some y := ⟨_, List.getElem?_eq_getElem (by have := HLN.out; omega)⟩
              have hyx : y.1.fr < x.1.fr := by
                have hp := fnd_up (ks := ks) (l := l) HSZ.out.2.2.2.2
                rw [← HSZ.out.2.2.2.1] at hp
                have hx := HXJ.out
                obtain ⟨hi1, e1⟩ := List.getElem?_eq_some_iff.1 hy
                obtain ⟨hj1, e2⟩ := List.getElem?_eq_some_iff.1 hx
                have := (List.pairwise_iff_getElem.1 hp) i j hi1 hj1 (by omega)
                rwa [e1, e2] at this
              obtain ⟨yf, hyf⟩ : ∃ yf, yf = y.1.fr := ⟨_, rfl⟩
              have cp : wi.cell? ⟨g2, off2 + i * 84 + 4, none⟩ = some (.int .i64 yf) := by
                rcases (HRx.out.below HW.out).at_ with hz | ⟨g, o, e, hr, _⟩
                · omega
                · cases e
                  rw [hyf]
                  exact rangeC_at hr (fun x hx => lieC_len ((HFL.out.1 x hx).1.t32) ((HFL.out.1 x hx).2.t32)) hy 4 _ rfl
              have z3 : ((f : Int) ≤ yf) = False := by simp; omega
              have z4 : (0 < j) = True := by simp; omega
              have z5 : IntKind.i64.wrap ((j : Int) - 1) = (i : Int) := (IntWalk.i64_in _ (by omega)).trans (by omega)
              have q11 : (i : Int) < (fn : Int) := by omega
              have q12 : (0 : Int) ≤ (i : Int) := by omega
              clear ef okx hfk hKs hkey hCL hkr hkg hf hi hy hyx hyf
              go_wp2_with fail
              refine wp_region_held_drew (S := fun w' => (w'.rangeAt g2 (off2 + j * 84) CL ∧ w'.cell? ⟨kg, ko + f, none⟩ = some (.int .i64 key)) ∧ w'.cell? ⟨g2, off2 + i * 84 + 4, none⟩ = some (.int .i64 yf)) (by kernel_rfl) ⟨⟨rX, ck⟩, cp⟩ (fun hHeld => ?_)
              obtain ⟨U, hV⟩ : ∃ Z, Z = wi.drew := ⟨_, rfl⟩
              have HU : Seal (Glob U ∧ Below w3.heap.size w3 U) := ⟨by rw [hV]; exact ⟨HG3.out.below (below_drewn _), HW.out.trans ((below_drewn _).mono HW.out.size)⟩⟩
              rw [← hV] at hHeld ⊢
              clear hV
              clear c4 rX ck cp
              refine take_h 0 ?_ rfl (by kernel_rfl) (by kernel_rfl) (by kernel_rfl) (fun _ _ _ h => h) (Or.inl ⟨by kernel_rfl, ?_⟩) (by assumption) ?_
              rotate_left
              · (intro w hSw; (try dsimp only at hSw); go_simp; try (with_reducible rfl))
              try simp only [Act.put, List.setIfInBounds_toArray, List.set_cons_zero, List.set_cons_succ]
              refine take_h 1 ?_ rfl (by kernel_rfl) (by kernel_rfl) (by kernel_rfl) (fun _ _ _ h => h) (Or.inl ⟨by kernel_rfl, ?_⟩) (by assumption) ?_
              rotate_left
              · (intro w hSw; (try dsimp only at hSw); go_simp; try (with_reducible rfl))
              try simp only [Act.put, List.setIfInBounds_toArray, List.set_cons_zero, List.set_cons_succ]
              refine take_h 2 ?_ rfl (by kernel_rfl) (by kernel_rfl) (by kernel_rfl) (fun _ _ _ h => h) (Or.inl ⟨by kernel_rfl, ?_⟩) (by assumption) ?_
              rotate_left
              · (intro w hSw; (try dsimp only at hSw); go_simp; try (with_reducible rfl))
              try simp only [Act.put, List.setIfInBounds_toArray, List.set_cons_zero, List.set_cons_succ]
              refine take_h 3 ?_ rfl (by kernel_rfl) (by kernel_rfl) (by kernel_rfl) (fun _ _ _ h => h) (Or.inl ⟨by kernel_rfl, ?_⟩) (by assumption) ?_
              rotate_left
              · (intro w hSw; (try dsimp only at hSw); go_simp; try (with_reducible rfl))
              try simp only [Act.put, List.setIfInBounds_toArray, List.set_cons_zero, List.set_cons_succ]
              refine take_h 4 ?_ rfl (by kernel_rfl) (by kernel_rfl) (by kernel_rfl) (fun _ _ _ h => h) (Or.inl ⟨by kernel_rfl, ?_⟩) (by assumption) ?_
              rotate_left
              · (intro w hSw; (try dsimp only at hSw); go_simp; try (with_reducible rfl))
              try simp only [Act.put, List.setIfInBounds_toArray, List.set_cons_zero, List.set_cons_succ]
              refine take_h 5 ?_ rfl (by kernel_rfl) (by kernel_rfl) (by kernel_rfl) (fun _ _ _ h => h) (Or.inl ⟨by kernel_rfl, ?_⟩) (by assumption) ?_
              rotate_left
              · (intro w hSw; (try dsimp only at hSw); go_simp; try (with_reducible rfl))
              try simp only [Act.put, List.setIfInBounds_toArray, List.set_cons_zero, List.set_cons_succ]
              refine take_h 6 ?_ rfl (by kernel_rfl) (by kernel_rfl) (by kernel_rfl) (fun _ _ _ h => h) (Or.inl ⟨by kernel_rfl, ?_⟩) (by assumption) ?_
              rotate_left
              · (intro w hSw; (try dsimp only at hSw); go_simp; try (with_reducible rfl))
              try simp only [Act.put, List.setIfInBounds_toArray, List.set_cons_zero, List.set_cons_succ]
              refine take_h 7 ?_ rfl (by kernel_rfl) (by kernel_rfl) (by kernel_rfl) (fun _ _ _ h => h) (Or.inl ⟨by kernel_rfl, ?_⟩) (by assumption) ?_
              rotate_left
              · (intro w hSw; (try dsimp only at hSw); go_simp; try (with_reducible rfl))
              try simp only [Act.put, List.setIfInBounds_toArray, List.set_cons_zero, List.set_cons_succ]
              refine take_h 8 ?_ rfl (by kernel_rfl) (by kernel_rfl) (by kernel_rfl) (fun _ _ _ h => h) (Or.inl ⟨by kernel_rfl, ?_⟩) (by assumption) ?_
              rotate_left
              · (intro w hSw; (try dsimp only at hSw); go_simp; try (with_reducible rfl))
              try simp only [Act.put, List.setIfInBounds_toArray, List.set_cons_zero, List.set_cons_succ]
              refine take_h 9 ?_ rfl (by kernel_rfl) (by kernel_rfl) (by kernel_rfl) (fun _ _ _ h => h) (Or.inl ⟨by kernel_rfl, ?_⟩) (by assumption) ?_
              rotate_left
              · (intro w hSw; (try dsimp only at hSw); go_simp; try (with_reducible rfl))
              try simp only [Act.put, List.setIfInBounds_toArray, List.set_cons_zero, List.set_cons_succ]
              refine take_h 10 ?_ rfl (by kernel_rfl) (by kernel_rfl) (by kernel_rfl) (fun _ _ _ h => h) (Or.inl ⟨by kernel_rfl, ?_⟩) (by assumption) ?_
              rotate_left
              · (intro w hSw; (try dsimp only at hSw); go_simp; try (with_reducible rfl))
              try simp only [Act.put, List.setIfInBounds_toArray, List.set_cons_zero, List.set_cons_succ]
              refine take_h 11 ?_ rfl (by kernel_rfl) (by kernel_rfl) (by kernel_rfl) (fun _ _ _ h => h) (Or.inl ⟨by kernel_rfl, ?_⟩) (by assumption) ?_
              rotate_left
              · (intro w hSw; (try dsimp only at hSw); go_simp; try (with_reducible rfl))
              try simp only [Act.put, List.setIfInBounds_toArray, List.set_cons_zero, List.set_cons_succ]
              refine take_h 12 ?_ rfl (by kernel_rfl) (by kernel_rfl) (by kernel_rfl) (fun _ _ _ h => h) (Or.inl ⟨by kernel_rfl, ?_⟩) (by assumption) ?_
              rotate_left
              · (intro w hSw; (try dsimp only at hSw); go_simp; try (with_reducible rfl))
              try simp only [Act.put, List.setIfInBounds_toArray, List.set_cons_zero, List.set_cons_succ]
              refine take_h 13 ?_ rfl (by kernel_rfl) (by kernel_rfl) (by kernel_rfl) (fun _ _ _ h => h) (Or.inl ⟨by kernel_rfl, ?_⟩) (by assumption) ?_
              rotate_left
              · (intro w hSw; (try dsimp only at hSw); go_simp; try (with_reducible rfl))
              try simp only [Act.put, List.setIfInBounds_toArray, List.set_cons_zero, List.set_cons_succ]
              refine take_h 14 ?_ rfl (by kernel_rfl) (by kernel_rfl) (by kernel_rfl) (fun _ _ _ h => h) (Or.inl ⟨by kernel_rfl, ?_⟩) (by assumption) ?_
              rotate_left
              · (intro w hSw; (try dsimp only at hSw); go_simp; try (with_reducible rfl))
              try simp only [Act.put, List.setIfInBounds_toArray, List.set_cons_zero, List.set_cons_succ]
              refine take_h 15 ?_ rfl (by kernel_rfl) (by kernel_rfl) (by kernel_rfl) (fun _ _ _ h => h) (Or.inl ⟨by kernel_rfl, ?_⟩) (by assumption) ?_
              rotate_left
              · (intro w hSw; (try dsimp only at hSw); go_simp; try (with_reducible rfl))
              try simp only [Act.put, List.setIfInBounds_toArray, List.set_cons_zero, List.set_cons_succ]
              refine take_h 16 ?_ rfl (by kernel_rfl) (by kernel_rfl) (by kernel_rfl) (fun _ _ _ h => h) (Or.inl ⟨by kernel_rfl, ?_⟩) (by assumption) ?_
              rotate_left
              · (intro w hSw; (try dsimp only at hSw); go_simp; try (with_reducible rfl))
              try simp only [Act.put, List.setIfInBounds_toArray, List.set_cons_zero, List.set_cons_succ]
              refine take_h 17 ?_ rfl (by kernel_rfl) (by kernel_rfl) (by kernel_rfl) (fun _ _ _ h => h) (Or.inl ⟨by kernel_rfl, ?_⟩) (by assumption) ?_
              rotate_left
              · (intro w hSw; (try dsimp only at hSw); go_simp; try (with_reducible rfl))
              try simp only [Act.put, List.setIfInBounds_toArray, List.set_cons_zero, List.set_cons_succ]
              refine take_h 18 ?_ rfl (by kernel_rfl) (by kernel_rfl) (by kernel_rfl) (fun _ _ _ h => h) (Or.inl ⟨by kernel_rfl, ?_⟩) (by assumption) ?_
              rotate_left
              · (intro w hSw; (try dsimp only at hSw); go_simp; try (with_reducible rfl))
              try simp only [Act.put, List.setIfInBounds_toArray, List.set_cons_zero, List.set_cons_succ]
              refine take_h 19 ?_ rfl (by kernel_rfl) (by kernel_rfl) (by kernel_rfl) (fun _ _ _ h => h) (Or.inl ⟨by kernel_rfl, ?_⟩) (by assumption) ?_
              rotate_left
              · (intro w hSw; (try dsimp only at hSw); go_simp; try (with_reducible rfl))
              try simp only [Act.put, List.setIfInBounds_toArray, List.set_cons_zero, List.set_cons_succ]
              refine take_h 20 ?_ rfl (by kernel_rfl) (by kernel_rfl) (by kernel_rfl) (fun _ _ _ h => h) (Or.inl ⟨by kernel_rfl, ?_⟩) (by assumption) ?_
              rotate_left
              · (intro w hSw; (try dsimp only at hSw); go_simp; try (with_reducible rfl))
              try simp only [Act.put, List.setIfInBounds_toArray, List.set_cons_zero, List.set_cons_succ]
              refine take_h 21 ?_ rfl (by kernel_rfl) (by kernel_rfl) (by kernel_rfl) (fun _ _ _ h => h) (Or.inl ⟨by kernel_rfl, ?_⟩) (by assumption) ?_
              rotate_left
              · (intro w hSw; (try dsimp only at hSw); go_simp; try (with_reducible rfl))
              try simp only [Act.put, List.setIfInBounds_toArray, List.set_cons_zero, List.set_cons_succ]
              refine take_h 22 ?_ rfl (by kernel_rfl) (by kernel_rfl) (by kernel_rfl) (fun _ _ _ h => h) (Or.inl ⟨by kernel_rfl, ?_⟩) (by assumption) ?_
              rotate_left
              · (intro w hSw; (try dsimp only at hSw); go_simp; try (with_reducible rfl))
              try simp only [Act.put, List.setIfInBounds_toArray, List.set_cons_zero, List.set_cons_succ]
              refine take_h 23 ?_ rfl (by kernel_rfl) (by kernel_rfl) (by kernel_rfl) (fun _ _ _ h => h) (Or.inl ⟨by kernel_rfl, ?_⟩) (by assumption) ?_
              rotate_left
              · (intro w hSw; (try dsimp only at hSw); go_simp; try (with_reducible rfl))
              try simp only [Act.put, List.setIfInBounds_toArray, List.set_cons_zero, List.set_cons_succ]
              refine take_h 24 _ rfl (by kernel_rfl) (by kernel_rfl) (by kernel_rfl) (fun _ _ _ h => h) (yieldsIf_load_mid (by kernel_rfl) 74 (.tmp 103) rfl g2 (off2 + j * 84) rfl CL _ (fun w hSw => hSw.1.1) uL rfl iL) (by assumption) ?_
              try simp only [Act.put, List.setIfInBounds_toArray, List.set_cons_zero, List.set_cons_succ]
              refine call_h 25 rfl (by kernel_rfl) 38 #[.int .i64 key, .agg CL.toArray] (by kernel_rfl) (by go_simp) ?_
              refine (HCk.out U HU.out.1).mono ?_
              rintro e U1 ⟨rfl, hb1⟩
              refine ⟨_, rfl, ⟨⟨rangeAt_below' hHeld.1.1 hb1, cell_below' hb1 hHeld.1.2⟩, cell_below' hb1 hHeld.2⟩, fun hHeld2 => ?_⟩
              try simp only [Act.put, List.setIfInBounds_toArray, List.set_cons_zero, List.set_cons_succ]
              have HU1 : Seal (Below w3.heap.size w3 U1) := ⟨HU.out.2.trans (hb1.mono HU.out.2.size)⟩
              clear hb1 hHeld
              refine take_h 26 ?_ rfl (by kernel_rfl) (by kernel_rfl) (by kernel_rfl) (fun _ _ _ h => h) (Or.inl ⟨by kernel_rfl, ?_⟩) (by assumption) ?_
              rotate_left
              · (intro w hSw; (try dsimp only at hSw); go_simp; try (with_reducible rfl))
              try simp only [Act.put, List.setIfInBounds_toArray, List.set_cons_zero, List.set_cons_succ]
              refine take_h 27 ?_ rfl (by kernel_rfl) (by kernel_rfl) (by kernel_rfl) (fun _ _ _ h => h) (Or.inl ⟨by kernel_rfl, ?_⟩) (by assumption) ?_
              rotate_left
              · (intro w hSw; (try dsimp only at hSw); go_simp; try (with_reducible rfl))
              try simp only [Act.put, List.setIfInBounds_toArray, List.set_cons_zero, List.set_cons_succ]
              refine take_h 28 ?_ rfl (by kernel_rfl) (by kernel_rfl) (by kernel_rfl) (fun _ _ _ h => h) (Or.inl ⟨by kernel_rfl, ?_⟩) (by assumption) ?_
              rotate_left
              · (intro w hSw; (try dsimp only at hSw); go_simp; try (with_reducible rfl))
              try simp only [Act.put, List.setIfInBounds_toArray, List.set_cons_zero, List.set_cons_succ]
              refine take_h 29 ?_ rfl (by kernel_rfl) (by kernel_rfl) (by kernel_rfl) (fun _ _ _ h => h) (Or.inl ⟨by kernel_rfl, ?_⟩) (by assumption) ?_
              rotate_left
              · (intro w hSw; (try dsimp only at hSw); go_simp; try (with_reducible rfl))
              try simp only [Act.put, List.setIfInBounds_toArray, List.set_cons_zero, List.set_cons_succ]
              refine take_h 30 ?_ rfl (by kernel_rfl) (by kernel_rfl) (by kernel_rfl) (fun _ _ _ h => h) (Or.inl ⟨by kernel_rfl, ?_⟩) (by assumption) ?_
              rotate_left
              · (intro w hSw; (try dsimp only at hSw); go_simp; try (with_reducible rfl))
              try simp only [Act.put, List.setIfInBounds_toArray, List.set_cons_zero, List.set_cons_succ]
              refine take_h 31 ?_ rfl (by kernel_rfl) (by kernel_rfl) (by kernel_rfl) (fun _ _ _ h => h) (Or.inl ⟨by kernel_rfl, ?_⟩) (by assumption) ?_
              rotate_left
              · (intro w hSw; (try dsimp only at hSw); go_simp; try (with_reducible rfl))
              try simp only [Act.put, List.setIfInBounds_toArray, List.set_cons_zero, List.set_cons_succ]
              refine take_h 32 ?_ rfl (by kernel_rfl) (by kernel_rfl) (by kernel_rfl) (fun _ _ _ h => h) (Or.inl ⟨by kernel_rfl, ?_⟩) (by assumption) ?_
              rotate_left
              · (intro w hSw; (try dsimp only at hSw); go_simp; try (with_reducible rfl))
              try simp only [Act.put, List.setIfInBounds_toArray, List.set_cons_zero, List.set_cons_succ]
              refine take_h 33 ?_ rfl (by kernel_rfl) (by kernel_rfl) (by kernel_rfl) (fun _ _ _ h => h) (Or.inl ⟨by kernel_rfl, ?_⟩) (by assumption) ?_
              rotate_left
              · (intro w hSw; (try dsimp only at hSw); go_simp; try (with_reducible rfl))
              try simp only [Act.put, List.setIfInBounds_toArray, List.set_cons_zero, List.set_cons_succ]
              refine take_h 34 ?_ rfl (by kernel_rfl) (by kernel_rfl) (by kernel_rfl) (fun _ _ _ h => h) (Or.inl ⟨by kernel_rfl, ?_⟩) (by assumption) ?_
              rotate_left
              · (intro w hSw; (try dsimp only at hSw); go_simp; try (with_reducible rfl))
              try simp only [Act.put, List.setIfInBounds_toArray, List.set_cons_zero, List.set_cons_succ]
              try rw [z5]
              refine take_h 35 ?_ rfl (by kernel_rfl) (by kernel_rfl) (by kernel_rfl) (fun _ _ _ h => h) (Or.inl ⟨by kernel_rfl, ?_⟩) (by assumption) ?_
              rotate_left
              · (intro w hSw; (try dsimp only at hSw); go_simp; try (with_reducible rfl))
              try simp only [Act.put, List.setIfInBounds_toArray, List.set_cons_zero, List.set_cons_succ]
              refine take_h 36 ?_ rfl (by kernel_rfl) (by kernel_rfl) (by kernel_rfl) (fun _ _ _ h => h) (Or.inl ⟨by kernel_rfl, ?_⟩) (by assumption) ?_
              rotate_left
              · (intro w hSw; (try dsimp only at hSw); go_simp; try (with_reducible rfl))
              try simp only [Act.put, List.setIfInBounds_toArray, List.set_cons_zero, List.set_cons_succ]
              refine take_h 37 ?_ rfl (by kernel_rfl) (by kernel_rfl) (by kernel_rfl) (fun _ _ _ h => h) (Or.inl ⟨by kernel_rfl, ?_⟩) (by assumption) ?_
              rotate_left
              · (intro w hSw; (try dsimp only at hSw); go_simp; try (with_reducible rfl))
              try simp only [Act.put, List.setIfInBounds_toArray, List.set_cons_zero, List.set_cons_succ]
              refine take_h 38 ?_ rfl (by kernel_rfl) (by kernel_rfl) (by kernel_rfl) (fun _ _ _ h => h) (Or.inl ⟨by kernel_rfl, ?_⟩) (by assumption) ?_
              rotate_left
              · (intro w hSw; (try dsimp only at hSw); go_simp; try (with_reducible rfl))
              try simp only [Act.put, List.setIfInBounds_toArray, List.set_cons_zero, List.set_cons_succ]
              refine take_h 39 ?_ rfl (by kernel_rfl) (by kernel_rfl) (by kernel_rfl) (fun _ _ _ h => h) (Or.inl ⟨by kernel_rfl, ?_⟩) (by assumption) ?_
              rotate_left
              · (intro w hSw; (try dsimp only at hSw); go_simp; try (with_reducible rfl))
              try simp only [Act.put, List.setIfInBounds_toArray, List.set_cons_zero, List.set_cons_succ]
              refine take_h 40 ?_ rfl (by kernel_rfl) (by kernel_rfl) (by kernel_rfl) (fun _ _ _ h => h) (Or.inl ⟨by kernel_rfl, ?_⟩) (by assumption) ?_
              rotate_left
              · (intro w hSw; (try dsimp only at hSw); go_simp; try (with_reducible rfl))
              try simp only [Act.put, List.setIfInBounds_toArray, List.set_cons_zero, List.set_cons_succ]
              refine take_h 41 ?_ rfl (by kernel_rfl) (by kernel_rfl) (by kernel_rfl) (fun _ _ _ h => h) (Or.inl ⟨by kernel_rfl, ?_⟩) (by assumption) ?_
              rotate_left
              · (intro w hSw; (try dsimp only at hSw); go_simp; try (with_reducible rfl))
              try simp only [Act.put, List.setIfInBounds_toArray, List.set_cons_zero, List.set_cons_succ]
              refine take_h 42 ?_ rfl (by kernel_rfl) (by kernel_rfl) (by kernel_rfl) (fun _ _ _ h => h) (Or.inl ⟨by kernel_rfl, ?_⟩) (by assumption) ?_
              rotate_left
              · (intro w hSw; (try dsimp only at hSw); go_simp; try (with_reducible rfl))
              try simp only [Act.put, List.setIfInBounds_toArray, List.set_cons_zero, List.set_cons_succ]
              refine wpAnyH_done (by kernel_rfl) ?_ _
              go_wp2
              go_roundw
              case rel => exact ⟨j + 1, by omega, by go_num, HU1⟩
              case measure => simp [intOf]; omega
    · obtain rfl : j = fn := by omega
      have q5 : ¬ (j : Int) < (j : Int) := by omega
      rcases Nat.eq_zero_or_pos n with h0 | h0
      · subst h0
        obtain rfl : j = 0 := by
          have h := HSZ.out.2.2.2.1
          rw [List.length_eq_zero_iff.1 HSZ.out.2.2.1, fnd_empty HSZ.out.2.2.2.2] at h
          have := HLN.out
          rw [h] at this
          exact this.symm
        go_wp2
        go_ret
        exact ⟨rfl, HB.out.trans (hH.out.mono HB.out.size)⟩
      · have q6 : ((n : Int) == 0) = false := by simp; omega
        obtain ⟨p, hpn, z6⟩ : ∃ p : Nat, p < n ∧ ui.tmod (n : Int) = (p : Int) := ⟨(ui.tmod (n : Int)).toNat, by
          have h1 := Int.tmod_nonneg (n : Int) hu0
          have h2 := Int.tmod_lt_of_pos ui (show (0 : Int) < n by omega)
          omega⟩
        obtain ⟨r, hrn, z7⟩ : ∃ p : Nat, p < n ∧ uk.tmod (n : Int) = (p : Int) := ⟨(uk.tmod (n : Int)).toNat, by
          have h1 := Int.tmod_nonneg (n : Int) hk0
          have h2 := Int.tmod_lt_of_pos uk (show (0 : Int) < n by omega)
          omega⟩
        have hIs := HL.out.below hH.out
        rcases hIs.at_ with hz | ⟨g, off, rfl, hr, hg⟩
        · omega
        · obtain ⟨A, ha⟩ : ∃ h, l[p]? = some h := ⟨_, List.getElem?_eq_getElem (by have := hIs.llen; omega)⟩
          obtain ⟨D, hd⟩ : ∃ h, l[r]? = some h := ⟨_, List.getElem?_eq_getElem (by have := hIs.llen; omega)⟩
          have okA := hIs.each A (List.mem_of_getElem? ha)
          have okD := hIs.each D (List.mem_of_getElem? hd)
          have rA := rangeC_at hr (fun x hx => Hd.C_len (hIs.each x hx).t32) ha
          have rD := rangeC_at hr (fun x hx => Hd.C_len (hIs.each x hx).t32) hd
          obtain ⟨CA, hCA⟩ : ∃ C, C = A.C := ⟨_, rfl⟩
          obtain ⟨CD, hCD⟩ : ∃ C, C = D.C := ⟨_, rfl⟩
          rw [← hCA] at rA
          rw [← hCD] at rD
          have iA : (Tryd.prog.info? 29).map (·.size) = some CA.length := by rw [hCA]; exact Hd.C_info okA.t32
          have iD : (Tryd.prog.info? 29).map (·.size) = some CD.length := by rw [hCD]; exact Hd.C_info okD.t32
          have FA : Seal ((Tryd.prog.info? 29).map (·.size) = some CA.length ∧ (.int .i64 0 :: .int .i64 0 :: .int .i64 0 :: .int .i64 0 :: .int .i64 0 :: .int .i64 0 :: .int .i64 0 :: .int .u8 0 :: .int .u8 0 :: .int .u8 0 :: .int .u8 0 :: .int .u8 0 :: .int .u8 0 :: .int .u8 0 :: .int .u8 0 :: .int .u8 0 :: .int .u8 0 :: .int .u8 0 :: .int .u8 0 :: .int .u8 0 :: .int .u8 0 :: .int .u8 0 :: .int .u8 0 :: .int .u8 0 :: .int .u8 0 :: .int .u8 0 :: .int .u8 0 :: .int .u8 0 :: .int .u8 0 :: .int .u8 0 :: .int .u8 0 :: .int .u8 0 :: .int .u8 0 :: .int .u8 0 :: .int .u8 0 :: .int .u8 0 :: .int .u8 0 :: .int .u8 0 :: .int .u8 0 :: .int .i64 0 :: .int .i64 0 :: .int .i64 0 :: [] : List Value).length = CA.length ∧ (∀ v ∈ CA, v.oneCell' = true)) := ⟨iA, by rw [hCA, Hd.C_len okA.t32]; rfl, by rw [hCA]; exact Hd.C_one _⟩
          have FD : Seal ((Tryd.prog.info? 29).map (·.size) = some CD.length ∧ (.int .i64 0 :: .int .i64 0 :: .int .i64 0 :: .int .i64 0 :: .int .i64 0 :: .int .i64 0 :: .int .i64 0 :: .int .u8 0 :: .int .u8 0 :: .int .u8 0 :: .int .u8 0 :: .int .u8 0 :: .int .u8 0 :: .int .u8 0 :: .int .u8 0 :: .int .u8 0 :: .int .u8 0 :: .int .u8 0 :: .int .u8 0 :: .int .u8 0 :: .int .u8 0 :: .int .u8 0 :: .int .u8 0 :: .int .u8 0 :: .int .u8 0 :: .int .u8 0 :: .int .u8 0 :: .int .u8 0 :: .int .u8 0 :: .int .u8 0 :: .int .u8 0 :: .int .u8 0 :: .int .u8 0 :: .int .u8 0 :: .int .u8 0 :: .int .u8 0 :: .int .u8 0 :: .int .u8 0 :: .int .u8 0 :: .int .i64 0 :: .int .i64 0 :: .int .i64 0 :: [] : List Value).length = CD.length ∧ (∀ v ∈ CD, v.oneCell' = true)) := ⟨iD, by rw [hCD, Hd.C_len okD.t32]; rfl, by rw [hCD]; exact Hd.C_one _⟩
          obtain ⟨fr, hfr⟩ : ∃ fr, fr = A.fr := ⟨_, rfl⟩
          obtain ⟨cl, hcl⟩ : ∃ b, b = clB A D := ⟨_, rfl⟩
          have HM := Seal.mk (And.intro (List.mem_of_getElem? ha) (List.mem_of_getElem? hd))
          have HC4 : Seal (CA[4]? = some (.int .i64 fr)) := ⟨by rw [hCA, hfr]; rfl⟩
          have HOK := Seal.mk (And.intro okA okD)
          have HCl : Seal (∀ W', Calls Tryd.prog 20 #[.agg CA.toArray, .agg CD.toArray] W' fun e w' => e = .returned (.bool cl) ∧ Below W'.heap.size W' w') := ⟨fun W' => by rw [hCA, hCD, hcl]; exact hclash_any A D W' okA.t32 okD.t32⟩
          have HCA := Seal.mk (And.intro hCA (And.intro hCD (And.intro hfr hcl)))
          have q7 : (p : Int) < (n : Int) := by omega
          have q8 : (0 : Int) ≤ (p : Int) := by omega
          have q9 : (r : Int) < (n : Int) := by omega
          have q10 : (0 : Int) ≤ (r : Int) := by omega
          have HBo := Seal.mk (HB.out.trans (hH.out.mono HB.out.size))
          have HK := Seal.mk (HK.out.below hH.out)
          have HRo := Seal.mk (HRx.out.below hH.out)
          have HGo := Seal.mk (HE.out.glob.below hH.out)
          clear hIs hr hg ha hd okA okD hCA hCD hfr hcl HB HL hH HRx HE
          go_wp2_with (first
            | (refine wpList_load_mid rfl 29 (.tmp 135) rfl g (off + p * 42) rfl CA _ rA uH rfl iA ?_; (try simp only [Act.put, List.setIfInBounds_toArray, List.set_cons_zero, List.set_cons_succ]))
            | (refine wpList_load_mid rfl 29 (.tmp 143) rfl g (off + r * 42) rfl CD _ rD uH rfl iD ?_; (try simp only [Act.put, List.setIfInBounds_toArray, List.set_cons_zero, List.set_cons_succ]))
            | (refine wpList_newvar rfl rfl 29 16 (.tmp 136) rfl rfl rfl (.int .i64 0 :: .int .i64 0 :: .int .i64 0 :: .int .i64 0 :: .int .i64 0 :: .int .i64 0 :: .int .i64 0 :: .int .u8 0 :: .int .u8 0 :: .int .u8 0 :: .int .u8 0 :: .int .u8 0 :: .int .u8 0 :: .int .u8 0 :: .int .u8 0 :: .int .u8 0 :: .int .u8 0 :: .int .u8 0 :: .int .u8 0 :: .int .u8 0 :: .int .u8 0 :: .int .u8 0 :: .int .u8 0 :: .int .u8 0 :: .int .u8 0 :: .int .u8 0 :: .int .u8 0 :: .int .u8 0 :: .int .u8 0 :: .int .u8 0 :: .int .u8 0 :: .int .u8 0 :: .int .u8 0 :: .int .u8 0 :: .int .u8 0 :: .int .u8 0 :: .int .u8 0 :: .int .u8 0 :: .int .u8 0 :: .int .i64 0 :: .int .i64 0 :: .int .i64 0 :: [] : List Value) CA (exec_alloc_hand rfl _) rfl rfl FA.out.1 FA.out.2.1 FA.out.2.2 ?_; intro V1 hV; have hb : Below wo.heap.size wo V1 := (by rw [hV]; exact below_alloc _ _); have HV1 : Seal (V1.rangeAt wo.heap.size 0 CA ∧ Below wo.heap.size wo V1 ∧ V1.heap.size = wo.heap.size + 1) := ⟨⟨(by rw [hV]; exact rangeAt_row (heap_alloc_new _ _)), hb, (by rw [hV, size_alloc])⟩⟩; have rD := rangeAt_below' rD hb; clear hV hb rA; (try simp only [Act.put, List.setIfInBounds_toArray, List.set_cons_zero, List.set_cons_succ]))
            | (refine wpList_newvar rfl rfl 29 17 (.tmp 144) rfl rfl rfl (.int .i64 0 :: .int .i64 0 :: .int .i64 0 :: .int .i64 0 :: .int .i64 0 :: .int .i64 0 :: .int .i64 0 :: .int .u8 0 :: .int .u8 0 :: .int .u8 0 :: .int .u8 0 :: .int .u8 0 :: .int .u8 0 :: .int .u8 0 :: .int .u8 0 :: .int .u8 0 :: .int .u8 0 :: .int .u8 0 :: .int .u8 0 :: .int .u8 0 :: .int .u8 0 :: .int .u8 0 :: .int .u8 0 :: .int .u8 0 :: .int .u8 0 :: .int .u8 0 :: .int .u8 0 :: .int .u8 0 :: .int .u8 0 :: .int .u8 0 :: .int .u8 0 :: .int .u8 0 :: .int .u8 0 :: .int .u8 0 :: .int .u8 0 :: .int .u8 0 :: .int .u8 0 :: .int .u8 0 :: .int .u8 0 :: .int .i64 0 :: .int .i64 0 :: .int .i64 0 :: [] : List Value) CD (exec_alloc_hand rfl _) rfl rfl FD.out.1 FD.out.2.1 FD.out.2.2 ?_; intro V2 hV; have hb : Below V1.heap.size V1 V2 := (by rw [hV]; exact below_alloc _ _); have HV2 : Seal (V2.rangeAt wo.heap.size 0 CA ∧ V2.rangeAt V1.heap.size 0 CD ∧ Below wo.heap.size wo V2) := ⟨⟨rangeAt_below' HV1.out.1 hb, (by rw [hV]; exact rangeAt_row (heap_alloc_new _ _)), HV1.out.2.1.trans (hb.mono HV1.out.2.1.size)⟩⟩; clear hV hb rD; (try simp only [Act.put, List.setIfInBounds_toArray, List.set_cons_zero, List.set_cons_succ])))
          have HBw := Seal.mk (HBo.out.trans (HV2.out.2.2.mono HBo.out.size))
          have HK2 := Seal.mk (HK.out.below HV2.out.2.2)
          have HR2 := Seal.mk (HRo.out.below HV2.out.2.2)
          have HG2 := Seal.mk (HGo.out.below HV2.out.2.2)
          have rA := HV2.out.1
          have rD := HV2.out.2.1
          obtain ⟨gA, hgA⟩ : ∃ g, g = wo.heap.size := ⟨_, rfl⟩
          obtain ⟨gD, hgD⟩ : ∃ g, g = V1.heap.size := ⟨_, rfl⟩
          rw [← hgA] at rA ⊢
          rw [← hgD] at rD ⊢
          clear HBo HK HRo HGo HV1 HV2 hgA hgD
          have cA : V2.cell? ⟨gA, 4, none⟩ = some (.int .i64 fr) := by have := rA 4 _ HC4.out; simpa using this
          cases cl with
          | false =>
            refine wp_region_held_drew (S := fun w' => w'.rangeAt gA 0 CA ∧ w'.rangeAt gD 0 CD ∧ w'.cell? ⟨gA, 4, none⟩ = some (.int .i64 fr)) (by kernel_rfl) ⟨rA, rD, cA⟩ (fun hHeld => ?_)
            obtain ⟨U, hV⟩ : ∃ Z, Z = V2.drew := ⟨_, rfl⟩
            have HU : Seal (Below V2.heap.size V2 U) := ⟨by rw [hV]; exact below_drewn _⟩
            rw [← hV] at hHeld ⊢
            clear hV rA rD cA
            refine take_h 0 _ rfl (by kernel_rfl) (by kernel_rfl) (by kernel_rfl) (fun _ _ _ h => h) (yieldsIf_load_mid (by kernel_rfl) 29 (.tmp 16) rfl gA 0 rfl CA _ (fun w hSw => hSw.1) uH rfl iA) (by assumption) ?_
            try simp only [Act.put, List.setIfInBounds_toArray, List.set_cons_zero, List.set_cons_succ]
            refine take_h 1 _ rfl (by kernel_rfl) (by kernel_rfl) (by kernel_rfl) (fun _ _ _ h => h) (yieldsIf_load_mid (by kernel_rfl) 29 (.tmp 17) rfl gD 0 rfl CD _ (fun w hSw => hSw.2.1) uH rfl iD) (by assumption) ?_
            try simp only [Act.put, List.setIfInBounds_toArray, List.set_cons_zero, List.set_cons_succ]
            refine call_h 2 rfl (by kernel_rfl) 20 #[.agg CA.toArray, .agg CD.toArray] (by kernel_rfl) (by go_simp) ?_
            refine (HCl.out U).mono ?_
            rintro e U1 ⟨rfl, hb1⟩
            refine ⟨_, rfl, ⟨rangeAt_below' hHeld.1 hb1, rangeAt_below' hHeld.2.1 hb1, cell_below' hb1 hHeld.2.2⟩, fun hHeld2 => ?_⟩
            try simp only [Act.put, List.setIfInBounds_toArray, List.set_cons_zero, List.set_cons_succ]
            have HU1 := Seal.mk (HU.out.trans (hb1.mono HU.out.size))
            clear hb1 hHeld
            refine take_h 3 ?_ rfl (by kernel_rfl) (by kernel_rfl) (by kernel_rfl) (fun _ _ _ h => h) (Or.inl ⟨by kernel_rfl, ?_⟩) (by assumption) ?_
            rotate_left
            · (intro w hSw; (try dsimp only at hSw); go_simp; try (with_reducible rfl))
            try simp only [Act.put, List.setIfInBounds_toArray, List.set_cons_zero, List.set_cons_succ]
            refine take_h 4 ?_ rfl (by kernel_rfl) (by kernel_rfl) (by kernel_rfl) (fun _ _ _ h => h) (Or.inl ⟨by kernel_rfl, ?_⟩) (by assumption) ?_
            rotate_left
            · (intro w hSw; (try dsimp only at hSw); go_simp; try (with_reducible rfl))
            try simp only [Act.put, List.setIfInBounds_toArray, List.set_cons_zero, List.set_cons_succ]
            refine take_h 5 undef rfl (by kernel_rfl) (by kernel_rfl) (by kernel_rfl) (fun _ _ _ h => h) (Or.inr ⟨by kernel_rfl, rfl⟩) (by assumption) ?_
            try simp only [Act.put, List.setIfInBounds_toArray, List.set_cons_zero, List.set_cons_succ]
            refine take_h 6 undef rfl (by kernel_rfl) (by kernel_rfl) (by kernel_rfl) (fun _ _ _ h => h) (Or.inr ⟨by kernel_rfl, rfl⟩) (by assumption) ?_
            try simp only [Act.put, List.setIfInBounds_toArray, List.set_cons_zero, List.set_cons_succ]
            refine take_h 7 undef rfl (by kernel_rfl) (by kernel_rfl) (by kernel_rfl) (fun _ _ _ h => h) (Or.inr ⟨by kernel_rfl, rfl⟩) (by assumption) ?_
            try simp only [Act.put, List.setIfInBounds_toArray, List.set_cons_zero, List.set_cons_succ]
            refine take_h 8 ?_ rfl (by kernel_rfl) (by kernel_rfl) (by kernel_rfl) (fun _ _ _ h => h) (Or.inl ⟨by kernel_rfl, ?_⟩) (by assumption) ?_
            rotate_left
            · (intro w hSw; (try dsimp only at hSw); go_simp; try (with_reducible rfl))
            try simp only [Act.put, List.setIfInBounds_toArray, List.set_cons_zero, List.set_cons_succ]
            refine take_h 9 ?_ rfl (by kernel_rfl) (by kernel_rfl) (by kernel_rfl) (fun _ _ _ h => h) (Or.inl ⟨by kernel_rfl, ?_⟩) (by assumption) ?_
            rotate_left
            · (intro w hSw; (try dsimp only at hSw); go_simp; try (with_reducible rfl))
            try simp only [Act.put, List.setIfInBounds_toArray, List.set_cons_zero, List.set_cons_succ]
            refine take_h 10 undef rfl (by kernel_rfl) (by kernel_rfl) (by kernel_rfl) (fun _ _ _ h => h) (Or.inr ⟨by kernel_rfl, rfl⟩) (by assumption) ?_
            try simp only [Act.put, List.setIfInBounds_toArray, List.set_cons_zero, List.set_cons_succ]
            refine take_h 11 undef rfl (by kernel_rfl) (by kernel_rfl) (by kernel_rfl) (fun _ _ _ h => h) (Or.inr ⟨by kernel_rfl, rfl⟩) (by assumption) ?_
            try simp only [Act.put, List.setIfInBounds_toArray, List.set_cons_zero, List.set_cons_succ]
            refine take_h 12 undef rfl (by kernel_rfl) (by kernel_rfl) (by kernel_rfl) (fun _ _ _ h => h) (Or.inr ⟨by kernel_rfl, rfl⟩) (by assumption) ?_
            try simp only [Act.put, List.setIfInBounds_toArray, List.set_cons_zero, List.set_cons_succ]
            refine take_h 13 undef rfl (by kernel_rfl) (by kernel_rfl) (by kernel_rfl) (fun _ _ _ h => h) (Or.inr ⟨by kernel_rfl, rfl⟩) (by assumption) ?_
            try simp only [Act.put, List.setIfInBounds_toArray, List.set_cons_zero, List.set_cons_succ]
            refine take_h 14 undef rfl (by kernel_rfl) (by kernel_rfl) (by kernel_rfl) (fun _ _ _ h => h) (Or.inr ⟨by kernel_rfl, rfl⟩) (by assumption) ?_
            try simp only [Act.put, List.setIfInBounds_toArray, List.set_cons_zero, List.set_cons_succ]
            refine take_h 15 ?_ rfl (by kernel_rfl) (by kernel_rfl) (by kernel_rfl) (fun _ _ _ h => h) (Or.inl ⟨by kernel_rfl, ?_⟩) (by assumption) ?_
            rotate_left
            · (intro w hSw; (try dsimp only at hSw); go_simp; try (with_reducible rfl))
            try simp only [Act.put, List.setIfInBounds_toArray, List.set_cons_zero, List.set_cons_succ]
            refine take_h 16 ?_ rfl (by kernel_rfl) (by kernel_rfl) (by kernel_rfl) (fun _ _ _ h => h) (Or.inl ⟨by kernel_rfl, ?_⟩) (by assumption) ?_
            rotate_left
            · (intro w hSw; (try dsimp only at hSw); go_simp; try (with_reducible rfl))
            try simp only [Act.put, List.setIfInBounds_toArray, List.set_cons_zero, List.set_cons_succ]
            refine take_h 17 undef rfl (by kernel_rfl) (by kernel_rfl) (by kernel_rfl) (fun _ _ _ h => h) (Or.inr ⟨by kernel_rfl, rfl⟩) (by assumption) ?_
            try simp only [Act.put, List.setIfInBounds_toArray, List.set_cons_zero, List.set_cons_succ]
            refine take_h 18 undef rfl (by kernel_rfl) (by kernel_rfl) (by kernel_rfl) (fun _ _ _ h => h) (Or.inr ⟨by kernel_rfl, rfl⟩) (by assumption) ?_
            try simp only [Act.put, List.setIfInBounds_toArray, List.set_cons_zero, List.set_cons_succ]
            refine take_h 19 undef rfl (by kernel_rfl) (by kernel_rfl) (by kernel_rfl) (fun _ _ _ h => h) (Or.inr ⟨by kernel_rfl, rfl⟩) (by assumption) ?_
            try simp only [Act.put, List.setIfInBounds_toArray, List.set_cons_zero, List.set_cons_succ]
            refine take_h 20 undef rfl (by kernel_rfl) (by kernel_rfl) (by kernel_rfl) (fun _ _ _ h => h) (Or.inr ⟨by kernel_rfl, rfl⟩) (by assumption) ?_
            try simp only [Act.put, List.setIfInBounds_toArray, List.set_cons_zero, List.set_cons_succ]
            refine take_h 21 undef rfl (by kernel_rfl) (by kernel_rfl) (by kernel_rfl) (fun _ _ _ h => h) (Or.inr ⟨by kernel_rfl, rfl⟩) (by assumption) ?_
            try simp only [Act.put, List.setIfInBounds_toArray, List.set_cons_zero, List.set_cons_succ]
            refine take_h 22 undef rfl (by kernel_rfl) (by kernel_rfl) (by kernel_rfl) (fun _ _ _ h => h) (Or.inr ⟨by kernel_rfl, rfl⟩) (by assumption) ?_
            try simp only [Act.put, List.setIfInBounds_toArray, List.set_cons_zero, List.set_cons_succ]
            refine take_h 23 undef rfl (by kernel_rfl) (by kernel_rfl) (by kernel_rfl) (fun _ _ _ h => h) (Or.inr ⟨by kernel_rfl, rfl⟩) (by assumption) ?_
            try simp only [Act.put, List.setIfInBounds_toArray, List.set_cons_zero, List.set_cons_succ]
            refine take_h 24 undef rfl (by kernel_rfl) (by kernel_rfl) (by kernel_rfl) (fun _ _ _ h => h) (Or.inr ⟨by kernel_rfl, rfl⟩) (by assumption) ?_
            try simp only [Act.put, List.setIfInBounds_toArray, List.set_cons_zero, List.set_cons_succ]
            refine take_h 25 ?_ rfl (by kernel_rfl) (by kernel_rfl) (by kernel_rfl) (fun _ _ _ h => h) (Or.inl ⟨by kernel_rfl, ?_⟩) (by assumption) ?_
            rotate_left
            · (intro w hSw; (try dsimp only at hSw); go_simp; try (with_reducible rfl))
            try simp only [Act.put, List.setIfInBounds_toArray, List.set_cons_zero, List.set_cons_succ]
            refine take_h 26 ?_ rfl (by kernel_rfl) (by kernel_rfl) (by kernel_rfl) (fun _ _ _ h => h) (Or.inl ⟨by kernel_rfl, ?_⟩) (by assumption) ?_
            rotate_left
            · (intro w hSw; (try dsimp only at hSw); go_simp; try (with_reducible rfl))
            try simp only [Act.put, List.setIfInBounds_toArray, List.set_cons_zero, List.set_cons_succ]
            refine take_h 27 undef rfl (by kernel_rfl) (by kernel_rfl) (by kernel_rfl) (fun _ _ _ h => h) (Or.inr ⟨by kernel_rfl, rfl⟩) (by assumption) ?_
            try simp only [Act.put, List.setIfInBounds_toArray, List.set_cons_zero, List.set_cons_succ]
            refine take_h 28 undef rfl (by kernel_rfl) (by kernel_rfl) (by kernel_rfl) (fun _ _ _ h => h) (Or.inr ⟨by kernel_rfl, rfl⟩) (by assumption) ?_
            try simp only [Act.put, List.setIfInBounds_toArray, List.set_cons_zero, List.set_cons_succ]
            refine take_h 29 undef rfl (by kernel_rfl) (by kernel_rfl) (by kernel_rfl) (fun _ _ _ h => h) (Or.inr ⟨by kernel_rfl, rfl⟩) (by assumption) ?_
            try simp only [Act.put, List.setIfInBounds_toArray, List.set_cons_zero, List.set_cons_succ]
            refine take_h 30 undef rfl (by kernel_rfl) (by kernel_rfl) (by kernel_rfl) (fun _ _ _ h => h) (Or.inr ⟨by kernel_rfl, rfl⟩) (by assumption) ?_
            try simp only [Act.put, List.setIfInBounds_toArray, List.set_cons_zero, List.set_cons_succ]
            refine take_h 31 undef rfl (by kernel_rfl) (by kernel_rfl) (by kernel_rfl) (fun _ _ _ h => h) (Or.inr ⟨by kernel_rfl, rfl⟩) (by assumption) ?_
            try simp only [Act.put, List.setIfInBounds_toArray, List.set_cons_zero, List.set_cons_succ]
            refine take_h 32 undef rfl (by kernel_rfl) (by kernel_rfl) (by kernel_rfl) (fun _ _ _ h => h) (Or.inr ⟨by kernel_rfl, rfl⟩) (by assumption) ?_
            try simp only [Act.put, List.setIfInBounds_toArray, List.set_cons_zero, List.set_cons_succ]
            refine take_h 33 undef rfl (by kernel_rfl) (by kernel_rfl) (by kernel_rfl) (fun _ _ _ h => h) (Or.inr ⟨by kernel_rfl, rfl⟩) (by assumption) ?_
            try simp only [Act.put, List.setIfInBounds_toArray, List.set_cons_zero, List.set_cons_succ]
            refine take_h 34 undef rfl (by kernel_rfl) (by kernel_rfl) (by kernel_rfl) (fun _ _ _ h => h) (Or.inr ⟨by kernel_rfl, rfl⟩) (by assumption) ?_
            try simp only [Act.put, List.setIfInBounds_toArray, List.set_cons_zero, List.set_cons_succ]
            refine take_h 35 ?_ rfl (by kernel_rfl) (by kernel_rfl) (by kernel_rfl) (fun _ _ _ h => h) (Or.inl ⟨by kernel_rfl, ?_⟩) (by assumption) ?_
            rotate_left
            · (intro w hSw; (try dsimp only at hSw); go_simp; try (with_reducible rfl))
            try simp only [Act.put, List.setIfInBounds_toArray, List.set_cons_zero, List.set_cons_succ]
            refine wpAnyH_done (by kernel_rfl) ?_ _
            go_wp2
            go_ret
            exact ⟨rfl, HBw.out.trans (HU1.out.mono HBw.out.size)⟩
          | true =>
            by_cases h1 : 0 ≤ fr
            · by_cases h2 : fr < (kn : Int)
              · obtain ⟨f, hf⟩ : ∃ f : Nat, fr = (f : Int) := ⟨fr.toNat, by omega⟩
                subst hf
                have z1 : ((f : Int) < 0) = False := by simp
                have z2 : (kn ≤ f) = False := by simp; omega
                have q11 : (f : Int) < (kn : Int) := by omega
                have q12 : (0 : Int) ≤ (f : Int) := by omega
                rcases HK2.out.at_ with hz | ⟨kg, ko, rfl, hkr, hkg⟩
                · omega
                · obtain ⟨key, hkey⟩ : ∃ key, ks[f]? = some key := ⟨_, List.getElem?_eq_getElem (by have := HK2.out.llen; omega)⟩
                  have ck : V2.cell? ⟨kg, ko + f, none⟩ = some (.int .i64 key) := hkr f (.int .i64 key) (by rw [List.getElem?_map, hkey]; rfl)
                  obtain ⟨t1, ht1⟩ : ∃ b, b = chB key A := ⟨_, rfl⟩
                  obtain ⟨t2, ht2⟩ : ∃ b, b = chB key D := ⟨_, rfl⟩
                  have HCh1 : Seal (∀ W', Glob W' → Calls Tryd.prog 15 #[.int .i64 key, .agg CA.toArray] W' fun e w' => e = .returned (.bool t1) ∧ Below W'.heap.size W' w') := ⟨fun W' hG => by rw [HCA.out.1, ht1]; exact hcheck_any key A W' HOK.out.1 hG⟩
                  have HCh2 : Seal (∀ W', Glob W' → Calls Tryd.prog 15 #[.int .i64 key, .agg CD.toArray] W' fun e w' => e = .returned (.bool t2) ∧ Below W'.heap.size W' w') := ⟨fun W' hG => by rw [HCA.out.2.1, ht2]; exact hcheck_any key D W' HOK.out.2 hG⟩
                  have HT : Seal (ks.getD f 0 = key ∧ t1 = chB key A ∧ t2 = chB key D) := ⟨by simp [hkey], ht1, ht2⟩
                  clear h1 h2 hkr hkg hkey ht1 ht2
                  refine wp_region_held_drew (S := fun w' => w'.rangeAt gA 0 CA ∧ w'.rangeAt gD 0 CD ∧ w'.cell? ⟨gA, 4, none⟩ = some (.int .i64 (f : Int)) ∧ w'.cell? ⟨kg, ko + f, none⟩ = some (.int .i64 key)) (by kernel_rfl) ⟨rA, rD, cA, ck⟩ (fun hHeld => ?_)
                  clear ck
                  obtain ⟨U, hV⟩ : ∃ Z, Z = V2.drew := ⟨_, rfl⟩
                  have HU : Seal (Below V2.heap.size V2 U) := ⟨by rw [hV]; exact below_drewn _⟩
                  rw [← hV] at hHeld ⊢
                  clear hV rA rD cA
                  refine take_h 0 _ rfl (by kernel_rfl) (by kernel_rfl) (by kernel_rfl) (fun _ _ _ h => h) (yieldsIf_load_mid (by kernel_rfl) 29 (.tmp 16) rfl gA 0 rfl CA _ (fun w hSw => hSw.1) uH rfl iA) (by assumption) ?_
                  try simp only [Act.put, List.setIfInBounds_toArray, List.set_cons_zero, List.set_cons_succ]
                  refine take_h 1 _ rfl (by kernel_rfl) (by kernel_rfl) (by kernel_rfl) (fun _ _ _ h => h) (yieldsIf_load_mid (by kernel_rfl) 29 (.tmp 17) rfl gD 0 rfl CD _ (fun w hSw => hSw.2.1) uH rfl iD) (by assumption) ?_
                  try simp only [Act.put, List.setIfInBounds_toArray, List.set_cons_zero, List.set_cons_succ]
                  refine call_h 2 rfl (by kernel_rfl) 20 #[.agg CA.toArray, .agg CD.toArray] (by kernel_rfl) (by go_simp) ?_
                  refine (HCl.out U).mono ?_
                  rintro e U1 ⟨rfl, hb1⟩
                  refine ⟨_, rfl, ⟨rangeAt_below' hHeld.1 hb1, rangeAt_below' hHeld.2.1 hb1, cell_below' hb1 hHeld.2.2.1, cell_below' hb1 hHeld.2.2.2⟩, fun hHeld2 => ?_⟩
                  try simp only [Act.put, List.setIfInBounds_toArray, List.set_cons_zero, List.set_cons_succ]
                  have HU1 := Seal.mk (HU.out.trans (hb1.mono HU.out.size))
                  clear hb1 hHeld
                  refine take_h 3 ?_ rfl (by kernel_rfl) (by kernel_rfl) (by kernel_rfl) (fun _ _ _ h => h) (Or.inl ⟨by kernel_rfl, ?_⟩) (by assumption) ?_
                  rotate_left
                  · (intro w hSw; (try dsimp only at hSw); go_simp; try (with_reducible rfl))
                  try simp only [Act.put, List.setIfInBounds_toArray, List.set_cons_zero, List.set_cons_succ]
                  refine take_h 4 ?_ rfl (by kernel_rfl) (by kernel_rfl) (by kernel_rfl) (fun _ _ _ h => h) (Or.inl ⟨by kernel_rfl, ?_⟩) (by assumption) ?_
                  rotate_left
                  · (intro w hSw; (try dsimp only at hSw); go_simp; try (with_reducible rfl))
                  try simp only [Act.put, List.setIfInBounds_toArray, List.set_cons_zero, List.set_cons_succ]
                  refine take_h 5 ?_ rfl (by kernel_rfl) (by kernel_rfl) (by kernel_rfl) (fun _ _ _ h => h) (Or.inl ⟨by kernel_rfl, ?_⟩) (by assumption) ?_
                  rotate_left
                  · (intro w hSw; (try dsimp only at hSw); go_simp; try (with_reducible rfl))
                  try simp only [Act.put, List.setIfInBounds_toArray, List.set_cons_zero, List.set_cons_succ]
                  refine take_h 6 ?_ rfl (by kernel_rfl) (by kernel_rfl) (by kernel_rfl) (fun _ _ _ h => h) (Or.inl ⟨by kernel_rfl, ?_⟩) (by assumption) ?_
                  rotate_left
                  · (intro w hSw; (try dsimp only at hSw); go_simp; try (with_reducible rfl))
                  try simp only [Act.put, List.setIfInBounds_toArray, List.set_cons_zero, List.set_cons_succ]
                  refine take_h 7 ?_ rfl (by kernel_rfl) (by kernel_rfl) (by kernel_rfl) (fun _ _ _ h => h) (Or.inl ⟨by kernel_rfl, ?_⟩) (by assumption) ?_
                  rotate_left
                  · (intro w hSw; (try dsimp only at hSw); go_simp; try (with_reducible rfl))
                  try simp only [Act.put, List.setIfInBounds_toArray, List.set_cons_zero, List.set_cons_succ]
                  refine take_h 8 ?_ rfl (by kernel_rfl) (by kernel_rfl) (by kernel_rfl) (fun _ _ _ h => h) (Or.inl ⟨by kernel_rfl, ?_⟩) (by assumption) ?_
                  rotate_left
                  · (intro w hSw; (try dsimp only at hSw); go_simp; try (with_reducible rfl))
                  try simp only [Act.put, List.setIfInBounds_toArray, List.set_cons_zero, List.set_cons_succ]
                  refine take_h 9 ?_ rfl (by kernel_rfl) (by kernel_rfl) (by kernel_rfl) (fun _ _ _ h => h) (Or.inl ⟨by kernel_rfl, ?_⟩) (by assumption) ?_
                  rotate_left
                  · (intro w hSw; (try dsimp only at hSw); go_simp; try (with_reducible rfl))
                  try simp only [Act.put, List.setIfInBounds_toArray, List.set_cons_zero, List.set_cons_succ]
                  refine take_h 10 ?_ rfl (by kernel_rfl) (by kernel_rfl) (by kernel_rfl) (fun _ _ _ h => h) (Or.inl ⟨by kernel_rfl, ?_⟩) (by assumption) ?_
                  rotate_left
                  · (intro w hSw; (try dsimp only at hSw); go_simp; try (with_reducible rfl))
                  try simp only [Act.put, List.setIfInBounds_toArray, List.set_cons_zero, List.set_cons_succ]
                  refine take_h 11 ?_ rfl (by kernel_rfl) (by kernel_rfl) (by kernel_rfl) (fun _ _ _ h => h) (Or.inl ⟨by kernel_rfl, ?_⟩) (by assumption) ?_
                  rotate_left
                  · (intro w hSw; (try dsimp only at hSw); go_simp; try (with_reducible rfl))
                  try simp only [Act.put, List.setIfInBounds_toArray, List.set_cons_zero, List.set_cons_succ]
                  refine take_h 12 ?_ rfl (by kernel_rfl) (by kernel_rfl) (by kernel_rfl) (fun _ _ _ h => h) (Or.inl ⟨by kernel_rfl, ?_⟩) (by assumption) ?_
                  rotate_left
                  · (intro w hSw; (try dsimp only at hSw); go_simp; try (with_reducible rfl))
                  try simp only [Act.put, List.setIfInBounds_toArray, List.set_cons_zero, List.set_cons_succ]
                  refine take_h 13 ?_ rfl (by kernel_rfl) (by kernel_rfl) (by kernel_rfl) (fun _ _ _ h => h) (Or.inl ⟨by kernel_rfl, ?_⟩) (by assumption) ?_
                  rotate_left
                  · (intro w hSw; (try dsimp only at hSw); go_simp; try (with_reducible rfl))
                  try simp only [Act.put, List.setIfInBounds_toArray, List.set_cons_zero, List.set_cons_succ]
                  refine take_h 14 ?_ rfl (by kernel_rfl) (by kernel_rfl) (by kernel_rfl) (fun _ _ _ h => h) (Or.inl ⟨by kernel_rfl, ?_⟩) (by assumption) ?_
                  rotate_left
                  · (intro w hSw; (try dsimp only at hSw); go_simp; try (with_reducible rfl))
                  try simp only [Act.put, List.setIfInBounds_toArray, List.set_cons_zero, List.set_cons_succ]
                  refine take_h 15 ?_ rfl (by kernel_rfl) (by kernel_rfl) (by kernel_rfl) (fun _ _ _ h => h) (Or.inl ⟨by kernel_rfl, ?_⟩) (by assumption) ?_
                  rotate_left
                  · (intro w hSw; (try dsimp only at hSw); go_simp; try (with_reducible rfl))
                  try simp only [Act.put, List.setIfInBounds_toArray, List.set_cons_zero, List.set_cons_succ]
                  refine take_h 16 ?_ rfl (by kernel_rfl) (by kernel_rfl) (by kernel_rfl) (fun _ _ _ h => h) (Or.inl ⟨by kernel_rfl, ?_⟩) (by assumption) ?_
                  rotate_left
                  · (intro w hSw; (try dsimp only at hSw); go_simp; try (with_reducible rfl))
                  try simp only [Act.put, List.setIfInBounds_toArray, List.set_cons_zero, List.set_cons_succ]
                  refine take_h 17 ?_ rfl (by kernel_rfl) (by kernel_rfl) (by kernel_rfl) (fun _ _ _ h => h) (Or.inl ⟨by kernel_rfl, ?_⟩) (by assumption) ?_
                  rotate_left
                  · (intro w hSw; (try dsimp only at hSw); go_simp; try (with_reducible rfl))
                  try simp only [Act.put, List.setIfInBounds_toArray, List.set_cons_zero, List.set_cons_succ]
                  refine take_h 18 ?_ rfl (by kernel_rfl) (by kernel_rfl) (by kernel_rfl) (fun _ _ _ h => h) (Or.inl ⟨by kernel_rfl, ?_⟩) (by assumption) ?_
                  rotate_left
                  · (intro w hSw; (try dsimp only at hSw); go_simp; try (with_reducible rfl))
                  try simp only [Act.put, List.setIfInBounds_toArray, List.set_cons_zero, List.set_cons_succ]
                  refine take_h 19 ?_ rfl (by kernel_rfl) (by kernel_rfl) (by kernel_rfl) (fun _ _ _ h => h) (Or.inl ⟨by kernel_rfl, ?_⟩) (by assumption) ?_
                  rotate_left
                  · (intro w hSw; (try dsimp only at hSw); go_simp; try (with_reducible rfl))
                  try simp only [Act.put, List.setIfInBounds_toArray, List.set_cons_zero, List.set_cons_succ]
                  refine take_h 20 ?_ rfl (by kernel_rfl) (by kernel_rfl) (by kernel_rfl) (fun _ _ _ h => h) (Or.inl ⟨by kernel_rfl, ?_⟩) (by assumption) ?_
                  rotate_left
                  · (intro w hSw; (try dsimp only at hSw); go_simp; try (with_reducible rfl))
                  try simp only [Act.put, List.setIfInBounds_toArray, List.set_cons_zero, List.set_cons_succ]
                  refine take_h 21 ?_ rfl (by kernel_rfl) (by kernel_rfl) (by kernel_rfl) (fun _ _ _ h => h) (Or.inl ⟨by kernel_rfl, ?_⟩) (by assumption) ?_
                  rotate_left
                  · (intro w hSw; (try dsimp only at hSw); go_simp; try (with_reducible rfl))
                  try simp only [Act.put, List.setIfInBounds_toArray, List.set_cons_zero, List.set_cons_succ]
                  refine take_h 22 _ rfl (by kernel_rfl) (by kernel_rfl) (by kernel_rfl) (fun _ _ _ h => h) (yieldsIf_load_mid (by kernel_rfl) 29 (.tmp 16) rfl gA 0 rfl CA _ (fun w hSw => hSw.1) uH rfl iA) (by assumption) ?_
                  try simp only [Act.put, List.setIfInBounds_toArray, List.set_cons_zero, List.set_cons_succ]
                  refine call_h 23 rfl (by kernel_rfl) 15 #[.int .i64 key, .agg CA.toArray] (by kernel_rfl) (by go_simp) ?_
                  refine (HCh1.out U1 (HG2.out.below HU1.out)).mono ?_
                  rintro e U2 ⟨rfl, hb1⟩
                  refine ⟨_, rfl, ⟨rangeAt_below' hHeld2.1 hb1, rangeAt_below' hHeld2.2.1 hb1, cell_below' hb1 hHeld2.2.2.1, cell_below' hb1 hHeld2.2.2.2⟩, fun hHeld3 => ?_⟩
                  try simp only [Act.put, List.setIfInBounds_toArray, List.set_cons_zero, List.set_cons_succ]
                  have HU2 := Seal.mk (HU1.out.trans (hb1.mono HU1.out.size))
                  clear hb1 hHeld2 HU1 HU
                  cases t1 with
                  | false =>
                    refine take_h 24 ?_ rfl (by kernel_rfl) (by kernel_rfl) (by kernel_rfl) (fun _ _ _ h => h) (Or.inl ⟨by kernel_rfl, ?_⟩) (by assumption) ?_
                    rotate_left
                    · (intro w hSw; (try dsimp only at hSw); go_simp; try (with_reducible rfl))
                    try simp only [Act.put, List.setIfInBounds_toArray, List.set_cons_zero, List.set_cons_succ]
                    refine take_h 25 ?_ rfl (by kernel_rfl) (by kernel_rfl) (by kernel_rfl) (fun _ _ _ h => h) (Or.inl ⟨by kernel_rfl, ?_⟩) (by assumption) ?_
                    rotate_left
                    · (intro w hSw; (try dsimp only at hSw); go_simp; try (with_reducible rfl))
                    try simp only [Act.put, List.setIfInBounds_toArray, List.set_cons_zero, List.set_cons_succ]
                    refine take_h 26 ?_ rfl (by kernel_rfl) (by kernel_rfl) (by kernel_rfl) (fun _ _ _ h => h) (Or.inl ⟨by kernel_rfl, ?_⟩) (by assumption) ?_
                    rotate_left
                    · (intro w hSw; (try dsimp only at hSw); go_simp; try (with_reducible rfl))
                    try simp only [Act.put, List.setIfInBounds_toArray, List.set_cons_zero, List.set_cons_succ]
                    refine take_h 27 undef rfl (by kernel_rfl) (by kernel_rfl) (by kernel_rfl) (fun _ _ _ h => h) (Or.inr ⟨by kernel_rfl, rfl⟩) (by assumption) ?_
                    try simp only [Act.put, List.setIfInBounds_toArray, List.set_cons_zero, List.set_cons_succ]
                    refine take_h 28 undef rfl (by kernel_rfl) (by kernel_rfl) (by kernel_rfl) (fun _ _ _ h => h) (Or.inr ⟨by kernel_rfl, rfl⟩) (by assumption) ?_
                    try simp only [Act.put, List.setIfInBounds_toArray, List.set_cons_zero, List.set_cons_succ]
                    refine take_h 29 undef rfl (by kernel_rfl) (by kernel_rfl) (by kernel_rfl) (fun _ _ _ h => h) (Or.inr ⟨by kernel_rfl, rfl⟩) (by assumption) ?_
                    try simp only [Act.put, List.setIfInBounds_toArray, List.set_cons_zero, List.set_cons_succ]
                    refine take_h 30 undef rfl (by kernel_rfl) (by kernel_rfl) (by kernel_rfl) (fun _ _ _ h => h) (Or.inr ⟨by kernel_rfl, rfl⟩) (by assumption) ?_
                    try simp only [Act.put, List.setIfInBounds_toArray, List.set_cons_zero, List.set_cons_succ]
                    refine take_h 31 undef rfl (by kernel_rfl) (by kernel_rfl) (by kernel_rfl) (fun _ _ _ h => h) (Or.inr ⟨by kernel_rfl, rfl⟩) (by assumption) ?_
                    try simp only [Act.put, List.setIfInBounds_toArray, List.set_cons_zero, List.set_cons_succ]
                    refine take_h 32 undef rfl (by kernel_rfl) (by kernel_rfl) (by kernel_rfl) (fun _ _ _ h => h) (Or.inr ⟨by kernel_rfl, rfl⟩) (by assumption) ?_
                    try simp only [Act.put, List.setIfInBounds_toArray, List.set_cons_zero, List.set_cons_succ]
                    refine take_h 33 undef rfl (by kernel_rfl) (by kernel_rfl) (by kernel_rfl) (fun _ _ _ h => h) (Or.inr ⟨by kernel_rfl, rfl⟩) (by assumption) ?_
                    try simp only [Act.put, List.setIfInBounds_toArray, List.set_cons_zero, List.set_cons_succ]
                    refine take_h 34 undef rfl (by kernel_rfl) (by kernel_rfl) (by kernel_rfl) (fun _ _ _ h => h) (Or.inr ⟨by kernel_rfl, rfl⟩) (by assumption) ?_
                    try simp only [Act.put, List.setIfInBounds_toArray, List.set_cons_zero, List.set_cons_succ]
                    refine take_h 35 ?_ rfl (by kernel_rfl) (by kernel_rfl) (by kernel_rfl) (fun _ _ _ h => h) (Or.inl ⟨by kernel_rfl, ?_⟩) (by assumption) ?_
                    rotate_left
                    · (intro w hSw; (try dsimp only at hSw); go_simp; try (with_reducible rfl))
                    try simp only [Act.put, List.setIfInBounds_toArray, List.set_cons_zero, List.set_cons_succ]
                    refine wpAnyH_done (by kernel_rfl) ?_ _
                    go_wp2
                    go_ret
                    exact ⟨rfl, HBw.out.trans (HU2.out.mono HBw.out.size)⟩
                  | true =>
                    refine take_h 24 ?_ rfl (by kernel_rfl) (by kernel_rfl) (by kernel_rfl) (fun _ _ _ h => h) (Or.inl ⟨by kernel_rfl, ?_⟩) (by assumption) ?_
                    rotate_left
                    · (intro w hSw; (try dsimp only at hSw); go_simp; try (with_reducible rfl))
                    try simp only [Act.put, List.setIfInBounds_toArray, List.set_cons_zero, List.set_cons_succ]
                    refine take_h 25 ?_ rfl (by kernel_rfl) (by kernel_rfl) (by kernel_rfl) (fun _ _ _ h => h) (Or.inl ⟨by kernel_rfl, ?_⟩) (by assumption) ?_
                    rotate_left
                    · (intro w hSw; (try dsimp only at hSw); go_simp; try (with_reducible rfl))
                    try simp only [Act.put, List.setIfInBounds_toArray, List.set_cons_zero, List.set_cons_succ]
                    refine take_h 26 ?_ rfl (by kernel_rfl) (by kernel_rfl) (by kernel_rfl) (fun _ _ _ h => h) (Or.inl ⟨by kernel_rfl, ?_⟩) (by assumption) ?_
                    rotate_left
                    · (intro w hSw; (try dsimp only at hSw); go_simp; try (with_reducible rfl))
                    try simp only [Act.put, List.setIfInBounds_toArray, List.set_cons_zero, List.set_cons_succ]
                    refine take_h 27 ?_ rfl (by kernel_rfl) (by kernel_rfl) (by kernel_rfl) (fun _ _ _ h => h) (Or.inl ⟨by kernel_rfl, ?_⟩) (by assumption) ?_
                    rotate_left
                    · (intro w hSw; (try dsimp only at hSw); go_simp; try (with_reducible rfl))
                    try simp only [Act.put, List.setIfInBounds_toArray, List.set_cons_zero, List.set_cons_succ]
                    refine take_h 28 ?_ rfl (by kernel_rfl) (by kernel_rfl) (by kernel_rfl) (fun _ _ _ h => h) (Or.inl ⟨by kernel_rfl, ?_⟩) (by assumption) ?_
                    rotate_left
                    · (intro w hSw; (try dsimp only at hSw); go_simp; try (with_reducible rfl))
                    try simp only [Act.put, List.setIfInBounds_toArray, List.set_cons_zero, List.set_cons_succ]
                    refine take_h 29 ?_ rfl (by kernel_rfl) (by kernel_rfl) (by kernel_rfl) (fun _ _ _ h => h) (Or.inl ⟨by kernel_rfl, ?_⟩) (by assumption) ?_
                    rotate_left
                    · (intro w hSw; (try dsimp only at hSw); go_simp; try (with_reducible rfl))
                    try simp only [Act.put, List.setIfInBounds_toArray, List.set_cons_zero, List.set_cons_succ]
                    refine take_h 30 ?_ rfl (by kernel_rfl) (by kernel_rfl) (by kernel_rfl) (fun _ _ _ h => h) (Or.inl ⟨by kernel_rfl, ?_⟩) (by assumption) ?_
                    rotate_left
                    · (intro w hSw; (try dsimp only at hSw); go_simp; try (with_reducible rfl))
                    try simp only [Act.put, List.setIfInBounds_toArray, List.set_cons_zero, List.set_cons_succ]
                    refine take_h 31 ?_ rfl (by kernel_rfl) (by kernel_rfl) (by kernel_rfl) (fun _ _ _ h => h) (Or.inl ⟨by kernel_rfl, ?_⟩) (by assumption) ?_
                    rotate_left
                    · (intro w hSw; (try dsimp only at hSw); go_simp; try (with_reducible rfl))
                    try simp only [Act.put, List.setIfInBounds_toArray, List.set_cons_zero, List.set_cons_succ]
                    refine take_h 32 _ rfl (by kernel_rfl) (by kernel_rfl) (by kernel_rfl) (fun _ _ _ h => h) (yieldsIf_load_mid (by kernel_rfl) 29 (.tmp 17) rfl gD 0 rfl CD _ (fun w hSw => hSw.2.1) uH rfl iD) (by assumption) ?_
                    try simp only [Act.put, List.setIfInBounds_toArray, List.set_cons_zero, List.set_cons_succ]
                    refine call_h 33 rfl (by kernel_rfl) 15 #[.int .i64 key, .agg CD.toArray] (by kernel_rfl) (by go_simp) ?_
                    refine (HCh2.out U2 (HG2.out.below HU2.out)).mono ?_
                    rintro e U3 ⟨rfl, hb1⟩
                    refine ⟨_, rfl, ⟨rangeAt_below' hHeld3.1 hb1, rangeAt_below' hHeld3.2.1 hb1, cell_below' hb1 hHeld3.2.2.1, cell_below' hb1 hHeld3.2.2.2⟩, fun hHeld4 => ?_⟩
                    try simp only [Act.put, List.setIfInBounds_toArray, List.set_cons_zero, List.set_cons_succ]
                    have HU3 := Seal.mk (HU2.out.trans (hb1.mono HU2.out.size))
                    clear hb1 hHeld3 HU2
                    cases t2 with
                    | false =>
                      refine take_h 34 ?_ rfl (by kernel_rfl) (by kernel_rfl) (by kernel_rfl) (fun _ _ _ h => h) (Or.inl ⟨by kernel_rfl, ?_⟩) (by assumption) ?_
                      rotate_left
                      · (intro w hSw; (try dsimp only at hSw); go_simp; try (with_reducible rfl))
                      try simp only [Act.put, List.setIfInBounds_toArray, List.set_cons_zero, List.set_cons_succ]
                      refine take_h 35 ?_ rfl (by kernel_rfl) (by kernel_rfl) (by kernel_rfl) (fun _ _ _ h => h) (Or.inl ⟨by kernel_rfl, ?_⟩) (by assumption) ?_
                      rotate_left
                      · (intro w hSw; (try dsimp only at hSw); go_simp; try (with_reducible rfl))
                      try simp only [Act.put, List.setIfInBounds_toArray, List.set_cons_zero, List.set_cons_succ]
                      refine wpAnyH_done (by kernel_rfl) ?_ _
                      go_wp2
                      go_ret
                      exact ⟨rfl, HBw.out.trans (HU3.out.mono HBw.out.size)⟩
                    | true =>
                      refine take_h 34 ?_ rfl (by kernel_rfl) (by kernel_rfl) (by kernel_rfl) (fun _ _ _ h => h) (Or.inl ⟨by kernel_rfl, ?_⟩) (by assumption) ?_
                      rotate_left
                      · (intro w hSw; (try dsimp only at hSw); go_simp; try (with_reducible rfl))
                      try simp only [Act.put, List.setIfInBounds_toArray, List.set_cons_zero, List.set_cons_succ]
                      refine take_h 35 ?_ rfl (by kernel_rfl) (by kernel_rfl) (by kernel_rfl) (fun _ _ _ h => h) (Or.inl ⟨by kernel_rfl, ?_⟩) (by assumption) ?_
                      rotate_left
                      · (intro w hSw; (try dsimp only at hSw); go_simp; try (with_reducible rfl))
                      try simp only [Act.put, List.setIfInBounds_toArray, List.set_cons_zero, List.set_cons_succ]
                      refine wpAnyH_done (by kernel_rfl) ?_ _
                      have rA := hHeld4.1
                      have cA := hHeld4.2.2.1
                      have HR3 := Seal.mk (HR2.out.below HU3.out)
                      have HB3 := Seal.mk (HBw.out.trans (HU3.out.mono HBw.out.size))
                      have HHIT : Seal (∃ x ∈ FL, x.1.fr = (f : Int) ∧ befB A x.1 = false) := ⟨by
                        rw [HSZ.out.2.2.2.1]
                        have h := fnd_hit (ks := ks) (l := l) HSZ.out.2.2.2.2 HM.out.1 HM.out.2 HCA.out.2.2.2.symm (by rw [← HCA.out.2.2.1]; omega) (by rw [← HCA.out.2.2.1]; have := HSZ.out.2.1; omega) (by rw [← HCA.out.2.2.1]; simp only [Int.toNat_natCast]; rw [HT.out.1]; exact HT.out.2.1.symm) (by rw [← HCA.out.2.2.1]; simp only [Int.toNat_natCast]; rw [HT.out.1]; exact HT.out.2.2.symm)
                        rw [← HCA.out.2.2.1] at h
                        exact h⟩
                      clear hHeld4 HU3 HBw HK2 HR2 HG2
                      go_wp2
                      go_loopw [18] (fun i wr => ∃ (q : Nat), q ≤ j ∧ i = .int .i64 q ∧ Seal (Below U3.heap.size U3 wr ∧ ∀ i, i < q → ∀ y, FL[i]? = some y → y.1.fr ≠ (f : Int))) (fun i _ => j - (intOf i).toNat)
                      case atStart => exact ⟨0, by omega, rfl, ⟨Below.refl _ _, fun i hi => by omega⟩⟩
                      case round =>
                        obtain ⟨wi, rfl⟩ : ∃ z, z = wr := ⟨_, rfl⟩
                        obtain ⟨q, hq, rfl, hW⟩ := hrel
                        by_cases hlt : q < j
                        · obtain ⟨x, hx⟩ : ∃ x, FL[q]? = some x := ⟨_, List.getElem?_eq_getElem (by have := HLN.out; omega)⟩
                          have okx := HFL.out.1 x (List.mem_of_getElem? hx)
                          have rA1 := rangeAt_below' rA hW.out.1
                          have cA1 := cell_below' hW.out.1 cA
                          rcases (HR3.out.below hW.out.1).at_ with hz | ⟨g2, off2, rfl, hr2, hg2⟩
                          · omega
                          · have rX := rangeC_at hr2 (fun x hx => lieC_len ((HFL.out.1 x hx).1.t32) ((HFL.out.1 x hx).2.t32)) hx
                            have r1 := rangeAt_take rX 42
                            rw [show (lieC x.1 x.2).take 42 = x.1.C from List.take_left' (Hd.C_len okx.1.t32)] at r1
                            obtain ⟨C1, hC1⟩ : ∃ C, C = x.1.C := ⟨_, rfl⟩
                            obtain ⟨xf, hxf⟩ : ∃ xf, xf = x.1.fr := ⟨_, rfl⟩
                            have c5 : wi.cell? ⟨g2, off2 + q * 84 + 4, none⟩ = some (.int .i64 xf) := by rw [hxf]; exact rX 4 _ rfl
                            rw [← hC1] at r1
                            have iC1 : (Tryd.prog.info? 29).map (·.size) = some C1.length := by rw [hC1]; exact Hd.C_info okx.1.t32
                            have q13 : (q : Int) < (j : Int) := by omega
                            have q14 : (0 : Int) ≤ (q : Int) := by omega
                            have HXQ := Seal.mk (And.intro hx hxf)
                            by_cases hff : xf = (f : Int)
                            · subst hff
                              have HBf : Seal (∀ W', Calls Tryd.prog 42 #[.agg CA.toArray, .agg C1.toArray] W' fun e w' => e = .returned (.bool false) ∧ Below W'.heap.size W' w') := ⟨fun W' => by
                                obtain ⟨y, hy, hyf, hyb⟩ := HHIT.out
                                have e : y = x := fnd_one (ks := ks) (l := l) HSZ.out.2.2.2.2 (by rw [← HSZ.out.2.2.2.1]; exact hy) (by rw [← HSZ.out.2.2.2.1]; exact List.mem_of_getElem? hx) (by rw [hyf, hxf])
                                rw [e] at hyb
                                have h := rbefore_any A x.1 W' HOK.out.1.t32 okx.1.t32
                                rw [hyb] at h
                                rw [HCA.out.1, hC1]; exact h⟩
                              clear hx okx hr2 hg2 rX hC1 hxf
                              go_wp2_with fail
                              refine wp_region_held_drew (S := fun w' => w'.cell? ⟨g2, off2 + q * 84 + 4, none⟩ = some (.int .i64 (f : Int)) ∧ w'.cell? ⟨gA, 4, none⟩ = some (.int .i64 (f : Int)) ∧ w'.rangeAt gA 0 CA ∧ w'.rangeAt g2 (off2 + q * 84) C1) (by kernel_rfl) ⟨c5, cA1, rA1, r1⟩ (fun hHeld => ?_)
                              obtain ⟨U, hV⟩ : ∃ Z, Z = wi.drew := ⟨_, rfl⟩
                              have HU : Seal (Below U3.heap.size U3 U) := ⟨by rw [hV]; exact hW.out.1.trans ((below_drewn _).mono hW.out.1.size)⟩
                              rw [← hV] at hHeld ⊢
                              clear hV
                              clear c5 cA1 rA1 r1
                              refine take_h 0 ?_ rfl (by kernel_rfl) (by kernel_rfl) (by kernel_rfl) (fun _ _ _ h => h) (Or.inl ⟨by kernel_rfl, ?_⟩) (by assumption) ?_
                              rotate_left
                              · (intro w hSw; (try dsimp only at hSw); go_simp; try (with_reducible rfl))
                              try simp only [Act.put, List.setIfInBounds_toArray, List.set_cons_zero, List.set_cons_succ]
                              refine take_h 1 ?_ rfl (by kernel_rfl) (by kernel_rfl) (by kernel_rfl) (fun _ _ _ h => h) (Or.inl ⟨by kernel_rfl, ?_⟩) (by assumption) ?_
                              rotate_left
                              · (intro w hSw; (try dsimp only at hSw); go_simp; try (with_reducible rfl))
                              try simp only [Act.put, List.setIfInBounds_toArray, List.set_cons_zero, List.set_cons_succ]
                              refine take_h 2 ?_ rfl (by kernel_rfl) (by kernel_rfl) (by kernel_rfl) (fun _ _ _ h => h) (Or.inl ⟨by kernel_rfl, ?_⟩) (by assumption) ?_
                              rotate_left
                              · (intro w hSw; (try dsimp only at hSw); go_simp; try (with_reducible rfl))
                              try simp only [Act.put, List.setIfInBounds_toArray, List.set_cons_zero, List.set_cons_succ]
                              refine take_h 3 ?_ rfl (by kernel_rfl) (by kernel_rfl) (by kernel_rfl) (fun _ _ _ h => h) (Or.inl ⟨by kernel_rfl, ?_⟩) (by assumption) ?_
                              rotate_left
                              · (intro w hSw; (try dsimp only at hSw); go_simp; try (with_reducible rfl))
                              try simp only [Act.put, List.setIfInBounds_toArray, List.set_cons_zero, List.set_cons_succ]
                              refine take_h 4 ?_ rfl (by kernel_rfl) (by kernel_rfl) (by kernel_rfl) (fun _ _ _ h => h) (Or.inl ⟨by kernel_rfl, ?_⟩) (by assumption) ?_
                              rotate_left
                              · (intro w hSw; (try dsimp only at hSw); go_simp; try (with_reducible rfl))
                              try simp only [Act.put, List.setIfInBounds_toArray, List.set_cons_zero, List.set_cons_succ]
                              refine take_h 5 ?_ rfl (by kernel_rfl) (by kernel_rfl) (by kernel_rfl) (fun _ _ _ h => h) (Or.inl ⟨by kernel_rfl, ?_⟩) (by assumption) ?_
                              rotate_left
                              · (intro w hSw; (try dsimp only at hSw); go_simp; try (with_reducible rfl))
                              try simp only [Act.put, List.setIfInBounds_toArray, List.set_cons_zero, List.set_cons_succ]
                              refine take_h 6 ?_ rfl (by kernel_rfl) (by kernel_rfl) (by kernel_rfl) (fun _ _ _ h => h) (Or.inl ⟨by kernel_rfl, ?_⟩) (by assumption) ?_
                              rotate_left
                              · (intro w hSw; (try dsimp only at hSw); go_simp; try (with_reducible rfl))
                              try simp only [Act.put, List.setIfInBounds_toArray, List.set_cons_zero, List.set_cons_succ]
                              refine take_h 7 ?_ rfl (by kernel_rfl) (by kernel_rfl) (by kernel_rfl) (fun _ _ _ h => h) (Or.inl ⟨by kernel_rfl, ?_⟩) (by assumption) ?_
                              rotate_left
                              · (intro w hSw; (try dsimp only at hSw); go_simp; try (with_reducible rfl))
                              try simp only [Act.put, List.setIfInBounds_toArray, List.set_cons_zero, List.set_cons_succ]
                              refine take_h 8 ?_ rfl (by kernel_rfl) (by kernel_rfl) (by kernel_rfl) (fun _ _ _ h => h) (Or.inl ⟨by kernel_rfl, ?_⟩) (by assumption) ?_
                              rotate_left
                              · (intro w hSw; (try dsimp only at hSw); go_simp; try (with_reducible rfl))
                              try simp only [Act.put, List.setIfInBounds_toArray, List.set_cons_zero, List.set_cons_succ]
                              refine wpAnyH_done (by kernel_rfl) ?_ _
                              have rA1 := hHeld.2.2.1
                              have r1 := hHeld.2.2.2
                              clear hHeld
                              go_wp2_with fail
                              refine wp_region_held_drew (S := fun w' => w'.rangeAt gA 0 CA ∧ w'.rangeAt g2 (off2 + q * 84) C1) (by kernel_rfl) ⟨rA1, r1⟩ (fun hHeld => ?_)
                              obtain ⟨Y, hV⟩ : ∃ Z, Z = U.drew := ⟨_, rfl⟩
                              have HY : Seal (Below U3.heap.size U3 Y) := ⟨by rw [hV]; exact HU.out.trans ((below_drewn _).mono HU.out.size)⟩
                              rw [← hV] at hHeld ⊢
                              clear hV rA1 r1
                              refine take_h 0 _ rfl (by kernel_rfl) (by kernel_rfl) (by kernel_rfl) (fun _ _ _ h => h) (yieldsIf_load_mid (by kernel_rfl) 29 (.tmp 16) rfl gA 0 rfl CA _ (fun w hSw => hSw.1) uH rfl iA) (by assumption) ?_
                              try simp only [Act.put, List.setIfInBounds_toArray, List.set_cons_zero, List.set_cons_succ]
                              refine take_h 1 ?_ rfl (by kernel_rfl) (by kernel_rfl) (by kernel_rfl) (fun _ _ _ h => h) (Or.inl ⟨by kernel_rfl, ?_⟩) (by assumption) ?_
                              rotate_left
                              · (intro w hSw; (try dsimp only at hSw); go_simp; try (with_reducible rfl))
                              try simp only [Act.put, List.setIfInBounds_toArray, List.set_cons_zero, List.set_cons_succ]
                              refine take_h 2 ?_ rfl (by kernel_rfl) (by kernel_rfl) (by kernel_rfl) (fun _ _ _ h => h) (Or.inl ⟨by kernel_rfl, ?_⟩) (by assumption) ?_
                              rotate_left
                              · (intro w hSw; (try dsimp only at hSw); go_simp; try (with_reducible rfl))
                              try simp only [Act.put, List.setIfInBounds_toArray, List.set_cons_zero, List.set_cons_succ]
                              refine take_h 3 ?_ rfl (by kernel_rfl) (by kernel_rfl) (by kernel_rfl) (fun _ _ _ h => h) (Or.inl ⟨by kernel_rfl, ?_⟩) (by assumption) ?_
                              rotate_left
                              · (intro w hSw; (try dsimp only at hSw); go_simp; try (with_reducible rfl))
                              try simp only [Act.put, List.setIfInBounds_toArray, List.set_cons_zero, List.set_cons_succ]
                              refine take_h 4 ?_ rfl (by kernel_rfl) (by kernel_rfl) (by kernel_rfl) (fun _ _ _ h => h) (Or.inl ⟨by kernel_rfl, ?_⟩) (by assumption) ?_
                              rotate_left
                              · (intro w hSw; (try dsimp only at hSw); go_simp; try (with_reducible rfl))
                              try simp only [Act.put, List.setIfInBounds_toArray, List.set_cons_zero, List.set_cons_succ]
                              refine take_h 5 _ rfl (by kernel_rfl) (by kernel_rfl) (by kernel_rfl) (fun _ _ _ h => h) (yieldsIf_load_mid (by kernel_rfl) 29 (.tmp 200) rfl g2 (off2 + q * 84) rfl C1 _ (fun w hSw => hSw.2) uH rfl iC1) (by assumption) ?_
                              try simp only [Act.put, List.setIfInBounds_toArray, List.set_cons_zero, List.set_cons_succ]
                              refine call_h 6 rfl (by kernel_rfl) 42 #[.agg CA.toArray, .agg C1.toArray] (by kernel_rfl) (by go_simp) ?_
                              refine (HBf.out Y).mono ?_
                              rintro e Y1 ⟨rfl, hb1⟩
                              refine ⟨_, rfl, ⟨rangeAt_below' hHeld.1 hb1, rangeAt_below' hHeld.2 hb1⟩, fun hHeld2 => ?_⟩
                              try simp only [Act.put, List.setIfInBounds_toArray, List.set_cons_zero, List.set_cons_succ]
                              have HY1 := Seal.mk (HY.out.trans (hb1.mono HY.out.size))
                              clear hb1 hHeld
                              refine take_h 7 ?_ rfl (by kernel_rfl) (by kernel_rfl) (by kernel_rfl) (fun _ _ _ h => h) (Or.inl ⟨by kernel_rfl, ?_⟩) (by assumption) ?_
                              rotate_left
                              · (intro w hSw; (try dsimp only at hSw); go_simp; try (with_reducible rfl))
                              try simp only [Act.put, List.setIfInBounds_toArray, List.set_cons_zero, List.set_cons_succ]
                              refine take_h 8 ?_ rfl (by kernel_rfl) (by kernel_rfl) (by kernel_rfl) (fun _ _ _ h => h) (Or.inl ⟨by kernel_rfl, ?_⟩) (by assumption) ?_
                              rotate_left
                              · (intro w hSw; (try dsimp only at hSw); go_simp; try (with_reducible rfl))
                              try simp only [Act.put, List.setIfInBounds_toArray, List.set_cons_zero, List.set_cons_succ]
                              refine wpAnyH_done (by kernel_rfl) ?_ _
                              go_wp2
                              go_ret
                              exact ⟨rfl, HB3.out.trans (HY1.out.mono HB3.out.size)⟩
                            · have z3 : (xf == (f : Int)) = false := by simp [hff]
                              have z4 : (xf = (f : Int)) = False := by simp [hff]
                              have HNE : Seal (∀ i, i < q + 1 → ∀ y, FL[i]? = some y → y.1.fr ≠ (f : Int)) := ⟨fun i hi y hy => by
                                rcases Nat.lt_or_ge i q with h | h
                                · exact hW.out.2 i h y hy
                                · obtain rfl : i = q := by omega
                                  rw [HXQ.out.1] at hy
                                  cases hy
                                  rw [← HXQ.out.2]; exact hff⟩
                              clear hx okx hr2 hg2 rX hC1 hxf r1 rA1 hff
                              go_wp2_with fail
                              refine wp_region_held_drew (S := fun w' => w'.cell? ⟨g2, off2 + q * 84 + 4, none⟩ = some (.int .i64 xf) ∧ w'.cell? ⟨gA, 4, none⟩ = some (.int .i64 (f : Int))) (by kernel_rfl) ⟨c5, cA1⟩ (fun hHeld => ?_)
                              obtain ⟨U, hV⟩ : ∃ Z, Z = wi.drew := ⟨_, rfl⟩
                              have HU : Seal (Below U3.heap.size U3 U) := ⟨by rw [hV]; exact hW.out.1.trans ((below_drewn _).mono hW.out.1.size)⟩
                              rw [← hV] at hHeld ⊢
                              clear hV
                              clear c5 cA1
                              refine take_h 0 ?_ rfl (by kernel_rfl) (by kernel_rfl) (by kernel_rfl) (fun _ _ _ h => h) (Or.inl ⟨by kernel_rfl, ?_⟩) (by assumption) ?_
                              rotate_left
                              · (intro w hSw; (try dsimp only at hSw); go_simp; try (with_reducible rfl))
                              try simp only [Act.put, List.setIfInBounds_toArray, List.set_cons_zero, List.set_cons_succ]
                              refine take_h 1 ?_ rfl (by kernel_rfl) (by kernel_rfl) (by kernel_rfl) (fun _ _ _ h => h) (Or.inl ⟨by kernel_rfl, ?_⟩) (by assumption) ?_
                              rotate_left
                              · (intro w hSw; (try dsimp only at hSw); go_simp; try (with_reducible rfl))
                              try simp only [Act.put, List.setIfInBounds_toArray, List.set_cons_zero, List.set_cons_succ]
                              refine take_h 2 ?_ rfl (by kernel_rfl) (by kernel_rfl) (by kernel_rfl) (fun _ _ _ h => h) (Or.inl ⟨by kernel_rfl, ?_⟩) (by assumption) ?_
                              rotate_left
                              · (intro w hSw; (try dsimp only at hSw); go_simp; try (with_reducible rfl))
                              try simp only [Act.put, List.setIfInBounds_toArray, List.set_cons_zero, List.set_cons_succ]
                              refine take_h 3 ?_ rfl (by kernel_rfl) (by kernel_rfl) (by kernel_rfl) (fun _ _ _ h => h) (Or.inl ⟨by kernel_rfl, ?_⟩) (by assumption) ?_
                              rotate_left
                              · (intro w hSw; (try dsimp only at hSw); go_simp; try (with_reducible rfl))
                              try simp only [Act.put, List.setIfInBounds_toArray, List.set_cons_zero, List.set_cons_succ]
                              refine take_h 4 ?_ rfl (by kernel_rfl) (by kernel_rfl) (by kernel_rfl) (fun _ _ _ h => h) (Or.inl ⟨by kernel_rfl, ?_⟩) (by assumption) ?_
                              rotate_left
                              · (intro w hSw; (try dsimp only at hSw); go_simp; try (with_reducible rfl))
                              try simp only [Act.put, List.setIfInBounds_toArray, List.set_cons_zero, List.set_cons_succ]
                              refine take_h 5 ?_ rfl (by kernel_rfl) (by kernel_rfl) (by kernel_rfl) (fun _ _ _ h => h) (Or.inl ⟨by kernel_rfl, ?_⟩) (by assumption) ?_
                              rotate_left
                              · (intro w hSw; (try dsimp only at hSw); go_simp; try (with_reducible rfl))
                              try simp only [Act.put, List.setIfInBounds_toArray, List.set_cons_zero, List.set_cons_succ]
                              refine take_h 6 ?_ rfl (by kernel_rfl) (by kernel_rfl) (by kernel_rfl) (fun _ _ _ h => h) (Or.inl ⟨by kernel_rfl, ?_⟩) (by assumption) ?_
                              rotate_left
                              · (intro w hSw; (try dsimp only at hSw); go_simp; try (with_reducible rfl))
                              try simp only [Act.put, List.setIfInBounds_toArray, List.set_cons_zero, List.set_cons_succ]
                              refine take_h 7 ?_ rfl (by kernel_rfl) (by kernel_rfl) (by kernel_rfl) (fun _ _ _ h => h) (Or.inl ⟨by kernel_rfl, ?_⟩) (by assumption) ?_
                              rotate_left
                              · (intro w hSw; (try dsimp only at hSw); go_simp; try (with_reducible rfl))
                              try simp only [Act.put, List.setIfInBounds_toArray, List.set_cons_zero, List.set_cons_succ]
                              refine take_h 8 ?_ rfl (by kernel_rfl) (by kernel_rfl) (by kernel_rfl) (fun _ _ _ h => h) (Or.inl ⟨by kernel_rfl, ?_⟩) (by assumption) ?_
                              rotate_left
                              · (intro w hSw; (try dsimp only at hSw); go_simp; try (with_reducible rfl))
                              try simp only [Act.put, List.setIfInBounds_toArray, List.set_cons_zero, List.set_cons_succ]
                              refine wpAnyH_done (by kernel_rfl) ?_ _
                              clear hHeld
                              go_wp2
                              go_roundw
                              case rel => exact ⟨q + 1, by omega, by go_num, ⟨HU.out, HNE.out⟩⟩
                              case measure => simp [intOf]; omega
                        · obtain rfl : q = j := by omega
                          obtain ⟨y, hy, hyf, _⟩ := HHIT.out
                          obtain ⟨i, hi, e⟩ := List.mem_iff_getElem.1 hy
                          exact absurd hyf (hW.out.2 i (by have := HLN.out; omega) y (by rw [List.getElem?_eq_getElem hi, e]))
              · have z1 : (fr < 0) = False := by simp; omega
                have z2 : ((kn : Int) ≤ fr) = True := by simp; omega
                refine wp_region_held_drew (S := fun w' => w'.rangeAt gA 0 CA ∧ w'.rangeAt gD 0 CD ∧ w'.cell? ⟨gA, 4, none⟩ = some (.int .i64 fr)) (by kernel_rfl) ⟨rA, rD, cA⟩ (fun hHeld => ?_)
                clear h1 h2
                obtain ⟨U, hV⟩ : ∃ Z, Z = V2.drew := ⟨_, rfl⟩
                have HU : Seal (Below V2.heap.size V2 U) := ⟨by rw [hV]; exact below_drewn _⟩
                rw [← hV] at hHeld ⊢
                clear hV rA rD cA
                refine take_h 0 _ rfl (by kernel_rfl) (by kernel_rfl) (by kernel_rfl) (fun _ _ _ h => h) (yieldsIf_load_mid (by kernel_rfl) 29 (.tmp 16) rfl gA 0 rfl CA _ (fun w hSw => hSw.1) uH rfl iA) (by assumption) ?_
                try simp only [Act.put, List.setIfInBounds_toArray, List.set_cons_zero, List.set_cons_succ]
                refine take_h 1 _ rfl (by kernel_rfl) (by kernel_rfl) (by kernel_rfl) (fun _ _ _ h => h) (yieldsIf_load_mid (by kernel_rfl) 29 (.tmp 17) rfl gD 0 rfl CD _ (fun w hSw => hSw.2.1) uH rfl iD) (by assumption) ?_
                try simp only [Act.put, List.setIfInBounds_toArray, List.set_cons_zero, List.set_cons_succ]
                refine call_h 2 rfl (by kernel_rfl) 20 #[.agg CA.toArray, .agg CD.toArray] (by kernel_rfl) (by go_simp) ?_
                refine (HCl.out U).mono ?_
                rintro e U1 ⟨rfl, hb1⟩
                refine ⟨_, rfl, ⟨rangeAt_below' hHeld.1 hb1, rangeAt_below' hHeld.2.1 hb1, cell_below' hb1 hHeld.2.2⟩, fun hHeld2 => ?_⟩
                try simp only [Act.put, List.setIfInBounds_toArray, List.set_cons_zero, List.set_cons_succ]
                have HU1 := Seal.mk (HU.out.trans (hb1.mono HU.out.size))
                clear hb1 hHeld
                refine take_h 3 ?_ rfl (by kernel_rfl) (by kernel_rfl) (by kernel_rfl) (fun _ _ _ h => h) (Or.inl ⟨by kernel_rfl, ?_⟩) (by assumption) ?_
                rotate_left
                · (intro w hSw; (try dsimp only at hSw); go_simp; try (with_reducible rfl))
                try simp only [Act.put, List.setIfInBounds_toArray, List.set_cons_zero, List.set_cons_succ]
                refine take_h 4 ?_ rfl (by kernel_rfl) (by kernel_rfl) (by kernel_rfl) (fun _ _ _ h => h) (Or.inl ⟨by kernel_rfl, ?_⟩) (by assumption) ?_
                rotate_left
                · (intro w hSw; (try dsimp only at hSw); go_simp; try (with_reducible rfl))
                try simp only [Act.put, List.setIfInBounds_toArray, List.set_cons_zero, List.set_cons_succ]
                refine take_h 5 ?_ rfl (by kernel_rfl) (by kernel_rfl) (by kernel_rfl) (fun _ _ _ h => h) (Or.inl ⟨by kernel_rfl, ?_⟩) (by assumption) ?_
                rotate_left
                · (intro w hSw; (try dsimp only at hSw); go_simp; try (with_reducible rfl))
                try simp only [Act.put, List.setIfInBounds_toArray, List.set_cons_zero, List.set_cons_succ]
                refine take_h 6 ?_ rfl (by kernel_rfl) (by kernel_rfl) (by kernel_rfl) (fun _ _ _ h => h) (Or.inl ⟨by kernel_rfl, ?_⟩) (by assumption) ?_
                rotate_left
                · (intro w hSw; (try dsimp only at hSw); go_simp; try (with_reducible rfl))
                try simp only [Act.put, List.setIfInBounds_toArray, List.set_cons_zero, List.set_cons_succ]
                refine take_h 7 ?_ rfl (by kernel_rfl) (by kernel_rfl) (by kernel_rfl) (fun _ _ _ h => h) (Or.inl ⟨by kernel_rfl, ?_⟩) (by assumption) ?_
                rotate_left
                · (intro w hSw; (try dsimp only at hSw); go_simp; try (with_reducible rfl))
                try simp only [Act.put, List.setIfInBounds_toArray, List.set_cons_zero, List.set_cons_succ]
                refine take_h 8 ?_ rfl (by kernel_rfl) (by kernel_rfl) (by kernel_rfl) (fun _ _ _ h => h) (Or.inl ⟨by kernel_rfl, ?_⟩) (by assumption) ?_
                rotate_left
                · (intro w hSw; (try dsimp only at hSw); go_simp; try (with_reducible rfl))
                try simp only [Act.put, List.setIfInBounds_toArray, List.set_cons_zero, List.set_cons_succ]
                refine take_h 9 ?_ rfl (by kernel_rfl) (by kernel_rfl) (by kernel_rfl) (fun _ _ _ h => h) (Or.inl ⟨by kernel_rfl, ?_⟩) (by assumption) ?_
                rotate_left
                · (intro w hSw; (try dsimp only at hSw); go_simp; try (with_reducible rfl))
                try simp only [Act.put, List.setIfInBounds_toArray, List.set_cons_zero, List.set_cons_succ]
                refine take_h 10 ?_ rfl (by kernel_rfl) (by kernel_rfl) (by kernel_rfl) (fun _ _ _ h => h) (Or.inl ⟨by kernel_rfl, ?_⟩) (by assumption) ?_
                rotate_left
                · (intro w hSw; (try dsimp only at hSw); go_simp; try (with_reducible rfl))
                try simp only [Act.put, List.setIfInBounds_toArray, List.set_cons_zero, List.set_cons_succ]
                refine take_h 11 ?_ rfl (by kernel_rfl) (by kernel_rfl) (by kernel_rfl) (fun _ _ _ h => h) (Or.inl ⟨by kernel_rfl, ?_⟩) (by assumption) ?_
                rotate_left
                · (intro w hSw; (try dsimp only at hSw); go_simp; try (with_reducible rfl))
                try simp only [Act.put, List.setIfInBounds_toArray, List.set_cons_zero, List.set_cons_succ]
                refine take_h 12 ?_ rfl (by kernel_rfl) (by kernel_rfl) (by kernel_rfl) (fun _ _ _ h => h) (Or.inl ⟨by kernel_rfl, ?_⟩) (by assumption) ?_
                rotate_left
                · (intro w hSw; (try dsimp only at hSw); go_simp; try (with_reducible rfl))
                try simp only [Act.put, List.setIfInBounds_toArray, List.set_cons_zero, List.set_cons_succ]
                refine take_h 13 ?_ rfl (by kernel_rfl) (by kernel_rfl) (by kernel_rfl) (fun _ _ _ h => h) (Or.inl ⟨by kernel_rfl, ?_⟩) (by assumption) ?_
                rotate_left
                · (intro w hSw; (try dsimp only at hSw); go_simp; try (with_reducible rfl))
                try simp only [Act.put, List.setIfInBounds_toArray, List.set_cons_zero, List.set_cons_succ]
                refine take_h 14 ?_ rfl (by kernel_rfl) (by kernel_rfl) (by kernel_rfl) (fun _ _ _ h => h) (Or.inl ⟨by kernel_rfl, ?_⟩) (by assumption) ?_
                rotate_left
                · (intro w hSw; (try dsimp only at hSw); go_simp; try (with_reducible rfl))
                try simp only [Act.put, List.setIfInBounds_toArray, List.set_cons_zero, List.set_cons_succ]
                refine take_h 15 ?_ rfl (by kernel_rfl) (by kernel_rfl) (by kernel_rfl) (fun _ _ _ h => h) (Or.inl ⟨by kernel_rfl, ?_⟩) (by assumption) ?_
                rotate_left
                · (intro w hSw; (try dsimp only at hSw); go_simp; try (with_reducible rfl))
                try simp only [Act.put, List.setIfInBounds_toArray, List.set_cons_zero, List.set_cons_succ]
                refine take_h 16 ?_ rfl (by kernel_rfl) (by kernel_rfl) (by kernel_rfl) (fun _ _ _ h => h) (Or.inl ⟨by kernel_rfl, ?_⟩) (by assumption) ?_
                rotate_left
                · (intro w hSw; (try dsimp only at hSw); go_simp; try (with_reducible rfl))
                try simp only [Act.put, List.setIfInBounds_toArray, List.set_cons_zero, List.set_cons_succ]
                refine take_h 17 undef rfl (by kernel_rfl) (by kernel_rfl) (by kernel_rfl) (fun _ _ _ h => h) (Or.inr ⟨by kernel_rfl, rfl⟩) (by assumption) ?_
                try simp only [Act.put, List.setIfInBounds_toArray, List.set_cons_zero, List.set_cons_succ]
                refine take_h 18 undef rfl (by kernel_rfl) (by kernel_rfl) (by kernel_rfl) (fun _ _ _ h => h) (Or.inr ⟨by kernel_rfl, rfl⟩) (by assumption) ?_
                try simp only [Act.put, List.setIfInBounds_toArray, List.set_cons_zero, List.set_cons_succ]
                refine take_h 19 undef rfl (by kernel_rfl) (by kernel_rfl) (by kernel_rfl) (fun _ _ _ h => h) (Or.inr ⟨by kernel_rfl, rfl⟩) (by assumption) ?_
                try simp only [Act.put, List.setIfInBounds_toArray, List.set_cons_zero, List.set_cons_succ]
                refine take_h 20 undef rfl (by kernel_rfl) (by kernel_rfl) (by kernel_rfl) (fun _ _ _ h => h) (Or.inr ⟨by kernel_rfl, rfl⟩) (by assumption) ?_
                try simp only [Act.put, List.setIfInBounds_toArray, List.set_cons_zero, List.set_cons_succ]
                refine take_h 21 undef rfl (by kernel_rfl) (by kernel_rfl) (by kernel_rfl) (fun _ _ _ h => h) (Or.inr ⟨by kernel_rfl, rfl⟩) (by assumption) ?_
                try simp only [Act.put, List.setIfInBounds_toArray, List.set_cons_zero, List.set_cons_succ]
                refine take_h 22 undef rfl (by kernel_rfl) (by kernel_rfl) (by kernel_rfl) (fun _ _ _ h => h) (Or.inr ⟨by kernel_rfl, rfl⟩) (by assumption) ?_
                try simp only [Act.put, List.setIfInBounds_toArray, List.set_cons_zero, List.set_cons_succ]
                refine take_h 23 undef rfl (by kernel_rfl) (by kernel_rfl) (by kernel_rfl) (fun _ _ _ h => h) (Or.inr ⟨by kernel_rfl, rfl⟩) (by assumption) ?_
                try simp only [Act.put, List.setIfInBounds_toArray, List.set_cons_zero, List.set_cons_succ]
                refine take_h 24 undef rfl (by kernel_rfl) (by kernel_rfl) (by kernel_rfl) (fun _ _ _ h => h) (Or.inr ⟨by kernel_rfl, rfl⟩) (by assumption) ?_
                try simp only [Act.put, List.setIfInBounds_toArray, List.set_cons_zero, List.set_cons_succ]
                refine take_h 25 ?_ rfl (by kernel_rfl) (by kernel_rfl) (by kernel_rfl) (fun _ _ _ h => h) (Or.inl ⟨by kernel_rfl, ?_⟩) (by assumption) ?_
                rotate_left
                · (intro w hSw; (try dsimp only at hSw); go_simp; try (with_reducible rfl))
                try simp only [Act.put, List.setIfInBounds_toArray, List.set_cons_zero, List.set_cons_succ]
                refine take_h 26 ?_ rfl (by kernel_rfl) (by kernel_rfl) (by kernel_rfl) (fun _ _ _ h => h) (Or.inl ⟨by kernel_rfl, ?_⟩) (by assumption) ?_
                rotate_left
                · (intro w hSw; (try dsimp only at hSw); go_simp; try (with_reducible rfl))
                try simp only [Act.put, List.setIfInBounds_toArray, List.set_cons_zero, List.set_cons_succ]
                refine take_h 27 undef rfl (by kernel_rfl) (by kernel_rfl) (by kernel_rfl) (fun _ _ _ h => h) (Or.inr ⟨by kernel_rfl, rfl⟩) (by assumption) ?_
                try simp only [Act.put, List.setIfInBounds_toArray, List.set_cons_zero, List.set_cons_succ]
                refine take_h 28 undef rfl (by kernel_rfl) (by kernel_rfl) (by kernel_rfl) (fun _ _ _ h => h) (Or.inr ⟨by kernel_rfl, rfl⟩) (by assumption) ?_
                try simp only [Act.put, List.setIfInBounds_toArray, List.set_cons_zero, List.set_cons_succ]
                refine take_h 29 undef rfl (by kernel_rfl) (by kernel_rfl) (by kernel_rfl) (fun _ _ _ h => h) (Or.inr ⟨by kernel_rfl, rfl⟩) (by assumption) ?_
                try simp only [Act.put, List.setIfInBounds_toArray, List.set_cons_zero, List.set_cons_succ]
                refine take_h 30 undef rfl (by kernel_rfl) (by kernel_rfl) (by kernel_rfl) (fun _ _ _ h => h) (Or.inr ⟨by kernel_rfl, rfl⟩) (by assumption) ?_
                try simp only [Act.put, List.setIfInBounds_toArray, List.set_cons_zero, List.set_cons_succ]
                refine take_h 31 undef rfl (by kernel_rfl) (by kernel_rfl) (by kernel_rfl) (fun _ _ _ h => h) (Or.inr ⟨by kernel_rfl, rfl⟩) (by assumption) ?_
                try simp only [Act.put, List.setIfInBounds_toArray, List.set_cons_zero, List.set_cons_succ]
                refine take_h 32 undef rfl (by kernel_rfl) (by kernel_rfl) (by kernel_rfl) (fun _ _ _ h => h) (Or.inr ⟨by kernel_rfl, rfl⟩) (by assumption) ?_
                try simp only [Act.put, List.setIfInBounds_toArray, List.set_cons_zero, List.set_cons_succ]
                refine take_h 33 undef rfl (by kernel_rfl) (by kernel_rfl) (by kernel_rfl) (fun _ _ _ h => h) (Or.inr ⟨by kernel_rfl, rfl⟩) (by assumption) ?_
                try simp only [Act.put, List.setIfInBounds_toArray, List.set_cons_zero, List.set_cons_succ]
                refine take_h 34 undef rfl (by kernel_rfl) (by kernel_rfl) (by kernel_rfl) (fun _ _ _ h => h) (Or.inr ⟨by kernel_rfl, rfl⟩) (by assumption) ?_
                try simp only [Act.put, List.setIfInBounds_toArray, List.set_cons_zero, List.set_cons_succ]
                refine take_h 35 ?_ rfl (by kernel_rfl) (by kernel_rfl) (by kernel_rfl) (fun _ _ _ h => h) (Or.inl ⟨by kernel_rfl, ?_⟩) (by assumption) ?_
                rotate_left
                · (intro w hSw; (try dsimp only at hSw); go_simp; try (with_reducible rfl))
                try simp only [Act.put, List.setIfInBounds_toArray, List.set_cons_zero, List.set_cons_succ]
                refine wpAnyH_done (by kernel_rfl) ?_ _
                go_wp2
                go_ret
                exact ⟨rfl, HBw.out.trans (HU1.out.mono HBw.out.size)⟩
            · have z1 : (fr < 0) = True := by simp; omega
              refine wp_region_held_drew (S := fun w' => w'.rangeAt gA 0 CA ∧ w'.rangeAt gD 0 CD ∧ w'.cell? ⟨gA, 4, none⟩ = some (.int .i64 fr)) (by kernel_rfl) ⟨rA, rD, cA⟩ (fun hHeld => ?_)
              clear h1
              obtain ⟨U, hV⟩ : ∃ Z, Z = V2.drew := ⟨_, rfl⟩
              have HU : Seal (Below V2.heap.size V2 U) := ⟨by rw [hV]; exact below_drewn _⟩
              rw [← hV] at hHeld ⊢
              clear hV rA rD cA
              refine take_h 0 _ rfl (by kernel_rfl) (by kernel_rfl) (by kernel_rfl) (fun _ _ _ h => h) (yieldsIf_load_mid (by kernel_rfl) 29 (.tmp 16) rfl gA 0 rfl CA _ (fun w hSw => hSw.1) uH rfl iA) (by assumption) ?_
              try simp only [Act.put, List.setIfInBounds_toArray, List.set_cons_zero, List.set_cons_succ]
              refine take_h 1 _ rfl (by kernel_rfl) (by kernel_rfl) (by kernel_rfl) (fun _ _ _ h => h) (yieldsIf_load_mid (by kernel_rfl) 29 (.tmp 17) rfl gD 0 rfl CD _ (fun w hSw => hSw.2.1) uH rfl iD) (by assumption) ?_
              try simp only [Act.put, List.setIfInBounds_toArray, List.set_cons_zero, List.set_cons_succ]
              refine call_h 2 rfl (by kernel_rfl) 20 #[.agg CA.toArray, .agg CD.toArray] (by kernel_rfl) (by go_simp) ?_
              refine (HCl.out U).mono ?_
              rintro e U1 ⟨rfl, hb1⟩
              refine ⟨_, rfl, ⟨rangeAt_below' hHeld.1 hb1, rangeAt_below' hHeld.2.1 hb1, cell_below' hb1 hHeld.2.2⟩, fun hHeld2 => ?_⟩
              try simp only [Act.put, List.setIfInBounds_toArray, List.set_cons_zero, List.set_cons_succ]
              have HU1 := Seal.mk (HU.out.trans (hb1.mono HU.out.size))
              clear hb1 hHeld
              refine take_h 3 ?_ rfl (by kernel_rfl) (by kernel_rfl) (by kernel_rfl) (fun _ _ _ h => h) (Or.inl ⟨by kernel_rfl, ?_⟩) (by assumption) ?_
              rotate_left
              · (intro w hSw; (try dsimp only at hSw); go_simp; try (with_reducible rfl))
              try simp only [Act.put, List.setIfInBounds_toArray, List.set_cons_zero, List.set_cons_succ]
              refine take_h 4 ?_ rfl (by kernel_rfl) (by kernel_rfl) (by kernel_rfl) (fun _ _ _ h => h) (Or.inl ⟨by kernel_rfl, ?_⟩) (by assumption) ?_
              rotate_left
              · (intro w hSw; (try dsimp only at hSw); go_simp; try (with_reducible rfl))
              try simp only [Act.put, List.setIfInBounds_toArray, List.set_cons_zero, List.set_cons_succ]
              refine take_h 5 ?_ rfl (by kernel_rfl) (by kernel_rfl) (by kernel_rfl) (fun _ _ _ h => h) (Or.inl ⟨by kernel_rfl, ?_⟩) (by assumption) ?_
              rotate_left
              · (intro w hSw; (try dsimp only at hSw); go_simp; try (with_reducible rfl))
              try simp only [Act.put, List.setIfInBounds_toArray, List.set_cons_zero, List.set_cons_succ]
              refine take_h 6 ?_ rfl (by kernel_rfl) (by kernel_rfl) (by kernel_rfl) (fun _ _ _ h => h) (Or.inl ⟨by kernel_rfl, ?_⟩) (by assumption) ?_
              rotate_left
              · (intro w hSw; (try dsimp only at hSw); go_simp; try (with_reducible rfl))
              try simp only [Act.put, List.setIfInBounds_toArray, List.set_cons_zero, List.set_cons_succ]
              refine take_h 7 ?_ rfl (by kernel_rfl) (by kernel_rfl) (by kernel_rfl) (fun _ _ _ h => h) (Or.inl ⟨by kernel_rfl, ?_⟩) (by assumption) ?_
              rotate_left
              · (intro w hSw; (try dsimp only at hSw); go_simp; try (with_reducible rfl))
              try simp only [Act.put, List.setIfInBounds_toArray, List.set_cons_zero, List.set_cons_succ]
              refine take_h 8 ?_ rfl (by kernel_rfl) (by kernel_rfl) (by kernel_rfl) (fun _ _ _ h => h) (Or.inl ⟨by kernel_rfl, ?_⟩) (by assumption) ?_
              rotate_left
              · (intro w hSw; (try dsimp only at hSw); go_simp; try (with_reducible rfl))
              try simp only [Act.put, List.setIfInBounds_toArray, List.set_cons_zero, List.set_cons_succ]
              refine take_h 9 ?_ rfl (by kernel_rfl) (by kernel_rfl) (by kernel_rfl) (fun _ _ _ h => h) (Or.inl ⟨by kernel_rfl, ?_⟩) (by assumption) ?_
              rotate_left
              · (intro w hSw; (try dsimp only at hSw); go_simp; try (with_reducible rfl))
              try simp only [Act.put, List.setIfInBounds_toArray, List.set_cons_zero, List.set_cons_succ]
              refine take_h 10 undef rfl (by kernel_rfl) (by kernel_rfl) (by kernel_rfl) (fun _ _ _ h => h) (Or.inr ⟨by kernel_rfl, rfl⟩) (by assumption) ?_
              try simp only [Act.put, List.setIfInBounds_toArray, List.set_cons_zero, List.set_cons_succ]
              refine take_h 11 undef rfl (by kernel_rfl) (by kernel_rfl) (by kernel_rfl) (fun _ _ _ h => h) (Or.inr ⟨by kernel_rfl, rfl⟩) (by assumption) ?_
              try simp only [Act.put, List.setIfInBounds_toArray, List.set_cons_zero, List.set_cons_succ]
              refine take_h 12 undef rfl (by kernel_rfl) (by kernel_rfl) (by kernel_rfl) (fun _ _ _ h => h) (Or.inr ⟨by kernel_rfl, rfl⟩) (by assumption) ?_
              try simp only [Act.put, List.setIfInBounds_toArray, List.set_cons_zero, List.set_cons_succ]
              refine take_h 13 undef rfl (by kernel_rfl) (by kernel_rfl) (by kernel_rfl) (fun _ _ _ h => h) (Or.inr ⟨by kernel_rfl, rfl⟩) (by assumption) ?_
              try simp only [Act.put, List.setIfInBounds_toArray, List.set_cons_zero, List.set_cons_succ]
              refine take_h 14 undef rfl (by kernel_rfl) (by kernel_rfl) (by kernel_rfl) (fun _ _ _ h => h) (Or.inr ⟨by kernel_rfl, rfl⟩) (by assumption) ?_
              try simp only [Act.put, List.setIfInBounds_toArray, List.set_cons_zero, List.set_cons_succ]
              refine take_h 15 ?_ rfl (by kernel_rfl) (by kernel_rfl) (by kernel_rfl) (fun _ _ _ h => h) (Or.inl ⟨by kernel_rfl, ?_⟩) (by assumption) ?_
              rotate_left
              · (intro w hSw; (try dsimp only at hSw); go_simp; try (with_reducible rfl))
              try simp only [Act.put, List.setIfInBounds_toArray, List.set_cons_zero, List.set_cons_succ]
              refine take_h 16 ?_ rfl (by kernel_rfl) (by kernel_rfl) (by kernel_rfl) (fun _ _ _ h => h) (Or.inl ⟨by kernel_rfl, ?_⟩) (by assumption) ?_
              rotate_left
              · (intro w hSw; (try dsimp only at hSw); go_simp; try (with_reducible rfl))
              try simp only [Act.put, List.setIfInBounds_toArray, List.set_cons_zero, List.set_cons_succ]
              refine take_h 17 undef rfl (by kernel_rfl) (by kernel_rfl) (by kernel_rfl) (fun _ _ _ h => h) (Or.inr ⟨by kernel_rfl, rfl⟩) (by assumption) ?_
              try simp only [Act.put, List.setIfInBounds_toArray, List.set_cons_zero, List.set_cons_succ]
              refine take_h 18 undef rfl (by kernel_rfl) (by kernel_rfl) (by kernel_rfl) (fun _ _ _ h => h) (Or.inr ⟨by kernel_rfl, rfl⟩) (by assumption) ?_
              try simp only [Act.put, List.setIfInBounds_toArray, List.set_cons_zero, List.set_cons_succ]
              refine take_h 19 undef rfl (by kernel_rfl) (by kernel_rfl) (by kernel_rfl) (fun _ _ _ h => h) (Or.inr ⟨by kernel_rfl, rfl⟩) (by assumption) ?_
              try simp only [Act.put, List.setIfInBounds_toArray, List.set_cons_zero, List.set_cons_succ]
              refine take_h 20 undef rfl (by kernel_rfl) (by kernel_rfl) (by kernel_rfl) (fun _ _ _ h => h) (Or.inr ⟨by kernel_rfl, rfl⟩) (by assumption) ?_
              try simp only [Act.put, List.setIfInBounds_toArray, List.set_cons_zero, List.set_cons_succ]
              refine take_h 21 undef rfl (by kernel_rfl) (by kernel_rfl) (by kernel_rfl) (fun _ _ _ h => h) (Or.inr ⟨by kernel_rfl, rfl⟩) (by assumption) ?_
              try simp only [Act.put, List.setIfInBounds_toArray, List.set_cons_zero, List.set_cons_succ]
              refine take_h 22 undef rfl (by kernel_rfl) (by kernel_rfl) (by kernel_rfl) (fun _ _ _ h => h) (Or.inr ⟨by kernel_rfl, rfl⟩) (by assumption) ?_
              try simp only [Act.put, List.setIfInBounds_toArray, List.set_cons_zero, List.set_cons_succ]
              refine take_h 23 undef rfl (by kernel_rfl) (by kernel_rfl) (by kernel_rfl) (fun _ _ _ h => h) (Or.inr ⟨by kernel_rfl, rfl⟩) (by assumption) ?_
              try simp only [Act.put, List.setIfInBounds_toArray, List.set_cons_zero, List.set_cons_succ]
              refine take_h 24 undef rfl (by kernel_rfl) (by kernel_rfl) (by kernel_rfl) (fun _ _ _ h => h) (Or.inr ⟨by kernel_rfl, rfl⟩) (by assumption) ?_
              try simp only [Act.put, List.setIfInBounds_toArray, List.set_cons_zero, List.set_cons_succ]
              refine take_h 25 ?_ rfl (by kernel_rfl) (by kernel_rfl) (by kernel_rfl) (fun _ _ _ h => h) (Or.inl ⟨by kernel_rfl, ?_⟩) (by assumption) ?_
              rotate_left
              · (intro w hSw; (try dsimp only at hSw); go_simp; try (with_reducible rfl))
              try simp only [Act.put, List.setIfInBounds_toArray, List.set_cons_zero, List.set_cons_succ]
              refine take_h 26 ?_ rfl (by kernel_rfl) (by kernel_rfl) (by kernel_rfl) (fun _ _ _ h => h) (Or.inl ⟨by kernel_rfl, ?_⟩) (by assumption) ?_
              rotate_left
              · (intro w hSw; (try dsimp only at hSw); go_simp; try (with_reducible rfl))
              try simp only [Act.put, List.setIfInBounds_toArray, List.set_cons_zero, List.set_cons_succ]
              refine take_h 27 undef rfl (by kernel_rfl) (by kernel_rfl) (by kernel_rfl) (fun _ _ _ h => h) (Or.inr ⟨by kernel_rfl, rfl⟩) (by assumption) ?_
              try simp only [Act.put, List.setIfInBounds_toArray, List.set_cons_zero, List.set_cons_succ]
              refine take_h 28 undef rfl (by kernel_rfl) (by kernel_rfl) (by kernel_rfl) (fun _ _ _ h => h) (Or.inr ⟨by kernel_rfl, rfl⟩) (by assumption) ?_
              try simp only [Act.put, List.setIfInBounds_toArray, List.set_cons_zero, List.set_cons_succ]
              refine take_h 29 undef rfl (by kernel_rfl) (by kernel_rfl) (by kernel_rfl) (fun _ _ _ h => h) (Or.inr ⟨by kernel_rfl, rfl⟩) (by assumption) ?_
              try simp only [Act.put, List.setIfInBounds_toArray, List.set_cons_zero, List.set_cons_succ]
              refine take_h 30 undef rfl (by kernel_rfl) (by kernel_rfl) (by kernel_rfl) (fun _ _ _ h => h) (Or.inr ⟨by kernel_rfl, rfl⟩) (by assumption) ?_
              try simp only [Act.put, List.setIfInBounds_toArray, List.set_cons_zero, List.set_cons_succ]
              refine take_h 31 undef rfl (by kernel_rfl) (by kernel_rfl) (by kernel_rfl) (fun _ _ _ h => h) (Or.inr ⟨by kernel_rfl, rfl⟩) (by assumption) ?_
              try simp only [Act.put, List.setIfInBounds_toArray, List.set_cons_zero, List.set_cons_succ]
              refine take_h 32 undef rfl (by kernel_rfl) (by kernel_rfl) (by kernel_rfl) (fun _ _ _ h => h) (Or.inr ⟨by kernel_rfl, rfl⟩) (by assumption) ?_
              try simp only [Act.put, List.setIfInBounds_toArray, List.set_cons_zero, List.set_cons_succ]
              refine take_h 33 undef rfl (by kernel_rfl) (by kernel_rfl) (by kernel_rfl) (fun _ _ _ h => h) (Or.inr ⟨by kernel_rfl, rfl⟩) (by assumption) ?_
              try simp only [Act.put, List.setIfInBounds_toArray, List.set_cons_zero, List.set_cons_succ]
              refine take_h 34 undef rfl (by kernel_rfl) (by kernel_rfl) (by kernel_rfl) (fun _ _ _ h => h) (Or.inr ⟨by kernel_rfl, rfl⟩) (by assumption) ?_
              try simp only [Act.put, List.setIfInBounds_toArray, List.set_cons_zero, List.set_cons_succ]
              refine take_h 35 ?_ rfl (by kernel_rfl) (by kernel_rfl) (by kernel_rfl) (fun _ _ _ h => h) (Or.inl ⟨by kernel_rfl, ?_⟩) (by assumption) ?_
              rotate_left
              · (intro w hSw; (try dsimp only at hSw); go_simp; try (with_reducible rfl))
              try simp only [Act.put, List.setIfInBounds_toArray, List.set_cons_zero, List.set_cons_succ]
              refine wpAnyH_done (by kernel_rfl) ?_ _
              go_wp2
              go_ret
              exact ⟨rfl, HBw.out.trans (HU1.out.mono HBw.out.size)⟩

theorem law_copiesCaught (n c kn kc : Nat) (a ka : Option Addr) (l : List Hd) (ks : List Int) (ui uk : Int) (hui : 0 ≤ ui ∧ ui < 256) (huk : 0 ≤ uk ∧ uk < 256) (w : World) (hG : Glob w) (hk : kn ≤ 5000 → IsKs w ka kn kc ks) (hl : n ≤ 5000 → IsHs w a n c l) :
    Calls Tryd.prog 9 #[.slice ka kn kc, .slice a n c, .int .u8 ui, .int .u8 uk] w fun e w' => e = .returned (.bool true) ∧ Below w.heap.size w w' := by
  by_cases h : kn ≤ 30 ∧ n ≤ 16
  · by_cases h24 : 24 < kn
    · exact caught_over n c kn kc a ka l ks ui uk hui.1 hui.2 huk.1 huk.2 w hG (hl (by omega)) (hk (by omega)) h h24
    · exact caught_few n c kn kc a ka l ks ui uk hui.1 hui.2 huk.1 huk.2 w hG (hl (by omega)) (hk (by omega)) h (by omega)
  · exact caught_many n c kn kc a ka ui uk w hG h
end Frk

namespace Frk
open Go Go.RowKit Go.Proofs Go.ChangeShapes Go.WideShapes Go.ChangeAt
set_option maxRecDepth 100000

theorem keys_open {H : Type} {enc : TypeId × Value → H} {W : World} {base : Nat} {v : Value} {d : DataW H} {p : List MemPlace} (hval : Value.okWide Tryd.prog W .any base 65 v) (h1 : DataW.Trod enc Tryd.prog W 0 (fun _ => true) true 65 v d p) :
    ∃ a len cap l, v = .slice a len cap ∧ (len : Int) ≤ 9223372036854775807 ∧ (len ≤ 5000 → IsKs W a len cap l) := by
  obtain ⟨a1, len, cap, rfl⟩ := okWide_slice Tryd.underlying65 hval
  obtain ⟨fuel, hf⟩ := h1
  have c1 : Tryd.prog.cellsOf 3 = 1 := by kernel_rfl
  rcases open_ints Tryd.underlying65 Tryd.underlying3 c1 hf with ⟨hcs, hx⟩ | ⟨a, len', cap', zs, hcs, _, hl, hm, hz, hx, hcell, hwz⟩
  · simp [Value.cells] at hcs
    obtain ⟨rfl, rfl, rfl⟩ := hcs
    exact ⟨none, 0, 0, [], rfl, by decide, fun _ => ⟨rfl, Nat.le_refl _, by decide, by decide, .inl rfl⟩⟩
  · simp [Value.cells] at hcs
    obtain ⟨rfl, rfl, rfl⟩ := hcs
    simp only [if_true] at hz
    unfold maxLen at hm
    have hlen : (zs.take len).length = len := by simp; omega
    refine ⟨some a, len, cap, zs.take len, rfl, by omega, fun h40 => ⟨hlen, hl, h40, by omega, ?_⟩⟩
    rcases Nat.eq_zero_or_pos len with h0 | h0
    · exact .inl h0
    · right
      obtain ⟨ab, ao, spot⟩ := a
      have hspot : spot = none := by simpa [Addr.add] using World.cell?_spot (hcell 0 (by omega))
      subst hspot
      refine ⟨ab, ao, rfl, fun j u hu => ?_, ?_⟩
      · have hj : j < len := by have := (List.getElem?_eq_some_iff.1 hu).1; rw [List.length_map, hlen] at this; exact this
        have hcj := hcell j (by omega)
        rw [Addr.add_lit] at hcj
        rw [hcj, ← hu, List.getElem?_map, List.getElem?_take, if_pos hj, List.getElem?_eq_getElem (show j < zs.length by omega)]
        have e : zs.getD j 0 = zs[j]'(by omega) := by simp [List.getD_eq_getElem?_getD, List.getElem?_eq_getElem (show j < zs.length by omega)]
        rw [e]
        rfl
      · have hc0 := hcell 0 (by omega)
        rw [Addr.add_lit] at hc0
        exact block_lt_of_cell hc0

theorem u8_open {H : Type} {enc : TypeId × Value → H} {W : World} {base : Nat} {v : Value} {d : DataW H} {p : List MemPlace} (hval : Value.okWide Tryd.prog W .any base 5 v) (h1 : DataW.Trod enc Tryd.prog W 0 (fun _ => true) true 5 v d p) :
    ∃ x, v = .int .u8 x ∧ 0 ≤ x ∧ x < 256 := by
  obtain ⟨x, rfl, _, _, hw⟩ := open_int Tryd.underlying5 hval h1
  refine ⟨x, rfl, ?_⟩
  simp [Lit.wf] at hw
  have h1 : IntKind.u8.min = 0 := by decide
  have h2 : IntKind.u8.max = 255 := by decide
  omega

theorem hflat_len : ∀ (l : List Hd), (∀ h ∈ l, h.ok) → (l.flatMap Hd.C).length = l.length * 42
  | [], _ => rfl
  | s :: l, h => by
    have h1 := Hd.C_len (h s (by simp)).t32
    have h2 := hflat_len l (fun s hs => h s (by simp [hs]))
    rw [List.flatMap_cons, List.length_append, h1, h2, List.length_cons]
    omega

theorem hands_open {H : Type} {enc : TypeId × Value → H} {W : World} {base : Nat} {v : Value} {d : DataW H} {p : List MemPlace} (hval : Value.okWide Tryd.prog W .any base 66 v) (h1 : DataW.Trod enc Tryd.prog W 0 (fun _ => true) true 66 v d p) :
    ∃ a len cap l, v = .slice a len cap ∧ (len : Int) ≤ 9223372036854775807 ∧ (len ≤ 5000 → IsHs W a len cap l) := by
  obtain ⟨a1, len, cap, rfl⟩ := okWide_slice Tryd.underlying66 hval
  obtain ⟨fuel, hf⟩ := h1
  have c1 : Tryd.prog.cellsOf 29 = 42 := by kernel_rfl
  rcases DataW.trod_slice Tryd.underlying66 hf with ⟨hcs, hx⟩ | ⟨a, len', cap', elems, rest, n, hn, hcs, hx, hb, hl, hm, hel, hat, hsp, _⟩
  · simp [Value.cells] at hcs
    obtain ⟨rfl, rfl, rfl⟩ := hcs
    exact ⟨none, 0, 0, [], rfl, by decide, fun _ => ⟨rfl, Nat.le_refl _, by decide, by decide, by simp, .inl rfl⟩⟩
  · simp [Value.cells] at hcs
    obtain ⟨rfl, rfl, rfl⟩ := hcs
    rw [c1] at hat hsp
    obtain ⟨hrl, hrest⟩ := hsp rfl
    unfold maxLen at hm
    have hall : ∀ i, i < cap → ∃ T : Hd, T.ok ∧ W.cells? 0 (a.add (i * 42)) 42 = some T.C := fun i hi => by
      have key : ∃ e, (W.cells? 0 (a.add (i * 42)) 42).bind (DataW.trod enc Tryd.prog W 0 (fun _ => true) true n 29) = some e := by
        by_cases h : i < len
        · exact ⟨_, (hat i h).trans (List.getElem?_eq_getElem (by omega))⟩
        · have := hrest (i - len) (by omega)
          rw [show len + (i - len) = i from by omega] at this
          exact ⟨_, this.trans (List.getElem?_eq_getElem (by omega))⟩
      obtain ⟨e, he⟩ := key
      obtain ⟨cs, h1, h2⟩ := Option.bind_eq_some_iff.1 he
      obtain ⟨T, rfl, hT⟩ := cells_hand h2
      exact ⟨T, hT, h1⟩
    have hrow : ∀ m, m ≤ len → ∃ l : List Hd, l.length = m ∧ (∀ d ∈ l, d.ok) ∧ ∀ j u, (l.flatMap Hd.C)[j]? = some u → W.cell? (a.add j) = some u := by
      intro m
      induction m with
      | zero => exact fun _ => ⟨[], rfl, by simp, fun j u h => by simp at h⟩
      | succ m ih =>
        intro hm'
        obtain ⟨l, h1, h2, h3⟩ := ih (by omega)
        obtain ⟨T, hT, hc⟩ := hall m (by omega)
        refine ⟨l ++ [T], by simp [h1], ?_, fun j u hj => ?_⟩
        · intro d hd
          rcases List.mem_append.1 hd with h | h
          · exact h2 d h
          · rw [List.mem_singleton.1 h]; exact hT
        · rw [List.flatMap_append, show [T].flatMap Hd.C = T.C from by simp] at hj
          have hdl := hflat_len l h2
          by_cases hjl : j < m * 42
          · rw [List.getElem?_append_left (by omega)] at hj
            exact h3 j u hj
          · rw [List.getElem?_append_right (by omega), hdl, h1] at hj
            have hj32 : j - m * 42 < 42 := by have := (List.getElem?_eq_some_iff.1 hj).1; rwa [Hd.C_len hT.t32] at this
            have := (World.cells?_some hc).2.2 (j - m * 42) hj32
            rw [hj] at this
            rw [Addr.add_add, show m * 42 + (j - m * 42) = j from by omega] at this
            exact this
    obtain ⟨l, hl1, hl2, hl3⟩ := hrow len (Nat.le_refl _)
    have hspot : 0 < cap → a = ⟨a.block, a.off, none⟩ := fun h => by
      obtain ⟨T, hT, hc⟩ := hall 0 h
      have h0 := (World.cells?_some hc).2.2 0 (by decide)
      rw [List.getElem?_eq_getElem (show 0 < T.C.length by rw [Hd.C_len hT.t32]; decide)] at h0
      obtain ⟨ab, ao, spot⟩ := a
      have hspot : spot = none := by simpa [Addr.add] using World.cell?_spot h0
      rw [hspot]
    refine ⟨some a, len, cap, l, rfl, by omega, fun h40 => ⟨hl1, hl, h40, by omega, hl2, ?_⟩⟩
    rcases Nat.eq_zero_or_pos len with h0 | h0
    · exact .inl h0
    · right
      have ea := hspot (by omega)
      obtain ⟨T, hT, hc⟩ := hall 0 (by omega)
      refine ⟨a.block, a.off, by rw [← ea], fun j u hu => ?_, ?_⟩
      · have := hl3 j u hu
        rw [ea, Addr.add_mid] at this
        exact this
      · have h0 := (World.cells?_some hc).2.2 0 (by decide)
        rw [List.getElem?_eq_getElem (show 0 < T.C.length by rw [Hd.C_len hT.t32]; decide), ea, Addr.add_add, Addr.add_mid] at h0
        have := block_lt_of_cell h0
        exact this
end Frk

namespace Go.Proofs.YtkkkfkefbjpmaaaDoor
open Go Go.RowKit Go.Proofs Go.ChangeShapes Go.WideShapes Go.ChangeAt Frk
set_option maxRecDepth 100000

theorem lifted (os : Os) (started : os.Started) (H : Type) (enc : TypeId × Value → H) :
    ReturnsInHanded {} Tryd.checked os 9 .any (fun w args => (Rows.copiesCaughtSpec.pre enc Tryd.prog Tryd.f9 [] false w args ∧ laidMetH Tryd.prog laid w) ∧ sizedMet enc Tryd.prog Tryd.f9 (OpenSpec.ofChange Rows.copiesCaughtSpec) false w args)
      (Rows.copiesCaughtSpec.post enc Tryd.prog Tryd.f9 false true false false) := by
  refine returnsInHanded_of_change_and (C := Tryd.checked) (X := fun w _ => laidMetH Tryd.prog laid w) (fun _ _ _ hh h => h.of_heap hh) own started (by kernel_rfl) Tryd.func9
    (ChangeSpec.witness_shaped (enc := enc) (C := Tryd.checked) (os := os) (X := fun w _ => laidMetH Tryd.prog laid w) false (World.doorLaid Tryd.prog 400 os) #[.slice none 0 0, .slice none 0 0, .int .u8 0, .int .u8 0] 8 rfl (World.shaped_of_RefB (by kernel_rfl) (by kernel_rfl)) (by kernel_rfl) (by kernel_rfl) (by kernel_rfl) (door_met os _)) ?_
  intro W base args ds gs before hval0 hW _ _ hL _
  have hval : ∀ (j : Nat) t v, Tryd.f9.params[j]? = some t → args[j]? = some v → Value.okWide Tryd.prog W .any base t v := hval0
  have hW' := hW
  obtain ⟨p, q, hA0, hV, rfl, hfz, hnd⟩ := hW
  have hA : DataW.TrodAll enc Tryd.prog W 0 (fun _ => true) true Tryd.f9.params.toList args.toList ds p := hA0
  rw [Tryd.params9] at hA hval
  obtain ⟨args⟩ := args
  obtain ⟨v0, vs0, d0, ds0, p0, q0, e0, rfl, rfl, h0, hr0⟩ := trodAll_cons hA
  obtain ⟨v1, vs1, d1, ds1, p1, q1, e1, rfl, rfl, h1, hr1⟩ := trodAll_cons hr0
  obtain ⟨v2, vs2, d2, ds2, p2, q2, e2, rfl, rfl, h2, hr2⟩ := trodAll_cons hr1
  obtain ⟨v3, vs3, d3, ds3, p3, q3, e3, rfl, rfl, h3, hr3⟩ := trodAll_cons hr2
  obtain ⟨rfl, rfl, rfl⟩ := trodAll_nil hr3
  obtain rfl : args = [v0, v1, v2, v3] := by simpa [e1, e2, e3] using e0
  obtain ⟨a0, n0, c0, l0, rfl, m0, wx0⟩ := keys_open (hval 0 65 v0 rfl rfl) h0
  obtain ⟨a1, n1, c1, l1, rfl, m1, wx1⟩ := hands_open (hval 1 66 v1 rfl rfl) h1
  obtain ⟨x2, rfl, wx2⟩ := u8_open (hval 2 5 v2 rfl rfl) h2
  obtain ⟨x3, rfl, wx3⟩ := u8_open (hval 3 5 v3 rfl rfl) h3
  obtain ⟨rfl, rfl⟩ := trodVars_none hV
  have hG := glob_of_laid hL
  refine (law_copiesCaught n1 c1 n0 c0 a1 a0 l1 l0 x2 x3 wx2 wx3 W hG wx0 wx1).mono fun e W' ⟨he, hb⟩ => ?_
  subst he
  exact ⟨_, rfl, law_fin (by rw [Tryd.params9]; simp only [List.mem_cons, List.not_mem_nil, or_false]; intro t ht; rcases ht with rfl | rfl | rfl | rfl <;> exact ⟨by kernel_rfl, of_decide_eq_true (by kernel_rfl)⟩) (by kernel_rfl) rfl rfl hW' hb⟩

theorem copiesCaught_row : Rows.CopiesCaughtSaid :=
  OpenClaim.holds_of_wide 9 Tryd.f9 rfl rfl rfl rfl rfl rfl rfl ⟨rfl, rfl, rfl, rfl, rfl⟩ rfl rfl rfl rfl rfl (by kernel_rfl) Tryd.func9 (by kernel_rfl)
    (of_decide_eq_true (by kernel_rfl)) (by unfold Func.isWrapper; first | (rw [if_pos (by decide +kernel)]; kernel_rfl) | (rw [if_neg (by decide +kernel)]; exact ⟨rfl, rfl⟩))
    (fun os started H enc _ => lifted os started H enc)

theorem copiesCaught_holds : Rows.CopiesCaughtCardSaid :=
  Claim7.holds_tied_plain_at .later [] [.data, .data] true Rows.copiesCaughtCard.stood.harness true
    copiesCaught_row (fun _ h => by cases h) (by kernel_rfl) (fun _ h => by cases h) copiesCaught_row_tie rfl ⟨rfl, rfl⟩ (by kernel_rfl) rfl
    (fun f fn hf hfn => by
      obtain rfl : f = 9 := Option.some.inj ((show Tryd.prog.funcNamed "franking/frankinglaw51.CopiesCaught" = some 9 by kernel_rfl).symm.trans hf) |>.symm
      obtain rfl : fn = Tryd.f9 := (Option.some.inj (Tryd.func9.symm.trans hfn)).symm
      exact ⟨by kernel_rfl, fun j t ht => by
        rw [Tryd.params9] at ht
        have hm : t ∈ [65, 66, 5, 5] := by simpa using Array.mem_of_getElem? ht
        have hall : ([65, 66, 5, 5].all fun u => !Tryd.prog.wantsStandIn u) = true := by kernel_rfl
        exact (show Tryd.prog.wantsStandIn t = false by simpa using List.all_eq_true.1 hall t hm)⟩)
    (by kernel_rfl)
#print axioms copiesCaught_holds
end Go.Proofs.YtkkkfkefbjpmaaaDoor
