/- The law BlindAny. -/
import Derived.Test.YtbifjlejelcicaaDoorBpl
namespace Frk
open Go Go.RowKit Go.Proofs
set_option maxRecDepth 100000

theorem tr_at (key r c s : Int) (t : Bool) (w : World) (h : trC key r c s = t) : Calls Tryd.prog 36 #[.int .i64 key, .int .i64 r, .int .i64 c, .int .i64 s] w fun e w' => e = .returned (.bool t) ∧ w = w' := by
  rw [← h]; exact transcript_any key r c s w

set_option maxHeartbeats 4000000 in
theorem law_blindAny (key r c s E S : Int) (a : Option Addr) (len cap : Nat) (b : Bytes) (w : World) (hlm : (len : Int) ≤ 9223372036854775807) (c1 : -9223372036854775808 ≤ c) (c2 : c ≤ 9223372036854775807) (s1 : -9223372036854775808 ≤ s) (s2 : s ≤ 9223372036854775807) (hb : len ≤ 600 → IsB w a len cap b) (hG : Glob w) :
    Calls Tryd.prog 10 #[.int .i64 key, .int .i64 r, .int .i64 c, .int .i64 s, .slice a len cap, .agg #[.int .i64 E, .int .i64 S]] w fun e w' => e = .returned (.bool true) ∧ Below w.heap.size w w' := by
  by_cases hl : len ≤ 600
  · have HE1 : Seal (Env (w.alloc (.cells #[.int .i64 E, .int .i64 S] 24)) a len cap b [(w.heap.size, .cells #[.int .i64 E, .int .i64 S] 24)]) := ⟨(Env.mk hG (hb hl) (by intro p hp; cases hp) : Env w a len cap b []).push _⟩
    have HB1 := Seal.mk (below_alloc w (.cells #[.int .i64 E, .int .i64 S] 24))
    have hl6 : len ≤ 1099511627776 := by omega
    clear hb hG
    cases ht : trC key r c s with
    | false =>
      have HT := Seal.mk ht
      have HL : Seal (linkC key r c s b E S = (0, 0, false)) := ⟨by unfold linkC; rw [link_tr, ht, Bool.false_and]; rfl⟩
      clear ht
      go_enter Tryd.func10, Tryd.ntmps10
      go_wp2_with fail
      refine (bsane_any _ HE1.out.glob).mono ?_
      rintro e w2 ⟨rfl, hb⟩
      have HE2 := Seal.mk (HE1.out.below hb)
      have HB2 := Seal.mk (HB1.out.trans (hb.mono HB1.out.size))
      clear hb HE1 HB1
      have ka := HE2.out.cell (g := w.heap.size) (i := 0) (cs := #[.int .i64 E, .int .i64 S]) (t := 24) (by simp) rfl
      have kaz := HE2.out.cell (g := w.heap.size) (i := 1) (cs := #[.int .i64 E, .int .i64 S]) (t := 24) (by simp) rfl
      go_wp2_with fail
      refine (link_at key r c s E S 0 0 false _ _ _ b _ HL c1 c2 s1 s2 HE2.out.isb (by omega) HE2.out.glob).mono ?_
      rintro e w3 ⟨rfl, hb⟩
      have HE3 := Seal.mk (HE2.out.below hb)
      have HB3 := Seal.mk (HB2.out.trans (hb.mono HB2.out.size))
      clear hb HE2 HB2
      have kb := HE3.out.cell (g := w.heap.size) (i := 0) (cs := #[.int .i64 E, .int .i64 S]) (t := 24) (by simp) rfl
      have kbz := HE3.out.cell (g := w.heap.size) (i := 1) (cs := #[.int .i64 E, .int .i64 S]) (t := 24) (by simp) rfl
      go_wp2_with fail
      refine (tr_at key r c s false _ HT.out).mono ?_
      rintro e w' ⟨rfl, rfl⟩
      go_wp2_with fail
      go_ret
      exact ⟨rfl, HB3.out⟩
    | true =>
      have HT := Seal.mk ht
      cases hv : vrB key b E S with
      | false =>
        have HV := Seal.mk hv
        have HL : Seal (linkC key r c s b E S = (0, 0, false)) := ⟨by unfold linkC; rw [link_tr, ht, hv, Bool.and_false]; rfl⟩
        clear ht hv
        go_enter Tryd.func10, Tryd.ntmps10
        go_wp2_with fail
        refine (bsane_any _ HE1.out.glob).mono ?_
        rintro e w2 ⟨rfl, hb⟩
        have HE2 := Seal.mk (HE1.out.below hb)
        have HB2 := Seal.mk (HB1.out.trans (hb.mono HB1.out.size))
        clear hb HE1 HB1
        have ka := HE2.out.cell (g := w.heap.size) (i := 0) (cs := #[.int .i64 E, .int .i64 S]) (t := 24) (by simp) rfl
        have kaz := HE2.out.cell (g := w.heap.size) (i := 1) (cs := #[.int .i64 E, .int .i64 S]) (t := 24) (by simp) rfl
        go_wp2_with fail
        refine (link_at key r c s E S 0 0 false _ _ _ b _ HL c1 c2 s1 s2 HE2.out.isb (by omega) HE2.out.glob).mono ?_
        rintro e w3 ⟨rfl, hb⟩
        have HE3 := Seal.mk (HE2.out.below hb)
        have HB3 := Seal.mk (HB2.out.trans (hb.mono HB2.out.size))
        clear hb HE2 HB2
        have kb := HE3.out.cell (g := w.heap.size) (i := 0) (cs := #[.int .i64 E, .int .i64 S]) (t := 24) (by simp) rfl
        have kbz := HE3.out.cell (g := w.heap.size) (i := 1) (cs := #[.int .i64 E, .int .i64 S]) (t := 24) (by simp) rfl
        go_wp2_with fail
        refine (tr_at key r c s true _ HT.out).mono ?_
        rintro e w' ⟨rfl, rfl⟩
        go_wp2_with fail
        refine (ver_at key E S false _ _ _ b _ HV.out HE3.out.isb (by omega) HE3.out.glob).mono ?_
        rintro e w4 ⟨rfl, hb⟩
        have HE4 := Seal.mk (HE3.out.below hb)
        have HB4 := Seal.mk (HB3.out.trans (hb.mono HB3.out.size))
        clear hb HE3 HB3
        go_wp2_with fail
        go_ret
        exact ⟨rfl, HB4.out⟩
      | true =>
        have HV := Seal.mk hv
        obtain ⟨u, hu⟩ : ∃ u : Int, ((lq (S - (lq s : Nat)) : Nat) : Int) = u := ⟨_, rfl⟩
        obtain ⟨v, hv2⟩ : ∃ v : Int, ((lq ((lq c : Nat) - E) : Nat) : Int) = v := ⟨_, rfl⟩
        obtain ⟨n, hn⟩ : ∃ n : Int, Seal (((lq c : Nat) : Int) = n) := ⟨_, ⟨rfl⟩⟩
        have HL : Seal (linkC key r c s b E S = (u, v, true)) := ⟨by unfold linkC; rw [link_tr, ht, hv, ← hu, ← hv2]; rfl⟩
        have HA : Seal (askC key r b u v = (n, 0)) := ⟨by rw [← hu, ← hv2, ← hn.out]; exact any_askC ht hv⟩
        have HF : Seal (finishC key r b u v s = (E, S, 0)) := ⟨by rw [← hu, ← hv2]; exact any_finC ht hv⟩
        have hr := lq_rng (S - (lq s : Nat))
        rw [hu] at hr
        obtain ⟨u0, u9⟩ := hr
        have hr := lq_rng ((lq c : Nat) - E)
        rw [hv2] at hr
        obtain ⟨v0, v9⟩ := hr
        clear ht hv hu hv2
        go_enter Tryd.func10, Tryd.ntmps10
        go_wp2_with fail
        refine (bsane_any _ HE1.out.glob).mono ?_
        rintro e w2 ⟨rfl, hb⟩
        have HE2 := Seal.mk (HE1.out.below hb)
        have HB2 := Seal.mk (HB1.out.trans (hb.mono HB1.out.size))
        clear hb HE1 HB1
        have ka := HE2.out.cell (g := w.heap.size) (i := 0) (cs := #[.int .i64 E, .int .i64 S]) (t := 24) (by simp) rfl
        have kaz := HE2.out.cell (g := w.heap.size) (i := 1) (cs := #[.int .i64 E, .int .i64 S]) (t := 24) (by simp) rfl
        go_wp2_with fail
        refine (link_at key r c s E S u v true _ _ _ b _ HL c1 c2 s1 s2 HE2.out.isb (by omega) HE2.out.glob).mono ?_
        rintro e w3 ⟨rfl, hb⟩
        have HE3 := Seal.mk (HE2.out.below hb)
        have HB3 := Seal.mk (HB2.out.trans (hb.mono HB2.out.size))
        clear hb HE2 HB2
        have kb := HE3.out.cell (g := w.heap.size) (i := 0) (cs := #[.int .i64 E, .int .i64 S]) (t := 24) (by simp) rfl
        have kbz := HE3.out.cell (g := w.heap.size) (i := 1) (cs := #[.int .i64 E, .int .i64 S]) (t := 24) (by simp) rfl
        go_wp2_with fail
        refine (tr_at key r c s true _ HT.out).mono ?_
        rintro e w' ⟨rfl, rfl⟩
        go_wp2_with fail
        refine (ver_at key E S true _ _ _ b _ HV.out HE3.out.isb (by omega) HE3.out.glob).mono ?_
        rintro e w4 ⟨rfl, hb⟩
        have HE4 := Seal.mk (HE3.out.below hb)
        have HB4 := Seal.mk (HB3.out.trans (hb.mono HB3.out.size))
        clear hb HE3 HB3
        go_wp2_with fail
        refine (ask_at key r u v n 0 _ _ _ b _ HA (by omega) (by omega) (by omega) (by omega) HE4.out.isb (by omega) HE4.out.glob).mono ?_
        rintro e w5 ⟨rfl, hb⟩
        have HE5 := Seal.mk (HE4.out.below hb)
        have HB5 := Seal.mk (HB4.out.trans (hb.mono HB4.out.size))
        clear hb HE4 HB4
        go_wp2_with fail
        refine (finish_at key r u v s E S 0 _ _ _ b _ HF (by omega) (by omega) (by omega) (by omega) HE5.out.isb (by omega) HE5.out.glob).mono ?_
        rintro e w6 ⟨rfl, hb⟩
        have HE6 := Seal.mk ((HE5.out.below hb).push (.cells #[.int .i64 E, .int .i64 S] 24))
        have HB6 := Seal.mk ((HB5.out.trans (hb.mono HB5.out.size)).alloc (Nat.le_trans HB5.out.size hb.size) (.cells #[.int .i64 E, .int .i64 S] 24))
        clear hb HE5 HB5
        have kc := HE6.out.cell (g := w.heap.size) (i := 0) (cs := #[.int .i64 E, .int .i64 S]) (t := 24) (by simp) rfl
        have kcz := HE6.out.cell (g := w.heap.size) (i := 1) (cs := #[.int .i64 E, .int .i64 S]) (t := 24) (by simp) rfl
        have d0 := HE6.out.cell (g := w6.heap.size) (i := 0) (cs := #[.int .i64 E, .int .i64 S]) (t := 24) (by simp) rfl
        have d1 := HE6.out.cell (g := w6.heap.size) (i := 1) (cs := #[.int .i64 E, .int .i64 S]) (t := 24) (by simp) rfl
        have heq := fun W => eqSig_same E S W
        go_wp2_with fail
        refine (mod_eq c n _ hn).mono ?_
        rintro e w' ⟨rfl, rfl⟩
        go_wp2_with fail
        go_ret
        exact ⟨rfl, HB6.out⟩
  · have hl' : 600 < (len : Int) := by omega
    clear hb
    go_enter Tryd.func10, Tryd.ntmps10
    go_wp2_with (go_at_call 25; refine (bsane_any _ (hG.below (below_alloc w _))).mono ?_; rintro e w2 ⟨rfl, hb2⟩)
    go_ret
    exact ⟨rfl, (below_alloc w _).trans (hb2.mono (by rw [size_alloc]; omega))⟩
end Frk
