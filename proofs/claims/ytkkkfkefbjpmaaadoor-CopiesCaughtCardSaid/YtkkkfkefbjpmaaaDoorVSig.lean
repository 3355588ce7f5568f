/- The program's sign: power, Sign, Verify. -/
import Derived.Test.YtkkkfkefbjpmaaaDoorVSgn
namespace Frk
open Go Go.RowKit Go.Proofs
set_option maxRecDepth 100000

theorem power_yes (a n : Int) (w : World) (h : vd a = true) (h1 : -9223372036854775808 ≤ n) (h2 : n ≤ 9223372036854775807) :
    Calls Tryd.prog 79 #[.int .i64 a, .int .i64 n] w fun e w' => e = .returned (.int .i64 (pw a.toNat n)) ∧ Below w.heap.size w w' := by
  have HP := Seal.mk (pow_yes a n w h h1 h2)
  clear h h1 h2
  go_enter Tryd.func79, Tryd.ntmps79
  go_wp2_with (go_at_call 58; refine HP.out.mono ?_; rintro e w' ⟨rfl, hb⟩)
  go_ret
  exact ⟨rfl, hb⟩

theorem power_four (n : Int) (w : World) (h1 : -9223372036854775808 ≤ n) (h2 : n ≤ 9223372036854775807) :
    Calls Tryd.prog 79 #[.int .i64 4, .int .i64 n] w fun e w' => e = .returned (.int .i64 (pw 4 n)) ∧ Below w.heap.size w w' :=
  power_yes 4 n w (by decide +kernel) h1 h2

theorem times_any (x y : Int) (w : World) (hx : 0 ≤ x) (hx2 : x < 1073741789) (hy : 0 ≤ y) (hy2 : y < 1073741789) :
    Calls Tryd.prog 81 #[.int .i64 x, .int .i64 y] w fun e w' => e = .returned (.int .i64 (x * y % 1073741789)) ∧ w = w' := by
  obtain ⟨b1, b2⟩ : 0 ≤ x * y ∧ x * y ≤ 1152921429444920521 := ⟨Int.mul_nonneg hx hy, by
    have := Int.mul_le_mul (show x ≤ 1073741789 by omega) (show y ≤ 1073741789 by omega) hy (by decide)
    omega⟩
  go_enter Tryd.func81, Tryd.ntmps81
  go_wp2
  go_ret
  exact ⟨rfl, rfl⟩

theorem plus_any (x y : Int) (w : World) (hx : 0 ≤ x) (hx2 : x < 1073741789) (hy : 0 ≤ y) (hy2 : y < 1073741789) :
    Calls Tryd.prog 80 #[.int .i64 x, .int .i64 y] w fun e w' => e = .returned (.int .i64 ((x + y) % 1073741789)) ∧ w = w' := by
  go_enter Tryd.func80, Tryd.ntmps80
  go_wp2
  go_ret
  exact ⟨rfl, rfl⟩

/-- what list leaves -/
def ListPost (l : Bytes) (w : World) (e : Ending) (w' : World) : Prop := ∃ g' n' cap', Seal (l.length = n') ∧
      e = .returned (.slice (some ⟨g', 0, none⟩) n' cap') ∧ Seal (n' ≤ cap' ∧ cap' ≤ 9223372036854775807 ∧ g' < w'.heap.size ∧ w'.rangeAt g' 0 (l.map B) ∧ Below w.heap.size w w')

/-- list at arguments that have just been laid out -/
theorem list_new (xs : List Arg) (k H : Nat) (w : World) (hH : w.heap.size = H) (hk : xs.length = k) (hk0 : 0 < k) (hk9 : k ≤ 1000) (hok : ∀ x ∈ xs, x.ok w) (hl : wgts (xs.map Arg.lf) + 22 ≤ 140737488355328) :
    Calls Tryd.prog 78 #[.slice (some ⟨H, 0, none⟩) k k] (w.alloc (.cells (xs.map Arg.val).toArray 20)) (ListPost (encL (xs.map Arg.lf)) w) := by
  subst hH
  refine (list_any w.heap.size 0 k k xs (w.alloc (.cells (xs.map Arg.val).toArray 20)) hk (Nat.le_refl _) hk0 hk9 (fun j x hx => ?_) (fun x hx => (hok x hx).below (below_alloc w _)) hl).mono ?_
  · exact rangeAt_new w (xs.map Arg.val) _ _ j _ (by rw [List.getElem?_map, hx]; rfl)
  · rintro e w' ⟨g', n', cap', hn, rfl, hf⟩
    exact ⟨g', n', cap', hn, rfl, ⟨hf.out.1, hf.out.2.1, hf.out.2.2.1, hf.out.2.2.2.1, (below_alloc w _).trans (hf.out.2.2.2.2.mono (by rw [size_alloc]; omega))⟩⟩

theorem encL_length (xs : List Lf) : (encL xs).length ≤ wgts xs + 11 := by
  have h1 := encs_length xs
  have h2 := numF_length 10 xs.length
  simp [encL, numeral]; omega

/-- Hash at what list or Encode has made -/
theorem hash_new (t l : Bytes) (g n c : Nat) (w : World) (hG : Glob w) (ht : 0 < t.length) (ht2 : t.length ≤ 64) (hn : l.length = n) (hf : n ≤ c ∧ c ≤ 9223372036854775807 ∧ g < w.heap.size ∧ w.rangeAt g 0 (l.map B)) (hm : n ≤ 70368744177664) :
    Calls Tryd.prog 77 #[.string ⟨t.toArray⟩, .slice (some ⟨g, 0, none⟩) n c] w fun e w' => e = .returned (.int .i64 (ghash t l)) ∧ Below w.heap.size w w' := by
  have h := hash_some ⟨t.toArray⟩ g 0 n c l w hG ht ht2 hn hf.1 (by omega) hf.2.1 hf.2.2.2 hf.2.2.1
  exact h

/-! ## signatures -/
def tNonce : Bytes := [110, 111, 110, 99, 101]
def tSign : Bytes := [115, 105, 103, 110]
/-- the hash of a point, a key and a text -/
def sgHash (r key : Int) (b : Bytes) : Nat := ghash tSign (encL [.i r, .i key, .t b])
def sgK (x : Int) (b : Bytes) : Nat := max (ghash tNonce (encL [.i x, .t b])) 1
def sgE (x : Int) (b : Bytes) : Nat := sgHash (pw 4 (sgK x b)) (pw 4 x) b
def sgS (x : Int) (b : Bytes) : Int := ((sgK x b : Int) + (sgE x b : Int) * x % 1073741789) % 1073741789

theorem blk {w w' : World} {n b : Nat} {o : Obj} (h : Below n w w') (hb : b < n) (ho : w.heap[b]? = some o) : w'.heap[b]? = some o := (h.block b hb).trans ho

set_option maxHeartbeats 1000000 in
theorem sign_yes (x : Int) (a : Option Addr) (len cap : Nat) (b : Bytes) (w : World) (h0 : 1 ≤ x) (h1 : x < 1073741789) (hb : IsB w a len cap b) (hl : len ≤ 1099511627776) (hG : Glob w) :
    Calls Tryd.prog 47 #[.int .i64 x, .slice a len cap] w fun e w' => e = .returned (.tuple #[.agg #[.int .i64 (sgE x b), .int .i64 (sgS x b)], .int .i64 0]) ∧ Below w.heap.size w w' := by
  have HB := Seal.mk hb
  have HG := Seal.mk hG
  clear hb hG
  go_enter Tryd.func47, Tryd.ntmps47
  go_wp2_with fail
  refine (list_new [.i x, .s a len cap b] 2 (w.heap.size + 1) (w.alloc (.cells #[.int .i64 0, .int .i64 0] 27)) (size_alloc _ _) rfl (by decide) (by decide) (by
    intro y hy
    simp only [List.mem_cons, List.not_mem_nil, or_false] at hy
    rcases hy with rfl | rfl
    · exact ⟨by omega, by omega⟩
    · exact HB.out.below (below_alloc w _)) (by
    have := HB.out.llen
    simp [wgts, Lf.wgt, Arg.lf]; omega)).mono ?_
  rintro e w2 ⟨g2, n2, c2, hn2, rfl, hf2⟩
  have hb2 : Below w.heap.size w w2 := (below_alloc w _).trans (hf2.out.2.2.2.2.mono (by rw [size_alloc]; omega))
  have hn2' := encL_length ([Arg.i x, Arg.s a len cap b].map Arg.lf)
  have hrow2 : w2.heap[w.heap.size]? = some (.cells #[.int .i64 0, .int .i64 0] 27) := blk hf2.out.2.2.2.2 (by rw [size_alloc]; omega) (heap_alloc_new w _)
  have HR2 := Seal.mk hrow2
  have HB2 := Seal.mk hb2
  have hL := HB.out.llen
  rw [hn2.out, show wgts ([Arg.i x, Arg.s a len cap b].map Arg.lf) = len + 22 from by simp [wgts, Lf.wgt, Arg.lf]; omega] at hn2'
  clear hrow2 hb2 hL
  go_wp2_with fail
  refine (hash_new tNonce _ g2 n2 c2 w2 (HG.out.below HB2.out) (by decide) (by decide) hn2.out ⟨hf2.out.1, hf2.out.2.1, hf2.out.2.2.1, hf2.out.2.2.2.1⟩ (by omega)).mono ?_
  rintro e w3 ⟨rfl, hb3⟩
  have HR3 := Seal.mk (blk hb3 (by have := (Array.getElem?_eq_some_iff.1 HR2.out).1; exact this) HR2.out)
  have HB3 := Seal.mk (HB2.out.trans (hb3.mono HB2.out.size))
  clear hb3 hn2 hf2 hn2'
  show _
  have hlt := ghash_lt tNonce (encL ([Arg.i x, Arg.s a len cap b].map Arg.lf))
  have HK : Seal (sgK x b = max (ghash tNonce (encL ([Arg.i x, Arg.s a len cap b].map Arg.lf))) 1) := ⟨rfl⟩
  generalize ghash tNonce (encL ([Arg.i x, Arg.s a len cap b].map Arg.lf)) = k0 at *
  have hL := HB.out.llen
  have HLL := Seal.mk hL
  clear hL
  by_cases hk : 1 ≤ k0
  · have HK1 : Seal (((sgK x b : Nat) : Int) = (k0 : Int)) := ⟨by rw [HK.out]; omega⟩
    go_wp2_with fail
    refine (power_four (k0 : Int) w3 (by omega) (by omega)).mono ?_
    rintro e w4 ⟨rfl, hb4⟩
    have HR4 := Seal.mk (blk hb4 (by have := (Array.getElem?_eq_some_iff.1 HR3.out).1; exact this) HR3.out)
    have HB4 := Seal.mk (HB3.out.trans (hb4.mono HB3.out.size))
    clear hb4
    go_wp2_with fail
    refine (power_four x w4 (by omega) (by omega)).mono ?_
    rintro e w5 ⟨rfl, hb5⟩
    have HR5 := Seal.mk (blk hb5 (by have := (Array.getElem?_eq_some_iff.1 HR4.out).1; exact this) HR4.out)
    have HB5 := Seal.mk (HB4.out.trans (hb5.mono HB4.out.size))
    have HP1 : Seal (pw 4 (sgK x b) = pw 4 (k0 : Int)) := ⟨by rw [HK1.out]⟩
    have hp1 := pw_lt 4 (k0 : Int)
    have hp2 := pw_lt 4 x
    have HE : Seal (sgE x b = ghash tSign (encL ([Arg.i (pw 4 (sgK x b)), Arg.i (pw 4 x), Arg.s a len cap b].map Arg.lf))) := ⟨rfl⟩
    rw [HP1.out] at HE
    have hP : P = 2147483579 := rfl
    rw [hP] at hp1 hp2
    clear hb5 HP1 hP
    generalize pw 4 (k0 : Int) = p1 at *
    generalize pw 4 x = p2 at *
    go_wp2_with fail
    refine (list_new [.i p1, .i p2, .s a len cap b] 3 w5.heap.size w5 rfl rfl (by decide) (by decide) (by
      intro y hy
      simp only [List.mem_cons, List.not_mem_nil, or_false] at hy
      rcases hy with rfl | rfl | rfl
      · exact ⟨by omega, by omega⟩
      · exact ⟨by omega, by omega⟩
      · exact HB.out.below HB5.out) (by
      have := HLL.out
      simp [wgts, Lf.wgt, Arg.lf]; omega)).mono ?_
    rintro e w6 ⟨g6, n6, c6, hn6, rfl, hf6⟩
    have HR6 := Seal.mk (blk hf6.out.2.2.2.2 (by have := (Array.getElem?_eq_some_iff.1 HR5.out).1; exact this) HR5.out)
    have HB6 := Seal.mk (HB5.out.trans (hf6.out.2.2.2.2.mono HB5.out.size))
    have hn6' := encL_length ([Arg.i p1, Arg.i p2, Arg.s a len cap b].map Arg.lf)
    rw [hn6.out, show wgts ([Arg.i p1, Arg.i p2, Arg.s a len cap b].map Arg.lf) = len + 33 from by have := HLL.out; simp [wgts, Lf.wgt, Arg.lf]; omega] at hn6'
    go_wp2_with fail
    refine (hash_new tSign _ g6 n6 c6 w6 (HG.out.below HB6.out) (by decide) (by decide) hn6.out ⟨hf6.out.1, hf6.out.2.1, hf6.out.2.2.1, hf6.out.2.2.2.1⟩ (by omega)).mono ?_
    rintro e w7 ⟨rfl, hb7⟩
    have HR7 := Seal.mk (blk hb7 (by have := (Array.getElem?_eq_some_iff.1 HR6.out).1; exact this) HR6.out)
    have HB7 := Seal.mk (HB6.out.trans (hb7.mono HB6.out.size))
    clear hb7 hn6 hf6 hn6'
    rw [← HE.out]
    have he := ghash_lt tSign (encL ([Arg.i p1, Arg.i p2, Arg.s a len cap b].map Arg.lf))
    rw [← HE.out] at he
    have HS : Seal (sgS x b = ((k0 : Int) + (sgE x b : Int) * x % 1073741789) % 1073741789) := ⟨by rw [sgS, HK1.out]⟩
    clear HE
    obtain ⟨E, hE⟩ : ∃ E, sgE x b = E := ⟨_, rfl⟩
    rw [hE] at HS he
    rw [hE]
    have HEE := Seal.mk hE
    clear hE
    have hc0 : w7.cell? ⟨w.heap.size, 0, none⟩ = some (.int .i64 0) := by rw [cell_of_row _ _ _ _ _ _ HR7.out]; rfl
    have hc1 : w7.cell? ⟨w.heap.size, 1, none⟩ = some (.int .i64 0) := by rw [cell_of_row _ _ _ _ _ _ HR7.out]; rfl
    have hf0 : w7.frozen? ⟨w.heap.size, 0, none⟩ = false := frozen_of_row _ _ _ _ _ HR7.out
    have hf1 : w7.frozen? ⟨w.heap.size, 1, none⟩ = false := frozen_of_row _ _ _ _ _ HR7.out
    have hx0 : 0 ≤ x := by omega
    go_wp2_with fail
    refine (times_any E x _ (by omega) (by omega) (by omega) (by omega)).mono ?_
    rintro e w8 ⟨rfl, rfl⟩
    have hm1 : 0 ≤ (E : Int) * x % 1073741789 := Int.emod_nonneg _ (by decide)
    have hm2 : (E : Int) * x % 1073741789 < 1073741789 := Int.emod_lt_of_pos _ (by decide)
    generalize (E : Int) * x % 1073741789 = ex at *
    go_wp2_with fail
    refine (plus_any (k0 : Int) ex _ (by omega) (by omega) (by omega) (by omega)).mono ?_
    rintro e w8 ⟨rfl, rfl⟩
    obtain ⟨sS, hsS⟩ : ∃ sS, sgS x b = sS := ⟨_, rfl⟩
    rw [← HS.out, hsS]
    have HSS := Seal.mk hsS
    clear hsS HS
    go_wp2_with fail
    have hr9 := heap_setCell_row (cs := [.int .i64 E, .int .i64 sS]) (i := 1) (.int .i64 sS) (heap_setCell_row (cs := [.int .i64 E, .int .i64 sS]) (i := 0) (.int .i64 E) (heap_setCell_row (cs := [.int .i64 E, .int .i64 0]) (i := 1) (.int .i64 sS) (heap_setCell_row (cs := [.int .i64 0, .int .i64 0]) (i := 0) (.int .i64 E) HR7.out)))
    have hd0 := cell_of_row _ _ 0 _ _ _ hr9
    have hd1 := cell_of_row _ _ 1 _ _ _ hr9
    simp only [List.set_cons_zero, List.set_cons_succ] at hd0 hd1
    refine bodyPost_ret (v := .tuple #[.agg #[.int .i64 E, .int .i64 sS], .int .i64 0]) (by simp [results, Tryd.f47, go_sem, hd0, hd1]) rfl ⟨by rw [HEE.out, HSS.out], ?_⟩
    exact (((HB7.out.setCell (p := ⟨w.heap.size, 0, none⟩) (Nat.le_refl _) _).setCell (p := ⟨w.heap.size, 1, none⟩) (Nat.le_refl _) _).setCell (p := ⟨w.heap.size, 0, none⟩) (Nat.le_refl _) _).setCell (p := ⟨w.heap.size, 1, none⟩) (Nat.le_refl _) _
  · have hk' : ¬ 1 ≤ (k0 : Int) := by omega
    have HK1 : Seal (((sgK x b : Nat) : Int) = 1) := ⟨by rw [HK.out]; omega⟩
    clear hk
    go_wp2_with fail
    refine (power_four (1 : Int) w3 (by omega) (by omega)).mono ?_
    rintro e w4 ⟨rfl, hb4⟩
    have HR4 := Seal.mk (blk hb4 (by have := (Array.getElem?_eq_some_iff.1 HR3.out).1; exact this) HR3.out)
    have HB4 := Seal.mk (HB3.out.trans (hb4.mono HB3.out.size))
    clear hb4
    go_wp2_with fail
    refine (power_four x w4 (by omega) (by omega)).mono ?_
    rintro e w5 ⟨rfl, hb5⟩
    have HR5 := Seal.mk (blk hb5 (by have := (Array.getElem?_eq_some_iff.1 HR4.out).1; exact this) HR4.out)
    have HB5 := Seal.mk (HB4.out.trans (hb5.mono HB4.out.size))
    have HP1 : Seal (pw 4 (sgK x b) = pw 4 (1 : Int)) := ⟨by rw [HK1.out]⟩
    have hp1 := pw_lt 4 (1 : Int)
    have hp2 := pw_lt 4 x
    have HE : Seal (sgE x b = ghash tSign (encL ([Arg.i (pw 4 (sgK x b)), Arg.i (pw 4 x), Arg.s a len cap b].map Arg.lf))) := ⟨rfl⟩
    rw [HP1.out] at HE
    have hP : P = 2147483579 := rfl
    rw [hP] at hp1 hp2
    clear hb5 HP1 hP
    generalize pw 4 (1 : Int) = p1 at *
    generalize pw 4 x = p2 at *
    go_wp2_with fail
    refine (list_new [.i p1, .i p2, .s a len cap b] 3 w5.heap.size w5 rfl rfl (by decide) (by decide) (by
      intro y hy
      simp only [List.mem_cons, List.not_mem_nil, or_false] at hy
      rcases hy with rfl | rfl | rfl
      · exact ⟨by omega, by omega⟩
      · exact ⟨by omega, by omega⟩
      · exact HB.out.below HB5.out) (by
      have := HLL.out
      simp [wgts, Lf.wgt, Arg.lf]; omega)).mono ?_
    rintro e w6 ⟨g6, n6, c6, hn6, rfl, hf6⟩
    have HR6 := Seal.mk (blk hf6.out.2.2.2.2 (by have := (Array.getElem?_eq_some_iff.1 HR5.out).1; exact this) HR5.out)
    have HB6 := Seal.mk (HB5.out.trans (hf6.out.2.2.2.2.mono HB5.out.size))
    have hn6' := encL_length ([Arg.i p1, Arg.i p2, Arg.s a len cap b].map Arg.lf)
    rw [hn6.out, show wgts ([Arg.i p1, Arg.i p2, Arg.s a len cap b].map Arg.lf) = len + 33 from by have := HLL.out; simp [wgts, Lf.wgt, Arg.lf]; omega] at hn6'
    go_wp2_with fail
    refine (hash_new tSign _ g6 n6 c6 w6 (HG.out.below HB6.out) (by decide) (by decide) hn6.out ⟨hf6.out.1, hf6.out.2.1, hf6.out.2.2.1, hf6.out.2.2.2.1⟩ (by omega)).mono ?_
    rintro e w7 ⟨rfl, hb7⟩
    have HR7 := Seal.mk (blk hb7 (by have := (Array.getElem?_eq_some_iff.1 HR6.out).1; exact this) HR6.out)
    have HB7 := Seal.mk (HB6.out.trans (hb7.mono HB6.out.size))
    clear hb7 hn6 hf6 hn6'
    rw [← HE.out]
    have he := ghash_lt tSign (encL ([Arg.i p1, Arg.i p2, Arg.s a len cap b].map Arg.lf))
    rw [← HE.out] at he
    have HS : Seal (sgS x b = ((1 : Int) + (sgE x b : Int) * x % 1073741789) % 1073741789) := ⟨by rw [sgS, HK1.out]⟩
    clear HE
    obtain ⟨E, hE⟩ : ∃ E, sgE x b = E := ⟨_, rfl⟩
    rw [hE] at HS he
    rw [hE]
    have HEE := Seal.mk hE
    clear hE
    have hc0 : w7.cell? ⟨w.heap.size, 0, none⟩ = some (.int .i64 0) := by rw [cell_of_row _ _ _ _ _ _ HR7.out]; rfl
    have hc1 : w7.cell? ⟨w.heap.size, 1, none⟩ = some (.int .i64 0) := by rw [cell_of_row _ _ _ _ _ _ HR7.out]; rfl
    have hf0 : w7.frozen? ⟨w.heap.size, 0, none⟩ = false := frozen_of_row _ _ _ _ _ HR7.out
    have hf1 : w7.frozen? ⟨w.heap.size, 1, none⟩ = false := frozen_of_row _ _ _ _ _ HR7.out
    have hx0 : 0 ≤ x := by omega
    go_wp2_with fail
    refine (times_any E x _ (by omega) (by omega) (by omega) (by omega)).mono ?_
    rintro e w8 ⟨rfl, rfl⟩
    have hm1 : 0 ≤ (E : Int) * x % 1073741789 := Int.emod_nonneg _ (by decide)
    have hm2 : (E : Int) * x % 1073741789 < 1073741789 := Int.emod_lt_of_pos _ (by decide)
    generalize (E : Int) * x % 1073741789 = ex at *
    go_wp2_with fail
    refine (plus_any (1 : Int) ex _ (by omega) (by omega) (by omega) (by omega)).mono ?_
    rintro e w8 ⟨rfl, rfl⟩
    obtain ⟨sS, hsS⟩ : ∃ sS, sgS x b = sS := ⟨_, rfl⟩
    rw [← HS.out, hsS]
    have HSS := Seal.mk hsS
    clear hsS HS
    go_wp2_with fail
    have hr9 := heap_setCell_row (cs := [.int .i64 E, .int .i64 sS]) (i := 1) (.int .i64 sS) (heap_setCell_row (cs := [.int .i64 E, .int .i64 sS]) (i := 0) (.int .i64 E) (heap_setCell_row (cs := [.int .i64 E, .int .i64 0]) (i := 1) (.int .i64 sS) (heap_setCell_row (cs := [.int .i64 0, .int .i64 0]) (i := 0) (.int .i64 E) HR7.out)))
    have hd0 := cell_of_row _ _ 0 _ _ _ hr9
    have hd1 := cell_of_row _ _ 1 _ _ _ hr9
    simp only [List.set_cons_zero, List.set_cons_succ] at hd0 hd1
    refine bodyPost_ret (v := .tuple #[.agg #[.int .i64 E, .int .i64 sS], .int .i64 0]) (by simp [results, Tryd.f47, go_sem, hd0, hd1]) rfl ⟨by rw [HEE.out, HSS.out], ?_⟩
    exact (((HB7.out.setCell (p := ⟨w.heap.size, 0, none⟩) (Nat.le_refl _) _).setCell (p := ⟨w.heap.size, 1, none⟩) (Nat.le_refl _) _).setCell (p := ⟨w.heap.size, 0, none⟩) (Nat.le_refl _) _).setCell (p := ⟨w.heap.size, 1, none⟩) (Nat.le_refl _) _
end Frk
