/- The program's sign: power, Sign, Verify. -/
import Derived.Test.YtcioeedlfbioaaaGreatDoorSgn
namespace Frk
open Go Go.RowKit Go.Proofs
set_option maxRecDepth 100000

theorem power_yes (a n : Int) (w : World) (h : vd a = true) (h1 : -9223372036854775808 ≤ n) (h2 : n ≤ 9223372036854775807) :
    Calls Tryz.prog 57 #[.int .i64 a, .int .i64 n] w fun e w' => e = .returned (.int .i64 (pw a.toNat n)) ∧ Below w.heap.size w w' := by
  have HP := Seal.mk (pow_yes a n w h h1 h2)
  clear h h1 h2
  go_enter Tryz.func57, Tryz.ntmps57
  go_wp2_with (go_at_call 40; refine HP.out.mono ?_; rintro e w' ⟨rfl, hb⟩)
  go_ret
  exact ⟨rfl, hb⟩

theorem power_four (n : Int) (w : World) (h1 : -9223372036854775808 ≤ n) (h2 : n ≤ 9223372036854775807) :
    Calls Tryz.prog 57 #[.int .i64 4, .int .i64 n] w fun e w' => e = .returned (.int .i64 (pw 4 n)) ∧ Below w.heap.size w w' :=
  power_yes 4 n w (by decide +kernel) h1 h2

/-- what list leaves -/
def ListPost (l : Bytes) (w : World) (e : Ending) (w' : World) : Prop := ∃ g' n' cap', Seal (l.length = n') ∧
      e = .returned (.slice (some ⟨g', 0, none⟩) n' cap') ∧ Seal (n' ≤ cap' ∧ cap' ≤ 9223372036854775807 ∧ g' < w'.heap.size ∧ w'.rangeAt g' 0 (l.map B) ∧ Below w.heap.size w w')

/-- list at arguments that have just been laid out -/
theorem list_new (xs : List Arg) (k H : Nat) (w : World) (hH : w.heap.size = H) (hk : xs.length = k) (hk0 : 0 < k) (hk9 : k ≤ 1000) (hok : ∀ x ∈ xs, x.ok w) (hl : wgts (xs.map Arg.lf) + 22 ≤ 140737488355328) :
    Calls Tryz.prog 59 #[.slice (some ⟨H, 0, none⟩) k k] (w.alloc (.cells (xs.map Arg.val).toArray 20)) (ListPost (encL (xs.map Arg.lf)) w) := by
  subst hH
  refine (list_any w.heap.size 0 k k xs (w.alloc (.cells (xs.map Arg.val).toArray 20)) hk (Nat.le_refl _) hk0 hk9 (fun j x hx => ?_) (fun x hx => (hok x hx).below (below_alloc w _)) hl).mono ?_
  · exact rangeAt_new w (xs.map Arg.val) _ _ j _ (by rw [List.getElem?_map, hx]; rfl)
  · rintro e w' ⟨g', n', cap', hn, rfl, hf⟩
    exact ⟨g', n', cap', hn, rfl, ⟨hf.out.1, hf.out.2.1, hf.out.2.2.1, hf.out.2.2.2.1, (below_alloc w _).trans (hf.out.2.2.2.2.mono (by rw [size_alloc]; omega))⟩⟩

theorem encL_length (xs : List Lf) : (encL xs).length ≤ wgts xs + 11 := by
  have h1 := encs_length xs
  have h2 := numF_length 10 xs.length
  simp [encL, numeral]; omega

/-- Hash at what list or Encode has made -/
theorem hash_new (t l : Bytes) (g n c : Nat) (w : World) (hG : Glob w) (ht : 0 < t.length) (ht2 : t.length ≤ 64) (hn : l.length = n) (hf : n ≤ c ∧ c ≤ 9223372036854775807 ∧ g < w.heap.size ∧ w.rangeAt g 0 (l.map B)) (hm : n ≤ 70368744177664) :
    Calls Tryz.prog 58 #[.string ⟨t.toArray⟩, .slice (some ⟨g, 0, none⟩) n c] w fun e w' => e = .returned (.int .i64 (ghash t l)) ∧ Below w.heap.size w w' := by
  have h := hash_some ⟨t.toArray⟩ g 0 n c l w hG ht ht2 hn hf.1 (by omega) hf.2.1 hf.2.2.2 hf.2.2.1
  exact h

/-! ## signatures -/
def tNonce : Bytes := [110, 111, 110, 99, 101]
def tSign : Bytes := [115, 105, 103, 110]
/-- the hash of a point, a key and a text -/
def sgHash (r key : Int) (b : Bytes) : Nat := ghash tSign (encL [.i r, .i key, .t b])
def sgK (x : Int) (b : Bytes) : Nat := max (ghash tNonce (encL [.i x, .t b])) 1
def sgE (x : Int) (b : Bytes) : Nat := sgHash (pw 4 (sgK x b)) (pw 4 x) b
def sgS (x : Int) (b : Bytes) : Int := ((sgK x b : Int) + (sgE x b : Int) * x % 1073741789) % 1073741789

theorem blk {w w' : World} {n b : Nat} {o : Obj} (h : Below n w w') (hb : b < n) (ho : w.heap[b]? = some o) : w'.heap[b]? = some o := (h.block b hb).trans ho

end Frk
