/- Parts of the proof, joined. -/
import Derived.Test.YtllbjakfjpjfnaaDoorVwFpl
import Derived.Test.YtllbjakfjpjfnaaDoorVwgGrd
import Derived.Test.YtllbjakfjpjfnaaDoorVwBsl
import Derived.Recover
import Derived.WalkLawsBesides
/- Law 57: steps for the walks. -/
namespace Frk
open Go Go.RowKit Go.Proofs
set_option maxRecDepth 100000

theorem below_drewn_f (w : World) : Below w.heap.size w w.drew := ⟨rfl, rfl, rfl, Nat.le_refl _, fun _ _ => rfl⟩
/-- what holds from here on -/
def Kf (w : World) (Φ : World → Prop) : Prop := ∀ W, Below w.heap.size w W → Φ W
theorem Kf.step {w w' : World} {Φ : World → Prop} (h : Kf w Φ) (hb : Below w.heap.size w w') : Kf w' Φ := fun W hW => h W (hb.trans (hW.mono hb.size))
theorem Kf.at {w : World} {Φ : World → Prop} (h : Kf w Φ) : Φ w := h w (Below.refl _ _)
/-- a new variable that is written at once -/
theorem newf (w : World) (Z : Array Value) (D : List Value) (t : TypeId) : ∃ V g, g = w.heap.size ∧ (w.alloc (.cells Z t)).setRow g D.toArray = V ∧ (w.alloc (.cells Z t)).heap[g]? = some (.cells Z t (0, 0)) ∧ Kf V (fun W => W.rangeAt g 0 D) ∧ Below w.heap.size w V ∧ V.heap[g]? = some (.cells D.toArray t (0, 0)) ∧ g < V.heap.size := by
  have e : (w.alloc (.cells Z t)).setRow w.heap.size D.toArray = w.alloc (.cells D.toArray t) := by
    have := setRow_new w Z.toList D t
    simpa using this
  refine ⟨_, w.heap.size, rfl, e, heap_alloc_new w _, fun W hW => rangeAt_below' (rangeAt_row (heap_alloc_new w _)) hW, below_alloc _ _, heap_alloc_new w _, by rw [size_alloc]; omega⟩
abbrev IsE (w : World) (a : Option Addr) (n c : Nat) (l : List Ep) : Prop := IsC Ep.C 3 w a n c l
theorem ep_len (x : Ep) : x.C.length = 3 := rfl
theorem ep_one (x : Ep) : x.C.toArray.all (·.oneCell') = true := by unfold Ep.C; simp [Value.oneCell']
theorem ep_info (x : Ep) : (Tryd.prog.info? 85).map (·.size) = some x.C.length := by rw [ep_len]; kernel_rfl
end Frk

/- Law 57: what catches Admit's panics. -/
namespace Frk
open Go Go.RowKit Go.Proofs
set_option maxRecDepth 100000

theorem ta_errno (v : Value) (W : World) : (Instr.typeAssert (.iface 38 v) 20 38 true).run Tryd.prog W = .ok (.tuple #[v, .bool true]) W := by kernel_rfl
set_option maxHeartbeats 2000000 in
theorem fcatch_panicking (g h : Nat) (x y : Value) (ex : Int) (w : World) (hc : w.cell? ⟨g, 0, none⟩ = some x) (hz : w.frozen? ⟨g, 0, none⟩ = false) (hc2 : w.cell? ⟨h, 0, none⟩ = some y) (hz2 : w.frozen? ⟨h, 0, none⟩ = false) (_hne : ¬ g = h) (hne2 : ¬ h = g) :
    CallsD Tryd.prog 18 #[.pointer (some ⟨g, 0, none⟩), .pointer (some ⟨h, 0, none⟩)] (.panicking [{ v := .iface 38 (.int .i64 ex), recovered := false }]) w fun e u' w' =>
      e = .returned (.tuple #[]) ∧ u' = .panicking [{ v := .iface 38 (.int .i64 ex), recovered := true }] ∧ w' = (w.setCell ⟨g, 0, none⟩ (.slice none 0 0)).setCell ⟨h, 0, none⟩ (.int .i64 ex) := by
  have ta := fun W => ta_errno (.int .i64 ex) W
  refine callsD_of_wpS Tryd.func18 rfl fun c₀ cs hu => ?_
  simp only [Tryd.ntmps18, List.size_toArray, List.length_cons, List.length_nil, Nat.reduceAdd, Nat.reduceSub, Array.replicate_succ, Array.replicate_zero, List.push_toArray, List.append_toArray, List.nil_append, List.cons_append]
  apply wpS_seq
  apply wpS_region
  simp [wpOpsS, go_sem, recoverD, hu, Exit.thenS]
  refine wpS_of_wp ?_
  go_wp2
  exact ⟨rfl, _, rfl, .tuple #[], by simp [results, Tryd.results18, go_sem], rfl, rfl, rfl⟩
theorem fcatch_idle (g h : Nat) (w : World) :
    CallsD Tryd.prog 18 #[.pointer (some ⟨g, 0, none⟩), .pointer (some ⟨h, 0, none⟩)] .returning w fun e u' w' => e = .returned (.tuple #[]) ∧ u' = .returning ∧ w' = w := by
  refine callsD_of_wpS Tryd.func18 rfl fun c₀ cs hu => ?_
  simp only [Tryd.ntmps18, List.size_toArray, List.length_cons, List.length_nil, Nat.reduceAdd, Nat.reduceSub, Array.replicate_succ, Array.replicate_zero, List.push_toArray, List.append_toArray, List.nil_append, List.cons_append]
  apply wpS_seq
  apply wpS_region
  simp [wpOpsS, go_sem, recoverD, hu, Exit.thenS]
  refine wpS_of_wp ?_
  go_wp2
  exact ⟨rfl, .returning, by cases c₀; simp_all, .tuple #[], by simp [results, Tryd.results18, go_sem], rfl, rfl, rfl⟩
end Frk

