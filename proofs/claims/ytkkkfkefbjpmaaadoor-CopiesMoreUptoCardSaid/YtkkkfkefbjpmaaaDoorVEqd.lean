/- Digests held against each other. -/
import Derived.Test.YtkkkfkefbjpmaaaDoorVDls
import Derived.Test.YtkkkfkefbjpmaaaDoorVEnv
import Derived.DeepKeys
namespace Frk
open Go Go.RowKit Go.Proofs
set_option maxRecDepth 100000

theorem mapM_some {α β : Type} {f : α → Option β} {g : α → β} : ∀ (L : List α), (∀ x ∈ L, f x = some (g x)) → L.mapM f = some (L.map g)
  | [], _ => by simp
  | x :: L, h => by
    rw [List.mapM_cons, h x (by simp)]
    simp only [bind, Option.bind_some]
    rw [mapM_some L (fun y hy => h y (by simp [hy]))]
    rfl

theorem flatten_one {α β : Type} (f : α → β) : ∀ L : List α, (L.map fun i => [f i]).flatten = L.map f
  | [] => rfl
  | x :: L => by simp only [List.map_cons, List.flatten_cons, flatten_one f L]; rfl

theorem lits_u8 (a : Bytes) (n : Nat) (hn : a.length = n) :
    (List.range n).mapM (fun i => Tryd.prog.keyLits 1 5 (((a.map B).toArray.toList.drop (i * Tryd.prog.cellsOf 5)).take (Tryd.prog.cellsOf 5))) = some ((List.range n).map fun i => [Lit.int .u8 ((a.getD i 0).toNat : Int)]) := by
  have c1 : Tryd.prog.cellsOf 5 = 1 := by kernel_rfl
  apply mapM_some
  intro i hi
  have hlt : i < a.length := by rw [hn]; exact List.mem_range.1 hi
  rw [c1, Nat.mul_one]
  have e : ((a.map B).toArray.toList.drop i).take 1 = [B (a.getD i 0)] := by
    rw [show (a.map B).toArray.toList = a.map B from rfl, List.drop_eq_getElem_cons (by simpa using hlt), List.take_succ_cons, List.take_zero, List.getElem_map, List.getD_eq_getElem?_getD, List.getElem?_eq_getElem hlt]
    rfl
  rw [e]
  unfold Program.keyLits
  rw [Tryd.underlying5]
  have hb := UInt8.toNat_lt (a.getD i 0)
  have h1 : IntKind.u8.min = 0 := by decide
  have h2 : IntKind.u8.max = 255 := by decide
  have hw : (Lit.int .u8 ((a.getD i 0).toNat : Int)).wf = true := by
    simp only [Lit.wf, h1, h2]
    simp only [Bool.and_eq_true, decide_eq_true_eq]
    omega
  simp only []
  rw [if_pos ⟨trivial, hw⟩]

end Frk
