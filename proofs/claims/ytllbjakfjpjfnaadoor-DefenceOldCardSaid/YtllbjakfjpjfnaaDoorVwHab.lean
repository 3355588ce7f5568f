/- Hand-overs: between, formed, slotOf. -/
import Derived.Test.YtllbjakfjpjfnaaDoorVwgRsg
import Derived.Test.YtllbjakfjpjfnaaDoorVwgEqd
import Derived.Test.YtllbjakfjpjfnaaDoorVwHaa
import Derived.BigQuiet
import Derived.WalkSpells
namespace Frk
open Go Go.RowKit Go.Proofs
set_option maxRecDepth 100000

/-- a hand-over -/
structure Hd where
  (L A R leg fr to mn : Int)
  T : Bytes
  (tm E S : Int)

/-- its cells -/
def Hd.C (h : Hd) : List Value := ([.int .i64 h.L, .int .i64 h.A, .int .i64 h.R, .int .i64 h.leg, .int .i64 h.fr, .int .i64 h.to, .int .i64 h.mn] ++ h.T.map B) ++ [.int .i64 h.tm, .int .i64 h.E, .int .i64 h.S]
structure Hd.ok (h : Hd) : Prop where
  t32 : h.T.length = 32
  iL : I64 h.L
  iA : I64 h.A
  iR : I64 h.R
  ileg : I64 h.leg
  ifr : I64 h.fr
  ito : I64 h.to
  imn : I64 h.mn
  itm : I64 h.tm

/-- the cells of a hand-over that lies in a block -/
structure HdAt (w : World) (g : Nat) (h : Hd) : Prop where
  c0 : w.cell? ⟨g, 0, none⟩ = some (.int .i64 h.L)
  c1 : w.cell? ⟨g, 1, none⟩ = some (.int .i64 h.A)
  c2 : w.cell? ⟨g, 2, none⟩ = some (.int .i64 h.R)
  c3 : w.cell? ⟨g, 3, none⟩ = some (.int .i64 h.leg)
  c4 : w.cell? ⟨g, 4, none⟩ = some (.int .i64 h.fr)
  c5 : w.cell? ⟨g, 5, none⟩ = some (.int .i64 h.to)
  c6 : w.cell? ⟨g, 6, none⟩ = some (.int .i64 h.mn)
  c39 : w.cell? ⟨g, 39, none⟩ = some (.int .i64 h.tm)
  c40 : w.cell? ⟨g, 40, none⟩ = some (.int .i64 h.E)
  c41 : w.cell? ⟨g, 41, none⟩ = some (.int .i64 h.S)
  txt : w.rangeAt g 7 (h.T.map B)
def btB (x lo hi : Int) : Bool := decide (lo ≤ x) && decide (x ≤ hi)
/-- is a hand-over in form? -/
def Hd.fm (h : Hd) : Bool := ((btB h.A 0 2097151 && btB h.R 0 2097151 && btB h.tm 0 2097151) && (btB h.fr 0 23 && btB h.to (-1) 23 && (h.fr != h.to))) && (btB h.L 0 63 && btB h.leg 0 8 && btB h.mn 0 64)

/-- are two hand-overs equal? -/
def hdB (a b : Hd) : Bool := (a.L == b.L && (a.A == b.A && a.R == b.R)) && (a.leg == b.leg && (a.fr == b.fr && (a.to == b.to && (a.mn == b.mn && (a.T == b.T && (a.tm == b.tm && (a.E == b.E && a.S == b.S)))))))

/-- what Ints returns: a list that bears these leaves -/
def IntsPost (xs : List Lf) (k : Nat) (w : World) (e : Ending) (w' : World) : Prop :=
  ∃ g c, e = .returned (.agg #[.int .i64 3, .int .i64 0, .string ByteArray.empty, .slice (some ⟨g, 0, none⟩) k c]) ∧ Seal (k ≤ c ∧ g < w'.heap.size ∧ LeavesAt w' g 0 xs ∧ w'.ownsRow w.heap.size 57 4 (.slice (some ⟨g, 0, none⟩) k c) k (xs.flatMap Lf.cells)) ∧ Below w.heap.size w w'

theorem htext_new (xs : List HA) (k H : Nat) (w : World) (hH : w.heap.size = H) (hk : xs.length = k) (hkm : k ≤ 1000) (hk0 : 0 < (xs.flatMap HA.lfs).length) (hk9 : (xs.flatMap HA.lfs).length ≤ 900) (hw : wgts (xs.flatMap HA.lfs) + 22 ≤ 140737488355328) (hok : ∀ x ∈ xs, x.ok) (hfit : ∀ y ∈ xs.flatMap HA.lfs, y.fits) (cs : Array Value) (hcs : cs.toList = xs.map HA.val) :
    Calls Tryd.prog 54 #[.slice (some ⟨H, 0, none⟩) k k] (w.alloc (.cells cs 20)) (ListPost (encL (xs.flatMap HA.lfs)) w) := by
  subst hH
  refine (htext_any w.heap.size 0 k k xs (w.alloc (.cells cs 20)) hk hkm hk0 hk9 hw (fun j x hx => ?_) hok hfit).mono ?_
  · rw [cell_of_row _ _ _ _ _ _ (heap_alloc_new w _), Nat.zero_add, ← Array.getElem?_toList, hcs, List.getElem?_map, hx]; rfl
  · rintro e w' ⟨g', n', cap', hn, rfl, hf⟩
    exact ⟨g', n', cap', hn, rfl, ⟨hf.out.1, hf.out.2.1, hf.out.2.2.1, hf.out.2.2.2.1, (below_alloc w _).trans (hf.out.2.2.2.2.mono (by rw [size_alloc]; omega))⟩⟩

/-- the text of a hand-over -/
def Hd.lf (h : Hd) : List Lf := [.i h.L, .i h.A, .i h.R, .i h.leg, .i h.fr, .i h.to, .i h.mn, .t h.T, .i h.tm]
def Hd.tx (h : Hd) : Bytes := encL h.lf
def Hd.ha (h : Hd) : List HA := [.r h.L h.A h.R, .i h.leg, .i h.fr, .i h.to, .i h.mn, .t h.T, .i h.tm]
/-- is a hand-over signed? -/
def chB (key : Int) (h : Hd) : Bool := h.fm && vrB key h.tx h.E h.S
def Hd.sg (h : Hd) (E S : Int) : Hd := { h with E := E, S := S }
def hz : Hd := ⟨0, 0, 0, 0, 0, 0, 0, zb32, 0, 0, 0⟩
/-- what Make returns -/
def mkF (x : Int) (h : Hd) : Hd × Int := if btB x 1 1073741788 = true then (if h.fm = true then (h.sg (sgE x h.tx) (sgS x h.tx), 0) else (hz, 480)) else (hz, 110)

/-! ## the reference -/
/-- the same slot -/
def slB (a b : Hd) : Bool := (a.L == b.L && (a.A == b.A && a.R == b.R)) && (a.leg == b.leg && a.fr == b.fr)
/-- do hand-overs contradict each other? -/
def clB (a b : Hd) : Bool := a.fm && (b.fm && (slB a b && !(hdB (a.sg 0 0) (b.sg 0 0))))

end Frk
