/- Lists of digests: order, membership, place. Plain. -/
import Derived.Test.YtkkkfkefbjpmaaaDoorVSha
namespace Frk

/-- the order of texts -/
def blt : Bytes → Bytes → Bool
  | [], [] => false
  | [], _ :: _ => true
  | _ :: _, [] => false
  | a :: s, b :: t => if a = b then blt s t else decide (a.toNat < b.toNat)

theorem bytes_ext {a b : Bytes} (hl : a.length = b.length) (h : ∀ j, j < a.length → a.getD j 0 = b.getD j 0) : a = b := by
  apply List.ext_getElem hl
  intro i h1 h2
  have := h i h1
  simpa [List.getD_eq_getElem?_getD, List.getElem?_eq_getElem h1, List.getElem?_eq_getElem h2] using this

/-- strictly increasing -/
def usedB : List Bytes → Bool
  | a :: b :: l => blt a b && usedB (b :: l)
  | _ => true

def hasB (l : List Bytes) (d : Bytes) : Bool := l.contains d

/-- how many are less than d -/
def atB (l : List Bytes) (d : Bytes) : Nat := (l.takeWhile (fun x => blt x d)).length

/-- d put into its place -/
def putB (l : List Bytes) (d : Bytes) : List Bytes := l.take (atB l d) ++ d :: l.drop (atB l d)

/-- what is spent: the list behind, or none; and the error -/
inductive SpendR where
  | ok (l : List Bytes)
  | used
  | limit
  | wrong

def spendB (l : List Bytes) (d : Bytes) : SpendR := if usedB l = true then (if hasB l d = true then .used else if 4096 ≤ l.length then .limit else .ok (putB l d)) else .wrong

end Frk
