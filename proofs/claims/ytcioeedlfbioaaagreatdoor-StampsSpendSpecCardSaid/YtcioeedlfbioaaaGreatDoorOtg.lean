/- onetime's text of some numbers. -/
import Derived.Test.YtcioeedlfbioaaaGreatDoorSgn
import Derived.Test.YtcioeedlfbioaaaGreatDoorSig
import Derived.Test.YtcioeedlfbioaaaGreatDoorElm
namespace Frk
open Go Go.RowKit Go.Proofs
set_option maxRecDepth 100000

/-- numbers as leaves -/
def lfs (ns : List Int) : List Lf := ns.map Lf.i
theorem arg_lfs (ns : List Int) : (ns.map Arg.i).map Arg.lf = lfs ns := by
  unfold lfs; rw [List.map_map]; rfl

theorem wgts_lfs (ns : List Int) : wgts (lfs ns) = ns.length * 11 := by
  induction ns with
  | nil => rfl
  | cons n ns ih =>
    have e : lfs (n :: ns) = Lf.i n :: lfs ns := rfl
    rw [e, wgts_cons, ih, List.length_cons]
    show 11 + _ = _
    omega

def tReturn : Bytes := [114, 101, 116, 117, 114, 110]
/-- the tag of a return's four numbers -/
def rtag (L K P Q : Int) : Bytes := tagged tReturn (encL (lfs [L, K, P, Q]))

/-- a return's cells bear these four numbers -/
def RetHead (C : List Value) (L K P Q : Int) : Prop := C[0]? = some (.int .i64 L) ∧ C[1]? = some (.int .i64 K) ∧ C[2]? = some (.int .i64 P) ∧ C[3]? = some (.int .i64 Q)

end Frk
