/- Tagged at no text. -/
import Derived.Test.YtkkkfkefbjpmaaaDoorVGen
import Derived.Test.YtkkkfkefbjpmaaaDoorVTag
import Derived.Test.YtkkkfkefbjpmaaaDoorVPow
import Derived.Test.YtkkkfkefbjpmaaaDoorVEnv
import Derived.Test.YtkkkfkefbjpmaaaDoorVRnb
import Derived.RangeFuncCalls
import Derived.RangeFuncBound
import Derived.RangeFuncNested
import Derived.RangeFuncLeaves
import Derived.Test.YtkkkfkefbjpmaaaDoorVHab
import Derived.Test.YtkkkfkefbjpmaaaDoorVExs
namespace Frk
open Go Go.RowKit Go.Proofs
set_option maxRecDepth 100000

section
attribute [local go_sem] Oper.semAt_some

def noneD : Bytes := tagged [110, 111, 110, 101] []
def encE : Empty → Array Value := fun x => x.elim

end

theorem Env.add {w W : World} {a : Option Addr} {len cap : Nat} {b : Bytes} {bs : List (Nat × Obj)} {g : Nat} {o : Obj} (h : Env w a len cap b bs) (hb : Below w.heap.size w W) (hr : W.heap[g]? = some o) : Env W a len cap b ((g, o) :: bs) :=
  ⟨(h.below hb).glob, (h.below hb).isb, fun p hp => by
    rcases List.mem_cons.1 hp with rfl | hp
    · exact hr
    · exact (h.below hb).keep p hp⟩

def nineD : Bytes := [9, 0, 0, 0, 0, 0, 0, 0, 0, 0, 0, 0, 0, 0, 0, 0, 0, 0, 0, 0, 0, 0, 0, 0, 0, 0, 0, 0, 0, 0, 0, 0]
/-- the example -/
def hd0 : Hd := ⟨2, 30, 90, 1, 3, 5, 7, nineD, 45, 0, 0⟩

end Frk
