/- Digests compared: bytes.Compare, the packages' compare. -/
import Derived.Test.YtkkkfkefbjpmaaaDoorVDls
import Derived.Test.YtkkkfkefbjpmaaaDoorVEnv
import Derived.Lib.Bytealg
import Derived.Lib.BytesEntry
import Derived.Laws.Externs
import Derived.Deep.QuietTactic
import Derived.BigQuiet
import Derived.StillTailTactics
namespace Frk
open Go Go.RowKit Go.Proofs
set_option maxRecDepth 100000

/-- less, equal, greater -/
def cmpB (a b : Bytes) : Int := Lib.compareBytes a b

theorem IsB.drewN {w : World} {a : Option Addr} {len cap : Nat} {l : Bytes} (h : IsB w a len cap l) (n : Nat) : IsB (w.drewN n) a len cap l := ⟨h.llen, h.lcap, h.lmax, h.cmax, h.at_⟩

/-- a digest as a value -/
def dgV (d : Bytes) : Value := .agg (d.map B).toArray

/-- the cells of a list of digests -/
def dcells (l : List Bytes) : List Value := (l.flatten).map B

/-- a slice of digests -/
structure IsD (w : World) (a : Option Addr) (len cap : Nat) (l : List Bytes) : Prop where
  llen : l.length = len
  lcap : len ≤ cap
  lmax : len ≤ 1099511627776
  cmax : cap ≤ 9223372036854775807
  each : ∀ d ∈ l, d.length = 32
  at_ : len = 0 ∨ ∃ g off, a = some ⟨g, off, none⟩ ∧ w.rangeAt g off (dcells l) ∧ g < w.heap.size

theorem IsD.of_heap {w w' : World} {a : Option Addr} {len cap : Nat} {l : List Bytes} (h : IsD w a len cap l) (hb : Below w.heap.size w w') : IsD w' a len cap l :=
  ⟨h.llen, h.lcap, h.lmax, h.cmax, h.each, by
    rcases h.at_ with h0 | ⟨g, off, e, hr, hg⟩
    · exact .inl h0
    · exact .inr ⟨g, off, e, rangeAt_below' hr hb, Nat.lt_of_lt_of_le hg hb.size⟩⟩

/-- an operation of a region is taken first, its parts laid out -/
theorem take_h {P : Program} {md : Region.Mode} {ops : Array Oper} {Q : Exit → Act → World → Prop} {S : World → Prop} {dst : Option Tmp} {op : Op} {ty : TypeId} {pos : String} {after : Array Edge} {guard : Option (Nat × Bool)} (i : Nat) (v : Value) {fuel : Nat} {listed : Array Bool} {a : Act} {w : World}
    (hi : ops[i]? = some { dst := dst, op := op, type := ty, pos := pos, after := after, guard := guard }) (hs : Region.noSelect ops = true) (hf : Region.free md ops listed i = true) (hr : (Region.ready md ops listed).contains i = true)
    (hQ : ∀ c a w, Q (.panic c) (a.put dst v) w → Q (.panic c) a w) (hy : YieldsIf P ops S { dst := dst, op := op, type := ty, pos := pos, after := after, guard := guard } v a) (hS : S w)
    (h : wpAnyH P md ops Q S fuel (listed.setIfInBounds i true) (a.put dst v) w) : wpAnyH P md ops Q S (fuel + 1) listed a w :=
  wpAnyH_take hi hs hf hr hQ hy hS h

/-- a call that alone may come up -/
theorem call_h {P : Program} {md : Region.Mode} {ops : Array Oper} {Q : Exit → Act → World → Prop} {S : World → Prop} {dst : Option Tmp} {op : Op} {ty : TypeId} {pos : String} {after : Array Edge} {guard : Option (Nat × Bool)} (i : Nat) {fuel : Nat} {listed : Array Bool} {a : Act} {w : World}
    (hi : ops[i]? = some { dst := dst, op := op, type := ty, pos := pos, after := after, guard := guard }) (hr : Region.ready md ops listed = [i]) (f : FuncId) (args : Array Value)
    (hw : Region.wanted { dst := dst, op := op, type := ty, pos := pos, after := after, guard := guard } (yielded ops a.tmps) = true)
    (hrun : (execOp a.eval { dst := dst, op := op, type := ty, pos := pos, after := after, guard := guard }).run P w = .ok (.enter f args) w)
    (hc : Calls P f args w fun e w' => ∃ v, e = .returned v ∧ S w' ∧ (S w' → wpAnyH P md ops Q S fuel (listed.setIfInBounds i true) (a.put dst v) w')) : wpAnyH P md ops Q S (fuel + 1) listed a w :=
  wpAnyH_ready hr (by simp) (AllReadyH.cons hi (fun K hK => by
    rw [if_pos hw]
    unfold Oper.wp
    rw [hrun, Oper.upon_enter]
    refine hc.mono ?_
    rintro e w' ⟨v, rfl, hS, hn⟩
    exact hK.out _ _ hS hn) AllReadyH.nil)

end Frk
