/-
  NARROWER THAN 'FOR EVERY INPUT', by the rows' own cells (each row's printed sentence says how): HandoverSpec: laid · HandoverRootSpec: laid · HandoverClash: laid · HandoverSigned: laid · HandoverProves: laid · CopiesSpec: laid · CopiesCaught: laid · CopiesTrusted: laid · CopiesMore: laid.
  DERIVED. THE GIVEN ROWS OF THIS SEAT. 9 by the template 'for every input the law returns true; each argument reads behind the call as it read before'; 0 by the template 'total and deterministic' (their statements: YtkkkfkefbjpmaaaDoorTotals.lean).
  GIVEN WITH THE SEED: the statements are not yours to turn. If you find one false, say at which input.
  Laid BY PROGRAM, IN A SANDBOX (cutbox-rows.mjs): the forced cells as the released guide's own fill.sh prints them over the translation 103ea63cd91114e1… (all of the seat's roots in one cut). By AI agents, Wed Nov 11 2026. No macro, syntax, notation, axiom, sorry.
-/
import Derived.Test.YtkkkfkefbjpmaaaDoorChecked
import GoSem.Claim
import GoSem.ClaimJoined
import GoSem.ClaimMapViews
import Derived.JoinedTies
import Derived.KernelRfl
namespace Go.Proofs.YtkkkfkefbjpmaaaDoor
/- THE CELL 'sum', in the pinned program and in every row, IS THE sha256 OF THE DUMP (.gsa) THAT YtkkkfkefbjpmaaaDoorProg.lean LOADS. Nothing in Lean hashes anything: it is a label: what it is worth is what the hold of that sum in a sandbox is worth. -/
noncomputable def Tryd.pinned : Pinned := { name := "ytkkkfkefbjpmaaadoor", sum := "103ea63cd91114e1272de8e5953838dd68cac0e5a21eae2479e1f5e780436e6b", checked := Tryd.checked }
namespace Rows
def none {H : Type} : Left H := { results := [], args := [] }

/- WHAT THE LISTED PACKAGE-LEVEL VARIABLES READ AS WHEN THE CALL BEGINS. Each datum BY PROGRAM (the guide's laid-datum.mjs) off the statement by which the dump's own 'gosem.cut.vars' lays the variable. In a bare row this is a premise. The card (YtkkkfkefbjpmaaaDoorCards.lean) ties it to the program's text. -/
def laid_franking_digest_start {H : Type} : DataW H := .agg [.lit (.int .u32 1779033703), .lit (.int .u32 3144134277), .lit (.int .u32 1013904242), .lit (.int .u32 2773480762), .lit (.int .u32 1359893119), .lit (.int .u32 2600822924), .lit (.int .u32 528734635), .lit (.int .u32 1541459225)]
def laid_franking_digest_numbers {H : Type} : DataW H := .agg [.lit (.int .u32 1116352408), .lit (.int .u32 1899447441), .lit (.int .u32 3049323471), .lit (.int .u32 3921009573), .lit (.int .u32 961987163), .lit (.int .u32 1508970993), .lit (.int .u32 2453635748), .lit (.int .u32 2870763221), .lit (.int .u32 3624381080), .lit (.int .u32 310598401), .lit (.int .u32 607225278), .lit (.int .u32 1426881987), .lit (.int .u32 1925078388), .lit (.int .u32 2162078206), .lit (.int .u32 2614888103), .lit (.int .u32 3248222580), .lit (.int .u32 3835390401), .lit (.int .u32 4022224774), .lit (.int .u32 264347078), .lit (.int .u32 604807628), .lit (.int .u32 770255983), .lit (.int .u32 1249150122), .lit (.int .u32 1555081692), .lit (.int .u32 1996064986), .lit (.int .u32 2554220882), .lit (.int .u32 2821834349), .lit (.int .u32 2952996808), .lit (.int .u32 3210313671), .lit (.int .u32 3336571891), .lit (.int .u32 3584528711), .lit (.int .u32 113926993), .lit (.int .u32 338241895), .lit (.int .u32 666307205), .lit (.int .u32 773529912), .lit (.int .u32 1294757372), .lit (.int .u32 1396182291), .lit (.int .u32 1695183700), .lit (.int .u32 1986661051), .lit (.int .u32 2177026350), .lit (.int .u32 2456956037), .lit (.int .u32 2730485921), .lit (.int .u32 2820302411), .lit (.int .u32 3259730800), .lit (.int .u32 3345764771), .lit (.int .u32 3516065817), .lit (.int .u32 3600352804), .lit (.int .u32 4094571909), .lit (.int .u32 275423344), .lit (.int .u32 430227734), .lit (.int .u32 506948616), .lit (.int .u32 659060556), .lit (.int .u32 883997877), .lit (.int .u32 958139571), .lit (.int .u32 1322822218), .lit (.int .u32 1537002063), .lit (.int .u32 1747873779), .lit (.int .u32 1955562222), .lit (.int .u32 2024104815), .lit (.int .u32 2227730452), .lit (.int .u32 2361852424), .lit (.int .u32 2428436474), .lit (.int .u32 2756734187), .lit (.int .u32 3204031479), .lit (.int .u32 3329325298)]

/-- 'frankinglaw48.HandoverSpec': WHATEVER THE INPUT: true; the input reads as it did. -/
def handoverSpecSpec : ChangeSpec := { name := "handoverSpec", fn := fun _ => fun
  | [d1, d2, d3] => { results := [.lit (.bool true)], args := [d1, d2, d3] }
  | _ => none }
def handoverSpecRow : OpenClaim := { program := "ytkkkfkefbjpmaaadoor", sum := "103ea63cd91114e1272de8e5953838dd68cac0e5a21eae2479e1f5e780436e6b", func := "franking/frankinglaw48.HandoverSpec", spec := "handoverSpec", inPlace := ["internal/bytealg.MakeNoZero"], unfollowed := true, recurses := true, named := ["franking/digest.start", "franking/digest.numbers"], plainKeys := false, apart := false, laid := [("franking/digest.start", laid_franking_digest_start), ("franking/digest.numbers", laid_franking_digest_numbers)] }
def HandoverSpecSaid : Prop := handoverSpecRow.holds Tryd.pinned (OpenSpec.ofChange handoverSpecSpec)

/-- ITS FALSE NEIGHBOUR: 'it returns false'. Refute it at one input. -/
def handoverSpecWrong : ChangeSpec := { name := "handoverSpec", fn := fun _ => fun
  | [d1, d2, d3] => { results := [.lit (.bool false)], args := [d1, d2, d3] }
  | _ => none }
def HandoverSpecWrongFalsely : Prop := handoverSpecRow.holds Tryd.pinned (OpenSpec.ofChange handoverSpecWrong)

/-- 'frankinglaw48.HandoverRootSpec': WHATEVER THE INPUT: true; the input reads as it did. -/
def handoverRootSpecSpec : ChangeSpec := { name := "handoverRootSpec", fn := fun _ => fun
  | [d1, d2, d3] => { results := [.lit (.bool true)], args := [d1, d2, d3] }
  | _ => none }
def handoverRootSpecRow : OpenClaim := { program := "ytkkkfkefbjpmaaadoor", sum := "103ea63cd91114e1272de8e5953838dd68cac0e5a21eae2479e1f5e780436e6b", func := "franking/frankinglaw48.HandoverRootSpec", spec := "handoverRootSpec", inPlace := ["internal/bytealg.MakeNoZero"], unfollowed := true, recurses := true, named := ["franking/digest.start", "franking/digest.numbers"], plainKeys := false, apart := false, laid := [("franking/digest.start", laid_franking_digest_start), ("franking/digest.numbers", laid_franking_digest_numbers)] }
def HandoverRootSpecSaid : Prop := handoverRootSpecRow.holds Tryd.pinned (OpenSpec.ofChange handoverRootSpecSpec)

/-- ITS FALSE NEIGHBOUR: 'it returns false'. Refute it at one input. -/
def handoverRootSpecWrong : ChangeSpec := { name := "handoverRootSpec", fn := fun _ => fun
  | [d1, d2, d3] => { results := [.lit (.bool false)], args := [d1, d2, d3] }
  | _ => none }
def HandoverRootSpecWrongFalsely : Prop := handoverRootSpecRow.holds Tryd.pinned (OpenSpec.ofChange handoverRootSpecWrong)

/-- 'frankinglaw48.HandoverClash': WHATEVER THE INPUT: true; the input reads as it did. -/
def handoverClashSpec : ChangeSpec := { name := "handoverClash", fn := fun _ => fun
  | [d1, d2, d3, d4] => { results := [.lit (.bool true)], args := [d1, d2, d3, d4] }
  | _ => none }
def handoverClashRow : OpenClaim := { program := "ytkkkfkefbjpmaaadoor", sum := "103ea63cd91114e1272de8e5953838dd68cac0e5a21eae2479e1f5e780436e6b", func := "franking/frankinglaw48.HandoverClash", spec := "handoverClash", inPlace := ["internal/bytealg.MakeNoZero"], unfollowed := true, recurses := true, named := ["franking/digest.start", "franking/digest.numbers"], plainKeys := false, apart := false, laid := [("franking/digest.start", laid_franking_digest_start), ("franking/digest.numbers", laid_franking_digest_numbers)] }
def HandoverClashSaid : Prop := handoverClashRow.holds Tryd.pinned (OpenSpec.ofChange handoverClashSpec)

/-- ITS FALSE NEIGHBOUR: 'it returns false'. Refute it at one input. -/
def handoverClashWrong : ChangeSpec := { name := "handoverClash", fn := fun _ => fun
  | [d1, d2, d3, d4] => { results := [.lit (.bool false)], args := [d1, d2, d3, d4] }
  | _ => none }
def HandoverClashWrongFalsely : Prop := handoverClashRow.holds Tryd.pinned (OpenSpec.ofChange handoverClashWrong)

/-- 'frankinglaw48.HandoverSigned': WHATEVER THE INPUT: true; the input reads as it did. -/
def handoverSignedSpec : ChangeSpec := { name := "handoverSigned", fn := fun _ => fun
  | [d1, d2, d3] => { results := [.lit (.bool true)], args := [d1, d2, d3] }
  | _ => none }
def handoverSignedRow : OpenClaim := { program := "ytkkkfkefbjpmaaadoor", sum := "103ea63cd91114e1272de8e5953838dd68cac0e5a21eae2479e1f5e780436e6b", func := "franking/frankinglaw48.HandoverSigned", spec := "handoverSigned", inPlace := ["internal/bytealg.MakeNoZero"], unfollowed := true, recurses := true, named := ["franking/digest.start", "franking/digest.numbers"], plainKeys := false, apart := false, laid := [("franking/digest.start", laid_franking_digest_start), ("franking/digest.numbers", laid_franking_digest_numbers)] }
def HandoverSignedSaid : Prop := handoverSignedRow.holds Tryd.pinned (OpenSpec.ofChange handoverSignedSpec)

/-- ITS FALSE NEIGHBOUR: 'it returns false'. Refute it at one input. -/
def handoverSignedWrong : ChangeSpec := { name := "handoverSigned", fn := fun _ => fun
  | [d1, d2, d3] => { results := [.lit (.bool false)], args := [d1, d2, d3] }
  | _ => none }
def HandoverSignedWrongFalsely : Prop := handoverSignedRow.holds Tryd.pinned (OpenSpec.ofChange handoverSignedWrong)

/-- 'frankinglaw48.HandoverProves': WHATEVER THE INPUT: true; the input reads as it did. -/
def handoverProvesSpec : ChangeSpec := { name := "handoverProves", fn := fun _ => fun
  | [d1, d2] => { results := [.lit (.bool true)], args := [d1, d2] }
  | _ => none }
def handoverProvesRow : OpenClaim := { program := "ytkkkfkefbjpmaaadoor", sum := "103ea63cd91114e1272de8e5953838dd68cac0e5a21eae2479e1f5e780436e6b", func := "franking/frankinglaw48.HandoverProves", spec := "handoverProves", inPlace := ["internal/bytealg.MakeNoZero"], unfollowed := true, recurses := true, named := ["franking/digest.start", "franking/digest.numbers"], plainKeys := false, apart := false, laid := [("franking/digest.start", laid_franking_digest_start), ("franking/digest.numbers", laid_franking_digest_numbers)] }
def HandoverProvesSaid : Prop := handoverProvesRow.holds Tryd.pinned (OpenSpec.ofChange handoverProvesSpec)

/-- ITS FALSE NEIGHBOUR: 'it returns false'. Refute it at one input. -/
def handoverProvesWrong : ChangeSpec := { name := "handoverProves", fn := fun _ => fun
  | [d1, d2] => { results := [.lit (.bool false)], args := [d1, d2] }
  | _ => none }
def HandoverProvesWrongFalsely : Prop := handoverProvesRow.holds Tryd.pinned (OpenSpec.ofChange handoverProvesWrong)

/-- 'frankinglaw51.CopiesSpec': WHATEVER THE INPUT: true; the input reads as it did. -/
def copiesSpecSpec : ChangeSpec := { name := "copiesSpec", fn := fun _ => fun
  | [d1, d2, d3, d4, d5] => { results := [.lit (.bool true)], args := [d1, d2, d3, d4, d5] }
  | _ => none }
def copiesSpecRow : OpenClaim := { program := "ytkkkfkefbjpmaaadoor", sum := "103ea63cd91114e1272de8e5953838dd68cac0e5a21eae2479e1f5e780436e6b", func := "franking/frankinglaw51.CopiesSpec", spec := "copiesSpec", unfollowed := true, recurses := true, named := ["franking/digest.start", "franking/digest.numbers"], plainKeys := false, apart := false, laid := [("franking/digest.start", laid_franking_digest_start), ("franking/digest.numbers", laid_franking_digest_numbers)] }
def CopiesSpecSaid : Prop := copiesSpecRow.holds Tryd.pinned (OpenSpec.ofChange copiesSpecSpec)

/-- ITS FALSE NEIGHBOUR: 'it returns false'. Refute it at one input. -/
def copiesSpecWrong : ChangeSpec := { name := "copiesSpec", fn := fun _ => fun
  | [d1, d2, d3, d4, d5] => { results := [.lit (.bool false)], args := [d1, d2, d3, d4, d5] }
  | _ => none }
def CopiesSpecWrongFalsely : Prop := copiesSpecRow.holds Tryd.pinned (OpenSpec.ofChange copiesSpecWrong)

/-- 'frankinglaw51.CopiesCaught': WHATEVER THE INPUT: true; the input reads as it did. -/
def copiesCaughtSpec : ChangeSpec := { name := "copiesCaught", fn := fun _ => fun
  | [d1, d2, d3, d4] => { results := [.lit (.bool true)], args := [d1, d2, d3, d4] }
  | _ => none }
def copiesCaughtRow : OpenClaim := { program := "ytkkkfkefbjpmaaadoor", sum := "103ea63cd91114e1272de8e5953838dd68cac0e5a21eae2479e1f5e780436e6b", func := "franking/frankinglaw51.CopiesCaught", spec := "copiesCaught", unfollowed := true, recurses := true, named := ["franking/digest.start", "franking/digest.numbers"], plainKeys := false, apart := false, laid := [("franking/digest.start", laid_franking_digest_start), ("franking/digest.numbers", laid_franking_digest_numbers)] }
def CopiesCaughtSaid : Prop := copiesCaughtRow.holds Tryd.pinned (OpenSpec.ofChange copiesCaughtSpec)

/-- ITS FALSE NEIGHBOUR: 'it returns false'. Refute it at one input. -/
def copiesCaughtWrong : ChangeSpec := { name := "copiesCaught", fn := fun _ => fun
  | [d1, d2, d3, d4] => { results := [.lit (.bool false)], args := [d1, d2, d3, d4] }
  | _ => none }
def CopiesCaughtWrongFalsely : Prop := copiesCaughtRow.holds Tryd.pinned (OpenSpec.ofChange copiesCaughtWrong)

/-- 'frankinglaw51.CopiesTrusted': WHATEVER THE INPUT: true; the input reads as it did. -/
def copiesTrustedSpec : ChangeSpec := { name := "copiesTrusted", fn := fun _ => fun
  | [d1, d2] => { results := [.lit (.bool true)], args := [d1, d2] }
  | _ => none }
def copiesTrustedRow : OpenClaim := { program := "ytkkkfkefbjpmaaadoor", sum := "103ea63cd91114e1272de8e5953838dd68cac0e5a21eae2479e1f5e780436e6b", func := "franking/frankinglaw51.CopiesTrusted", spec := "copiesTrusted", unfollowed := true, recurses := true, named := ["franking/digest.start", "franking/digest.numbers"], plainKeys := false, apart := false, laid := [("franking/digest.start", laid_franking_digest_start), ("franking/digest.numbers", laid_franking_digest_numbers)] }
def CopiesTrustedSaid : Prop := copiesTrustedRow.holds Tryd.pinned (OpenSpec.ofChange copiesTrustedSpec)

/-- ITS FALSE NEIGHBOUR: 'it returns false'. Refute it at one input. -/
def copiesTrustedWrong : ChangeSpec := { name := "copiesTrusted", fn := fun _ => fun
  | [d1, d2] => { results := [.lit (.bool false)], args := [d1, d2] }
  | _ => none }
def CopiesTrustedWrongFalsely : Prop := copiesTrustedRow.holds Tryd.pinned (OpenSpec.ofChange copiesTrustedWrong)

/-- 'frankinglaw51.CopiesMore': WHATEVER THE INPUT: true; the input reads as it did. -/
def copiesMoreSpec : ChangeSpec := { name := "copiesMore", fn := fun _ => fun
  | [d1, d2, d3, d4] => { results := [.lit (.bool true)], args := [d1, d2, d3, d4] }
  | _ => none }
def copiesMoreRow : OpenClaim := { program := "ytkkkfkefbjpmaaadoor", sum := "103ea63cd91114e1272de8e5953838dd68cac0e5a21eae2479e1f5e780436e6b", func := "franking/frankinglaw51.CopiesMore", spec := "copiesMore", unfollowed := true, recurses := true, named := ["franking/digest.start", "franking/digest.numbers"], plainKeys := false, apart := false, laid := [("franking/digest.start", laid_franking_digest_start), ("franking/digest.numbers", laid_franking_digest_numbers)] }
def CopiesMoreSaid : Prop := copiesMoreRow.holds Tryd.pinned (OpenSpec.ofChange copiesMoreSpec)

/-- ITS FALSE NEIGHBOUR: 'it returns false'. Refute it at one input. -/
def copiesMoreWrong : ChangeSpec := { name := "copiesMore", fn := fun _ => fun
  | [d1, d2, d3, d4] => { results := [.lit (.bool false)], args := [d1, d2, d3, d4] }
  | _ => none }
def CopiesMoreWrongFalsely : Prop := copiesMoreRow.holds Tryd.pinned (OpenSpec.ofChange copiesMoreWrong)

/- THE SECOND FORM. 'bulk': how many values and letters a reading holds, each counted each time it is reached (what is shared counts as often as it is met; a slice's spare places count too). A statement '..UptoSaid' is the law's where the arguments, and the package variables that the reading takes, are together of bulk at most 1048576: NARROWER than '..Said'. Prove '..Said' where nothing that the law and all that it calls make is longer than what came in: it says more and counts as full. Else prove '..UptoSaid'. A law counts once. -/
mutual
def uptoBulk {H : Type} : DataW H → Nat
  | .lit (.string bytes) => bytes.length + 1
  | .lit _ => 1
  | .nil => 1
  | .ptr d => uptoBulk d + 1
  | .slice elems spare => uptoBulkAll elems + uptoBulkAll spare + 1
  | .agg parts => uptoBulkAll parts + 1
  | .iface _ d => uptoBulk d + 1
  | .map entries => uptoBulkEntries entries + 1
  | .held _ => 1
def uptoBulkAll {H : Type} : List (DataW H) → Nat
  | [] => 0
  | d :: r => uptoBulk d + uptoBulkAll r
def uptoBulkEntries {H : Type} : List (Lit × DataW H) → Nat
  | [] => 0
  | x :: r => uptoBulkEntry x + uptoBulkEntries r
def uptoBulkEntry {H : Type} : Lit × DataW H → Nat
  | (.string bytes, d) => bytes.length + uptoBulk d + 1
  | (_, d) => uptoBulk d + 1
 end
def uptoSmall : (H : Type) → List (DataW H) → Bool := fun _ ds => decide (uptoBulkAll ds ≤ 1048576)
def OpenSpec.upto (s : _root_.Go.ChangeSpec) : _root_.Go.OpenSpec := { _root_.Go.OpenSpec.ofChange s with cond := some uptoSmall }

/-- 'frankinglaw48.HandoverSpec', WHERE WHAT IT READS IS OF BULK AT MOST 1048576: true; the input reads as it did. -/
def handoverSpecUptoRow : OpenClaim := { program := "ytkkkfkefbjpmaaadoor", sum := "103ea63cd91114e1272de8e5953838dd68cac0e5a21eae2479e1f5e780436e6b", func := "franking/frankinglaw48.HandoverSpec", spec := "handoverSpec", inPlace := ["internal/bytealg.MakeNoZero"], unfollowed := true, recurses := true, named := ["franking/digest.start", "franking/digest.numbers"], plainKeys := false, apart := false, laid := [("franking/digest.start", laid_franking_digest_start), ("franking/digest.numbers", laid_franking_digest_numbers)], narrowed := true }
def HandoverSpecUptoSaid : Prop := handoverSpecUptoRow.holds Tryd.pinned (OpenSpec.upto handoverSpecSpec)

/-- 'frankinglaw48.HandoverRootSpec', WHERE WHAT IT READS IS OF BULK AT MOST 1048576: true; the input reads as it did. -/
def handoverRootSpecUptoRow : OpenClaim := { program := "ytkkkfkefbjpmaaadoor", sum := "103ea63cd91114e1272de8e5953838dd68cac0e5a21eae2479e1f5e780436e6b", func := "franking/frankinglaw48.HandoverRootSpec", spec := "handoverRootSpec", inPlace := ["internal/bytealg.MakeNoZero"], unfollowed := true, recurses := true, named := ["franking/digest.start", "franking/digest.numbers"], plainKeys := false, apart := false, laid := [("franking/digest.start", laid_franking_digest_start), ("franking/digest.numbers", laid_franking_digest_numbers)], narrowed := true }
def HandoverRootSpecUptoSaid : Prop := handoverRootSpecUptoRow.holds Tryd.pinned (OpenSpec.upto handoverRootSpecSpec)

/-- 'frankinglaw48.HandoverClash', WHERE WHAT IT READS IS OF BULK AT MOST 1048576: true; the input reads as it did. -/
def handoverClashUptoRow : OpenClaim := { program := "ytkkkfkefbjpmaaadoor", sum := "103ea63cd91114e1272de8e5953838dd68cac0e5a21eae2479e1f5e780436e6b", func := "franking/frankinglaw48.HandoverClash", spec := "handoverClash", inPlace := ["internal/bytealg.MakeNoZero"], unfollowed := true, recurses := true, named := ["franking/digest.start", "franking/digest.numbers"], plainKeys := false, apart := false, laid := [("franking/digest.start", laid_franking_digest_start), ("franking/digest.numbers", laid_franking_digest_numbers)], narrowed := true }
def HandoverClashUptoSaid : Prop := handoverClashUptoRow.holds Tryd.pinned (OpenSpec.upto handoverClashSpec)

/-- 'frankinglaw48.HandoverSigned', WHERE WHAT IT READS IS OF BULK AT MOST 1048576: true; the input reads as it did. -/
def handoverSignedUptoRow : OpenClaim := { program := "ytkkkfkefbjpmaaadoor", sum := "103ea63cd91114e1272de8e5953838dd68cac0e5a21eae2479e1f5e780436e6b", func := "franking/frankinglaw48.HandoverSigned", spec := "handoverSigned", inPlace := ["internal/bytealg.MakeNoZero"], unfollowed := true, recurses := true, named := ["franking/digest.start", "franking/digest.numbers"], plainKeys := false, apart := false, laid := [("franking/digest.start", laid_franking_digest_start), ("franking/digest.numbers", laid_franking_digest_numbers)], narrowed := true }
def HandoverSignedUptoSaid : Prop := handoverSignedUptoRow.holds Tryd.pinned (OpenSpec.upto handoverSignedSpec)

/-- 'frankinglaw48.HandoverProves', WHERE WHAT IT READS IS OF BULK AT MOST 1048576: true; the input reads as it did. -/
def handoverProvesUptoRow : OpenClaim := { program := "ytkkkfkefbjpmaaadoor", sum := "103ea63cd91114e1272de8e5953838dd68cac0e5a21eae2479e1f5e780436e6b", func := "franking/frankinglaw48.HandoverProves", spec := "handoverProves", inPlace := ["internal/bytealg.MakeNoZero"], unfollowed := true, recurses := true, named := ["franking/digest.start", "franking/digest.numbers"], plainKeys := false, apart := false, laid := [("franking/digest.start", laid_franking_digest_start), ("franking/digest.numbers", laid_franking_digest_numbers)], narrowed := true }
def HandoverProvesUptoSaid : Prop := handoverProvesUptoRow.holds Tryd.pinned (OpenSpec.upto handoverProvesSpec)

/-- 'frankinglaw51.CopiesSpec', WHERE WHAT IT READS IS OF BULK AT MOST 1048576: true; the input reads as it did. -/
def copiesSpecUptoRow : OpenClaim := { program := "ytkkkfkefbjpmaaadoor", sum := "103ea63cd91114e1272de8e5953838dd68cac0e5a21eae2479e1f5e780436e6b", func := "franking/frankinglaw51.CopiesSpec", spec := "copiesSpec", unfollowed := true, recurses := true, named := ["franking/digest.start", "franking/digest.numbers"], plainKeys := false, apart := false, laid := [("franking/digest.start", laid_franking_digest_start), ("franking/digest.numbers", laid_franking_digest_numbers)], narrowed := true }
def CopiesSpecUptoSaid : Prop := copiesSpecUptoRow.holds Tryd.pinned (OpenSpec.upto copiesSpecSpec)

/-- 'frankinglaw51.CopiesCaught', WHERE WHAT IT READS IS OF BULK AT MOST 1048576: true; the input reads as it did. -/
def copiesCaughtUptoRow : OpenClaim := { program := "ytkkkfkefbjpmaaadoor", sum := "103ea63cd91114e1272de8e5953838dd68cac0e5a21eae2479e1f5e780436e6b", func := "franking/frankinglaw51.CopiesCaught", spec := "copiesCaught", unfollowed := true, recurses := true, named := ["franking/digest.start", "franking/digest.numbers"], plainKeys := false, apart := false, laid := [("franking/digest.start", laid_franking_digest_start), ("franking/digest.numbers", laid_franking_digest_numbers)], narrowed := true }
def CopiesCaughtUptoSaid : Prop := copiesCaughtUptoRow.holds Tryd.pinned (OpenSpec.upto copiesCaughtSpec)

/-- 'frankinglaw51.CopiesTrusted', WHERE WHAT IT READS IS OF BULK AT MOST 1048576: true; the input reads as it did. -/
def copiesTrustedUptoRow : OpenClaim := { program := "ytkkkfkefbjpmaaadoor", sum := "103ea63cd91114e1272de8e5953838dd68cac0e5a21eae2479e1f5e780436e6b", func := "franking/frankinglaw51.CopiesTrusted", spec := "copiesTrusted", unfollowed := true, recurses := true, named := ["franking/digest.start", "franking/digest.numbers"], plainKeys := false, apart := false, laid := [("franking/digest.start", laid_franking_digest_start), ("franking/digest.numbers", laid_franking_digest_numbers)], narrowed := true }
def CopiesTrustedUptoSaid : Prop := copiesTrustedUptoRow.holds Tryd.pinned (OpenSpec.upto copiesTrustedSpec)

/-- 'frankinglaw51.CopiesMore', WHERE WHAT IT READS IS OF BULK AT MOST 1048576: true; the input reads as it did. -/
def copiesMoreUptoRow : OpenClaim := { program := "ytkkkfkefbjpmaaadoor", sum := "103ea63cd91114e1272de8e5953838dd68cac0e5a21eae2479e1f5e780436e6b", func := "franking/frankinglaw51.CopiesMore", spec := "copiesMore", unfollowed := true, recurses := true, named := ["franking/digest.start", "franking/digest.numbers"], plainKeys := false, apart := false, laid := [("franking/digest.start", laid_franking_digest_start), ("franking/digest.numbers", laid_franking_digest_numbers)], narrowed := true }
def CopiesMoreUptoSaid : Prop := copiesMoreUptoRow.holds Tryd.pinned (OpenSpec.upto copiesMoreSpec)

end Rows
end Go.Proofs.YtkkkfkefbjpmaaaDoor
