/-
  NARROWER THAN 'FOR EVERY INPUT', by the rows' own cells (each row's printed sentence says how): OnetimeSpec: laid · OnetimeUseSpec: laid · OnetimeHidden: laid · OnetimeSpent: laid · OnetimeBound: laid · OnetimeReads: laid · StampsIssued: laid · StampsOnce: laid · StampsUnseen: laid.
  DERIVED. THE GIVEN ROWS OF THIS SEAT. 9 by the template 'for every input the law returns true; each argument reads behind the call as it read before'; 0 by the template 'total and deterministic' (their statements: YtcioeedlfbioaaaDoorTotals.lean).
  GIVEN WITH THE SEED: the statements are not yours to turn. If you find one false, say at which input.
  Laid BY PROGRAM, IN A SANDBOX (cutbox-rows.mjs): the forced cells as the released guide's own fill.sh prints them over the translation 9e6c9ef52d3e56ed… (all of the seat's roots in one cut). By AI agents, Wed Nov 11 2026. No macro, syntax, notation, axiom, sorry.
-/
import Derived.Test.YtcioeedlfbioaaaDoorChecked
import GoSem.Claim
import GoSem.ClaimJoined
import GoSem.ClaimMapViews
import Derived.JoinedTies
import Derived.KernelRfl
namespace Go.Proofs.YtcioeedlfbioaaaDoor
/- THE CELL 'sum', in the pinned program and in every row, IS THE sha256 OF THE DUMP (.gsa) THAT YtcioeedlfbioaaaDoorProg.lean LOADS. Nothing in Lean hashes anything: it is a label: what it is worth is what the hold of that sum in a sandbox is worth. -/
noncomputable def Tryd.pinned : Pinned := { name := "ytcioeedlfbioaaadoor", sum := "9e6c9ef52d3e56edaa0b0c58e46f958cc6cc6282c1d62ba6e052374a15562a5c", checked := Tryd.checked }
namespace Rows
def none {H : Type} : Left H := { results := [], args := [] }

/- WHAT THE LISTED PACKAGE-LEVEL VARIABLES READ AS WHEN THE CALL BEGINS. Each datum BY PROGRAM (the guide's laid-datum.mjs) off the statement by which the dump's own 'gosem.cut.vars' lays the variable. In a bare row this is a premise. The card (YtcioeedlfbioaaaDoorCards.lean) ties it to the program's text. -/
def laid_franking_digest_start {H : Type} : DataW H := .agg [.lit (.int .u32 1779033703), .lit (.int .u32 3144134277), .lit (.int .u32 1013904242), .lit (.int .u32 2773480762), .lit (.int .u32 1359893119), .lit (.int .u32 2600822924), .lit (.int .u32 528734635), .lit (.int .u32 1541459225)]
def laid_franking_digest_numbers {H : Type} : DataW H := .agg [.lit (.int .u32 1116352408), .lit (.int .u32 1899447441), .lit (.int .u32 3049323471), .lit (.int .u32 3921009573), .lit (.int .u32 961987163), .lit (.int .u32 1508970993), .lit (.int .u32 2453635748), .lit (.int .u32 2870763221), .lit (.int .u32 3624381080), .lit (.int .u32 310598401), .lit (.int .u32 607225278), .lit (.int .u32 1426881987), .lit (.int .u32 1925078388), .lit (.int .u32 2162078206), .lit (.int .u32 2614888103), .lit (.int .u32 3248222580), .lit (.int .u32 3835390401), .lit (.int .u32 4022224774), .lit (.int .u32 264347078), .lit (.int .u32 604807628), .lit (.int .u32 770255983), .lit (.int .u32 1249150122), .lit (.int .u32 1555081692), .lit (.int .u32 1996064986), .lit (.int .u32 2554220882), .lit (.int .u32 2821834349), .lit (.int .u32 2952996808), .lit (.int .u32 3210313671), .lit (.int .u32 3336571891), .lit (.int .u32 3584528711), .lit (.int .u32 113926993), .lit (.int .u32 338241895), .lit (.int .u32 666307205), .lit (.int .u32 773529912), .lit (.int .u32 1294757372), .lit (.int .u32 1396182291), .lit (.int .u32 1695183700), .lit (.int .u32 1986661051), .lit (.int .u32 2177026350), .lit (.int .u32 2456956037), .lit (.int .u32 2730485921), .lit (.int .u32 2820302411), .lit (.int .u32 3259730800), .lit (.int .u32 3345764771), .lit (.int .u32 3516065817), .lit (.int .u32 3600352804), .lit (.int .u32 4094571909), .lit (.int .u32 275423344), .lit (.int .u32 430227734), .lit (.int .u32 506948616), .lit (.int .u32 659060556), .lit (.int .u32 883997877), .lit (.int .u32 958139571), .lit (.int .u32 1322822218), .lit (.int .u32 1537002063), .lit (.int .u32 1747873779), .lit (.int .u32 1955562222), .lit (.int .u32 2024104815), .lit (.int .u32 2227730452), .lit (.int .u32 2361852424), .lit (.int .u32 2428436474), .lit (.int .u32 2756734187), .lit (.int .u32 3204031479), .lit (.int .u32 3329325298)]

/-- 'frankinglaw16.OnetimeSpec': WHATEVER THE INPUT: true; the input reads as it did. -/
def onetimeSpecSpec : ChangeSpec := { name := "onetimeSpec", fn := fun _ => fun
  | [d1, d2, d3, d4, d5] => { results := [.lit (.bool true)], args := [d1, d2, d3, d4, d5] }
  | _ => none }
def onetimeSpecRow : OpenClaim := { program := "ytcioeedlfbioaaadoor", sum := "9e6c9ef52d3e56edaa0b0c58e46f958cc6cc6282c1d62ba6e052374a15562a5c", func := "franking/frankinglaw16.OnetimeSpec", spec := "onetimeSpec", inPlace := ["internal/bytealg.Compare", "slices.overlaps[franking/api.Digest]"], unfollowed := true, recurses := true, named := ["franking/digest.start", "franking/digest.numbers"], apart := false, laid := [("franking/digest.start", laid_franking_digest_start), ("franking/digest.numbers", laid_franking_digest_numbers)] }
def OnetimeSpecSaid : Prop := onetimeSpecRow.holds Tryd.pinned (OpenSpec.ofChange onetimeSpecSpec)

/-- ITS FALSE NEIGHBOUR: 'it returns false'. Refute it at one input. -/
def onetimeSpecWrong : ChangeSpec := { name := "onetimeSpec", fn := fun _ => fun
  | [d1, d2, d3, d4, d5] => { results := [.lit (.bool false)], args := [d1, d2, d3, d4, d5] }
  | _ => none }
def OnetimeSpecWrongFalsely : Prop := onetimeSpecRow.holds Tryd.pinned (OpenSpec.ofChange onetimeSpecWrong)

/-- 'frankinglaw16.OnetimeUseSpec': WHATEVER THE INPUT: true; the input reads as it did. -/
def onetimeUseSpecSpec : ChangeSpec := { name := "onetimeUseSpec", fn := fun _ => fun
  | [d1, d2, d3, d4] => { results := [.lit (.bool true)], args := [d1, d2, d3, d4] }
  | _ => none }
def onetimeUseSpecRow : OpenClaim := { program := "ytcioeedlfbioaaadoor", sum := "9e6c9ef52d3e56edaa0b0c58e46f958cc6cc6282c1d62ba6e052374a15562a5c", func := "franking/frankinglaw16.OnetimeUseSpec", spec := "onetimeUseSpec", inPlace := ["internal/bytealg.Compare", "slices.overlaps[franking/api.Digest]"], unfollowed := true, recurses := true, named := ["franking/digest.start", "franking/digest.numbers"], apart := false, laid := [("franking/digest.start", laid_franking_digest_start), ("franking/digest.numbers", laid_franking_digest_numbers)] }
def OnetimeUseSpecSaid : Prop := onetimeUseSpecRow.holds Tryd.pinned (OpenSpec.ofChange onetimeUseSpecSpec)

/-- ITS FALSE NEIGHBOUR: 'it returns false'. Refute it at one input. -/
def onetimeUseSpecWrong : ChangeSpec := { name := "onetimeUseSpec", fn := fun _ => fun
  | [d1, d2, d3, d4] => { results := [.lit (.bool false)], args := [d1, d2, d3, d4] }
  | _ => none }
def OnetimeUseSpecWrongFalsely : Prop := onetimeUseSpecRow.holds Tryd.pinned (OpenSpec.ofChange onetimeUseSpecWrong)

/-- 'frankinglaw16.OnetimeHidden': WHATEVER THE INPUT: true; the input reads as it did. -/
def onetimeHiddenSpec : ChangeSpec := { name := "onetimeHidden", fn := fun _ => fun
  | [d1, d2, d3, d4, d5] => { results := [.lit (.bool true)], args := [d1, d2, d3, d4, d5] }
  | _ => none }
def onetimeHiddenRow : OpenClaim := { program := "ytcioeedlfbioaaadoor", sum := "9e6c9ef52d3e56edaa0b0c58e46f958cc6cc6282c1d62ba6e052374a15562a5c", func := "franking/frankinglaw16.OnetimeHidden", spec := "onetimeHidden", inPlace := ["internal/bytealg.Compare", "slices.overlaps[franking/api.Digest]"], unfollowed := true, recurses := true, named := ["franking/digest.start", "franking/digest.numbers"], apart := false, laid := [("franking/digest.start", laid_franking_digest_start), ("franking/digest.numbers", laid_franking_digest_numbers)] }
def OnetimeHiddenSaid : Prop := onetimeHiddenRow.holds Tryd.pinned (OpenSpec.ofChange onetimeHiddenSpec)

/-- ITS FALSE NEIGHBOUR: 'it returns false'. Refute it at one input. -/
def onetimeHiddenWrong : ChangeSpec := { name := "onetimeHidden", fn := fun _ => fun
  | [d1, d2, d3, d4, d5] => { results := [.lit (.bool false)], args := [d1, d2, d3, d4, d5] }
  | _ => none }
def OnetimeHiddenWrongFalsely : Prop := onetimeHiddenRow.holds Tryd.pinned (OpenSpec.ofChange onetimeHiddenWrong)

/-- 'frankinglaw16.OnetimeSpent': WHATEVER THE INPUT: true; the input reads as it did. -/
def onetimeSpentSpec : ChangeSpec := { name := "onetimeSpent", fn := fun _ => fun
  | [d1, d2, d3] => { results := [.lit (.bool true)], args := [d1, d2, d3] }
  | _ => none }
def onetimeSpentRow : OpenClaim := { program := "ytcioeedlfbioaaadoor", sum := "9e6c9ef52d3e56edaa0b0c58e46f958cc6cc6282c1d62ba6e052374a15562a5c", func := "franking/frankinglaw16.OnetimeSpent", spec := "onetimeSpent", inPlace := ["internal/bytealg.Compare", "slices.overlaps[franking/api.Digest]"], unfollowed := true, recurses := true, named := ["franking/digest.start", "franking/digest.numbers"], apart := false, laid := [("franking/digest.start", laid_franking_digest_start), ("franking/digest.numbers", laid_franking_digest_numbers)] }
def OnetimeSpentSaid : Prop := onetimeSpentRow.holds Tryd.pinned (OpenSpec.ofChange onetimeSpentSpec)

/-- ITS FALSE NEIGHBOUR: 'it returns false'. Refute it at one input. -/
def onetimeSpentWrong : ChangeSpec := { name := "onetimeSpent", fn := fun _ => fun
  | [d1, d2, d3] => { results := [.lit (.bool false)], args := [d1, d2, d3] }
  | _ => none }
def OnetimeSpentWrongFalsely : Prop := onetimeSpentRow.holds Tryd.pinned (OpenSpec.ofChange onetimeSpentWrong)

/-- 'frankinglaw16.OnetimeBound': WHATEVER THE INPUT: true; the input reads as it did. -/
def onetimeBoundSpec : ChangeSpec := { name := "onetimeBound", fn := fun _ => fun
  | [d1, d2, d3, d4] => { results := [.lit (.bool true)], args := [d1, d2, d3, d4] }
  | _ => none }
def onetimeBoundRow : OpenClaim := { program := "ytcioeedlfbioaaadoor", sum := "9e6c9ef52d3e56edaa0b0c58e46f958cc6cc6282c1d62ba6e052374a15562a5c", func := "franking/frankinglaw16.OnetimeBound", spec := "onetimeBound", inPlace := ["internal/bytealg.Compare", "slices.overlaps[franking/api.Digest]"], unfollowed := true, recurses := true, named := ["franking/digest.start", "franking/digest.numbers"], apart := false, laid := [("franking/digest.start", laid_franking_digest_start), ("franking/digest.numbers", laid_franking_digest_numbers)] }
def OnetimeBoundSaid : Prop := onetimeBoundRow.holds Tryd.pinned (OpenSpec.ofChange onetimeBoundSpec)

/-- ITS FALSE NEIGHBOUR: 'it returns false'. Refute it at one input. -/
def onetimeBoundWrong : ChangeSpec := { name := "onetimeBound", fn := fun _ => fun
  | [d1, d2, d3, d4] => { results := [.lit (.bool false)], args := [d1, d2, d3, d4] }
  | _ => none }
def OnetimeBoundWrongFalsely : Prop := onetimeBoundRow.holds Tryd.pinned (OpenSpec.ofChange onetimeBoundWrong)

/-- 'frankinglaw16.OnetimeReads': WHATEVER THE INPUT: true; the input reads as it did. -/
def onetimeReadsSpec : ChangeSpec := { name := "onetimeReads", fn := fun _ => fun
  | [d1, d2, d3, d4, d5, d6, d7] => { results := [.lit (.bool true)], args := [d1, d2, d3, d4, d5, d6, d7] }
  | _ => none }
def onetimeReadsRow : OpenClaim := { program := "ytcioeedlfbioaaadoor", sum := "9e6c9ef52d3e56edaa0b0c58e46f958cc6cc6282c1d62ba6e052374a15562a5c", func := "franking/frankinglaw16.OnetimeReads", spec := "onetimeReads", inPlace := ["internal/bytealg.Compare", "slices.overlaps[franking/api.Digest]"], unfollowed := true, recurses := true, named := ["franking/digest.start", "franking/digest.numbers"], apart := false, laid := [("franking/digest.start", laid_franking_digest_start), ("franking/digest.numbers", laid_franking_digest_numbers)] }
def OnetimeReadsSaid : Prop := onetimeReadsRow.holds Tryd.pinned (OpenSpec.ofChange onetimeReadsSpec)

/-- ITS FALSE NEIGHBOUR: 'it returns false'. Refute it at one input. -/
def onetimeReadsWrong : ChangeSpec := { name := "onetimeReads", fn := fun _ => fun
  | [d1, d2, d3, d4, d5, d6, d7] => { results := [.lit (.bool false)], args := [d1, d2, d3, d4, d5, d6, d7] }
  | _ => none }
def OnetimeReadsWrongFalsely : Prop := onetimeReadsRow.holds Tryd.pinned (OpenSpec.ofChange onetimeReadsWrong)

/-- 'frankinglaw37.StampsIssued': WHATEVER THE INPUT: true; the input reads as it did. -/
def stampsIssuedSpec : ChangeSpec := { name := "stampsIssued", fn := fun _ => fun
  | [d1, d2, d3, d4, d5, d6] => { results := [.lit (.bool true)], args := [d1, d2, d3, d4, d5, d6] }
  | _ => none }
def stampsIssuedRow : OpenClaim := { program := "ytcioeedlfbioaaadoor", sum := "9e6c9ef52d3e56edaa0b0c58e46f958cc6cc6282c1d62ba6e052374a15562a5c", func := "franking/frankinglaw37.StampsIssued", spec := "stampsIssued", inPlace := ["internal/bytealg.Compare", "slices.overlaps[franking/api.Digest]"], unfollowed := true, recurses := true, named := ["franking/digest.start", "franking/digest.numbers"], apart := false, laid := [("franking/digest.start", laid_franking_digest_start), ("franking/digest.numbers", laid_franking_digest_numbers)] }
def StampsIssuedSaid : Prop := stampsIssuedRow.holds Tryd.pinned (OpenSpec.ofChange stampsIssuedSpec)

/-- ITS FALSE NEIGHBOUR: 'it returns false'. Refute it at one input. -/
def stampsIssuedWrong : ChangeSpec := { name := "stampsIssued", fn := fun _ => fun
  | [d1, d2, d3, d4, d5, d6] => { results := [.lit (.bool false)], args := [d1, d2, d3, d4, d5, d6] }
  | _ => none }
def StampsIssuedWrongFalsely : Prop := stampsIssuedRow.holds Tryd.pinned (OpenSpec.ofChange stampsIssuedWrong)

/-- 'frankinglaw37.StampsOnce': WHATEVER THE INPUT: true; the input reads as it did. -/
def stampsOnceSpec : ChangeSpec := { name := "stampsOnce", fn := fun _ => fun
  | [d1, d2, d3] => { results := [.lit (.bool true)], args := [d1, d2, d3] }
  | _ => none }
def stampsOnceRow : OpenClaim := { program := "ytcioeedlfbioaaadoor", sum := "9e6c9ef52d3e56edaa0b0c58e46f958cc6cc6282c1d62ba6e052374a15562a5c", func := "franking/frankinglaw37.StampsOnce", spec := "stampsOnce", inPlace := ["internal/bytealg.Compare", "slices.overlaps[franking/api.Digest]"], unfollowed := true, recurses := true, named := ["franking/digest.start", "franking/digest.numbers"], apart := false, laid := [("franking/digest.start", laid_franking_digest_start), ("franking/digest.numbers", laid_franking_digest_numbers)] }
def StampsOnceSaid : Prop := stampsOnceRow.holds Tryd.pinned (OpenSpec.ofChange stampsOnceSpec)

/-- ITS FALSE NEIGHBOUR: 'it returns false'. Refute it at one input. -/
def stampsOnceWrong : ChangeSpec := { name := "stampsOnce", fn := fun _ => fun
  | [d1, d2, d3] => { results := [.lit (.bool false)], args := [d1, d2, d3] }
  | _ => none }
def StampsOnceWrongFalsely : Prop := stampsOnceRow.holds Tryd.pinned (OpenSpec.ofChange stampsOnceWrong)

/-- 'frankinglaw37.StampsUnseen': WHATEVER THE INPUT: true; the input reads as it did. -/
def stampsUnseenSpec : ChangeSpec := { name := "stampsUnseen", fn := fun _ => fun
  | [d1, d2, d3, d4, d5, d6, d7, d8, d9] => { results := [.lit (.bool true)], args := [d1, d2, d3, d4, d5, d6, d7, d8, d9] }
  | _ => none }
def stampsUnseenRow : OpenClaim := { program := "ytcioeedlfbioaaadoor", sum := "9e6c9ef52d3e56edaa0b0c58e46f958cc6cc6282c1d62ba6e052374a15562a5c", func := "franking/frankinglaw37.StampsUnseen", spec := "stampsUnseen", inPlace := ["internal/bytealg.Compare", "slices.overlaps[franking/api.Digest]"], unfollowed := true, recurses := true, named := ["franking/digest.start", "franking/digest.numbers"], apart := false, laid := [("franking/digest.start", laid_franking_digest_start), ("franking/digest.numbers", laid_franking_digest_numbers)] }
def StampsUnseenSaid : Prop := stampsUnseenRow.holds Tryd.pinned (OpenSpec.ofChange stampsUnseenSpec)

/-- ITS FALSE NEIGHBOUR: 'it returns false'. Refute it at one input. -/
def stampsUnseenWrong : ChangeSpec := { name := "stampsUnseen", fn := fun _ => fun
  | [d1, d2, d3, d4, d5, d6, d7, d8, d9] => { results := [.lit (.bool false)], args := [d1, d2, d3, d4, d5, d6, d7, d8, d9] }
  | _ => none }
def StampsUnseenWrongFalsely : Prop := stampsUnseenRow.holds Tryd.pinned (OpenSpec.ofChange stampsUnseenWrong)

/- THE SECOND FORM. 'bulk': how many values and letters a reading holds, each counted each time it is reached (what is shared counts as often as it is met; a slice's spare places count too). A statement '..UptoSaid' is the law's where the arguments, and the package variables that the reading takes, are together of bulk at most 1048576: NARROWER than '..Said'. Prove '..Said' where nothing that the law and all that it calls make is longer than what came in: it says more and counts as full. Else prove '..UptoSaid'. A law counts once. -/
mutual
def uptoBulk {H : Type} : DataW H → Nat
  | .lit (.string bytes) => bytes.length + 1
  | .lit _ => 1
  | .nil => 1
  | .ptr d => uptoBulk d + 1
  | .slice elems spare => uptoBulkAll elems + uptoBulkAll spare + 1
  | .agg parts => uptoBulkAll parts + 1
  | .iface _ d => uptoBulk d + 1
  | .map entries => uptoBulkEntries entries + 1
  | .held _ => 1
def uptoBulkAll {H : Type} : List (DataW H) → Nat
  | [] => 0
  | d :: r => uptoBulk d + uptoBulkAll r
def uptoBulkEntries {H : Type} : List (Lit × DataW H) → Nat
  | [] => 0
  | x :: r => uptoBulkEntry x + uptoBulkEntries r
def uptoBulkEntry {H : Type} : Lit × DataW H → Nat
  | (.string bytes, d) => bytes.length + uptoBulk d + 1
  | (_, d) => uptoBulk d + 1
 end
def uptoSmall : (H : Type) → List (DataW H) → Bool := fun _ ds => decide (uptoBulkAll ds ≤ 1048576)
def OpenSpec.upto (s : _root_.Go.ChangeSpec) : _root_.Go.OpenSpec := { _root_.Go.OpenSpec.ofChange s with cond := some uptoSmall }

/-- 'frankinglaw16.OnetimeSpec', WHERE WHAT IT READS IS OF BULK AT MOST 1048576: true; the input reads as it did. -/
def onetimeSpecUptoRow : OpenClaim := { program := "ytcioeedlfbioaaadoor", sum := "9e6c9ef52d3e56edaa0b0c58e46f958cc6cc6282c1d62ba6e052374a15562a5c", func := "franking/frankinglaw16.OnetimeSpec", spec := "onetimeSpec", inPlace := ["internal/bytealg.Compare", "slices.overlaps[franking/api.Digest]"], unfollowed := true, recurses := true, named := ["franking/digest.start", "franking/digest.numbers"], apart := false, laid := [("franking/digest.start", laid_franking_digest_start), ("franking/digest.numbers", laid_franking_digest_numbers)], narrowed := true }
def OnetimeSpecUptoSaid : Prop := onetimeSpecUptoRow.holds Tryd.pinned (OpenSpec.upto onetimeSpecSpec)

/-- 'frankinglaw16.OnetimeUseSpec', WHERE WHAT IT READS IS OF BULK AT MOST 1048576: true; the input reads as it did. -/
def onetimeUseSpecUptoRow : OpenClaim := { program := "ytcioeedlfbioaaadoor", sum := "9e6c9ef52d3e56edaa0b0c58e46f958cc6cc6282c1d62ba6e052374a15562a5c", func := "franking/frankinglaw16.OnetimeUseSpec", spec := "onetimeUseSpec", inPlace := ["internal/bytealg.Compare", "slices.overlaps[franking/api.Digest]"], unfollowed := true, recurses := true, named := ["franking/digest.start", "franking/digest.numbers"], apart := false, laid := [("franking/digest.start", laid_franking_digest_start), ("franking/digest.numbers", laid_franking_digest_numbers)], narrowed := true }
def OnetimeUseSpecUptoSaid : Prop := onetimeUseSpecUptoRow.holds Tryd.pinned (OpenSpec.upto onetimeUseSpecSpec)

/-- 'frankinglaw16.OnetimeHidden', WHERE WHAT IT READS IS OF BULK AT MOST 1048576: true; the input reads as it did. -/
def onetimeHiddenUptoRow : OpenClaim := { program := "ytcioeedlfbioaaadoor", sum := "9e6c9ef52d3e56edaa0b0c58e46f958cc6cc6282c1d62ba6e052374a15562a5c", func := "franking/frankinglaw16.OnetimeHidden", spec := "onetimeHidden", inPlace := ["internal/bytealg.Compare", "slices.overlaps[franking/api.Digest]"], unfollowed := true, recurses := true, named := ["franking/digest.start", "franking/digest.numbers"], apart := false, laid := [("franking/digest.start", laid_franking_digest_start), ("franking/digest.numbers", laid_franking_digest_numbers)], narrowed := true }
def OnetimeHiddenUptoSaid : Prop := onetimeHiddenUptoRow.holds Tryd.pinned (OpenSpec.upto onetimeHiddenSpec)

/-- 'frankinglaw16.OnetimeSpent', WHERE WHAT IT READS IS OF BULK AT MOST 1048576: true; the input reads as it did. -/
def onetimeSpentUptoRow : OpenClaim := { program := "ytcioeedlfbioaaadoor", sum := "9e6c9ef52d3e56edaa0b0c58e46f958cc6cc6282c1d62ba6e052374a15562a5c", func := "franking/frankinglaw16.OnetimeSpent", spec := "onetimeSpent", inPlace := ["internal/bytealg.Compare", "slices.overlaps[franking/api.Digest]"], unfollowed := true, recurses := true, named := ["franking/digest.start", "franking/digest.numbers"], apart := false, laid := [("franking/digest.start", laid_franking_digest_start), ("franking/digest.numbers", laid_franking_digest_numbers)], narrowed := true }
def OnetimeSpentUptoSaid : Prop := onetimeSpentUptoRow.holds Tryd.pinned (OpenSpec.upto onetimeSpentSpec)

/-- 'frankinglaw16.OnetimeBound', WHERE WHAT IT READS IS OF BULK AT MOST 1048576: true; the input reads as it did. -/
def onetimeBoundUptoRow : OpenClaim := { program := "ytcioeedlfbioaaadoor", sum := "9e6c9ef52d3e56edaa0b0c58e46f958cc6cc6282c1d62ba6e052374a15562a5c", func := "franking/frankinglaw16.OnetimeBound", spec := "onetimeBound", inPlace := ["internal/bytealg.Compare", "slices.overlaps[franking/api.Digest]"], unfollowed := true, recurses := true, named := ["franking/digest.start", "franking/digest.numbers"], apart := false, laid := [("franking/digest.start", laid_franking_digest_start), ("franking/digest.numbers", laid_franking_digest_numbers)], narrowed := true }
def OnetimeBoundUptoSaid : Prop := onetimeBoundUptoRow.holds Tryd.pinned (OpenSpec.upto onetimeBoundSpec)

/-- 'frankinglaw16.OnetimeReads', WHERE WHAT IT READS IS OF BULK AT MOST 1048576: true; the input reads as it did. -/
def onetimeReadsUptoRow : OpenClaim := { program := "ytcioeedlfbioaaadoor", sum := "9e6c9ef52d3e56edaa0b0c58e46f958cc6cc6282c1d62ba6e052374a15562a5c", func := "franking/frankinglaw16.OnetimeReads", spec := "onetimeReads", inPlace := ["internal/bytealg.Compare", "slices.overlaps[franking/api.Digest]"], unfollowed := true, recurses := true, named := ["franking/digest.start", "franking/digest.numbers"], apart := false, laid := [("franking/digest.start", laid_franking_digest_start), ("franking/digest.numbers", laid_franking_digest_numbers)], narrowed := true }
def OnetimeReadsUptoSaid : Prop := onetimeReadsUptoRow.holds Tryd.pinned (OpenSpec.upto onetimeReadsSpec)

/-- 'frankinglaw37.StampsIssued', WHERE WHAT IT READS IS OF BULK AT MOST 1048576: true; the input reads as it did. -/
def stampsIssuedUptoRow : OpenClaim := { program := "ytcioeedlfbioaaadoor", sum := "9e6c9ef52d3e56edaa0b0c58e46f958cc6cc6282c1d62ba6e052374a15562a5c", func := "franking/frankinglaw37.StampsIssued", spec := "stampsIssued", inPlace := ["internal/bytealg.Compare", "slices.overlaps[franking/api.Digest]"], unfollowed := true, recurses := true, named := ["franking/digest.start", "franking/digest.numbers"], apart := false, laid := [("franking/digest.start", laid_franking_digest_start), ("franking/digest.numbers", laid_franking_digest_numbers)], narrowed := true }
def StampsIssuedUptoSaid : Prop := stampsIssuedUptoRow.holds Tryd.pinned (OpenSpec.upto stampsIssuedSpec)

/-- 'frankinglaw37.StampsOnce', WHERE WHAT IT READS IS OF BULK AT MOST 1048576: true; the input reads as it did. -/
def stampsOnceUptoRow : OpenClaim := { program := "ytcioeedlfbioaaadoor", sum := "9e6c9ef52d3e56edaa0b0c58e46f958cc6cc6282c1d62ba6e052374a15562a5c", func := "franking/frankinglaw37.StampsOnce", spec := "stampsOnce", inPlace := ["internal/bytealg.Compare", "slices.overlaps[franking/api.Digest]"], unfollowed := true, recurses := true, named := ["franking/digest.start", "franking/digest.numbers"], apart := false, laid := [("franking/digest.start", laid_franking_digest_start), ("franking/digest.numbers", laid_franking_digest_numbers)], narrowed := true }
def StampsOnceUptoSaid : Prop := stampsOnceUptoRow.holds Tryd.pinned (OpenSpec.upto stampsOnceSpec)

/-- 'frankinglaw37.StampsUnseen', WHERE WHAT IT READS IS OF BULK AT MOST 1048576: true; the input reads as it did. -/
def stampsUnseenUptoRow : OpenClaim := { program := "ytcioeedlfbioaaadoor", sum := "9e6c9ef52d3e56edaa0b0c58e46f958cc6cc6282c1d62ba6e052374a15562a5c", func := "franking/frankinglaw37.StampsUnseen", spec := "stampsUnseen", inPlace := ["internal/bytealg.Compare", "slices.overlaps[franking/api.Digest]"], unfollowed := true, recurses := true, named := ["franking/digest.start", "franking/digest.numbers"], apart := false, laid := [("franking/digest.start", laid_franking_digest_start), ("franking/digest.numbers", laid_franking_digest_numbers)], narrowed := true }
def StampsUnseenUptoSaid : Prop := stampsUnseenUptoRow.holds Tryd.pinned (OpenSpec.upto stampsUnseenSpec)

end Rows
end Go.Proofs.YtcioeedlfbioaaaDoor
