/-
  No cell of these rows narrows 'for every input' (looked for: loops, veiled, ifaces, maps, wideKeys, modest, calm, conditions, laid).
  DERIVED. THE GIVEN ROWS OF THIS SEAT. 12 by the template 'for every input the law returns true; each argument reads behind the call as it read before'; 0 by the template 'total and deterministic' (their statements: YtdlkgdlefbabcaaTotals.lean).
  GIVEN WITH THE SEED: the statements are not yours to turn. If you find one false, say at which input.
  Laid BY PROGRAM, IN A SANDBOX (cutbox-rows.mjs): the forced cells as the released guide's own fill.sh prints them over the translation 48e0161467fcd5b1… (all of the seat's roots in one cut). By AI agents, Wed Nov 11 2026. No macro, syntax, notation, axiom, sorry.
-/
import Derived.Test.YtdlkgdlefbabcaaChecked
import GoSem.Claim
import GoSem.ClaimJoined
import GoSem.ClaimMapViews
import Derived.JoinedTies
import Derived.KernelRfl
namespace Go.Proofs.Ytdlkgdlefbabcaa
/- THE CELL 'sum', in the pinned program and in every row, IS THE sha256 OF THE DUMP (.gsa) THAT YtdlkgdlefbabcaaProg.lean LOADS. Nothing in Lean hashes anything: it is a label: what it is worth is what the hold of that sum in a sandbox is worth. -/
noncomputable def Try.pinned : Pinned := { name := "ytdlkgdlefbabcaa", sum := "48e0161467fcd5b16a4b7bae2cd50b47862575bf5315de93ee5da679a7f2b9b2", checked := Try.checked }
namespace Rows
def none {H : Type} : Left H := { results := [], args := [] }

/-- 'laws.FnExactRoundOf': WHATEVER THE INPUT: true; the input reads as it did. -/
def fnExactRoundOfSpec : ChangeSpec := { name := "fnExactRoundOf", fn := fun _ => fun
  | [d] => { results := [.lit (.bool true)], args := [d] }
  | _ => none }
def fnExactRoundOfRow : OpenClaim := { program := "ytdlkgdlefbabcaa", sum := "48e0161467fcd5b16a4b7bae2cd50b47862575bf5315de93ee5da679a7f2b9b2", func := "loop.example/g01623/laws.FnExactRoundOf", spec := "fnExactRoundOf", unfollowed := true, recurses := true, apart := false }
def FnExactRoundOfSaid : Prop := fnExactRoundOfRow.holds Try.pinned (OpenSpec.ofChange fnExactRoundOfSpec)

/-- ITS FALSE NEIGHBOUR: 'it returns false'. Refute it at one input. -/
def fnExactRoundOfWrong : ChangeSpec := { name := "fnExactRoundOf", fn := fun _ => fun
  | [d] => { results := [.lit (.bool false)], args := [d] }
  | _ => none }
def FnExactRoundOfWrongFalsely : Prop := fnExactRoundOfRow.holds Try.pinned (OpenSpec.ofChange fnExactRoundOfWrong)

/-- 'laws.FnExactWrrBack': WHATEVER THE INPUT: true; the input reads as it did. -/
def fnExactWrrBackSpec : ChangeSpec := { name := "fnExactWrrBack", fn := fun _ => fun
  | [d1, d2, d3] => { results := [.lit (.bool true)], args := [d1, d2, d3] }
  | _ => none }
def fnExactWrrBackRow : OpenClaim := { program := "ytdlkgdlefbabcaa", sum := "48e0161467fcd5b16a4b7bae2cd50b47862575bf5315de93ee5da679a7f2b9b2", func := "loop.example/g01623/laws.FnExactWrrBack", spec := "fnExactWrrBack", unfollowed := true, recurses := true, apart := false }
def FnExactWrrBackSaid : Prop := fnExactWrrBackRow.holds Try.pinned (OpenSpec.ofChange fnExactWrrBackSpec)

/-- ITS FALSE NEIGHBOUR: 'it returns false'. Refute it at one input. -/
def fnExactWrrBackWrong : ChangeSpec := { name := "fnExactWrrBack", fn := fun _ => fun
  | [d1, d2, d3] => { results := [.lit (.bool false)], args := [d1, d2, d3] }
  | _ => none }
def FnExactWrrBackWrongFalsely : Prop := fnExactWrrBackRow.holds Try.pinned (OpenSpec.ofChange fnExactWrrBackWrong)

/-- 'laws.FnExactBoundFor': WHATEVER THE INPUT: true; the input reads as it did. -/
def fnExactBoundForSpec : ChangeSpec := { name := "fnExactBoundFor", fn := fun _ => fun
  | [d1, d2] => { results := [.lit (.bool true)], args := [d1, d2] }
  | _ => none }
def fnExactBoundForRow : OpenClaim := { program := "ytdlkgdlefbabcaa", sum := "48e0161467fcd5b16a4b7bae2cd50b47862575bf5315de93ee5da679a7f2b9b2", func := "loop.example/g01623/laws.FnExactBoundFor", spec := "fnExactBoundFor", unfollowed := true, recurses := true, apart := false }
def FnExactBoundForSaid : Prop := fnExactBoundForRow.holds Try.pinned (OpenSpec.ofChange fnExactBoundForSpec)

/-- ITS FALSE NEIGHBOUR: 'it returns false'. Refute it at one input. -/
def fnExactBoundForWrong : ChangeSpec := { name := "fnExactBoundFor", fn := fun _ => fun
  | [d1, d2] => { results := [.lit (.bool false)], args := [d1, d2] }
  | _ => none }
def FnExactBoundForWrongFalsely : Prop := fnExactBoundForRow.holds Try.pinned (OpenSpec.ofChange fnExactBoundForWrong)

/-- 'laws.FnTurns': WHATEVER THE INPUT: true; the input reads as it did. -/
def fnTurnsSpec : ChangeSpec := { name := "fnTurns", fn := fun _ => fun
  | [d] => { results := [.lit (.bool true)], args := [d] }
  | _ => none }
def fnTurnsRow : OpenClaim := { program := "ytdlkgdlefbabcaa", sum := "48e0161467fcd5b16a4b7bae2cd50b47862575bf5315de93ee5da679a7f2b9b2", func := "loop.example/g01623/laws.FnTurns", spec := "fnTurns", unfollowed := true, recurses := true, apart := false }
def FnTurnsSaid : Prop := fnTurnsRow.holds Try.pinned (OpenSpec.ofChange fnTurnsSpec)

/-- ITS FALSE NEIGHBOUR: 'it returns false'. Refute it at one input. -/
def fnTurnsWrong : ChangeSpec := { name := "fnTurns", fn := fun _ => fun
  | [d] => { results := [.lit (.bool false)], args := [d] }
  | _ => none }
def FnTurnsWrongFalsely : Prop := fnTurnsRow.holds Try.pinned (OpenSpec.ofChange fnTurnsWrong)

/-- 'laws.FnShares': WHATEVER THE INPUT: true; the input reads as it did. -/
def fnSharesSpec : ChangeSpec := { name := "fnShares", fn := fun _ => fun
  | [d] => { results := [.lit (.bool true)], args := [d] }
  | _ => none }
def fnSharesRow : OpenClaim := { program := "ytdlkgdlefbabcaa", sum := "48e0161467fcd5b16a4b7bae2cd50b47862575bf5315de93ee5da679a7f2b9b2", func := "loop.example/g01623/laws.FnShares", spec := "fnShares", unfollowed := true, recurses := true, apart := false }
def FnSharesSaid : Prop := fnSharesRow.holds Try.pinned (OpenSpec.ofChange fnSharesSpec)

/-- ITS FALSE NEIGHBOUR: 'it returns false'. Refute it at one input. -/
def fnSharesWrong : ChangeSpec := { name := "fnShares", fn := fun _ => fun
  | [d] => { results := [.lit (.bool false)], args := [d] }
  | _ => none }
def FnSharesWrongFalsely : Prop := fnSharesRow.holds Try.pinned (OpenSpec.ofChange fnSharesWrong)

/-- 'laws.FnExactWrrPick': WHATEVER THE INPUT: true; the input reads as it did. -/
def fnExactWrrPickSpec : ChangeSpec := { name := "fnExactWrrPick", fn := fun _ => fun
  | [d1, d2, d3] => { results := [.lit (.bool true)], args := [d1, d2, d3] }
  | _ => none }
def fnExactWrrPickRow : OpenClaim := { program := "ytdlkgdlefbabcaa", sum := "48e0161467fcd5b16a4b7bae2cd50b47862575bf5315de93ee5da679a7f2b9b2", func := "loop.example/g01623/laws.FnExactWrrPick", spec := "fnExactWrrPick", unfollowed := true, recurses := true, apart := false }
def FnExactWrrPickSaid : Prop := fnExactWrrPickRow.holds Try.pinned (OpenSpec.ofChange fnExactWrrPickSpec)

/-- ITS FALSE NEIGHBOUR: 'it returns false'. Refute it at one input. -/
def fnExactWrrPickWrong : ChangeSpec := { name := "fnExactWrrPick", fn := fun _ => fun
  | [d1, d2, d3] => { results := [.lit (.bool false)], args := [d1, d2, d3] }
  | _ => none }
def FnExactWrrPickWrongFalsely : Prop := fnExactWrrPickRow.holds Try.pinned (OpenSpec.ofChange fnExactWrrPickWrong)

/-- 'laws.FnChoices': WHATEVER THE INPUT: true; the input reads as it did. -/
def fnChoicesSpec : ChangeSpec := { name := "fnChoices", fn := fun _ => fun
  | [d] => { results := [.lit (.bool true)], args := [d] }
  | _ => none }
def fnChoicesRow : OpenClaim := { program := "ytdlkgdlefbabcaa", sum := "48e0161467fcd5b16a4b7bae2cd50b47862575bf5315de93ee5da679a7f2b9b2", func := "loop.example/g01623/laws.FnChoices", spec := "fnChoices", apart := false }
def FnChoicesSaid : Prop := fnChoicesRow.holds Try.pinned (OpenSpec.ofChange fnChoicesSpec)

/-- ITS FALSE NEIGHBOUR: 'it returns false'. Refute it at one input. -/
def fnChoicesWrong : ChangeSpec := { name := "fnChoices", fn := fun _ => fun
  | [d] => { results := [.lit (.bool false)], args := [d] }
  | _ => none }
def FnChoicesWrongFalsely : Prop := fnChoicesRow.holds Try.pinned (OpenSpec.ofChange fnChoicesWrong)

/-- 'laws.FnExactSplitAt': WHATEVER THE INPUT: true; the input reads as it did. -/
def fnExactSplitAtSpec : ChangeSpec := { name := "fnExactSplitAt", fn := fun _ => fun
  | [d1, d2, d3] => { results := [.lit (.bool true)], args := [d1, d2, d3] }
  | _ => none }
def fnExactSplitAtRow : OpenClaim := { program := "ytdlkgdlefbabcaa", sum := "48e0161467fcd5b16a4b7bae2cd50b47862575bf5315de93ee5da679a7f2b9b2", func := "loop.example/g01623/laws.FnExactSplitAt", spec := "fnExactSplitAt", apart := false }
def FnExactSplitAtSaid : Prop := fnExactSplitAtRow.holds Try.pinned (OpenSpec.ofChange fnExactSplitAtSpec)

/-- ITS FALSE NEIGHBOUR: 'it returns false'. Refute it at one input. -/
def fnExactSplitAtWrong : ChangeSpec := { name := "fnExactSplitAt", fn := fun _ => fun
  | [d1, d2, d3] => { results := [.lit (.bool false)], args := [d1, d2, d3] }
  | _ => none }
def FnExactSplitAtWrongFalsely : Prop := fnExactSplitAtRow.holds Try.pinned (OpenSpec.ofChange fnExactSplitAtWrong)

/-- 'laws.FnWanted': WHATEVER THE INPUT: true; the input reads as it did. -/
def fnWantedSpec : ChangeSpec := { name := "fnWanted", fn := fun _ => fun
  | [d] => { results := [.lit (.bool true)], args := [d] }
  | _ => none }
def fnWantedRow : OpenClaim := { program := "ytdlkgdlefbabcaa", sum := "48e0161467fcd5b16a4b7bae2cd50b47862575bf5315de93ee5da679a7f2b9b2", func := "loop.example/g01623/laws.FnWanted", spec := "fnWanted", unfollowed := true, recurses := true, apart := false }
def FnWantedSaid : Prop := fnWantedRow.holds Try.pinned (OpenSpec.ofChange fnWantedSpec)

/-- ITS FALSE NEIGHBOUR: 'it returns false'. Refute it at one input. -/
def fnWantedWrong : ChangeSpec := { name := "fnWanted", fn := fun _ => fun
  | [d] => { results := [.lit (.bool false)], args := [d] }
  | _ => none }
def FnWantedWrongFalsely : Prop := fnWantedRow.holds Try.pinned (OpenSpec.ofChange fnWantedWrong)

/-- 'laws.FnExactMstWants': WHATEVER THE INPUT: true; the input reads as it did. -/
def fnExactMstWantsSpec : ChangeSpec := { name := "fnExactMstWants", fn := fun _ => fun
  | [d] => { results := [.lit (.bool true)], args := [d] }
  | _ => none }
def fnExactMstWantsRow : OpenClaim := { program := "ytdlkgdlefbabcaa", sum := "48e0161467fcd5b16a4b7bae2cd50b47862575bf5315de93ee5da679a7f2b9b2", func := "loop.example/g01623/laws.FnExactMstWants", spec := "fnExactMstWants", unfollowed := true, recurses := true, apart := false }
def FnExactMstWantsSaid : Prop := fnExactMstWantsRow.holds Try.pinned (OpenSpec.ofChange fnExactMstWantsSpec)

/-- ITS FALSE NEIGHBOUR: 'it returns false'. Refute it at one input. -/
def fnExactMstWantsWrong : ChangeSpec := { name := "fnExactMstWants", fn := fun _ => fun
  | [d] => { results := [.lit (.bool false)], args := [d] }
  | _ => none }
def FnExactMstWantsWrongFalsely : Prop := fnExactMstWantsRow.holds Try.pinned (OpenSpec.ofChange fnExactMstWantsWrong)

/-- 'laws.FnExactMstAddr': WHATEVER THE INPUT: true; the input reads as it did. -/
def fnExactMstAddrSpec : ChangeSpec := { name := "fnExactMstAddr", fn := fun _ => fun
  | [d1, d2] => { results := [.lit (.bool true)], args := [d1, d2] }
  | _ => none }
def fnExactMstAddrRow : OpenClaim := { program := "ytdlkgdlefbabcaa", sum := "48e0161467fcd5b16a4b7bae2cd50b47862575bf5315de93ee5da679a7f2b9b2", func := "loop.example/g01623/laws.FnExactMstAddr", spec := "fnExactMstAddr", unfollowed := true, recurses := true, apart := false }
def FnExactMstAddrSaid : Prop := fnExactMstAddrRow.holds Try.pinned (OpenSpec.ofChange fnExactMstAddrSpec)

/-- ITS FALSE NEIGHBOUR: 'it returns false'. Refute it at one input. -/
def fnExactMstAddrWrong : ChangeSpec := { name := "fnExactMstAddr", fn := fun _ => fun
  | [d1, d2] => { results := [.lit (.bool false)], args := [d1, d2] }
  | _ => none }
def FnExactMstAddrWrongFalsely : Prop := fnExactMstAddrRow.holds Try.pinned (OpenSpec.ofChange fnExactMstAddrWrong)

/-- 'laws.FnExactBeatsOfReq': WHATEVER THE INPUT: true; the input reads as it did. -/
def fnExactBeatsOfReqSpec : ChangeSpec := { name := "fnExactBeatsOfReq", fn := fun _ => fun
  | [d] => { results := [.lit (.bool true)], args := [d] }
  | _ => none }
def fnExactBeatsOfReqRow : OpenClaim := { program := "ytdlkgdlefbabcaa", sum := "48e0161467fcd5b16a4b7bae2cd50b47862575bf5315de93ee5da679a7f2b9b2", func := "loop.example/g01623/laws.FnExactBeatsOfReq", spec := "fnExactBeatsOfReq", unfollowed := true, recurses := true, apart := false }
def FnExactBeatsOfReqSaid : Prop := fnExactBeatsOfReqRow.holds Try.pinned (OpenSpec.ofChange fnExactBeatsOfReqSpec)

/-- ITS FALSE NEIGHBOUR: 'it returns false'. Refute it at one input. -/
def fnExactBeatsOfReqWrong : ChangeSpec := { name := "fnExactBeatsOfReq", fn := fun _ => fun
  | [d] => { results := [.lit (.bool false)], args := [d] }
  | _ => none }
def FnExactBeatsOfReqWrongFalsely : Prop := fnExactBeatsOfReqRow.holds Try.pinned (OpenSpec.ofChange fnExactBeatsOfReqWrong)

/- THE SECOND FORM. 'bulk': how many values and letters a reading holds, each counted each time it is reached (what is shared counts as often as it is met; a slice's spare places count too). A statement '..UptoSaid' is the law's where the arguments, and the package variables that the reading takes, are together of bulk at most 1048576: NARROWER than '..Said'. Prove '..Said' where nothing that the law and all that it calls make is longer than what came in: it says more and counts as full. Else prove '..UptoSaid'. A law counts once. -/
mutual
def uptoBulk {H : Type} : DataW H → Nat
  | .lit (.string bytes) => bytes.length + 1
  | .lit _ => 1
  | .nil => 1
  | .ptr d => uptoBulk d + 1
  | .slice elems spare => uptoBulkAll elems + uptoBulkAll spare + 1
  | .agg parts => uptoBulkAll parts + 1
  | .iface _ d => uptoBulk d + 1
  | .map entries => uptoBulkEntries entries + 1
  | .held _ => 1
def uptoBulkAll {H : Type} : List (DataW H) → Nat
  | [] => 0
  | d :: r => uptoBulk d + uptoBulkAll r
def uptoBulkEntries {H : Type} : List (Lit × DataW H) → Nat
  | [] => 0
  | x :: r => uptoBulkEntry x + uptoBulkEntries r
def uptoBulkEntry {H : Type} : Lit × DataW H → Nat
  | (.string bytes, d) => bytes.length + uptoBulk d + 1
  | (_, d) => uptoBulk d + 1
 end
def uptoSmall : (H : Type) → List (DataW H) → Bool := fun _ ds => decide (uptoBulkAll ds ≤ 1048576)
def OpenSpec.upto (s : _root_.Go.ChangeSpec) : _root_.Go.OpenSpec := { _root_.Go.OpenSpec.ofChange s with cond := some uptoSmall }

/-- 'laws.FnExactRoundOf', WHERE WHAT IT READS IS OF BULK AT MOST 1048576: true; the input reads as it did. -/
def fnExactRoundOfUptoRow : OpenClaim := { program := "ytdlkgdlefbabcaa", sum := "48e0161467fcd5b16a4b7bae2cd50b47862575bf5315de93ee5da679a7f2b9b2", func := "loop.example/g01623/laws.FnExactRoundOf", spec := "fnExactRoundOf", unfollowed := true, recurses := true, apart := false, narrowed := true }
def FnExactRoundOfUptoSaid : Prop := fnExactRoundOfUptoRow.holds Try.pinned (OpenSpec.upto fnExactRoundOfSpec)

/-- 'laws.FnExactWrrBack', WHERE WHAT IT READS IS OF BULK AT MOST 1048576: true; the input reads as it did. -/
def fnExactWrrBackUptoRow : OpenClaim := { program := "ytdlkgdlefbabcaa", sum := "48e0161467fcd5b16a4b7bae2cd50b47862575bf5315de93ee5da679a7f2b9b2", func := "loop.example/g01623/laws.FnExactWrrBack", spec := "fnExactWrrBack", unfollowed := true, recurses := true, apart := false, narrowed := true }
def FnExactWrrBackUptoSaid : Prop := fnExactWrrBackUptoRow.holds Try.pinned (OpenSpec.upto fnExactWrrBackSpec)

/-- 'laws.FnExactBoundFor', WHERE WHAT IT READS IS OF BULK AT MOST 1048576: true; the input reads as it did. -/
def fnExactBoundForUptoRow : OpenClaim := { program := "ytdlkgdlefbabcaa", sum := "48e0161467fcd5b16a4b7bae2cd50b47862575bf5315de93ee5da679a7f2b9b2", func := "loop.example/g01623/laws.FnExactBoundFor", spec := "fnExactBoundFor", unfollowed := true, recurses := true, apart := false, narrowed := true }
def FnExactBoundForUptoSaid : Prop := fnExactBoundForUptoRow.holds Try.pinned (OpenSpec.upto fnExactBoundForSpec)

/-- 'laws.FnTurns', WHERE WHAT IT READS IS OF BULK AT MOST 1048576: true; the input reads as it did. -/
def fnTurnsUptoRow : OpenClaim := { program := "ytdlkgdlefbabcaa", sum := "48e0161467fcd5b16a4b7bae2cd50b47862575bf5315de93ee5da679a7f2b9b2", func := "loop.example/g01623/laws.FnTurns", spec := "fnTurns", unfollowed := true, recurses := true, apart := false, narrowed := true }
def FnTurnsUptoSaid : Prop := fnTurnsUptoRow.holds Try.pinned (OpenSpec.upto fnTurnsSpec)

/-- 'laws.FnShares', WHERE WHAT IT READS IS OF BULK AT MOST 1048576: true; the input reads as it did. -/
def fnSharesUptoRow : OpenClaim := { program := "ytdlkgdlefbabcaa", sum := "48e0161467fcd5b16a4b7bae2cd50b47862575bf5315de93ee5da679a7f2b9b2", func := "loop.example/g01623/laws.FnShares", spec := "fnShares", unfollowed := true, recurses := true, apart := false, narrowed := true }
def FnSharesUptoSaid : Prop := fnSharesUptoRow.holds Try.pinned (OpenSpec.upto fnSharesSpec)

/-- 'laws.FnExactWrrPick', WHERE WHAT IT READS IS OF BULK AT MOST 1048576: true; the input reads as it did. -/
def fnExactWrrPickUptoRow : OpenClaim := { program := "ytdlkgdlefbabcaa", sum := "48e0161467fcd5b16a4b7bae2cd50b47862575bf5315de93ee5da679a7f2b9b2", func := "loop.example/g01623/laws.FnExactWrrPick", spec := "fnExactWrrPick", unfollowed := true, recurses := true, apart := false, narrowed := true }
def FnExactWrrPickUptoSaid : Prop := fnExactWrrPickUptoRow.holds Try.pinned (OpenSpec.upto fnExactWrrPickSpec)

/-- 'laws.FnChoices', WHERE WHAT IT READS IS OF BULK AT MOST 1048576: true; the input reads as it did. -/
def fnChoicesUptoRow : OpenClaim := { program := "ytdlkgdlefbabcaa", sum := "48e0161467fcd5b16a4b7bae2cd50b47862575bf5315de93ee5da679a7f2b9b2", func := "loop.example/g01623/laws.FnChoices", spec := "fnChoices", apart := false, narrowed := true }
def FnChoicesUptoSaid : Prop := fnChoicesUptoRow.holds Try.pinned (OpenSpec.upto fnChoicesSpec)

/-- 'laws.FnExactSplitAt', WHERE WHAT IT READS IS OF BULK AT MOST 1048576: true; the input reads as it did. -/
def fnExactSplitAtUptoRow : OpenClaim := { program := "ytdlkgdlefbabcaa", sum := "48e0161467fcd5b16a4b7bae2cd50b47862575bf5315de93ee5da679a7f2b9b2", func := "loop.example/g01623/laws.FnExactSplitAt", spec := "fnExactSplitAt", apart := false, narrowed := true }
def FnExactSplitAtUptoSaid : Prop := fnExactSplitAtUptoRow.holds Try.pinned (OpenSpec.upto fnExactSplitAtSpec)

/-- 'laws.FnWanted', WHERE WHAT IT READS IS OF BULK AT MOST 1048576: true; the input reads as it did. -/
def fnWantedUptoRow : OpenClaim := { program := "ytdlkgdlefbabcaa", sum := "48e0161467fcd5b16a4b7bae2cd50b47862575bf5315de93ee5da679a7f2b9b2", func := "loop.example/g01623/laws.FnWanted", spec := "fnWanted", unfollowed := true, recurses := true, apart := false, narrowed := true }
def FnWantedUptoSaid : Prop := fnWantedUptoRow.holds Try.pinned (OpenSpec.upto fnWantedSpec)

/-- 'laws.FnExactMstWants', WHERE WHAT IT READS IS OF BULK AT MOST 1048576: true; the input reads as it did. -/
def fnExactMstWantsUptoRow : OpenClaim := { program := "ytdlkgdlefbabcaa", sum := "48e0161467fcd5b16a4b7bae2cd50b47862575bf5315de93ee5da679a7f2b9b2", func := "loop.example/g01623/laws.FnExactMstWants", spec := "fnExactMstWants", unfollowed := true, recurses := true, apart := false, narrowed := true }
def FnExactMstWantsUptoSaid : Prop := fnExactMstWantsUptoRow.holds Try.pinned (OpenSpec.upto fnExactMstWantsSpec)

/-- 'laws.FnExactMstAddr', WHERE WHAT IT READS IS OF BULK AT MOST 1048576: true; the input reads as it did. -/
def fnExactMstAddrUptoRow : OpenClaim := { program := "ytdlkgdlefbabcaa", sum := "48e0161467fcd5b16a4b7bae2cd50b47862575bf5315de93ee5da679a7f2b9b2", func := "loop.example/g01623/laws.FnExactMstAddr", spec := "fnExactMstAddr", unfollowed := true, recurses := true, apart := false, narrowed := true }
def FnExactMstAddrUptoSaid : Prop := fnExactMstAddrUptoRow.holds Try.pinned (OpenSpec.upto fnExactMstAddrSpec)

/-- 'laws.FnExactBeatsOfReq', WHERE WHAT IT READS IS OF BULK AT MOST 1048576: true; the input reads as it did. -/
def fnExactBeatsOfReqUptoRow : OpenClaim := { program := "ytdlkgdlefbabcaa", sum := "48e0161467fcd5b16a4b7bae2cd50b47862575bf5315de93ee5da679a7f2b9b2", func := "loop.example/g01623/laws.FnExactBeatsOfReq", spec := "fnExactBeatsOfReq", unfollowed := true, recurses := true, apart := false, narrowed := true }
def FnExactBeatsOfReqUptoSaid : Prop := fnExactBeatsOfReqUptoRow.holds Try.pinned (OpenSpec.upto fnExactBeatsOfReqSpec)

end Rows
end Go.Proofs.Ytdlkgdlefbabcaa
