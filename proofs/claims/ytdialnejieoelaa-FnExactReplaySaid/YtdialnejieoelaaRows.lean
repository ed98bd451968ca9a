/-
  No cell of these rows narrows 'for every input' (looked for: loops, veiled, ifaces, maps, wideKeys, modest, calm, conditions, laid).
  DERIVED. THE GIVEN ROWS OF THIS SEAT. 11 by the template 'for every input the law returns true; each argument reads behind the call as it read before'; 0 by the template 'total and deterministic' (their statements: YtdialnejieoelaaTotals.lean).
  GIVEN WITH THE SEED: the statements are not yours to turn. If you find one false, say at which input.
  Laid BY PROGRAM, IN A SANDBOX (cutbox-rows.mjs): the forced cells as the released guide's own fill.sh prints them over the translation 11e4e00ed62e2562… (all of the seat's roots in one cut). By AI agents, Wed Nov 11 2026. No macro, syntax, notation, axiom, sorry.
-/
import Derived.Test.YtdialnejieoelaaChecked
import GoSem.Claim
import GoSem.ClaimJoined
import GoSem.ClaimMapViews
import Derived.JoinedTies
import Derived.KernelRfl
namespace Go.Proofs.Ytdialnejieoelaa
/- THE CELL 'sum', in the pinned program and in every row, IS THE sha256 OF THE DUMP (.gsa) THAT YtdialnejieoelaaProg.lean LOADS. Nothing in Lean hashes anything: it is a label: what it is worth is what the hold of that sum in a sandbox is worth. -/
noncomputable def Try.pinned : Pinned := { name := "ytdialnejieoelaa", sum := "11e4e00ed62e256268c508ae417dda40db89cd30d3070b19ef729847ed769146", checked := Try.checked }
namespace Rows
def none {H : Type} : Left H := { results := [], args := [] }

/-- 'laws.FnPosts': WHATEVER THE INPUT: true; the input reads as it did. -/
def fnPostsSpec : ChangeSpec := { name := "fnPosts", fn := fun _ => fun
  | [d] => { results := [.lit (.bool true)], args := [d] }
  | _ => none }
def fnPostsRow : OpenClaim := { program := "ytdialnejieoelaa", sum := "11e4e00ed62e256268c508ae417dda40db89cd30d3070b19ef729847ed769146", func := "loop.example/g01623/laws.FnPosts", spec := "fnPosts", unfollowed := true, recurses := true, apart := false }
def FnPostsSaid : Prop := fnPostsRow.holds Try.pinned (OpenSpec.ofChange fnPostsSpec)

/-- ITS FALSE NEIGHBOUR: 'it returns false'. Refute it at one input. -/
def fnPostsWrong : ChangeSpec := { name := "fnPosts", fn := fun _ => fun
  | [d] => { results := [.lit (.bool false)], args := [d] }
  | _ => none }
def FnPostsWrongFalsely : Prop := fnPostsRow.holds Try.pinned (OpenSpec.ofChange fnPostsWrong)

/-- 'laws.FnMasters': WHATEVER THE INPUT: true; the input reads as it did. -/
def fnMastersSpec : ChangeSpec := { name := "fnMasters", fn := fun _ => fun
  | [d] => { results := [.lit (.bool true)], args := [d] }
  | _ => none }
def fnMastersRow : OpenClaim := { program := "ytdialnejieoelaa", sum := "11e4e00ed62e256268c508ae417dda40db89cd30d3070b19ef729847ed769146", func := "loop.example/g01623/laws.FnMasters", spec := "fnMasters", unfollowed := true, recurses := true, apart := false }
def FnMastersSaid : Prop := fnMastersRow.holds Try.pinned (OpenSpec.ofChange fnMastersSpec)

/-- ITS FALSE NEIGHBOUR: 'it returns false'. Refute it at one input. -/
def fnMastersWrong : ChangeSpec := { name := "fnMasters", fn := fun _ => fun
  | [d] => { results := [.lit (.bool false)], args := [d] }
  | _ => none }
def FnMastersWrongFalsely : Prop := fnMastersRow.holds Try.pinned (OpenSpec.ofChange fnMastersWrong)

/-- 'laws.FnExactMstBack': WHATEVER THE INPUT: true; the input reads as it did. -/
def fnExactMstBackSpec : ChangeSpec := { name := "fnExactMstBack", fn := fun _ => fun
  | [d] => { results := [.lit (.bool true)], args := [d] }
  | _ => none }
def fnExactMstBackRow : OpenClaim := { program := "ytdialnejieoelaa", sum := "11e4e00ed62e256268c508ae417dda40db89cd30d3070b19ef729847ed769146", func := "loop.example/g01623/laws.FnExactMstBack", spec := "fnExactMstBack", unfollowed := true, recurses := true, apart := false }
def FnExactMstBackSaid : Prop := fnExactMstBackRow.holds Try.pinned (OpenSpec.ofChange fnExactMstBackSpec)

/-- ITS FALSE NEIGHBOUR: 'it returns false'. Refute it at one input. -/
def fnExactMstBackWrong : ChangeSpec := { name := "fnExactMstBack", fn := fun _ => fun
  | [d] => { results := [.lit (.bool false)], args := [d] }
  | _ => none }
def FnExactMstBackWrongFalsely : Prop := fnExactMstBackRow.holds Try.pinned (OpenSpec.ofChange fnExactMstBackWrong)

/-- 'laws.FnExactMstIssue': WHATEVER THE INPUT: true; the input reads as it did. -/
def fnExactMstIssueSpec : ChangeSpec := { name := "fnExactMstIssue", fn := fun _ => fun
  | [d] => { results := [.lit (.bool true)], args := [d] }
  | _ => none }
def fnExactMstIssueRow : OpenClaim := { program := "ytdialnejieoelaa", sum := "11e4e00ed62e256268c508ae417dda40db89cd30d3070b19ef729847ed769146", func := "loop.example/g01623/laws.FnExactMstIssue", spec := "fnExactMstIssue", unfollowed := true, recurses := true, apart := false }
def FnExactMstIssueSaid : Prop := fnExactMstIssueRow.holds Try.pinned (OpenSpec.ofChange fnExactMstIssueSpec)

/-- ITS FALSE NEIGHBOUR: 'it returns false'. Refute it at one input. -/
def fnExactMstIssueWrong : ChangeSpec := { name := "fnExactMstIssue", fn := fun _ => fun
  | [d] => { results := [.lit (.bool false)], args := [d] }
  | _ => none }
def FnExactMstIssueWrongFalsely : Prop := fnExactMstIssueRow.holds Try.pinned (OpenSpec.ofChange fnExactMstIssueWrong)

/-- 'laws.FnExactMstPost': WHATEVER THE INPUT: true; the input reads as it did. -/
def fnExactMstPostSpec : ChangeSpec := { name := "fnExactMstPost", fn := fun _ => fun
  | [d1, d2] => { results := [.lit (.bool true)], args := [d1, d2] }
  | _ => none }
def fnExactMstPostRow : OpenClaim := { program := "ytdialnejieoelaa", sum := "11e4e00ed62e256268c508ae417dda40db89cd30d3070b19ef729847ed769146", func := "loop.example/g01623/laws.FnExactMstPost", spec := "fnExactMstPost", unfollowed := true, recurses := true, apart := false }
def FnExactMstPostSaid : Prop := fnExactMstPostRow.holds Try.pinned (OpenSpec.ofChange fnExactMstPostSpec)

/-- ITS FALSE NEIGHBOUR: 'it returns false'. Refute it at one input. -/
def fnExactMstPostWrong : ChangeSpec := { name := "fnExactMstPost", fn := fun _ => fun
  | [d1, d2] => { results := [.lit (.bool false)], args := [d1, d2] }
  | _ => none }
def FnExactMstPostWrongFalsely : Prop := fnExactMstPostRow.holds Try.pinned (OpenSpec.ofChange fnExactMstPostWrong)

/-- 'laws.FnExactMstEnd': WHATEVER THE INPUT: true; the input reads as it did. -/
def fnExactMstEndSpec : ChangeSpec := { name := "fnExactMstEnd", fn := fun _ => fun
  | [d] => { results := [.lit (.bool true)], args := [d] }
  | _ => none }
def fnExactMstEndRow : OpenClaim := { program := "ytdialnejieoelaa", sum := "11e4e00ed62e256268c508ae417dda40db89cd30d3070b19ef729847ed769146", func := "loop.example/g01623/laws.FnExactMstEnd", spec := "fnExactMstEnd", unfollowed := true, recurses := true, apart := false }
def FnExactMstEndSaid : Prop := fnExactMstEndRow.holds Try.pinned (OpenSpec.ofChange fnExactMstEndSpec)

/-- ITS FALSE NEIGHBOUR: 'it returns false'. Refute it at one input. -/
def fnExactMstEndWrong : ChangeSpec := { name := "fnExactMstEnd", fn := fun _ => fun
  | [d] => { results := [.lit (.bool false)], args := [d] }
  | _ => none }
def FnExactMstEndWrongFalsely : Prop := fnExactMstEndRow.holds Try.pinned (OpenSpec.ofChange fnExactMstEndWrong)

/-- 'laws.FnExactReplay': WHATEVER THE INPUT: true; the input reads as it did. -/
def fnExactReplaySpec : ChangeSpec := { name := "fnExactReplay", fn := fun _ => fun
  | [d] => { results := [.lit (.bool true)], args := [d] }
  | _ => none }
def fnExactReplayRow : OpenClaim := { program := "ytdialnejieoelaa", sum := "11e4e00ed62e256268c508ae417dda40db89cd30d3070b19ef729847ed769146", func := "loop.example/g01623/laws.FnExactReplay", spec := "fnExactReplay", unfollowed := true, recurses := true, apart := false }
def FnExactReplaySaid : Prop := fnExactReplayRow.holds Try.pinned (OpenSpec.ofChange fnExactReplaySpec)

/-- ITS FALSE NEIGHBOUR: 'it returns false'. Refute it at one input. -/
def fnExactReplayWrong : ChangeSpec := { name := "fnExactReplay", fn := fun _ => fun
  | [d] => { results := [.lit (.bool false)], args := [d] }
  | _ => none }
def FnExactReplayWrongFalsely : Prop := fnExactReplayRow.holds Try.pinned (OpenSpec.ofChange fnExactReplayWrong)

/-- 'laws.FnExactMstOk': WHATEVER THE INPUT: true; the input reads as it did. -/
def fnExactMstOkSpec : ChangeSpec := { name := "fnExactMstOk", fn := fun _ => fun
  | [d1, d2] => { results := [.lit (.bool true)], args := [d1, d2] }
  | _ => none }
def fnExactMstOkRow : OpenClaim := { program := "ytdialnejieoelaa", sum := "11e4e00ed62e256268c508ae417dda40db89cd30d3070b19ef729847ed769146", func := "loop.example/g01623/laws.FnExactMstOk", spec := "fnExactMstOk", unfollowed := true, recurses := true, apart := false }
def FnExactMstOkSaid : Prop := fnExactMstOkRow.holds Try.pinned (OpenSpec.ofChange fnExactMstOkSpec)

/-- ITS FALSE NEIGHBOUR: 'it returns false'. Refute it at one input. -/
def fnExactMstOkWrong : ChangeSpec := { name := "fnExactMstOk", fn := fun _ => fun
  | [d1, d2] => { results := [.lit (.bool false)], args := [d1, d2] }
  | _ => none }
def FnExactMstOkWrongFalsely : Prop := fnExactMstOkRow.holds Try.pinned (OpenSpec.ofChange fnExactMstOkWrong)

/-- 'laws.FnExactScriptOk': WHATEVER THE INPUT: true; the input reads as it did. -/
def fnExactScriptOkSpec : ChangeSpec := { name := "fnExactScriptOk", fn := fun _ => fun
  | [d1, d2] => { results := [.lit (.bool true)], args := [d1, d2] }
  | _ => none }
def fnExactScriptOkRow : OpenClaim := { program := "ytdialnejieoelaa", sum := "11e4e00ed62e256268c508ae417dda40db89cd30d3070b19ef729847ed769146", func := "loop.example/g01623/laws.FnExactScriptOk", spec := "fnExactScriptOk", unfollowed := true, recurses := true, apart := false }
def FnExactScriptOkSaid : Prop := fnExactScriptOkRow.holds Try.pinned (OpenSpec.ofChange fnExactScriptOkSpec)

/-- ITS FALSE NEIGHBOUR: 'it returns false'. Refute it at one input. -/
def fnExactScriptOkWrong : ChangeSpec := { name := "fnExactScriptOk", fn := fun _ => fun
  | [d1, d2] => { results := [.lit (.bool false)], args := [d1, d2] }
  | _ => none }
def FnExactScriptOkWrongFalsely : Prop := fnExactScriptOkRow.holds Try.pinned (OpenSpec.ofChange fnExactScriptOkWrong)

/-- 'laws.FnExactSameBus': WHATEVER THE INPUT: true; the input reads as it did. -/
def fnExactSameBusSpec : ChangeSpec := { name := "fnExactSameBus", fn := fun _ => fun
  | [d1, d2] => { results := [.lit (.bool true)], args := [d1, d2] }
  | _ => none }
def fnExactSameBusRow : OpenClaim := { program := "ytdialnejieoelaa", sum := "11e4e00ed62e256268c508ae417dda40db89cd30d3070b19ef729847ed769146", func := "loop.example/g01623/laws.FnExactSameBus", spec := "fnExactSameBus", unfollowed := true, recurses := true, apart := false }
def FnExactSameBusSaid : Prop := fnExactSameBusRow.holds Try.pinned (OpenSpec.ofChange fnExactSameBusSpec)

/-- ITS FALSE NEIGHBOUR: 'it returns false'. Refute it at one input. -/
def fnExactSameBusWrong : ChangeSpec := { name := "fnExactSameBus", fn := fun _ => fun
  | [d1, d2] => { results := [.lit (.bool false)], args := [d1, d2] }
  | _ => none }
def FnExactSameBusWrongFalsely : Prop := fnExactSameBusRow.holds Try.pinned (OpenSpec.ofChange fnExactSameBusWrong)

/-- 'laws.FnExactBusNew': WHATEVER THE INPUT: true; the input reads as it did. -/
def fnExactBusNewSpec : ChangeSpec := { name := "fnExactBusNew", fn := fun _ => fun
  | [d] => { results := [.lit (.bool true)], args := [d] }
  | _ => none }
def fnExactBusNewRow : OpenClaim := { program := "ytdialnejieoelaa", sum := "11e4e00ed62e256268c508ae417dda40db89cd30d3070b19ef729847ed769146", func := "loop.example/g01623/laws.FnExactBusNew", spec := "fnExactBusNew", unfollowed := true, recurses := true, apart := false }
def FnExactBusNewSaid : Prop := fnExactBusNewRow.holds Try.pinned (OpenSpec.ofChange fnExactBusNewSpec)

/-- ITS FALSE NEIGHBOUR: 'it returns false'. Refute it at one input. -/
def fnExactBusNewWrong : ChangeSpec := { name := "fnExactBusNew", fn := fun _ => fun
  | [d] => { results := [.lit (.bool false)], args := [d] }
  | _ => none }
def FnExactBusNewWrongFalsely : Prop := fnExactBusNewRow.holds Try.pinned (OpenSpec.ofChange fnExactBusNewWrong)

/- THE SECOND FORM. 'bulk': how many values and letters a reading holds, each counted each time it is reached (what is shared counts as often as it is met; a slice's spare places count too). A statement '..UptoSaid' is the law's where the arguments, and the package variables that the reading takes, are together of bulk at most 1048576: NARROWER than '..Said'. Prove '..Said' where nothing that the law and all that it calls make is longer than what came in: it says more and counts as full. Else prove '..UptoSaid'. A law counts once. -/
mutual
def uptoBulk {H : Type} : DataW H → Nat
  | .lit (.string bytes) => bytes.length + 1
  | .lit _ => 1
  | .nil => 1
  | .ptr d => uptoBulk d + 1
  | .slice elems spare => uptoBulkAll elems + uptoBulkAll spare + 1
  | .agg parts => uptoBulkAll parts + 1
  | .iface _ d => uptoBulk d + 1
  | .map entries => uptoBulkEntries entries + 1
  | .held _ => 1
def uptoBulkAll {H : Type} : List (DataW H) → Nat
  | [] => 0
  | d :: r => uptoBulk d + uptoBulkAll r
def uptoBulkEntries {H : Type} : List (Lit × DataW H) → Nat
  | [] => 0
  | x :: r => uptoBulkEntry x + uptoBulkEntries r
def uptoBulkEntry {H : Type} : Lit × DataW H → Nat
  | (.string bytes, d) => bytes.length + uptoBulk d + 1
  | (_, d) => uptoBulk d + 1
 end
def uptoSmall : (H : Type) → List (DataW H) → Bool := fun _ ds => decide (uptoBulkAll ds ≤ 1048576)
def OpenSpec.upto (s : _root_.Go.ChangeSpec) : _root_.Go.OpenSpec := { _root_.Go.OpenSpec.ofChange s with cond := some uptoSmall }

/-- 'laws.FnPosts', WHERE WHAT IT READS IS OF BULK AT MOST 1048576: true; the input reads as it did. -/
def fnPostsUptoRow : OpenClaim := { program := "ytdialnejieoelaa", sum := "11e4e00ed62e256268c508ae417dda40db89cd30d3070b19ef729847ed769146", func := "loop.example/g01623/laws.FnPosts", spec := "fnPosts", unfollowed := true, recurses := true, apart := false, narrowed := true }
def FnPostsUptoSaid : Prop := fnPostsUptoRow.holds Try.pinned (OpenSpec.upto fnPostsSpec)

/-- 'laws.FnMasters', WHERE WHAT IT READS IS OF BULK AT MOST 1048576: true; the input reads as it did. -/
def fnMastersUptoRow : OpenClaim := { program := "ytdialnejieoelaa", sum := "11e4e00ed62e256268c508ae417dda40db89cd30d3070b19ef729847ed769146", func := "loop.example/g01623/laws.FnMasters", spec := "fnMasters", unfollowed := true, recurses := true, apart := false, narrowed := true }
def FnMastersUptoSaid : Prop := fnMastersUptoRow.holds Try.pinned (OpenSpec.upto fnMastersSpec)

/-- 'laws.FnExactMstBack', WHERE WHAT IT READS IS OF BULK AT MOST 1048576: true; the input reads as it did. -/
def fnExactMstBackUptoRow : OpenClaim := { program := "ytdialnejieoelaa", sum := "11e4e00ed62e256268c508ae417dda40db89cd30d3070b19ef729847ed769146", func := "loop.example/g01623/laws.FnExactMstBack", spec := "fnExactMstBack", unfollowed := true, recurses := true, apart := false, narrowed := true }
def FnExactMstBackUptoSaid : Prop := fnExactMstBackUptoRow.holds Try.pinned (OpenSpec.upto fnExactMstBackSpec)

/-- 'laws.FnExactMstIssue', WHERE WHAT IT READS IS OF BULK AT MOST 1048576: true; the input reads as it did. -/
def fnExactMstIssueUptoRow : OpenClaim := { program := "ytdialnejieoelaa", sum := "11e4e00ed62e256268c508ae417dda40db89cd30d3070b19ef729847ed769146", func := "loop.example/g01623/laws.FnExactMstIssue", spec := "fnExactMstIssue", unfollowed := true, recurses := true, apart := false, narrowed := true }
def FnExactMstIssueUptoSaid : Prop := fnExactMstIssueUptoRow.holds Try.pinned (OpenSpec.upto fnExactMstIssueSpec)

/-- 'laws.FnExactMstPost', WHERE WHAT IT READS IS OF BULK AT MOST 1048576: true; the input reads as it did. -/
def fnExactMstPostUptoRow : OpenClaim := { program := "ytdialnejieoelaa", sum := "11e4e00ed62e256268c508ae417dda40db89cd30d3070b19ef729847ed769146", func := "loop.example/g01623/laws.FnExactMstPost", spec := "fnExactMstPost", unfollowed := true, recurses := true, apart := false, narrowed := true }
def FnExactMstPostUptoSaid : Prop := fnExactMstPostUptoRow.holds Try.pinned (OpenSpec.upto fnExactMstPostSpec)

/-- 'laws.FnExactMstEnd', WHERE WHAT IT READS IS OF BULK AT MOST 1048576: true; the input reads as it did. -/
def fnExactMstEndUptoRow : OpenClaim := { program := "ytdialnejieoelaa", sum := "11e4e00ed62e256268c508ae417dda40db89cd30d3070b19ef729847ed769146", func := "loop.example/g01623/laws.FnExactMstEnd", spec := "fnExactMstEnd", unfollowed := true, recurses := true, apart := false, narrowed := true }
def FnExactMstEndUptoSaid : Prop := fnExactMstEndUptoRow.holds Try.pinned (OpenSpec.upto fnExactMstEndSpec)

/-- 'laws.FnExactReplay', WHERE WHAT IT READS IS OF BULK AT MOST 1048576: true; the input reads as it did. -/
def fnExactReplayUptoRow : OpenClaim := { program := "ytdialnejieoelaa", sum := "11e4e00ed62e256268c508ae417dda40db89cd30d3070b19ef729847ed769146", func := "loop.example/g01623/laws.FnExactReplay", spec := "fnExactReplay", unfollowed := true, recurses := true, apart := false, narrowed := true }
def FnExactReplayUptoSaid : Prop := fnExactReplayUptoRow.holds Try.pinned (OpenSpec.upto fnExactReplaySpec)

/-- 'laws.FnExactMstOk', WHERE WHAT IT READS IS OF BULK AT MOST 1048576: true; the input reads as it did. -/
def fnExactMstOkUptoRow : OpenClaim := { program := "ytdialnejieoelaa", sum := "11e4e00ed62e256268c508ae417dda40db89cd30d3070b19ef729847ed769146", func := "loop.example/g01623/laws.FnExactMstOk", spec := "fnExactMstOk", unfollowed := true, recurses := true, apart := false, narrowed := true }
def FnExactMstOkUptoSaid : Prop := fnExactMstOkUptoRow.holds Try.pinned (OpenSpec.upto fnExactMstOkSpec)

/-- 'laws.FnExactScriptOk', WHERE WHAT IT READS IS OF BULK AT MOST 1048576: true; the input reads as it did. -/
def fnExactScriptOkUptoRow : OpenClaim := { program := "ytdialnejieoelaa", sum := "11e4e00ed62e256268c508ae417dda40db89cd30d3070b19ef729847ed769146", func := "loop.example/g01623/laws.FnExactScriptOk", spec := "fnExactScriptOk", unfollowed := true, recurses := true, apart := false, narrowed := true }
def FnExactScriptOkUptoSaid : Prop := fnExactScriptOkUptoRow.holds Try.pinned (OpenSpec.upto fnExactScriptOkSpec)

/-- 'laws.FnExactSameBus', WHERE WHAT IT READS IS OF BULK AT MOST 1048576: true; the input reads as it did. -/
def fnExactSameBusUptoRow : OpenClaim := { program := "ytdialnejieoelaa", sum := "11e4e00ed62e256268c508ae417dda40db89cd30d3070b19ef729847ed769146", func := "loop.example/g01623/laws.FnExactSameBus", spec := "fnExactSameBus", unfollowed := true, recurses := true, apart := false, narrowed := true }
def FnExactSameBusUptoSaid : Prop := fnExactSameBusUptoRow.holds Try.pinned (OpenSpec.upto fnExactSameBusSpec)

/-- 'laws.FnExactBusNew', WHERE WHAT IT READS IS OF BULK AT MOST 1048576: true; the input reads as it did. -/
def fnExactBusNewUptoRow : OpenClaim := { program := "ytdialnejieoelaa", sum := "11e4e00ed62e256268c508ae417dda40db89cd30d3070b19ef729847ed769146", func := "loop.example/g01623/laws.FnExactBusNew", spec := "fnExactBusNew", unfollowed := true, recurses := true, apart := false, narrowed := true }
def FnExactBusNewUptoSaid : Prop := fnExactBusNewUptoRow.holds Try.pinned (OpenSpec.upto fnExactBusNewSpec)

end Rows
end Go.Proofs.Ytdialnejieoelaa
