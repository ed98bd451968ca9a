/-
  No cell of these rows narrows 'for every input' (looked for: loops, veiled, ifaces, maps, wideKeys, modest, calm, conditions, laid).
  DERIVED. THE GIVEN ROWS OF THIS SEAT. 12 by the template 'for every input the law returns true; each argument reads behind the call as it read before'; 0 by the template 'total and deterministic' (their statements: YtojdedadgddhgaaTotals.lean).
  GIVEN WITH THE SEED: the statements are not yours to turn. If you find one false, say at which input.
  Laid BY PROGRAM, IN A SANDBOX (cutbox-rows.mjs): the forced cells as the released guide's own fill.sh prints them over the translation 231d965c1514ed7f… (all of the seat's roots in one cut). By AI agents, Wed Nov 11 2026. No macro, syntax, notation, axiom, sorry.
-/
import Derived.Test.YtojdedadgddhgaaChecked
import GoSem.Claim
import GoSem.ClaimJoined
import GoSem.ClaimMapViews
import Derived.JoinedTies
import Derived.KernelRfl
namespace Go.Proofs.Ytojdedadgddhgaa
/- THE CELL 'sum', in the pinned program and in every row, IS THE sha256 OF THE DUMP (.gsa) THAT YtojdedadgddhgaaProg.lean LOADS. Nothing in Lean hashes anything: it is a label: what it is worth is what the hold of that sum in a sandbox is worth. -/
noncomputable def Try.pinned : Pinned := { name := "ytojdedadgddhgaa", sum := "231d965c1514ed7f9accb0552f2f1a5243db6932a7109eab9025a235847b9513", checked := Try.checked }
namespace Rows
def none {H : Type} : Left H := { results := [], args := [] }

/-- 'laws.FnExactBreachWord': WHATEVER THE INPUT: true; the input reads as it did. -/
def fnExactBreachWordSpec : ChangeSpec := { name := "fnExactBreachWord", fn := fun _ => fun
  | [d] => { results := [.lit (.bool true)], args := [d] }
  | _ => none }
def fnExactBreachWordRow : OpenClaim := { program := "ytojdedadgddhgaa", sum := "231d965c1514ed7f9accb0552f2f1a5243db6932a7109eab9025a235847b9513", func := "loop.example/g01623/laws.FnExactBreachWord", spec := "fnExactBreachWord", apart := false }
def FnExactBreachWordSaid : Prop := fnExactBreachWordRow.holds Try.pinned (OpenSpec.ofChange fnExactBreachWordSpec)

/-- ITS FALSE NEIGHBOUR: 'it returns false'. Refute it at one input. -/
def fnExactBreachWordWrong : ChangeSpec := { name := "fnExactBreachWord", fn := fun _ => fun
  | [d] => { results := [.lit (.bool false)], args := [d] }
  | _ => none }
def FnExactBreachWordWrongFalsely : Prop := fnExactBreachWordRow.holds Try.pinned (OpenSpec.ofChange fnExactBreachWordWrong)

/-- 'laws.FnExactSameLog': WHATEVER THE INPUT: true; the input reads as it did. -/
def fnExactSameLogSpec : ChangeSpec := { name := "fnExactSameLog", fn := fun _ => fun
  | [d1, d2] => { results := [.lit (.bool true)], args := [d1, d2] }
  | _ => none }
def fnExactSameLogRow : OpenClaim := { program := "ytojdedadgddhgaa", sum := "231d965c1514ed7f9accb0552f2f1a5243db6932a7109eab9025a235847b9513", func := "loop.example/g01623/laws.FnExactSameLog", spec := "fnExactSameLog", apart := false }
def FnExactSameLogSaid : Prop := fnExactSameLogRow.holds Try.pinned (OpenSpec.ofChange fnExactSameLogSpec)

/-- ITS FALSE NEIGHBOUR: 'it returns false'. Refute it at one input. -/
def fnExactSameLogWrong : ChangeSpec := { name := "fnExactSameLog", fn := fun _ => fun
  | [d1, d2] => { results := [.lit (.bool false)], args := [d1, d2] }
  | _ => none }
def FnExactSameLogWrongFalsely : Prop := fnExactSameLogRow.holds Try.pinned (OpenSpec.ofChange fnExactSameLogWrong)

/-- 'laws.FnExactFollows': WHATEVER THE INPUT: true; the input reads as it did. -/
def fnExactFollowsSpec : ChangeSpec := { name := "fnExactFollows", fn := fun _ => fun
  | [d1, d2] => { results := [.lit (.bool true)], args := [d1, d2] }
  | _ => none }
def fnExactFollowsRow : OpenClaim := { program := "ytojdedadgddhgaa", sum := "231d965c1514ed7f9accb0552f2f1a5243db6932a7109eab9025a235847b9513", func := "loop.example/g01623/laws.FnExactFollows", spec := "fnExactFollows", apart := false }
def FnExactFollowsSaid : Prop := fnExactFollowsRow.holds Try.pinned (OpenSpec.ofChange fnExactFollowsSpec)

/-- ITS FALSE NEIGHBOUR: 'it returns false'. Refute it at one input. -/
def fnExactFollowsWrong : ChangeSpec := { name := "fnExactFollows", fn := fun _ => fun
  | [d1, d2] => { results := [.lit (.bool false)], args := [d1, d2] }
  | _ => none }
def FnExactFollowsWrongFalsely : Prop := fnExactFollowsRow.holds Try.pinned (OpenSpec.ofChange fnExactFollowsWrong)

/-- 'laws.FnExactLeastEvery': WHATEVER THE INPUT: true; the input reads as it did. -/
def fnExactLeastEverySpec : ChangeSpec := { name := "fnExactLeastEvery", fn := fun _ => fun
  | [d] => { results := [.lit (.bool true)], args := [d] }
  | _ => none }
def fnExactLeastEveryRow : OpenClaim := { program := "ytojdedadgddhgaa", sum := "231d965c1514ed7f9accb0552f2f1a5243db6932a7109eab9025a235847b9513", func := "loop.example/g01623/laws.FnExactLeastEvery", spec := "fnExactLeastEvery", apart := false }
def FnExactLeastEverySaid : Prop := fnExactLeastEveryRow.holds Try.pinned (OpenSpec.ofChange fnExactLeastEverySpec)

/-- ITS FALSE NEIGHBOUR: 'it returns false'. Refute it at one input. -/
def fnExactLeastEveryWrong : ChangeSpec := { name := "fnExactLeastEvery", fn := fun _ => fun
  | [d] => { results := [.lit (.bool false)], args := [d] }
  | _ => none }
def FnExactLeastEveryWrongFalsely : Prop := fnExactLeastEveryRow.holds Try.pinned (OpenSpec.ofChange fnExactLeastEveryWrong)

/-- 'laws.FnBuckets': WHATEVER THE INPUT: true; the input reads as it did. -/
def fnBucketsSpec : ChangeSpec := { name := "fnBuckets", fn := fun _ => fun
  | [d] => { results := [.lit (.bool true)], args := [d] }
  | _ => none }
def fnBucketsRow : OpenClaim := { program := "ytojdedadgddhgaa", sum := "231d965c1514ed7f9accb0552f2f1a5243db6932a7109eab9025a235847b9513", func := "loop.example/g01623/laws.FnBuckets", spec := "fnBuckets", apart := false }
def FnBucketsSaid : Prop := fnBucketsRow.holds Try.pinned (OpenSpec.ofChange fnBucketsSpec)

/-- ITS FALSE NEIGHBOUR: 'it returns false'. Refute it at one input. -/
def fnBucketsWrong : ChangeSpec := { name := "fnBuckets", fn := fun _ => fun
  | [d] => { results := [.lit (.bool false)], args := [d] }
  | _ => none }
def FnBucketsWrongFalsely : Prop := fnBucketsRow.holds Try.pinned (OpenSpec.ofChange fnBucketsWrong)

/-- 'laws.FnExactShareOk': WHATEVER THE INPUT: true; the input reads as it did. -/
def fnExactShareOkSpec : ChangeSpec := { name := "fnExactShareOk", fn := fun _ => fun
  | [d] => { results := [.lit (.bool true)], args := [d] }
  | _ => none }
def fnExactShareOkRow : OpenClaim := { program := "ytojdedadgddhgaa", sum := "231d965c1514ed7f9accb0552f2f1a5243db6932a7109eab9025a235847b9513", func := "loop.example/g01623/laws.FnExactShareOk", spec := "fnExactShareOk", apart := false }
def FnExactShareOkSaid : Prop := fnExactShareOkRow.holds Try.pinned (OpenSpec.ofChange fnExactShareOkSpec)

/-- ITS FALSE NEIGHBOUR: 'it returns false'. Refute it at one input. -/
def fnExactShareOkWrong : ChangeSpec := { name := "fnExactShareOk", fn := fun _ => fun
  | [d] => { results := [.lit (.bool false)], args := [d] }
  | _ => none }
def FnExactShareOkWrongFalsely : Prop := fnExactShareOkRow.holds Try.pinned (OpenSpec.ofChange fnExactShareOkWrong)

/-- 'laws.FnExactDoneOf': WHATEVER THE INPUT: true; the input reads as it did. -/
def fnExactDoneOfSpec : ChangeSpec := { name := "fnExactDoneOf", fn := fun _ => fun
  | [d1, d2] => { results := [.lit (.bool true)], args := [d1, d2] }
  | _ => none }
def fnExactDoneOfRow : OpenClaim := { program := "ytojdedadgddhgaa", sum := "231d965c1514ed7f9accb0552f2f1a5243db6932a7109eab9025a235847b9513", func := "loop.example/g01623/laws.FnExactDoneOf", spec := "fnExactDoneOf", unfollowed := true, recurses := true, apart := false }
def FnExactDoneOfSaid : Prop := fnExactDoneOfRow.holds Try.pinned (OpenSpec.ofChange fnExactDoneOfSpec)

/-- ITS FALSE NEIGHBOUR: 'it returns false'. Refute it at one input. -/
def fnExactDoneOfWrong : ChangeSpec := { name := "fnExactDoneOf", fn := fun _ => fun
  | [d1, d2] => { results := [.lit (.bool false)], args := [d1, d2] }
  | _ => none }
def FnExactDoneOfWrongFalsely : Prop := fnExactDoneOfRow.holds Try.pinned (OpenSpec.ofChange fnExactDoneOfWrong)

/-- 'laws.FnExactConfOk': WHATEVER THE INPUT: true; the input reads as it did. -/
def fnExactConfOkSpec : ChangeSpec := { name := "fnExactConfOk", fn := fun _ => fun
  | [d] => { results := [.lit (.bool true)], args := [d] }
  | _ => none }
def fnExactConfOkRow : OpenClaim := { program := "ytojdedadgddhgaa", sum := "231d965c1514ed7f9accb0552f2f1a5243db6932a7109eab9025a235847b9513", func := "loop.example/g01623/laws.FnExactConfOk", spec := "fnExactConfOk", unfollowed := true, recurses := true, apart := false }
def FnExactConfOkSaid : Prop := fnExactConfOkRow.holds Try.pinned (OpenSpec.ofChange fnExactConfOkSpec)

/-- ITS FALSE NEIGHBOUR: 'it returns false'. Refute it at one input. -/
def fnExactConfOkWrong : ChangeSpec := { name := "fnExactConfOk", fn := fun _ => fun
  | [d] => { results := [.lit (.bool false)], args := [d] }
  | _ => none }
def FnExactConfOkWrongFalsely : Prop := fnExactConfOkRow.holds Try.pinned (OpenSpec.ofChange fnExactConfOkWrong)

/-- 'laws.FnExactTurnOf': WHATEVER THE INPUT: true; the input reads as it did. -/
def fnExactTurnOfSpec : ChangeSpec := { name := "fnExactTurnOf", fn := fun _ => fun
  | [d1, d2] => { results := [.lit (.bool true)], args := [d1, d2] }
  | _ => none }
def fnExactTurnOfRow : OpenClaim := { program := "ytojdedadgddhgaa", sum := "231d965c1514ed7f9accb0552f2f1a5243db6932a7109eab9025a235847b9513", func := "loop.example/g01623/laws.FnExactTurnOf", spec := "fnExactTurnOf", unfollowed := true, recurses := true, apart := false }
def FnExactTurnOfSaid : Prop := fnExactTurnOfRow.holds Try.pinned (OpenSpec.ofChange fnExactTurnOfSpec)

/-- ITS FALSE NEIGHBOUR: 'it returns false'. Refute it at one input. -/
def fnExactTurnOfWrong : ChangeSpec := { name := "fnExactTurnOf", fn := fun _ => fun
  | [d1, d2] => { results := [.lit (.bool false)], args := [d1, d2] }
  | _ => none }
def FnExactTurnOfWrongFalsely : Prop := fnExactTurnOfRow.holds Try.pinned (OpenSpec.ofChange fnExactTurnOfWrong)

/-- 'laws.FnExactSameMst': WHATEVER THE INPUT: true; the input reads as it did. -/
def fnExactSameMstSpec : ChangeSpec := { name := "fnExactSameMst", fn := fun _ => fun
  | [d1, d2] => { results := [.lit (.bool true)], args := [d1, d2] }
  | _ => none }
def fnExactSameMstRow : OpenClaim := { program := "ytojdedadgddhgaa", sum := "231d965c1514ed7f9accb0552f2f1a5243db6932a7109eab9025a235847b9513", func := "loop.example/g01623/laws.FnExactSameMst", spec := "fnExactSameMst", unfollowed := true, recurses := true, apart := false }
def FnExactSameMstSaid : Prop := fnExactSameMstRow.holds Try.pinned (OpenSpec.ofChange fnExactSameMstSpec)

/-- ITS FALSE NEIGHBOUR: 'it returns false'. Refute it at one input. -/
def fnExactSameMstWrong : ChangeSpec := { name := "fnExactSameMst", fn := fun _ => fun
  | [d1, d2] => { results := [.lit (.bool false)], args := [d1, d2] }
  | _ => none }
def FnExactSameMstWrongFalsely : Prop := fnExactSameMstRow.holds Try.pinned (OpenSpec.ofChange fnExactSameMstWrong)

/-- 'laws.FnExactWrrOk': WHATEVER THE INPUT: true; the input reads as it did. -/
def fnExactWrrOkSpec : ChangeSpec := { name := "fnExactWrrOk", fn := fun _ => fun
  | [d1, d2] => { results := [.lit (.bool true)], args := [d1, d2] }
  | _ => none }
def fnExactWrrOkRow : OpenClaim := { program := "ytojdedadgddhgaa", sum := "231d965c1514ed7f9accb0552f2f1a5243db6932a7109eab9025a235847b9513", func := "loop.example/g01623/laws.FnExactWrrOk", spec := "fnExactWrrOk", unfollowed := true, recurses := true, apart := false }
def FnExactWrrOkSaid : Prop := fnExactWrrOkRow.holds Try.pinned (OpenSpec.ofChange fnExactWrrOkSpec)

/-- ITS FALSE NEIGHBOUR: 'it returns false'. Refute it at one input. -/
def fnExactWrrOkWrong : ChangeSpec := { name := "fnExactWrrOk", fn := fun _ => fun
  | [d1, d2] => { results := [.lit (.bool false)], args := [d1, d2] }
  | _ => none }
def FnExactWrrOkWrongFalsely : Prop := fnExactWrrOkRow.holds Try.pinned (OpenSpec.ofChange fnExactWrrOkWrong)

/-- 'laws.FnExactFirstBound': WHATEVER THE INPUT: true; the input reads as it did. -/
def fnExactFirstBoundSpec : ChangeSpec := { name := "fnExactFirstBound", fn := fun _ => fun
  | [d] => { results := [.lit (.bool true)], args := [d] }
  | _ => none }
def fnExactFirstBoundRow : OpenClaim := { program := "ytojdedadgddhgaa", sum := "231d965c1514ed7f9accb0552f2f1a5243db6932a7109eab9025a235847b9513", func := "loop.example/g01623/laws.FnExactFirstBound", spec := "fnExactFirstBound", unfollowed := true, recurses := true, apart := false }
def FnExactFirstBoundSaid : Prop := fnExactFirstBoundRow.holds Try.pinned (OpenSpec.ofChange fnExactFirstBoundSpec)

/-- ITS FALSE NEIGHBOUR: 'it returns false'. Refute it at one input. -/
def fnExactFirstBoundWrong : ChangeSpec := { name := "fnExactFirstBound", fn := fun _ => fun
  | [d] => { results := [.lit (.bool false)], args := [d] }
  | _ => none }
def FnExactFirstBoundWrongFalsely : Prop := fnExactFirstBoundRow.holds Try.pinned (OpenSpec.ofChange fnExactFirstBoundWrong)

/- THE SECOND FORM. 'bulk': how many values and letters a reading holds, each counted each time it is reached (what is shared counts as often as it is met; a slice's spare places count too). A statement '..UptoSaid' is the law's where the arguments, and the package variables that the reading takes, are together of bulk at most 1048576: NARROWER than '..Said'. Prove '..Said' where nothing that the law and all that it calls make is longer than what came in: it says more and counts as full. Else prove '..UptoSaid'. A law counts once. -/
mutual
def uptoBulk {H : Type} : DataW H → Nat
  | .lit (.string bytes) => bytes.length + 1
  | .lit _ => 1
  | .nil => 1
  | .ptr d => uptoBulk d + 1
  | .slice elems spare => uptoBulkAll elems + uptoBulkAll spare + 1
  | .agg parts => uptoBulkAll parts + 1
  | .iface _ d => uptoBulk d + 1
  | .map entries => uptoBulkEntries entries + 1
  | .held _ => 1
def uptoBulkAll {H : Type} : List (DataW H) → Nat
  | [] => 0
  | d :: r => uptoBulk d + uptoBulkAll r
def uptoBulkEntries {H : Type} : List (Lit × DataW H) → Nat
  | [] => 0
  | x :: r => uptoBulkEntry x + uptoBulkEntries r
def uptoBulkEntry {H : Type} : Lit × DataW H → Nat
  | (.string bytes, d) => bytes.length + uptoBulk d + 1
  | (_, d) => uptoBulk d + 1
 end
def uptoSmall : (H : Type) → List (DataW H) → Bool := fun _ ds => decide (uptoBulkAll ds ≤ 1048576)
def OpenSpec.upto (s : _root_.Go.ChangeSpec) : _root_.Go.OpenSpec := { _root_.Go.OpenSpec.ofChange s with cond := some uptoSmall }

/-- 'laws.FnExactBreachWord', WHERE WHAT IT READS IS OF BULK AT MOST 1048576: true; the input reads as it did. -/
def fnExactBreachWordUptoRow : OpenClaim := { program := "ytojdedadgddhgaa", sum := "231d965c1514ed7f9accb0552f2f1a5243db6932a7109eab9025a235847b9513", func := "loop.example/g01623/laws.FnExactBreachWord", spec := "fnExactBreachWord", apart := false, narrowed := true }
def FnExactBreachWordUptoSaid : Prop := fnExactBreachWordUptoRow.holds Try.pinned (OpenSpec.upto fnExactBreachWordSpec)

/-- 'laws.FnExactSameLog', WHERE WHAT IT READS IS OF BULK AT MOST 1048576: true; the input reads as it did. -/
def fnExactSameLogUptoRow : OpenClaim := { program := "ytojdedadgddhgaa", sum := "231d965c1514ed7f9accb0552f2f1a5243db6932a7109eab9025a235847b9513", func := "loop.example/g01623/laws.FnExactSameLog", spec := "fnExactSameLog", apart := false, narrowed := true }
def FnExactSameLogUptoSaid : Prop := fnExactSameLogUptoRow.holds Try.pinned (OpenSpec.upto fnExactSameLogSpec)

/-- 'laws.FnExactFollows', WHERE WHAT IT READS IS OF BULK AT MOST 1048576: true; the input reads as it did. -/
def fnExactFollowsUptoRow : OpenClaim := { program := "ytojdedadgddhgaa", sum := "231d965c1514ed7f9accb0552f2f1a5243db6932a7109eab9025a235847b9513", func := "loop.example/g01623/laws.FnExactFollows", spec := "fnExactFollows", apart := false, narrowed := true }
def FnExactFollowsUptoSaid : Prop := fnExactFollowsUptoRow.holds Try.pinned (OpenSpec.upto fnExactFollowsSpec)

/-- 'laws.FnExactLeastEvery', WHERE WHAT IT READS IS OF BULK AT MOST 1048576: true; the input reads as it did. -/
def fnExactLeastEveryUptoRow : OpenClaim := { program := "ytojdedadgddhgaa", sum := "231d965c1514ed7f9accb0552f2f1a5243db6932a7109eab9025a235847b9513", func := "loop.example/g01623/laws.FnExactLeastEvery", spec := "fnExactLeastEvery", apart := false, narrowed := true }
def FnExactLeastEveryUptoSaid : Prop := fnExactLeastEveryUptoRow.holds Try.pinned (OpenSpec.upto fnExactLeastEverySpec)

/-- 'laws.FnBuckets', WHERE WHAT IT READS IS OF BULK AT MOST 1048576: true; the input reads as it did. -/
def fnBucketsUptoRow : OpenClaim := { program := "ytojdedadgddhgaa", sum := "231d965c1514ed7f9accb0552f2f1a5243db6932a7109eab9025a235847b9513", func := "loop.example/g01623/laws.FnBuckets", spec := "fnBuckets", apart := false, narrowed := true }
def FnBucketsUptoSaid : Prop := fnBucketsUptoRow.holds Try.pinned (OpenSpec.upto fnBucketsSpec)

/-- 'laws.FnExactShareOk', WHERE WHAT IT READS IS OF BULK AT MOST 1048576: true; the input reads as it did. -/
def fnExactShareOkUptoRow : OpenClaim := { program := "ytojdedadgddhgaa", sum := "231d965c1514ed7f9accb0552f2f1a5243db6932a7109eab9025a235847b9513", func := "loop.example/g01623/laws.FnExactShareOk", spec := "fnExactShareOk", apart := false, narrowed := true }
def FnExactShareOkUptoSaid : Prop := fnExactShareOkUptoRow.holds Try.pinned (OpenSpec.upto fnExactShareOkSpec)

/-- 'laws.FnExactDoneOf', WHERE WHAT IT READS IS OF BULK AT MOST 1048576: true; the input reads as it did. -/
def fnExactDoneOfUptoRow : OpenClaim := { program := "ytojdedadgddhgaa", sum := "231d965c1514ed7f9accb0552f2f1a5243db6932a7109eab9025a235847b9513", func := "loop.example/g01623/laws.FnExactDoneOf", spec := "fnExactDoneOf", unfollowed := true, recurses := true, apart := false, narrowed := true }
def FnExactDoneOfUptoSaid : Prop := fnExactDoneOfUptoRow.holds Try.pinned (OpenSpec.upto fnExactDoneOfSpec)

/-- 'laws.FnExactConfOk', WHERE WHAT IT READS IS OF BULK AT MOST 1048576: true; the input reads as it did. -/
def fnExactConfOkUptoRow : OpenClaim := { program := "ytojdedadgddhgaa", sum := "231d965c1514ed7f9accb0552f2f1a5243db6932a7109eab9025a235847b9513", func := "loop.example/g01623/laws.FnExactConfOk", spec := "fnExactConfOk", unfollowed := true, recurses := true, apart := false, narrowed := true }
def FnExactConfOkUptoSaid : Prop := fnExactConfOkUptoRow.holds Try.pinned (OpenSpec.upto fnExactConfOkSpec)

/-- 'laws.FnExactTurnOf', WHERE WHAT IT READS IS OF BULK AT MOST 1048576: true; the input reads as it did. -/
def fnExactTurnOfUptoRow : OpenClaim := { program := "ytojdedadgddhgaa", sum := "231d965c1514ed7f9accb0552f2f1a5243db6932a7109eab9025a235847b9513", func := "loop.example/g01623/laws.FnExactTurnOf", spec := "fnExactTurnOf", unfollowed := true, recurses := true, apart := false, narrowed := true }
def FnExactTurnOfUptoSaid : Prop := fnExactTurnOfUptoRow.holds Try.pinned (OpenSpec.upto fnExactTurnOfSpec)

/-- 'laws.FnExactSameMst', WHERE WHAT IT READS IS OF BULK AT MOST 1048576: true; the input reads as it did. -/
def fnExactSameMstUptoRow : OpenClaim := { program := "ytojdedadgddhgaa", sum := "231d965c1514ed7f9accb0552f2f1a5243db6932a7109eab9025a235847b9513", func := "loop.example/g01623/laws.FnExactSameMst", spec := "fnExactSameMst", unfollowed := true, recurses := true, apart := false, narrowed := true }
def FnExactSameMstUptoSaid : Prop := fnExactSameMstUptoRow.holds Try.pinned (OpenSpec.upto fnExactSameMstSpec)

/-- 'laws.FnExactWrrOk', WHERE WHAT IT READS IS OF BULK AT MOST 1048576: true; the input reads as it did. -/
def fnExactWrrOkUptoRow : OpenClaim := { program := "ytojdedadgddhgaa", sum := "231d965c1514ed7f9accb0552f2f1a5243db6932a7109eab9025a235847b9513", func := "loop.example/g01623/laws.FnExactWrrOk", spec := "fnExactWrrOk", unfollowed := true, recurses := true, apart := false, narrowed := true }
def FnExactWrrOkUptoSaid : Prop := fnExactWrrOkUptoRow.holds Try.pinned (OpenSpec.upto fnExactWrrOkSpec)

/-- 'laws.FnExactFirstBound', WHERE WHAT IT READS IS OF BULK AT MOST 1048576: true; the input reads as it did. -/
def fnExactFirstBoundUptoRow : OpenClaim := { program := "ytojdedadgddhgaa", sum := "231d965c1514ed7f9accb0552f2f1a5243db6932a7109eab9025a235847b9513", func := "loop.example/g01623/laws.FnExactFirstBound", spec := "fnExactFirstBound", unfollowed := true, recurses := true, apart := false, narrowed := true }
def FnExactFirstBoundUptoSaid : Prop := fnExactFirstBoundUptoRow.holds Try.pinned (OpenSpec.upto fnExactFirstBoundSpec)

end Rows
end Go.Proofs.Ytojdedadgddhgaa
