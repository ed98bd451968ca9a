-- PRINTED BY print.sh 35421559b90ae4d0a3588c463048766b98c2df88dd9212a6774a882060cdf62d: not written by this session
import Derived.Test.YtojdedadgddhgaaProg
import Derived.Below
import Derived.Deep.Draws
import Derived.Deep.AppendLies
import Derived.Maps.AppendAt
import Derived.OwnWalk
import Derived.Laws.BytesArg
import Derived.Laws.MakeOwn
import Derived.Laws.OwnMore
import Derived.Deep.OwnRows
import Derived.Tactics
import Derived.Lib.ConvBytes
import Derived.Laws.Slices
import Derived.WalkKit
import Derived.KernelRfl
import Derived.RowKit3
import Derived.Deep.LoopGhost
import Derived.Deep.QuietTactic
import Derived.BigQuiet
import Derived.WideLaws
import Derived.Deep.DeepCutAuto
import Derived.Deep.CutBlock
import Derived.Deep.RegionHeld3
import Derived.Laws.Rows
import Derived.Lib.AppendStr
import Derived.ArgAppend
import Derived.Laws.IdiomCopy
import Derived.OrdersHeld
import Derived.Laws.BitsLemmas
import Derived.RowKit
import Derived.Test.YtojdedadgddhgaaWWords
import Derived.Test.YtojdedadgddhgaaWLast
import Derived.Test.YtojdedadgddhgaaWTab
import Derived.Test.YtojdedadgddhgaaWFour
import Derived.Test.YtojdedadgddhgaaWQPut
import Derived.Test.YtojdedadgddhgaaWApart
import Derived.Test.YtojdedadgddhgaaWArr
import Derived.Test.YtojdedadgddhgaaWZeros
import Derived.Test.YtojdedadgddhgaaWFoot
import Derived.Test.YtojdedadgddhgaaWKept
import Derived.Test.YtojdedadgddhgaaWShare
import Derived.Test.YtojdedadgddhgaaWN
import Derived.Test.YtojdedadgddhgaaWFootNe
import Derived.Test.YtojdedadgddhgaaWAt
import Derived.Test.YtojdedadgddhgaaWEqStruct
import Derived.Test.YtojdedadgddhgaaWRepsOne
import Derived.Test.YtojdedadgddhgaaWInv
import Derived.Test.YtojdedadgddhgaaWInvWords
import Derived.Test.YtojdedadgddhgaaWGuard
import Derived.Test.YtojdedadgddhgaaWNEv
import Derived.Test.YtojdedadgddhgaaWMore
namespace Go.Proofs.Ytojdedadgddhgaa.PFnExactBreachWord
open Go.RowKit Go.Proofs.YtojdedadgddhgaaW.PrintWords Go.Proofs.YtojdedadgddhgaaW.PrintLast Go.Proofs.YtojdedadgddhgaaW.PrintMore
attribute [local go_sem] max2_int min2_int max_two min_two max_three min_three max_four min_four   -- for this text's walks alone
set_option linter.unusedVariables false
set_option linter.unusedSimpArgs false



def errW : Option Int → Value
  | none => .nilIface
  | some c => .iface 0 (.int .i64 c)
theorem errW_none : errW none = .nilIface := rfl
theorem errW_some (c : Int) : errW (some c) = .iface 0 (.int .i64 c) := rfl

theorem info9 : (Try.prog.info? 9).map (fun i => (i.zero, i.size, i.bytes)) = some (some (.string ⟨#[]⟩), 1, 16) := by kernel_rfl
-- the values' own types

end Go.Proofs.Ytojdedadgddhgaa.PFnExactBreachWord
