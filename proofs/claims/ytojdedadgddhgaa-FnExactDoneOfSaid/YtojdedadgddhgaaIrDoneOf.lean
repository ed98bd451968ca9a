/- The table of the functions in the small language, printed by program. -/
import Derived.Test.YtojdedadgddhgaaAlW
import Derived.Test.YtojdedadgddhgaaIrDoneOf0
import Derived.KernelRfl
namespace Go.Proofs.Ytojdedadgddhgaa.AL
open Go

def prgT : List (Nat × Fnc) := [(42, F42),
 (43, F43),
 (109, F109),
 (130, F130),
 (131, F131),
 (141, F141),
 (142, F142),
 (147, F147),
 (161, F161),
 (162, F162),
 (190, F190),
 (255, F255),
 (262, F262),
 (268, F268)]
def prg : Prg := fun f => prgT.lookup f

theorem g42 : prg 42 = some F42 := by kernel_rfl
theorem g43 : prg 43 = some F43 := by kernel_rfl
theorem g109 : prg 109 = some F109 := by kernel_rfl
theorem g130 : prg 130 = some F130 := by kernel_rfl
theorem g131 : prg 131 = some F131 := by kernel_rfl
theorem g141 : prg 141 = some F141 := by kernel_rfl
theorem g142 : prg 142 = some F142 := by kernel_rfl
theorem g147 : prg 147 = some F147 := by kernel_rfl
theorem g161 : prg 161 = some F161 := by kernel_rfl
theorem g162 : prg 162 = some F162 := by kernel_rfl
theorem g190 : prg 190 = some F190 := by kernel_rfl
theorem g255 : prg 255 = some F255 := by kernel_rfl
theorem g262 : prg 262 = some F262 := by kernel_rfl
theorem g268 : prg 268 = some F268 := by kernel_rfl

theorem prg_ok : prgT.all (fun p => p.2.body.ok) = true := by kernel_rfl

end Go.Proofs.Ytojdedadgddhgaa.AL
