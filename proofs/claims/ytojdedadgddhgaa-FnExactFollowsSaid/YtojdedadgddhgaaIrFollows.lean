/- The table of the functions in the small language, printed by program. -/
import Derived.Test.YtojdedadgddhgaaAlW
import Derived.Test.YtojdedadgddhgaaIrFollows0
import Derived.KernelRfl
namespace Go.Proofs.Ytojdedadgddhgaa.AL
open Go

def prgT : List (Nat × Fnc) := [(46, F46),
 (111, F111),
 (130, F130),
 (131, F131),
 (147, F147),
 (161, F161),
 (162, F162),
 (198, F198)]
def prg : Prg := fun f => prgT.lookup f

theorem g46 : prg 46 = some F46 := by kernel_rfl
theorem g111 : prg 111 = some F111 := by kernel_rfl
theorem g130 : prg 130 = some F130 := by kernel_rfl
theorem g131 : prg 131 = some F131 := by kernel_rfl
theorem g147 : prg 147 = some F147 := by kernel_rfl
theorem g161 : prg 161 = some F161 := by kernel_rfl
theorem g162 : prg 162 = some F162 := by kernel_rfl
theorem g198 : prg 198 = some F198 := by kernel_rfl

theorem prg_ok : prgT.all (fun p => p.2.body.ok) = true := by kernel_rfl

end Go.Proofs.Ytojdedadgddhgaa.AL
