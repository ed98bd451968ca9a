/- The table of the functions in the small language, printed by program. -/
import Derived.Test.YtojdedadgddhgaaAlW
import Derived.Test.YtojdedadgddhgaaIrSameLog0
import Derived.KernelRfl
namespace Go.Proofs.Ytojdedadgddhgaa.AL
open Go

def prgT : List (Nat × Fnc) := [(69, F69),
 (115, F115),
 (130, F130),
 (131, F131),
 (147, F147),
 (161, F161),
 (162, F162),
 (209, F209),
 (225, F225),
 (265, F265)]
def prg : Prg := fun f => prgT.lookup f

theorem g69 : prg 69 = some F69 := by kernel_rfl
theorem g115 : prg 115 = some F115 := by kernel_rfl
theorem g130 : prg 130 = some F130 := by kernel_rfl
theorem g131 : prg 131 = some F131 := by kernel_rfl
theorem g147 : prg 147 = some F147 := by kernel_rfl
theorem g161 : prg 161 = some F161 := by kernel_rfl
theorem g162 : prg 162 = some F162 := by kernel_rfl
theorem g209 : prg 209 = some F209 := by kernel_rfl
theorem g225 : prg 225 = some F225 := by kernel_rfl
theorem g265 : prg 265 = some F265 := by kernel_rfl

theorem prg_ok : prgT.all (fun p => p.2.body.ok) = true := by kernel_rfl

end Go.Proofs.Ytojdedadgddhgaa.AL
