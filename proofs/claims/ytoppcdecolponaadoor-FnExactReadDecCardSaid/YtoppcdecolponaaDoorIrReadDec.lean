/- The table of the functions in the small language, printed by program. -/
import Derived.Test.YtoppcdecolponaaDoorAlW
import Derived.Test.YtoppcdecolponaaDoorIrReadDec0
import Derived.KernelRfl
namespace Go.Proofs.YtoppcdecolponaaDoor.AL
open Go
def prgT : List (Nat × Fnc) := [(63, F63),
 (114, F114),
 (187, F187),
 (206, F206)]
def prg : Prg := fun f => prgT.lookup f
theorem g63 : prg 63 = some F63 := by kernel_rfl
theorem g114 : prg 114 = some F114 := by kernel_rfl
theorem g187 : prg 187 = some F187 := by kernel_rfl
theorem g206 : prg 206 = some F206 := by kernel_rfl
theorem prg_ok : prgT.all (fun p => p.2.body.ok) = true := by kernel_rfl
end Go.Proofs.YtoppcdecolponaaDoor.AL
