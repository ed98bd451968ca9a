/- The table of the functions in the small language, printed by program. -/
import Derived.Test.YtojdedadgddhgaaAlW
import Derived.Test.YtojdedadgddhgaaIrShareOk0
import Derived.KernelRfl
namespace Go.Proofs.Ytojdedadgddhgaa.AL
open Go

def prgT : List (Nat × Fnc) := [(37, F37),
 (50, F50),
 (72, F72),
 (74, F74),
 (101, F101),
 (103, F103),
 (117, F117),
 (128, F128),
 (133, F133),
 (134, F134),
 (145, F145),
 (149, F149),
 (159, F159),
 (164, F164),
 (165, F165),
 (186, F186),
 (200, F200),
 (213, F213),
 (214, F214),
 (230, F230)]
def prg : Prg := fun f => prgT.lookup f

theorem g37 : prg 37 = some F37 := by kernel_rfl
theorem g50 : prg 50 = some F50 := by kernel_rfl
theorem g72 : prg 72 = some F72 := by kernel_rfl
theorem g74 : prg 74 = some F74 := by kernel_rfl
theorem g101 : prg 101 = some F101 := by kernel_rfl
theorem g103 : prg 103 = some F103 := by kernel_rfl
theorem g117 : prg 117 = some F117 := by kernel_rfl
theorem g128 : prg 128 = some F128 := by kernel_rfl
theorem g133 : prg 133 = some F133 := by kernel_rfl
theorem g134 : prg 134 = some F134 := by kernel_rfl
theorem g145 : prg 145 = some F145 := by kernel_rfl
theorem g149 : prg 149 = some F149 := by kernel_rfl
theorem g159 : prg 159 = some F159 := by kernel_rfl
theorem g164 : prg 164 = some F164 := by kernel_rfl
theorem g165 : prg 165 = some F165 := by kernel_rfl
theorem g186 : prg 186 = some F186 := by kernel_rfl
theorem g200 : prg 200 = some F200 := by kernel_rfl
theorem g213 : prg 213 = some F213 := by kernel_rfl
theorem g214 : prg 214 = some F214 := by kernel_rfl
theorem g230 : prg 230 = some F230 := by kernel_rfl

theorem prg_ok : prgT.all (fun p => p.2.body.ok) = true := by kernel_rfl

end Go.Proofs.Ytojdedadgddhgaa.AL
