/- The table of the functions in the small language, printed by program. -/
import Derived.Test.YtojdedadgddhgaaAlW
import Derived.Test.YtojdedadgddhgaaIrBuckets0
import Derived.KernelRfl
namespace Go.Proofs.Ytojdedadgddhgaa.AL
open Go

def prgT : List (Nat × Fnc) := [(24, F24),
 (25, F25),
 (26, F26),
 (27, F27),
 (28, F28),
 (76, F76),
 (90, F90),
 (103, F103),
 (104, F104),
 (122, F122),
 (123, F123),
 (175, F175),
 (176, F176),
 (177, F177),
 (178, F178),
 (191, F191),
 (192, F192),
 (218, F218),
 (219, F219),
 (228, F228),
 (229, F229),
 (230, F230),
 (231, F231),
 (233, F233),
 (234, F234)]
def prg : Prg := fun f => prgT.lookup f

theorem g24 : prg 24 = some F24 := by kernel_rfl
theorem g25 : prg 25 = some F25 := by kernel_rfl
theorem g26 : prg 26 = some F26 := by kernel_rfl
theorem g27 : prg 27 = some F27 := by kernel_rfl
theorem g28 : prg 28 = some F28 := by kernel_rfl
theorem g76 : prg 76 = some F76 := by kernel_rfl
theorem g90 : prg 90 = some F90 := by kernel_rfl
theorem g103 : prg 103 = some F103 := by kernel_rfl
theorem g104 : prg 104 = some F104 := by kernel_rfl
theorem g122 : prg 122 = some F122 := by kernel_rfl
theorem g123 : prg 123 = some F123 := by kernel_rfl
theorem g175 : prg 175 = some F175 := by kernel_rfl
theorem g176 : prg 176 = some F176 := by kernel_rfl
theorem g177 : prg 177 = some F177 := by kernel_rfl
theorem g178 : prg 178 = some F178 := by kernel_rfl
theorem g191 : prg 191 = some F191 := by kernel_rfl
theorem g192 : prg 192 = some F192 := by kernel_rfl
theorem g218 : prg 218 = some F218 := by kernel_rfl
theorem g219 : prg 219 = some F219 := by kernel_rfl
theorem g228 : prg 228 = some F228 := by kernel_rfl
theorem g229 : prg 229 = some F229 := by kernel_rfl
theorem g230 : prg 230 = some F230 := by kernel_rfl
theorem g231 : prg 231 = some F231 := by kernel_rfl
theorem g233 : prg 233 = some F233 := by kernel_rfl
theorem g234 : prg 234 = some F234 := by kernel_rfl

theorem prg_ok : prgT.all (fun p => p.2.body.ok) = true := by kernel_rfl

end Go.Proofs.Ytojdedadgddhgaa.AL
