/- The table of the functions in the small language, printed by program. -/
import Derived.Test.YtdlkgdlefbabcaaAlW
import Derived.Test.YtdlkgdlefbabcaaIrWanted0
import Derived.KernelRfl
namespace Go.Proofs.Ytdlkgdlefbabcaa.AL
open Go

def prgT : List (Nat × Fnc) := [(21, F21),
 (22, F22),
 (29, F29),
 (30, F30),
 (33, F33),
 (46, F46),
 (51, F51),
 (60, F60),
 (66, F66),
 (67, F67),
 (92, F92),
 (103, F103),
 (123, F123),
 (172, F172),
 (173, F173),
 (179, F179),
 (180, F180),
 (183, F183),
 (198, F198),
 (201, F201),
 (205, F205),
 (207, F207),
 (228, F228),
 (229, F229),
 (230, F230),
 (231, F231),
 (233, F233),
 (234, F234),
 (237, F237),
 (239, F239),
 (241, F241),
 (257, F257),
 (266, F266),
 (302, F302),
 (323, F323),
 (324, F324),
 (325, F325),
 (328, F328),
 (336, F336)]
def prg : Prg := fun f => prgT.lookup f

theorem g21 : prg 21 = some F21 := by kernel_rfl
theorem g22 : prg 22 = some F22 := by kernel_rfl
theorem g29 : prg 29 = some F29 := by kernel_rfl
theorem g30 : prg 30 = some F30 := by kernel_rfl
theorem g33 : prg 33 = some F33 := by kernel_rfl
theorem g46 : prg 46 = some F46 := by kernel_rfl
theorem g51 : prg 51 = some F51 := by kernel_rfl
theorem g60 : prg 60 = some F60 := by kernel_rfl
theorem g66 : prg 66 = some F66 := by kernel_rfl
theorem g67 : prg 67 = some F67 := by kernel_rfl
theorem g92 : prg 92 = some F92 := by kernel_rfl
theorem g103 : prg 103 = some F103 := by kernel_rfl
theorem g123 : prg 123 = some F123 := by kernel_rfl
theorem g172 : prg 172 = some F172 := by kernel_rfl
theorem g173 : prg 173 = some F173 := by kernel_rfl
theorem g179 : prg 179 = some F179 := by kernel_rfl
theorem g180 : prg 180 = some F180 := by kernel_rfl
theorem g183 : prg 183 = some F183 := by kernel_rfl
theorem g198 : prg 198 = some F198 := by kernel_rfl
theorem g201 : prg 201 = some F201 := by kernel_rfl
theorem g205 : prg 205 = some F205 := by kernel_rfl
theorem g207 : prg 207 = some F207 := by kernel_rfl
theorem g228 : prg 228 = some F228 := by kernel_rfl
theorem g229 : prg 229 = some F229 := by kernel_rfl
theorem g230 : prg 230 = some F230 := by kernel_rfl
theorem g231 : prg 231 = some F231 := by kernel_rfl
theorem g233 : prg 233 = some F233 := by kernel_rfl
theorem g234 : prg 234 = some F234 := by kernel_rfl
theorem g237 : prg 237 = some F237 := by kernel_rfl
theorem g239 : prg 239 = some F239 := by kernel_rfl
theorem g241 : prg 241 = some F241 := by kernel_rfl
theorem g257 : prg 257 = some F257 := by kernel_rfl
theorem g266 : prg 266 = some F266 := by kernel_rfl
theorem g302 : prg 302 = some F302 := by kernel_rfl
theorem g323 : prg 323 = some F323 := by kernel_rfl
theorem g324 : prg 324 = some F324 := by kernel_rfl
theorem g325 : prg 325 = some F325 := by kernel_rfl
theorem g328 : prg 328 = some F328 := by kernel_rfl
theorem g336 : prg 336 = some F336 := by kernel_rfl

theorem prg_ok : prgT.all (fun p => p.2.body.ok) = true := by kernel_rfl

end Go.Proofs.Ytdlkgdlefbabcaa.AL
