/- The table of the functions in the small language, printed by program. -/
import Derived.Test.YtdlkgdlefbabcaaAlW
import Derived.Test.YtdlkgdlefbabcaaIrBeatsOfReq0
import Derived.KernelRfl
namespace Go.Proofs.Ytdlkgdlefbabcaa.AL
open Go

def prgT : List (Nat × Fnc) := [(21, F21),
 (22, F22),
 (29, F29),
 (30, F30),
 (33, F33),
 (51, F51),
 (60, F60),
 (66, F66),
 (67, F67),
 (92, F92),
 (103, F103),
 (130, F130),
 (131, F131),
 (132, F132),
 (138, F138),
 (141, F141),
 (142, F142),
 (148, F148),
 (153, F153),
 (163, F163),
 (169, F169),
 (172, F172),
 (173, F173),
 (179, F179),
 (180, F180),
 (183, F183),
 (201, F201),
 (205, F205),
 (207, F207),
 (230, F230),
 (257, F257),
 (266, F266),
 (305, F305),
 (324, F324),
 (328, F328),
 (329, F329),
 (336, F336),
 (337, F337)]
def prg : Prg := fun f => prgT.lookup f

theorem g21 : prg 21 = some F21 := by kernel_rfl
theorem g22 : prg 22 = some F22 := by kernel_rfl
theorem g29 : prg 29 = some F29 := by kernel_rfl
theorem g30 : prg 30 = some F30 := by kernel_rfl
theorem g33 : prg 33 = some F33 := by kernel_rfl
theorem g51 : prg 51 = some F51 := by kernel_rfl
theorem g60 : prg 60 = some F60 := by kernel_rfl
theorem g66 : prg 66 = some F66 := by kernel_rfl
theorem g67 : prg 67 = some F67 := by kernel_rfl
theorem g92 : prg 92 = some F92 := by kernel_rfl
theorem g103 : prg 103 = some F103 := by kernel_rfl
theorem g130 : prg 130 = some F130 := by kernel_rfl
theorem g131 : prg 131 = some F131 := by kernel_rfl
theorem g132 : prg 132 = some F132 := by kernel_rfl
theorem g138 : prg 138 = some F138 := by kernel_rfl
theorem g141 : prg 141 = some F141 := by kernel_rfl
theorem g142 : prg 142 = some F142 := by kernel_rfl
theorem g148 : prg 148 = some F148 := by kernel_rfl
theorem g153 : prg 153 = some F153 := by kernel_rfl
theorem g163 : prg 163 = some F163 := by kernel_rfl
theorem g169 : prg 169 = some F169 := by kernel_rfl
theorem g172 : prg 172 = some F172 := by kernel_rfl
theorem g173 : prg 173 = some F173 := by kernel_rfl
theorem g179 : prg 179 = some F179 := by kernel_rfl
theorem g180 : prg 180 = some F180 := by kernel_rfl
theorem g183 : prg 183 = some F183 := by kernel_rfl
theorem g201 : prg 201 = some F201 := by kernel_rfl
theorem g205 : prg 205 = some F205 := by kernel_rfl
theorem g207 : prg 207 = some F207 := by kernel_rfl
theorem g230 : prg 230 = some F230 := by kernel_rfl
theorem g257 : prg 257 = some F257 := by kernel_rfl
theorem g266 : prg 266 = some F266 := by kernel_rfl
theorem g305 : prg 305 = some F305 := by kernel_rfl
theorem g324 : prg 324 = some F324 := by kernel_rfl
theorem g328 : prg 328 = some F328 := by kernel_rfl
theorem g329 : prg 329 = some F329 := by kernel_rfl
theorem g336 : prg 336 = some F336 := by kernel_rfl
theorem g337 : prg 337 = some F337 := by kernel_rfl

theorem prg_ok : prgT.all (fun p => p.2.body.ok) = true := by kernel_rfl

end Go.Proofs.Ytdlkgdlefbabcaa.AL
