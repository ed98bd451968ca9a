/- The table of the functions in the small language, printed by program. -/
import Derived.Test.YtdialnejieoelaaAlW
import Derived.Test.YtdialnejieoelaaIrMstEnd0
import Derived.KernelRfl
namespace Go.Proofs.Ytdialnejieoelaa.AL
open Go
def prgT : List (Nat × Fnc) := [(18, F18),
 (21, F21),
 (22, F22),
 (29, F29),
 (30, F30),
 (33, F33),
 (51, F51),
 (56, F56),
 (60, F60),
 (66, F66),
 (67, F67),
 (88, F88),
 (89, F89),
 (92, F92),
 (99, F99),
 (100, F100),
 (103, F103),
 (132, F132),
 (136, F136),
 (138, F138),
 (139, F139),
 (148, F148),
 (151, F151),
 (153, F153),
 (154, F154),
 (163, F163),
 (167, F167),
 (169, F169),
 (170, F170),
 (172, F172),
 (173, F173),
 (179, F179),
 (180, F180),
 (183, F183),
 (201, F201),
 (205, F205),
 (207, F207),
 (220, F220),
 (221, F221),
 (230, F230),
 (253, F253),
 (257, F257),
 (260, F260),
 (266, F266),
 (271, F271),
 (337, F337),
 (346, F346),
 (356, F356),
 (358, F358),
 (359, F359),
 (373, F373),
 (374, F374),
 (375, F375),
 (376, F376),
 (380, F380)]
def prg : Prg := fun f => prgT.lookup f
theorem g18 : prg 18 = some F18 := by kernel_rfl
theorem g21 : prg 21 = some F21 := by kernel_rfl
theorem g22 : prg 22 = some F22 := by kernel_rfl
theorem g29 : prg 29 = some F29 := by kernel_rfl
theorem g30 : prg 30 = some F30 := by kernel_rfl
theorem g33 : prg 33 = some F33 := by kernel_rfl
theorem g51 : prg 51 = some F51 := by kernel_rfl
theorem g56 : prg 56 = some F56 := by kernel_rfl
theorem g60 : prg 60 = some F60 := by kernel_rfl
theorem g66 : prg 66 = some F66 := by kernel_rfl
theorem g67 : prg 67 = some F67 := by kernel_rfl
theorem g88 : prg 88 = some F88 := by kernel_rfl
theorem g89 : prg 89 = some F89 := by kernel_rfl
theorem g92 : prg 92 = some F92 := by kernel_rfl
theorem g99 : prg 99 = some F99 := by kernel_rfl
theorem g100 : prg 100 = some F100 := by kernel_rfl
theorem g103 : prg 103 = some F103 := by kernel_rfl
theorem g132 : prg 132 = some F132 := by kernel_rfl
theorem g136 : prg 136 = some F136 := by kernel_rfl
theorem g138 : prg 138 = some F138 := by kernel_rfl
theorem g139 : prg 139 = some F139 := by kernel_rfl
theorem g148 : prg 148 = some F148 := by kernel_rfl
theorem g151 : prg 151 = some F151 := by kernel_rfl
theorem g153 : prg 153 = some F153 := by kernel_rfl
theorem g154 : prg 154 = some F154 := by kernel_rfl
theorem g163 : prg 163 = some F163 := by kernel_rfl
theorem g167 : prg 167 = some F167 := by kernel_rfl
theorem g169 : prg 169 = some F169 := by kernel_rfl
theorem g170 : prg 170 = some F170 := by kernel_rfl
theorem g172 : prg 172 = some F172 := by kernel_rfl
theorem g173 : prg 173 = some F173 := by kernel_rfl
theorem g179 : prg 179 = some F179 := by kernel_rfl
theorem g180 : prg 180 = some F180 := by kernel_rfl
theorem g183 : prg 183 = some F183 := by kernel_rfl
theorem g201 : prg 201 = some F201 := by kernel_rfl
theorem g205 : prg 205 = some F205 := by kernel_rfl
theorem g207 : prg 207 = some F207 := by kernel_rfl
theorem g220 : prg 220 = some F220 := by kernel_rfl
theorem g221 : prg 221 = some F221 := by kernel_rfl
theorem g230 : prg 230 = some F230 := by kernel_rfl
theorem g253 : prg 253 = some F253 := by kernel_rfl
theorem g257 : prg 257 = some F257 := by kernel_rfl
theorem g260 : prg 260 = some F260 := by kernel_rfl
theorem g266 : prg 266 = some F266 := by kernel_rfl
theorem g271 : prg 271 = some F271 := by kernel_rfl
theorem g337 : prg 337 = some F337 := by kernel_rfl
theorem g346 : prg 346 = some F346 := by kernel_rfl
theorem g356 : prg 356 = some F356 := by kernel_rfl
theorem g358 : prg 358 = some F358 := by kernel_rfl
theorem g359 : prg 359 = some F359 := by kernel_rfl
theorem g373 : prg 373 = some F373 := by kernel_rfl
theorem g374 : prg 374 = some F374 := by kernel_rfl
theorem g375 : prg 375 = some F375 := by kernel_rfl
theorem g376 : prg 376 = some F376 := by kernel_rfl
theorem g380 : prg 380 = some F380 := by kernel_rfl
theorem prg_ok : prgT.all (fun p => p.2.body.ok) = true := by kernel_rfl
end Go.Proofs.Ytdialnejieoelaa.AL
