/- The table of the functions in the small language, printed by program. -/
import Derived.Test.YtdialnejieoelaaAlW
import Derived.Test.YtdialnejieoelaaIrMasters0
import Derived.KernelRfl
namespace Go.Proofs.Ytdialnejieoelaa.AL
open Go
def prgT : List (Nat × Fnc) := [(18, F18),
 (21, F21),
 (22, F22),
 (29, F29),
 (30, F30),
 (33, F33),
 (51, F51),
 (54, F54),
 (55, F55),
 (56, F56),
 (57, F57),
 (59, F59),
 (60, F60),
 (66, F66),
 (67, F67),
 (88, F88),
 (89, F89),
 (92, F92),
 (99, F99),
 (100, F100),
 (103, F103),
 (123, F123),
 (172, F172),
 (173, F173),
 (179, F179),
 (180, F180),
 (183, F183),
 (201, F201),
 (205, F205),
 (207, F207),
 (210, F210),
 (211, F211),
 (220, F220),
 (221, F221),
 (228, F228),
 (229, F229),
 (230, F230),
 (231, F231),
 (233, F233),
 (234, F234),
 (237, F237),
 (239, F239),
 (240, F240),
 (241, F241),
 (253, F253),
 (257, F257),
 (260, F260),
 (266, F266),
 (271, F271),
 (326, F326),
 (342, F342),
 (353, F353),
 (354, F354),
 (355, F355),
 (356, F356),
 (357, F357),
 (372, F372),
 (373, F373),
 (374, F374),
 (394, F394)]
def prg : Prg := fun f => prgT.lookup f
theorem g18 : prg 18 = some F18 := by kernel_rfl
theorem g21 : prg 21 = some F21 := by kernel_rfl
theorem g22 : prg 22 = some F22 := by kernel_rfl
theorem g29 : prg 29 = some F29 := by kernel_rfl
theorem g30 : prg 30 = some F30 := by kernel_rfl
theorem g33 : prg 33 = some F33 := by kernel_rfl
theorem g51 : prg 51 = some F51 := by kernel_rfl
theorem g54 : prg 54 = some F54 := by kernel_rfl
theorem g55 : prg 55 = some F55 := by kernel_rfl
theorem g56 : prg 56 = some F56 := by kernel_rfl
theorem g57 : prg 57 = some F57 := by kernel_rfl
theorem g59 : prg 59 = some F59 := by kernel_rfl
theorem g60 : prg 60 = some F60 := by kernel_rfl
theorem g66 : prg 66 = some F66 := by kernel_rfl
theorem g67 : prg 67 = some F67 := by kernel_rfl
theorem g88 : prg 88 = some F88 := by kernel_rfl
theorem g89 : prg 89 = some F89 := by kernel_rfl
theorem g92 : prg 92 = some F92 := by kernel_rfl
theorem g99 : prg 99 = some F99 := by kernel_rfl
theorem g100 : prg 100 = some F100 := by kernel_rfl
theorem g103 : prg 103 = some F103 := by kernel_rfl
theorem g123 : prg 123 = some F123 := by kernel_rfl
theorem g172 : prg 172 = some F172 := by kernel_rfl
theorem g173 : prg 173 = some F173 := by kernel_rfl
theorem g179 : prg 179 = some F179 := by kernel_rfl
theorem g180 : prg 180 = some F180 := by kernel_rfl
theorem g183 : prg 183 = some F183 := by kernel_rfl
theorem g201 : prg 201 = some F201 := by kernel_rfl
theorem g205 : prg 205 = some F205 := by kernel_rfl
theorem g207 : prg 207 = some F207 := by kernel_rfl
theorem g210 : prg 210 = some F210 := by kernel_rfl
theorem g211 : prg 211 = some F211 := by kernel_rfl
theorem g220 : prg 220 = some F220 := by kernel_rfl
theorem g221 : prg 221 = some F221 := by kernel_rfl
theorem g228 : prg 228 = some F228 := by kernel_rfl
theorem g229 : prg 229 = some F229 := by kernel_rfl
theorem g230 : prg 230 = some F230 := by kernel_rfl
theorem g231 : prg 231 = some F231 := by kernel_rfl
theorem g233 : prg 233 = some F233 := by kernel_rfl
theorem g234 : prg 234 = some F234 := by kernel_rfl
theorem g237 : prg 237 = some F237 := by kernel_rfl
theorem g239 : prg 239 = some F239 := by kernel_rfl
theorem g240 : prg 240 = some F240 := by kernel_rfl
theorem g241 : prg 241 = some F241 := by kernel_rfl
theorem g253 : prg 253 = some F253 := by kernel_rfl
theorem g257 : prg 257 = some F257 := by kernel_rfl
theorem g260 : prg 260 = some F260 := by kernel_rfl
theorem g266 : prg 266 = some F266 := by kernel_rfl
theorem g271 : prg 271 = some F271 := by kernel_rfl
theorem g326 : prg 326 = some F326 := by kernel_rfl
theorem g342 : prg 342 = some F342 := by kernel_rfl
theorem g353 : prg 353 = some F353 := by kernel_rfl
theorem g354 : prg 354 = some F354 := by kernel_rfl
theorem g355 : prg 355 = some F355 := by kernel_rfl
theorem g356 : prg 356 = some F356 := by kernel_rfl
theorem g357 : prg 357 = some F357 := by kernel_rfl
theorem g372 : prg 372 = some F372 := by kernel_rfl
theorem g373 : prg 373 = some F373 := by kernel_rfl
theorem g374 : prg 374 = some F374 := by kernel_rfl
theorem g394 : prg 394 = some F394 := by kernel_rfl
theorem prg_ok : prgT.all (fun p => p.2.body.ok) = true := by kernel_rfl
end Go.Proofs.Ytdialnejieoelaa.AL
