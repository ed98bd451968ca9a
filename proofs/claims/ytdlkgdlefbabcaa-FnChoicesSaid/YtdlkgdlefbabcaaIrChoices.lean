/- The table of the functions in the small language, printed by program. -/
import Derived.Test.YtdlkgdlefbabcaaAlW
import Derived.Test.YtdlkgdlefbabcaaIrChoices0
import Derived.KernelRfl
namespace Go.Proofs.Ytdlkgdlefbabcaa.AL
open Go

def prgT : List (Nat × Fnc) := [(68, F68),
 (75, F75),
 (80, F80),
 (85, F85),
 (123, F123),
 (172, F172),
 (173, F173),
 (179, F179),
 (180, F180),
 (183, F183),
 (184, F184),
 (186, F186),
 (201, F201),
 (205, F205),
 (214, F214),
 (228, F228),
 (229, F229),
 (230, F230),
 (231, F231),
 (233, F233),
 (234, F234),
 (237, F237),
 (239, F239),
 (241, F241),
 (242, F242),
 (243, F243),
 (245, F245),
 (246, F246),
 (247, F247),
 (248, F248),
 (249, F249),
 (300, F300),
 (316, F316),
 (317, F317),
 (318, F318),
 (319, F319),
 (332, F332)]
def prg : Prg := fun f => prgT.lookup f

theorem g68 : prg 68 = some F68 := by kernel_rfl
theorem g75 : prg 75 = some F75 := by kernel_rfl
theorem g80 : prg 80 = some F80 := by kernel_rfl
theorem g85 : prg 85 = some F85 := by kernel_rfl
theorem g123 : prg 123 = some F123 := by kernel_rfl
theorem g172 : prg 172 = some F172 := by kernel_rfl
theorem g173 : prg 173 = some F173 := by kernel_rfl
theorem g179 : prg 179 = some F179 := by kernel_rfl
theorem g180 : prg 180 = some F180 := by kernel_rfl
theorem g183 : prg 183 = some F183 := by kernel_rfl
theorem g184 : prg 184 = some F184 := by kernel_rfl
theorem g186 : prg 186 = some F186 := by kernel_rfl
theorem g201 : prg 201 = some F201 := by kernel_rfl
theorem g205 : prg 205 = some F205 := by kernel_rfl
theorem g214 : prg 214 = some F214 := by kernel_rfl
theorem g228 : prg 228 = some F228 := by kernel_rfl
theorem g229 : prg 229 = some F229 := by kernel_rfl
theorem g230 : prg 230 = some F230 := by kernel_rfl
theorem g231 : prg 231 = some F231 := by kernel_rfl
theorem g233 : prg 233 = some F233 := by kernel_rfl
theorem g234 : prg 234 = some F234 := by kernel_rfl
theorem g237 : prg 237 = some F237 := by kernel_rfl
theorem g239 : prg 239 = some F239 := by kernel_rfl
theorem g241 : prg 241 = some F241 := by kernel_rfl
theorem g242 : prg 242 = some F242 := by kernel_rfl
theorem g243 : prg 243 = some F243 := by kernel_rfl
theorem g245 : prg 245 = some F245 := by kernel_rfl
theorem g246 : prg 246 = some F246 := by kernel_rfl
theorem g247 : prg 247 = some F247 := by kernel_rfl
theorem g248 : prg 248 = some F248 := by kernel_rfl
theorem g249 : prg 249 = some F249 := by kernel_rfl
theorem g300 : prg 300 = some F300 := by kernel_rfl
theorem g316 : prg 316 = some F316 := by kernel_rfl
theorem g317 : prg 317 = some F317 := by kernel_rfl
theorem g318 : prg 318 = some F318 := by kernel_rfl
theorem g319 : prg 319 = some F319 := by kernel_rfl
theorem g332 : prg 332 = some F332 := by kernel_rfl

theorem prg_ok : prgT.all (fun p => p.2.body.ok) = true := by kernel_rfl

end Go.Proofs.Ytdlkgdlefbabcaa.AL
