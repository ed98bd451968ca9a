/- The table of the functions in the small language, printed by program. -/
import Derived.Test.YtdlkgdlefbabcaaAlW
import Derived.Test.YtdlkgdlefbabcaaIrShares0
import Derived.KernelRfl
namespace Go.Proofs.Ytdlkgdlefbabcaa.AL
open Go

def prgT : List (Nat × Fnc) := [(34, F34),
 (35, F35),
 (37, F37),
 (44, F44),
 (50, F50),
 (72, F72),
 (74, F74),
 (77, F77),
 (91, F91),
 (101, F101),
 (102, F102),
 (103, F103),
 (123, F123),
 (184, F184),
 (186, F186),
 (197, F197),
 (200, F200),
 (213, F213),
 (214, F214),
 (215, F215),
 (227, F227),
 (228, F228),
 (229, F229),
 (230, F230),
 (231, F231),
 (233, F233),
 (234, F234),
 (242, F242),
 (243, F243),
 (245, F245),
 (258, F258),
 (269, F269),
 (298, F298),
 (306, F306),
 (307, F307),
 (309, F309),
 (310, F310),
 (313, F313)]
def prg : Prg := fun f => prgT.lookup f

theorem g34 : prg 34 = some F34 := by kernel_rfl
theorem g35 : prg 35 = some F35 := by kernel_rfl
theorem g37 : prg 37 = some F37 := by kernel_rfl
theorem g44 : prg 44 = some F44 := by kernel_rfl
theorem g50 : prg 50 = some F50 := by kernel_rfl
theorem g72 : prg 72 = some F72 := by kernel_rfl
theorem g74 : prg 74 = some F74 := by kernel_rfl
theorem g77 : prg 77 = some F77 := by kernel_rfl
theorem g91 : prg 91 = some F91 := by kernel_rfl
theorem g101 : prg 101 = some F101 := by kernel_rfl
theorem g102 : prg 102 = some F102 := by kernel_rfl
theorem g103 : prg 103 = some F103 := by kernel_rfl
theorem g123 : prg 123 = some F123 := by kernel_rfl
theorem g184 : prg 184 = some F184 := by kernel_rfl
theorem g186 : prg 186 = some F186 := by kernel_rfl
theorem g197 : prg 197 = some F197 := by kernel_rfl
theorem g200 : prg 200 = some F200 := by kernel_rfl
theorem g213 : prg 213 = some F213 := by kernel_rfl
theorem g214 : prg 214 = some F214 := by kernel_rfl
theorem g215 : prg 215 = some F215 := by kernel_rfl
theorem g227 : prg 227 = some F227 := by kernel_rfl
theorem g228 : prg 228 = some F228 := by kernel_rfl
theorem g229 : prg 229 = some F229 := by kernel_rfl
theorem g230 : prg 230 = some F230 := by kernel_rfl
theorem g231 : prg 231 = some F231 := by kernel_rfl
theorem g233 : prg 233 = some F233 := by kernel_rfl
theorem g234 : prg 234 = some F234 := by kernel_rfl
theorem g242 : prg 242 = some F242 := by kernel_rfl
theorem g243 : prg 243 = some F243 := by kernel_rfl
theorem g245 : prg 245 = some F245 := by kernel_rfl
theorem g258 : prg 258 = some F258 := by kernel_rfl
theorem g269 : prg 269 = some F269 := by kernel_rfl
theorem g298 : prg 298 = some F298 := by kernel_rfl
theorem g306 : prg 306 = some F306 := by kernel_rfl
theorem g307 : prg 307 = some F307 := by kernel_rfl
theorem g309 : prg 309 = some F309 := by kernel_rfl
theorem g310 : prg 310 = some F310 := by kernel_rfl
theorem g313 : prg 313 = some F313 := by kernel_rfl

theorem prg_ok : prgT.all (fun p => p.2.body.ok) = true := by kernel_rfl

end Go.Proofs.Ytdlkgdlefbabcaa.AL
