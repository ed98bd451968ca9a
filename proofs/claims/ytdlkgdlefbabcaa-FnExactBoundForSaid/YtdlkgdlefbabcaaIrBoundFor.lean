/- The table of the functions in the small language, printed by program. -/
import Derived.Test.YtdlkgdlefbabcaaAlW
import Derived.Test.YtdlkgdlefbabcaaIrBoundFor0
import Derived.KernelRfl
namespace Go.Proofs.Ytdlkgdlefbabcaa.AL
open Go

def prgT : List (Nat × Fnc) := [(34, F34),
 (35, F35),
 (37, F37),
 (50, F50),
 (74, F74),
 (77, F77),
 (91, F91),
 (101, F101),
 (102, F102),
 (103, F103),
 (128, F128),
 (133, F133),
 (134, F134),
 (145, F145),
 (149, F149),
 (159, F159),
 (164, F164),
 (165, F165),
 (184, F184),
 (186, F186),
 (214, F214),
 (215, F215),
 (227, F227),
 (230, F230),
 (245, F245),
 (258, F258),
 (269, F269),
 (296, F296),
 (306, F306),
 (307, F307),
 (309, F309),
 (310, F310)]
def prg : Prg := fun f => prgT.lookup f

theorem g34 : prg 34 = some F34 := by kernel_rfl
theorem g35 : prg 35 = some F35 := by kernel_rfl
theorem g37 : prg 37 = some F37 := by kernel_rfl
theorem g50 : prg 50 = some F50 := by kernel_rfl
theorem g74 : prg 74 = some F74 := by kernel_rfl
theorem g77 : prg 77 = some F77 := by kernel_rfl
theorem g91 : prg 91 = some F91 := by kernel_rfl
theorem g101 : prg 101 = some F101 := by kernel_rfl
theorem g102 : prg 102 = some F102 := by kernel_rfl
theorem g103 : prg 103 = some F103 := by kernel_rfl
theorem g128 : prg 128 = some F128 := by kernel_rfl
theorem g133 : prg 133 = some F133 := by kernel_rfl
theorem g134 : prg 134 = some F134 := by kernel_rfl
theorem g145 : prg 145 = some F145 := by kernel_rfl
theorem g149 : prg 149 = some F149 := by kernel_rfl
theorem g159 : prg 159 = some F159 := by kernel_rfl
theorem g164 : prg 164 = some F164 := by kernel_rfl
theorem g165 : prg 165 = some F165 := by kernel_rfl
theorem g184 : prg 184 = some F184 := by kernel_rfl
theorem g186 : prg 186 = some F186 := by kernel_rfl
theorem g214 : prg 214 = some F214 := by kernel_rfl
theorem g215 : prg 215 = some F215 := by kernel_rfl
theorem g227 : prg 227 = some F227 := by kernel_rfl
theorem g230 : prg 230 = some F230 := by kernel_rfl
theorem g245 : prg 245 = some F245 := by kernel_rfl
theorem g258 : prg 258 = some F258 := by kernel_rfl
theorem g269 : prg 269 = some F269 := by kernel_rfl
theorem g296 : prg 296 = some F296 := by kernel_rfl
theorem g306 : prg 306 = some F306 := by kernel_rfl
theorem g307 : prg 307 = some F307 := by kernel_rfl
theorem g309 : prg 309 = some F309 := by kernel_rfl
theorem g310 : prg 310 = some F310 := by kernel_rfl

theorem prg_ok : prgT.all (fun p => p.2.body.ok) = true := by kernel_rfl

end Go.Proofs.Ytdlkgdlefbabcaa.AL
