/- The table of the functions in the small language, printed by program. -/
import Derived.Test.YtdlkgdlefbabcaaAlW
import Derived.Test.YtdlkgdlefbabcaaIrWrrPick0
import Derived.KernelRfl
namespace Go.Proofs.Ytdlkgdlefbabcaa.AL
open Go

def prgT : List (Nat × Fnc) := [(34, F34),
 (35, F35),
 (37, F37),
 (50, F50),
 (74, F74),
 (77, F77),
 (82, F82),
 (83, F83),
 (91, F91),
 (101, F101),
 (103, F103),
 (128, F128),
 (133, F133),
 (134, F134),
 (140, F140),
 (145, F145),
 (149, F149),
 (159, F159),
 (164, F164),
 (165, F165),
 (171, F171),
 (184, F184),
 (186, F186),
 (214, F214),
 (215, F215),
 (217, F217),
 (230, F230),
 (245, F245),
 (258, F258),
 (269, F269),
 (299, F299),
 (312, F312),
 (314, F314),
 (315, F315)]
def prg : Prg := fun f => prgT.lookup f

theorem g34 : prg 34 = some F34 := by kernel_rfl
theorem g35 : prg 35 = some F35 := by kernel_rfl
theorem g37 : prg 37 = some F37 := by kernel_rfl
theorem g50 : prg 50 = some F50 := by kernel_rfl
theorem g74 : prg 74 = some F74 := by kernel_rfl
theorem g77 : prg 77 = some F77 := by kernel_rfl
theorem g82 : prg 82 = some F82 := by kernel_rfl
theorem g83 : prg 83 = some F83 := by kernel_rfl
theorem g91 : prg 91 = some F91 := by kernel_rfl
theorem g101 : prg 101 = some F101 := by kernel_rfl
theorem g103 : prg 103 = some F103 := by kernel_rfl
theorem g128 : prg 128 = some F128 := by kernel_rfl
theorem g133 : prg 133 = some F133 := by kernel_rfl
theorem g134 : prg 134 = some F134 := by kernel_rfl
theorem g140 : prg 140 = some F140 := by kernel_rfl
theorem g145 : prg 145 = some F145 := by kernel_rfl
theorem g149 : prg 149 = some F149 := by kernel_rfl
theorem g159 : prg 159 = some F159 := by kernel_rfl
theorem g164 : prg 164 = some F164 := by kernel_rfl
theorem g165 : prg 165 = some F165 := by kernel_rfl
theorem g171 : prg 171 = some F171 := by kernel_rfl
theorem g184 : prg 184 = some F184 := by kernel_rfl
theorem g186 : prg 186 = some F186 := by kernel_rfl
theorem g214 : prg 214 = some F214 := by kernel_rfl
theorem g215 : prg 215 = some F215 := by kernel_rfl
theorem g217 : prg 217 = some F217 := by kernel_rfl
theorem g230 : prg 230 = some F230 := by kernel_rfl
theorem g245 : prg 245 = some F245 := by kernel_rfl
theorem g258 : prg 258 = some F258 := by kernel_rfl
theorem g269 : prg 269 = some F269 := by kernel_rfl
theorem g299 : prg 299 = some F299 := by kernel_rfl
theorem g312 : prg 312 = some F312 := by kernel_rfl
theorem g314 : prg 314 = some F314 := by kernel_rfl
theorem g315 : prg 315 = some F315 := by kernel_rfl

theorem prg_ok : prgT.all (fun p => p.2.body.ok) = true := by kernel_rfl

end Go.Proofs.Ytdlkgdlefbabcaa.AL
