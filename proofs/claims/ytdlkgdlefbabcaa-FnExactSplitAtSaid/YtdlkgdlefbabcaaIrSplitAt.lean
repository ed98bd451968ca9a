/- The table of the functions in the small language, printed by program. -/
import Derived.Test.YtdlkgdlefbabcaaAlW
import Derived.Test.YtdlkgdlefbabcaaIrSplitAt0
import Derived.KernelRfl
namespace Go.Proofs.Ytdlkgdlefbabcaa.AL
open Go

def prgT : List (Nat × Fnc) := [(75, F75),
 (85, F85),
 (128, F128),
 (132, F132),
 (133, F133),
 (134, F134),
 (138, F138),
 (145, F145),
 (148, F148),
 (149, F149),
 (153, F153),
 (159, F159),
 (163, F163),
 (164, F164),
 (165, F165),
 (169, F169),
 (301, F301),
 (319, F319),
 (320, F320),
 (321, F321),
 (322, F322),
 (332, F332),
 (333, F333),
 (334, F334),
 (335, F335),
 (338, F338),
 (339, F339),
 (340, F340)]
def prg : Prg := fun f => prgT.lookup f

theorem g75 : prg 75 = some F75 := by kernel_rfl
theorem g85 : prg 85 = some F85 := by kernel_rfl
theorem g128 : prg 128 = some F128 := by kernel_rfl
theorem g132 : prg 132 = some F132 := by kernel_rfl
theorem g133 : prg 133 = some F133 := by kernel_rfl
theorem g134 : prg 134 = some F134 := by kernel_rfl
theorem g138 : prg 138 = some F138 := by kernel_rfl
theorem g145 : prg 145 = some F145 := by kernel_rfl
theorem g148 : prg 148 = some F148 := by kernel_rfl
theorem g149 : prg 149 = some F149 := by kernel_rfl
theorem g153 : prg 153 = some F153 := by kernel_rfl
theorem g159 : prg 159 = some F159 := by kernel_rfl
theorem g163 : prg 163 = some F163 := by kernel_rfl
theorem g164 : prg 164 = some F164 := by kernel_rfl
theorem g165 : prg 165 = some F165 := by kernel_rfl
theorem g169 : prg 169 = some F169 := by kernel_rfl
theorem g301 : prg 301 = some F301 := by kernel_rfl
theorem g319 : prg 319 = some F319 := by kernel_rfl
theorem g320 : prg 320 = some F320 := by kernel_rfl
theorem g321 : prg 321 = some F321 := by kernel_rfl
theorem g322 : prg 322 = some F322 := by kernel_rfl
theorem g332 : prg 332 = some F332 := by kernel_rfl
theorem g333 : prg 333 = some F333 := by kernel_rfl
theorem g334 : prg 334 = some F334 := by kernel_rfl
theorem g335 : prg 335 = some F335 := by kernel_rfl
theorem g338 : prg 338 = some F338 := by kernel_rfl
theorem g339 : prg 339 = some F339 := by kernel_rfl
theorem g340 : prg 340 = some F340 := by kernel_rfl

theorem prg_ok : prgT.all (fun p => p.2.body.ok) = true := by kernel_rfl

end Go.Proofs.Ytdlkgdlefbabcaa.AL
