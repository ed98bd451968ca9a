/- The table of the functions in the small language, printed by program. -/
import Derived.Test.YtojdedadgddhgaaAlW
import Derived.Test.YtojdedadgddhgaaIrSameMst0
import Derived.KernelRfl
namespace Go.Proofs.Ytojdedadgddhgaa.AL
open Go

def prgT : List (Nat × Fnc) := [(70, F70),
 (71, F71),
 (116, F116),
 (132, F132),
 (136, F136),
 (138, F138),
 (139, F139),
 (148, F148),
 (151, F151),
 (153, F153),
 (154, F154),
 (163, F163),
 (167, F167),
 (169, F169),
 (170, F170),
 (210, F210),
 (211, F211),
 (240, F240),
 (263, F263),
 (264, F264)]
def prg : Prg := fun f => prgT.lookup f

theorem g70 : prg 70 = some F70 := by kernel_rfl
theorem g71 : prg 71 = some F71 := by kernel_rfl
theorem g116 : prg 116 = some F116 := by kernel_rfl
theorem g132 : prg 132 = some F132 := by kernel_rfl
theorem g136 : prg 136 = some F136 := by kernel_rfl
theorem g138 : prg 138 = some F138 := by kernel_rfl
theorem g139 : prg 139 = some F139 := by kernel_rfl
theorem g148 : prg 148 = some F148 := by kernel_rfl
theorem g151 : prg 151 = some F151 := by kernel_rfl
theorem g153 : prg 153 = some F153 := by kernel_rfl
theorem g154 : prg 154 = some F154 := by kernel_rfl
theorem g163 : prg 163 = some F163 := by kernel_rfl
theorem g167 : prg 167 = some F167 := by kernel_rfl
theorem g169 : prg 169 = some F169 := by kernel_rfl
theorem g170 : prg 170 = some F170 := by kernel_rfl
theorem g210 : prg 210 = some F210 := by kernel_rfl
theorem g211 : prg 211 = some F211 := by kernel_rfl
theorem g240 : prg 240 = some F240 := by kernel_rfl
theorem g263 : prg 263 = some F263 := by kernel_rfl
theorem g264 : prg 264 = some F264 := by kernel_rfl

theorem prg_ok : prgT.all (fun p => p.2.body.ok) = true := by kernel_rfl

end Go.Proofs.Ytojdedadgddhgaa.AL
