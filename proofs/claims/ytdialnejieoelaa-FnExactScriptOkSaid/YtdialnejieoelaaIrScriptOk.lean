/- The table of the functions in the small language, printed by program. -/
import Derived.Test.YtdialnejieoelaaAlW
import Derived.Test.YtdialnejieoelaaIrScriptOk0
import Derived.KernelRfl
namespace Go.Proofs.Ytdialnejieoelaa.AL
open Go

def prgT : List (Nat × Fnc) := [(21, F21),
 (22, F22),
 (29, F29),
 (30, F30),
 (33, F33),
 (34, F34),
 (35, F35),
 (37, F37),
 (50, F50),
 (51, F51),
 (60, F60),
 (66, F66),
 (67, F67),
 (74, F74),
 (91, F91),
 (92, F92),
 (101, F101),
 (103, F103),
 (128, F128),
 (132, F132),
 (133, F133),
 (134, F134),
 (138, F138),
 (145, F145),
 (148, F148),
 (149, F149),
 (153, F153),
 (159, F159),
 (163, F163),
 (164, F164),
 (165, F165),
 (169, F169),
 (172, F172),
 (173, F173),
 (179, F179),
 (180, F180),
 (183, F183),
 (184, F184),
 (186, F186),
 (201, F201),
 (205, F205),
 (207, F207),
 (212, F212),
 (214, F214),
 (230, F230),
 (245, F245),
 (257, F257),
 (258, F258),
 (266, F266),
 (269, F269),
 (320, F320),
 (321, F321),
 (322, F322),
 (333, F333),
 (334, F334),
 (335, F335),
 (338, F338),
 (339, F339),
 (340, F340),
 (349, F349),
 (365, F365)]
def prg : Prg := fun f => prgT.lookup f

theorem g21 : prg 21 = some F21 := by kernel_rfl
theorem g22 : prg 22 = some F22 := by kernel_rfl
theorem g29 : prg 29 = some F29 := by kernel_rfl
theorem g30 : prg 30 = some F30 := by kernel_rfl
theorem g33 : prg 33 = some F33 := by kernel_rfl
theorem g34 : prg 34 = some F34 := by kernel_rfl
theorem g35 : prg 35 = some F35 := by kernel_rfl
theorem g37 : prg 37 = some F37 := by kernel_rfl
theorem g50 : prg 50 = some F50 := by kernel_rfl
theorem g51 : prg 51 = some F51 := by kernel_rfl
theorem g60 : prg 60 = some F60 := by kernel_rfl
theorem g66 : prg 66 = some F66 := by kernel_rfl
theorem g67 : prg 67 = some F67 := by kernel_rfl
theorem g74 : prg 74 = some F74 := by kernel_rfl
theorem g91 : prg 91 = some F91 := by kernel_rfl
theorem g92 : prg 92 = some F92 := by kernel_rfl
theorem g101 : prg 101 = some F101 := by kernel_rfl
theorem g103 : prg 103 = some F103 := by kernel_rfl
theorem g128 : prg 128 = some F128 := by kernel_rfl
theorem g132 : prg 132 = some F132 := by kernel_rfl
theorem g133 : prg 133 = some F133 := by kernel_rfl
theorem g134 : prg 134 = some F134 := by kernel_rfl
theorem g138 : prg 138 = some F138 := by kernel_rfl
theorem g145 : prg 145 = some F145 := by kernel_rfl
theorem g148 : prg 148 = some F148 := by kernel_rfl
theorem g149 : prg 149 = some F149 := by kernel_rfl
theorem g153 : prg 153 = some F153 := by kernel_rfl
theorem g159 : prg 159 = some F159 := by kernel_rfl
theorem g163 : prg 163 = some F163 := by kernel_rfl
theorem g164 : prg 164 = some F164 := by kernel_rfl
theorem g165 : prg 165 = some F165 := by kernel_rfl
theorem g169 : prg 169 = some F169 := by kernel_rfl
theorem g172 : prg 172 = some F172 := by kernel_rfl
theorem g173 : prg 173 = some F173 := by kernel_rfl
theorem g179 : prg 179 = some F179 := by kernel_rfl
theorem g180 : prg 180 = some F180 := by kernel_rfl
theorem g183 : prg 183 = some F183 := by kernel_rfl
theorem g184 : prg 184 = some F184 := by kernel_rfl
theorem g186 : prg 186 = some F186 := by kernel_rfl
theorem g201 : prg 201 = some F201 := by kernel_rfl
theorem g205 : prg 205 = some F205 := by kernel_rfl
theorem g207 : prg 207 = some F207 := by kernel_rfl
theorem g212 : prg 212 = some F212 := by kernel_rfl
theorem g214 : prg 214 = some F214 := by kernel_rfl
theorem g230 : prg 230 = some F230 := by kernel_rfl
theorem g245 : prg 245 = some F245 := by kernel_rfl
theorem g257 : prg 257 = some F257 := by kernel_rfl
theorem g258 : prg 258 = some F258 := by kernel_rfl
theorem g266 : prg 266 = some F266 := by kernel_rfl
theorem g269 : prg 269 = some F269 := by kernel_rfl
theorem g320 : prg 320 = some F320 := by kernel_rfl
theorem g321 : prg 321 = some F321 := by kernel_rfl
theorem g322 : prg 322 = some F322 := by kernel_rfl
theorem g333 : prg 333 = some F333 := by kernel_rfl
theorem g334 : prg 334 = some F334 := by kernel_rfl
theorem g335 : prg 335 = some F335 := by kernel_rfl
theorem g338 : prg 338 = some F338 := by kernel_rfl
theorem g339 : prg 339 = some F339 := by kernel_rfl
theorem g340 : prg 340 = some F340 := by kernel_rfl
theorem g349 : prg 349 = some F349 := by kernel_rfl
theorem g365 : prg 365 = some F365 := by kernel_rfl

theorem prg_ok : prgT.all (fun p => p.2.body.ok) = true := by kernel_rfl

end Go.Proofs.Ytdialnejieoelaa.AL
