/- The table of the functions in the small language, printed by program. -/
import Derived.Test.YtdialnejieoelaaAlW
import Derived.Test.YtdialnejieoelaaIrSameBus0
import Derived.KernelRfl
namespace Go.Proofs.Ytdialnejieoelaa.AL
open Go

def prgT : List (Nat × Fnc) := [(70, F70),
 (71, F71),
 (124, F124),
 (125, F125),
 (126, F126),
 (127, F127),
 (128, F128),
 (129, F129),
 (130, F130),
 (131, F131),
 (132, F132),
 (133, F133),
 (134, F134),
 (135, F135),
 (136, F136),
 (137, F137),
 (138, F138),
 (139, F139),
 (140, F140),
 (143, F143),
 (144, F144),
 (145, F145),
 (146, F146),
 (147, F147),
 (148, F148),
 (149, F149),
 (150, F150),
 (151, F151),
 (152, F152),
 (153, F153),
 (154, F154),
 (155, F155),
 (156, F156),
 (157, F157),
 (158, F158),
 (159, F159),
 (160, F160),
 (161, F161),
 (162, F162),
 (163, F163),
 (164, F164),
 (165, F165),
 (166, F166),
 (167, F167),
 (168, F168),
 (169, F169),
 (170, F170),
 (171, F171),
 (210, F210),
 (211, F211),
 (225, F225),
 (240, F240),
 (263, F263),
 (264, F264),
 (265, F265),
 (350, F350),
 (366, F366),
 (367, F367),
 (382, F382),
 (383, F383),
 (384, F384),
 (385, F385),
 (386, F386),
 (387, F387),
 (401, F401),
 (402, F402),
 (403, F403)]
def prg : Prg := fun f => prgT.lookup f

theorem g70 : prg 70 = some F70 := by kernel_rfl
theorem g71 : prg 71 = some F71 := by kernel_rfl
theorem g124 : prg 124 = some F124 := by kernel_rfl
theorem g125 : prg 125 = some F125 := by kernel_rfl
theorem g126 : prg 126 = some F126 := by kernel_rfl
theorem g127 : prg 127 = some F127 := by kernel_rfl
theorem g128 : prg 128 = some F128 := by kernel_rfl
theorem g129 : prg 129 = some F129 := by kernel_rfl
theorem g130 : prg 130 = some F130 := by kernel_rfl
theorem g131 : prg 131 = some F131 := by kernel_rfl
theorem g132 : prg 132 = some F132 := by kernel_rfl
theorem g133 : prg 133 = some F133 := by kernel_rfl
theorem g134 : prg 134 = some F134 := by kernel_rfl
theorem g135 : prg 135 = some F135 := by kernel_rfl
theorem g136 : prg 136 = some F136 := by kernel_rfl
theorem g137 : prg 137 = some F137 := by kernel_rfl
theorem g138 : prg 138 = some F138 := by kernel_rfl
theorem g139 : prg 139 = some F139 := by kernel_rfl
theorem g140 : prg 140 = some F140 := by kernel_rfl
theorem g143 : prg 143 = some F143 := by kernel_rfl
theorem g144 : prg 144 = some F144 := by kernel_rfl
theorem g145 : prg 145 = some F145 := by kernel_rfl
theorem g146 : prg 146 = some F146 := by kernel_rfl
theorem g147 : prg 147 = some F147 := by kernel_rfl
theorem g148 : prg 148 = some F148 := by kernel_rfl
theorem g149 : prg 149 = some F149 := by kernel_rfl
theorem g150 : prg 150 = some F150 := by kernel_rfl
theorem g151 : prg 151 = some F151 := by kernel_rfl
theorem g152 : prg 152 = some F152 := by kernel_rfl
theorem g153 : prg 153 = some F153 := by kernel_rfl
theorem g154 : prg 154 = some F154 := by kernel_rfl
theorem g155 : prg 155 = some F155 := by kernel_rfl
theorem g156 : prg 156 = some F156 := by kernel_rfl
theorem g157 : prg 157 = some F157 := by kernel_rfl
theorem g158 : prg 158 = some F158 := by kernel_rfl
theorem g159 : prg 159 = some F159 := by kernel_rfl
theorem g160 : prg 160 = some F160 := by kernel_rfl
theorem g161 : prg 161 = some F161 := by kernel_rfl
theorem g162 : prg 162 = some F162 := by kernel_rfl
theorem g163 : prg 163 = some F163 := by kernel_rfl
theorem g164 : prg 164 = some F164 := by kernel_rfl
theorem g165 : prg 165 = some F165 := by kernel_rfl
theorem g166 : prg 166 = some F166 := by kernel_rfl
theorem g167 : prg 167 = some F167 := by kernel_rfl
theorem g168 : prg 168 = some F168 := by kernel_rfl
theorem g169 : prg 169 = some F169 := by kernel_rfl
theorem g170 : prg 170 = some F170 := by kernel_rfl
theorem g171 : prg 171 = some F171 := by kernel_rfl
theorem g210 : prg 210 = some F210 := by kernel_rfl
theorem g211 : prg 211 = some F211 := by kernel_rfl
theorem g225 : prg 225 = some F225 := by kernel_rfl
theorem g240 : prg 240 = some F240 := by kernel_rfl
theorem g263 : prg 263 = some F263 := by kernel_rfl
theorem g264 : prg 264 = some F264 := by kernel_rfl
theorem g265 : prg 265 = some F265 := by kernel_rfl
theorem g350 : prg 350 = some F350 := by kernel_rfl
theorem g366 : prg 366 = some F366 := by kernel_rfl
theorem g367 : prg 367 = some F367 := by kernel_rfl
theorem g382 : prg 382 = some F382 := by kernel_rfl
theorem g383 : prg 383 = some F383 := by kernel_rfl
theorem g384 : prg 384 = some F384 := by kernel_rfl
theorem g385 : prg 385 = some F385 := by kernel_rfl
theorem g386 : prg 386 = some F386 := by kernel_rfl
theorem g387 : prg 387 = some F387 := by kernel_rfl
theorem g401 : prg 401 = some F401 := by kernel_rfl
theorem g402 : prg 402 = some F402 := by kernel_rfl
theorem g403 : prg 403 = some F403 := by kernel_rfl

theorem prg_ok : prgT.all (fun p => p.2.body.ok) = true := by kernel_rfl

end Go.Proofs.Ytdialnejieoelaa.AL
