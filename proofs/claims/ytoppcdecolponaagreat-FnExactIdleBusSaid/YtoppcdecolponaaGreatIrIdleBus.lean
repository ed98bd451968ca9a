/- The table of the functions in the small language, printed by program. -/
import Derived.Test.YtoppcdecolponaaGreatAlW
import Derived.Test.YtoppcdecolponaaGreatIrIdleBus0
import Derived.KernelRfl
namespace Go.Proofs.YtoppcdecolponaaGreat.AL
open Go
def prgT : List (Nat × Fnc) := [(2, F2),
 (3, F3),
 (9, F9),
 (10, F10),
 (11, F11),
 (12, F12),
 (13, F13),
 (14, F14),
 (18, F18),
 (21, F21),
 (22, F22),
 (26, F26),
 (29, F29),
 (30, F30),
 (31, F31),
 (33, F33),
 (34, F34),
 (35, F35),
 (37, F37),
 (40, F40),
 (41, F41),
 (49, F49),
 (50, F50),
 (51, F51),
 (53, F53),
 (60, F60),
 (66, F66),
 (67, F67),
 (74, F74),
 (77, F77),
 (82, F82),
 (86, F86),
 (87, F87),
 (88, F88),
 (89, F89),
 (91, F91),
 (92, F92),
 (93, F93),
 (101, F101),
 (103, F103),
 (112, F112),
 (124, F124),
 (125, F125),
 (126, F126),
 (127, F127),
 (128, F128),
 (129, F129),
 (130, F130),
 (131, F131),
 (132, F132),
 (133, F133),
 (134, F134),
 (135, F135),
 (136, F136),
 (137, F137),
 (138, F138),
 (139, F139),
 (140, F140),
 (143, F143),
 (144, F144),
 (145, F145),
 (146, F146),
 (147, F147),
 (148, F148),
 (149, F149),
 (150, F150),
 (151, F151),
 (152, F152),
 (153, F153),
 (154, F154),
 (155, F155),
 (156, F156),
 (157, F157),
 (158, F158),
 (159, F159),
 (160, F160),
 (161, F161),
 (162, F162),
 (163, F163),
 (164, F164),
 (165, F165),
 (166, F166),
 (167, F167),
 (168, F168),
 (169, F169),
 (170, F170),
 (171, F171),
 (172, F172),
 (173, F173),
 (176, F176),
 (179, F179),
 (180, F180),
 (182, F182),
 (183, F183),
 (184, F184),
 (186, F186),
 (189, F189),
 (199, F199),
 (201, F201),
 (203, F203),
 (204, F204),
 (205, F205),
 (207, F207),
 (208, F208),
 (214, F214),
 (215, F215),
 (217, F217),
 (220, F220),
 (221, F221),
 (222, F222),
 (223, F223),
 (224, F224),
 (226, F226),
 (230, F230),
 (238, F238),
 (245, F245),
 (250, F250),
 (257, F257),
 (258, F258),
 (259, F259),
 (260, F260),
 (261, F261),
 (266, F266),
 (267, F267),
 (269, F269),
 (270, F270),
 (271, F271)]
def prg : Prg := fun f => prgT.lookup f
theorem g2 : prg 2 = some F2 := by kernel_rfl
theorem g3 : prg 3 = some F3 := by kernel_rfl
theorem g9 : prg 9 = some F9 := by kernel_rfl
theorem g10 : prg 10 = some F10 := by kernel_rfl
theorem g11 : prg 11 = some F11 := by kernel_rfl
theorem g12 : prg 12 = some F12 := by kernel_rfl
theorem g13 : prg 13 = some F13 := by kernel_rfl
theorem g14 : prg 14 = some F14 := by kernel_rfl
theorem g18 : prg 18 = some F18 := by kernel_rfl
theorem g21 : prg 21 = some F21 := by kernel_rfl
theorem g22 : prg 22 = some F22 := by kernel_rfl
theorem g26 : prg 26 = some F26 := by kernel_rfl
theorem g29 : prg 29 = some F29 := by kernel_rfl
theorem g30 : prg 30 = some F30 := by kernel_rfl
theorem g31 : prg 31 = some F31 := by kernel_rfl
theorem g33 : prg 33 = some F33 := by kernel_rfl
theorem g34 : prg 34 = some F34 := by kernel_rfl
theorem g35 : prg 35 = some F35 := by kernel_rfl
theorem g37 : prg 37 = some F37 := by kernel_rfl
theorem g40 : prg 40 = some F40 := by kernel_rfl
theorem g41 : prg 41 = some F41 := by kernel_rfl
theorem g49 : prg 49 = some F49 := by kernel_rfl
theorem g50 : prg 50 = some F50 := by kernel_rfl
theorem g51 : prg 51 = some F51 := by kernel_rfl
theorem g53 : prg 53 = some F53 := by kernel_rfl
theorem g60 : prg 60 = some F60 := by kernel_rfl
theorem g66 : prg 66 = some F66 := by kernel_rfl
theorem g67 : prg 67 = some F67 := by kernel_rfl
theorem g74 : prg 74 = some F74 := by kernel_rfl
theorem g77 : prg 77 = some F77 := by kernel_rfl
theorem g82 : prg 82 = some F82 := by kernel_rfl
theorem g86 : prg 86 = some F86 := by kernel_rfl
theorem g87 : prg 87 = some F87 := by kernel_rfl
theorem g88 : prg 88 = some F88 := by kernel_rfl
theorem g89 : prg 89 = some F89 := by kernel_rfl
theorem g91 : prg 91 = some F91 := by kernel_rfl
theorem g92 : prg 92 = some F92 := by kernel_rfl
theorem g93 : prg 93 = some F93 := by kernel_rfl
theorem g101 : prg 101 = some F101 := by kernel_rfl
theorem g103 : prg 103 = some F103 := by kernel_rfl
theorem g112 : prg 112 = some F112 := by kernel_rfl
theorem g124 : prg 124 = some F124 := by kernel_rfl
theorem g125 : prg 125 = some F125 := by kernel_rfl
theorem g126 : prg 126 = some F126 := by kernel_rfl
theorem g127 : prg 127 = some F127 := by kernel_rfl
theorem g128 : prg 128 = some F128 := by kernel_rfl
theorem g129 : prg 129 = some F129 := by kernel_rfl
theorem g130 : prg 130 = some F130 := by kernel_rfl
theorem g131 : prg 131 = some F131 := by kernel_rfl
theorem g132 : prg 132 = some F132 := by kernel_rfl
theorem g133 : prg 133 = some F133 := by kernel_rfl
theorem g134 : prg 134 = some F134 := by kernel_rfl
theorem g135 : prg 135 = some F135 := by kernel_rfl
theorem g136 : prg 136 = some F136 := by kernel_rfl
theorem g137 : prg 137 = some F137 := by kernel_rfl
theorem g138 : prg 138 = some F138 := by kernel_rfl
theorem g139 : prg 139 = some F139 := by kernel_rfl
theorem g140 : prg 140 = some F140 := by kernel_rfl
theorem g143 : prg 143 = some F143 := by kernel_rfl
theorem g144 : prg 144 = some F144 := by kernel_rfl
theorem g145 : prg 145 = some F145 := by kernel_rfl
theorem g146 : prg 146 = some F146 := by kernel_rfl
theorem g147 : prg 147 = some F147 := by kernel_rfl
theorem g148 : prg 148 = some F148 := by kernel_rfl
theorem g149 : prg 149 = some F149 := by kernel_rfl
theorem g150 : prg 150 = some F150 := by kernel_rfl
theorem g151 : prg 151 = some F151 := by kernel_rfl
theorem g152 : prg 152 = some F152 := by kernel_rfl
theorem g153 : prg 153 = some F153 := by kernel_rfl
theorem g154 : prg 154 = some F154 := by kernel_rfl
theorem g155 : prg 155 = some F155 := by kernel_rfl
theorem g156 : prg 156 = some F156 := by kernel_rfl
theorem g157 : prg 157 = some F157 := by kernel_rfl
theorem g158 : prg 158 = some F158 := by kernel_rfl
theorem g159 : prg 159 = some F159 := by kernel_rfl
theorem g160 : prg 160 = some F160 := by kernel_rfl
theorem g161 : prg 161 = some F161 := by kernel_rfl
theorem g162 : prg 162 = some F162 := by kernel_rfl
theorem g163 : prg 163 = some F163 := by kernel_rfl
theorem g164 : prg 164 = some F164 := by kernel_rfl
theorem g165 : prg 165 = some F165 := by kernel_rfl
theorem g166 : prg 166 = some F166 := by kernel_rfl
theorem g167 : prg 167 = some F167 := by kernel_rfl
theorem g168 : prg 168 = some F168 := by kernel_rfl
theorem g169 : prg 169 = some F169 := by kernel_rfl
theorem g170 : prg 170 = some F170 := by kernel_rfl
theorem g171 : prg 171 = some F171 := by kernel_rfl
theorem g172 : prg 172 = some F172 := by kernel_rfl
theorem g173 : prg 173 = some F173 := by kernel_rfl
theorem g176 : prg 176 = some F176 := by kernel_rfl
theorem g179 : prg 179 = some F179 := by kernel_rfl
theorem g180 : prg 180 = some F180 := by kernel_rfl
theorem g182 : prg 182 = some F182 := by kernel_rfl
theorem g183 : prg 183 = some F183 := by kernel_rfl
theorem g184 : prg 184 = some F184 := by kernel_rfl
theorem g186 : prg 186 = some F186 := by kernel_rfl
theorem g189 : prg 189 = some F189 := by kernel_rfl
theorem g199 : prg 199 = some F199 := by kernel_rfl
theorem g201 : prg 201 = some F201 := by kernel_rfl
theorem g203 : prg 203 = some F203 := by kernel_rfl
theorem g204 : prg 204 = some F204 := by kernel_rfl
theorem g205 : prg 205 = some F205 := by kernel_rfl
theorem g207 : prg 207 = some F207 := by kernel_rfl
theorem g208 : prg 208 = some F208 := by kernel_rfl
theorem g214 : prg 214 = some F214 := by kernel_rfl
theorem g215 : prg 215 = some F215 := by kernel_rfl
theorem g217 : prg 217 = some F217 := by kernel_rfl
theorem g220 : prg 220 = some F220 := by kernel_rfl
theorem g221 : prg 221 = some F221 := by kernel_rfl
theorem g222 : prg 222 = some F222 := by kernel_rfl
theorem g223 : prg 223 = some F223 := by kernel_rfl
theorem g224 : prg 224 = some F224 := by kernel_rfl
theorem g226 : prg 226 = some F226 := by kernel_rfl
theorem g230 : prg 230 = some F230 := by kernel_rfl
theorem g238 : prg 238 = some F238 := by kernel_rfl
theorem g245 : prg 245 = some F245 := by kernel_rfl
theorem g250 : prg 250 = some F250 := by kernel_rfl
theorem g257 : prg 257 = some F257 := by kernel_rfl
theorem g258 : prg 258 = some F258 := by kernel_rfl
theorem g259 : prg 259 = some F259 := by kernel_rfl
theorem g260 : prg 260 = some F260 := by kernel_rfl
theorem g261 : prg 261 = some F261 := by kernel_rfl
theorem g266 : prg 266 = some F266 := by kernel_rfl
theorem g267 : prg 267 = some F267 := by kernel_rfl
theorem g269 : prg 269 = some F269 := by kernel_rfl
theorem g270 : prg 270 = some F270 := by kernel_rfl
theorem g271 : prg 271 = some F271 := by kernel_rfl
theorem prg_ok : prgT.all (fun p => p.2.body.ok) = true := by kernel_rfl
end Go.Proofs.YtoppcdecolponaaGreat.AL
