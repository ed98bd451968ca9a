/- Each function of this seat is what its form in the small language says. Printed by program. -/
import Derived.Test.YtoppcdecolponaaGreatProg
import Derived.Test.YtoppcdecolponaaGreatAlS10
import Derived.Test.YtoppcdecolponaaGreatV0
import Derived.Test.YtoppcdecolponaaGreatVZ
import Derived.KernelRfl
namespace Go.Proofs.YtoppcdecolponaaGreat.AL
open Go
def noT : List (Nat × Nat) := [(3, 120), (6, 123), (7, 194), (8, 212), (9, 44), (10, 197), (11, 122), (12, 181), (13, 32), (17, 31), (21, 231), (22, 247), (23, 228), (24, 230), (25, 207), (26, 184), (27, 34), (28, 102), (29, 74), (30, 227), (31, 214), (32, 244), (33, 202), (34, 175), (35, 95), (36, 103), (37, 17), (60, 3), (61, 82), (62, 91), (63, 53), (64, 2), (65, 9), (66, 12), (76, 243), (77, 233), (78, 242), (79, 246), (80, 229), (81, 180), (82, 201), (83, 173), (84, 245), (85, 258), (86, 35), (87, 50), (88, 37), (89, 186), (90, 188), (91, 96), (92, 99), (93, 254), (94, 253), (95, 98), (96, 255), (97, 54), (98, 61), (99, 58), (100, 28), (101, 6), (102, 7), (103, 1), (104, 8), (113, 172), (119, 88), (120, 26), (121, 77), (122, 86), (123, 40), (124, 13), (125, 93), (126, 21), (127, 92), (135, 234), (136, 249), (137, 239), (138, 179), (139, 183), (140, 269), (141, 101), (142, 256), (143, 100), (144, 97), (145, 18), (146, 29), (147, 66), (148, 90), (149, 16), (150, 75), (151, 4), (152, 73), (153, 5), (154, 80), (155, 68), (156, 15), (157, 57), (163, 260), (164, 89), (165, 257), (166, 87), (167, 33), (168, 41), (169, 261), (170, 14), (171, 51), (175, 248), (176, 241), (177, 237), (178, 205), (179, 22), (180, 60), (181, 30), (182, 67), (183, 55), (184, 24), (185, 81), (186, 85), (187, 56), (188, 52), (189, 19), (190, 59), (191, 27), (192, 83), (195, 271), (196, 266), (197, 267), (199, 39), (200, 62), (201, 47)]
def noF (f : Nat) : Option Nat := noT.lookup f
theorem lk3 : cF Tryz.prog noF Tryz.f3 = some F120 := by kernel_rfl
theorem lk6 : cF Tryz.prog noF Tryz.f6 = some F123 := by kernel_rfl
theorem lk7 : cF Tryz.prog noF Tryz.f7 = some F194 := by kernel_rfl
theorem lk8 : cF Tryz.prog noF Tryz.f8 = some F212 := by kernel_rfl
theorem lk9 : cF Tryz.prog noF Tryz.f9 = some F44 := by kernel_rfl
theorem lk10 : cF Tryz.prog noF Tryz.f10 = some F197 := by kernel_rfl
theorem lk11 : cF Tryz.prog noF Tryz.f11 = some F122 := by kernel_rfl
theorem lk12 : cF Tryz.prog noF Tryz.f12 = some F181 := by kernel_rfl
theorem lk13 : cF Tryz.prog noF Tryz.f13 = some F32 := by kernel_rfl
theorem lk17 : cF Tryz.prog noF Tryz.f17 = some F31 := by kernel_rfl
theorem lk21 : cF Tryz.prog noF Tryz.f21 = some F231 := by kernel_rfl
theorem lk22 : cF Tryz.prog noF Tryz.f22 = some F247 := by kernel_rfl
theorem lk23 : cF Tryz.prog noF Tryz.f23 = some F228 := by kernel_rfl
theorem lk24 : cF Tryz.prog noF Tryz.f24 = some F230 := by kernel_rfl
theorem lk25 : cF Tryz.prog noF Tryz.f25 = some F207 := by kernel_rfl
theorem lk26 : cF Tryz.prog noF Tryz.f26 = some F184 := by kernel_rfl
theorem lk27 : cF Tryz.prog noF Tryz.f27 = some F34 := by kernel_rfl
theorem lk28 : cF Tryz.prog noF Tryz.f28 = some F102 := by kernel_rfl
theorem lk29 : cF Tryz.prog noF Tryz.f29 = some F74 := by kernel_rfl
theorem lk30 : cF Tryz.prog noF Tryz.f30 = some F227 := by kernel_rfl
theorem lk31 : cF Tryz.prog noF Tryz.f31 = some F214 := by kernel_rfl
theorem lk32 : cF Tryz.prog noF Tryz.f32 = some F244 := by kernel_rfl
theorem lk33 : cF Tryz.prog noF Tryz.f33 = some F202 := by kernel_rfl
theorem lk34 : cF Tryz.prog noF Tryz.f34 = some F175 := by kernel_rfl
theorem lk35 : cF Tryz.prog noF Tryz.f35 = some F95 := by kernel_rfl
theorem lk36 : cF Tryz.prog noF Tryz.f36 = some F103 := by kernel_rfl
theorem lk37 : cF Tryz.prog noF Tryz.f37 = some F17 := by kernel_rfl
theorem lk60 : cF Tryz.prog noF Tryz.f60 = some F3 := by kernel_rfl
theorem lk61 : cF Tryz.prog noF Tryz.f61 = some F82 := by kernel_rfl
theorem lk62 : cF Tryz.prog noF Tryz.f62 = some F91 := by kernel_rfl
theorem lk63 : cF Tryz.prog noF Tryz.f63 = some F53 := by kernel_rfl
theorem lk64 : cF Tryz.prog noF Tryz.f64 = some F2 := by kernel_rfl
theorem lk65 : cF Tryz.prog noF Tryz.f65 = some F9 := by kernel_rfl
theorem lk66 : cF Tryz.prog noF Tryz.f66 = some F12 := by kernel_rfl
theorem lk76 : cF Tryz.prog noF Tryz.f76 = some F243 := by kernel_rfl
theorem lk77 : cF Tryz.prog noF Tryz.f77 = some F233 := by kernel_rfl
theorem lk78 : cF Tryz.prog noF Tryz.f78 = some F242 := by kernel_rfl
theorem lk79 : cF Tryz.prog noF Tryz.f79 = some F246 := by kernel_rfl
theorem lk80 : cF Tryz.prog noF Tryz.f80 = some F229 := by kernel_rfl
theorem lk81 : cF Tryz.prog noF Tryz.f81 = some F180 := by kernel_rfl
theorem lk82 : cF Tryz.prog noF Tryz.f82 = some F201 := by kernel_rfl
theorem lk83 : cF Tryz.prog noF Tryz.f83 = some F173 := by kernel_rfl
theorem lk84 : cF Tryz.prog noF Tryz.f84 = some F245 := by kernel_rfl
theorem lk85 : cF Tryz.prog noF Tryz.f85 = some F258 := by kernel_rfl
theorem lk86 : cF Tryz.prog noF Tryz.f86 = some F35 := by kernel_rfl
theorem lk87 : cF Tryz.prog noF Tryz.f87 = some F50 := by kernel_rfl
theorem lk88 : cF Tryz.prog noF Tryz.f88 = some F37 := by kernel_rfl
theorem lk89 : cF Tryz.prog noF Tryz.f89 = some F186 := by kernel_rfl
theorem lk90 : cF Tryz.prog noF Tryz.f90 = some F188 := by kernel_rfl
theorem lk91 : cF Tryz.prog noF Tryz.f91 = some F96 := by kernel_rfl
theorem lk92 : cF Tryz.prog noF Tryz.f92 = some F99 := by kernel_rfl
theorem lk93 : cF Tryz.prog noF Tryz.f93 = some F254 := by kernel_rfl
theorem lk94 : cF Tryz.prog noF Tryz.f94 = some F253 := by kernel_rfl
theorem lk95 : cF Tryz.prog noF Tryz.f95 = some F98 := by kernel_rfl
theorem lk96 : cF Tryz.prog noF Tryz.f96 = some F255 := by kernel_rfl
theorem lk97 : cF Tryz.prog noF Tryz.f97 = some F54 := by kernel_rfl
theorem lk98 : cF Tryz.prog noF Tryz.f98 = some F61 := by kernel_rfl
theorem lk99 : cF Tryz.prog noF Tryz.f99 = some F58 := by kernel_rfl
theorem lk100 : cF Tryz.prog noF Tryz.f100 = some F28 := by kernel_rfl
theorem lk101 : cF Tryz.prog noF Tryz.f101 = some F6 := by kernel_rfl
theorem lk102 : cF Tryz.prog noF Tryz.f102 = some F7 := by kernel_rfl
theorem lk103 : cF Tryz.prog noF Tryz.f103 = some F1 := by kernel_rfl
theorem lk104 : cF Tryz.prog noF Tryz.f104 = some F8 := by kernel_rfl
theorem lk113 : cF Tryz.prog noF Tryz.f113 = some F172 := by kernel_rfl
theorem lk119 : cF Tryz.prog noF Tryz.f119 = some F88 := by kernel_rfl
theorem lk120 : cF Tryz.prog noF Tryz.f120 = some F26 := by kernel_rfl
theorem lk121 : cF Tryz.prog noF Tryz.f121 = some F77 := by kernel_rfl
theorem lk122 : cF Tryz.prog noF Tryz.f122 = some F86 := by kernel_rfl
theorem lk123 : cF Tryz.prog noF Tryz.f123 = some F40 := by kernel_rfl
theorem lk124 : cF Tryz.prog noF Tryz.f124 = some F13 := by kernel_rfl
theorem lk125 : cF Tryz.prog noF Tryz.f125 = some F93 := by kernel_rfl
theorem lk126 : cF Tryz.prog noF Tryz.f126 = some F21 := by kernel_rfl
theorem lk127 : cF Tryz.prog noF Tryz.f127 = some F92 := by kernel_rfl
theorem lk135 : cF Tryz.prog noF Tryz.f135 = some F234 := by kernel_rfl
theorem lk136 : cF Tryz.prog noF Tryz.f136 = some F249 := by kernel_rfl
theorem lk137 : cF Tryz.prog noF Tryz.f137 = some F239 := by kernel_rfl
theorem lk138 : cF Tryz.prog noF Tryz.f138 = some F179 := by kernel_rfl
theorem lk139 : cF Tryz.prog noF Tryz.f139 = some F183 := by kernel_rfl
theorem lk140 : cF Tryz.prog noF Tryz.f140 = some F269 := by kernel_rfl
theorem lk141 : cF Tryz.prog noF Tryz.f141 = some F101 := by kernel_rfl
theorem lk142 : cF Tryz.prog noF Tryz.f142 = some F256 := by kernel_rfl
theorem lk143 : cF Tryz.prog noF Tryz.f143 = some F100 := by kernel_rfl
theorem lk144 : cF Tryz.prog noF Tryz.f144 = some F97 := by kernel_rfl
theorem lk145 : cF Tryz.prog noF Tryz.f145 = some F18 := by kernel_rfl
theorem lk146 : cF Tryz.prog noF Tryz.f146 = some F29 := by kernel_rfl
theorem lk147 : cF Tryz.prog noF Tryz.f147 = some F66 := by kernel_rfl
theorem lk148 : cF Tryz.prog noF Tryz.f148 = some F90 := by kernel_rfl
theorem lk149 : cF Tryz.prog noF Tryz.f149 = some F16 := by kernel_rfl
theorem lk150 : cF Tryz.prog noF Tryz.f150 = some F75 := by kernel_rfl
theorem lk151 : cF Tryz.prog noF Tryz.f151 = some F4 := by kernel_rfl
theorem lk152 : cF Tryz.prog noF Tryz.f152 = some F73 := by kernel_rfl
theorem lk153 : cF Tryz.prog noF Tryz.f153 = some F5 := by kernel_rfl
theorem lk154 : cF Tryz.prog noF Tryz.f154 = some F80 := by kernel_rfl
theorem lk155 : cF Tryz.prog noF Tryz.f155 = some F68 := by kernel_rfl
theorem lk156 : cF Tryz.prog noF Tryz.f156 = some F15 := by kernel_rfl
theorem lk157 : cF Tryz.prog noF Tryz.f157 = some F57 := by kernel_rfl
theorem lk163 : cF Tryz.prog noF Tryz.f163 = some F260 := by kernel_rfl
theorem lk164 : cF Tryz.prog noF Tryz.f164 = some F89 := by kernel_rfl
theorem lk165 : cF Tryz.prog noF Tryz.f165 = some F257 := by kernel_rfl
theorem lk166 : cF Tryz.prog noF Tryz.f166 = some F87 := by kernel_rfl
theorem lk167 : cF Tryz.prog noF Tryz.f167 = some F33 := by kernel_rfl
theorem lk168 : cF Tryz.prog noF Tryz.f168 = some F41 := by kernel_rfl
theorem lk169 : cF Tryz.prog noF Tryz.f169 = some F261 := by kernel_rfl
theorem lk170 : cF Tryz.prog noF Tryz.f170 = some F14 := by kernel_rfl
theorem lk171 : cF Tryz.prog noF Tryz.f171 = some F51 := by kernel_rfl
theorem lk175 : cF Tryz.prog noF Tryz.f175 = some F248 := by kernel_rfl
theorem lk176 : cF Tryz.prog noF Tryz.f176 = some F241 := by kernel_rfl
theorem lk177 : cF Tryz.prog noF Tryz.f177 = some F237 := by kernel_rfl
theorem lk178 : cF Tryz.prog noF Tryz.f178 = some F205 := by kernel_rfl
theorem lk179 : cF Tryz.prog noF Tryz.f179 = some F22 := by kernel_rfl
theorem lk180 : cF Tryz.prog noF Tryz.f180 = some F60 := by kernel_rfl
theorem lk181 : cF Tryz.prog noF Tryz.f181 = some F30 := by kernel_rfl
theorem lk182 : cF Tryz.prog noF Tryz.f182 = some F67 := by kernel_rfl
theorem lk183 : cF Tryz.prog noF Tryz.f183 = some F55 := by kernel_rfl
theorem lk184 : cF Tryz.prog noF Tryz.f184 = some F24 := by kernel_rfl
theorem lk185 : cF Tryz.prog noF Tryz.f185 = some F81 := by kernel_rfl
theorem lk186 : cF Tryz.prog noF Tryz.f186 = some F85 := by kernel_rfl
theorem lk187 : cF Tryz.prog noF Tryz.f187 = some F56 := by kernel_rfl
theorem lk188 : cF Tryz.prog noF Tryz.f188 = some F52 := by kernel_rfl
theorem lk189 : cF Tryz.prog noF Tryz.f189 = some F19 := by kernel_rfl
theorem lk190 : cF Tryz.prog noF Tryz.f190 = some F59 := by kernel_rfl
theorem lk191 : cF Tryz.prog noF Tryz.f191 = some F27 := by kernel_rfl
theorem lk192 : cF Tryz.prog noF Tryz.f192 = some F83 := by kernel_rfl
theorem lk195 : cF Tryz.prog noF Tryz.f195 = some F271 := by kernel_rfl
theorem lk196 : cF Tryz.prog noF Tryz.f196 = some F266 := by kernel_rfl
theorem lk197 : cF Tryz.prog noF Tryz.f197 = some F267 := by kernel_rfl
theorem lk199 : cF Tryz.prog noF Tryz.f199 = some F39 := by kernel_rfl
theorem lk200 : cF Tryz.prog noF Tryz.f200 = some F62 := by kernel_rfl
theorem lk201 : cF Tryz.prog noF Tryz.f201 = some F47 := by kernel_rfl
theorem lks : ∀ p ∈ noT, prg p.2 = none ∨ ∃ pf fn, Tryz.prog.funcs[p.1]? = some pf ∧ cF Tryz.prog noF pf = some fn ∧ prg p.2 = some fn := by
 simp only [noT, List.forall_mem_cons]
 exact ⟨Or.inr ⟨_, _, Tryz.func3, lk3, g120⟩,
  Or.inr ⟨_, _, Tryz.func6, lk6, g123⟩,
  Or.inr ⟨_, _, Tryz.func7, lk7, g194⟩,
  Or.inr ⟨_, _, Tryz.func8, lk8, g212⟩,
  Or.inr ⟨_, _, Tryz.func9, lk9, g44⟩,
  Or.inr ⟨_, _, Tryz.func10, lk10, g197⟩,
  Or.inr ⟨_, _, Tryz.func11, lk11, g122⟩,
  Or.inr ⟨_, _, Tryz.func12, lk12, g181⟩,
  Or.inr ⟨_, _, Tryz.func13, lk13, g32⟩,
  Or.inr ⟨_, _, Tryz.func17, lk17, g31⟩,
  Or.inr ⟨_, _, Tryz.func21, lk21, g231⟩,
  Or.inr ⟨_, _, Tryz.func22, lk22, g247⟩,
  Or.inr ⟨_, _, Tryz.func23, lk23, g228⟩,
  Or.inr ⟨_, _, Tryz.func24, lk24, g230⟩,
  Or.inr ⟨_, _, Tryz.func25, lk25, g207⟩,
  Or.inr ⟨_, _, Tryz.func26, lk26, g184⟩,
  Or.inr ⟨_, _, Tryz.func27, lk27, g34⟩,
  Or.inr ⟨_, _, Tryz.func28, lk28, g102⟩,
  Or.inr ⟨_, _, Tryz.func29, lk29, g74⟩,
  Or.inr ⟨_, _, Tryz.func30, lk30, g227⟩,
  Or.inr ⟨_, _, Tryz.func31, lk31, g214⟩,
  Or.inr ⟨_, _, Tryz.func32, lk32, g244⟩,
  Or.inr ⟨_, _, Tryz.func33, lk33, g202⟩,
  Or.inr ⟨_, _, Tryz.func34, lk34, g175⟩,
  Or.inr ⟨_, _, Tryz.func35, lk35, g95⟩,
  Or.inr ⟨_, _, Tryz.func36, lk36, g103⟩,
  Or.inr ⟨_, _, Tryz.func37, lk37, g17⟩,
  Or.inr ⟨_, _, Tryz.func60, lk60, g3⟩,
  Or.inr ⟨_, _, Tryz.func61, lk61, g82⟩,
  Or.inr ⟨_, _, Tryz.func62, lk62, g91⟩,
  Or.inr ⟨_, _, Tryz.func63, lk63, g53⟩,
  Or.inr ⟨_, _, Tryz.func64, lk64, g2⟩,
  Or.inr ⟨_, _, Tryz.func65, lk65, g9⟩,
  Or.inr ⟨_, _, Tryz.func66, lk66, g12⟩,
  Or.inr ⟨_, _, Tryz.func76, lk76, g243⟩,
  Or.inr ⟨_, _, Tryz.func77, lk77, g233⟩,
  Or.inr ⟨_, _, Tryz.func78, lk78, g242⟩,
  Or.inr ⟨_, _, Tryz.func79, lk79, g246⟩,
  Or.inr ⟨_, _, Tryz.func80, lk80, g229⟩,
  Or.inr ⟨_, _, Tryz.func81, lk81, g180⟩,
  Or.inr ⟨_, _, Tryz.func82, lk82, g201⟩,
  Or.inr ⟨_, _, Tryz.func83, lk83, g173⟩,
  Or.inr ⟨_, _, Tryz.func84, lk84, g245⟩,
  Or.inr ⟨_, _, Tryz.func85, lk85, g258⟩,
  Or.inr ⟨_, _, Tryz.func86, lk86, g35⟩,
  Or.inr ⟨_, _, Tryz.func87, lk87, g50⟩,
  Or.inr ⟨_, _, Tryz.func88, lk88, g37⟩,
  Or.inr ⟨_, _, Tryz.func89, lk89, g186⟩,
  Or.inr ⟨_, _, Tryz.func90, lk90, g188⟩,
  Or.inr ⟨_, _, Tryz.func91, lk91, g96⟩,
  Or.inr ⟨_, _, Tryz.func92, lk92, g99⟩,
  Or.inr ⟨_, _, Tryz.func93, lk93, g254⟩,
  Or.inr ⟨_, _, Tryz.func94, lk94, g253⟩,
  Or.inr ⟨_, _, Tryz.func95, lk95, g98⟩,
  Or.inr ⟨_, _, Tryz.func96, lk96, g255⟩,
  Or.inr ⟨_, _, Tryz.func97, lk97, g54⟩,
  Or.inr ⟨_, _, Tryz.func98, lk98, g61⟩,
  Or.inr ⟨_, _, Tryz.func99, lk99, g58⟩,
  Or.inr ⟨_, _, Tryz.func100, lk100, g28⟩,
  Or.inr ⟨_, _, Tryz.func101, lk101, g6⟩,
  Or.inr ⟨_, _, Tryz.func102, lk102, g7⟩,
  Or.inr ⟨_, _, Tryz.func103, lk103, g1⟩,
  Or.inr ⟨_, _, Tryz.func104, lk104, g8⟩,
  Or.inr ⟨_, _, Tryz.func113, lk113, g172⟩,
  Or.inr ⟨_, _, Tryz.func119, lk119, g88⟩,
  Or.inr ⟨_, _, Tryz.func120, lk120, g26⟩,
  Or.inr ⟨_, _, Tryz.func121, lk121, g77⟩,
  Or.inr ⟨_, _, Tryz.func122, lk122, g86⟩,
  Or.inr ⟨_, _, Tryz.func123, lk123, g40⟩,
  Or.inr ⟨_, _, Tryz.func124, lk124, g13⟩,
  Or.inr ⟨_, _, Tryz.func125, lk125, g93⟩,
  Or.inr ⟨_, _, Tryz.func126, lk126, g21⟩,
  Or.inr ⟨_, _, Tryz.func127, lk127, g92⟩,
  Or.inr ⟨_, _, Tryz.func135, lk135, g234⟩,
  Or.inr ⟨_, _, Tryz.func136, lk136, g249⟩,
  Or.inr ⟨_, _, Tryz.func137, lk137, g239⟩,
  Or.inr ⟨_, _, Tryz.func138, lk138, g179⟩,
  Or.inr ⟨_, _, Tryz.func139, lk139, g183⟩,
  Or.inr ⟨_, _, Tryz.func140, lk140, g269⟩,
  Or.inr ⟨_, _, Tryz.func141, lk141, g101⟩,
  Or.inr ⟨_, _, Tryz.func142, lk142, g256⟩,
  Or.inr ⟨_, _, Tryz.func143, lk143, g100⟩,
  Or.inr ⟨_, _, Tryz.func144, lk144, g97⟩,
  Or.inr ⟨_, _, Tryz.func145, lk145, g18⟩,
  Or.inr ⟨_, _, Tryz.func146, lk146, g29⟩,
  Or.inr ⟨_, _, Tryz.func147, lk147, g66⟩,
  Or.inr ⟨_, _, Tryz.func148, lk148, g90⟩,
  Or.inr ⟨_, _, Tryz.func149, lk149, g16⟩,
  Or.inr ⟨_, _, Tryz.func150, lk150, g75⟩,
  Or.inr ⟨_, _, Tryz.func151, lk151, g4⟩,
  Or.inr ⟨_, _, Tryz.func152, lk152, g73⟩,
  Or.inr ⟨_, _, Tryz.func153, lk153, g5⟩,
  Or.inr ⟨_, _, Tryz.func154, lk154, g80⟩,
  Or.inr ⟨_, _, Tryz.func155, lk155, g68⟩,
  Or.inr ⟨_, _, Tryz.func156, lk156, g15⟩,
  Or.inr ⟨_, _, Tryz.func157, lk157, g57⟩,
  Or.inr ⟨_, _, Tryz.func163, lk163, g260⟩,
  Or.inr ⟨_, _, Tryz.func164, lk164, g89⟩,
  Or.inr ⟨_, _, Tryz.func165, lk165, g257⟩,
  Or.inr ⟨_, _, Tryz.func166, lk166, g87⟩,
  Or.inr ⟨_, _, Tryz.func167, lk167, g33⟩,
  Or.inr ⟨_, _, Tryz.func168, lk168, g41⟩,
  Or.inr ⟨_, _, Tryz.func169, lk169, g261⟩,
  Or.inr ⟨_, _, Tryz.func170, lk170, g14⟩,
  Or.inr ⟨_, _, Tryz.func171, lk171, g51⟩,
  Or.inr ⟨_, _, Tryz.func175, lk175, g248⟩,
  Or.inr ⟨_, _, Tryz.func176, lk176, g241⟩,
  Or.inr ⟨_, _, Tryz.func177, lk177, g237⟩,
  Or.inr ⟨_, _, Tryz.func178, lk178, g205⟩,
  Or.inr ⟨_, _, Tryz.func179, lk179, g22⟩,
  Or.inr ⟨_, _, Tryz.func180, lk180, g60⟩,
  Or.inr ⟨_, _, Tryz.func181, lk181, g30⟩,
  Or.inr ⟨_, _, Tryz.func182, lk182, g67⟩,
  Or.inr ⟨_, _, Tryz.func183, lk183, g55⟩,
  Or.inr ⟨_, _, Tryz.func184, lk184, g24⟩,
  Or.inr ⟨_, _, Tryz.func185, lk185, g81⟩,
  Or.inr ⟨_, _, Tryz.func186, lk186, g85⟩,
  Or.inr ⟨_, _, Tryz.func187, lk187, g56⟩,
  Or.inr ⟨_, _, Tryz.func188, lk188, g52⟩,
  Or.inr ⟨_, _, Tryz.func189, lk189, g19⟩,
  Or.inr ⟨_, _, Tryz.func190, lk190, g59⟩,
  Or.inr ⟨_, _, Tryz.func191, lk191, g27⟩,
  Or.inr ⟨_, _, Tryz.func192, lk192, g83⟩,
  Or.inr ⟨_, _, Tryz.func195, lk195, g271⟩,
  Or.inr ⟨_, _, Tryz.func196, lk196, g266⟩,
  Or.inr ⟨_, _, Tryz.func197, lk197, g267⟩,
  Or.inr ⟨_, _, Tryz.func199, lk199, g39⟩,
  Or.inr ⟨_, _, Tryz.func200, lk200, g62⟩,
  Or.inr ⟨_, _, Tryz.func201, lk201, g47⟩, by simp⟩
abbrev noW (W : World) : No := ⟨noF, W.heap.size, W⟩
theorem nats_of (W : World) : ∀ g args v, nat g args = some v → ∀ f, noF f = some g → NatSim Tryz.prog (noW W) f args v := by
 intro g args v hn f hf
 have hm := look_mem hf
 rcases nat_cases hn with ⟨rfl, s, d, rfl, hs, rfl⟩ | ⟨rfl, n, rfl, hb, rfl⟩ | ⟨rfl, s, c, rfl, rfl⟩ | ⟨rfl, s, c, rfl, rfl⟩ | ⟨rfl, s, c, rfl, rfl⟩
 · exact (no_num (by kernel_rfl) hm).elim
 · exact (no_num (by kernel_rfl) hm).elim
 · exact (no_num (by kernel_rfl) hm).elim
 · exact (no_num (by kernel_rfl) hm).elim
 · exact (no_num (by kernel_rfl) hm).elim
theorem link (W : World) : Link Tryz.prog (noW W) prg := by
 refine ⟨fun g fn hg => ⟨List.all_eq_true.1 prg_ok (g, fn) (look_mem hg), fun f hf => ?_⟩, nats_of W, fun f hf => ?_⟩
 · rcases lks (f, g) (look_mem hf) with h0 | ⟨pf, fn', h1, h2, h3⟩
   · have h0 : prg g = none := h0
     rw [hg] at h0; cases h0
   · have h3 : prg g = some fn' := h3
     rw [hg] at h3
     cases h3
     exact ⟨pf, h1, h2⟩
 · have hm := look_mem hf
   exact (no_num (by kernel_rfl) hm).elim
theorem mixed : Tryz.prog.follows .mixedOrders = true := by kernel_rfl
end Go.Proofs.YtoppcdecolponaaGreat.AL
