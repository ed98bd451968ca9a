/- Each function of this seat is what its form in the small language says. Printed by program. -/
import Derived.Test.YtoppcdecolponaaGreatProg
import Derived.Test.YtoppcdecolponaaGreatAlS9
import Derived.Test.YtoppcdecolponaaGreatIrIdleBus
import Derived.KernelRfl
namespace Go.Proofs.YtoppcdecolponaaGreat.AL
open Go
def noT : List (Nat × Nat) := [(5, 112), (14, 144), (15, 182), (16, 158), (17, 31), (18, 127), (19, 199), (20, 49), (24, 230), (25, 207), (26, 184), (27, 34), (29, 74), (31, 214), (36, 103), (38, 145), (39, 152), (40, 143), (41, 148), (42, 150), (43, 147), (44, 217), (45, 203), (46, 204), (47, 176), (48, 226), (49, 222), (50, 223), (51, 224), (52, 159), (53, 168), (54, 171), (55, 157), (56, 163), (57, 155), (58, 166), (59, 162), (60, 3), (61, 82), (62, 91), (63, 53), (64, 2), (65, 9), (66, 12), (67, 128), (68, 137), (69, 140), (70, 126), (71, 132), (72, 124), (73, 135), (74, 131), (75, 10), (81, 180), (82, 201), (83, 173), (84, 245), (85, 258), (86, 35), (87, 50), (88, 37), (89, 186), (105, 149), (106, 151), (107, 146), (108, 215), (109, 238), (110, 189), (111, 221), (112, 208), (113, 172), (114, 165), (115, 167), (116, 156), (117, 160), (118, 161), (119, 88), (120, 26), (121, 77), (122, 86), (123, 40), (124, 13), (125, 93), (126, 21), (127, 92), (128, 134), (129, 136), (130, 125), (131, 129), (132, 130), (133, 259), (134, 11), (138, 179), (139, 183), (140, 269), (141, 101), (145, 18), (146, 29), (147, 66), (158, 154), (159, 250), (160, 220), (161, 164), (162, 170), (163, 260), (164, 89), (165, 257), (166, 87), (167, 33), (168, 41), (169, 261), (170, 14), (171, 51), (172, 133), (173, 139), (174, 270), (178, 205), (179, 22), (180, 60), (181, 30), (182, 67), (193, 153), (194, 169), (195, 271), (196, 266), (197, 267), (198, 138)]
def no (f : Nat) : Option Nat := noT.lookup f
theorem lk5 : cF Tryz.prog no Tryz.f5 = some F112 := by kernel_rfl
theorem lk14 : cF Tryz.prog no Tryz.f14 = some F144 := by kernel_rfl
theorem lk15 : cF Tryz.prog no Tryz.f15 = some F182 := by kernel_rfl
theorem lk16 : cF Tryz.prog no Tryz.f16 = some F158 := by kernel_rfl
theorem lk17 : cF Tryz.prog no Tryz.f17 = some F31 := by kernel_rfl
theorem lk18 : cF Tryz.prog no Tryz.f18 = some F127 := by kernel_rfl
theorem lk19 : cF Tryz.prog no Tryz.f19 = some F199 := by kernel_rfl
theorem lk20 : cF Tryz.prog no Tryz.f20 = some F49 := by kernel_rfl
theorem lk24 : cF Tryz.prog no Tryz.f24 = some F230 := by kernel_rfl
theorem lk25 : cF Tryz.prog no Tryz.f25 = some F207 := by kernel_rfl
theorem lk26 : cF Tryz.prog no Tryz.f26 = some F184 := by kernel_rfl
theorem lk27 : cF Tryz.prog no Tryz.f27 = some F34 := by kernel_rfl
theorem lk29 : cF Tryz.prog no Tryz.f29 = some F74 := by kernel_rfl
theorem lk31 : cF Tryz.prog no Tryz.f31 = some F214 := by kernel_rfl
theorem lk36 : cF Tryz.prog no Tryz.f36 = some F103 := by kernel_rfl
theorem lk38 : cF Tryz.prog no Tryz.f38 = some F145 := by kernel_rfl
theorem lk39 : cF Tryz.prog no Tryz.f39 = some F152 := by kernel_rfl
theorem lk40 : cF Tryz.prog no Tryz.f40 = some F143 := by kernel_rfl
theorem lk41 : cF Tryz.prog no Tryz.f41 = some F148 := by kernel_rfl
theorem lk42 : cF Tryz.prog no Tryz.f42 = some F150 := by kernel_rfl
theorem lk43 : cF Tryz.prog no Tryz.f43 = some F147 := by kernel_rfl
theorem lk44 : cF Tryz.prog no Tryz.f44 = some F217 := by kernel_rfl
theorem lk45 : cF Tryz.prog no Tryz.f45 = some F203 := by kernel_rfl
theorem lk46 : cF Tryz.prog no Tryz.f46 = some F204 := by kernel_rfl
theorem lk47 : cF Tryz.prog no Tryz.f47 = some F176 := by kernel_rfl
theorem lk48 : cF Tryz.prog no Tryz.f48 = some F226 := by kernel_rfl
theorem lk49 : cF Tryz.prog no Tryz.f49 = some F222 := by kernel_rfl
theorem lk50 : cF Tryz.prog no Tryz.f50 = some F223 := by kernel_rfl
theorem lk51 : cF Tryz.prog no Tryz.f51 = some F224 := by kernel_rfl
theorem lk52 : cF Tryz.prog no Tryz.f52 = some F159 := by kernel_rfl
theorem lk53 : cF Tryz.prog no Tryz.f53 = some F168 := by kernel_rfl
theorem lk54 : cF Tryz.prog no Tryz.f54 = some F171 := by kernel_rfl
theorem lk55 : cF Tryz.prog no Tryz.f55 = some F157 := by kernel_rfl
theorem lk56 : cF Tryz.prog no Tryz.f56 = some F163 := by kernel_rfl
theorem lk57 : cF Tryz.prog no Tryz.f57 = some F155 := by kernel_rfl
theorem lk58 : cF Tryz.prog no Tryz.f58 = some F166 := by kernel_rfl
theorem lk59 : cF Tryz.prog no Tryz.f59 = some F162 := by kernel_rfl
theorem lk60 : cF Tryz.prog no Tryz.f60 = some F3 := by kernel_rfl
theorem lk61 : cF Tryz.prog no Tryz.f61 = some F82 := by kernel_rfl
theorem lk62 : cF Tryz.prog no Tryz.f62 = some F91 := by kernel_rfl
theorem lk63 : cF Tryz.prog no Tryz.f63 = some F53 := by kernel_rfl
theorem lk64 : cF Tryz.prog no Tryz.f64 = some F2 := by kernel_rfl
theorem lk65 : cF Tryz.prog no Tryz.f65 = some F9 := by kernel_rfl
theorem lk66 : cF Tryz.prog no Tryz.f66 = some F12 := by kernel_rfl
theorem lk67 : cF Tryz.prog no Tryz.f67 = some F128 := by kernel_rfl
theorem lk68 : cF Tryz.prog no Tryz.f68 = some F137 := by kernel_rfl
theorem lk69 : cF Tryz.prog no Tryz.f69 = some F140 := by kernel_rfl
theorem lk70 : cF Tryz.prog no Tryz.f70 = some F126 := by kernel_rfl
theorem lk71 : cF Tryz.prog no Tryz.f71 = some F132 := by kernel_rfl
theorem lk72 : cF Tryz.prog no Tryz.f72 = some F124 := by kernel_rfl
theorem lk73 : cF Tryz.prog no Tryz.f73 = some F135 := by kernel_rfl
theorem lk74 : cF Tryz.prog no Tryz.f74 = some F131 := by kernel_rfl
theorem lk75 : cF Tryz.prog no Tryz.f75 = some F10 := by kernel_rfl
theorem lk81 : cF Tryz.prog no Tryz.f81 = some F180 := by kernel_rfl
theorem lk82 : cF Tryz.prog no Tryz.f82 = some F201 := by kernel_rfl
theorem lk83 : cF Tryz.prog no Tryz.f83 = some F173 := by kernel_rfl
theorem lk84 : cF Tryz.prog no Tryz.f84 = some F245 := by kernel_rfl
theorem lk85 : cF Tryz.prog no Tryz.f85 = some F258 := by kernel_rfl
theorem lk86 : cF Tryz.prog no Tryz.f86 = some F35 := by kernel_rfl
theorem lk87 : cF Tryz.prog no Tryz.f87 = some F50 := by kernel_rfl
theorem lk88 : cF Tryz.prog no Tryz.f88 = some F37 := by kernel_rfl
theorem lk89 : cF Tryz.prog no Tryz.f89 = some F186 := by kernel_rfl
theorem lk105 : cF Tryz.prog no Tryz.f105 = some F149 := by kernel_rfl
theorem lk106 : cF Tryz.prog no Tryz.f106 = some F151 := by kernel_rfl
theorem lk107 : cF Tryz.prog no Tryz.f107 = some F146 := by kernel_rfl
theorem lk108 : cF Tryz.prog no Tryz.f108 = some F215 := by kernel_rfl
theorem lk109 : cF Tryz.prog no Tryz.f109 = some F238 := by kernel_rfl
theorem lk110 : cF Tryz.prog no Tryz.f110 = some F189 := by kernel_rfl
theorem lk111 : cF Tryz.prog no Tryz.f111 = some F221 := by kernel_rfl
theorem lk112 : cF Tryz.prog no Tryz.f112 = some F208 := by kernel_rfl
theorem lk113 : cF Tryz.prog no Tryz.f113 = some F172 := by kernel_rfl
theorem lk114 : cF Tryz.prog no Tryz.f114 = some F165 := by kernel_rfl
theorem lk115 : cF Tryz.prog no Tryz.f115 = some F167 := by kernel_rfl
theorem lk116 : cF Tryz.prog no Tryz.f116 = some F156 := by kernel_rfl
theorem lk117 : cF Tryz.prog no Tryz.f117 = some F160 := by kernel_rfl
theorem lk118 : cF Tryz.prog no Tryz.f118 = some F161 := by kernel_rfl
theorem lk119 : cF Tryz.prog no Tryz.f119 = some F88 := by kernel_rfl
theorem lk120 : cF Tryz.prog no Tryz.f120 = some F26 := by kernel_rfl
theorem lk121 : cF Tryz.prog no Tryz.f121 = some F77 := by kernel_rfl
theorem lk122 : cF Tryz.prog no Tryz.f122 = some F86 := by kernel_rfl
theorem lk123 : cF Tryz.prog no Tryz.f123 = some F40 := by kernel_rfl
theorem lk124 : cF Tryz.prog no Tryz.f124 = some F13 := by kernel_rfl
theorem lk125 : cF Tryz.prog no Tryz.f125 = some F93 := by kernel_rfl
theorem lk126 : cF Tryz.prog no Tryz.f126 = some F21 := by kernel_rfl
theorem lk127 : cF Tryz.prog no Tryz.f127 = some F92 := by kernel_rfl
theorem lk128 : cF Tryz.prog no Tryz.f128 = some F134 := by kernel_rfl
theorem lk129 : cF Tryz.prog no Tryz.f129 = some F136 := by kernel_rfl
theorem lk130 : cF Tryz.prog no Tryz.f130 = some F125 := by kernel_rfl
theorem lk131 : cF Tryz.prog no Tryz.f131 = some F129 := by kernel_rfl
theorem lk132 : cF Tryz.prog no Tryz.f132 = some F130 := by kernel_rfl
theorem lk133 : cF Tryz.prog no Tryz.f133 = some F259 := by kernel_rfl
theorem lk134 : cF Tryz.prog no Tryz.f134 = some F11 := by kernel_rfl
theorem lk138 : cF Tryz.prog no Tryz.f138 = some F179 := by kernel_rfl
theorem lk139 : cF Tryz.prog no Tryz.f139 = some F183 := by kernel_rfl
theorem lk140 : cF Tryz.prog no Tryz.f140 = some F269 := by kernel_rfl
theorem lk141 : cF Tryz.prog no Tryz.f141 = some F101 := by kernel_rfl
theorem lk145 : cF Tryz.prog no Tryz.f145 = some F18 := by kernel_rfl
theorem lk146 : cF Tryz.prog no Tryz.f146 = some F29 := by kernel_rfl
theorem lk147 : cF Tryz.prog no Tryz.f147 = some F66 := by kernel_rfl
theorem lk158 : cF Tryz.prog no Tryz.f158 = some F154 := by kernel_rfl
theorem lk159 : cF Tryz.prog no Tryz.f159 = some F250 := by kernel_rfl
theorem lk160 : cF Tryz.prog no Tryz.f160 = some F220 := by kernel_rfl
theorem lk161 : cF Tryz.prog no Tryz.f161 = some F164 := by kernel_rfl
theorem lk162 : cF Tryz.prog no Tryz.f162 = some F170 := by kernel_rfl
theorem lk163 : cF Tryz.prog no Tryz.f163 = some F260 := by kernel_rfl
theorem lk164 : cF Tryz.prog no Tryz.f164 = some F89 := by kernel_rfl
theorem lk165 : cF Tryz.prog no Tryz.f165 = some F257 := by kernel_rfl
theorem lk166 : cF Tryz.prog no Tryz.f166 = some F87 := by kernel_rfl
theorem lk167 : cF Tryz.prog no Tryz.f167 = some F33 := by kernel_rfl
theorem lk168 : cF Tryz.prog no Tryz.f168 = some F41 := by kernel_rfl
theorem lk169 : cF Tryz.prog no Tryz.f169 = some F261 := by kernel_rfl
theorem lk170 : cF Tryz.prog no Tryz.f170 = some F14 := by kernel_rfl
theorem lk171 : cF Tryz.prog no Tryz.f171 = some F51 := by kernel_rfl
theorem lk172 : cF Tryz.prog no Tryz.f172 = some F133 := by kernel_rfl
theorem lk173 : cF Tryz.prog no Tryz.f173 = some F139 := by kernel_rfl
theorem lk174 : cF Tryz.prog no Tryz.f174 = some F270 := by kernel_rfl
theorem lk178 : cF Tryz.prog no Tryz.f178 = some F205 := by kernel_rfl
theorem lk179 : cF Tryz.prog no Tryz.f179 = some F22 := by kernel_rfl
theorem lk180 : cF Tryz.prog no Tryz.f180 = some F60 := by kernel_rfl
theorem lk181 : cF Tryz.prog no Tryz.f181 = some F30 := by kernel_rfl
theorem lk182 : cF Tryz.prog no Tryz.f182 = some F67 := by kernel_rfl
theorem lk193 : cF Tryz.prog no Tryz.f193 = some F153 := by kernel_rfl
theorem lk194 : cF Tryz.prog no Tryz.f194 = some F169 := by kernel_rfl
theorem lk195 : cF Tryz.prog no Tryz.f195 = some F271 := by kernel_rfl
theorem lk196 : cF Tryz.prog no Tryz.f196 = some F266 := by kernel_rfl
theorem lk197 : cF Tryz.prog no Tryz.f197 = some F267 := by kernel_rfl
theorem lk198 : cF Tryz.prog no Tryz.f198 = some F138 := by kernel_rfl
theorem look_mem {α : Type} : ∀ {S : List (Nat × α)} {t : Nat} {v : α}, S.lookup t = some v → (t, v) ∈ S
 | [], t, v, h => by simp at h
 | (a, b) :: S, t, v, h => by
   simp only [List.lookup] at h
   split at h
   · rename_i e; simp at e; subst e; cases h; exact .head _
   · exact .tail _ (look_mem h)
theorem lks : ∀ p ∈ noT, ∃ pf fn, Tryz.prog.funcs[p.1]? = some pf ∧ cF Tryz.prog no pf = some fn ∧ prg p.2 = some fn := by
 simp only [noT, List.forall_mem_cons]
 exact ⟨⟨_, _, Tryz.func5, lk5, g112⟩,
  ⟨_, _, Tryz.func14, lk14, g144⟩,
  ⟨_, _, Tryz.func15, lk15, g182⟩,
  ⟨_, _, Tryz.func16, lk16, g158⟩,
  ⟨_, _, Tryz.func17, lk17, g31⟩,
  ⟨_, _, Tryz.func18, lk18, g127⟩,
  ⟨_, _, Tryz.func19, lk19, g199⟩,
  ⟨_, _, Tryz.func20, lk20, g49⟩,
  ⟨_, _, Tryz.func24, lk24, g230⟩,
  ⟨_, _, Tryz.func25, lk25, g207⟩,
  ⟨_, _, Tryz.func26, lk26, g184⟩,
  ⟨_, _, Tryz.func27, lk27, g34⟩,
  ⟨_, _, Tryz.func29, lk29, g74⟩,
  ⟨_, _, Tryz.func31, lk31, g214⟩,
  ⟨_, _, Tryz.func36, lk36, g103⟩,
  ⟨_, _, Tryz.func38, lk38, g145⟩,
  ⟨_, _, Tryz.func39, lk39, g152⟩,
  ⟨_, _, Tryz.func40, lk40, g143⟩,
  ⟨_, _, Tryz.func41, lk41, g148⟩,
  ⟨_, _, Tryz.func42, lk42, g150⟩,
  ⟨_, _, Tryz.func43, lk43, g147⟩,
  ⟨_, _, Tryz.func44, lk44, g217⟩,
  ⟨_, _, Tryz.func45, lk45, g203⟩,
  ⟨_, _, Tryz.func46, lk46, g204⟩,
  ⟨_, _, Tryz.func47, lk47, g176⟩,
  ⟨_, _, Tryz.func48, lk48, g226⟩,
  ⟨_, _, Tryz.func49, lk49, g222⟩,
  ⟨_, _, Tryz.func50, lk50, g223⟩,
  ⟨_, _, Tryz.func51, lk51, g224⟩,
  ⟨_, _, Tryz.func52, lk52, g159⟩,
  ⟨_, _, Tryz.func53, lk53, g168⟩,
  ⟨_, _, Tryz.func54, lk54, g171⟩,
  ⟨_, _, Tryz.func55, lk55, g157⟩,
  ⟨_, _, Tryz.func56, lk56, g163⟩,
  ⟨_, _, Tryz.func57, lk57, g155⟩,
  ⟨_, _, Tryz.func58, lk58, g166⟩,
  ⟨_, _, Tryz.func59, lk59, g162⟩,
  ⟨_, _, Tryz.func60, lk60, g3⟩,
  ⟨_, _, Tryz.func61, lk61, g82⟩,
  ⟨_, _, Tryz.func62, lk62, g91⟩,
  ⟨_, _, Tryz.func63, lk63, g53⟩,
  ⟨_, _, Tryz.func64, lk64, g2⟩,
  ⟨_, _, Tryz.func65, lk65, g9⟩,
  ⟨_, _, Tryz.func66, lk66, g12⟩,
  ⟨_, _, Tryz.func67, lk67, g128⟩,
  ⟨_, _, Tryz.func68, lk68, g137⟩,
  ⟨_, _, Tryz.func69, lk69, g140⟩,
  ⟨_, _, Tryz.func70, lk70, g126⟩,
  ⟨_, _, Tryz.func71, lk71, g132⟩,
  ⟨_, _, Tryz.func72, lk72, g124⟩,
  ⟨_, _, Tryz.func73, lk73, g135⟩,
  ⟨_, _, Tryz.func74, lk74, g131⟩,
  ⟨_, _, Tryz.func75, lk75, g10⟩,
  ⟨_, _, Tryz.func81, lk81, g180⟩,
  ⟨_, _, Tryz.func82, lk82, g201⟩,
  ⟨_, _, Tryz.func83, lk83, g173⟩,
  ⟨_, _, Tryz.func84, lk84, g245⟩,
  ⟨_, _, Tryz.func85, lk85, g258⟩,
  ⟨_, _, Tryz.func86, lk86, g35⟩,
  ⟨_, _, Tryz.func87, lk87, g50⟩,
  ⟨_, _, Tryz.func88, lk88, g37⟩,
  ⟨_, _, Tryz.func89, lk89, g186⟩,
  ⟨_, _, Tryz.func105, lk105, g149⟩,
  ⟨_, _, Tryz.func106, lk106, g151⟩,
  ⟨_, _, Tryz.func107, lk107, g146⟩,
  ⟨_, _, Tryz.func108, lk108, g215⟩,
  ⟨_, _, Tryz.func109, lk109, g238⟩,
  ⟨_, _, Tryz.func110, lk110, g189⟩,
  ⟨_, _, Tryz.func111, lk111, g221⟩,
  ⟨_, _, Tryz.func112, lk112, g208⟩,
  ⟨_, _, Tryz.func113, lk113, g172⟩,
  ⟨_, _, Tryz.func114, lk114, g165⟩,
  ⟨_, _, Tryz.func115, lk115, g167⟩,
  ⟨_, _, Tryz.func116, lk116, g156⟩,
  ⟨_, _, Tryz.func117, lk117, g160⟩,
  ⟨_, _, Tryz.func118, lk118, g161⟩,
  ⟨_, _, Tryz.func119, lk119, g88⟩,
  ⟨_, _, Tryz.func120, lk120, g26⟩,
  ⟨_, _, Tryz.func121, lk121, g77⟩,
  ⟨_, _, Tryz.func122, lk122, g86⟩,
  ⟨_, _, Tryz.func123, lk123, g40⟩,
  ⟨_, _, Tryz.func124, lk124, g13⟩,
  ⟨_, _, Tryz.func125, lk125, g93⟩,
  ⟨_, _, Tryz.func126, lk126, g21⟩,
  ⟨_, _, Tryz.func127, lk127, g92⟩,
  ⟨_, _, Tryz.func128, lk128, g134⟩,
  ⟨_, _, Tryz.func129, lk129, g136⟩,
  ⟨_, _, Tryz.func130, lk130, g125⟩,
  ⟨_, _, Tryz.func131, lk131, g129⟩,
  ⟨_, _, Tryz.func132, lk132, g130⟩,
  ⟨_, _, Tryz.func133, lk133, g259⟩,
  ⟨_, _, Tryz.func134, lk134, g11⟩,
  ⟨_, _, Tryz.func138, lk138, g179⟩,
  ⟨_, _, Tryz.func139, lk139, g183⟩,
  ⟨_, _, Tryz.func140, lk140, g269⟩,
  ⟨_, _, Tryz.func141, lk141, g101⟩,
  ⟨_, _, Tryz.func145, lk145, g18⟩,
  ⟨_, _, Tryz.func146, lk146, g29⟩,
  ⟨_, _, Tryz.func147, lk147, g66⟩,
  ⟨_, _, Tryz.func158, lk158, g154⟩,
  ⟨_, _, Tryz.func159, lk159, g250⟩,
  ⟨_, _, Tryz.func160, lk160, g220⟩,
  ⟨_, _, Tryz.func161, lk161, g164⟩,
  ⟨_, _, Tryz.func162, lk162, g170⟩,
  ⟨_, _, Tryz.func163, lk163, g260⟩,
  ⟨_, _, Tryz.func164, lk164, g89⟩,
  ⟨_, _, Tryz.func165, lk165, g257⟩,
  ⟨_, _, Tryz.func166, lk166, g87⟩,
  ⟨_, _, Tryz.func167, lk167, g33⟩,
  ⟨_, _, Tryz.func168, lk168, g41⟩,
  ⟨_, _, Tryz.func169, lk169, g261⟩,
  ⟨_, _, Tryz.func170, lk170, g14⟩,
  ⟨_, _, Tryz.func171, lk171, g51⟩,
  ⟨_, _, Tryz.func172, lk172, g133⟩,
  ⟨_, _, Tryz.func173, lk173, g139⟩,
  ⟨_, _, Tryz.func174, lk174, g270⟩,
  ⟨_, _, Tryz.func178, lk178, g205⟩,
  ⟨_, _, Tryz.func179, lk179, g22⟩,
  ⟨_, _, Tryz.func180, lk180, g60⟩,
  ⟨_, _, Tryz.func181, lk181, g30⟩,
  ⟨_, _, Tryz.func182, lk182, g67⟩,
  ⟨_, _, Tryz.func193, lk193, g153⟩,
  ⟨_, _, Tryz.func194, lk194, g169⟩,
  ⟨_, _, Tryz.func195, lk195, g271⟩,
  ⟨_, _, Tryz.func196, lk196, g266⟩,
  ⟨_, _, Tryz.func197, lk197, g267⟩,
  ⟨_, _, Tryz.func198, lk198, g138⟩, by simp⟩
theorem link : Link Tryz.prog no prg := by
 intro g fn hg
 refine ⟨List.all_eq_true.1 prg_ok (g, fn) (look_mem hg), fun f hf => ?_⟩
 obtain ⟨pf, fn', h1, h2, h3⟩ := lks (f, g) (look_mem hf)
 have h3 : prg g = some fn' := h3
 rw [hg] at h3
 cases h3
 exact ⟨pf, h1, h2⟩
theorem mixed : Tryz.prog.follows .mixedOrders = true := by kernel_rfl
end Go.Proofs.YtoppcdecolponaaGreat.AL
