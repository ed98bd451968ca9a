/- Each function of this seat is what its form in the small language says. Printed by program. -/
import Derived.Test.YtdialnejieoelaaProg
import Derived.Test.YtdialnejieoelaaAlS9
import Derived.Test.YtdialnejieoelaaIrSameBus
import Derived.KernelRfl
namespace Go.Proofs.Ytdialnejieoelaa.AL
open Go

def noT : List (Nat × Nat) := [(12, 350), (18, 210), (19, 211), (29, 151), (31, 167), (32, 136), (35, 153), (36, 169), (37, 138), (39, 147), (41, 162), (43, 135), (44, 131), (48, 145), (50, 159), (52, 128), (58, 144), (59, 366), (60, 158), (61, 367), (62, 127), (79, 240), (84, 154), (85, 170), (86, 139), (89, 148), (90, 163), (91, 132), (95, 161), (98, 129), (99, 130), (103, 149), (105, 165), (107, 134), (113, 152), (114, 143), (115, 150), (116, 382), (117, 383), (118, 225), (119, 168), (120, 171), (121, 157), (122, 155), (123, 166), (124, 384), (125, 385), (126, 70), (127, 386), (128, 264), (129, 387), (130, 265), (131, 137), (132, 140), (133, 126), (134, 124), (181, 164), (186, 133), (190, 146), (191, 401), (192, 156), (193, 160), (194, 402), (195, 263), (196, 71), (197, 403), (198, 125)]
def no (f : Nat) : Option Nat := noT.lookup f

theorem lk12 : cF Try.prog no Try.f12 = some F350 := by kernel_rfl
theorem lk18 : cF Try.prog no Try.f18 = some F210 := by kernel_rfl
theorem lk19 : cF Try.prog no Try.f19 = some F211 := by kernel_rfl
theorem lk29 : cF Try.prog no Try.f29 = some F151 := by kernel_rfl
theorem lk31 : cF Try.prog no Try.f31 = some F167 := by kernel_rfl
theorem lk32 : cF Try.prog no Try.f32 = some F136 := by kernel_rfl
theorem lk35 : cF Try.prog no Try.f35 = some F153 := by kernel_rfl
theorem lk36 : cF Try.prog no Try.f36 = some F169 := by kernel_rfl
theorem lk37 : cF Try.prog no Try.f37 = some F138 := by kernel_rfl
theorem lk39 : cF Try.prog no Try.f39 = some F147 := by kernel_rfl
theorem lk41 : cF Try.prog no Try.f41 = some F162 := by kernel_rfl
theorem lk43 : cF Try.prog no Try.f43 = some F135 := by kernel_rfl
theorem lk44 : cF Try.prog no Try.f44 = some F131 := by kernel_rfl
theorem lk48 : cF Try.prog no Try.f48 = some F145 := by kernel_rfl
theorem lk50 : cF Try.prog no Try.f50 = some F159 := by kernel_rfl
theorem lk52 : cF Try.prog no Try.f52 = some F128 := by kernel_rfl
theorem lk58 : cF Try.prog no Try.f58 = some F144 := by kernel_rfl
theorem lk59 : cF Try.prog no Try.f59 = some F366 := by kernel_rfl
theorem lk60 : cF Try.prog no Try.f60 = some F158 := by kernel_rfl
theorem lk61 : cF Try.prog no Try.f61 = some F367 := by kernel_rfl
theorem lk62 : cF Try.prog no Try.f62 = some F127 := by kernel_rfl
theorem lk79 : cF Try.prog no Try.f79 = some F240 := by kernel_rfl
theorem lk84 : cF Try.prog no Try.f84 = some F154 := by kernel_rfl
theorem lk85 : cF Try.prog no Try.f85 = some F170 := by kernel_rfl
theorem lk86 : cF Try.prog no Try.f86 = some F139 := by kernel_rfl
theorem lk89 : cF Try.prog no Try.f89 = some F148 := by kernel_rfl
theorem lk90 : cF Try.prog no Try.f90 = some F163 := by kernel_rfl
theorem lk91 : cF Try.prog no Try.f91 = some F132 := by kernel_rfl
theorem lk95 : cF Try.prog no Try.f95 = some F161 := by kernel_rfl
theorem lk98 : cF Try.prog no Try.f98 = some F129 := by kernel_rfl
theorem lk99 : cF Try.prog no Try.f99 = some F130 := by kernel_rfl
theorem lk103 : cF Try.prog no Try.f103 = some F149 := by kernel_rfl
theorem lk105 : cF Try.prog no Try.f105 = some F165 := by kernel_rfl
theorem lk107 : cF Try.prog no Try.f107 = some F134 := by kernel_rfl
theorem lk113 : cF Try.prog no Try.f113 = some F152 := by kernel_rfl
theorem lk114 : cF Try.prog no Try.f114 = some F143 := by kernel_rfl
theorem lk115 : cF Try.prog no Try.f115 = some F150 := by kernel_rfl
theorem lk116 : cF Try.prog no Try.f116 = some F382 := by kernel_rfl
theorem lk117 : cF Try.prog no Try.f117 = some F383 := by kernel_rfl
theorem lk118 : cF Try.prog no Try.f118 = some F225 := by kernel_rfl
theorem lk119 : cF Try.prog no Try.f119 = some F168 := by kernel_rfl
theorem lk120 : cF Try.prog no Try.f120 = some F171 := by kernel_rfl
theorem lk121 : cF Try.prog no Try.f121 = some F157 := by kernel_rfl
theorem lk122 : cF Try.prog no Try.f122 = some F155 := by kernel_rfl
theorem lk123 : cF Try.prog no Try.f123 = some F166 := by kernel_rfl
theorem lk124 : cF Try.prog no Try.f124 = some F384 := by kernel_rfl
theorem lk125 : cF Try.prog no Try.f125 = some F385 := by kernel_rfl
theorem lk126 : cF Try.prog no Try.f126 = some F70 := by kernel_rfl
theorem lk127 : cF Try.prog no Try.f127 = some F386 := by kernel_rfl
theorem lk128 : cF Try.prog no Try.f128 = some F264 := by kernel_rfl
theorem lk129 : cF Try.prog no Try.f129 = some F387 := by kernel_rfl
theorem lk130 : cF Try.prog no Try.f130 = some F265 := by kernel_rfl
theorem lk131 : cF Try.prog no Try.f131 = some F137 := by kernel_rfl
theorem lk132 : cF Try.prog no Try.f132 = some F140 := by kernel_rfl
theorem lk133 : cF Try.prog no Try.f133 = some F126 := by kernel_rfl
theorem lk134 : cF Try.prog no Try.f134 = some F124 := by kernel_rfl
theorem lk181 : cF Try.prog no Try.f181 = some F164 := by kernel_rfl
theorem lk186 : cF Try.prog no Try.f186 = some F133 := by kernel_rfl
theorem lk190 : cF Try.prog no Try.f190 = some F146 := by kernel_rfl
theorem lk191 : cF Try.prog no Try.f191 = some F401 := by kernel_rfl
theorem lk192 : cF Try.prog no Try.f192 = some F156 := by kernel_rfl
theorem lk193 : cF Try.prog no Try.f193 = some F160 := by kernel_rfl
theorem lk194 : cF Try.prog no Try.f194 = some F402 := by kernel_rfl
theorem lk195 : cF Try.prog no Try.f195 = some F263 := by kernel_rfl
theorem lk196 : cF Try.prog no Try.f196 = some F71 := by kernel_rfl
theorem lk197 : cF Try.prog no Try.f197 = some F403 := by kernel_rfl
theorem lk198 : cF Try.prog no Try.f198 = some F125 := by kernel_rfl

theorem look_mem {α : Type} : ∀ {S : List (Nat × α)} {t : Nat} {v : α}, S.lookup t = some v → (t, v) ∈ S
  | [], t, v, h => by simp at h
  | (a, b) :: S, t, v, h => by
    simp only [List.lookup] at h
    split at h
    · rename_i e; simp at e; subst e; cases h; exact .head _
    · exact .tail _ (look_mem h)

theorem lks : ∀ p ∈ noT, ∃ pf fn, Try.prog.funcs[p.1]? = some pf ∧ cF Try.prog no pf = some fn ∧ prg p.2 = some fn := by
  simp only [noT, List.forall_mem_cons]
  exact ⟨⟨_, _, Try.func12, lk12, g350⟩,
    ⟨_, _, Try.func18, lk18, g210⟩,
    ⟨_, _, Try.func19, lk19, g211⟩,
    ⟨_, _, Try.func29, lk29, g151⟩,
    ⟨_, _, Try.func31, lk31, g167⟩,
    ⟨_, _, Try.func32, lk32, g136⟩,
    ⟨_, _, Try.func35, lk35, g153⟩,
    ⟨_, _, Try.func36, lk36, g169⟩,
    ⟨_, _, Try.func37, lk37, g138⟩,
    ⟨_, _, Try.func39, lk39, g147⟩,
    ⟨_, _, Try.func41, lk41, g162⟩,
    ⟨_, _, Try.func43, lk43, g135⟩,
    ⟨_, _, Try.func44, lk44, g131⟩,
    ⟨_, _, Try.func48, lk48, g145⟩,
    ⟨_, _, Try.func50, lk50, g159⟩,
    ⟨_, _, Try.func52, lk52, g128⟩,
    ⟨_, _, Try.func58, lk58, g144⟩,
    ⟨_, _, Try.func59, lk59, g366⟩,
    ⟨_, _, Try.func60, lk60, g158⟩,
    ⟨_, _, Try.func61, lk61, g367⟩,
    ⟨_, _, Try.func62, lk62, g127⟩,
    ⟨_, _, Try.func79, lk79, g240⟩,
    ⟨_, _, Try.func84, lk84, g154⟩,
    ⟨_, _, Try.func85, lk85, g170⟩,
    ⟨_, _, Try.func86, lk86, g139⟩,
    ⟨_, _, Try.func89, lk89, g148⟩,
    ⟨_, _, Try.func90, lk90, g163⟩,
    ⟨_, _, Try.func91, lk91, g132⟩,
    ⟨_, _, Try.func95, lk95, g161⟩,
    ⟨_, _, Try.func98, lk98, g129⟩,
    ⟨_, _, Try.func99, lk99, g130⟩,
    ⟨_, _, Try.func103, lk103, g149⟩,
    ⟨_, _, Try.func105, lk105, g165⟩,
    ⟨_, _, Try.func107, lk107, g134⟩,
    ⟨_, _, Try.func113, lk113, g152⟩,
    ⟨_, _, Try.func114, lk114, g143⟩,
    ⟨_, _, Try.func115, lk115, g150⟩,
    ⟨_, _, Try.func116, lk116, g382⟩,
    ⟨_, _, Try.func117, lk117, g383⟩,
    ⟨_, _, Try.func118, lk118, g225⟩,
    ⟨_, _, Try.func119, lk119, g168⟩,
    ⟨_, _, Try.func120, lk120, g171⟩,
    ⟨_, _, Try.func121, lk121, g157⟩,
    ⟨_, _, Try.func122, lk122, g155⟩,
    ⟨_, _, Try.func123, lk123, g166⟩,
    ⟨_, _, Try.func124, lk124, g384⟩,
    ⟨_, _, Try.func125, lk125, g385⟩,
    ⟨_, _, Try.func126, lk126, g70⟩,
    ⟨_, _, Try.func127, lk127, g386⟩,
    ⟨_, _, Try.func128, lk128, g264⟩,
    ⟨_, _, Try.func129, lk129, g387⟩,
    ⟨_, _, Try.func130, lk130, g265⟩,
    ⟨_, _, Try.func131, lk131, g137⟩,
    ⟨_, _, Try.func132, lk132, g140⟩,
    ⟨_, _, Try.func133, lk133, g126⟩,
    ⟨_, _, Try.func134, lk134, g124⟩,
    ⟨_, _, Try.func181, lk181, g164⟩,
    ⟨_, _, Try.func186, lk186, g133⟩,
    ⟨_, _, Try.func190, lk190, g146⟩,
    ⟨_, _, Try.func191, lk191, g401⟩,
    ⟨_, _, Try.func192, lk192, g156⟩,
    ⟨_, _, Try.func193, lk193, g160⟩,
    ⟨_, _, Try.func194, lk194, g402⟩,
    ⟨_, _, Try.func195, lk195, g263⟩,
    ⟨_, _, Try.func196, lk196, g71⟩,
    ⟨_, _, Try.func197, lk197, g403⟩,
    ⟨_, _, Try.func198, lk198, g125⟩, by simp⟩

theorem link : Link Try.prog no prg := by
  intro g fn hg
  refine ⟨List.all_eq_true.1 prg_ok (g, fn) (look_mem hg), fun f hf => ?_⟩
  obtain ⟨pf, fn', h1, h2, h3⟩ := lks (f, g) (look_mem hf)
  have h3 : prg g = some fn' := h3
  rw [hg] at h3
  cases h3
  exact ⟨pf, h1, h2⟩

theorem mixed : Try.prog.follows .mixedOrders = true := by kernel_rfl

end Go.Proofs.Ytdialnejieoelaa.AL
