/- Each function of this seat is what its form in the small language says. Printed by program. -/
import Derived.Test.YtdialnejieoelaaProg
import Derived.Test.YtdialnejieoelaaAlS9
import Derived.Test.YtdialnejieoelaaIrBusNew
import Derived.KernelRfl
namespace Go.Proofs.Ytdialnejieoelaa.AL
open Go
def noT : List (Nat × Nat) := [(13, 351), (32, 136), (37, 138), (43, 135), (44, 131), (45, 142), (46, 362), (47, 363), (48, 145), (50, 159), (52, 128), (62, 127), (63, 181), (64, 368), (65, 369), (66, 370), (67, 371), (82, 103), (86, 139), (87, 375), (88, 376), (91, 132), (92, 337), (93, 202), (96, 378), (98, 129), (99, 130), (100, 379), (101, 380), (102, 381), (103, 149), (104, 184), (105, 165), (106, 34), (107, 134), (109, 230), (131, 137), (132, 140), (133, 126), (134, 124), (135, 244), (136, 175), (137, 96), (138, 25), (139, 388), (140, 389), (141, 390), (142, 391), (143, 392), (144, 393), (145, 141), (163, 188), (171, 400), (179, 214), (180, 245), (181, 164), (182, 74), (183, 258), (184, 35), (185, 50), (186, 133), (198, 125), (199, 256), (200, 404), (216, 186), (217, 37), (218, 269), (219, 101)]
def no (f : Nat) : Option Nat := noT.lookup f
theorem lk13 : cF Try.prog no Try.f13 = some F351 := by kernel_rfl
theorem lk32 : cF Try.prog no Try.f32 = some F136 := by kernel_rfl
theorem lk37 : cF Try.prog no Try.f37 = some F138 := by kernel_rfl
theorem lk43 : cF Try.prog no Try.f43 = some F135 := by kernel_rfl
theorem lk44 : cF Try.prog no Try.f44 = some F131 := by kernel_rfl
theorem lk45 : cF Try.prog no Try.f45 = some F142 := by kernel_rfl
theorem lk46 : cF Try.prog no Try.f46 = some F362 := by kernel_rfl
theorem lk47 : cF Try.prog no Try.f47 = some F363 := by kernel_rfl
theorem lk48 : cF Try.prog no Try.f48 = some F145 := by kernel_rfl
theorem lk50 : cF Try.prog no Try.f50 = some F159 := by kernel_rfl
theorem lk52 : cF Try.prog no Try.f52 = some F128 := by kernel_rfl
theorem lk62 : cF Try.prog no Try.f62 = some F127 := by kernel_rfl
theorem lk63 : cF Try.prog no Try.f63 = some F181 := by kernel_rfl
theorem lk64 : cF Try.prog no Try.f64 = some F368 := by kernel_rfl
theorem lk65 : cF Try.prog no Try.f65 = some F369 := by kernel_rfl
theorem lk66 : cF Try.prog no Try.f66 = some F370 := by kernel_rfl
theorem lk67 : cF Try.prog no Try.f67 = some F371 := by kernel_rfl
theorem lk82 : cF Try.prog no Try.f82 = some F103 := by kernel_rfl
theorem lk86 : cF Try.prog no Try.f86 = some F139 := by kernel_rfl
theorem lk87 : cF Try.prog no Try.f87 = some F375 := by kernel_rfl
theorem lk88 : cF Try.prog no Try.f88 = some F376 := by kernel_rfl
theorem lk91 : cF Try.prog no Try.f91 = some F132 := by kernel_rfl
theorem lk92 : cF Try.prog no Try.f92 = some F337 := by kernel_rfl
theorem lk93 : cF Try.prog no Try.f93 = some F202 := by kernel_rfl
theorem lk96 : cF Try.prog no Try.f96 = some F378 := by kernel_rfl
theorem lk98 : cF Try.prog no Try.f98 = some F129 := by kernel_rfl
theorem lk99 : cF Try.prog no Try.f99 = some F130 := by kernel_rfl
theorem lk100 : cF Try.prog no Try.f100 = some F379 := by kernel_rfl
theorem lk101 : cF Try.prog no Try.f101 = some F380 := by kernel_rfl
theorem lk102 : cF Try.prog no Try.f102 = some F381 := by kernel_rfl
theorem lk103 : cF Try.prog no Try.f103 = some F149 := by kernel_rfl
theorem lk104 : cF Try.prog no Try.f104 = some F184 := by kernel_rfl
theorem lk105 : cF Try.prog no Try.f105 = some F165 := by kernel_rfl
theorem lk106 : cF Try.prog no Try.f106 = some F34 := by kernel_rfl
theorem lk107 : cF Try.prog no Try.f107 = some F134 := by kernel_rfl
theorem lk109 : cF Try.prog no Try.f109 = some F230 := by kernel_rfl
theorem lk131 : cF Try.prog no Try.f131 = some F137 := by kernel_rfl
theorem lk132 : cF Try.prog no Try.f132 = some F140 := by kernel_rfl
theorem lk133 : cF Try.prog no Try.f133 = some F126 := by kernel_rfl
theorem lk134 : cF Try.prog no Try.f134 = some F124 := by kernel_rfl
theorem lk135 : cF Try.prog no Try.f135 = some F244 := by kernel_rfl
theorem lk136 : cF Try.prog no Try.f136 = some F175 := by kernel_rfl
theorem lk137 : cF Try.prog no Try.f137 = some F96 := by kernel_rfl
theorem lk138 : cF Try.prog no Try.f138 = some F25 := by kernel_rfl
theorem lk139 : cF Try.prog no Try.f139 = some F388 := by kernel_rfl
theorem lk140 : cF Try.prog no Try.f140 = some F389 := by kernel_rfl
theorem lk141 : cF Try.prog no Try.f141 = some F390 := by kernel_rfl
theorem lk142 : cF Try.prog no Try.f142 = some F391 := by kernel_rfl
theorem lk143 : cF Try.prog no Try.f143 = some F392 := by kernel_rfl
theorem lk144 : cF Try.prog no Try.f144 = some F393 := by kernel_rfl
theorem lk145 : cF Try.prog no Try.f145 = some F141 := by kernel_rfl
theorem lk163 : cF Try.prog no Try.f163 = some F188 := by kernel_rfl
theorem lk171 : cF Try.prog no Try.f171 = some F400 := by kernel_rfl
theorem lk179 : cF Try.prog no Try.f179 = some F214 := by kernel_rfl
theorem lk180 : cF Try.prog no Try.f180 = some F245 := by kernel_rfl
theorem lk181 : cF Try.prog no Try.f181 = some F164 := by kernel_rfl
theorem lk182 : cF Try.prog no Try.f182 = some F74 := by kernel_rfl
theorem lk183 : cF Try.prog no Try.f183 = some F258 := by kernel_rfl
theorem lk184 : cF Try.prog no Try.f184 = some F35 := by kernel_rfl
theorem lk185 : cF Try.prog no Try.f185 = some F50 := by kernel_rfl
theorem lk186 : cF Try.prog no Try.f186 = some F133 := by kernel_rfl
theorem lk198 : cF Try.prog no Try.f198 = some F125 := by kernel_rfl
theorem lk199 : cF Try.prog no Try.f199 = some F256 := by kernel_rfl
theorem lk200 : cF Try.prog no Try.f200 = some F404 := by kernel_rfl
theorem lk216 : cF Try.prog no Try.f216 = some F186 := by kernel_rfl
theorem lk217 : cF Try.prog no Try.f217 = some F37 := by kernel_rfl
theorem lk218 : cF Try.prog no Try.f218 = some F269 := by kernel_rfl
theorem lk219 : cF Try.prog no Try.f219 = some F101 := by kernel_rfl
theorem look_mem {α : Type} : ∀ {S : List (Nat × α)} {t : Nat} {v : α}, S.lookup t = some v → (t, v) ∈ S
 | [], t, v, h => by simp at h
 | (a, b) :: S, t, v, h => by
   simp only [List.lookup] at h
   split at h
   · rename_i e; simp at e; subst e; cases h; exact .head _
   · exact .tail _ (look_mem h)
theorem lks : ∀ p ∈ noT, ∃ pf fn, Try.prog.funcs[p.1]? = some pf ∧ cF Try.prog no pf = some fn ∧ prg p.2 = some fn := by
 simp only [noT, List.forall_mem_cons]
 exact ⟨⟨_, _, Try.func13, lk13, g351⟩,
  ⟨_, _, Try.func32, lk32, g136⟩,
  ⟨_, _, Try.func37, lk37, g138⟩,
  ⟨_, _, Try.func43, lk43, g135⟩,
  ⟨_, _, Try.func44, lk44, g131⟩,
  ⟨_, _, Try.func45, lk45, g142⟩,
  ⟨_, _, Try.func46, lk46, g362⟩,
  ⟨_, _, Try.func47, lk47, g363⟩,
  ⟨_, _, Try.func48, lk48, g145⟩,
  ⟨_, _, Try.func50, lk50, g159⟩,
  ⟨_, _, Try.func52, lk52, g128⟩,
  ⟨_, _, Try.func62, lk62, g127⟩,
  ⟨_, _, Try.func63, lk63, g181⟩,
  ⟨_, _, Try.func64, lk64, g368⟩,
  ⟨_, _, Try.func65, lk65, g369⟩,
  ⟨_, _, Try.func66, lk66, g370⟩,
  ⟨_, _, Try.func67, lk67, g371⟩,
  ⟨_, _, Try.func82, lk82, g103⟩,
  ⟨_, _, Try.func86, lk86, g139⟩,
  ⟨_, _, Try.func87, lk87, g375⟩,
  ⟨_, _, Try.func88, lk88, g376⟩,
  ⟨_, _, Try.func91, lk91, g132⟩,
  ⟨_, _, Try.func92, lk92, g337⟩,
  ⟨_, _, Try.func93, lk93, g202⟩,
  ⟨_, _, Try.func96, lk96, g378⟩,
  ⟨_, _, Try.func98, lk98, g129⟩,
  ⟨_, _, Try.func99, lk99, g130⟩,
  ⟨_, _, Try.func100, lk100, g379⟩,
  ⟨_, _, Try.func101, lk101, g380⟩,
  ⟨_, _, Try.func102, lk102, g381⟩,
  ⟨_, _, Try.func103, lk103, g149⟩,
  ⟨_, _, Try.func104, lk104, g184⟩,
  ⟨_, _, Try.func105, lk105, g165⟩,
  ⟨_, _, Try.func106, lk106, g34⟩,
  ⟨_, _, Try.func107, lk107, g134⟩,
  ⟨_, _, Try.func109, lk109, g230⟩,
  ⟨_, _, Try.func131, lk131, g137⟩,
  ⟨_, _, Try.func132, lk132, g140⟩,
  ⟨_, _, Try.func133, lk133, g126⟩,
  ⟨_, _, Try.func134, lk134, g124⟩,
  ⟨_, _, Try.func135, lk135, g244⟩,
  ⟨_, _, Try.func136, lk136, g175⟩,
  ⟨_, _, Try.func137, lk137, g96⟩,
  ⟨_, _, Try.func138, lk138, g25⟩,
  ⟨_, _, Try.func139, lk139, g388⟩,
  ⟨_, _, Try.func140, lk140, g389⟩,
  ⟨_, _, Try.func141, lk141, g390⟩,
  ⟨_, _, Try.func142, lk142, g391⟩,
  ⟨_, _, Try.func143, lk143, g392⟩,
  ⟨_, _, Try.func144, lk144, g393⟩,
  ⟨_, _, Try.func145, lk145, g141⟩,
  ⟨_, _, Try.func163, lk163, g188⟩,
  ⟨_, _, Try.func171, lk171, g400⟩,
  ⟨_, _, Try.func179, lk179, g214⟩,
  ⟨_, _, Try.func180, lk180, g245⟩,
  ⟨_, _, Try.func181, lk181, g164⟩,
  ⟨_, _, Try.func182, lk182, g74⟩,
  ⟨_, _, Try.func183, lk183, g258⟩,
  ⟨_, _, Try.func184, lk184, g35⟩,
  ⟨_, _, Try.func185, lk185, g50⟩,
  ⟨_, _, Try.func186, lk186, g133⟩,
  ⟨_, _, Try.func198, lk198, g125⟩,
  ⟨_, _, Try.func199, lk199, g256⟩,
  ⟨_, _, Try.func200, lk200, g404⟩,
  ⟨_, _, Try.func216, lk216, g186⟩,
  ⟨_, _, Try.func217, lk217, g37⟩,
  ⟨_, _, Try.func218, lk218, g269⟩,
  ⟨_, _, Try.func219, lk219, g101⟩, by simp⟩
theorem link : Link Try.prog no prg := by
 intro g fn hg
 refine ⟨List.all_eq_true.1 prg_ok (g, fn) (look_mem hg), fun f hf => ?_⟩
 obtain ⟨pf, fn', h1, h2, h3⟩ := lks (f, g) (look_mem hf)
 have h3 : prg g = some fn' := h3
 rw [hg] at h3
 cases h3
 exact ⟨pf, h1, h2⟩
theorem mixed : Try.prog.follows .mixedOrders = true := by kernel_rfl
end Go.Proofs.Ytdialnejieoelaa.AL
