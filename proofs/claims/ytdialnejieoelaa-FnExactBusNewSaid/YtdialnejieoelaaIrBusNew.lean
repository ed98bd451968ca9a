/- The table of the functions in the small language, printed by program. -/
import Derived.Test.YtdialnejieoelaaAlW
import Derived.Test.YtdialnejieoelaaIrBusNew0
import Derived.KernelRfl
namespace Go.Proofs.Ytdialnejieoelaa.AL
open Go
def prgT : List (Nat × Fnc) := [(25, F25),
 (34, F34),
 (35, F35),
 (37, F37),
 (50, F50),
 (74, F74),
 (96, F96),
 (101, F101),
 (103, F103),
 (124, F124),
 (125, F125),
 (126, F126),
 (127, F127),
 (128, F128),
 (129, F129),
 (130, F130),
 (131, F131),
 (132, F132),
 (133, F133),
 (134, F134),
 (135, F135),
 (136, F136),
 (137, F137),
 (138, F138),
 (139, F139),
 (140, F140),
 (141, F141),
 (142, F142),
 (145, F145),
 (149, F149),
 (159, F159),
 (164, F164),
 (165, F165),
 (175, F175),
 (181, F181),
 (184, F184),
 (186, F186),
 (188, F188),
 (202, F202),
 (214, F214),
 (230, F230),
 (244, F244),
 (245, F245),
 (256, F256),
 (258, F258),
 (269, F269),
 (337, F337),
 (351, F351),
 (362, F362),
 (363, F363),
 (368, F368),
 (369, F369),
 (370, F370),
 (371, F371),
 (375, F375),
 (376, F376),
 (378, F378),
 (379, F379),
 (380, F380),
 (381, F381),
 (388, F388),
 (389, F389),
 (390, F390),
 (391, F391),
 (392, F392),
 (393, F393),
 (400, F400),
 (404, F404)]
def prg : Prg := fun f => prgT.lookup f
theorem g25 : prg 25 = some F25 := by kernel_rfl
theorem g34 : prg 34 = some F34 := by kernel_rfl
theorem g35 : prg 35 = some F35 := by kernel_rfl
theorem g37 : prg 37 = some F37 := by kernel_rfl
theorem g50 : prg 50 = some F50 := by kernel_rfl
theorem g74 : prg 74 = some F74 := by kernel_rfl
theorem g96 : prg 96 = some F96 := by kernel_rfl
theorem g101 : prg 101 = some F101 := by kernel_rfl
theorem g103 : prg 103 = some F103 := by kernel_rfl
theorem g124 : prg 124 = some F124 := by kernel_rfl
theorem g125 : prg 125 = some F125 := by kernel_rfl
theorem g126 : prg 126 = some F126 := by kernel_rfl
theorem g127 : prg 127 = some F127 := by kernel_rfl
theorem g128 : prg 128 = some F128 := by kernel_rfl
theorem g129 : prg 129 = some F129 := by kernel_rfl
theorem g130 : prg 130 = some F130 := by kernel_rfl
theorem g131 : prg 131 = some F131 := by kernel_rfl
theorem g132 : prg 132 = some F132 := by kernel_rfl
theorem g133 : prg 133 = some F133 := by kernel_rfl
theorem g134 : prg 134 = some F134 := by kernel_rfl
theorem g135 : prg 135 = some F135 := by kernel_rfl
theorem g136 : prg 136 = some F136 := by kernel_rfl
theorem g137 : prg 137 = some F137 := by kernel_rfl
theorem g138 : prg 138 = some F138 := by kernel_rfl
theorem g139 : prg 139 = some F139 := by kernel_rfl
theorem g140 : prg 140 = some F140 := by kernel_rfl
theorem g141 : prg 141 = some F141 := by kernel_rfl
theorem g142 : prg 142 = some F142 := by kernel_rfl
theorem g145 : prg 145 = some F145 := by kernel_rfl
theorem g149 : prg 149 = some F149 := by kernel_rfl
theorem g159 : prg 159 = some F159 := by kernel_rfl
theorem g164 : prg 164 = some F164 := by kernel_rfl
theorem g165 : prg 165 = some F165 := by kernel_rfl
theorem g175 : prg 175 = some F175 := by kernel_rfl
theorem g181 : prg 181 = some F181 := by kernel_rfl
theorem g184 : prg 184 = some F184 := by kernel_rfl
theorem g186 : prg 186 = some F186 := by kernel_rfl
theorem g188 : prg 188 = some F188 := by kernel_rfl
theorem g202 : prg 202 = some F202 := by kernel_rfl
theorem g214 : prg 214 = some F214 := by kernel_rfl
theorem g230 : prg 230 = some F230 := by kernel_rfl
theorem g244 : prg 244 = some F244 := by kernel_rfl
theorem g245 : prg 245 = some F245 := by kernel_rfl
theorem g256 : prg 256 = some F256 := by kernel_rfl
theorem g258 : prg 258 = some F258 := by kernel_rfl
theorem g269 : prg 269 = some F269 := by kernel_rfl
theorem g337 : prg 337 = some F337 := by kernel_rfl
theorem g351 : prg 351 = some F351 := by kernel_rfl
theorem g362 : prg 362 = some F362 := by kernel_rfl
theorem g363 : prg 363 = some F363 := by kernel_rfl
theorem g368 : prg 368 = some F368 := by kernel_rfl
theorem g369 : prg 369 = some F369 := by kernel_rfl
theorem g370 : prg 370 = some F370 := by kernel_rfl
theorem g371 : prg 371 = some F371 := by kernel_rfl
theorem g375 : prg 375 = some F375 := by kernel_rfl
theorem g376 : prg 376 = some F376 := by kernel_rfl
theorem g378 : prg 378 = some F378 := by kernel_rfl
theorem g379 : prg 379 = some F379 := by kernel_rfl
theorem g380 : prg 380 = some F380 := by kernel_rfl
theorem g381 : prg 381 = some F381 := by kernel_rfl
theorem g388 : prg 388 = some F388 := by kernel_rfl
theorem g389 : prg 389 = some F389 := by kernel_rfl
theorem g390 : prg 390 = some F390 := by kernel_rfl
theorem g391 : prg 391 = some F391 := by kernel_rfl
theorem g392 : prg 392 = some F392 := by kernel_rfl
theorem g393 : prg 393 = some F393 := by kernel_rfl
theorem g400 : prg 400 = some F400 := by kernel_rfl
theorem g404 : prg 404 = some F404 := by kernel_rfl
theorem prg_ok : prgT.all (fun p => p.2.body.ok) = true := by kernel_rfl
end Go.Proofs.Ytdialnejieoelaa.AL
