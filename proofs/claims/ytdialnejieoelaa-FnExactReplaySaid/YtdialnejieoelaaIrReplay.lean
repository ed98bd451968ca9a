/- The table of the functions in the small language, printed by program. -/
import Derived.Test.YtdialnejieoelaaAlW
import Derived.Test.YtdialnejieoelaaIrReplay0
import Derived.KernelRfl
namespace Go.Proofs.Ytdialnejieoelaa.AL
open Go
def prgT : List (Nat × Fnc) := [(21, F21),
 (33, F33),
 (39, F39),
 (40, F40),
 (41, F41),
 (47, F47),
 (51, F51),
 (52, F52),
 (53, F53),
 (62, F62),
 (73, F73),
 (86, F86),
 (87, F87),
 (92, F92),
 (97, F97),
 (98, F98),
 (103, F103),
 (129, F129),
 (130, F130),
 (131, F131),
 (132, F132),
 (135, F135),
 (142, F142),
 (147, F147),
 (161, F161),
 (162, F162),
 (172, F172),
 (183, F183),
 (188, F188),
 (189, F189),
 (201, F201),
 (202, F202),
 (203, F203),
 (230, F230),
 (238, F238),
 (250, F250),
 (253, F253),
 (257, F257),
 (266, F266),
 (337, F337),
 (347, F347),
 (360, F360),
 (361, F361),
 (362, F362),
 (363, F363),
 (377, F377),
 (378, F378),
 (379, F379),
 (380, F380),
 (381, F381),
 (395, F395),
 (396, F396),
 (397, F397),
 (398, F398),
 (399, F399),
 (400, F400),
 (405, F405),
 (406, F406)]
def prg : Prg := fun f => prgT.lookup f
theorem g21 : prg 21 = some F21 := by kernel_rfl
theorem g33 : prg 33 = some F33 := by kernel_rfl
theorem g39 : prg 39 = some F39 := by kernel_rfl
theorem g40 : prg 40 = some F40 := by kernel_rfl
theorem g41 : prg 41 = some F41 := by kernel_rfl
theorem g47 : prg 47 = some F47 := by kernel_rfl
theorem g51 : prg 51 = some F51 := by kernel_rfl
theorem g52 : prg 52 = some F52 := by kernel_rfl
theorem g53 : prg 53 = some F53 := by kernel_rfl
theorem g62 : prg 62 = some F62 := by kernel_rfl
theorem g73 : prg 73 = some F73 := by kernel_rfl
theorem g86 : prg 86 = some F86 := by kernel_rfl
theorem g87 : prg 87 = some F87 := by kernel_rfl
theorem g92 : prg 92 = some F92 := by kernel_rfl
theorem g97 : prg 97 = some F97 := by kernel_rfl
theorem g98 : prg 98 = some F98 := by kernel_rfl
theorem g103 : prg 103 = some F103 := by kernel_rfl
theorem g129 : prg 129 = some F129 := by kernel_rfl
theorem g130 : prg 130 = some F130 := by kernel_rfl
theorem g131 : prg 131 = some F131 := by kernel_rfl
theorem g132 : prg 132 = some F132 := by kernel_rfl
theorem g135 : prg 135 = some F135 := by kernel_rfl
theorem g142 : prg 142 = some F142 := by kernel_rfl
theorem g147 : prg 147 = some F147 := by kernel_rfl
theorem g161 : prg 161 = some F161 := by kernel_rfl
theorem g162 : prg 162 = some F162 := by kernel_rfl
theorem g172 : prg 172 = some F172 := by kernel_rfl
theorem g183 : prg 183 = some F183 := by kernel_rfl
theorem g188 : prg 188 = some F188 := by kernel_rfl
theorem g189 : prg 189 = some F189 := by kernel_rfl
theorem g201 : prg 201 = some F201 := by kernel_rfl
theorem g202 : prg 202 = some F202 := by kernel_rfl
theorem g203 : prg 203 = some F203 := by kernel_rfl
theorem g230 : prg 230 = some F230 := by kernel_rfl
theorem g238 : prg 238 = some F238 := by kernel_rfl
theorem g250 : prg 250 = some F250 := by kernel_rfl
theorem g253 : prg 253 = some F253 := by kernel_rfl
theorem g257 : prg 257 = some F257 := by kernel_rfl
theorem g266 : prg 266 = some F266 := by kernel_rfl
theorem g337 : prg 337 = some F337 := by kernel_rfl
theorem g347 : prg 347 = some F347 := by kernel_rfl
theorem g360 : prg 360 = some F360 := by kernel_rfl
theorem g361 : prg 361 = some F361 := by kernel_rfl
theorem g362 : prg 362 = some F362 := by kernel_rfl
theorem g363 : prg 363 = some F363 := by kernel_rfl
theorem g377 : prg 377 = some F377 := by kernel_rfl
theorem g378 : prg 378 = some F378 := by kernel_rfl
theorem g379 : prg 379 = some F379 := by kernel_rfl
theorem g380 : prg 380 = some F380 := by kernel_rfl
theorem g381 : prg 381 = some F381 := by kernel_rfl
theorem g395 : prg 395 = some F395 := by kernel_rfl
theorem g396 : prg 396 = some F396 := by kernel_rfl
theorem g397 : prg 397 = some F397 := by kernel_rfl
theorem g398 : prg 398 = some F398 := by kernel_rfl
theorem g399 : prg 399 = some F399 := by kernel_rfl
theorem g400 : prg 400 = some F400 := by kernel_rfl
theorem g405 : prg 405 = some F405 := by kernel_rfl
theorem g406 : prg 406 = some F406 := by kernel_rfl
theorem prg_ok : prgT.all (fun p => p.2.body.ok) = true := by kernel_rfl
end Go.Proofs.Ytdialnejieoelaa.AL
