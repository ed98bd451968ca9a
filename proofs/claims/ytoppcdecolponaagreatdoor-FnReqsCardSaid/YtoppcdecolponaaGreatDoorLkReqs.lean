/- Each function of this seat is what its form in the small language says. Printed by program. -/
import Derived.Test.YtoppcdecolponaaGreatDoorProg
import Derived.Test.YtoppcdecolponaaGreatDoorAlS10
import Derived.Test.YtoppcdecolponaaGreatDoorKl
import Derived.Test.YtoppcdecolponaaGreatDoorIrReqs
import Derived.Test.YtoppcdecolponaaGreatDoorNaReqs
import Derived.KernelRfl
namespace Go.Proofs.YtoppcdecolponaaGreatDoor.AL
open Go
def noT : List (Nat × Nat) := [(4, 452), (5, 453), (6, 454), (10, 123), (11, 456), (12, 457), (13, 458), (14, 207), (15, 66), (16, 211), (17, 71), (18, 459), (19, 460), (20, 461), (21, 462), (22, 463), (23, 464), (24, 465), (25, 466), (26, 408), (27, 467), (31, 239), (32, 231), (33, 468), (34, 38), (35, 407), (36, 84), (37, 241), (38, 228), (39, 235), (40, 469), (41, 180), (42, 230), (43, 201), (44, 173), (45, 22), (46, 30), (47, 257), (48, 67), (49, 92), (50, 240), (51, 264), (52, 187), (53, 470), (56, 234), (57, 237), (58, 272), (62, 233), (63, 183), (64, 229), (65, 236), (66, 179), (67, 103), (68, 29), (69, 266), (70, 51), (71, 471), (72, 472), (73, 473), (80, 205), (81, 60), (82, 33), (96, 172), (97, 21)]
def noF (f : Nat) : Option Nat := noT.lookup f
theorem lk4 : cF Tryz.prog noF Tryz.f4 = some F452 := by kernel_rfl
theorem lk5 : cF Tryz.prog noF Tryz.f5 = some F453 := by kernel_rfl
theorem lk6 : cF Tryz.prog noF Tryz.f6 = some F454 := by kernel_rfl
theorem lk10 : cF Tryz.prog noF Tryz.f10 = some F123 := by kernel_rfl
theorem lk11 : cF Tryz.prog noF Tryz.f11 = some F456 := by kernel_rfl
theorem lk12 : cF Tryz.prog noF Tryz.f12 = some F457 := by kernel_rfl
theorem lk13 : cF Tryz.prog noF Tryz.f13 = some F458 := by kernel_rfl
theorem lk14 : cF Tryz.prog noF Tryz.f14 = some F207 := by kernel_rfl
theorem lk15 : cF Tryz.prog noF Tryz.f15 = some F66 := by kernel_rfl
theorem lk16 : cF Tryz.prog noF Tryz.f16 = some F211 := by kernel_rfl
theorem lk17 : cF Tryz.prog noF Tryz.f17 = some F71 := by kernel_rfl
theorem lk18 : cF Tryz.prog noF Tryz.f18 = some F459 := by kernel_rfl
theorem lk19 : cF Tryz.prog noF Tryz.f19 = some F460 := by kernel_rfl
theorem lk20 : cF Tryz.prog noF Tryz.f20 = some F461 := by kernel_rfl
theorem lk21 : cF Tryz.prog noF Tryz.f21 = some F462 := by kernel_rfl
theorem lk22 : cF Tryz.prog noF Tryz.f22 = some F463 := by kernel_rfl
theorem lk23 : cF Tryz.prog noF Tryz.f23 = some F464 := by kernel_rfl
theorem lk24 : cF Tryz.prog noF Tryz.f24 = some F465 := by kernel_rfl
theorem lk25 : cF Tryz.prog noF Tryz.f25 = some F466 := by kernel_rfl
theorem lk27 : cF Tryz.prog noF Tryz.f27 = some F467 := by kernel_rfl
theorem lk31 : cF Tryz.prog noF Tryz.f31 = some F239 := by kernel_rfl
theorem lk32 : cF Tryz.prog noF Tryz.f32 = some F231 := by kernel_rfl
theorem lk33 : cF Tryz.prog noF Tryz.f33 = some F468 := by kernel_rfl
theorem lk34 : cF Tryz.prog noF Tryz.f34 = some F38 := by kernel_rfl
theorem lk36 : cF Tryz.prog noF Tryz.f36 = some F84 := by kernel_rfl
theorem lk37 : cF Tryz.prog noF Tryz.f37 = some F241 := by kernel_rfl
theorem lk38 : cF Tryz.prog noF Tryz.f38 = some F228 := by kernel_rfl
theorem lk39 : cF Tryz.prog noF Tryz.f39 = some F235 := by kernel_rfl
theorem lk40 : cF Tryz.prog noF Tryz.f40 = some F469 := by kernel_rfl
theorem lk41 : cF Tryz.prog noF Tryz.f41 = some F180 := by kernel_rfl
theorem lk42 : cF Tryz.prog noF Tryz.f42 = some F230 := by kernel_rfl
theorem lk43 : cF Tryz.prog noF Tryz.f43 = some F201 := by kernel_rfl
theorem lk44 : cF Tryz.prog noF Tryz.f44 = some F173 := by kernel_rfl
theorem lk45 : cF Tryz.prog noF Tryz.f45 = some F22 := by kernel_rfl
theorem lk46 : cF Tryz.prog noF Tryz.f46 = some F30 := by kernel_rfl
theorem lk47 : cF Tryz.prog noF Tryz.f47 = some F257 := by kernel_rfl
theorem lk48 : cF Tryz.prog noF Tryz.f48 = some F67 := by kernel_rfl
theorem lk49 : cF Tryz.prog noF Tryz.f49 = some F92 := by kernel_rfl
theorem lk50 : cF Tryz.prog noF Tryz.f50 = some F240 := by kernel_rfl
theorem lk51 : cF Tryz.prog noF Tryz.f51 = some F264 := by kernel_rfl
theorem lk52 : cF Tryz.prog noF Tryz.f52 = some F187 := by kernel_rfl
theorem lk53 : cF Tryz.prog noF Tryz.f53 = some F470 := by kernel_rfl
theorem lk56 : cF Tryz.prog noF Tryz.f56 = some F234 := by kernel_rfl
theorem lk57 : cF Tryz.prog noF Tryz.f57 = some F237 := by kernel_rfl
theorem lk62 : cF Tryz.prog noF Tryz.f62 = some F233 := by kernel_rfl
theorem lk63 : cF Tryz.prog noF Tryz.f63 = some F183 := by kernel_rfl
theorem lk64 : cF Tryz.prog noF Tryz.f64 = some F229 := by kernel_rfl
theorem lk65 : cF Tryz.prog noF Tryz.f65 = some F236 := by kernel_rfl
theorem lk66 : cF Tryz.prog noF Tryz.f66 = some F179 := by kernel_rfl
theorem lk67 : cF Tryz.prog noF Tryz.f67 = some F103 := by kernel_rfl
theorem lk68 : cF Tryz.prog noF Tryz.f68 = some F29 := by kernel_rfl
theorem lk69 : cF Tryz.prog noF Tryz.f69 = some F266 := by kernel_rfl
theorem lk70 : cF Tryz.prog noF Tryz.f70 = some F51 := by kernel_rfl
theorem lk80 : cF Tryz.prog noF Tryz.f80 = some F205 := by kernel_rfl
theorem lk81 : cF Tryz.prog noF Tryz.f81 = some F60 := by kernel_rfl
theorem lk82 : cF Tryz.prog noF Tryz.f82 = some F33 := by kernel_rfl
theorem lk96 : cF Tryz.prog noF Tryz.f96 = some F172 := by kernel_rfl
theorem lk97 : cF Tryz.prog noF Tryz.f97 = some F21 := by kernel_rfl
theorem lks : ∀ p ∈ noT, prg p.2 = none ∨ ∃ pf fn, Tryz.prog.funcs[p.1]? = some pf ∧ cF Tryz.prog noF pf = some fn ∧ prg p.2 = some fn := by
 simp only [noT, List.forall_mem_cons]
 exact ⟨Or.inr ⟨_, _, Tryz.func4, lk4, g452⟩,
  Or.inr ⟨_, _, Tryz.func5, lk5, g453⟩,
  Or.inr ⟨_, _, Tryz.func6, lk6, g454⟩,
  Or.inr ⟨_, _, Tryz.func10, lk10, g123⟩,
  Or.inr ⟨_, _, Tryz.func11, lk11, g456⟩,
  Or.inr ⟨_, _, Tryz.func12, lk12, g457⟩,
  Or.inr ⟨_, _, Tryz.func13, lk13, g458⟩,
  Or.inr ⟨_, _, Tryz.func14, lk14, g207⟩,
  Or.inr ⟨_, _, Tryz.func15, lk15, g66⟩,
  Or.inr ⟨_, _, Tryz.func16, lk16, g211⟩,
  Or.inr ⟨_, _, Tryz.func17, lk17, g71⟩,
  Or.inr ⟨_, _, Tryz.func18, lk18, g459⟩,
  Or.inr ⟨_, _, Tryz.func19, lk19, g460⟩,
  Or.inr ⟨_, _, Tryz.func20, lk20, g461⟩,
  Or.inr ⟨_, _, Tryz.func21, lk21, g462⟩,
  Or.inr ⟨_, _, Tryz.func22, lk22, g463⟩,
  Or.inr ⟨_, _, Tryz.func23, lk23, g464⟩,
  Or.inr ⟨_, _, Tryz.func24, lk24, g465⟩,
  Or.inr ⟨_, _, Tryz.func25, lk25, g466⟩,
  Or.inl (by kernel_rfl),
  Or.inr ⟨_, _, Tryz.func27, lk27, g467⟩,
  Or.inr ⟨_, _, Tryz.func31, lk31, g239⟩,
  Or.inr ⟨_, _, Tryz.func32, lk32, g231⟩,
  Or.inr ⟨_, _, Tryz.func33, lk33, g468⟩,
  Or.inr ⟨_, _, Tryz.func34, lk34, g38⟩,
  Or.inl (by kernel_rfl),
  Or.inr ⟨_, _, Tryz.func36, lk36, g84⟩,
  Or.inr ⟨_, _, Tryz.func37, lk37, g241⟩,
  Or.inr ⟨_, _, Tryz.func38, lk38, g228⟩,
  Or.inr ⟨_, _, Tryz.func39, lk39, g235⟩,
  Or.inr ⟨_, _, Tryz.func40, lk40, g469⟩,
  Or.inr ⟨_, _, Tryz.func41, lk41, g180⟩,
  Or.inr ⟨_, _, Tryz.func42, lk42, g230⟩,
  Or.inr ⟨_, _, Tryz.func43, lk43, g201⟩,
  Or.inr ⟨_, _, Tryz.func44, lk44, g173⟩,
  Or.inr ⟨_, _, Tryz.func45, lk45, g22⟩,
  Or.inr ⟨_, _, Tryz.func46, lk46, g30⟩,
  Or.inr ⟨_, _, Tryz.func47, lk47, g257⟩,
  Or.inr ⟨_, _, Tryz.func48, lk48, g67⟩,
  Or.inr ⟨_, _, Tryz.func49, lk49, g92⟩,
  Or.inr ⟨_, _, Tryz.func50, lk50, g240⟩,
  Or.inr ⟨_, _, Tryz.func51, lk51, g264⟩,
  Or.inr ⟨_, _, Tryz.func52, lk52, g187⟩,
  Or.inr ⟨_, _, Tryz.func53, lk53, g470⟩,
  Or.inr ⟨_, _, Tryz.func56, lk56, g234⟩,
  Or.inr ⟨_, _, Tryz.func57, lk57, g237⟩,
  Or.inl (by kernel_rfl),
  Or.inr ⟨_, _, Tryz.func62, lk62, g233⟩,
  Or.inr ⟨_, _, Tryz.func63, lk63, g183⟩,
  Or.inr ⟨_, _, Tryz.func64, lk64, g229⟩,
  Or.inr ⟨_, _, Tryz.func65, lk65, g236⟩,
  Or.inr ⟨_, _, Tryz.func66, lk66, g179⟩,
  Or.inr ⟨_, _, Tryz.func67, lk67, g103⟩,
  Or.inr ⟨_, _, Tryz.func68, lk68, g29⟩,
  Or.inr ⟨_, _, Tryz.func69, lk69, g266⟩,
  Or.inr ⟨_, _, Tryz.func70, lk70, g51⟩,
  Or.inl (by kernel_rfl),
  Or.inl (by kernel_rfl),
  Or.inl (by kernel_rfl),
  Or.inr ⟨_, _, Tryz.func80, lk80, g205⟩,
  Or.inr ⟨_, _, Tryz.func81, lk81, g60⟩,
  Or.inr ⟨_, _, Tryz.func82, lk82, g33⟩,
  Or.inr ⟨_, _, Tryz.func96, lk96, g172⟩,
  Or.inr ⟨_, _, Tryz.func97, lk97, g21⟩, by simp⟩
abbrev noW (W : World) : No := ⟨noF, W.heap.size, W⟩
theorem nats_of (W : World) (hv : Vars W) : ∀ g args v, nat g args = some v → ∀ f, noF f = some g → NatSim Tryz.prog (noW W) f args v := by
 intro g args v hn f hf
 have hm := look_mem hf
 rcases nat_cases hn with ⟨rfl, s, d, rfl, hs, rfl⟩ | ⟨rfl, n, rfl, hb, rfl⟩ | ⟨rfl, s, c, rfl, rfl⟩ | ⟨rfl, s, c, rfl, rfl⟩ | ⟨rfl, s, c, rfl, rfl⟩
 · obtain rfl := one_num (k := 26) (by kernel_rfl) hm
   exact ⟨en408, fun w hk => w_number s d hs w (hv.on hk.2)⟩
 · obtain rfl := one_num (k := 58) (by kernel_rfl) hm
   exact ⟨en272, fun w hk => w_itoa n hb w (hv.on hk.2)⟩
 · exact (no_num (by kernel_rfl) hm).elim
 · obtain rfl := one_num (k := 73) (by kernel_rfl) hm
   exact ⟨en473, fun w hk => (Tryz.strings_Index_one s c w).mono fun e w' ⟨h1, h2⟩ => ⟨h1, by rw [h2]; exact Go.RowKit.Below.refl _ _⟩⟩
 · obtain rfl := one_num (k := 72) (by kernel_rfl) hm
   exact ⟨en472, fun w hk => (Tryz.strings_Count_one s c w).mono fun e w' ⟨h1, h2⟩ => ⟨h1, by rw [h2]; exact Go.RowKit.Below.refl _ _⟩⟩
theorem link (W : World) (hv : Vars W) : Link Tryz.prog (noW W) prg := by
 refine ⟨fun g fn hg => ⟨List.all_eq_true.1 prg_ok (g, fn) (look_mem hg), fun f hf => ?_⟩, nats_of W hv, fun f hf => ?_⟩
 · rcases lks (f, g) (look_mem hf) with h0 | ⟨pf, fn', h1, h2, h3⟩
   · have h0 : prg g = none := h0
     rw [hg] at h0; cases h0
   · have h3 : prg g = some fn' := h3
     rw [hg] at h3
     cases h3
     exact ⟨pf, h1, h2⟩
 · have hm := look_mem hf
   obtain rfl := one_num (k := 35) (by kernel_rfl) hm
   exact ⟨en407, fun w hk bk o c xs s hc hb hn hcap hl => Tryz.strings_Join bk o c xs s w hc hb hn hcap hl⟩
theorem mixed : Tryz.prog.follows .mixedOrders = true := by kernel_rfl
end Go.Proofs.YtoppcdecolponaaGreatDoor.AL
