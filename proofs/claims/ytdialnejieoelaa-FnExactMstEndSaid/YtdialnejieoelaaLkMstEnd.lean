/- Each function of this seat is what its form in the small language says. Printed by program. -/
import Derived.Test.YtdialnejieoelaaProg
import Derived.Test.YtdialnejieoelaaAlS9
import Derived.Test.YtdialnejieoelaaIrMstEnd
import Derived.KernelRfl
namespace Go.Proofs.Ytdialnejieoelaa.AL
open Go
def noT : List (Nat × Nat) := [(8, 346), (23, 56), (24, 356), (29, 151), (31, 167), (32, 136), (33, 358), (34, 359), (35, 153), (36, 169), (37, 138), (71, 99), (72, 88), (73, 66), (74, 100), (75, 373), (76, 221), (77, 207), (78, 374), (80, 18), (81, 220), (82, 103), (83, 29), (84, 154), (85, 170), (86, 139), (87, 375), (88, 376), (89, 148), (90, 163), (91, 132), (92, 337), (101, 380), (109, 230), (151, 260), (152, 89), (153, 22), (154, 30), (155, 257), (156, 67), (157, 92), (158, 253), (159, 180), (160, 201), (161, 173), (162, 60), (166, 172), (174, 21), (203, 183), (204, 271), (205, 266), (206, 51), (207, 179), (208, 33), (220, 205)]
def no (f : Nat) : Option Nat := noT.lookup f
theorem lk8 : cF Try.prog no Try.f8 = some F346 := by kernel_rfl
theorem lk23 : cF Try.prog no Try.f23 = some F56 := by kernel_rfl
theorem lk24 : cF Try.prog no Try.f24 = some F356 := by kernel_rfl
theorem lk29 : cF Try.prog no Try.f29 = some F151 := by kernel_rfl
theorem lk31 : cF Try.prog no Try.f31 = some F167 := by kernel_rfl
theorem lk32 : cF Try.prog no Try.f32 = some F136 := by kernel_rfl
theorem lk33 : cF Try.prog no Try.f33 = some F358 := by kernel_rfl
theorem lk34 : cF Try.prog no Try.f34 = some F359 := by kernel_rfl
theorem lk35 : cF Try.prog no Try.f35 = some F153 := by kernel_rfl
theorem lk36 : cF Try.prog no Try.f36 = some F169 := by kernel_rfl
theorem lk37 : cF Try.prog no Try.f37 = some F138 := by kernel_rfl
theorem lk71 : cF Try.prog no Try.f71 = some F99 := by kernel_rfl
theorem lk72 : cF Try.prog no Try.f72 = some F88 := by kernel_rfl
theorem lk73 : cF Try.prog no Try.f73 = some F66 := by kernel_rfl
theorem lk74 : cF Try.prog no Try.f74 = some F100 := by kernel_rfl
theorem lk75 : cF Try.prog no Try.f75 = some F373 := by kernel_rfl
theorem lk76 : cF Try.prog no Try.f76 = some F221 := by kernel_rfl
theorem lk77 : cF Try.prog no Try.f77 = some F207 := by kernel_rfl
theorem lk78 : cF Try.prog no Try.f78 = some F374 := by kernel_rfl
theorem lk80 : cF Try.prog no Try.f80 = some F18 := by kernel_rfl
theorem lk81 : cF Try.prog no Try.f81 = some F220 := by kernel_rfl
theorem lk82 : cF Try.prog no Try.f82 = some F103 := by kernel_rfl
theorem lk83 : cF Try.prog no Try.f83 = some F29 := by kernel_rfl
theorem lk84 : cF Try.prog no Try.f84 = some F154 := by kernel_rfl
theorem lk85 : cF Try.prog no Try.f85 = some F170 := by kernel_rfl
theorem lk86 : cF Try.prog no Try.f86 = some F139 := by kernel_rfl
theorem lk87 : cF Try.prog no Try.f87 = some F375 := by kernel_rfl
theorem lk88 : cF Try.prog no Try.f88 = some F376 := by kernel_rfl
theorem lk89 : cF Try.prog no Try.f89 = some F148 := by kernel_rfl
theorem lk90 : cF Try.prog no Try.f90 = some F163 := by kernel_rfl
theorem lk91 : cF Try.prog no Try.f91 = some F132 := by kernel_rfl
theorem lk92 : cF Try.prog no Try.f92 = some F337 := by kernel_rfl
theorem lk101 : cF Try.prog no Try.f101 = some F380 := by kernel_rfl
theorem lk109 : cF Try.prog no Try.f109 = some F230 := by kernel_rfl
theorem lk151 : cF Try.prog no Try.f151 = some F260 := by kernel_rfl
theorem lk152 : cF Try.prog no Try.f152 = some F89 := by kernel_rfl
theorem lk153 : cF Try.prog no Try.f153 = some F22 := by kernel_rfl
theorem lk154 : cF Try.prog no Try.f154 = some F30 := by kernel_rfl
theorem lk155 : cF Try.prog no Try.f155 = some F257 := by kernel_rfl
theorem lk156 : cF Try.prog no Try.f156 = some F67 := by kernel_rfl
theorem lk157 : cF Try.prog no Try.f157 = some F92 := by kernel_rfl
theorem lk158 : cF Try.prog no Try.f158 = some F253 := by kernel_rfl
theorem lk159 : cF Try.prog no Try.f159 = some F180 := by kernel_rfl
theorem lk160 : cF Try.prog no Try.f160 = some F201 := by kernel_rfl
theorem lk161 : cF Try.prog no Try.f161 = some F173 := by kernel_rfl
theorem lk162 : cF Try.prog no Try.f162 = some F60 := by kernel_rfl
theorem lk166 : cF Try.prog no Try.f166 = some F172 := by kernel_rfl
theorem lk174 : cF Try.prog no Try.f174 = some F21 := by kernel_rfl
theorem lk203 : cF Try.prog no Try.f203 = some F183 := by kernel_rfl
theorem lk204 : cF Try.prog no Try.f204 = some F271 := by kernel_rfl
theorem lk205 : cF Try.prog no Try.f205 = some F266 := by kernel_rfl
theorem lk206 : cF Try.prog no Try.f206 = some F51 := by kernel_rfl
theorem lk207 : cF Try.prog no Try.f207 = some F179 := by kernel_rfl
theorem lk208 : cF Try.prog no Try.f208 = some F33 := by kernel_rfl
theorem lk220 : cF Try.prog no Try.f220 = some F205 := by kernel_rfl
theorem look_mem {α : Type} : ∀ {S : List (Nat × α)} {t : Nat} {v : α}, S.lookup t = some v → (t, v) ∈ S
 | [], t, v, h => by simp at h
 | (a, b) :: S, t, v, h => by
   simp only [List.lookup] at h
   split at h
   · rename_i e; simp at e; subst e; cases h; exact .head _
   · exact .tail _ (look_mem h)
theorem lks : ∀ p ∈ noT, ∃ pf fn, Try.prog.funcs[p.1]? = some pf ∧ cF Try.prog no pf = some fn ∧ prg p.2 = some fn := by
 simp only [noT, List.forall_mem_cons]
 exact ⟨⟨_, _, Try.func8, lk8, g346⟩,
  ⟨_, _, Try.func23, lk23, g56⟩,
  ⟨_, _, Try.func24, lk24, g356⟩,
  ⟨_, _, Try.func29, lk29, g151⟩,
  ⟨_, _, Try.func31, lk31, g167⟩,
  ⟨_, _, Try.func32, lk32, g136⟩,
  ⟨_, _, Try.func33, lk33, g358⟩,
  ⟨_, _, Try.func34, lk34, g359⟩,
  ⟨_, _, Try.func35, lk35, g153⟩,
  ⟨_, _, Try.func36, lk36, g169⟩,
  ⟨_, _, Try.func37, lk37, g138⟩,
  ⟨_, _, Try.func71, lk71, g99⟩,
  ⟨_, _, Try.func72, lk72, g88⟩,
  ⟨_, _, Try.func73, lk73, g66⟩,
  ⟨_, _, Try.func74, lk74, g100⟩,
  ⟨_, _, Try.func75, lk75, g373⟩,
  ⟨_, _, Try.func76, lk76, g221⟩,
  ⟨_, _, Try.func77, lk77, g207⟩,
  ⟨_, _, Try.func78, lk78, g374⟩,
  ⟨_, _, Try.func80, lk80, g18⟩,
  ⟨_, _, Try.func81, lk81, g220⟩,
  ⟨_, _, Try.func82, lk82, g103⟩,
  ⟨_, _, Try.func83, lk83, g29⟩,
  ⟨_, _, Try.func84, lk84, g154⟩,
  ⟨_, _, Try.func85, lk85, g170⟩,
  ⟨_, _, Try.func86, lk86, g139⟩,
  ⟨_, _, Try.func87, lk87, g375⟩,
  ⟨_, _, Try.func88, lk88, g376⟩,
  ⟨_, _, Try.func89, lk89, g148⟩,
  ⟨_, _, Try.func90, lk90, g163⟩,
  ⟨_, _, Try.func91, lk91, g132⟩,
  ⟨_, _, Try.func92, lk92, g337⟩,
  ⟨_, _, Try.func101, lk101, g380⟩,
  ⟨_, _, Try.func109, lk109, g230⟩,
  ⟨_, _, Try.func151, lk151, g260⟩,
  ⟨_, _, Try.func152, lk152, g89⟩,
  ⟨_, _, Try.func153, lk153, g22⟩,
  ⟨_, _, Try.func154, lk154, g30⟩,
  ⟨_, _, Try.func155, lk155, g257⟩,
  ⟨_, _, Try.func156, lk156, g67⟩,
  ⟨_, _, Try.func157, lk157, g92⟩,
  ⟨_, _, Try.func158, lk158, g253⟩,
  ⟨_, _, Try.func159, lk159, g180⟩,
  ⟨_, _, Try.func160, lk160, g201⟩,
  ⟨_, _, Try.func161, lk161, g173⟩,
  ⟨_, _, Try.func162, lk162, g60⟩,
  ⟨_, _, Try.func166, lk166, g172⟩,
  ⟨_, _, Try.func174, lk174, g21⟩,
  ⟨_, _, Try.func203, lk203, g183⟩,
  ⟨_, _, Try.func204, lk204, g271⟩,
  ⟨_, _, Try.func205, lk205, g266⟩,
  ⟨_, _, Try.func206, lk206, g51⟩,
  ⟨_, _, Try.func207, lk207, g179⟩,
  ⟨_, _, Try.func208, lk208, g33⟩,
  ⟨_, _, Try.func220, lk220, g205⟩, by simp⟩
theorem link : Link Try.prog no prg := by
 intro g fn hg
 refine ⟨List.all_eq_true.1 prg_ok (g, fn) (look_mem hg), fun f hf => ?_⟩
 obtain ⟨pf, fn', h1, h2, h3⟩ := lks (f, g) (look_mem hf)
 have h3 : prg g = some fn' := h3
 rw [hg] at h3
 cases h3
 exact ⟨pf, h1, h2⟩
theorem mixed : Try.prog.follows .mixedOrders = true := by kernel_rfl
end Go.Proofs.Ytdialnejieoelaa.AL
