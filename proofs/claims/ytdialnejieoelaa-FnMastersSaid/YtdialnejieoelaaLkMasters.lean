/- Each function of this seat is what its form in the small language says. Printed by program. -/
import Derived.Test.YtdialnejieoelaaProg
import Derived.Test.YtdialnejieoelaaAlS9
import Derived.Test.YtdialnejieoelaaIrMasters
import Derived.KernelRfl
namespace Go.Proofs.Ytdialnejieoelaa.AL
open Go
def noT : List (Nat × Nat) := [(4, 342), (14, 123), (17, 353), (18, 210), (19, 211), (20, 354), (21, 57), (22, 355), (23, 56), (24, 356), (25, 59), (26, 326), (27, 55), (28, 54), (30, 357), (68, 231), (69, 372), (70, 239), (71, 99), (72, 88), (73, 66), (74, 100), (75, 373), (76, 221), (77, 207), (78, 374), (79, 240), (80, 18), (81, 220), (82, 103), (83, 29), (109, 230), (146, 394), (147, 228), (148, 234), (149, 241), (150, 237), (151, 260), (152, 89), (153, 22), (154, 30), (155, 257), (156, 67), (157, 92), (158, 253), (159, 180), (160, 201), (161, 173), (162, 60), (166, 172), (174, 21), (201, 229), (202, 233), (203, 183), (204, 271), (205, 266), (206, 51), (207, 179), (208, 33), (220, 205)]
def no (f : Nat) : Option Nat := noT.lookup f
theorem lk4 : cF Try.prog no Try.f4 = some F342 := by kernel_rfl
theorem lk14 : cF Try.prog no Try.f14 = some F123 := by kernel_rfl
theorem lk17 : cF Try.prog no Try.f17 = some F353 := by kernel_rfl
theorem lk18 : cF Try.prog no Try.f18 = some F210 := by kernel_rfl
theorem lk19 : cF Try.prog no Try.f19 = some F211 := by kernel_rfl
theorem lk20 : cF Try.prog no Try.f20 = some F354 := by kernel_rfl
theorem lk21 : cF Try.prog no Try.f21 = some F57 := by kernel_rfl
theorem lk22 : cF Try.prog no Try.f22 = some F355 := by kernel_rfl
theorem lk23 : cF Try.prog no Try.f23 = some F56 := by kernel_rfl
theorem lk24 : cF Try.prog no Try.f24 = some F356 := by kernel_rfl
theorem lk25 : cF Try.prog no Try.f25 = some F59 := by kernel_rfl
theorem lk26 : cF Try.prog no Try.f26 = some F326 := by kernel_rfl
theorem lk27 : cF Try.prog no Try.f27 = some F55 := by kernel_rfl
theorem lk28 : cF Try.prog no Try.f28 = some F54 := by kernel_rfl
theorem lk30 : cF Try.prog no Try.f30 = some F357 := by kernel_rfl
theorem lk68 : cF Try.prog no Try.f68 = some F231 := by kernel_rfl
theorem lk69 : cF Try.prog no Try.f69 = some F372 := by kernel_rfl
theorem lk70 : cF Try.prog no Try.f70 = some F239 := by kernel_rfl
theorem lk71 : cF Try.prog no Try.f71 = some F99 := by kernel_rfl
theorem lk72 : cF Try.prog no Try.f72 = some F88 := by kernel_rfl
theorem lk73 : cF Try.prog no Try.f73 = some F66 := by kernel_rfl
theorem lk74 : cF Try.prog no Try.f74 = some F100 := by kernel_rfl
theorem lk75 : cF Try.prog no Try.f75 = some F373 := by kernel_rfl
theorem lk76 : cF Try.prog no Try.f76 = some F221 := by kernel_rfl
theorem lk77 : cF Try.prog no Try.f77 = some F207 := by kernel_rfl
theorem lk78 : cF Try.prog no Try.f78 = some F374 := by kernel_rfl
theorem lk79 : cF Try.prog no Try.f79 = some F240 := by kernel_rfl
theorem lk80 : cF Try.prog no Try.f80 = some F18 := by kernel_rfl
theorem lk81 : cF Try.prog no Try.f81 = some F220 := by kernel_rfl
theorem lk82 : cF Try.prog no Try.f82 = some F103 := by kernel_rfl
theorem lk83 : cF Try.prog no Try.f83 = some F29 := by kernel_rfl
theorem lk109 : cF Try.prog no Try.f109 = some F230 := by kernel_rfl
theorem lk146 : cF Try.prog no Try.f146 = some F394 := by kernel_rfl
theorem lk147 : cF Try.prog no Try.f147 = some F228 := by kernel_rfl
theorem lk148 : cF Try.prog no Try.f148 = some F234 := by kernel_rfl
theorem lk149 : cF Try.prog no Try.f149 = some F241 := by kernel_rfl
theorem lk150 : cF Try.prog no Try.f150 = some F237 := by kernel_rfl
theorem lk151 : cF Try.prog no Try.f151 = some F260 := by kernel_rfl
theorem lk152 : cF Try.prog no Try.f152 = some F89 := by kernel_rfl
theorem lk153 : cF Try.prog no Try.f153 = some F22 := by kernel_rfl
theorem lk154 : cF Try.prog no Try.f154 = some F30 := by kernel_rfl
theorem lk155 : cF Try.prog no Try.f155 = some F257 := by kernel_rfl
theorem lk156 : cF Try.prog no Try.f156 = some F67 := by kernel_rfl
theorem lk157 : cF Try.prog no Try.f157 = some F92 := by kernel_rfl
theorem lk158 : cF Try.prog no Try.f158 = some F253 := by kernel_rfl
theorem lk159 : cF Try.prog no Try.f159 = some F180 := by kernel_rfl
theorem lk160 : cF Try.prog no Try.f160 = some F201 := by kernel_rfl
theorem lk161 : cF Try.prog no Try.f161 = some F173 := by kernel_rfl
theorem lk162 : cF Try.prog no Try.f162 = some F60 := by kernel_rfl
theorem lk166 : cF Try.prog no Try.f166 = some F172 := by kernel_rfl
theorem lk174 : cF Try.prog no Try.f174 = some F21 := by kernel_rfl
theorem lk201 : cF Try.prog no Try.f201 = some F229 := by kernel_rfl
theorem lk202 : cF Try.prog no Try.f202 = some F233 := by kernel_rfl
theorem lk203 : cF Try.prog no Try.f203 = some F183 := by kernel_rfl
theorem lk204 : cF Try.prog no Try.f204 = some F271 := by kernel_rfl
theorem lk205 : cF Try.prog no Try.f205 = some F266 := by kernel_rfl
theorem lk206 : cF Try.prog no Try.f206 = some F51 := by kernel_rfl
theorem lk207 : cF Try.prog no Try.f207 = some F179 := by kernel_rfl
theorem lk208 : cF Try.prog no Try.f208 = some F33 := by kernel_rfl
theorem lk220 : cF Try.prog no Try.f220 = some F205 := by kernel_rfl
theorem look_mem {α : Type} : ∀ {S : List (Nat × α)} {t : Nat} {v : α}, S.lookup t = some v → (t, v) ∈ S
 | [], t, v, h => by simp at h
 | (a, b) :: S, t, v, h => by
   simp only [List.lookup] at h
   split at h
   · rename_i e; simp at e; subst e; cases h; exact .head _
   · exact .tail _ (look_mem h)
theorem lks : ∀ p ∈ noT, ∃ pf fn, Try.prog.funcs[p.1]? = some pf ∧ cF Try.prog no pf = some fn ∧ prg p.2 = some fn := by
 simp only [noT, List.forall_mem_cons]
 exact ⟨⟨_, _, Try.func4, lk4, g342⟩,
  ⟨_, _, Try.func14, lk14, g123⟩,
  ⟨_, _, Try.func17, lk17, g353⟩,
  ⟨_, _, Try.func18, lk18, g210⟩,
  ⟨_, _, Try.func19, lk19, g211⟩,
  ⟨_, _, Try.func20, lk20, g354⟩,
  ⟨_, _, Try.func21, lk21, g57⟩,
  ⟨_, _, Try.func22, lk22, g355⟩,
  ⟨_, _, Try.func23, lk23, g56⟩,
  ⟨_, _, Try.func24, lk24, g356⟩,
  ⟨_, _, Try.func25, lk25, g59⟩,
  ⟨_, _, Try.func26, lk26, g326⟩,
  ⟨_, _, Try.func27, lk27, g55⟩,
  ⟨_, _, Try.func28, lk28, g54⟩,
  ⟨_, _, Try.func30, lk30, g357⟩,
  ⟨_, _, Try.func68, lk68, g231⟩,
  ⟨_, _, Try.func69, lk69, g372⟩,
  ⟨_, _, Try.func70, lk70, g239⟩,
  ⟨_, _, Try.func71, lk71, g99⟩,
  ⟨_, _, Try.func72, lk72, g88⟩,
  ⟨_, _, Try.func73, lk73, g66⟩,
  ⟨_, _, Try.func74, lk74, g100⟩,
  ⟨_, _, Try.func75, lk75, g373⟩,
  ⟨_, _, Try.func76, lk76, g221⟩,
  ⟨_, _, Try.func77, lk77, g207⟩,
  ⟨_, _, Try.func78, lk78, g374⟩,
  ⟨_, _, Try.func79, lk79, g240⟩,
  ⟨_, _, Try.func80, lk80, g18⟩,
  ⟨_, _, Try.func81, lk81, g220⟩,
  ⟨_, _, Try.func82, lk82, g103⟩,
  ⟨_, _, Try.func83, lk83, g29⟩,
  ⟨_, _, Try.func109, lk109, g230⟩,
  ⟨_, _, Try.func146, lk146, g394⟩,
  ⟨_, _, Try.func147, lk147, g228⟩,
  ⟨_, _, Try.func148, lk148, g234⟩,
  ⟨_, _, Try.func149, lk149, g241⟩,
  ⟨_, _, Try.func150, lk150, g237⟩,
  ⟨_, _, Try.func151, lk151, g260⟩,
  ⟨_, _, Try.func152, lk152, g89⟩,
  ⟨_, _, Try.func153, lk153, g22⟩,
  ⟨_, _, Try.func154, lk154, g30⟩,
  ⟨_, _, Try.func155, lk155, g257⟩,
  ⟨_, _, Try.func156, lk156, g67⟩,
  ⟨_, _, Try.func157, lk157, g92⟩,
  ⟨_, _, Try.func158, lk158, g253⟩,
  ⟨_, _, Try.func159, lk159, g180⟩,
  ⟨_, _, Try.func160, lk160, g201⟩,
  ⟨_, _, Try.func161, lk161, g173⟩,
  ⟨_, _, Try.func162, lk162, g60⟩,
  ⟨_, _, Try.func166, lk166, g172⟩,
  ⟨_, _, Try.func174, lk174, g21⟩,
  ⟨_, _, Try.func201, lk201, g229⟩,
  ⟨_, _, Try.func202, lk202, g233⟩,
  ⟨_, _, Try.func203, lk203, g183⟩,
  ⟨_, _, Try.func204, lk204, g271⟩,
  ⟨_, _, Try.func205, lk205, g266⟩,
  ⟨_, _, Try.func206, lk206, g51⟩,
  ⟨_, _, Try.func207, lk207, g179⟩,
  ⟨_, _, Try.func208, lk208, g33⟩,
  ⟨_, _, Try.func220, lk220, g205⟩, by simp⟩
theorem link : Link Try.prog no prg := by
 intro g fn hg
 refine ⟨List.all_eq_true.1 prg_ok (g, fn) (look_mem hg), fun f hf => ?_⟩
 obtain ⟨pf, fn', h1, h2, h3⟩ := lks (f, g) (look_mem hf)
 have h3 : prg g = some fn' := h3
 rw [hg] at h3
 cases h3
 exact ⟨pf, h1, h2⟩
theorem mixed : Try.prog.follows .mixedOrders = true := by kernel_rfl
end Go.Proofs.Ytdialnejieoelaa.AL
