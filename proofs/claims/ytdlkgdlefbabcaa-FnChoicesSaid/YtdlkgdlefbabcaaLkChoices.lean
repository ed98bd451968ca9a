/- Each function of this seat is what its form in the small language says. Printed by program. -/
import Derived.Test.YtdlkgdlefbabcaaProg
import Derived.Test.YtdlkgdlefbabcaaAlS9
import Derived.Test.YtdlkgdlefbabcaaIrChoices
import Derived.KernelRfl
namespace Go.Proofs.Ytdlkgdlefbabcaa.AL
open Go

def noT : List (Nat × Nat) := [(9, 300), (26, 123), (36, 184), (43, 316), (44, 80), (45, 68), (46, 75), (47, 317), (48, 318), (49, 319), (58, 205), (77, 186), (79, 214), (85, 230), (89, 231), (91, 233), (93, 242), (94, 228), (96, 245), (97, 247), (98, 85), (99, 332), (106, 239), (109, 180), (110, 201), (111, 173), (112, 183), (113, 172), (114, 241), (122, 179), (131, 243), (132, 234), (133, 229), (134, 246), (138, 237), (147, 249), (153, 248)]
def no (f : Nat) : Option Nat := noT.lookup f

theorem lk9 : cF Try.prog no Try.f9 = some F300 := by kernel_rfl
theorem lk26 : cF Try.prog no Try.f26 = some F123 := by kernel_rfl
theorem lk36 : cF Try.prog no Try.f36 = some F184 := by kernel_rfl
theorem lk43 : cF Try.prog no Try.f43 = some F316 := by kernel_rfl
theorem lk44 : cF Try.prog no Try.f44 = some F80 := by kernel_rfl
theorem lk45 : cF Try.prog no Try.f45 = some F68 := by kernel_rfl
theorem lk46 : cF Try.prog no Try.f46 = some F75 := by kernel_rfl
theorem lk47 : cF Try.prog no Try.f47 = some F317 := by kernel_rfl
theorem lk48 : cF Try.prog no Try.f48 = some F318 := by kernel_rfl
theorem lk49 : cF Try.prog no Try.f49 = some F319 := by kernel_rfl
theorem lk58 : cF Try.prog no Try.f58 = some F205 := by kernel_rfl
theorem lk77 : cF Try.prog no Try.f77 = some F186 := by kernel_rfl
theorem lk79 : cF Try.prog no Try.f79 = some F214 := by kernel_rfl
theorem lk85 : cF Try.prog no Try.f85 = some F230 := by kernel_rfl
theorem lk89 : cF Try.prog no Try.f89 = some F231 := by kernel_rfl
theorem lk91 : cF Try.prog no Try.f91 = some F233 := by kernel_rfl
theorem lk93 : cF Try.prog no Try.f93 = some F242 := by kernel_rfl
theorem lk94 : cF Try.prog no Try.f94 = some F228 := by kernel_rfl
theorem lk96 : cF Try.prog no Try.f96 = some F245 := by kernel_rfl
theorem lk97 : cF Try.prog no Try.f97 = some F247 := by kernel_rfl
theorem lk98 : cF Try.prog no Try.f98 = some F85 := by kernel_rfl
theorem lk99 : cF Try.prog no Try.f99 = some F332 := by kernel_rfl
theorem lk106 : cF Try.prog no Try.f106 = some F239 := by kernel_rfl
theorem lk109 : cF Try.prog no Try.f109 = some F180 := by kernel_rfl
theorem lk110 : cF Try.prog no Try.f110 = some F201 := by kernel_rfl
theorem lk111 : cF Try.prog no Try.f111 = some F173 := by kernel_rfl
theorem lk112 : cF Try.prog no Try.f112 = some F183 := by kernel_rfl
theorem lk113 : cF Try.prog no Try.f113 = some F172 := by kernel_rfl
theorem lk114 : cF Try.prog no Try.f114 = some F241 := by kernel_rfl
theorem lk122 : cF Try.prog no Try.f122 = some F179 := by kernel_rfl
theorem lk131 : cF Try.prog no Try.f131 = some F243 := by kernel_rfl
theorem lk132 : cF Try.prog no Try.f132 = some F234 := by kernel_rfl
theorem lk133 : cF Try.prog no Try.f133 = some F229 := by kernel_rfl
theorem lk134 : cF Try.prog no Try.f134 = some F246 := by kernel_rfl
theorem lk138 : cF Try.prog no Try.f138 = some F237 := by kernel_rfl
theorem lk147 : cF Try.prog no Try.f147 = some F249 := by kernel_rfl
theorem lk153 : cF Try.prog no Try.f153 = some F248 := by kernel_rfl

theorem look_mem {α : Type} : ∀ {S : List (Nat × α)} {t : Nat} {v : α}, S.lookup t = some v → (t, v) ∈ S
  | [], t, v, h => by simp at h
  | (a, b) :: S, t, v, h => by
    simp only [List.lookup] at h
    split at h
    · rename_i e; simp at e; subst e; cases h; exact .head _
    · exact .tail _ (look_mem h)

theorem lks : ∀ p ∈ noT, ∃ pf fn, Try.prog.funcs[p.1]? = some pf ∧ cF Try.prog no pf = some fn ∧ prg p.2 = some fn := by
  simp only [noT, List.forall_mem_cons]
  exact ⟨⟨_, _, Try.func9, lk9, g300⟩,
    ⟨_, _, Try.func26, lk26, g123⟩,
    ⟨_, _, Try.func36, lk36, g184⟩,
    ⟨_, _, Try.func43, lk43, g316⟩,
    ⟨_, _, Try.func44, lk44, g80⟩,
    ⟨_, _, Try.func45, lk45, g68⟩,
    ⟨_, _, Try.func46, lk46, g75⟩,
    ⟨_, _, Try.func47, lk47, g317⟩,
    ⟨_, _, Try.func48, lk48, g318⟩,
    ⟨_, _, Try.func49, lk49, g319⟩,
    ⟨_, _, Try.func58, lk58, g205⟩,
    ⟨_, _, Try.func77, lk77, g186⟩,
    ⟨_, _, Try.func79, lk79, g214⟩,
    ⟨_, _, Try.func85, lk85, g230⟩,
    ⟨_, _, Try.func89, lk89, g231⟩,
    ⟨_, _, Try.func91, lk91, g233⟩,
    ⟨_, _, Try.func93, lk93, g242⟩,
    ⟨_, _, Try.func94, lk94, g228⟩,
    ⟨_, _, Try.func96, lk96, g245⟩,
    ⟨_, _, Try.func97, lk97, g247⟩,
    ⟨_, _, Try.func98, lk98, g85⟩,
    ⟨_, _, Try.func99, lk99, g332⟩,
    ⟨_, _, Try.func106, lk106, g239⟩,
    ⟨_, _, Try.func109, lk109, g180⟩,
    ⟨_, _, Try.func110, lk110, g201⟩,
    ⟨_, _, Try.func111, lk111, g173⟩,
    ⟨_, _, Try.func112, lk112, g183⟩,
    ⟨_, _, Try.func113, lk113, g172⟩,
    ⟨_, _, Try.func114, lk114, g241⟩,
    ⟨_, _, Try.func122, lk122, g179⟩,
    ⟨_, _, Try.func131, lk131, g243⟩,
    ⟨_, _, Try.func132, lk132, g234⟩,
    ⟨_, _, Try.func133, lk133, g229⟩,
    ⟨_, _, Try.func134, lk134, g246⟩,
    ⟨_, _, Try.func138, lk138, g237⟩,
    ⟨_, _, Try.func147, lk147, g249⟩,
    ⟨_, _, Try.func153, lk153, g248⟩, by simp⟩

theorem link : Link Try.prog no prg := by
  intro g fn hg
  refine ⟨List.all_eq_true.1 prg_ok (g, fn) (look_mem hg), fun f hf => ?_⟩
  obtain ⟨pf, fn', h1, h2, h3⟩ := lks (f, g) (look_mem hf)
  have h3 : prg g = some fn' := h3
  rw [hg] at h3
  cases h3
  exact ⟨pf, h1, h2⟩

theorem mixed : Try.prog.follows .mixedOrders = true := by kernel_rfl

end Go.Proofs.Ytdlkgdlefbabcaa.AL
