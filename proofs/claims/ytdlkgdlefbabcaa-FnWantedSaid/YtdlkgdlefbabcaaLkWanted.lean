/- Each function of this seat is what its form in the small language says. Printed by program. -/
import Derived.Test.YtdlkgdlefbabcaaProg
import Derived.Test.YtdlkgdlefbabcaaAlS9
import Derived.Test.YtdlkgdlefbabcaaIrWanted
import Derived.KernelRfl
namespace Go.Proofs.Ytdlkgdlefbabcaa.AL
open Go

def noT : List (Nat × Nat) := [(11, 302), (26, 123), (53, 323), (54, 324), (55, 207), (56, 22), (57, 46), (58, 205), (59, 325), (60, 198), (69, 328), (85, 230), (87, 103), (89, 231), (91, 233), (94, 228), (106, 239), (107, 66), (108, 29), (109, 180), (110, 201), (111, 173), (112, 183), (113, 172), (114, 241), (122, 179), (123, 336), (132, 234), (133, 229), (138, 237), (139, 30), (140, 257), (141, 67), (142, 92), (143, 60), (148, 266), (149, 51), (150, 21), (151, 33)]
def no (f : Nat) : Option Nat := noT.lookup f

theorem lk11 : cF Try.prog no Try.f11 = some F302 := by kernel_rfl
theorem lk26 : cF Try.prog no Try.f26 = some F123 := by kernel_rfl
theorem lk53 : cF Try.prog no Try.f53 = some F323 := by kernel_rfl
theorem lk54 : cF Try.prog no Try.f54 = some F324 := by kernel_rfl
theorem lk55 : cF Try.prog no Try.f55 = some F207 := by kernel_rfl
theorem lk56 : cF Try.prog no Try.f56 = some F22 := by kernel_rfl
theorem lk57 : cF Try.prog no Try.f57 = some F46 := by kernel_rfl
theorem lk58 : cF Try.prog no Try.f58 = some F205 := by kernel_rfl
theorem lk59 : cF Try.prog no Try.f59 = some F325 := by kernel_rfl
theorem lk60 : cF Try.prog no Try.f60 = some F198 := by kernel_rfl
theorem lk69 : cF Try.prog no Try.f69 = some F328 := by kernel_rfl
theorem lk85 : cF Try.prog no Try.f85 = some F230 := by kernel_rfl
theorem lk87 : cF Try.prog no Try.f87 = some F103 := by kernel_rfl
theorem lk89 : cF Try.prog no Try.f89 = some F231 := by kernel_rfl
theorem lk91 : cF Try.prog no Try.f91 = some F233 := by kernel_rfl
theorem lk94 : cF Try.prog no Try.f94 = some F228 := by kernel_rfl
theorem lk106 : cF Try.prog no Try.f106 = some F239 := by kernel_rfl
theorem lk107 : cF Try.prog no Try.f107 = some F66 := by kernel_rfl
theorem lk108 : cF Try.prog no Try.f108 = some F29 := by kernel_rfl
theorem lk109 : cF Try.prog no Try.f109 = some F180 := by kernel_rfl
theorem lk110 : cF Try.prog no Try.f110 = some F201 := by kernel_rfl
theorem lk111 : cF Try.prog no Try.f111 = some F173 := by kernel_rfl
theorem lk112 : cF Try.prog no Try.f112 = some F183 := by kernel_rfl
theorem lk113 : cF Try.prog no Try.f113 = some F172 := by kernel_rfl
theorem lk114 : cF Try.prog no Try.f114 = some F241 := by kernel_rfl
theorem lk122 : cF Try.prog no Try.f122 = some F179 := by kernel_rfl
theorem lk123 : cF Try.prog no Try.f123 = some F336 := by kernel_rfl
theorem lk132 : cF Try.prog no Try.f132 = some F234 := by kernel_rfl
theorem lk133 : cF Try.prog no Try.f133 = some F229 := by kernel_rfl
theorem lk138 : cF Try.prog no Try.f138 = some F237 := by kernel_rfl
theorem lk139 : cF Try.prog no Try.f139 = some F30 := by kernel_rfl
theorem lk140 : cF Try.prog no Try.f140 = some F257 := by kernel_rfl
theorem lk141 : cF Try.prog no Try.f141 = some F67 := by kernel_rfl
theorem lk142 : cF Try.prog no Try.f142 = some F92 := by kernel_rfl
theorem lk143 : cF Try.prog no Try.f143 = some F60 := by kernel_rfl
theorem lk148 : cF Try.prog no Try.f148 = some F266 := by kernel_rfl
theorem lk149 : cF Try.prog no Try.f149 = some F51 := by kernel_rfl
theorem lk150 : cF Try.prog no Try.f150 = some F21 := by kernel_rfl
theorem lk151 : cF Try.prog no Try.f151 = some F33 := by kernel_rfl

theorem look_mem {α : Type} : ∀ {S : List (Nat × α)} {t : Nat} {v : α}, S.lookup t = some v → (t, v) ∈ S
  | [], t, v, h => by simp at h
  | (a, b) :: S, t, v, h => by
    simp only [List.lookup] at h
    split at h
    · rename_i e; simp at e; subst e; cases h; exact .head _
    · exact .tail _ (look_mem h)

theorem lks : ∀ p ∈ noT, ∃ pf fn, Try.prog.funcs[p.1]? = some pf ∧ cF Try.prog no pf = some fn ∧ prg p.2 = some fn := by
  simp only [noT, List.forall_mem_cons]
  exact ⟨⟨_, _, Try.func11, lk11, g302⟩,
    ⟨_, _, Try.func26, lk26, g123⟩,
    ⟨_, _, Try.func53, lk53, g323⟩,
    ⟨_, _, Try.func54, lk54, g324⟩,
    ⟨_, _, Try.func55, lk55, g207⟩,
    ⟨_, _, Try.func56, lk56, g22⟩,
    ⟨_, _, Try.func57, lk57, g46⟩,
    ⟨_, _, Try.func58, lk58, g205⟩,
    ⟨_, _, Try.func59, lk59, g325⟩,
    ⟨_, _, Try.func60, lk60, g198⟩,
    ⟨_, _, Try.func69, lk69, g328⟩,
    ⟨_, _, Try.func85, lk85, g230⟩,
    ⟨_, _, Try.func87, lk87, g103⟩,
    ⟨_, _, Try.func89, lk89, g231⟩,
    ⟨_, _, Try.func91, lk91, g233⟩,
    ⟨_, _, Try.func94, lk94, g228⟩,
    ⟨_, _, Try.func106, lk106, g239⟩,
    ⟨_, _, Try.func107, lk107, g66⟩,
    ⟨_, _, Try.func108, lk108, g29⟩,
    ⟨_, _, Try.func109, lk109, g180⟩,
    ⟨_, _, Try.func110, lk110, g201⟩,
    ⟨_, _, Try.func111, lk111, g173⟩,
    ⟨_, _, Try.func112, lk112, g183⟩,
    ⟨_, _, Try.func113, lk113, g172⟩,
    ⟨_, _, Try.func114, lk114, g241⟩,
    ⟨_, _, Try.func122, lk122, g179⟩,
    ⟨_, _, Try.func123, lk123, g336⟩,
    ⟨_, _, Try.func132, lk132, g234⟩,
    ⟨_, _, Try.func133, lk133, g229⟩,
    ⟨_, _, Try.func138, lk138, g237⟩,
    ⟨_, _, Try.func139, lk139, g30⟩,
    ⟨_, _, Try.func140, lk140, g257⟩,
    ⟨_, _, Try.func141, lk141, g67⟩,
    ⟨_, _, Try.func142, lk142, g92⟩,
    ⟨_, _, Try.func143, lk143, g60⟩,
    ⟨_, _, Try.func148, lk148, g266⟩,
    ⟨_, _, Try.func149, lk149, g51⟩,
    ⟨_, _, Try.func150, lk150, g21⟩,
    ⟨_, _, Try.func151, lk151, g33⟩, by simp⟩

theorem link : Link Try.prog no prg := by
  intro g fn hg
  refine ⟨List.all_eq_true.1 prg_ok (g, fn) (look_mem hg), fun f hf => ?_⟩
  obtain ⟨pf, fn', h1, h2, h3⟩ := lks (f, g) (look_mem hf)
  have h3 : prg g = some fn' := h3
  rw [hg] at h3
  cases h3
  exact ⟨pf, h1, h2⟩

theorem mixed : Try.prog.follows .mixedOrders = true := by kernel_rfl

end Go.Proofs.Ytdlkgdlefbabcaa.AL
