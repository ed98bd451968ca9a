/- Each function of this seat is what its form in the small language says. Printed by program. -/
import Derived.Test.YtdlkgdlefbabcaaProg
import Derived.Test.YtdlkgdlefbabcaaAlS9
import Derived.Test.YtdlkgdlefbabcaaIrShares
import Derived.KernelRfl
namespace Go.Proofs.Ytdlkgdlefbabcaa.AL
open Go

def noT : List (Nat × Nat) := [(7, 298), (16, 306), (18, 307), (24, 309), (25, 310), (26, 123), (31, 313), (32, 72), (33, 213), (34, 50), (35, 200), (36, 184), (37, 74), (38, 37), (39, 44), (40, 197), (77, 186), (78, 215), (79, 214), (81, 34), (82, 77), (85, 230), (86, 227), (87, 103), (88, 102), (89, 231), (91, 233), (93, 242), (94, 228), (95, 101), (96, 245), (127, 258), (128, 35), (129, 91), (131, 243), (132, 234), (133, 229), (146, 269)]
def no (f : Nat) : Option Nat := noT.lookup f

theorem lk7 : cF Try.prog no Try.f7 = some F298 := by kernel_rfl
theorem lk16 : cF Try.prog no Try.f16 = some F306 := by kernel_rfl
theorem lk18 : cF Try.prog no Try.f18 = some F307 := by kernel_rfl
theorem lk24 : cF Try.prog no Try.f24 = some F309 := by kernel_rfl
theorem lk25 : cF Try.prog no Try.f25 = some F310 := by kernel_rfl
theorem lk26 : cF Try.prog no Try.f26 = some F123 := by kernel_rfl
theorem lk31 : cF Try.prog no Try.f31 = some F313 := by kernel_rfl
theorem lk32 : cF Try.prog no Try.f32 = some F72 := by kernel_rfl
theorem lk33 : cF Try.prog no Try.f33 = some F213 := by kernel_rfl
theorem lk34 : cF Try.prog no Try.f34 = some F50 := by kernel_rfl
theorem lk35 : cF Try.prog no Try.f35 = some F200 := by kernel_rfl
theorem lk36 : cF Try.prog no Try.f36 = some F184 := by kernel_rfl
theorem lk37 : cF Try.prog no Try.f37 = some F74 := by kernel_rfl
theorem lk38 : cF Try.prog no Try.f38 = some F37 := by kernel_rfl
theorem lk39 : cF Try.prog no Try.f39 = some F44 := by kernel_rfl
theorem lk40 : cF Try.prog no Try.f40 = some F197 := by kernel_rfl
theorem lk77 : cF Try.prog no Try.f77 = some F186 := by kernel_rfl
theorem lk78 : cF Try.prog no Try.f78 = some F215 := by kernel_rfl
theorem lk79 : cF Try.prog no Try.f79 = some F214 := by kernel_rfl
theorem lk81 : cF Try.prog no Try.f81 = some F34 := by kernel_rfl
theorem lk82 : cF Try.prog no Try.f82 = some F77 := by kernel_rfl
theorem lk85 : cF Try.prog no Try.f85 = some F230 := by kernel_rfl
theorem lk86 : cF Try.prog no Try.f86 = some F227 := by kernel_rfl
theorem lk87 : cF Try.prog no Try.f87 = some F103 := by kernel_rfl
theorem lk88 : cF Try.prog no Try.f88 = some F102 := by kernel_rfl
theorem lk89 : cF Try.prog no Try.f89 = some F231 := by kernel_rfl
theorem lk91 : cF Try.prog no Try.f91 = some F233 := by kernel_rfl
theorem lk93 : cF Try.prog no Try.f93 = some F242 := by kernel_rfl
theorem lk94 : cF Try.prog no Try.f94 = some F228 := by kernel_rfl
theorem lk95 : cF Try.prog no Try.f95 = some F101 := by kernel_rfl
theorem lk96 : cF Try.prog no Try.f96 = some F245 := by kernel_rfl
theorem lk127 : cF Try.prog no Try.f127 = some F258 := by kernel_rfl
theorem lk128 : cF Try.prog no Try.f128 = some F35 := by kernel_rfl
theorem lk129 : cF Try.prog no Try.f129 = some F91 := by kernel_rfl
theorem lk131 : cF Try.prog no Try.f131 = some F243 := by kernel_rfl
theorem lk132 : cF Try.prog no Try.f132 = some F234 := by kernel_rfl
theorem lk133 : cF Try.prog no Try.f133 = some F229 := by kernel_rfl
theorem lk146 : cF Try.prog no Try.f146 = some F269 := by kernel_rfl

theorem look_mem {α : Type} : ∀ {S : List (Nat × α)} {t : Nat} {v : α}, S.lookup t = some v → (t, v) ∈ S
  | [], t, v, h => by simp at h
  | (a, b) :: S, t, v, h => by
    simp only [List.lookup] at h
    split at h
    · rename_i e; simp at e; subst e; cases h; exact .head _
    · exact .tail _ (look_mem h)

theorem lks : ∀ p ∈ noT, ∃ pf fn, Try.prog.funcs[p.1]? = some pf ∧ cF Try.prog no pf = some fn ∧ prg p.2 = some fn := by
  simp only [noT, List.forall_mem_cons]
  exact ⟨⟨_, _, Try.func7, lk7, g298⟩,
    ⟨_, _, Try.func16, lk16, g306⟩,
    ⟨_, _, Try.func18, lk18, g307⟩,
    ⟨_, _, Try.func24, lk24, g309⟩,
    ⟨_, _, Try.func25, lk25, g310⟩,
    ⟨_, _, Try.func26, lk26, g123⟩,
    ⟨_, _, Try.func31, lk31, g313⟩,
    ⟨_, _, Try.func32, lk32, g72⟩,
    ⟨_, _, Try.func33, lk33, g213⟩,
    ⟨_, _, Try.func34, lk34, g50⟩,
    ⟨_, _, Try.func35, lk35, g200⟩,
    ⟨_, _, Try.func36, lk36, g184⟩,
    ⟨_, _, Try.func37, lk37, g74⟩,
    ⟨_, _, Try.func38, lk38, g37⟩,
    ⟨_, _, Try.func39, lk39, g44⟩,
    ⟨_, _, Try.func40, lk40, g197⟩,
    ⟨_, _, Try.func77, lk77, g186⟩,
    ⟨_, _, Try.func78, lk78, g215⟩,
    ⟨_, _, Try.func79, lk79, g214⟩,
    ⟨_, _, Try.func81, lk81, g34⟩,
    ⟨_, _, Try.func82, lk82, g77⟩,
    ⟨_, _, Try.func85, lk85, g230⟩,
    ⟨_, _, Try.func86, lk86, g227⟩,
    ⟨_, _, Try.func87, lk87, g103⟩,
    ⟨_, _, Try.func88, lk88, g102⟩,
    ⟨_, _, Try.func89, lk89, g231⟩,
    ⟨_, _, Try.func91, lk91, g233⟩,
    ⟨_, _, Try.func93, lk93, g242⟩,
    ⟨_, _, Try.func94, lk94, g228⟩,
    ⟨_, _, Try.func95, lk95, g101⟩,
    ⟨_, _, Try.func96, lk96, g245⟩,
    ⟨_, _, Try.func127, lk127, g258⟩,
    ⟨_, _, Try.func128, lk128, g35⟩,
    ⟨_, _, Try.func129, lk129, g91⟩,
    ⟨_, _, Try.func131, lk131, g243⟩,
    ⟨_, _, Try.func132, lk132, g234⟩,
    ⟨_, _, Try.func133, lk133, g229⟩,
    ⟨_, _, Try.func146, lk146, g269⟩, by simp⟩

theorem link : Link Try.prog no prg := by
  intro g fn hg
  refine ⟨List.all_eq_true.1 prg_ok (g, fn) (look_mem hg), fun f hf => ?_⟩
  obtain ⟨pf, fn', h1, h2, h3⟩ := lks (f, g) (look_mem hf)
  have h3 : prg g = some fn' := h3
  rw [hg] at h3
  cases h3
  exact ⟨pf, h1, h2⟩

theorem mixed : Try.prog.follows .mixedOrders = true := by kernel_rfl

end Go.Proofs.Ytdlkgdlefbabcaa.AL
