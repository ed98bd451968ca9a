/- Each function of this seat is what its form in the small language says. Printed by program. -/
import Derived.Test.YtdlkgdlefbabcaaProg
import Derived.Test.YtdlkgdlefbabcaaAlS9
import Derived.Test.YtdlkgdlefbabcaaIrTurns
import Derived.KernelRfl
namespace Go.Proofs.Ytdlkgdlefbabcaa.AL
open Go

def noT : List (Nat × Nat) := [(6, 297), (22, 81), (26, 123), (27, 311), (28, 83), (29, 312), (30, 217), (34, 50), (36, 184), (37, 74), (38, 37), (77, 186), (78, 215), (79, 214), (81, 34), (82, 77), (84, 82), (85, 230), (87, 103), (89, 231), (90, 330), (91, 233), (92, 331), (93, 242), (94, 228), (95, 101), (96, 245), (127, 258), (128, 35), (129, 91), (131, 243), (132, 234), (133, 229), (146, 269)]
def no (f : Nat) : Option Nat := noT.lookup f

theorem lk6 : cF Try.prog no Try.f6 = some F297 := by kernel_rfl
theorem lk22 : cF Try.prog no Try.f22 = some F81 := by kernel_rfl
theorem lk26 : cF Try.prog no Try.f26 = some F123 := by kernel_rfl
theorem lk27 : cF Try.prog no Try.f27 = some F311 := by kernel_rfl
theorem lk28 : cF Try.prog no Try.f28 = some F83 := by kernel_rfl
theorem lk29 : cF Try.prog no Try.f29 = some F312 := by kernel_rfl
theorem lk30 : cF Try.prog no Try.f30 = some F217 := by kernel_rfl
theorem lk34 : cF Try.prog no Try.f34 = some F50 := by kernel_rfl
theorem lk36 : cF Try.prog no Try.f36 = some F184 := by kernel_rfl
theorem lk37 : cF Try.prog no Try.f37 = some F74 := by kernel_rfl
theorem lk38 : cF Try.prog no Try.f38 = some F37 := by kernel_rfl
theorem lk77 : cF Try.prog no Try.f77 = some F186 := by kernel_rfl
theorem lk78 : cF Try.prog no Try.f78 = some F215 := by kernel_rfl
theorem lk79 : cF Try.prog no Try.f79 = some F214 := by kernel_rfl
theorem lk81 : cF Try.prog no Try.f81 = some F34 := by kernel_rfl
theorem lk82 : cF Try.prog no Try.f82 = some F77 := by kernel_rfl
theorem lk84 : cF Try.prog no Try.f84 = some F82 := by kernel_rfl
theorem lk85 : cF Try.prog no Try.f85 = some F230 := by kernel_rfl
theorem lk87 : cF Try.prog no Try.f87 = some F103 := by kernel_rfl
theorem lk89 : cF Try.prog no Try.f89 = some F231 := by kernel_rfl
theorem lk90 : cF Try.prog no Try.f90 = some F330 := by kernel_rfl
theorem lk91 : cF Try.prog no Try.f91 = some F233 := by kernel_rfl
theorem lk92 : cF Try.prog no Try.f92 = some F331 := by kernel_rfl
theorem lk93 : cF Try.prog no Try.f93 = some F242 := by kernel_rfl
theorem lk94 : cF Try.prog no Try.f94 = some F228 := by kernel_rfl
theorem lk95 : cF Try.prog no Try.f95 = some F101 := by kernel_rfl
theorem lk96 : cF Try.prog no Try.f96 = some F245 := by kernel_rfl
theorem lk127 : cF Try.prog no Try.f127 = some F258 := by kernel_rfl
theorem lk128 : cF Try.prog no Try.f128 = some F35 := by kernel_rfl
theorem lk129 : cF Try.prog no Try.f129 = some F91 := by kernel_rfl
theorem lk131 : cF Try.prog no Try.f131 = some F243 := by kernel_rfl
theorem lk132 : cF Try.prog no Try.f132 = some F234 := by kernel_rfl
theorem lk133 : cF Try.prog no Try.f133 = some F229 := by kernel_rfl
theorem lk146 : cF Try.prog no Try.f146 = some F269 := by kernel_rfl

theorem look_mem {α : Type} : ∀ {S : List (Nat × α)} {t : Nat} {v : α}, S.lookup t = some v → (t, v) ∈ S
  | [], t, v, h => by simp at h
  | (a, b) :: S, t, v, h => by
    simp only [List.lookup] at h
    split at h
    · rename_i e; simp at e; subst e; cases h; exact .head _
    · exact .tail _ (look_mem h)

theorem lks : ∀ p ∈ noT, ∃ pf fn, Try.prog.funcs[p.1]? = some pf ∧ cF Try.prog no pf = some fn ∧ prg p.2 = some fn := by
  simp only [noT, List.forall_mem_cons]
  exact ⟨⟨_, _, Try.func6, lk6, g297⟩,
    ⟨_, _, Try.func22, lk22, g81⟩,
    ⟨_, _, Try.func26, lk26, g123⟩,
    ⟨_, _, Try.func27, lk27, g311⟩,
    ⟨_, _, Try.func28, lk28, g83⟩,
    ⟨_, _, Try.func29, lk29, g312⟩,
    ⟨_, _, Try.func30, lk30, g217⟩,
    ⟨_, _, Try.func34, lk34, g50⟩,
    ⟨_, _, Try.func36, lk36, g184⟩,
    ⟨_, _, Try.func37, lk37, g74⟩,
    ⟨_, _, Try.func38, lk38, g37⟩,
    ⟨_, _, Try.func77, lk77, g186⟩,
    ⟨_, _, Try.func78, lk78, g215⟩,
    ⟨_, _, Try.func79, lk79, g214⟩,
    ⟨_, _, Try.func81, lk81, g34⟩,
    ⟨_, _, Try.func82, lk82, g77⟩,
    ⟨_, _, Try.func84, lk84, g82⟩,
    ⟨_, _, Try.func85, lk85, g230⟩,
    ⟨_, _, Try.func87, lk87, g103⟩,
    ⟨_, _, Try.func89, lk89, g231⟩,
    ⟨_, _, Try.func90, lk90, g330⟩,
    ⟨_, _, Try.func91, lk91, g233⟩,
    ⟨_, _, Try.func92, lk92, g331⟩,
    ⟨_, _, Try.func93, lk93, g242⟩,
    ⟨_, _, Try.func94, lk94, g228⟩,
    ⟨_, _, Try.func95, lk95, g101⟩,
    ⟨_, _, Try.func96, lk96, g245⟩,
    ⟨_, _, Try.func127, lk127, g258⟩,
    ⟨_, _, Try.func128, lk128, g35⟩,
    ⟨_, _, Try.func129, lk129, g91⟩,
    ⟨_, _, Try.func131, lk131, g243⟩,
    ⟨_, _, Try.func132, lk132, g234⟩,
    ⟨_, _, Try.func133, lk133, g229⟩,
    ⟨_, _, Try.func146, lk146, g269⟩, by simp⟩

theorem link : Link Try.prog no prg := by
  intro g fn hg
  refine ⟨List.all_eq_true.1 prg_ok (g, fn) (look_mem hg), fun f hf => ?_⟩
  obtain ⟨pf, fn', h1, h2, h3⟩ := lks (f, g) (look_mem hf)
  have h3 : prg g = some fn' := h3
  rw [hg] at h3
  cases h3
  exact ⟨pf, h1, h2⟩

theorem mixed : Try.prog.follows .mixedOrders = true := by kernel_rfl

end Go.Proofs.Ytdlkgdlefbabcaa.AL
