/- Each function of this seat is what its form in the small language says. Printed by program. -/
import Derived.Test.YtojdedadgddhgaaProg
import Derived.Test.YtojdedadgddhgaaAlS9
import Derived.Test.YtojdedadgddhgaaIrWrrOk
import Derived.KernelRfl
namespace Go.Proofs.Ytojdedadgddhgaa.AL
open Go

def noT : List (Nat × Nat) := [(13, 119), (24, 145), (26, 159), (27, 50), (28, 128), (45, 184), (46, 34), (47, 215), (48, 77), (54, 217), (55, 171), (56, 82), (59, 230), (65, 149), (66, 214), (67, 165), (68, 74), (69, 101), (70, 134), (72, 103), (77, 245), (78, 258), (79, 35), (80, 91), (89, 186), (90, 164), (91, 37), (92, 133), (96, 269)]
def no (f : Nat) : Option Nat := noT.lookup f

theorem lk13 : cF Try.prog no Try.f13 = some F119 := by kernel_rfl
theorem lk24 : cF Try.prog no Try.f24 = some F145 := by kernel_rfl
theorem lk26 : cF Try.prog no Try.f26 = some F159 := by kernel_rfl
theorem lk27 : cF Try.prog no Try.f27 = some F50 := by kernel_rfl
theorem lk28 : cF Try.prog no Try.f28 = some F128 := by kernel_rfl
theorem lk45 : cF Try.prog no Try.f45 = some F184 := by kernel_rfl
theorem lk46 : cF Try.prog no Try.f46 = some F34 := by kernel_rfl
theorem lk47 : cF Try.prog no Try.f47 = some F215 := by kernel_rfl
theorem lk48 : cF Try.prog no Try.f48 = some F77 := by kernel_rfl
theorem lk54 : cF Try.prog no Try.f54 = some F217 := by kernel_rfl
theorem lk55 : cF Try.prog no Try.f55 = some F171 := by kernel_rfl
theorem lk56 : cF Try.prog no Try.f56 = some F82 := by kernel_rfl
theorem lk59 : cF Try.prog no Try.f59 = some F230 := by kernel_rfl
theorem lk65 : cF Try.prog no Try.f65 = some F149 := by kernel_rfl
theorem lk66 : cF Try.prog no Try.f66 = some F214 := by kernel_rfl
theorem lk67 : cF Try.prog no Try.f67 = some F165 := by kernel_rfl
theorem lk68 : cF Try.prog no Try.f68 = some F74 := by kernel_rfl
theorem lk69 : cF Try.prog no Try.f69 = some F101 := by kernel_rfl
theorem lk70 : cF Try.prog no Try.f70 = some F134 := by kernel_rfl
theorem lk72 : cF Try.prog no Try.f72 = some F103 := by kernel_rfl
theorem lk77 : cF Try.prog no Try.f77 = some F245 := by kernel_rfl
theorem lk78 : cF Try.prog no Try.f78 = some F258 := by kernel_rfl
theorem lk79 : cF Try.prog no Try.f79 = some F35 := by kernel_rfl
theorem lk80 : cF Try.prog no Try.f80 = some F91 := by kernel_rfl
theorem lk89 : cF Try.prog no Try.f89 = some F186 := by kernel_rfl
theorem lk90 : cF Try.prog no Try.f90 = some F164 := by kernel_rfl
theorem lk91 : cF Try.prog no Try.f91 = some F37 := by kernel_rfl
theorem lk92 : cF Try.prog no Try.f92 = some F133 := by kernel_rfl
theorem lk96 : cF Try.prog no Try.f96 = some F269 := by kernel_rfl

theorem look_mem {α : Type} : ∀ {S : List (Nat × α)} {t : Nat} {v : α}, S.lookup t = some v → (t, v) ∈ S
  | [], t, v, h => by simp at h
  | (a, b) :: S, t, v, h => by
    simp only [List.lookup] at h
    split at h
    · rename_i e; simp at e; subst e; cases h; exact .head _
    · exact .tail _ (look_mem h)

theorem lks : ∀ p ∈ noT, ∃ pf fn, Try.prog.funcs[p.1]? = some pf ∧ cF Try.prog no pf = some fn ∧ prg p.2 = some fn := by
  simp only [noT, List.forall_mem_cons]
  exact ⟨⟨_, _, Try.func13, lk13, g119⟩,
    ⟨_, _, Try.func24, lk24, g145⟩,
    ⟨_, _, Try.func26, lk26, g159⟩,
    ⟨_, _, Try.func27, lk27, g50⟩,
    ⟨_, _, Try.func28, lk28, g128⟩,
    ⟨_, _, Try.func45, lk45, g184⟩,
    ⟨_, _, Try.func46, lk46, g34⟩,
    ⟨_, _, Try.func47, lk47, g215⟩,
    ⟨_, _, Try.func48, lk48, g77⟩,
    ⟨_, _, Try.func54, lk54, g217⟩,
    ⟨_, _, Try.func55, lk55, g171⟩,
    ⟨_, _, Try.func56, lk56, g82⟩,
    ⟨_, _, Try.func59, lk59, g230⟩,
    ⟨_, _, Try.func65, lk65, g149⟩,
    ⟨_, _, Try.func66, lk66, g214⟩,
    ⟨_, _, Try.func67, lk67, g165⟩,
    ⟨_, _, Try.func68, lk68, g74⟩,
    ⟨_, _, Try.func69, lk69, g101⟩,
    ⟨_, _, Try.func70, lk70, g134⟩,
    ⟨_, _, Try.func72, lk72, g103⟩,
    ⟨_, _, Try.func77, lk77, g245⟩,
    ⟨_, _, Try.func78, lk78, g258⟩,
    ⟨_, _, Try.func79, lk79, g35⟩,
    ⟨_, _, Try.func80, lk80, g91⟩,
    ⟨_, _, Try.func89, lk89, g186⟩,
    ⟨_, _, Try.func90, lk90, g164⟩,
    ⟨_, _, Try.func91, lk91, g37⟩,
    ⟨_, _, Try.func92, lk92, g133⟩,
    ⟨_, _, Try.func96, lk96, g269⟩, by simp⟩

theorem link : Link Try.prog no prg := by
  intro g fn hg
  refine ⟨List.all_eq_true.1 prg_ok (g, fn) (look_mem hg), fun f hf => ?_⟩
  obtain ⟨pf, fn', h1, h2, h3⟩ := lks (f, g) (look_mem hf)
  have h3 : prg g = some fn' := h3
  rw [hg] at h3
  cases h3
  exact ⟨pf, h1, h2⟩

theorem mixed : Try.prog.follows .mixedOrders = true := by kernel_rfl

end Go.Proofs.Ytojdedadgddhgaa.AL
