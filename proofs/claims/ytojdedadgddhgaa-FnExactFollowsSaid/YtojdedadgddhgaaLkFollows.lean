/- Each function of this seat is what its form in the small language says. Printed by program. -/
import Derived.Test.YtojdedadgddhgaaProg
import Derived.Test.YtojdedadgddhgaaAlS9
import Derived.Test.YtojdedadgddhgaaIrFollows
import Derived.KernelRfl
namespace Go.Proofs.Ytojdedadgddhgaa.AL
open Go

def noT : List (Nat × Nat) := [(5, 111), (17, 147), (19, 162), (21, 131), (22, 198), (23, 46), (62, 161), (64, 130)]
def no (f : Nat) : Option Nat := noT.lookup f

theorem lk5 : cF Try.prog no Try.f5 = some F111 := by kernel_rfl
theorem lk17 : cF Try.prog no Try.f17 = some F147 := by kernel_rfl
theorem lk19 : cF Try.prog no Try.f19 = some F162 := by kernel_rfl
theorem lk21 : cF Try.prog no Try.f21 = some F131 := by kernel_rfl
theorem lk22 : cF Try.prog no Try.f22 = some F198 := by kernel_rfl
theorem lk23 : cF Try.prog no Try.f23 = some F46 := by kernel_rfl
theorem lk62 : cF Try.prog no Try.f62 = some F161 := by kernel_rfl
theorem lk64 : cF Try.prog no Try.f64 = some F130 := by kernel_rfl

theorem look_mem {α : Type} : ∀ {S : List (Nat × α)} {t : Nat} {v : α}, S.lookup t = some v → (t, v) ∈ S
  | [], t, v, h => by simp at h
  | (a, b) :: S, t, v, h => by
    simp only [List.lookup] at h
    split at h
    · rename_i e; simp at e; subst e; cases h; exact .head _
    · exact .tail _ (look_mem h)

theorem lks : ∀ p ∈ noT, ∃ pf fn, Try.prog.funcs[p.1]? = some pf ∧ cF Try.prog no pf = some fn ∧ prg p.2 = some fn := by
  simp only [noT, List.forall_mem_cons]
  exact ⟨⟨_, _, Try.func5, lk5, g111⟩,
    ⟨_, _, Try.func17, lk17, g147⟩,
    ⟨_, _, Try.func19, lk19, g162⟩,
    ⟨_, _, Try.func21, lk21, g131⟩,
    ⟨_, _, Try.func22, lk22, g198⟩,
    ⟨_, _, Try.func23, lk23, g46⟩,
    ⟨_, _, Try.func62, lk62, g161⟩,
    ⟨_, _, Try.func64, lk64, g130⟩, by simp⟩

theorem link : Link Try.prog no prg := by
  intro g fn hg
  refine ⟨List.all_eq_true.1 prg_ok (g, fn) (look_mem hg), fun f hf => ?_⟩
  obtain ⟨pf, fn', h1, h2, h3⟩ := lks (f, g) (look_mem hf)
  have h3 : prg g = some fn' := h3
  rw [hg] at h3
  cases h3
  exact ⟨pf, h1, h2⟩

theorem mixed : Try.prog.follows .mixedOrders = true := by kernel_rfl

end Go.Proofs.Ytojdedadgddhgaa.AL
