/- Each function of this seat is what its form in the small language says. Printed by program. -/
import Derived.Test.YtojdedadgddhgaaProg
import Derived.Test.YtojdedadgddhgaaAlS9
import Derived.Test.YtojdedadgddhgaaIrDoneOf
import Derived.KernelRfl
namespace Go.Proofs.Ytojdedadgddhgaa.AL
open Go

def noT : List (Nat × Nat) := [(9, 109), (17, 147), (19, 162), (21, 131), (41, 190), (42, 42), (43, 142), (44, 141), (62, 161), (64, 130), (74, 262), (75, 255), (76, 43), (95, 268)]
def no (f : Nat) : Option Nat := noT.lookup f

theorem lk9 : cF Try.prog no Try.f9 = some F109 := by kernel_rfl
theorem lk17 : cF Try.prog no Try.f17 = some F147 := by kernel_rfl
theorem lk19 : cF Try.prog no Try.f19 = some F162 := by kernel_rfl
theorem lk21 : cF Try.prog no Try.f21 = some F131 := by kernel_rfl
theorem lk41 : cF Try.prog no Try.f41 = some F190 := by kernel_rfl
theorem lk42 : cF Try.prog no Try.f42 = some F42 := by kernel_rfl
theorem lk43 : cF Try.prog no Try.f43 = some F142 := by kernel_rfl
theorem lk44 : cF Try.prog no Try.f44 = some F141 := by kernel_rfl
theorem lk62 : cF Try.prog no Try.f62 = some F161 := by kernel_rfl
theorem lk64 : cF Try.prog no Try.f64 = some F130 := by kernel_rfl
theorem lk74 : cF Try.prog no Try.f74 = some F262 := by kernel_rfl
theorem lk75 : cF Try.prog no Try.f75 = some F255 := by kernel_rfl
theorem lk76 : cF Try.prog no Try.f76 = some F43 := by kernel_rfl
theorem lk95 : cF Try.prog no Try.f95 = some F268 := by kernel_rfl

theorem look_mem {α : Type} : ∀ {S : List (Nat × α)} {t : Nat} {v : α}, S.lookup t = some v → (t, v) ∈ S
  | [], t, v, h => by simp at h
  | (a, b) :: S, t, v, h => by
    simp only [List.lookup] at h
    split at h
    · rename_i e; simp at e; subst e; cases h; exact .head _
    · exact .tail _ (look_mem h)

theorem lks : ∀ p ∈ noT, ∃ pf fn, Try.prog.funcs[p.1]? = some pf ∧ cF Try.prog no pf = some fn ∧ prg p.2 = some fn := by
  simp only [noT, List.forall_mem_cons]
  exact ⟨⟨_, _, Try.func9, lk9, g109⟩,
    ⟨_, _, Try.func17, lk17, g147⟩,
    ⟨_, _, Try.func19, lk19, g162⟩,
    ⟨_, _, Try.func21, lk21, g131⟩,
    ⟨_, _, Try.func41, lk41, g190⟩,
    ⟨_, _, Try.func42, lk42, g42⟩,
    ⟨_, _, Try.func43, lk43, g142⟩,
    ⟨_, _, Try.func44, lk44, g141⟩,
    ⟨_, _, Try.func62, lk62, g161⟩,
    ⟨_, _, Try.func64, lk64, g130⟩,
    ⟨_, _, Try.func74, lk74, g262⟩,
    ⟨_, _, Try.func75, lk75, g255⟩,
    ⟨_, _, Try.func76, lk76, g43⟩,
    ⟨_, _, Try.func95, lk95, g268⟩, by simp⟩

theorem link : Link Try.prog no prg := by
  intro g fn hg
  refine ⟨List.all_eq_true.1 prg_ok (g, fn) (look_mem hg), fun f hf => ?_⟩
  obtain ⟨pf, fn', h1, h2, h3⟩ := lks (f, g) (look_mem hf)
  have h3 : prg g = some fn' := h3
  rw [hg] at h3
  cases h3
  exact ⟨pf, h1, h2⟩

theorem mixed : Try.prog.follows .mixedOrders = true := by kernel_rfl

end Go.Proofs.Ytojdedadgddhgaa.AL
