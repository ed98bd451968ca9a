/- Each function of this seat is what its form in the small language says. Printed by program. -/
import Derived.Test.YtojdedadgddhgaaProg
import Derived.Test.YtojdedadgddhgaaAlS9
import Derived.Test.YtojdedadgddhgaaIrSameMst
import Derived.KernelRfl
namespace Go.Proofs.Ytojdedadgddhgaa.AL
open Go

def noT : List (Nat × Nat) := [(12, 116), (49, 151), (50, 210), (51, 167), (52, 70), (53, 136), (81, 154), (82, 211), (83, 170), (84, 263), (85, 71), (86, 139), (97, 153), (98, 240), (99, 169), (100, 264), (101, 138), (109, 148), (110, 163), (111, 132)]
def no (f : Nat) : Option Nat := noT.lookup f

theorem lk12 : cF Try.prog no Try.f12 = some F116 := by kernel_rfl
theorem lk49 : cF Try.prog no Try.f49 = some F151 := by kernel_rfl
theorem lk50 : cF Try.prog no Try.f50 = some F210 := by kernel_rfl
theorem lk51 : cF Try.prog no Try.f51 = some F167 := by kernel_rfl
theorem lk52 : cF Try.prog no Try.f52 = some F70 := by kernel_rfl
theorem lk53 : cF Try.prog no Try.f53 = some F136 := by kernel_rfl
theorem lk81 : cF Try.prog no Try.f81 = some F154 := by kernel_rfl
theorem lk82 : cF Try.prog no Try.f82 = some F211 := by kernel_rfl
theorem lk83 : cF Try.prog no Try.f83 = some F170 := by kernel_rfl
theorem lk84 : cF Try.prog no Try.f84 = some F263 := by kernel_rfl
theorem lk85 : cF Try.prog no Try.f85 = some F71 := by kernel_rfl
theorem lk86 : cF Try.prog no Try.f86 = some F139 := by kernel_rfl
theorem lk97 : cF Try.prog no Try.f97 = some F153 := by kernel_rfl
theorem lk98 : cF Try.prog no Try.f98 = some F240 := by kernel_rfl
theorem lk99 : cF Try.prog no Try.f99 = some F169 := by kernel_rfl
theorem lk100 : cF Try.prog no Try.f100 = some F264 := by kernel_rfl
theorem lk101 : cF Try.prog no Try.f101 = some F138 := by kernel_rfl
theorem lk109 : cF Try.prog no Try.f109 = some F148 := by kernel_rfl
theorem lk110 : cF Try.prog no Try.f110 = some F163 := by kernel_rfl
theorem lk111 : cF Try.prog no Try.f111 = some F132 := by kernel_rfl

theorem look_mem {α : Type} : ∀ {S : List (Nat × α)} {t : Nat} {v : α}, S.lookup t = some v → (t, v) ∈ S
  | [], t, v, h => by simp at h
  | (a, b) :: S, t, v, h => by
    simp only [List.lookup] at h
    split at h
    · rename_i e; simp at e; subst e; cases h; exact .head _
    · exact .tail _ (look_mem h)

theorem lks : ∀ p ∈ noT, ∃ pf fn, Try.prog.funcs[p.1]? = some pf ∧ cF Try.prog no pf = some fn ∧ prg p.2 = some fn := by
  simp only [noT, List.forall_mem_cons]
  exact ⟨⟨_, _, Try.func12, lk12, g116⟩,
    ⟨_, _, Try.func49, lk49, g151⟩,
    ⟨_, _, Try.func50, lk50, g210⟩,
    ⟨_, _, Try.func51, lk51, g167⟩,
    ⟨_, _, Try.func52, lk52, g70⟩,
    ⟨_, _, Try.func53, lk53, g136⟩,
    ⟨_, _, Try.func81, lk81, g154⟩,
    ⟨_, _, Try.func82, lk82, g211⟩,
    ⟨_, _, Try.func83, lk83, g170⟩,
    ⟨_, _, Try.func84, lk84, g263⟩,
    ⟨_, _, Try.func85, lk85, g71⟩,
    ⟨_, _, Try.func86, lk86, g139⟩,
    ⟨_, _, Try.func97, lk97, g153⟩,
    ⟨_, _, Try.func98, lk98, g240⟩,
    ⟨_, _, Try.func99, lk99, g169⟩,
    ⟨_, _, Try.func100, lk100, g264⟩,
    ⟨_, _, Try.func101, lk101, g138⟩,
    ⟨_, _, Try.func109, lk109, g148⟩,
    ⟨_, _, Try.func110, lk110, g163⟩,
    ⟨_, _, Try.func111, lk111, g132⟩, by simp⟩

theorem link : Link Try.prog no prg := by
  intro g fn hg
  refine ⟨List.all_eq_true.1 prg_ok (g, fn) (look_mem hg), fun f hf => ?_⟩
  obtain ⟨pf, fn', h1, h2, h3⟩ := lks (f, g) (look_mem hf)
  have h3 : prg g = some fn' := h3
  rw [hg] at h3
  cases h3
  exact ⟨pf, h1, h2⟩

theorem mixed : Try.prog.follows .mixedOrders = true := by kernel_rfl

end Go.Proofs.Ytojdedadgddhgaa.AL
