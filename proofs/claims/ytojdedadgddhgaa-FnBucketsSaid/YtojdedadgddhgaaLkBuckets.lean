/- Each function of this seat is what its form in the small language says. Printed by program. -/
import Derived.Test.YtojdedadgddhgaaProg
import Derived.Test.YtojdedadgddhgaaAlS9
import Derived.Test.YtojdedadgddhgaaIrBuckets
import Derived.KernelRfl
namespace Go.Proofs.Ytojdedadgddhgaa.AL
open Go

def noT : List (Nat × Nat) := [(7, 104), (29, 123), (30, 192), (31, 26), (32, 176), (33, 25), (34, 28), (35, 122), (36, 27), (37, 24), (38, 76), (59, 230), (71, 191), (72, 103), (73, 90), (93, 218), (94, 231), (102, 219), (103, 175), (104, 228), (105, 178), (106, 233), (107, 177), (108, 234), (112, 229)]
def no (f : Nat) : Option Nat := noT.lookup f

theorem lk7 : cF Try.prog no Try.f7 = some F104 := by kernel_rfl
theorem lk29 : cF Try.prog no Try.f29 = some F123 := by kernel_rfl
theorem lk30 : cF Try.prog no Try.f30 = some F192 := by kernel_rfl
theorem lk31 : cF Try.prog no Try.f31 = some F26 := by kernel_rfl
theorem lk32 : cF Try.prog no Try.f32 = some F176 := by kernel_rfl
theorem lk33 : cF Try.prog no Try.f33 = some F25 := by kernel_rfl
theorem lk34 : cF Try.prog no Try.f34 = some F28 := by kernel_rfl
theorem lk35 : cF Try.prog no Try.f35 = some F122 := by kernel_rfl
theorem lk36 : cF Try.prog no Try.f36 = some F27 := by kernel_rfl
theorem lk37 : cF Try.prog no Try.f37 = some F24 := by kernel_rfl
theorem lk38 : cF Try.prog no Try.f38 = some F76 := by kernel_rfl
theorem lk59 : cF Try.prog no Try.f59 = some F230 := by kernel_rfl
theorem lk71 : cF Try.prog no Try.f71 = some F191 := by kernel_rfl
theorem lk72 : cF Try.prog no Try.f72 = some F103 := by kernel_rfl
theorem lk73 : cF Try.prog no Try.f73 = some F90 := by kernel_rfl
theorem lk93 : cF Try.prog no Try.f93 = some F218 := by kernel_rfl
theorem lk94 : cF Try.prog no Try.f94 = some F231 := by kernel_rfl
theorem lk102 : cF Try.prog no Try.f102 = some F219 := by kernel_rfl
theorem lk103 : cF Try.prog no Try.f103 = some F175 := by kernel_rfl
theorem lk104 : cF Try.prog no Try.f104 = some F228 := by kernel_rfl
theorem lk105 : cF Try.prog no Try.f105 = some F178 := by kernel_rfl
theorem lk106 : cF Try.prog no Try.f106 = some F233 := by kernel_rfl
theorem lk107 : cF Try.prog no Try.f107 = some F177 := by kernel_rfl
theorem lk108 : cF Try.prog no Try.f108 = some F234 := by kernel_rfl
theorem lk112 : cF Try.prog no Try.f112 = some F229 := by kernel_rfl

theorem look_mem {α : Type} : ∀ {S : List (Nat × α)} {t : Nat} {v : α}, S.lookup t = some v → (t, v) ∈ S
  | [], t, v, h => by simp at h
  | (a, b) :: S, t, v, h => by
    simp only [List.lookup] at h
    split at h
    · rename_i e; simp at e; subst e; cases h; exact .head _
    · exact .tail _ (look_mem h)

theorem lks : ∀ p ∈ noT, ∃ pf fn, Try.prog.funcs[p.1]? = some pf ∧ cF Try.prog no pf = some fn ∧ prg p.2 = some fn := by
  simp only [noT, List.forall_mem_cons]
  exact ⟨⟨_, _, Try.func7, lk7, g104⟩,
    ⟨_, _, Try.func29, lk29, g123⟩,
    ⟨_, _, Try.func30, lk30, g192⟩,
    ⟨_, _, Try.func31, lk31, g26⟩,
    ⟨_, _, Try.func32, lk32, g176⟩,
    ⟨_, _, Try.func33, lk33, g25⟩,
    ⟨_, _, Try.func34, lk34, g28⟩,
    ⟨_, _, Try.func35, lk35, g122⟩,
    ⟨_, _, Try.func36, lk36, g27⟩,
    ⟨_, _, Try.func37, lk37, g24⟩,
    ⟨_, _, Try.func38, lk38, g76⟩,
    ⟨_, _, Try.func59, lk59, g230⟩,
    ⟨_, _, Try.func71, lk71, g191⟩,
    ⟨_, _, Try.func72, lk72, g103⟩,
    ⟨_, _, Try.func73, lk73, g90⟩,
    ⟨_, _, Try.func93, lk93, g218⟩,
    ⟨_, _, Try.func94, lk94, g231⟩,
    ⟨_, _, Try.func102, lk102, g219⟩,
    ⟨_, _, Try.func103, lk103, g175⟩,
    ⟨_, _, Try.func104, lk104, g228⟩,
    ⟨_, _, Try.func105, lk105, g178⟩,
    ⟨_, _, Try.func106, lk106, g233⟩,
    ⟨_, _, Try.func107, lk107, g177⟩,
    ⟨_, _, Try.func108, lk108, g234⟩,
    ⟨_, _, Try.func112, lk112, g229⟩, by simp⟩

theorem link : Link Try.prog no prg := by
  intro g fn hg
  refine ⟨List.all_eq_true.1 prg_ok (g, fn) (look_mem hg), fun f hf => ?_⟩
  obtain ⟨pf, fn', h1, h2, h3⟩ := lks (f, g) (look_mem hf)
  have h3 : prg g = some fn' := h3
  rw [hg] at h3
  cases h3
  exact ⟨pf, h1, h2⟩

theorem mixed : Try.prog.follows .mixedOrders = true := by kernel_rfl

end Go.Proofs.Ytojdedadgddhgaa.AL
