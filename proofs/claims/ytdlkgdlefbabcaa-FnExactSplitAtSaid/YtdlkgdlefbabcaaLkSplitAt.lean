/- Each function of this seat is what its form in the small language says. Printed by program. -/
import Derived.Test.YtdlkgdlefbabcaaProg
import Derived.Test.YtdlkgdlefbabcaaAlS9
import Derived.Test.YtdlkgdlefbabcaaIrSplitAt
import Derived.KernelRfl
namespace Go.Proofs.Ytdlkgdlefbabcaa.AL
open Go

def noT : List (Nat × Nat) := [(10, 301), (15, 145), (17, 159), (19, 128), (46, 75), (49, 319), (50, 320), (51, 321), (52, 322), (68, 153), (70, 169), (72, 138), (76, 149), (80, 165), (83, 134), (98, 85), (99, 332), (100, 333), (101, 148), (102, 334), (103, 163), (104, 335), (105, 132), (126, 164), (130, 133), (135, 338), (136, 339), (137, 340)]
def no (f : Nat) : Option Nat := noT.lookup f

theorem lk10 : cF Try.prog no Try.f10 = some F301 := by kernel_rfl
theorem lk15 : cF Try.prog no Try.f15 = some F145 := by kernel_rfl
theorem lk17 : cF Try.prog no Try.f17 = some F159 := by kernel_rfl
theorem lk19 : cF Try.prog no Try.f19 = some F128 := by kernel_rfl
theorem lk46 : cF Try.prog no Try.f46 = some F75 := by kernel_rfl
theorem lk49 : cF Try.prog no Try.f49 = some F319 := by kernel_rfl
theorem lk50 : cF Try.prog no Try.f50 = some F320 := by kernel_rfl
theorem lk51 : cF Try.prog no Try.f51 = some F321 := by kernel_rfl
theorem lk52 : cF Try.prog no Try.f52 = some F322 := by kernel_rfl
theorem lk68 : cF Try.prog no Try.f68 = some F153 := by kernel_rfl
theorem lk70 : cF Try.prog no Try.f70 = some F169 := by kernel_rfl
theorem lk72 : cF Try.prog no Try.f72 = some F138 := by kernel_rfl
theorem lk76 : cF Try.prog no Try.f76 = some F149 := by kernel_rfl
theorem lk80 : cF Try.prog no Try.f80 = some F165 := by kernel_rfl
theorem lk83 : cF Try.prog no Try.f83 = some F134 := by kernel_rfl
theorem lk98 : cF Try.prog no Try.f98 = some F85 := by kernel_rfl
theorem lk99 : cF Try.prog no Try.f99 = some F332 := by kernel_rfl
theorem lk100 : cF Try.prog no Try.f100 = some F333 := by kernel_rfl
theorem lk101 : cF Try.prog no Try.f101 = some F148 := by kernel_rfl
theorem lk102 : cF Try.prog no Try.f102 = some F334 := by kernel_rfl
theorem lk103 : cF Try.prog no Try.f103 = some F163 := by kernel_rfl
theorem lk104 : cF Try.prog no Try.f104 = some F335 := by kernel_rfl
theorem lk105 : cF Try.prog no Try.f105 = some F132 := by kernel_rfl
theorem lk126 : cF Try.prog no Try.f126 = some F164 := by kernel_rfl
theorem lk130 : cF Try.prog no Try.f130 = some F133 := by kernel_rfl
theorem lk135 : cF Try.prog no Try.f135 = some F338 := by kernel_rfl
theorem lk136 : cF Try.prog no Try.f136 = some F339 := by kernel_rfl
theorem lk137 : cF Try.prog no Try.f137 = some F340 := by kernel_rfl

theorem look_mem {α : Type} : ∀ {S : List (Nat × α)} {t : Nat} {v : α}, S.lookup t = some v → (t, v) ∈ S
  | [], t, v, h => by simp at h
  | (a, b) :: S, t, v, h => by
    simp only [List.lookup] at h
    split at h
    · rename_i e; simp at e; subst e; cases h; exact .head _
    · exact .tail _ (look_mem h)

theorem lks : ∀ p ∈ noT, ∃ pf fn, Try.prog.funcs[p.1]? = some pf ∧ cF Try.prog no pf = some fn ∧ prg p.2 = some fn := by
  simp only [noT, List.forall_mem_cons]
  exact ⟨⟨_, _, Try.func10, lk10, g301⟩,
    ⟨_, _, Try.func15, lk15, g145⟩,
    ⟨_, _, Try.func17, lk17, g159⟩,
    ⟨_, _, Try.func19, lk19, g128⟩,
    ⟨_, _, Try.func46, lk46, g75⟩,
    ⟨_, _, Try.func49, lk49, g319⟩,
    ⟨_, _, Try.func50, lk50, g320⟩,
    ⟨_, _, Try.func51, lk51, g321⟩,
    ⟨_, _, Try.func52, lk52, g322⟩,
    ⟨_, _, Try.func68, lk68, g153⟩,
    ⟨_, _, Try.func70, lk70, g169⟩,
    ⟨_, _, Try.func72, lk72, g138⟩,
    ⟨_, _, Try.func76, lk76, g149⟩,
    ⟨_, _, Try.func80, lk80, g165⟩,
    ⟨_, _, Try.func83, lk83, g134⟩,
    ⟨_, _, Try.func98, lk98, g85⟩,
    ⟨_, _, Try.func99, lk99, g332⟩,
    ⟨_, _, Try.func100, lk100, g333⟩,
    ⟨_, _, Try.func101, lk101, g148⟩,
    ⟨_, _, Try.func102, lk102, g334⟩,
    ⟨_, _, Try.func103, lk103, g163⟩,
    ⟨_, _, Try.func104, lk104, g335⟩,
    ⟨_, _, Try.func105, lk105, g132⟩,
    ⟨_, _, Try.func126, lk126, g164⟩,
    ⟨_, _, Try.func130, lk130, g133⟩,
    ⟨_, _, Try.func135, lk135, g338⟩,
    ⟨_, _, Try.func136, lk136, g339⟩,
    ⟨_, _, Try.func137, lk137, g340⟩, by simp⟩

theorem link : Link Try.prog no prg := by
  intro g fn hg
  refine ⟨List.all_eq_true.1 prg_ok (g, fn) (look_mem hg), fun f hf => ?_⟩
  obtain ⟨pf, fn', h1, h2, h3⟩ := lks (f, g) (look_mem hf)
  have h3 : prg g = some fn' := h3
  rw [hg] at h3
  cases h3
  exact ⟨pf, h1, h2⟩

theorem mixed : Try.prog.follows .mixedOrders = true := by kernel_rfl

end Go.Proofs.Ytdlkgdlefbabcaa.AL
