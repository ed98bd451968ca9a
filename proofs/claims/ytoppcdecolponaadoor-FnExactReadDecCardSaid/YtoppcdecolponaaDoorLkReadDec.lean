/- Each function of this seat is what its form in the small language says. Printed by program. -/
import Derived.Test.YtoppcdecolponaaDoorProg
import Derived.Test.YtoppcdecolponaaDoorAlS9
import Derived.Test.YtoppcdecolponaaDoorAlN
import Derived.Test.YtoppcdecolponaaDoorIrReadDec
import Derived.Test.YtoppcdecolponaaDoorNaReadDec
import Derived.KernelRfl
namespace Go.Proofs.YtoppcdecolponaaDoor.AL
open Go
def noT : List (Nat × Nat) := [(4, 114), (11, 206), (12, 63), (26, 187), (32, 408)]
def noF (f : Nat) : Option Nat := noT.lookup f
theorem lk4 : cF Tryd.prog noF Tryd.f4 = some F114 := by kernel_rfl
theorem lk11 : cF Tryd.prog noF Tryd.f11 = some F206 := by kernel_rfl
theorem lk12 : cF Tryd.prog noF Tryd.f12 = some F63 := by kernel_rfl
theorem lk26 : cF Tryd.prog noF Tryd.f26 = some F187 := by kernel_rfl
theorem lks : ∀ p ∈ noT, prg p.2 = none ∨ ∃ pf fn, Tryd.prog.funcs[p.1]? = some pf ∧ cF Tryd.prog noF pf = some fn ∧ prg p.2 = some fn := by
 simp only [noT, List.forall_mem_cons]
 exact ⟨Or.inr ⟨_, _, Tryd.func4, lk4, g114⟩,
  Or.inr ⟨_, _, Tryd.func11, lk11, g206⟩,
  Or.inr ⟨_, _, Tryd.func12, lk12, g63⟩,
  Or.inr ⟨_, _, Tryd.func26, lk26, g187⟩,
  Or.inl (by kernel_rfl), by simp⟩
abbrev noW (W : World) : No := ⟨noF, W.heap.size, W⟩
theorem nats_of (W : World) (hv : Vars W) : ∀ g args v, nat g args = some v → ∀ f, noF f = some g → NatSim Tryd.prog (noW W) f args v := by
 intro g args v hn f hf
 have hm := look_mem hf
 rcases nat_cases hn with ⟨rfl, s, d, rfl, hs, rfl⟩ | ⟨rfl, n, rfl, hb, rfl⟩ | ⟨rfl, s, c, rfl, rfl⟩ | ⟨rfl, s, c, rfl, rfl⟩ | ⟨rfl, s, c, rfl, rfl⟩
 · obtain rfl := one_num (k := 32) (by kernel_rfl) hm
   exact ⟨en408, fun w hk => w_number s d hs w (hv.on hk.2)⟩
 · exact (no_num (by kernel_rfl) hm).elim
 · exact (no_num (by kernel_rfl) hm).elim
 · exact (no_num (by kernel_rfl) hm).elim
 · exact (no_num (by kernel_rfl) hm).elim
theorem link (W : World) (hv : Vars W) : Link Tryd.prog (noW W) prg := by
 refine ⟨fun g fn hg => ⟨List.all_eq_true.1 prg_ok (g, fn) (look_mem hg), fun f hf => ?_⟩, nats_of W hv, fun f hf => ?_⟩
 · rcases lks (f, g) (look_mem hf) with h0 | ⟨pf, fn', h1, h2, h3⟩
   · have h0 : prg g = none := h0
     rw [hg] at h0; cases h0
   · have h3 : prg g = some fn' := h3
     rw [hg] at h3
     cases h3
     exact ⟨pf, h1, h2⟩
 · have hm := look_mem hf
   exact (no_num (by kernel_rfl) hm).elim
theorem mixed : Tryd.prog.follows .mixedOrders = true := by kernel_rfl
end Go.Proofs.YtoppcdecolponaaDoor.AL
