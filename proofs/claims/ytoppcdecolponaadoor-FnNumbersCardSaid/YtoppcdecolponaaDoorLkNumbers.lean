/- Each function of this seat is what its form in the small language says. Printed by program. -/
import Derived.Test.YtoppcdecolponaaDoorProg
import Derived.Test.YtoppcdecolponaaDoorAlS10
import Derived.Test.YtoppcdecolponaaDoorKl
import Derived.Test.YtoppcdecolponaaDoorIrNumbers
import Derived.Test.YtoppcdecolponaaDoorNaNumbers
import Derived.KernelRfl
namespace Go.Proofs.YtoppcdecolponaaDoor.AL
open Go
def noT : List (Nat × Nat) := [(5, 121), (12, 63), (13, 123), (14, 196), (15, 193), (16, 79), (17, 65), (18, 45), (19, 64), (20, 38), (21, 78), (22, 48), (23, 195), (32, 408), (33, 231), (34, 232), (35, 236), (36, 103), (37, 272), (38, 273), (39, 216), (40, 233), (41, 235), (42, 230), (56, 228), (57, 234), (58, 229)]
def noF (f : Nat) : Option Nat := noT.lookup f
theorem lk5 : cF Tryd.prog noF Tryd.f5 = some F121 := by kernel_rfl
theorem lk12 : cF Tryd.prog noF Tryd.f12 = some F63 := by kernel_rfl
theorem lk13 : cF Tryd.prog noF Tryd.f13 = some F123 := by kernel_rfl
theorem lk14 : cF Tryd.prog noF Tryd.f14 = some F196 := by kernel_rfl
theorem lk15 : cF Tryd.prog noF Tryd.f15 = some F193 := by kernel_rfl
theorem lk16 : cF Tryd.prog noF Tryd.f16 = some F79 := by kernel_rfl
theorem lk17 : cF Tryd.prog noF Tryd.f17 = some F65 := by kernel_rfl
theorem lk18 : cF Tryd.prog noF Tryd.f18 = some F45 := by kernel_rfl
theorem lk19 : cF Tryd.prog noF Tryd.f19 = some F64 := by kernel_rfl
theorem lk20 : cF Tryd.prog noF Tryd.f20 = some F38 := by kernel_rfl
theorem lk21 : cF Tryd.prog noF Tryd.f21 = some F78 := by kernel_rfl
theorem lk22 : cF Tryd.prog noF Tryd.f22 = some F48 := by kernel_rfl
theorem lk23 : cF Tryd.prog noF Tryd.f23 = some F195 := by kernel_rfl
theorem lk33 : cF Tryd.prog noF Tryd.f33 = some F231 := by kernel_rfl
theorem lk34 : cF Tryd.prog noF Tryd.f34 = some F232 := by kernel_rfl
theorem lk35 : cF Tryd.prog noF Tryd.f35 = some F236 := by kernel_rfl
theorem lk36 : cF Tryd.prog noF Tryd.f36 = some F103 := by kernel_rfl
theorem lk39 : cF Tryd.prog noF Tryd.f39 = some F216 := by kernel_rfl
theorem lk40 : cF Tryd.prog noF Tryd.f40 = some F233 := by kernel_rfl
theorem lk41 : cF Tryd.prog noF Tryd.f41 = some F235 := by kernel_rfl
theorem lk42 : cF Tryd.prog noF Tryd.f42 = some F230 := by kernel_rfl
theorem lk56 : cF Tryd.prog noF Tryd.f56 = some F228 := by kernel_rfl
theorem lk57 : cF Tryd.prog noF Tryd.f57 = some F234 := by kernel_rfl
theorem lk58 : cF Tryd.prog noF Tryd.f58 = some F229 := by kernel_rfl
theorem lks : ∀ p ∈ noT, prg p.2 = none ∨ ∃ pf fn, Tryd.prog.funcs[p.1]? = some pf ∧ cF Tryd.prog noF pf = some fn ∧ prg p.2 = some fn := by
 simp only [noT, List.forall_mem_cons]
 exact ⟨Or.inr ⟨_, _, Tryd.func5, lk5, g121⟩,
  Or.inr ⟨_, _, Tryd.func12, lk12, g63⟩,
  Or.inr ⟨_, _, Tryd.func13, lk13, g123⟩,
  Or.inr ⟨_, _, Tryd.func14, lk14, g196⟩,
  Or.inr ⟨_, _, Tryd.func15, lk15, g193⟩,
  Or.inr ⟨_, _, Tryd.func16, lk16, g79⟩,
  Or.inr ⟨_, _, Tryd.func17, lk17, g65⟩,
  Or.inr ⟨_, _, Tryd.func18, lk18, g45⟩,
  Or.inr ⟨_, _, Tryd.func19, lk19, g64⟩,
  Or.inr ⟨_, _, Tryd.func20, lk20, g38⟩,
  Or.inr ⟨_, _, Tryd.func21, lk21, g78⟩,
  Or.inr ⟨_, _, Tryd.func22, lk22, g48⟩,
  Or.inr ⟨_, _, Tryd.func23, lk23, g195⟩,
  Or.inl (by kernel_rfl),
  Or.inr ⟨_, _, Tryd.func33, lk33, g231⟩,
  Or.inr ⟨_, _, Tryd.func34, lk34, g232⟩,
  Or.inr ⟨_, _, Tryd.func35, lk35, g236⟩,
  Or.inr ⟨_, _, Tryd.func36, lk36, g103⟩,
  Or.inl (by kernel_rfl),
  Or.inl (by kernel_rfl),
  Or.inr ⟨_, _, Tryd.func39, lk39, g216⟩,
  Or.inr ⟨_, _, Tryd.func40, lk40, g233⟩,
  Or.inr ⟨_, _, Tryd.func41, lk41, g235⟩,
  Or.inr ⟨_, _, Tryd.func42, lk42, g230⟩,
  Or.inr ⟨_, _, Tryd.func56, lk56, g228⟩,
  Or.inr ⟨_, _, Tryd.func57, lk57, g234⟩,
  Or.inr ⟨_, _, Tryd.func58, lk58, g229⟩, by simp⟩
abbrev noW (W : World) : No := ⟨noF, W.heap.size, W⟩
theorem nats_of (W : World) (hv : Vars W) : ∀ g args v, nat g args = some v → ∀ f, noF f = some g → NatSim Tryd.prog (noW W) f args v := by
 intro g args v hn f hf
 have hm := look_mem hf
 rcases nat_cases hn with ⟨rfl, s, d, rfl, hs, rfl⟩ | ⟨rfl, n, rfl, hb, rfl⟩ | ⟨rfl, s, c, rfl, rfl⟩ | ⟨rfl, s, c, rfl, rfl⟩ | ⟨rfl, s, c, rfl, rfl⟩
 · obtain rfl := one_num (k := 32) (by kernel_rfl) hm
   exact ⟨en408, fun w hk => w_number s d hs w (hv.on hk.2)⟩
 · obtain rfl := one_num (k := 37) (by kernel_rfl) hm
   exact ⟨en272, fun w hk => w_itoa n hb w (hv.on hk.2)⟩
 · obtain rfl := one_num (k := 38) (by kernel_rfl) hm
   exact ⟨en273, fun w hk => (Tryd.strings_IndexByte s c w).mono fun e w' ⟨h1, h2⟩ => ⟨h1, by rw [h2]; exact Go.RowKit.Below.refl _ _⟩⟩
 · exact (no_num (by kernel_rfl) hm).elim
 · exact (no_num (by kernel_rfl) hm).elim
theorem link (W : World) (hv : Vars W) : Link Tryd.prog (noW W) prg := by
 refine ⟨fun g fn hg => ⟨List.all_eq_true.1 prg_ok (g, fn) (look_mem hg), fun f hf => ?_⟩, nats_of W hv, fun f hf => ?_⟩
 · rcases lks (f, g) (look_mem hf) with h0 | ⟨pf, fn', h1, h2, h3⟩
   · have h0 : prg g = none := h0
     rw [hg] at h0; cases h0
   · have h3 : prg g = some fn' := h3
     rw [hg] at h3
     cases h3
     exact ⟨pf, h1, h2⟩
 · have hm := look_mem hf
   exact (no_num (by kernel_rfl) hm).elim
theorem mixed : Tryd.prog.follows .mixedOrders = true := by kernel_rfl
end Go.Proofs.YtoppcdecolponaaDoor.AL
