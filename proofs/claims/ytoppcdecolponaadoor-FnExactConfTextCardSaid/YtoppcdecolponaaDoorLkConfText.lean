/- Each function of this seat is what its form in the small language says. Printed by program. -/
import Derived.Test.YtoppcdecolponaaDoorProg
import Derived.Test.YtoppcdecolponaaDoorAlS10
import Derived.Test.YtoppcdecolponaaDoorKl
import Derived.Test.YtoppcdecolponaaDoorIrConfText
import Derived.Test.YtoppcdecolponaaDoorNaConfText
import Derived.KernelRfl
namespace Go.Proofs.YtoppcdecolponaaDoor.AL
open Go
def noT : List (Nat × Nat) := [(3, 108), (6, 145), (7, 185), (8, 159), (9, 36), (10, 128), (20, 38), (24, 149), (25, 184), (26, 187), (27, 165), (28, 34), (29, 84), (30, 407), (31, 134), (36, 103), (37, 272), (42, 230), (43, 214), (44, 245), (45, 164), (46, 74), (47, 258), (48, 35), (49, 50), (53, 133), (61, 186), (62, 37), (63, 269), (64, 101)]
def noF (f : Nat) : Option Nat := noT.lookup f
theorem lk3 : cF Tryd.prog noF Tryd.f3 = some F108 := by kernel_rfl
theorem lk6 : cF Tryd.prog noF Tryd.f6 = some F145 := by kernel_rfl
theorem lk7 : cF Tryd.prog noF Tryd.f7 = some F185 := by kernel_rfl
theorem lk8 : cF Tryd.prog noF Tryd.f8 = some F159 := by kernel_rfl
theorem lk9 : cF Tryd.prog noF Tryd.f9 = some F36 := by kernel_rfl
theorem lk10 : cF Tryd.prog noF Tryd.f10 = some F128 := by kernel_rfl
theorem lk20 : cF Tryd.prog noF Tryd.f20 = some F38 := by kernel_rfl
theorem lk24 : cF Tryd.prog noF Tryd.f24 = some F149 := by kernel_rfl
theorem lk25 : cF Tryd.prog noF Tryd.f25 = some F184 := by kernel_rfl
theorem lk26 : cF Tryd.prog noF Tryd.f26 = some F187 := by kernel_rfl
theorem lk27 : cF Tryd.prog noF Tryd.f27 = some F165 := by kernel_rfl
theorem lk28 : cF Tryd.prog noF Tryd.f28 = some F34 := by kernel_rfl
theorem lk29 : cF Tryd.prog noF Tryd.f29 = some F84 := by kernel_rfl
theorem lk31 : cF Tryd.prog noF Tryd.f31 = some F134 := by kernel_rfl
theorem lk36 : cF Tryd.prog noF Tryd.f36 = some F103 := by kernel_rfl
theorem lk42 : cF Tryd.prog noF Tryd.f42 = some F230 := by kernel_rfl
theorem lk43 : cF Tryd.prog noF Tryd.f43 = some F214 := by kernel_rfl
theorem lk44 : cF Tryd.prog noF Tryd.f44 = some F245 := by kernel_rfl
theorem lk45 : cF Tryd.prog noF Tryd.f45 = some F164 := by kernel_rfl
theorem lk46 : cF Tryd.prog noF Tryd.f46 = some F74 := by kernel_rfl
theorem lk47 : cF Tryd.prog noF Tryd.f47 = some F258 := by kernel_rfl
theorem lk48 : cF Tryd.prog noF Tryd.f48 = some F35 := by kernel_rfl
theorem lk49 : cF Tryd.prog noF Tryd.f49 = some F50 := by kernel_rfl
theorem lk53 : cF Tryd.prog noF Tryd.f53 = some F133 := by kernel_rfl
theorem lk61 : cF Tryd.prog noF Tryd.f61 = some F186 := by kernel_rfl
theorem lk62 : cF Tryd.prog noF Tryd.f62 = some F37 := by kernel_rfl
theorem lk63 : cF Tryd.prog noF Tryd.f63 = some F269 := by kernel_rfl
theorem lk64 : cF Tryd.prog noF Tryd.f64 = some F101 := by kernel_rfl
theorem lks : ∀ p ∈ noT, prg p.2 = none ∨ ∃ pf fn, Tryd.prog.funcs[p.1]? = some pf ∧ cF Tryd.prog noF pf = some fn ∧ prg p.2 = some fn := by
 simp only [noT, List.forall_mem_cons]
 exact ⟨Or.inr ⟨_, _, Tryd.func3, lk3, g108⟩,
  Or.inr ⟨_, _, Tryd.func6, lk6, g145⟩,
  Or.inr ⟨_, _, Tryd.func7, lk7, g185⟩,
  Or.inr ⟨_, _, Tryd.func8, lk8, g159⟩,
  Or.inr ⟨_, _, Tryd.func9, lk9, g36⟩,
  Or.inr ⟨_, _, Tryd.func10, lk10, g128⟩,
  Or.inr ⟨_, _, Tryd.func20, lk20, g38⟩,
  Or.inr ⟨_, _, Tryd.func24, lk24, g149⟩,
  Or.inr ⟨_, _, Tryd.func25, lk25, g184⟩,
  Or.inr ⟨_, _, Tryd.func26, lk26, g187⟩,
  Or.inr ⟨_, _, Tryd.func27, lk27, g165⟩,
  Or.inr ⟨_, _, Tryd.func28, lk28, g34⟩,
  Or.inr ⟨_, _, Tryd.func29, lk29, g84⟩,
  Or.inl (by kernel_rfl),
  Or.inr ⟨_, _, Tryd.func31, lk31, g134⟩,
  Or.inr ⟨_, _, Tryd.func36, lk36, g103⟩,
  Or.inl (by kernel_rfl),
  Or.inr ⟨_, _, Tryd.func42, lk42, g230⟩,
  Or.inr ⟨_, _, Tryd.func43, lk43, g214⟩,
  Or.inr ⟨_, _, Tryd.func44, lk44, g245⟩,
  Or.inr ⟨_, _, Tryd.func45, lk45, g164⟩,
  Or.inr ⟨_, _, Tryd.func46, lk46, g74⟩,
  Or.inr ⟨_, _, Tryd.func47, lk47, g258⟩,
  Or.inr ⟨_, _, Tryd.func48, lk48, g35⟩,
  Or.inr ⟨_, _, Tryd.func49, lk49, g50⟩,
  Or.inr ⟨_, _, Tryd.func53, lk53, g133⟩,
  Or.inr ⟨_, _, Tryd.func61, lk61, g186⟩,
  Or.inr ⟨_, _, Tryd.func62, lk62, g37⟩,
  Or.inr ⟨_, _, Tryd.func63, lk63, g269⟩,
  Or.inr ⟨_, _, Tryd.func64, lk64, g101⟩, by simp⟩
abbrev noW (W : World) : No := ⟨noF, W.heap.size, W⟩
theorem nats_of (W : World) (hv : Vars W) : ∀ g args v, nat g args = some v → ∀ f, noF f = some g → NatSim Tryd.prog (noW W) f args v := by
 intro g args v hn f hf
 have hm := look_mem hf
 rcases nat_cases hn with ⟨rfl, s, d, rfl, hs, rfl⟩ | ⟨rfl, n, rfl, hb, rfl⟩ | ⟨rfl, s, c, rfl, rfl⟩ | ⟨rfl, s, c, rfl, rfl⟩ | ⟨rfl, s, c, rfl, rfl⟩
 · exact (no_num (by kernel_rfl) hm).elim
 · obtain rfl := one_num (k := 37) (by kernel_rfl) hm
   exact ⟨en272, fun w hk => w_itoa n hb w (hv.on hk.2)⟩
 · exact (no_num (by kernel_rfl) hm).elim
 · exact (no_num (by kernel_rfl) hm).elim
 · exact (no_num (by kernel_rfl) hm).elim
theorem link (W : World) (hv : Vars W) : Link Tryd.prog (noW W) prg := by
 refine ⟨fun g fn hg => ⟨List.all_eq_true.1 prg_ok (g, fn) (look_mem hg), fun f hf => ?_⟩, nats_of W hv, fun f hf => ?_⟩
 · rcases lks (f, g) (look_mem hf) with h0 | ⟨pf, fn', h1, h2, h3⟩
   · have h0 : prg g = none := h0
     rw [hg] at h0; cases h0
   · have h3 : prg g = some fn' := h3
     rw [hg] at h3
     cases h3
     exact ⟨pf, h1, h2⟩
 · have hm := look_mem hf
   obtain rfl := one_num (k := 30) (by kernel_rfl) hm
   exact ⟨en407, fun w hk bk o c xs s hc hb hn hcap hl => Tryd.strings_Join bk o c xs s w hc hb hn hcap hl⟩
theorem mixed : Tryd.prog.follows .mixedOrders = true := by kernel_rfl
end Go.Proofs.YtoppcdecolponaaDoor.AL
