/- Each function of this seat is what its form in the small language says. Printed by program. -/
import Derived.Test.YtdialnejieoelaaProg
import Derived.Test.YtdialnejieoelaaAlS9
import Derived.Test.YtdialnejieoelaaIrScriptOk
import Derived.KernelRfl
namespace Go.Proofs.Ytdialnejieoelaa.AL
open Go

def noT : List (Nat × Nat) := [(11, 349), (35, 153), (36, 169), (37, 138), (48, 145), (50, 159), (52, 128), (53, 320), (54, 212), (55, 321), (56, 365), (57, 322), (73, 66), (77, 207), (82, 103), (83, 29), (89, 148), (90, 163), (91, 132), (103, 149), (104, 184), (105, 165), (106, 34), (107, 134), (108, 333), (109, 230), (110, 334), (111, 91), (112, 335), (153, 22), (154, 30), (155, 257), (156, 67), (157, 92), (159, 180), (160, 201), (161, 173), (162, 60), (166, 172), (174, 21), (179, 214), (180, 245), (181, 164), (182, 74), (183, 258), (184, 35), (185, 50), (186, 133), (187, 338), (188, 339), (189, 340), (203, 183), (205, 266), (206, 51), (207, 179), (208, 33), (216, 186), (217, 37), (218, 269), (219, 101), (220, 205)]
def no (f : Nat) : Option Nat := noT.lookup f

theorem lk11 : cF Try.prog no Try.f11 = some F349 := by kernel_rfl
theorem lk35 : cF Try.prog no Try.f35 = some F153 := by kernel_rfl
theorem lk36 : cF Try.prog no Try.f36 = some F169 := by kernel_rfl
theorem lk37 : cF Try.prog no Try.f37 = some F138 := by kernel_rfl
theorem lk48 : cF Try.prog no Try.f48 = some F145 := by kernel_rfl
theorem lk50 : cF Try.prog no Try.f50 = some F159 := by kernel_rfl
theorem lk52 : cF Try.prog no Try.f52 = some F128 := by kernel_rfl
theorem lk53 : cF Try.prog no Try.f53 = some F320 := by kernel_rfl
theorem lk54 : cF Try.prog no Try.f54 = some F212 := by kernel_rfl
theorem lk55 : cF Try.prog no Try.f55 = some F321 := by kernel_rfl
theorem lk56 : cF Try.prog no Try.f56 = some F365 := by kernel_rfl
theorem lk57 : cF Try.prog no Try.f57 = some F322 := by kernel_rfl
theorem lk73 : cF Try.prog no Try.f73 = some F66 := by kernel_rfl
theorem lk77 : cF Try.prog no Try.f77 = some F207 := by kernel_rfl
theorem lk82 : cF Try.prog no Try.f82 = some F103 := by kernel_rfl
theorem lk83 : cF Try.prog no Try.f83 = some F29 := by kernel_rfl
theorem lk89 : cF Try.prog no Try.f89 = some F148 := by kernel_rfl
theorem lk90 : cF Try.prog no Try.f90 = some F163 := by kernel_rfl
theorem lk91 : cF Try.prog no Try.f91 = some F132 := by kernel_rfl
theorem lk103 : cF Try.prog no Try.f103 = some F149 := by kernel_rfl
theorem lk104 : cF Try.prog no Try.f104 = some F184 := by kernel_rfl
theorem lk105 : cF Try.prog no Try.f105 = some F165 := by kernel_rfl
theorem lk106 : cF Try.prog no Try.f106 = some F34 := by kernel_rfl
theorem lk107 : cF Try.prog no Try.f107 = some F134 := by kernel_rfl
theorem lk108 : cF Try.prog no Try.f108 = some F333 := by kernel_rfl
theorem lk109 : cF Try.prog no Try.f109 = some F230 := by kernel_rfl
theorem lk110 : cF Try.prog no Try.f110 = some F334 := by kernel_rfl
theorem lk111 : cF Try.prog no Try.f111 = some F91 := by kernel_rfl
theorem lk112 : cF Try.prog no Try.f112 = some F335 := by kernel_rfl
theorem lk153 : cF Try.prog no Try.f153 = some F22 := by kernel_rfl
theorem lk154 : cF Try.prog no Try.f154 = some F30 := by kernel_rfl
theorem lk155 : cF Try.prog no Try.f155 = some F257 := by kernel_rfl
theorem lk156 : cF Try.prog no Try.f156 = some F67 := by kernel_rfl
theorem lk157 : cF Try.prog no Try.f157 = some F92 := by kernel_rfl
theorem lk159 : cF Try.prog no Try.f159 = some F180 := by kernel_rfl
theorem lk160 : cF Try.prog no Try.f160 = some F201 := by kernel_rfl
theorem lk161 : cF Try.prog no Try.f161 = some F173 := by kernel_rfl
theorem lk162 : cF Try.prog no Try.f162 = some F60 := by kernel_rfl
theorem lk166 : cF Try.prog no Try.f166 = some F172 := by kernel_rfl
theorem lk174 : cF Try.prog no Try.f174 = some F21 := by kernel_rfl
theorem lk179 : cF Try.prog no Try.f179 = some F214 := by kernel_rfl
theorem lk180 : cF Try.prog no Try.f180 = some F245 := by kernel_rfl
theorem lk181 : cF Try.prog no Try.f181 = some F164 := by kernel_rfl
theorem lk182 : cF Try.prog no Try.f182 = some F74 := by kernel_rfl
theorem lk183 : cF Try.prog no Try.f183 = some F258 := by kernel_rfl
theorem lk184 : cF Try.prog no Try.f184 = some F35 := by kernel_rfl
theorem lk185 : cF Try.prog no Try.f185 = some F50 := by kernel_rfl
theorem lk186 : cF Try.prog no Try.f186 = some F133 := by kernel_rfl
theorem lk187 : cF Try.prog no Try.f187 = some F338 := by kernel_rfl
theorem lk188 : cF Try.prog no Try.f188 = some F339 := by kernel_rfl
theorem lk189 : cF Try.prog no Try.f189 = some F340 := by kernel_rfl
theorem lk203 : cF Try.prog no Try.f203 = some F183 := by kernel_rfl
theorem lk205 : cF Try.prog no Try.f205 = some F266 := by kernel_rfl
theorem lk206 : cF Try.prog no Try.f206 = some F51 := by kernel_rfl
theorem lk207 : cF Try.prog no Try.f207 = some F179 := by kernel_rfl
theorem lk208 : cF Try.prog no Try.f208 = some F33 := by kernel_rfl
theorem lk216 : cF Try.prog no Try.f216 = some F186 := by kernel_rfl
theorem lk217 : cF Try.prog no Try.f217 = some F37 := by kernel_rfl
theorem lk218 : cF Try.prog no Try.f218 = some F269 := by kernel_rfl
theorem lk219 : cF Try.prog no Try.f219 = some F101 := by kernel_rfl
theorem lk220 : cF Try.prog no Try.f220 = some F205 := by kernel_rfl

theorem look_mem {α : Type} : ∀ {S : List (Nat × α)} {t : Nat} {v : α}, S.lookup t = some v → (t, v) ∈ S
  | [], t, v, h => by simp at h
  | (a, b) :: S, t, v, h => by
    simp only [List.lookup] at h
    split at h
    · rename_i e; simp at e; subst e; cases h; exact .head _
    · exact .tail _ (look_mem h)

theorem lks : ∀ p ∈ noT, ∃ pf fn, Try.prog.funcs[p.1]? = some pf ∧ cF Try.prog no pf = some fn ∧ prg p.2 = some fn := by
  simp only [noT, List.forall_mem_cons]
  exact ⟨⟨_, _, Try.func11, lk11, g349⟩,
    ⟨_, _, Try.func35, lk35, g153⟩,
    ⟨_, _, Try.func36, lk36, g169⟩,
    ⟨_, _, Try.func37, lk37, g138⟩,
    ⟨_, _, Try.func48, lk48, g145⟩,
    ⟨_, _, Try.func50, lk50, g159⟩,
    ⟨_, _, Try.func52, lk52, g128⟩,
    ⟨_, _, Try.func53, lk53, g320⟩,
    ⟨_, _, Try.func54, lk54, g212⟩,
    ⟨_, _, Try.func55, lk55, g321⟩,
    ⟨_, _, Try.func56, lk56, g365⟩,
    ⟨_, _, Try.func57, lk57, g322⟩,
    ⟨_, _, Try.func73, lk73, g66⟩,
    ⟨_, _, Try.func77, lk77, g207⟩,
    ⟨_, _, Try.func82, lk82, g103⟩,
    ⟨_, _, Try.func83, lk83, g29⟩,
    ⟨_, _, Try.func89, lk89, g148⟩,
    ⟨_, _, Try.func90, lk90, g163⟩,
    ⟨_, _, Try.func91, lk91, g132⟩,
    ⟨_, _, Try.func103, lk103, g149⟩,
    ⟨_, _, Try.func104, lk104, g184⟩,
    ⟨_, _, Try.func105, lk105, g165⟩,
    ⟨_, _, Try.func106, lk106, g34⟩,
    ⟨_, _, Try.func107, lk107, g134⟩,
    ⟨_, _, Try.func108, lk108, g333⟩,
    ⟨_, _, Try.func109, lk109, g230⟩,
    ⟨_, _, Try.func110, lk110, g334⟩,
    ⟨_, _, Try.func111, lk111, g91⟩,
    ⟨_, _, Try.func112, lk112, g335⟩,
    ⟨_, _, Try.func153, lk153, g22⟩,
    ⟨_, _, Try.func154, lk154, g30⟩,
    ⟨_, _, Try.func155, lk155, g257⟩,
    ⟨_, _, Try.func156, lk156, g67⟩,
    ⟨_, _, Try.func157, lk157, g92⟩,
    ⟨_, _, Try.func159, lk159, g180⟩,
    ⟨_, _, Try.func160, lk160, g201⟩,
    ⟨_, _, Try.func161, lk161, g173⟩,
    ⟨_, _, Try.func162, lk162, g60⟩,
    ⟨_, _, Try.func166, lk166, g172⟩,
    ⟨_, _, Try.func174, lk174, g21⟩,
    ⟨_, _, Try.func179, lk179, g214⟩,
    ⟨_, _, Try.func180, lk180, g245⟩,
    ⟨_, _, Try.func181, lk181, g164⟩,
    ⟨_, _, Try.func182, lk182, g74⟩,
    ⟨_, _, Try.func183, lk183, g258⟩,
    ⟨_, _, Try.func184, lk184, g35⟩,
    ⟨_, _, Try.func185, lk185, g50⟩,
    ⟨_, _, Try.func186, lk186, g133⟩,
    ⟨_, _, Try.func187, lk187, g338⟩,
    ⟨_, _, Try.func188, lk188, g339⟩,
    ⟨_, _, Try.func189, lk189, g340⟩,
    ⟨_, _, Try.func203, lk203, g183⟩,
    ⟨_, _, Try.func205, lk205, g266⟩,
    ⟨_, _, Try.func206, lk206, g51⟩,
    ⟨_, _, Try.func207, lk207, g179⟩,
    ⟨_, _, Try.func208, lk208, g33⟩,
    ⟨_, _, Try.func216, lk216, g186⟩,
    ⟨_, _, Try.func217, lk217, g37⟩,
    ⟨_, _, Try.func218, lk218, g269⟩,
    ⟨_, _, Try.func219, lk219, g101⟩,
    ⟨_, _, Try.func220, lk220, g205⟩, by simp⟩

theorem link : Link Try.prog no prg := by
  intro g fn hg
  refine ⟨List.all_eq_true.1 prg_ok (g, fn) (look_mem hg), fun f hf => ?_⟩
  obtain ⟨pf, fn', h1, h2, h3⟩ := lks (f, g) (look_mem hf)
  have h3 : prg g = some fn' := h3
  rw [hg] at h3
  cases h3
  exact ⟨pf, h1, h2⟩

theorem mixed : Try.prog.follows .mixedOrders = true := by kernel_rfl

end Go.Proofs.Ytdialnejieoelaa.AL
