/- Each function of this seat is what its form in the small language says. Printed by program. -/
import Derived.Test.YtdialnejieoelaaProg
import Derived.Test.YtdialnejieoelaaAlS9
import Derived.Test.YtdialnejieoelaaIrReplay
import Derived.KernelRfl
namespace Go.Proofs.Ytdialnejieoelaa.AL
open Go
def noT : List (Nat × Nat) := [(9, 347), (39, 147), (40, 360), (41, 162), (42, 361), (43, 135), (44, 131), (45, 142), (46, 362), (47, 363), (82, 103), (91, 132), (92, 337), (93, 202), (94, 377), (95, 161), (96, 378), (97, 52), (98, 129), (99, 130), (100, 379), (101, 380), (102, 381), (109, 230), (155, 257), (157, 92), (158, 253), (160, 201), (163, 188), (164, 395), (165, 203), (166, 172), (167, 396), (168, 397), (169, 398), (170, 399), (171, 400), (172, 98), (173, 53), (174, 21), (175, 73), (176, 39), (177, 62), (178, 47), (203, 183), (205, 266), (206, 51), (208, 33), (209, 405), (210, 238), (211, 189), (212, 406), (213, 97), (214, 86), (215, 40), (221, 250), (222, 87), (223, 41)]
def no (f : Nat) : Option Nat := noT.lookup f
theorem lk9 : cF Try.prog no Try.f9 = some F347 := by kernel_rfl
theorem lk39 : cF Try.prog no Try.f39 = some F147 := by kernel_rfl
theorem lk40 : cF Try.prog no Try.f40 = some F360 := by kernel_rfl
theorem lk41 : cF Try.prog no Try.f41 = some F162 := by kernel_rfl
theorem lk42 : cF Try.prog no Try.f42 = some F361 := by kernel_rfl
theorem lk43 : cF Try.prog no Try.f43 = some F135 := by kernel_rfl
theorem lk44 : cF Try.prog no Try.f44 = some F131 := by kernel_rfl
theorem lk45 : cF Try.prog no Try.f45 = some F142 := by kernel_rfl
theorem lk46 : cF Try.prog no Try.f46 = some F362 := by kernel_rfl
theorem lk47 : cF Try.prog no Try.f47 = some F363 := by kernel_rfl
theorem lk82 : cF Try.prog no Try.f82 = some F103 := by kernel_rfl
theorem lk91 : cF Try.prog no Try.f91 = some F132 := by kernel_rfl
theorem lk92 : cF Try.prog no Try.f92 = some F337 := by kernel_rfl
theorem lk93 : cF Try.prog no Try.f93 = some F202 := by kernel_rfl
theorem lk94 : cF Try.prog no Try.f94 = some F377 := by kernel_rfl
theorem lk95 : cF Try.prog no Try.f95 = some F161 := by kernel_rfl
theorem lk96 : cF Try.prog no Try.f96 = some F378 := by kernel_rfl
theorem lk97 : cF Try.prog no Try.f97 = some F52 := by kernel_rfl
theorem lk98 : cF Try.prog no Try.f98 = some F129 := by kernel_rfl
theorem lk99 : cF Try.prog no Try.f99 = some F130 := by kernel_rfl
theorem lk100 : cF Try.prog no Try.f100 = some F379 := by kernel_rfl
theorem lk101 : cF Try.prog no Try.f101 = some F380 := by kernel_rfl
theorem lk102 : cF Try.prog no Try.f102 = some F381 := by kernel_rfl
theorem lk109 : cF Try.prog no Try.f109 = some F230 := by kernel_rfl
theorem lk155 : cF Try.prog no Try.f155 = some F257 := by kernel_rfl
theorem lk157 : cF Try.prog no Try.f157 = some F92 := by kernel_rfl
theorem lk158 : cF Try.prog no Try.f158 = some F253 := by kernel_rfl
theorem lk160 : cF Try.prog no Try.f160 = some F201 := by kernel_rfl
theorem lk163 : cF Try.prog no Try.f163 = some F188 := by kernel_rfl
theorem lk164 : cF Try.prog no Try.f164 = some F395 := by kernel_rfl
theorem lk165 : cF Try.prog no Try.f165 = some F203 := by kernel_rfl
theorem lk166 : cF Try.prog no Try.f166 = some F172 := by kernel_rfl
theorem lk167 : cF Try.prog no Try.f167 = some F396 := by kernel_rfl
theorem lk168 : cF Try.prog no Try.f168 = some F397 := by kernel_rfl
theorem lk169 : cF Try.prog no Try.f169 = some F398 := by kernel_rfl
theorem lk170 : cF Try.prog no Try.f170 = some F399 := by kernel_rfl
theorem lk171 : cF Try.prog no Try.f171 = some F400 := by kernel_rfl
theorem lk172 : cF Try.prog no Try.f172 = some F98 := by kernel_rfl
theorem lk173 : cF Try.prog no Try.f173 = some F53 := by kernel_rfl
theorem lk174 : cF Try.prog no Try.f174 = some F21 := by kernel_rfl
theorem lk175 : cF Try.prog no Try.f175 = some F73 := by kernel_rfl
theorem lk176 : cF Try.prog no Try.f176 = some F39 := by kernel_rfl
theorem lk177 : cF Try.prog no Try.f177 = some F62 := by kernel_rfl
theorem lk178 : cF Try.prog no Try.f178 = some F47 := by kernel_rfl
theorem lk203 : cF Try.prog no Try.f203 = some F183 := by kernel_rfl
theorem lk205 : cF Try.prog no Try.f205 = some F266 := by kernel_rfl
theorem lk206 : cF Try.prog no Try.f206 = some F51 := by kernel_rfl
theorem lk208 : cF Try.prog no Try.f208 = some F33 := by kernel_rfl
theorem lk209 : cF Try.prog no Try.f209 = some F405 := by kernel_rfl
theorem lk210 : cF Try.prog no Try.f210 = some F238 := by kernel_rfl
theorem lk211 : cF Try.prog no Try.f211 = some F189 := by kernel_rfl
theorem lk212 : cF Try.prog no Try.f212 = some F406 := by kernel_rfl
theorem lk213 : cF Try.prog no Try.f213 = some F97 := by kernel_rfl
theorem lk214 : cF Try.prog no Try.f214 = some F86 := by kernel_rfl
theorem lk215 : cF Try.prog no Try.f215 = some F40 := by kernel_rfl
theorem lk221 : cF Try.prog no Try.f221 = some F250 := by kernel_rfl
theorem lk222 : cF Try.prog no Try.f222 = some F87 := by kernel_rfl
theorem lk223 : cF Try.prog no Try.f223 = some F41 := by kernel_rfl
theorem look_mem {α : Type} : ∀ {S : List (Nat × α)} {t : Nat} {v : α}, S.lookup t = some v → (t, v) ∈ S
 | [], t, v, h => by simp at h
 | (a, b) :: S, t, v, h => by
   simp only [List.lookup] at h
   split at h
   · rename_i e; simp at e; subst e; cases h; exact .head _
   · exact .tail _ (look_mem h)
theorem lks : ∀ p ∈ noT, ∃ pf fn, Try.prog.funcs[p.1]? = some pf ∧ cF Try.prog no pf = some fn ∧ prg p.2 = some fn := by
 simp only [noT, List.forall_mem_cons]
 exact ⟨⟨_, _, Try.func9, lk9, g347⟩,
  ⟨_, _, Try.func39, lk39, g147⟩,
  ⟨_, _, Try.func40, lk40, g360⟩,
  ⟨_, _, Try.func41, lk41, g162⟩,
  ⟨_, _, Try.func42, lk42, g361⟩,
  ⟨_, _, Try.func43, lk43, g135⟩,
  ⟨_, _, Try.func44, lk44, g131⟩,
  ⟨_, _, Try.func45, lk45, g142⟩,
  ⟨_, _, Try.func46, lk46, g362⟩,
  ⟨_, _, Try.func47, lk47, g363⟩,
  ⟨_, _, Try.func82, lk82, g103⟩,
  ⟨_, _, Try.func91, lk91, g132⟩,
  ⟨_, _, Try.func92, lk92, g337⟩,
  ⟨_, _, Try.func93, lk93, g202⟩,
  ⟨_, _, Try.func94, lk94, g377⟩,
  ⟨_, _, Try.func95, lk95, g161⟩,
  ⟨_, _, Try.func96, lk96, g378⟩,
  ⟨_, _, Try.func97, lk97, g52⟩,
  ⟨_, _, Try.func98, lk98, g129⟩,
  ⟨_, _, Try.func99, lk99, g130⟩,
  ⟨_, _, Try.func100, lk100, g379⟩,
  ⟨_, _, Try.func101, lk101, g380⟩,
  ⟨_, _, Try.func102, lk102, g381⟩,
  ⟨_, _, Try.func109, lk109, g230⟩,
  ⟨_, _, Try.func155, lk155, g257⟩,
  ⟨_, _, Try.func157, lk157, g92⟩,
  ⟨_, _, Try.func158, lk158, g253⟩,
  ⟨_, _, Try.func160, lk160, g201⟩,
  ⟨_, _, Try.func163, lk163, g188⟩,
  ⟨_, _, Try.func164, lk164, g395⟩,
  ⟨_, _, Try.func165, lk165, g203⟩,
  ⟨_, _, Try.func166, lk166, g172⟩,
  ⟨_, _, Try.func167, lk167, g396⟩,
  ⟨_, _, Try.func168, lk168, g397⟩,
  ⟨_, _, Try.func169, lk169, g398⟩,
  ⟨_, _, Try.func170, lk170, g399⟩,
  ⟨_, _, Try.func171, lk171, g400⟩,
  ⟨_, _, Try.func172, lk172, g98⟩,
  ⟨_, _, Try.func173, lk173, g53⟩,
  ⟨_, _, Try.func174, lk174, g21⟩,
  ⟨_, _, Try.func175, lk175, g73⟩,
  ⟨_, _, Try.func176, lk176, g39⟩,
  ⟨_, _, Try.func177, lk177, g62⟩,
  ⟨_, _, Try.func178, lk178, g47⟩,
  ⟨_, _, Try.func203, lk203, g183⟩,
  ⟨_, _, Try.func205, lk205, g266⟩,
  ⟨_, _, Try.func206, lk206, g51⟩,
  ⟨_, _, Try.func208, lk208, g33⟩,
  ⟨_, _, Try.func209, lk209, g405⟩,
  ⟨_, _, Try.func210, lk210, g238⟩,
  ⟨_, _, Try.func211, lk211, g189⟩,
  ⟨_, _, Try.func212, lk212, g406⟩,
  ⟨_, _, Try.func213, lk213, g97⟩,
  ⟨_, _, Try.func214, lk214, g86⟩,
  ⟨_, _, Try.func215, lk215, g40⟩,
  ⟨_, _, Try.func221, lk221, g250⟩,
  ⟨_, _, Try.func222, lk222, g87⟩,
  ⟨_, _, Try.func223, lk223, g41⟩, by simp⟩
theorem link : Link Try.prog no prg := by
 intro g fn hg
 refine ⟨List.all_eq_true.1 prg_ok (g, fn) (look_mem hg), fun f hf => ?_⟩
 obtain ⟨pf, fn', h1, h2, h3⟩ := lks (f, g) (look_mem hf)
 have h3 : prg g = some fn' := h3
 rw [hg] at h3
 cases h3
 exact ⟨pf, h1, h2⟩
theorem mixed : Try.prog.follows .mixedOrders = true := by kernel_rfl
end Go.Proofs.Ytdialnejieoelaa.AL
