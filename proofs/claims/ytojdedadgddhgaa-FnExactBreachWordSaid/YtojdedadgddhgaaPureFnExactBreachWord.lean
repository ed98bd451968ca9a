/- FnExactBreachWord: for every int, the program's BreachWord returns the same word as the reference's. -/
import Derived.Test.YtojdedadgddhgaaPFnExactBreachWordx1
namespace Go.Proofs.Ytojdedadgddhgaa.Pure
open Go.RowKit Go.Proofs.Ytojdedadgddhgaa.PFnExactBreachWord Go.Proofs.YtojdedadgddhgaaW.PrintWords Go.Proofs.YtojdedadgddhgaaW.PrintLast

theorem FnExactBreachWord : laws_FnExactBreachWord.Pure := by
  intro a _
  have hw : wrap64 ((7 : Int) - 1) = 6 := by unfold wrap64; omega
  unfold laws_FnExactBreachWord.f spec_BreachWord.f impl_BreachWord.f impl_nameOf.f impl_within.f spec_l1In.f
  simp only [List.length_cons, List.length_nil, Nat.zero_add, Nat.reduceAdd, Int.cast_ofNat_Int, hw, Option.bind_some]
  by_cases h0 : 0 ≤ a
  · by_cases h6 : a ≤ 6
    · have h7 : a < 7 := by omega
      simp [h0, h6, h7]
    · simp [h0, h6]
  · simp [h0]

end Go.Proofs.Ytojdedadgddhgaa.Pure
