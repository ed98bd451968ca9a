/- Code over plain data: an array of our own is only read from now on. -/
import Derived.Test.YtdialnejieoelaaV9
namespace Go.Proofs.Ytdialnejieoelaa.AL
open Go
set_option linter.unusedVariables false
set_option linter.unusedSimpArgs false
theorem Wk.nar {a b : V} (h : Wk a b) (hn : a.nar = true) : b.nar = true := by
 cases h with
 | refl => exact hn
 | nil => rfl
 | agg => cases hn
 | tup => cases hn
theorem Ey {res post e tl L v u p} (he : e = .normal ∨ e = .ret) (h1 : retV tl L res = some v) (h2 : fr L 6 v = some (u, p)) (h3 : ∀ e, e ∈ p → e.1 = e.2) (h : post u) : Ret res post e tl L := ⟨he, v, u, p, u, h1, h2, h3, .refl _, h⟩
end Go.Proofs.Ytdialnejieoelaa.AL
