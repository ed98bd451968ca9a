/- Code over plain data: an array of our own is only read from now on. -/
import Derived.Test.YtdialnejieoelaaV9
namespace Go.Proofs.Ytdialnejieoelaa.AL
open Go
set_option linter.unusedVariables false
set_option linter.unusedSimpArgs false
theorem Wk.nar {a b : V} (h : Wk a b) (hn : a.nar = true) : b.nar = true := by
 cases h with
 | refl => exact hn
 | nil => rfl
 | agg => cases hn
 | tup => cases hn
theorem ret_leafP {res post e tl L v u p} (he : e = .normal ∨ e = .ret) (h1 : retV tl L res = some v) (h2 : fr L 6 v = some (u, p)) (h3 : ∀ e, e ∈ p → e.1 = e.2) (h : post u) : Ret res post e tl L := ⟨he, v, u, p, u, h1, h2, h3, .refl _, h⟩
theorem RF.slW {M : Mem} {k : Nat} {l r : List (List V)} {x : Value} (hl : l.length = r.length) (h : ∀ (i : Nat) a b, l[i]? = some a → r[i]? = some b → Wks a b) (hx : RF M (.sl k l) x) : RF M (.sl k r) x := by
 cases hx with
 | sl hc ha hl' hn hk hh =>
   rename_i a c rows'
   rw [hl]
   refine .sl (by omega) ha (by omega) (fun i b j y hb hy => ?_) (fun i b r' hb hr' => ?_) fun i b r' j y z hb hr' hy hz => ?_
   · obtain ⟨a', ha'⟩ := len_get hl hb
     obtain ⟨g1, g2⟩ := (h i a' b ha' hb).pt
     obtain ⟨u, hu⟩ := len_get g1 hy
     exact (g2 j u y hu hy).nar (hn i a' j u ha' hu)
   · obtain ⟨a', ha'⟩ := len_get hl hb
     have := hk i a' r' ha' hr'
     have := (h i a' b ha' hb).pt.1
     omega
   · obtain ⟨a', ha'⟩ := len_get hl hb
     obtain ⟨g1, g2⟩ := (h i a' b ha' hb).pt
     obtain ⟨u, hu⟩ := len_get g1 hy
     exact (g2 j u y hu hy).rel _ (hh i a' r' j u z ha' hr' hu hz)
theorem cv_pre {G : Prg} {f : Nat} {us us' : List V} {post : V → Prop} (h : CV G f us' post) (hw : ∀ M args, Pt (RF M) us args → Pt (RF M) us' args) : CV G f us post :=
 ⟨fun args bs m n Ma h1 h2 h3 h4 => h.run args bs m n Ma h1 h2 h3 (hw _ _ h4)⟩
end Go.Proofs.Ytdialnejieoelaa.AL
