/- Code over plain data: calls of functions that hold our own variables; slices that may be nil. -/
import Derived.Test.YtoppcdecolponaaGreatV7
namespace Go.Proofs.YtoppcdecolponaaGreat.AL
open Go
set_option linter.unusedVariables false
set_option linter.unusedSimpArgs false
section
variable {N : Nat} {G : Prg} {tl : Tl} {L : List LB} {K : Tl → List LB → Prop} {l : List IOp} {q : Bool} {d : Nat}
theorem s_calliLP {f es g caps us us' p} {post : V → Prop} (hf : evE tl f = some (.fn g caps)) (ha : evEs tl es = some us) (hz : frs (fr L 6) (us ++ caps) = some (us', p)) (ho : ∀ e, e ∈ p → e.1 = e.2) (hc : CV G g us' post) (hfl : ∀ u, post u → V.flat 6 u = true) (k : ∀ u, post u → VO N G l K ((d, u) :: tl) L) : VO N G (⟨some d, .calli f es, none, q⟩ :: l) K tl L :=
 call_step k fun c Z M tm m n hM hS => let ⟨args, h1, h2⟩ := calli_args hS hf ha; ⟨args, h1, call_local hM h2 hz ho hc hfl⟩
theorem s_calliL {f es g caps us us' p u} (hf : evE tl f = some (.fn g caps)) (ha : evEs tl es = some us) (hz : frs (fr L 6) (us ++ caps) = some (us', p)) (ho : ∀ e, e ∈ p → e.1 = e.2) (hc : CV G g us' (fun v => v = u)) (hfl : V.flat 6 u = true) (k : VO N G l K ((d, u) :: tl) L) : VO N G (⟨some d, .calli f es, none, q⟩ :: l) K tl L :=
 s_calliLP hf ha hz ho hc (fun u' e => by cases e; exact hfl) fun u' e => by cases e; exact k
end
end Go.Proofs.YtoppcdecolponaaGreat.AL
