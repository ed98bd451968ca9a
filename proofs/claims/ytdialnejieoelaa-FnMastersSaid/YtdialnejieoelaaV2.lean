/- Code over plain data: what single operations do, continued: arrays, structures. -/
import Derived.Test.YtdialnejieoelaaV1
namespace Go.Proofs.Ytdialnejieoelaa.AL
open Go
set_option linter.unusedVariables false
set_option linter.unusedSimpArgs false
section
variable {G : Prg} {q : Bool} {tl : List (Nat × V)} {L : List LB}
theorem o_ldA {x b len j off k rows row u} (hx : evE tl x = some (.ap b len j off)) (hb : L[b]? = some (.arr k rows)) (hl : rows.length = len) (hj : rows[j]? = some row) (hr : row[off]? = some u) : OpV G q (.ld x) tl L (some u) L :=
 .same fun N c Z M tm m n hM hS => by
  obtain ⟨a, ha⟩ := hM.getZ hb
  obtain ⟨ad, rfl, h1⟩ := (evE_rel hS hx).ap_inv ha hl
  obtain ⟨ha0, _, cells, hm, rows', rfl, hl', hall, hpt, hnar⟩ := hM.cell _ _ _ ha
  have hji := (List.getElem?_eq_some_iff.1 hj).1
  have hj' : rows'[j]? = some rows'[j] := List.getElem?_eq_getElem (by omega)
  have hp := hpt _ _ _ hj hj'
  obtain ⟨y, h2, h3⟩ := hp.get hr
  have hk : rows'[j].length = k := hall _ (List.getElem_mem _)
  obtain ⟨g1, g2⟩ := flat_row hall hj'
  have hoff := (List.getElem?_eq_some_iff.1 h2).1
  refine ⟨y, fun _ => ?_, .fz h3⟩
  have : rows'.flatten[j * k + off]? = some y := by
   rw [← h2, ← g2, List.getElem?_take_of_lt (by omega), List.getElem?_drop]
  simp [stepO, h1, AL.rd, hm, this]
theorem o_ext {i x cs u} (hx : evE tl x = some (.tup cs)) (hr : cs[i]? = some u) : OpV G q (.ext i x) tl L (some u) L :=
 .same fun N c Z M tm m n hM hS => by
  obtain ⟨vs, e1, hvl, hu⟩ := (evE_rel hS hx).tup_inv
  have hi := (List.getElem?_eq_some_iff.1 hr).1
  have h2 : vs[i]? = some vs[i] := Array.getElem?_eq_getElem (by omega)
  exact ⟨_, fun _ => by simp only [stepO, e1, h2], hu _ _ _ hr h2⟩
theorem o_fn {f es us} (hx : evEs tl es = some us) : OpV G q (.fn f es) tl L (some (.fn f us)) L :=
 .same fun N c Z M tm m n hM hS => by
  have h := evEs_rel hS hx
  exact ⟨_, fun _ => rfl, .fn (by simpa using h.1) fun i u y h1 h2 => h.2 i u y h1 (by simpa using h2)⟩
theorem o_nilc {x b off} (hx : evE tl x = some (.cp b off)) : OpV G q (.nilc x) tl L (some (.cp b off)) L :=
 .same fun N c Z M tm m n hM hS => by
  have h := evE_rel hS hx
  obtain ⟨a, row', hz, h1⟩ := h.cp_inv
  exact ⟨_, fun _ => by simp only [stepO, h1], h1 ▸ h⟩
theorem o_nilcR {x row off} (hx : evE tl x = some (.rp row off)) : OpV G q (.nilc x) tl L (some (.rp row off)) L :=
 .same fun N c Z M tm m n hM hS => by
  have h := (evE_rel hS hx).rp_inv
  obtain ⟨e, he⟩ : ∃ e, x.ev tm = e := ⟨_, rfl⟩
  rw [he] at h
  refine ⟨e, fun _ => ?_, .fz h⟩
  cases h with
  | rp hb hc hh => simp only [stepO, he]
def intsV (tl : List (Nat × V)) : List E → Option (List Int)
 | [] => some []
 | e :: l => match evE tl e, intsV tl l with
   | some (.w (.int .i64 a)), some r => some (a :: r)
   | _, _ => none
theorem intsV_rel {M Z tm} (hS : Slots M Z tl tm) : ∀ {es l}, intsV tl es = some l → es.map (·.ev tm) = l.map fun a => Value.int .i64 a
 | [], l, h => by simp [intsV] at h; subst h; rfl
 | e :: es, l, h => by
   simp only [intsV] at h
   split at h
   · rename_i a r h1 h2
     cases h
     simp only [List.map_cons, intsV_rel hS h2, evE_w hS h1]
   · cases h
def minL : Int → List Int → Int
 | x, [] => x
 | x, y :: l => minL (if y < x then y else x) l
theorem foldv_min : ∀ (l : List Int) (x : Int), foldv min2v (.int .i64 x) (l.map fun a => Value.int .i64 a) = some (.int .i64 (minL x l))
 | [], x => rfl
 | y :: l, x => by simp only [List.map_cons, foldv, min2v, if_true]; exact foldv_min l _
theorem o_mn {es a l} (h : intsV tl es = some (a :: l)) : OpV G q (.mn es) tl L (some (.w (.int .i64 (minL a l)))) L :=
 o_w rfl fun M Z tm hS _ m n => by
  have h1 := intsV_rel hS h
  have h2 := foldv_min l a
  simp only [stepO, h1, List.map_cons, h2]
end
end Go.Proofs.Ytdialnejieoelaa.AL
