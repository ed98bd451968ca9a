/- Code over plain data: what single operations do, continued: arrays, structures. -/
import Derived.Test.YtdialnejieoelaaV1
namespace Go.Proofs.Ytdialnejieoelaa.AL
open Go
set_option linter.unusedVariables false
set_option linter.unusedSimpArgs false
theorem arr_write {N : Nat} {c : Cx N} {Z M L m n} (hM : StM c Z M L m n) {b k ad : Nat} {rows : List (List V)} (hz : Z[b]? = some (some ad, .arr k rows)) {j : Nat} {row : List V} (hj : rows[j]? = some row) {cs : List V} {vs : List Value}
 (hcs : Pt (RF M) cs vs) (hn : ∀ v, v ∈ cs → v.nar = true) {off : Nat} (hoff : off + cs.length ≤ row.length) :
 ∃ cells, m ad = some ⟨cells, true, k⟩ ∧ j * k + off + vs.length ≤ cells.length ∧ c.bs ≤ ad ∧
   ExtV Z M (Z.set b (some ad, .arr k (rows.set j (row.take off ++ cs ++ row.drop (off + cs.length))))) M ∧
   StM c (Z.set b (some ad, .arr k (rows.set j (row.take off ++ cs ++ row.drop (off + cs.length))))) M (L.set b (.arr k (rows.set j (row.take off ++ cs ++ row.drop (off + cs.length)))))
    (upd m ad (some ⟨cells.take (j * k + off) ++ vs ++ cells.drop (j * k + off + vs.length), true, k⟩)) n := by
 obtain ⟨ha0, _, cells, hm, hrel⟩ := hM.cell _ _ _ hz
 obtain ⟨rows', rfl, hl, hall, hpt, hnar⟩ := hrel
 have hji := (List.getElem?_eq_some_iff.1 hj).1
 have hj' : rows'[j]? = some rows'[j] := List.getElem?_eq_getElem (by omega)
 have hp := hpt _ _ _ hj hj'
 have hk : rows'[j].length = k := hall _ (List.getElem_mem _)
 have hrk : row.length = k := by rw [hp.1, hk]
 have hvl : vs.length = cs.length := hcs.1.symm
 have hfl := flat_row hall hj'
 refine ⟨_, hm, by omega, hM.bsA ha0, ?_⟩
 have hnew : LB.rel M Z (.arr k (rows.set j (row.take off ++ cs ++ row.drop (off + cs.length)))) (rows'.flatten.take (j * k + off) ++ vs ++ rows'.flatten.drop (j * k + off + vs.length)) := by
  refine ⟨rows'.set j (rows'[j].take off ++ vs ++ rows'[j].drop (off + vs.length)), flat_set (by omega) hall hj', by simp [hl], ?_, ?_, ?_⟩
  · intro r hr
    rcases List.mem_or_eq_of_mem_set hr with h | h
    · exact hall r h
    · subst h; simp; omega
  · intro i r r' h1 h2
    rw [List.getElem?_set] at h1 h2
    by_cases e : j = i
    · subst e
      rw [if_pos rfl, if_pos hji] at h1
      rw [if_pos rfl, if_pos (by omega)] at h2
      cases h1; cases h2
      rw [hvl]
      exact ((hp.take off).append hcs).append (hp.drop _)
    · rw [if_neg e] at h1 h2; exact hpt i r r' h1 h2
  · intro i r j' x h1 h2
    rw [List.getElem?_set] at h1
    by_cases e : j = i
    · subst e
      rw [if_pos rfl, if_pos hji] at h1
      cases h1
      have hx := List.mem_of_getElem? h2
      simp only [List.mem_append] at hx
      rcases hx with (hx | hx) | hx
      · obtain ⟨i', hi'⟩ := List.mem_iff_getElem?.1 (List.mem_of_mem_take hx); exact hnar _ _ i' x hj hi'
      · exact hn x hx
      · obtain ⟨i', hi'⟩ := List.mem_iff_getElem?.1 (List.mem_of_mem_drop hx); exact hnar _ _ i' x hj hi'
    · rw [if_neg e] at h1; exact hnar i r j' x h1 h2
 have hg : grow (some ad, LB.arr k rows) (some ad, .arr k (rows.set j (row.take off ++ cs ++ row.drop (off + cs.length)))) := .inl ⟨_, rfl, by simp, fun _ => rfl⟩
 have hlt : b < Z.length := (List.getElem?_eq_some_iff.1 hz).1
 have he : ExtV Z M (Z.set b (some ad, .arr k (rows.set j (row.take off ++ cs ++ row.drop (off + cs.length))))) M := by
  refine ⟨sub_refl _, fun i p hp => ?_⟩
  by_cases e : b = i
  · subst e; rw [hz] at hp; cases hp
    exact ⟨_, by rw [List.getElem?_set, if_pos rfl, if_pos hlt], hg⟩
  · exact ⟨p, by rw [List.getElem?_set, if_neg e]; exact hp, grow.refl p⟩
 exact hM.write hz _ hg rfl (hnew.mono he)
section
variable {G : Prg} {q : Bool} {tl : List (Nat × V)} {L : List LB}
theorem o_ldA {x b len j off k rows row u} (hx : evE tl x = some (.ap b len j off)) (hb : L[b]? = some (.arr k rows)) (hl : rows.length = len) (hj : rows[j]? = some row) (hr : row[off]? = some u) : OpV G q (.ld x) tl L (some u) L :=
 .same fun N c Z M tm m n hM hS => by
  obtain ⟨a, ha⟩ := hM.getZ hb
  obtain ⟨ad, rfl, h1⟩ := (evE_rel hS hx).ap_inv ha hl
  obtain ⟨ha0, _, cells, hm, rows', rfl, hl', hall, hpt, hnar⟩ := hM.cell _ _ _ ha
  have hji := (List.getElem?_eq_some_iff.1 hj).1
  have hj' : rows'[j]? = some rows'[j] := List.getElem?_eq_getElem (by omega)
  have hp := hpt _ _ _ hj hj'
  obtain ⟨y, h2, h3⟩ := hp.get hr
  have hk : rows'[j].length = k := hall _ (List.getElem_mem _)
  obtain ⟨g1, g2⟩ := flat_row hall hj'
  have hoff := (List.getElem?_eq_some_iff.1 h2).1
  refine ⟨y, fun _ => ?_, .fz h3⟩
  have : rows'.flatten[j * k + off]? = some y := by
   rw [← h2, ← g2, List.getElem?_take_of_lt (by omega), List.getElem?_drop]
  simp [stepO, h1, AL.rd, hm, this]
theorem o_stA {x v b len j off k rows row row' u L1} (hx : evE tl x = some (.ap b len j off)) (hv : evE tl v = some u) (hn : u.fzW = true) (hb : L[b]? = some (.arr k rows)) (hl : rows.length = len) (hj : rows[j]? = some row) (hr : setN row off u = some row')
 (hL : setN L b (.arr k (rows.set j row')) = some L1) : OpV G false (.st x v) tl L none L1 := by
 intro N c Z M tm m n hM hS
 obtain ⟨a, ha⟩ := hM.getZ hb
 obtain ⟨ad, rfl, h1⟩ := (evE_rel hS hx).ap_inv ha hl
 obtain ⟨hoff, rfl⟩ := setN_inv hr
 obtain ⟨_, rfl⟩ := setN_inv hL
 obtain ⟨hu, hnar⟩ := fzW_rel (evE_rel hS hv) hn
 have hw := hu.nar hnar
 obtain ⟨cells, hm, hle, ha0, he, h3⟩ := arr_write hM ha hj (cs := [u]) (vs := [v.ev tm]) (Pt.cons hu Pt.nil) (by simpa using hnar) (off := off) (by simp only [List.length_cons, List.length_nil]; omega)
 rw [show row.take off ++ [u] ++ row.drop (off + [u].length) = row.set off u from (set_spl row off u hoff).symm] at he h3
 refine ⟨junk, _, n, _, M, .inl ?_, he, h3, fun u e => by cases e⟩
 have hbs := hM.hbs
 have hlt : j * k + off < cells.length := by simp only [List.length_cons, List.length_nil] at hle; omega
 simp only [stepO, h1, hw, AL.wr, hm, Option.isSome_none, Bool.false_eq_true, if_false]
 rw [if_pos ⟨ha0, trivial, hlt⟩, set_spl _ _ _ hlt]
 rfl
theorem o_stnA {x v b len j off k c rows row row' cs L1} (hx : evE tl x = some (.ap b len j off)) (hv : evE tl v = some (.agg cs)) (hk : cs.length = c) (hn : fzs cs = true) (hb : L[b]? = some (.arr k rows)) (hl : rows.length = len) (hj : rows[j]? = some row) (hr : splN row off cs = some row')
 (hL : setN L b (.arr k (rows.set j row')) = some L1) : OpV G false (.stn c x v) tl L none L1 := by
 intro N cx Z M tm m n hM hS
 obtain ⟨a, ha⟩ := hM.getZ hb
 obtain ⟨ad, rfl, h1⟩ := (evE_rel hS hx).ap_inv ha hl
 obtain ⟨hoff, rfl⟩ := splN_inv hr
 obtain ⟨_, rfl⟩ := setN_inv hL
 obtain ⟨vs, e1, hvl, hu⟩ := (evE_rel hS hv).agg_inv
 obtain ⟨hcs, hnar⟩ := fzs_rel (M := M) (Z := Z) (l := cs) (l' := vs.toList) ⟨by simpa using hvl, fun i x y h2 h3 => hu i x y h2 (by simpa using h3)⟩ hn
 obtain ⟨cells, hm, hle, ha0, he, h3⟩ := arr_write hM ha hj hcs hnar hoff
 refine ⟨junk, _, n, _, M, .inl ?_, he, h3, fun u e => by cases e⟩
 have hbs := hM.hbs
 have hw : vs.toList.all (fun u => !wideV u) = true := by
  rw [List.all_eq_true]
  intro y hy
  obtain ⟨i, hi⟩ := List.mem_iff_getElem?.1 hy
  have hi2 : i < cs.length := by rw [hcs.1]; exact (List.getElem?_eq_some_iff.1 hi).1
  have := (hcs.2 i _ y (List.getElem?_eq_getElem hi2) hi).nar (hnar _ (List.getElem_mem hi2))
  simp [this]
 have hk2 : vs.size = c := by omega
 simp only [stepO, h1, e1, hw, hk2, and_self, if_true, AL.wrn, hm, Option.isSome_none, Bool.false_eq_true, if_false, Array.length_toList]
 rw [if_pos ⟨ha0, trivial, by simpa [hk2] using hle⟩]
theorem o_ext {i x cs u} (hx : evE tl x = some (.tup cs)) (hr : cs[i]? = some u) : OpV G q (.ext i x) tl L (some u) L :=
 .same fun N c Z M tm m n hM hS => by
  obtain ⟨vs, e1, hvl, hu⟩ := (evE_rel hS hx).tup_inv
  have hi := (List.getElem?_eq_some_iff.1 hr).1
  have h2 : vs[i]? = some vs[i] := Array.getElem?_eq_getElem (by omega)
  exact ⟨_, fun _ => by simp only [stepO, e1, h2], hu _ _ _ hr h2⟩
end
end Go.Proofs.Ytdialnejieoelaa.AL
