/- Code over plain data: new arrays, appending, parts of slices. -/
import Derived.Test.YtoppcdecolponaaDoorV2
namespace Go.Proofs.YtoppcdecolponaaDoor.AL
open Go
set_option linter.unusedVariables false
set_option linter.unusedSimpArgs false
structure Src (M m : Mem) (k : Nat) (rows : List (List V)) (x : Value) : Prop where
 h : ∃ (xb : Option Addr) (xc : Nat), x = .slice xb rows.length xc ∧ (rows ≠ [] → ∃ (xa : Addr) (rows' : List (List Value)), xb = some xa ∧ rdn m xa (rows.length * k) = some rows'.flatten ∧ rows'.length = rows.length ∧ (∀ r, r ∈ rows' → r.length = k) ∧
   (∀ (i : Nat) r r', rows[i]? = some r → rows'[i]? = some r' → Pt (RF M) r r'))
 n : ∀ (i : Nat) r (j : Nat) x, rows[i]? = some r → r[j]? = some x → x.nar = true
theorem Src.all {M m : Mem} {k : Nat} {rows : List (List V)} {rows' : List (List Value)} (hl : rows'.length = rows.length) (hn : ∀ (i : Nat) r (j : Nat) x, rows[i]? = some r → r[j]? = some x → x.nar = true)
 (hp : ∀ (i : Nat) r r', rows[i]? = some r → rows'[i]? = some r' → Pt (RF M) r r') : rows'.flatten.all (fun u => !wideV u) = true := by
 rw [List.all_eq_true]
 intro y hy
 obtain ⟨r', hr', hy⟩ := List.mem_flatten.1 hy
 obtain ⟨i, hi⟩ := List.mem_iff_getElem?.1 hr'
 obtain ⟨j, hj⟩ := List.mem_iff_getElem?.1 hy
 have hi2 : i < rows.length := by have := (List.getElem?_eq_some_iff.1 hi).1; omega
 have hp := hp i _ r' (List.getElem?_eq_getElem hi2) hi
 have hj2 : j < rows[i].length := by rw [hp.1]; exact (List.getElem?_eq_some_iff.1 hj).1
 have hx := List.getElem?_eq_getElem hj2
 have := (hp.2 j _ y hx hj).nar (hn i _ j _ (List.getElem?_eq_getElem hi2) hx)
 simp [this]
section
variable {G : Prg} {q : Bool} {tl : List (Nat × V)} {L : List LB}
theorem arr_rel_rep {M Z} {z : List Value} {zr : List V} (hz : ofWs z = some zr) (k : Nat) (hk : z.length = k) (n : Nat) : LB.rel M Z (.arr k (List.replicate n zr)) (List.replicate n z).flatten := by
 obtain ⟨h1, h2⟩ := ofWs_rel (M := M) hz
 refine ⟨List.replicate n z, rfl, by simp, fun r hr => by rw [(List.mem_replicate.1 hr).2]; exact hk, fun i r r' e1 e2 => ?_, fun i r j x e1 e2 => ?_⟩
 · rw [List.getElem?_replicate] at e1 e2
   split at e1
   · rename_i hi; rw [if_pos hi] at e2; cases e1; cases e2; exact h1
   · cases e1
 · rw [List.getElem?_replicate] at e1
   split at e1
   · cases e1; exact h2 x (List.mem_of_getElem? e2)
   · cases e1
def bsV (tl : List (Nat × V)) (k : Nat) : List (Nat × E) → List (List V) → Option (List (List V))
 | [], rows => some rows
 | (i, e) :: ps, rows => match evE tl e with
   | some u => match cellsV u with
     | some cs => match Nat.beq cs.length k && fzs cs with
       | true => match setN rows i cs with
         | some rows1 => bsV tl k ps rows1
         | none => none
       | false => none
     | none => none
   | none => none
theorem bsV_rel {M Z tm k} (hS : Slots M Z tl tm) : ∀ {ps : List (Nat × E)} {rows rows1 cells}, bsV tl k ps rows = some rows1 → LB.rel M Z (.arr k rows) cells →
 rows1.length = rows.length ∧ LB.rel M Z (.arr k rows1) (fill cells (ps.map fun p => (p.1 * k, (p.2.ev tm).cells.toList))) ∧ ps.all (fun p => !isJunk (p.2.ev tm)) = true ∧
  (ps.map fun p => (p.1 * k, (p.2.ev tm).cells.toList)).all (fun p => p.2.length == k && decide (p.1 + p.2.length ≤ rows.length * k)) = true
 | [], rows, rows1, cells, h, hr => by simp [bsV] at h; subst h; exact ⟨rfl, hr, rfl, rfl⟩
 | (i, e) :: ps, rows, rows1, cells, h, hr => by
   simp only [bsV] at h
   split at h
   case h_2 => cases h
   rename_i u hu
   split at h
   case h_2 => cases h
   rename_i cs hcs
   split at h
   case h_2 => cases h
   rename_i hck
   split at h
   case h_2 => cases h
   rename_i rows2 h2
   simp only [Bool.and_eq_true] at hck
   have hck1 := Nat.eq_of_beq_eq_true hck.1
   obtain ⟨hi, rfl⟩ := setN_inv h2
   obtain ⟨hc1, hj⟩ := cellsV_rel (evE_rel hS hu) hcs
   obtain ⟨hc2, hnar⟩ := fzs_rel hc1 hck.2
   obtain ⟨rows', rfl, hl, hall, hpt, hn⟩ := hr
   have hri : rows'[i]? = some rows'[i] := List.getElem?_eq_getElem (by omega)
   have hvl : (e.ev tm).cells.toList.length = k := by rw [← hc2.1]; exact hck1
   have hk : rows'[i].length = k := hall _ (List.getElem_mem _)
   have hset : LB.rel M Z (.arr k (rows.set i cs)) (rows'.flatten.take (i * k) ++ (e.ev tm).cells.toList ++ rows'.flatten.drop (i * k + (e.ev tm).cells.toList.length)) := by
    have := flat_set (vs := (e.ev tm).cells.toList) (off := 0) (k := k) (by omega) hall hri
    rw [Nat.add_zero] at this
    refine ⟨rows'.set i (e.ev tm).cells.toList, ?_, by simp [hl], fun r hr => ?_, fun i' r r' e1 e2 => ?_, fun i' r j x e1 e2 => ?_⟩
    · rw [this]
      congr 2
      rw [List.take_zero, Nat.zero_add, List.drop_eq_nil_of_le (by omega)]
      simp
    · rcases List.mem_or_eq_of_mem_set hr with h | h
      · exact hall r h
      · subst h; exact hvl
    · rw [List.getElem?_set] at e1 e2
      by_cases e : i = i'
      · subst e
        rw [if_pos rfl, if_pos hi] at e1
        rw [if_pos rfl, if_pos (by omega)] at e2
        cases e1; cases e2; exact hc2
      · rw [if_neg e] at e1 e2; exact hpt i' r r' e1 e2
    · rw [List.getElem?_set] at e1
      by_cases e : i = i'
      · subst e
        rw [if_pos rfl, if_pos hi] at e1
        cases e1; exact hnar x (List.mem_of_getElem? e2)
      · rw [if_neg e] at e1; exact hn i' r j x e1 e2
   obtain ⟨g1, g2, g3, g4⟩ := bsV_rel hS h hset
   simp only [List.length_set] at g1 g4
   refine ⟨g1, g2, by simp [hj, g3], ?_⟩
   have hle : i * k + k ≤ rows.length * k := by rw [← Nat.succ_mul]; exact Nat.mul_le_mul_right k hi
   simp only [List.map_cons, List.all_cons, Bool.and_eq_true, beq_iff_eq, decide_eq_true_eq]
   exact ⟨⟨hvl, by omega⟩, by simpa using g4⟩
theorem o_bs {k n z ps zr rows d L1} (hz : ofWs z = some zr) (hk : z.length = k) (hr : bsV tl k ps (List.replicate n zr) = some rows) (hL : pushN L (.arr k rows) = some (L1, d)) :
 OpV G q (.bs k n z ps) tl L (some (.ls d rows.length)) L1 := by
 intro N cx Z M tm m nn hM hS
 have := pushN_inv hL; cases this
 obtain ⟨g1, g2, g3, g4⟩ := bsV_rel hS hr (arr_rel_rep (M := M) (Z := Z) hz k hk n)
 obtain ⟨h1, h2, h3⟩ := hM.push (.arr k rows) _ g2
 refine ⟨_, _, _, _, _, .inl ?_, h1, h2, fun u e => by cases e; exact .ls h3 (Nat.le_refl _) rfl fun _ => rfl⟩
 simp only [List.length_replicate] at g1 g4
 simp only [stepO]
 rw [if_pos ⟨hk, g3, g4⟩]
 simp [slOf, slc, LB.sz, g1]
theorem RF.slice {M : Mem} {k : Nat} {rows : List (List V)} {a : Option Addr} {c : Nat} {rows' : List (List Value)} (hc : rows.length ≤ c) (ha : RowsAt M k a rows') (hl : rows'.length = rows.length)
 (hn : ∀ (i : Nat) (r : List V) (j : Nat) x, rows[i]? = some r → r[j]? = some x → x.nar = true)
 (hk : ∀ (i : Nat) (r : List V) r', rows[i]? = some r → rows'[i]? = some r' → r.length = r'.length)
 (h : ∀ (i : Nat) (r : List V) r' (j : Nat) x y, rows[i]? = some r → rows'[i]? = some r' → r[j]? = some x → r'[j]? = some y → RF M x y) {l h' : Nat} (hlh : l ≤ h') (hh : h' ≤ rows.length) (hne : 0 < rows.length) :
 ∃ ad, a = some ad ∧ ad.spot = none ∧ (∃ blk, M ad.block = some blk ∧ blk.sz = k) ∧ RF M (.sl k ((rows.take h').drop l)) (.slice (some (if c = l then ad else ⟨ad.block, ad.off + l * k, none⟩)) (h' - l) (c - l)) ∧
   RF M (.sl k ((rows.take h').drop l)) (.slice (some (if c = l then ⟨0, 0, some 0⟩ else ⟨ad.block, ad.off + l * k, none⟩)) (h' - l) (c - l)) := by
 obtain ⟨⟨h1, h2⟩, blk, hb, hsz, hrow⟩ := ha (by intro e; subst e; simp at hl; omega)
 cases a with
 | none => cases h1
 | some ad =>
   simp only [adr, Option.getD_some] at h2 hb hrow
   have hlen : ((rows.take h').drop l).length = h' - l := by simp; omega
   have get : ∀ {α : Type} (xs : List α) (i : Nat) r, ((xs.take h').drop l)[i]? = some r → xs[l + i]? = some r := by
    intro α xs i r e
    rw [List.getElem?_drop, List.getElem?_take] at e
    split at e
    · exact e
    · cases e
   have mk : ∀ ad' : Addr, (c ≠ l → ad' = ⟨ad.block, ad.off + l * k, none⟩) → RF M (.sl k ((rows.take h').drop l)) (.slice (some ad') (h' - l) (c - l)) := by
    intro ad' had
    have := RF.sl (M := M) (k := k) (rows := (rows.take h').drop l) (a := some ad') (c := c - l) (rows' := (rows'.take h').drop l) (by rw [hlen]; omega) ?_ (by simp [hl])
     (fun i r j x e1 e2 => hn _ _ _ _ (get _ _ _ e1) e2) (fun i r r' e1 e2 => hk _ _ _ (get _ _ _ e1) (get _ _ _ e2)) (fun i r r' j x y e1 e2 e3 e4 => h _ _ _ _ _ _ (get _ _ _ e1) (get _ _ _ e2) e3 e4)
    · rw [hlen] at this; exact this
    · intro hne'
      have hpos : 0 < ((rows'.take h').drop l).length := List.length_pos_iff.2 hne'
      simp at hpos
      rw [had (by omega)]
      refine ⟨⟨rfl, rfl⟩, blk, hb, hsz, fun i r hr => ?_⟩
      obtain ⟨g1, g2, g3⟩ := hrow _ _ (get _ _ _ hr)
      have e : ad.off + (l + i) * k = ad.off + l * k + i * k := by rw [Nat.add_mul]; omega
      rw [e] at g2 g3
      exact ⟨g1, g2, g3⟩
   exact ⟨ad, rfl, h2, ⟨blk, hb, hsz⟩, mk _ (fun e => by rw [if_neg e]), mk _ (fun e => by rw [if_neg e])⟩
end
end Go.Proofs.YtoppcdecolponaaDoor.AL
