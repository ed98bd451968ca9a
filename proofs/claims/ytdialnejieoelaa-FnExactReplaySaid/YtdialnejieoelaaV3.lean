/- Code over plain data: new arrays, appending, parts of slices. -/
import Derived.Test.YtdialnejieoelaaV2
namespace Go.Proofs.Ytdialnejieoelaa.AL
open Go
set_option linter.unusedVariables false
set_option linter.unusedSimpArgs false
theorem rows_whole {k : Nat} {cells : List Value} : ∀ {rows : List (List Value)} {off : Nat}, (∀ (i : Nat) r, rows[i]? = some r → r.length = k ∧ off + i * k + k ≤ cells.length ∧ (cells.drop (off + i * k)).take k = r) →
 (rows ≠ [] → off + rows.length * k ≤ cells.length) ∧ (cells.drop off).take (rows.length * k) = rows.flatten
 | [], off, h => by simp
 | r :: rows, off, h => by
   obtain ⟨h1, h2, h3⟩ := h 0 r rfl
   have hs : ∀ (i : Nat) r, rows[i]? = some r → r.length = k ∧ (off + k) + i * k + k ≤ cells.length ∧ (cells.drop ((off + k) + i * k)).take k = r := by
    intro i r' hr
    obtain ⟨g1, g2, g3⟩ := h (i + 1) r' (by simpa using hr)
    have e : off + (i + 1) * k = off + k + i * k := by rw [Nat.succ_mul]; omega
    rw [e] at g2 g3
    exact ⟨g1, g2, g3⟩
   obtain ⟨i1, i2⟩ := rows_whole hs
   have e : (r :: rows).length * k = k + rows.length * k := by simp [Nat.succ_mul, Nat.add_comm]
   rw [e]
   simp only [Nat.zero_mul, Nat.add_zero] at h2 h3
   refine ⟨fun _ => ?_, ?_⟩
   · by_cases hr : rows = []
     · subst hr; simp; omega
     · have := i1 hr; omega
   · rw [List.flatten_cons, ← i2, ← h3, ← List.drop_drop, ← List.take_add]
structure Src (M m : Mem) (k : Nat) (rows : List (List V)) (x : Value) : Prop where
 h : ∃ (xb : Option Addr) (xc : Nat), x = .slice xb rows.length xc ∧ (rows ≠ [] → ∃ (xa : Addr) (rows' : List (List Value)), xb = some xa ∧ rdn m xa (rows.length * k) = some rows'.flatten ∧ rows'.length = rows.length ∧ (∀ r, r ∈ rows' → r.length = k) ∧
   (∀ (i : Nat) r r', rows[i]? = some r → rows'[i]? = some r' → Pt (RF M) r r'))
 n : ∀ (i : Nat) r (j : Nat) x, rows[i]? = some r → r[j]? = some x → x.nar = true
theorem Src.ofSl {M m : Mem} {k rows x} (hs : sub M m) (h : RF M (.sl k rows) x) : Src M m k rows x := by
 cases h with
 | sl hc ha hl hn hk hh =>
   rename_i a c rows'
   refine ⟨⟨a, c, rfl, fun hne => ?_⟩, hn⟩
   have hne' : rows' ≠ [] := by intro e; subst e; simp at hl; exact hne (List.eq_nil_of_length_eq_zero (by omega))
   obtain ⟨⟨h1, h2⟩, blk, hb, hsz, hrow⟩ := ha hne'
   cases a with
   | none => cases h1
   | some a =>
     simp only [adr, Option.getD_some] at h2 hb hrow
     obtain ⟨i1, i2⟩ := rows_whole hrow
     have i1 := i1 hne'
     refine ⟨a, rows', rfl, ?_, hl, fun r hr => ?_, fun i r r' e1 e2 => ⟨hk i r r' e1 e2, fun j x y e3 e4 => hh i r r' j x y e1 e2 e3 e4⟩⟩
     · rw [← i2, ← hl]
       simp only [AL.rdn, hs _ _ hb, h2, Option.isSome_none, Bool.false_eq_true, if_false]
       rw [if_pos (by omega)]
     · obtain ⟨i, hi⟩ := List.mem_iff_getElem?.1 hr
       exact (hrow i r hi).1
theorem Src.ofLs {N : Nat} {c : Cx N} {Z M L m n} {k : Nat} {rows : List (List V)} {b : Nat} {a : Option Nat} (hM : StM c Z M L m n) (hz : Z[b]? = some (a, .arr k rows)) : Src M m k rows (slOf a rows.length) := by
 cases a with
 | none =>
   obtain ⟨k', e⟩ := hM.nil _ _ hz
   cases e
   exact ⟨⟨none, 0, rfl, fun h => absurd rfl h⟩, fun i r j x h => by simp at h⟩
 | some ad =>
   obtain ⟨_, _, cells, hm, rows', rfl, hl, hall, hpt, hn⟩ := hM.cell _ _ _ hz
   refine ⟨⟨_, _, rfl, fun _ => ⟨_, rows', rfl, ?_, hl, hall, hpt⟩⟩, hn⟩
   have : rows'.flatten.length = rows.length * k := by rw [flat_len hall, hl]
   simp only [AL.rdn, hm, Option.isSome_none, Bool.false_eq_true, if_false]
   rw [if_pos (by omega), List.drop_zero, List.take_of_length_le (by omega)]
theorem Src.all {M m : Mem} {k : Nat} {rows : List (List V)} {rows' : List (List Value)} (hl : rows'.length = rows.length) (hn : ∀ (i : Nat) r (j : Nat) x, rows[i]? = some r → r[j]? = some x → x.nar = true)
 (hp : ∀ (i : Nat) r r', rows[i]? = some r → rows'[i]? = some r' → Pt (RF M) r r') : rows'.flatten.all (fun u => !wideV u) = true := by
 rw [List.all_eq_true]
 intro y hy
 obtain ⟨r', hr', hy⟩ := List.mem_flatten.1 hy
 obtain ⟨i, hi⟩ := List.mem_iff_getElem?.1 hr'
 obtain ⟨j, hj⟩ := List.mem_iff_getElem?.1 hy
 have hi2 : i < rows.length := by have := (List.getElem?_eq_some_iff.1 hi).1; omega
 have hp := hp i _ r' (List.getElem?_eq_getElem hi2) hi
 have hj2 : j < rows[i].length := by rw [hp.1]; exact (List.getElem?_eq_some_iff.1 hj).1
 have hx := List.getElem?_eq_getElem hj2
 have := (hp.2 j _ y hx hj).nar (hn i _ j _ (List.getElem?_eq_getElem hi2) hx)
 simp [this]
section
variable {G : Prg} {q : Bool} {tl : List (Nat × V)} {L : List LB}
theorem app_core {s x : E} {b len k bytes : Nat} {rows rows2 : List (List V)} {L1 : List LB} (hx : evE tl s = some (.ls b len)) (hb : L[b]? = some (.arr k rows)) (hl : rows.length = len)
 (hL : setN L b (.arr k (rows ++ rows2)) = some L1) (hroom : (rows.length + rows2.length) * bytes ≤ roomy ∧ rows.length + rows2.length ≤ roomy)
 (hs : ∀ (N : Nat) (c : Cx N) Z M tm m n, StM c Z M L m n → Slots M Z tl tm → Src M m k rows2 (x.ev tm)) : OpV G false (.app k bytes s x) tl L (some (.ls b (rows ++ rows2).length)) L1 := by
 intro N c Z M tm m n hM hS
 obtain ⟨a, ha⟩ := hM.getZ hb
 obtain ⟨_, rfl⟩ := setN_inv hL
 have h1 := (evE_rel hS hx).ls_inv ha hl
 obtain ⟨⟨xb, xc, e2, h2⟩, hn2⟩ := hs N c Z M tm m n hM hS
 have hlt : b < Z.length := (List.getElem?_eq_some_iff.1 ha).1
 have hlen : (rows ++ rows2).length = rows.length + rows2.length := by simp
 -- the slice's own length
 have hsl : ∃ base, s.ev tm = .slice base rows.length rows.length ∧ (base = a.map fun ad => ⟨ad, 0, none⟩) := by
  cases a with
  | some ad => exact ⟨_, by rw [h1, ← hl]; rfl, rfl⟩
  | none =>
    obtain ⟨k', e⟩ := hM.nil _ _ ha
    cases e
    exact ⟨none, by rw [h1]; rfl, rfl⟩
 obtain ⟨base, e1, hbase⟩ := hsl
 by_cases hne : rows2 = []
 · subst hne
   refine ⟨s.ev tm, m, n, Z, M, .inl ?_, ExtV.refl _ _, ?_, fun u e => ?_⟩
   · simp only [stepO, e1, e2]
     rw [if_pos ⟨hroom.1, hroom.2, Nat.le_refl _⟩]
     rfl
   · have : L.set b (.arr k (rows ++ [])) = L := by
      rw [List.append_nil]
      apply List.ext_getElem?
      intro i
      rw [List.getElem?_set]
      by_cases e : b = i
      · subst e; rw [if_pos rfl, if_pos (List.getElem?_eq_some_iff.1 hb).1, hb]
      · rw [if_neg e]
     rw [this]; exact hM
   · cases e
     have := evE_rel hS hx
     simpa [hl] using this
 · obtain ⟨xa, rows2', rfl, hrd, hl2, hall2, hpt2⟩ := h2 hne
   have hpos : 0 < rows2.length := List.length_pos_iff.2 hne
   have hnar2 := Src.all (M := M) (m := m) (k := k) hl2 hn2 hpt2
   -- the elder row
   have helder : ∃ rows1' : List (List Value), rows1'.length = rows.length ∧ (∀ r, r ∈ rows1' → r.length = k) ∧ (∀ (i : Nat) r r', rows[i]? = some r → rows1'[i]? = some r' → Pt (RF M) r r') ∧
    (∀ (i : Nat) r (j : Nat) x, rows[i]? = some r → r[j]? = some x → x.nar = true) ∧ ∃ m', (∀ b', b' ∉ a → m' b' = m b') ∧ (∀ ad, a = some ad → m' ad = none) ∧
    stepO c.bs (.app k bytes s x) tm m n = some (slc n 0 (rows.length + rows2.length) (rows.length + rows2.length), upd m' n (some ⟨rows1'.flatten ++ rows2'.flatten, true, k⟩), n + 1) := by
    cases a with
    | none =>
      obtain ⟨k', e⟩ := hM.nil _ _ ha
      cases e
      refine ⟨[], rfl, by simp, fun i r r' h => by simp at h, fun i r j x h => by simp at h, m, fun _ _ => rfl, (fun ad e => by cases e), ?_⟩
      simp only [stepO, e1, e2, hbase, Option.map_none]
      rw [if_pos ⟨hroom.1, hroom.2, Nat.le_refl _⟩, if_neg (by omega)]
      simp [hrd, hnar2]
    | some ad =>
      obtain ⟨ha0, han, cells, hm, rows1', rfl, hl1, hall1, hpt1, hn1⟩ := hM.cell _ _ _ ha
      have hc : rows1'.flatten.length = rows.length * k := by rw [flat_len hall1, hl1]
      refine ⟨rows1', hl1, hall1, hpt1, hn1, upd m ad none, fun b' hb' => ?_, fun ad' e => by cases e; simp [upd], ?_⟩
      · simp only [Option.mem_def, Option.some.injEq] at hb'
        simp only [upd]; rw [if_neg (fun e => hb' e.symm)]
      · simp only [stepO, e1, e2, hbase, Option.map_some]
        rw [if_pos ⟨hroom.1, hroom.2, Nat.le_refl _⟩, if_neg (by omega)]
        simp only [hrd, hnar2, hm, if_true, Option.isSome_none, Bool.false_eq_true, if_false]
        rw [if_pos ⟨hM.bsA ha0, trivial, by simp [LB.sz], by omega, by omega⟩]
        rw [List.drop_zero, List.take_of_length_le (by omega)]
   obtain ⟨rows1', hl1, hall1, hpt1, hn1, m', hm1, hm2, hstep⟩ := helder
   have hget : ∀ (i : Nat) p, (Z.set b (some n, LB.arr k (rows ++ rows2)))[i]? = some p → (i ≠ b ∧ Z[i]? = some p) ∨ (i = b ∧ p = (some n, .arr k (rows ++ rows2))) := by
    intro i p hp
    rw [List.getElem?_set] at hp
    by_cases e : b = i
    · subst e; rw [if_pos rfl, if_pos hlt] at hp; cases hp; exact .inr ⟨rfl, rfl⟩
    · rw [if_neg e] at hp; exact .inl ⟨fun e' => e e'.symm, hp⟩
   have hext : ExtV Z M (Z.set b (some n, LB.arr k (rows ++ rows2))) M := by
    refine ⟨sub_refl _, fun i p hp => ?_⟩
    by_cases e : b = i
    · subst e; rw [ha] at hp; cases hp
      exact ⟨_, by rw [List.getElem?_set, if_pos rfl, if_pos hlt], .inl ⟨_, rfl, by simp, fun e => by simp at e; exact absurd e hne⟩⟩
    · exact ⟨p, by rw [List.getElem?_set, if_neg e]; exact hp, grow.refl p⟩
   have hnm : m n = none := hM.fresh _ (Nat.le_refl _)
   have hk : ∀ b', b' ≠ n → b' ∉ a → (upd m' n (some ⟨rows1'.flatten ++ rows2'.flatten, true, k⟩)) b' = m b' := fun b' h3 h4 => by simp only [upd, if_neg h3]; exact hm1 b' h4
   have ha0 : ∀ ad, a = some ad → c.okA ad ∧ ad < n := fun ad e => by subst e; exact ⟨(hM.cell _ _ _ ha).1, (hM.cell _ _ _ ha).2.1⟩
   have hcn := hM.hn
   refine ⟨_, _, _, Z.set b (some n, .arr k (rows ++ rows2)), M, .inl hstep, hext, ⟨hM.hbs, by omega, ?_, by simp [List.map_set, hM.hL], ?_, ?_, hM.f0, hM.hma, hM.hbr, ?_, ?_, ?_, fun i a' lb hi => ?_⟩, ?_⟩
   · intro b' hb'
     simp only [upd]
     rw [if_neg (by omega)]
     by_cases e : b' ∈ a
     · exact hm2 b' e
     · rw [hm1 b' e]; exact hM.fresh b' (by omega)
   · intro b' y hb'
     obtain ⟨g1, g2, g3⟩ := hM.hM b' y hb'
     have hn' : b' ≠ n := by intro e; subst e; rw [hnm] at g1; cases g1
     have hna : b' ∉ a := fun e => by
      have e : a = some b' := e
      subst e; exact g3 _ _ ha
     refine ⟨by rw [hk b' hn' hna]; exact g1, g2, fun i lb e => ?_⟩
     · rcases hget i _ e with ⟨_, e1⟩ | ⟨_, e1⟩
       · exact g3 i lb e1
       · cases e1; exact hn' rfl
   · intro b' y hb'
     have hlt' : b' < c.n0 := by
      rcases Nat.lt_or_ge b' c.n0 with h | h
      · exact h
      · rw [hM.f0 _ h] at hb'; cases hb'
     have hna : b' ∉ a := fun e => by
      have := hM.m0A (ha0 b' e).1
      rw [this] at hb'; cases hb'
     rw [hk b' (by omega) hna]
     exact hM.h0 _ _ hb'
   · intro i a' lb hi
     rcases hget i _ hi with ⟨hne', e1⟩ | ⟨_, e1⟩
     · obtain ⟨g1, g2, g3⟩ := hM.cell i a' lb e1
       have hna : a' ∉ a := fun e => by
        have e : a = some a' := e
        subst e; exact hne' (hM.inj _ _ _ _ _ e1 ha)
       exact ⟨g1, by omega, g3.mono hext (hk a' (by omega) hna)⟩
     · cases e1
       refine ⟨.inl hcn, by omega, rows1'.flatten ++ rows2'.flatten, by simp [upd, LB.sz], rows1' ++ rows2', by simp, by simp [hl1, hl2], ?_, ?_, ?_⟩
       · intro r hr
         rcases List.mem_append.1 hr with h | h
         · exact hall1 r h
         · exact hall2 r h
       · intro i r r' e1 e2
         rw [List.getElem?_append] at e1 e2
         rw [hl1] at e2
         split at e1
         · rename_i hi; rw [if_pos hi] at e2; exact hpt1 i r r' e1 e2
         · rename_i hi; rw [if_neg hi] at e2; exact hpt2 _ r r' e1 e2
       · intro i r j x e1 e2
         rw [List.getElem?_append] at e1
         split at e1
         · exact hn1 i r j x e1 e2
         · exact hn2 _ r j x e1 e2
   · intro i lb hi
     rcases hget i _ hi with ⟨_, e1⟩ | ⟨_, e1⟩
     · exact hM.nl i lb e1
     · cases e1
   · intro i j a' l1 l2 hi hj
     rcases hget i _ hi with ⟨_, e1⟩ | ⟨e0, e1⟩ <;> rcases hget j _ hj with ⟨_, e2⟩ | ⟨e3, e2⟩
     · exact hM.inj i j a' l1 l2 e1 e2
     · cases e2; have := (hM.cell i _ _ e1).2.1; omega
     · cases e1; have := (hM.cell j _ _ e2).2.1; omega
     · omega
   · rcases hget i _ hi with ⟨_, e1⟩ | ⟨_, e1⟩
     · exact hM.lo i a' lb e1
     · cases e1; exact .inl hcn
   · intro u e
     cases e
     refine .ls (by rw [List.getElem?_set, if_pos rfl, if_pos hlt]) (Nat.le_refl _) rfl fun _ => ?_
     rw [hlen]; rfl
theorem o_app {s x : E} {b len k bytes : Nat} {rows rows2 : List (List V)} {L1 : List LB} (hx : evE tl s = some (.ls b len)) (hb : L[b]? = some (.arr k rows)) (hl : rows.length = len)
 (hy : evE tl x = some (.sl k rows2)) (hL : setN L b (.arr k (rows ++ rows2)) = some L1) (hroom : (rows.length + rows2.length) * bytes ≤ roomy ∧ rows.length + rows2.length ≤ roomy) :
 OpV G false (.app k bytes s x) tl L (some (.ls b (rows ++ rows2).length)) L1 :=
 app_core hx hb hl hL hroom fun N c Z M tm m n hM hS => Src.ofSl hM.subM (evE_rel hS hy).sl_inv
theorem o_appL {s x : E} {b len k bytes b2 len2 : Nat} {rows rows2 : List (List V)} {L1 : List LB} (hx : evE tl s = some (.ls b len)) (hb : L[b]? = some (.arr k rows)) (hl : rows.length = len)
 (hy : evE tl x = some (.ls b2 len2)) (hb2 : L[b2]? = some (.arr k rows2)) (hl2 : rows2.length = len2) (hL : setN L b (.arr k (rows ++ rows2)) = some L1)
 (hroom : (rows.length + rows2.length) * bytes ≤ roomy ∧ rows.length + rows2.length ≤ roomy) :
 OpV G false (.app k bytes s x) tl L (some (.ls b (rows ++ rows2).length)) L1 :=
 app_core hx hb hl hL hroom fun N c Z M tm m n hM hS => by
  obtain ⟨a, ha⟩ := hM.getZ hb2
  rw [(evE_rel hS hy).ls_inv ha hl2, ← hl2]
  exact Src.ofLs hM ha
theorem arr_rel_rep {M Z} {z : List Value} {zr : List V} (hz : ofWs z = some zr) (k : Nat) (hk : z.length = k) (n : Nat) : LB.rel M Z (.arr k (List.replicate n zr)) (List.replicate n z).flatten := by
 obtain ⟨h1, h2⟩ := ofWs_rel (M := M) hz
 refine ⟨List.replicate n z, rfl, by simp, fun r hr => by rw [(List.mem_replicate.1 hr).2]; exact hk, fun i r r' e1 e2 => ?_, fun i r j x e1 e2 => ?_⟩
 · rw [List.getElem?_replicate] at e1 e2
   split at e1
   · rename_i hi; rw [if_pos hi] at e2; cases e1; cases e2; exact h1
   · cases e1
 · rw [List.getElem?_replicate] at e1
   split at e1
   · cases e1; exact h2 x (List.mem_of_getElem? e2)
   · cases e1
theorem o_mk {k bytes z l c zr a d L1} (hz : ofWs z = some zr) (hk : z.length = k) (hl : evE tl l = some (.w (.int .i64 a))) (hc : evE tl c = some (.w (.int .i64 a))) (hroom : 0 ≤ a ∧ a.toNat * bytes ≤ roomy ∧ a ≤ roomy)
 (hL : pushN L (.arr k (List.replicate a.toNat zr)) = some (L1, d)) : OpV G q (.mk k bytes z l c) tl L (some (.ls d (List.replicate a.toNat zr).length)) L1 := by
 intro N cx Z M tm m n hM hS
 have := pushN_inv hL; cases this
 obtain ⟨h1, h2, h3⟩ := hM.push (.arr k (List.replicate a.toNat zr)) (List.replicate a.toNat z).flatten (arr_rel_rep hz k hk _)
 refine ⟨_, _, _, _, _, .inl ?_, h1, h2, fun u e => by cases e; exact .ls h3 (Nat.le_refl _) rfl fun _ => rfl⟩
 simp only [stepO, evE_w hS hl, evE_w hS hc]
 rw [if_pos ⟨hroom.1, Int.le_refl _, hroom.2.1, hroom.2.2, hk⟩]
 simp [slOf, slc, LB.sz]
def bsV (tl : List (Nat × V)) (k : Nat) : List (Nat × E) → List (List V) → Option (List (List V))
 | [], rows => some rows
 | (i, e) :: ps, rows => match evE tl e with
   | some u => match cellsV u with
     | some cs => match Nat.beq cs.length k && fzs cs with
       | true => match setN rows i cs with
         | some rows1 => bsV tl k ps rows1
         | none => none
       | false => none
     | none => none
   | none => none
theorem bsV_rel {M Z tm k} (hS : Slots M Z tl tm) : ∀ {ps : List (Nat × E)} {rows rows1 cells}, bsV tl k ps rows = some rows1 → LB.rel M Z (.arr k rows) cells →
 rows1.length = rows.length ∧ LB.rel M Z (.arr k rows1) (fill cells (ps.map fun p => (p.1 * k, (p.2.ev tm).cells.toList))) ∧ ps.all (fun p => !isJunk (p.2.ev tm)) = true ∧
  (ps.map fun p => (p.1 * k, (p.2.ev tm).cells.toList)).all (fun p => p.2.length == k && decide (p.1 + p.2.length ≤ rows.length * k)) = true
 | [], rows, rows1, cells, h, hr => by simp [bsV] at h; subst h; exact ⟨rfl, hr, rfl, rfl⟩
 | (i, e) :: ps, rows, rows1, cells, h, hr => by
   simp only [bsV] at h
   split at h
   case h_2 => cases h
   rename_i u hu
   split at h
   case h_2 => cases h
   rename_i cs hcs
   split at h
   case h_2 => cases h
   rename_i hck
   split at h
   case h_2 => cases h
   rename_i rows2 h2
   simp only [Bool.and_eq_true] at hck
   have hck1 := Nat.eq_of_beq_eq_true hck.1
   obtain ⟨hi, rfl⟩ := setN_inv h2
   obtain ⟨hc1, hj⟩ := cellsV_rel (evE_rel hS hu) hcs
   obtain ⟨hc2, hnar⟩ := fzs_rel hc1 hck.2
   obtain ⟨rows', rfl, hl, hall, hpt, hn⟩ := hr
   have hri : rows'[i]? = some rows'[i] := List.getElem?_eq_getElem (by omega)
   have hvl : (e.ev tm).cells.toList.length = k := by rw [← hc2.1]; exact hck1
   have hk : rows'[i].length = k := hall _ (List.getElem_mem _)
   have hset : LB.rel M Z (.arr k (rows.set i cs)) (rows'.flatten.take (i * k) ++ (e.ev tm).cells.toList ++ rows'.flatten.drop (i * k + (e.ev tm).cells.toList.length)) := by
    have := flat_set (vs := (e.ev tm).cells.toList) (off := 0) (k := k) (by omega) hall hri
    rw [Nat.add_zero] at this
    refine ⟨rows'.set i (e.ev tm).cells.toList, ?_, by simp [hl], fun r hr => ?_, fun i' r r' e1 e2 => ?_, fun i' r j x e1 e2 => ?_⟩
    · rw [this]
      congr 2
      rw [List.take_zero, Nat.zero_add, List.drop_eq_nil_of_le (by omega)]
      simp
    · rcases List.mem_or_eq_of_mem_set hr with h | h
      · exact hall r h
      · subst h; exact hvl
    · rw [List.getElem?_set] at e1 e2
      by_cases e : i = i'
      · subst e
        rw [if_pos rfl, if_pos hi] at e1
        rw [if_pos rfl, if_pos (by omega)] at e2
        cases e1; cases e2; exact hc2
      · rw [if_neg e] at e1 e2; exact hpt i' r r' e1 e2
    · rw [List.getElem?_set] at e1
      by_cases e : i = i'
      · subst e
        rw [if_pos rfl, if_pos hi] at e1
        cases e1; exact hnar x (List.mem_of_getElem? e2)
      · rw [if_neg e] at e1; exact hn i' r j x e1 e2
   obtain ⟨g1, g2, g3, g4⟩ := bsV_rel hS h hset
   simp only [List.length_set] at g1 g4
   refine ⟨g1, g2, by simp [hj, g3], ?_⟩
   have hle : i * k + k ≤ rows.length * k := by rw [← Nat.succ_mul]; exact Nat.mul_le_mul_right k hi
   simp only [List.map_cons, List.all_cons, Bool.and_eq_true, beq_iff_eq, decide_eq_true_eq]
   exact ⟨⟨hvl, by omega⟩, by simpa using g4⟩
theorem o_bs {k n z ps zr rows d L1} (hz : ofWs z = some zr) (hk : z.length = k) (hr : bsV tl k ps (List.replicate n zr) = some rows) (hL : pushN L (.arr k rows) = some (L1, d)) :
 OpV G q (.bs k n z ps) tl L (some (.ls d rows.length)) L1 := by
 intro N cx Z M tm m nn hM hS
 have := pushN_inv hL; cases this
 obtain ⟨g1, g2, g3, g4⟩ := bsV_rel hS hr (arr_rel_rep (M := M) (Z := Z) hz k hk n)
 obtain ⟨h1, h2, h3⟩ := hM.push (.arr k rows) _ g2
 refine ⟨_, _, _, _, _, .inl ?_, h1, h2, fun u e => by cases e; exact .ls h3 (Nat.le_refl _) rfl fun _ => rfl⟩
 simp only [List.length_replicate] at g1 g4
 simp only [stepO]
 rw [if_pos ⟨hk, g3, g4⟩]
 simp [slOf, slc, LB.sz, g1]
def bdV (tl : List (Nat × V)) : List (Nat × Nat × E) → List V → Option (List V)
 | [], row => some row
 | (i, k, e) :: ps, row => match evE tl e with
   | some u => match cellsV u with
     | some cs => match Nat.beq cs.length k with
       | true => match splN row i cs with
         | some row1 => bdV tl ps row1
         | none => none
       | false => none
     | none => none
   | none => none
theorem bdV_rel {M Z tm} (hS : Slots M Z tl tm) : ∀ {ps : List (Nat × Nat × E)} {row row1 cells}, bdV tl ps row = some row1 → Pt (RL M Z) row cells →
 row1.length = row.length ∧ Pt (RL M Z) row1 (fill cells (ps.map fun p => (p.1, (p.2.2.ev tm).cells.toList))) ∧
  ps.all (fun p => !isJunk (p.2.2.ev tm) && (p.2.2.ev tm).cells.size == p.2.1 && decide (p.1 + p.2.1 ≤ row.length)) = true
 | [], row, row1, cells, h, hr => by simp [bdV] at h; subst h; exact ⟨rfl, hr, rfl⟩
 | (i, k, e) :: ps, row, row1, cells, h, hr => by
   simp only [bdV] at h
   split at h
   case h_2 => cases h
   rename_i u hu
   split at h
   case h_2 => cases h
   rename_i cs hcs
   split at h
   case h_2 => cases h
   rename_i hck
   split at h
   case h_2 => cases h
   rename_i row2 h2
   have hck1 := Nat.eq_of_beq_eq_true hck
   obtain ⟨hi, rfl⟩ := splN_inv h2
   obtain ⟨hc1, hj⟩ := cellsV_rel (evE_rel hS hu) hcs
   have hvl : (e.ev tm).cells.toList.length = cs.length := hc1.1.symm
   have hvs : (e.ev tm).cells.size = k := by rw [← Array.length_toList]; omega
   have hp : Pt (RL M Z) (row.take i ++ cs ++ row.drop (i + cs.length)) (cells.take i ++ (e.ev tm).cells.toList ++ cells.drop (i + (e.ev tm).cells.toList.length)) := by
    rw [hvl]; exact ((hr.take i).append hc1).append (hr.drop _)
   obtain ⟨g1, g2, g3⟩ := bdV_rel hS h hp
   have hlen : (row.take i ++ cs ++ row.drop (i + cs.length)).length = row.length := by simp; omega
   rw [hlen] at g1 g3
   refine ⟨g1, g2, ?_⟩
   simp only [List.all_cons, hj, hvs, Bool.and_eq_true, decide_eq_true_eq]
   exact ⟨⟨⟨rfl, by simp⟩, by omega⟩, g3⟩
theorem o_bd {z ps zr row} (hz : ofWs z = some zr) (hr : bdV tl ps zr = some row) : OpV G q (.bd z ps) tl L (some (.agg row)) L :=
 .same fun N c Z M tm m n hM hS => by
  have h0 := (ofWs_rel (M := M) hz).1
  obtain ⟨g1, g2, g3⟩ := bdV_rel hS hr (Pt.mono h0 fun _ _ => RL.fz (Z := Z))
  rw [h0.1] at g3
  refine ⟨.agg (fill z (ps.map fun p => (p.1, (p.2.2.ev tm).cells.toList))).toArray, fun _ => ?_, .agg (by simpa using g2.1) fun i x y h1 h2 => g2.2 i x y h1 (by simpa using h2)⟩
  simp only [stepO]
  rw [if_pos g3]
def bndV (tl : List (Nat × V)) (d : Int) : Option E → Option Int
 | none => some d
 | some e => match evE tl e with
   | some (.w (.int _ i)) => some i
   | _ => none
theorem bndV_rel {M Z tm} (hS : Slots M Z tl tm) {d x i} (h : bndV tl (d : Nat) x = some i) {most : Nat} (hi : 0 ≤ i ∧ i ≤ most) : bnd tm x d most = some i.toNat := by
 unfold bndV at h
 split at h
 · cases h; simp [bnd]
 · rename_i e
   split at h
   · rename_i k i' he
     cases h
     simp only [bnd, evE_w hS he]
     rw [if_pos hi]
   · cases h
theorem RF.slice {M : Mem} {k : Nat} {rows : List (List V)} {a : Option Addr} {c : Nat} {rows' : List (List Value)} (hc : rows.length ≤ c) (ha : RowsAt M k a rows') (hl : rows'.length = rows.length)
 (hn : ∀ (i : Nat) (r : List V) (j : Nat) x, rows[i]? = some r → r[j]? = some x → x.nar = true)
 (hk : ∀ (i : Nat) (r : List V) r', rows[i]? = some r → rows'[i]? = some r' → r.length = r'.length)
 (h : ∀ (i : Nat) (r : List V) r' (j : Nat) x y, rows[i]? = some r → rows'[i]? = some r' → r[j]? = some x → r'[j]? = some y → RF M x y) {l h' : Nat} (hlh : l ≤ h') (hh : h' ≤ rows.length) (hne : 0 < rows.length) :
 ∃ ad, a = some ad ∧ ad.spot = none ∧ (∃ blk, M ad.block = some blk ∧ blk.sz = k) ∧ RF M (.sl k ((rows.take h').drop l)) (.slice (some (if c = l then ad else ⟨ad.block, ad.off + l * k, none⟩)) (h' - l) (c - l)) ∧
   RF M (.sl k ((rows.take h').drop l)) (.slice (some (if c = l then ⟨0, 0, some 0⟩ else ⟨ad.block, ad.off + l * k, none⟩)) (h' - l) (c - l)) := by
 obtain ⟨⟨h1, h2⟩, blk, hb, hsz, hrow⟩ := ha (by intro e; subst e; simp at hl; omega)
 cases a with
 | none => cases h1
 | some ad =>
   simp only [adr, Option.getD_some] at h2 hb hrow
   have hlen : ((rows.take h').drop l).length = h' - l := by simp; omega
   have get : ∀ {α : Type} (xs : List α) (i : Nat) r, ((xs.take h').drop l)[i]? = some r → xs[l + i]? = some r := by
    intro α xs i r e
    rw [List.getElem?_drop, List.getElem?_take] at e
    split at e
    · exact e
    · cases e
   have mk : ∀ ad' : Addr, (c ≠ l → ad' = ⟨ad.block, ad.off + l * k, none⟩) → RF M (.sl k ((rows.take h').drop l)) (.slice (some ad') (h' - l) (c - l)) := by
    intro ad' had
    have := RF.sl (M := M) (k := k) (rows := (rows.take h').drop l) (a := some ad') (c := c - l) (rows' := (rows'.take h').drop l) (by rw [hlen]; omega) ?_ (by simp [hl])
     (fun i r j x e1 e2 => hn _ _ _ _ (get _ _ _ e1) e2) (fun i r r' e1 e2 => hk _ _ _ (get _ _ _ e1) (get _ _ _ e2)) (fun i r r' j x y e1 e2 e3 e4 => h _ _ _ _ _ _ (get _ _ _ e1) (get _ _ _ e2) e3 e4)
    · rw [hlen] at this; exact this
    · intro hne'
      have hpos : 0 < ((rows'.take h').drop l).length := List.length_pos_iff.2 hne'
      simp at hpos
      rw [had (by omega)]
      refine ⟨⟨rfl, rfl⟩, blk, hb, hsz, fun i r hr => ?_⟩
      obtain ⟨g1, g2, g3⟩ := hrow _ _ (get _ _ _ hr)
      have e : ad.off + (l + i) * k = ad.off + l * k + i * k := by rw [Nat.add_mul]; omega
      rw [e] at g2 g3
      exact ⟨g1, g2, g3⟩
   exact ⟨ad, rfl, h2, ⟨blk, hb, hsz⟩, mk _ (fun e => by rw [if_neg e]), mk _ (fun e => by rw [if_neg e])⟩
theorem o_sl {k x lo hi l h rows} (hx : evE tl x = some (.sl k rows)) (hh : bndV tl (rows.length : Nat) hi = some h) (hl : bndV tl (0 : Nat) lo = some l) (hne : 0 < rows.length) (hb : 0 ≤ l ∧ l ≤ h ∧ h ≤ rows.length) :
 OpV G q (.sl k x lo hi none) tl L (some (.sl k ((rows.take h.toNat).drop l.toNat))) L :=
 .same fun N cx Z M tm m n hM hS => by
  have h1 := (evE_rel hS hx).sl_inv
  obtain ⟨e, he⟩ : ∃ e, x.ev tm = e := ⟨_, rfl⟩
  rw [he] at h1
  cases h1 with
  | sl hc ha hl' hn hk hr =>
    rename_i a c rows'
    obtain ⟨ad, rfl, hsp, ⟨blk, hblk, hsz⟩, r1, r2⟩ := RF.slice hc ha hl' hn hk hr (l := l.toNat) (h' := h.toNat) (by omega) (by omega) hne
    have hbm := hM.subM _ _ hblk
    refine ⟨_, fun _ => ?_, .fz r2⟩
    simp only [stepO, he]
    rw [show bnd tm none c c = some c from rfl]
    simp only
    rw [bndV_rel hS hh (by omega : 0 ≤ h ∧ h ≤ (c : Int))]
    simp only
    rw [bndV_rel hS hl (by omega : 0 ≤ l ∧ l ≤ (h.toNat : Int))]
    simp only
    rw [if_pos ⟨by omega, hc, by simp, by simp⟩]
    by_cases ec : c = l.toNat
    · rw [if_pos ⟨ec, rfl⟩, if_pos ec]
      have e1 : h.toNat - l.toNat = 0 := by omega
      have e2 : c - l.toNat = 0 := by omega
      rw [e1, e2]
    · rw [if_neg (by simp [ec]), if_neg ec, if_neg (by simp [hsp])]
      simp [hbm, hsz, ec]
end
end Go.Proofs.Ytdialnejieoelaa.AL
