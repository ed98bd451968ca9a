/- Code over plain data: what lies in memory is told by lists, and addresses are out of sight. The relation of such data to memory. -/
import Derived.Test.YtoppcdecolponaaDoorKl
import Derived.Test.YtoppcdecolponaaDoorAlQ
namespace Go.Proofs.YtoppcdecolponaaDoor.AL
open Go
set_option linter.unusedVariables false
set_option linter.unusedSimpArgs false
inductive V where
 | w (v : Value)
 | agg (cs : List V)
 | tup (cs : List V)
 | sl (k : Nat) (rows : List (List V))
 | rp (row : List V) (off : Nat)
 | cp (b off : Nat)
 | ap (b len j off : Nat)
 | ls (b len : Nat)
 | fn (f : Nat) (caps : List V)
 | raw (x : Value)
inductive LB where
 | cell (row : List V)
 | arr (k : Nat) (rows : List (List V))
 | gone
 | dead
def LB.sz : LB → Nat
 | .cell _ => 1
 | .arr k _ => k
 | .gone => 1
 | .dead => 0
def LB.cl : LB → Prop
 | .arr _ _ => False
 | .dead => False
 | _ => True
def V.nar : V → Bool
 | .agg _ | .tup _ => false
 | _ => true
inductive RF (M : Mem) : V → Value → Prop
 | w {v} (h : flatW v = true) : RF M (.w v) v
 | agg {cs : List V} {vs : Array Value} (hl : cs.length = vs.size) (h : ∀ (i : Nat) x y, cs[i]? = some x → vs[i]? = some y → RF M x y) : RF M (.agg cs) (.agg vs)
 | tup {cs : List V} {vs : Array Value} (hl : cs.length = vs.size) (h : ∀ (i : Nat) x y, cs[i]? = some x → vs[i]? = some y → RF M x y) : RF M (.tup cs) (.tuple vs)
 | sl {k : Nat} {rows : List (List V)} {a : Option Addr} {c : Nat} {rows' : List (List Value)} (hc : rows.length ≤ c) (ha : RowsAt M k a rows') (hl : rows'.length = rows.length)
    (hn : ∀ (i : Nat) r (j : Nat) x, rows[i]? = some r → r[j]? = some x → x.nar = true)
    (hk : ∀ (i : Nat) r r', rows[i]? = some r → rows'[i]? = some r' → r.length = r'.length)
    (h : ∀ (i : Nat) r r' (j : Nat) x y, rows[i]? = some r → rows'[i]? = some r' → r[j]? = some x → r'[j]? = some y → RF M x y) : RF M (.sl k rows) (.slice a rows.length c)
 | rp {row : List V} {off b o : Nat} {blk : Blk} (hb : M b = some blk) (hr : o + row.length ≤ blk.cells.length)
    (h : ∀ (j : Nat) x y, row[j]? = some x → blk.cells[o + j]? = some y → RF M x y) : RF M (.rp row off) (.pointer (some ⟨b, o + off, none⟩))
 | fn {f : Nat} {caps : List V} {vs : Array Value} (hl : caps.length = vs.size) (h : ∀ (i : Nat) x y, caps[i]? = some x → vs[i]? = some y → RF M x y) : RF M (.fn f caps) (.func (.func f) #[] vs)
 | raw {x} (h : wideV x = false) : RF M (.raw x) x
def slOf (a : Option Nat) (len : Nat) : Value := match a with
 | some ad => .slice (some ⟨ad, 0, none⟩) len len
 | none => .slice none 0 0
abbrev Zl := List (Option Nat × LB)
inductive RL (M : Mem) (Z : Zl) : V → Value → Prop
 | fz {v x} (h : RF M v x) : RL M Z v x
 | agg {cs : List V} {vs : Array Value} (hl : cs.length = vs.size) (h : ∀ (i : Nat) x y, cs[i]? = some x → vs[i]? = some y → RL M Z x y) : RL M Z (.agg cs) (.agg vs)
 | tup {cs : List V} {vs : Array Value} (hl : cs.length = vs.size) (h : ∀ (i : Nat) x y, cs[i]? = some x → vs[i]? = some y → RL M Z x y) : RL M Z (.tup cs) (.tuple vs)
 | fn {f : Nat} {caps : List V} {vs : Array Value} (hl : caps.length = vs.size) (h : ∀ (i : Nat) x y, caps[i]? = some x → vs[i]? = some y → RL M Z x y) : RL M Z (.fn f caps) (.func (.func f) #[] vs)
 | cp {b off a : Nat} {lb : LB} (hz : Z[b]? = some (some a, lb)) (hc : lb.cl) : RL M Z (.cp b off) (.pointer (some ⟨a, off, none⟩))
 | ap {b len j off k : Nat} {a : Option Nat} {rows : List (List V)} {x : Value} (hz : Z[b]? = some (a, .arr k rows)) (hle : len ≤ rows.length) (hw : wideV x = false)
    (h : rows.length = len → ∃ ad, a = some ad ∧ x = .pointer (some ⟨ad, j * k + off, none⟩)) : RL M Z (.ap b len j off) x
 | ls {b len k : Nat} {a : Option Nat} {rows : List (List V)} {x : Value} (hz : Z[b]? = some (a, .arr k rows)) (hle : len ≤ rows.length) (hw : wideV x = false)
    (h : rows.length = len → x = slOf a len) : RL M Z (.ls b len) x
 | apD {b len j off : Nat} {a : Option Nat} {x : Value} (hz : Z[b]? = some (a, .dead)) (hw : wideV x = false) : RL M Z (.ap b len j off) x
 | lsD {b len : Nat} {a : Option Nat} {x : Value} (hz : Z[b]? = some (a, .dead)) (hw : wideV x = false) : RL M Z (.ls b len) x
theorem RF.mono {M M1 : Mem} (hs : sub M M1) {v x} (h : RF M v x) : RF M1 v x := by
 induction h with
 | w h => exact .w h
 | agg hl _ ih => exact .agg hl ih
 | tup hl _ ih => exact .tup hl ih
 | sl hc ha hl hn hk _ ih => exact .sl hc (ha.mono hs) hl hn hk ih
 | rp hb hr _ ih => exact .rp (hs _ _ hb) hr ih
 | fn hl _ ih => exact .fn hl ih
 | raw h => exact .raw h
theorem RF.nar {M v x} (h : RF M v x) (hn : v.nar = true) : wideV x = false := by
 cases h with
 | raw h => exact h
 | w h => cases x <;> first | rfl | cases h
 | agg => cases hn
 | tup => cases hn
 | _ => rfl
theorem RL.nar {M Z v x} (h : RL M Z v x) (hn : v.nar = true) : wideV x = false := by
 cases h with
 | fz h => exact h.nar hn
 | agg => cases hn
 | tup => cases hn
 | fn => rfl
 | cp => rfl
 | ap _ _ hw => exact hw
 | ls _ _ hw => exact hw
 | apD _ hw => exact hw
 | lsD _ hw => exact hw
def grow (p p1 : Option Nat × LB) : Prop := match p.2 with
 | .cell _ => p1.2.cl ∧ p1.1 = p.1
 | .gone => p1.2.cl ∧ p1.1 = p.1
 | .arr k rows => (∃ rows1, p1.2 = .arr k rows1 ∧ rows.length ≤ rows1.length ∧ (rows1.length = rows.length → p1.1 = p.1)) ∨ p1.2 = .dead
 | .dead => p1.2 = .dead
theorem grow.refl (p) : grow p p := by
 unfold grow
 obtain ⟨a, lb⟩ := p
 cases lb with
 | cell row => exact ⟨trivial, rfl⟩
 | gone => exact ⟨trivial, rfl⟩
 | arr k rows => exact .inl ⟨rows, rfl, Nat.le_refl _, fun _ => rfl⟩
 | dead => exact rfl
theorem grow.cl {p p1} (h : grow p p1) (hc : p.2.cl) : p1.2.cl ∧ p1.1 = p.1 := by
 unfold grow at h
 obtain ⟨a, lb⟩ := p
 cases lb with
 | cell row => exact h
 | gone => exact h
 | arr k rows => exact hc.elim
 | dead => exact hc.elim
theorem grow.ofCl {p p1 : Option Nat × LB} (hc : p.2.cl) (hc1 : p1.2.cl) (e : p1.1 = p.1) : grow p p1 := by
 unfold grow
 obtain ⟨a, lb⟩ := p
 cases lb with
 | cell row => exact ⟨hc1, e⟩
 | gone => exact ⟨hc1, e⟩
 | arr k rows => exact hc.elim
 | dead => exact hc.elim
theorem grow.arr {a k rows p1} (h : grow (a, .arr k rows) p1) : (∃ rows1, p1.2 = .arr k rows1 ∧ rows.length ≤ rows1.length ∧ (rows1.length = rows.length → p1.1 = a)) ∨ p1.2 = .dead := h
theorem grow.deadI {a p1} (h : grow (a, .dead) p1) : p1.2 = .dead := h
theorem grow.trans {p q r} (h : grow p q) (k : grow q r) : grow p r := by
 by_cases hc : p.2.cl
 · obtain ⟨h1, h2⟩ := h.cl hc
   obtain ⟨h3, h4⟩ := k.cl h1
   exact .ofCl hc h3 (h4.trans h2)
 · obtain ⟨a, lb⟩ := p
   obtain ⟨a1, lb1⟩ := q
   obtain ⟨a2, lb2⟩ := r
   cases lb with
   | cell row => exact (hc trivial).elim
   | gone => exact (hc trivial).elim
   | dead =>
     have := h.deadI
     simp only at this
     subst this
     exact k.deadI
   | arr s rows =>
     rcases h.arr with ⟨r1, e, h1, h2⟩ | e
     · simp only at e h2
       subst e
       rcases k.arr with ⟨r2, e, h3, h4⟩ | e
       · simp only at e h4
         subst e
         exact .inl ⟨r2, rfl, by omega, fun e => by
          have := h4 (by omega)
          have := h2 (by omega)
          simp only
          simp_all⟩
       · exact .inr e
     · simp only at e
       subst e
       exact .inr k.deadI
structure ExtV (Z : Zl) (M : Mem) (Z1 : Zl) (M1 : Mem) : Prop where
 hM : sub M M1
 hZ : ∀ (b : Nat) p, Z[b]? = some p → ∃ p1, Z1[b]? = some p1 ∧ grow p p1
theorem ExtV.refl (Z M) : ExtV Z M Z M := ⟨sub_refl _, fun _ p h => ⟨p, h, grow.refl p⟩⟩
structure ExtN (N : Nat) (Z : Zl) (M : Mem) (Z1 : Zl) (M1 : Mem) : Prop where
 hM : sub M M1
 hZ : ∀ (b : Nat) p, b < N → Z[b]? = some p → ∃ p1, Z1[b]? = some p1 ∧ grow p p1
theorem ExtV.toN {N Z M Z1 M1} (h : ExtV Z M Z1 M1) : ExtN N Z M Z1 M1 := ⟨h.hM, fun b p _ hp => h.hZ b p hp⟩
theorem ExtN.trans {N Z M Z1 M1 Z2 M2} (h : ExtN N Z M Z1 M1) (k : ExtN N Z1 M1 Z2 M2) : ExtN N Z M Z2 M2 :=
 ⟨sub_trans h.hM k.hM, fun b p hb hp => let ⟨p1, h1, g1⟩ := h.hZ b p hb hp; let ⟨p2, h2, g2⟩ := k.hZ b p1 hb h1; ⟨p2, h2, g1.trans g2⟩⟩
theorem ExtV.trans {N Z M Z1 M1 Z2 M2} (h : ExtV Z M Z1 M1) (k : ExtN N Z1 M1 Z2 M2) : ExtN N Z M Z2 M2 := h.toN.trans k
theorem ExtN.refl (N Z M) : ExtN N Z M Z M := (ExtV.refl Z M).toN
theorem ExtN.less {N N1 Z M Z1 M1} (h : ExtN N Z M Z1 M1) (hn : N1 ≤ N) : ExtN N1 Z M Z1 M1 := ⟨h.hM, fun b p hb hp => h.hZ b p (by omega) hp⟩
theorem RL.mono {Z M Z1 M1} (he : ExtV Z M Z1 M1) {v x} (h : RL M Z v x) : RL M1 Z1 v x := by
 induction h with
 | fz h => exact .fz (h.mono he.hM)
 | agg hl _ ih => exact .agg hl ih
 | tup hl _ ih => exact .tup hl ih
 | fn hl _ ih => exact .fn hl ih
 | cp hz hc =>
   obtain ⟨⟨a1, lb1⟩, h1, hg⟩ := he.hZ _ _ hz
   obtain ⟨e, e1⟩ := hg.cl hc
   simp only at e e1
   subst e1
   exact .cp h1 e
 | ap hz hle hw h =>
   obtain ⟨⟨a1, lb1⟩, h1, g⟩ := he.hZ _ _ hz
   rcases g.arr with ⟨r1, e, g1, g2⟩ | e
   · simp only at e g2
     subst e
     refine .ap h1 (by omega) hw fun e => ?_
     obtain ⟨ad, e1, e2⟩ := h (by omega)
     exact ⟨ad, by rw [g2 (by omega), e1], e2⟩
   · simp only at e
     subst e
     exact .apD h1 hw
 | ls hz hle hw h =>
   obtain ⟨⟨a1, lb1⟩, h1, g⟩ := he.hZ _ _ hz
   rcases g.arr with ⟨r1, e, g1, g2⟩ | e
   · simp only at e g2
     subst e
     refine .ls h1 (by omega) hw fun e => ?_
     rw [h (by omega), g2 (by omega)]
   · simp only at e
     subst e
     exact .lsD h1 hw
 | apD hz hw =>
   obtain ⟨⟨a1, lb1⟩, h1, g⟩ := he.hZ _ _ hz
   have e := g.deadI
   simp only at e
   subst e
   exact .apD h1 hw
 | lsD hz hw =>
   obtain ⟨⟨a1, lb1⟩, h1, g⟩ := he.hZ _ _ hz
   have e := g.deadI
   simp only at e
   subst e
   exact .lsD h1 hw
theorem RL.w_inv {M Z v x} (h : RL M Z (.w v) x) : x = v ∧ flatW v = true := by
 cases h with
 | fz h => cases h with | w h => exact ⟨rfl, h⟩
theorem RL.agg_inv {M Z cs x} (h : RL M Z (.agg cs) x) : ∃ vs : Array Value, x = .agg vs ∧ cs.length = vs.size ∧ ∀ (i : Nat) u y, cs[i]? = some u → vs[i]? = some y → RL M Z u y := by
 cases h with
 | fz h => cases h with | agg hl h => exact ⟨_, rfl, hl, fun i u y h1 h2 => .fz (h i u y h1 h2)⟩
 | agg hl h => exact ⟨_, rfl, hl, h⟩
theorem RL.tup_inv {M Z cs x} (h : RL M Z (.tup cs) x) : ∃ vs : Array Value, x = .tuple vs ∧ cs.length = vs.size ∧ ∀ (i : Nat) u y, cs[i]? = some u → vs[i]? = some y → RL M Z u y := by
 cases h with
 | fz h => cases h with | tup hl h => exact ⟨_, rfl, hl, fun i u y h1 h2 => .fz (h i u y h1 h2)⟩
 | tup hl h => exact ⟨_, rfl, hl, h⟩
theorem RL.fn_inv {M Z f cs x} (h : RL M Z (.fn f cs) x) : ∃ vs : Array Value, x = .func (.func f) #[] vs ∧ cs.length = vs.size ∧ ∀ (i : Nat) u y, cs[i]? = some u → vs[i]? = some y → RL M Z u y := by
 cases h with
 | fz h => cases h with | fn hl h => exact ⟨_, rfl, hl, fun i u y h1 h2 => .fz (h i u y h1 h2)⟩
 | fn hl h => exact ⟨_, rfl, hl, h⟩
theorem RL.raw_inv {M Z v x} (h : RL M Z (.raw v) x) : x = v ∧ wideV x = false := by
 cases h with
 | fz h => cases h with | raw h => exact ⟨rfl, h⟩
theorem RL.sl_inv {M Z k rows x} (h : RL M Z (.sl k rows) x) : RF M (.sl k rows) x := by
 cases h with | fz h => exact h
theorem RL.rp_inv {M Z row off x} (h : RL M Z (.rp row off) x) : RF M (.rp row off) x := by
 cases h with | fz h => exact h
theorem RL.cp_inv {M Z b off x} (h : RL M Z (.cp b off) x) : ∃ a lb, Z[b]? = some (some a, lb) ∧ x = .pointer (some ⟨a, off, none⟩) := by
 cases h with
 | fz h => cases h
 | cp hz hc => exact ⟨_, _, hz, rfl⟩
theorem RL.ls_inv {M Z b len x} (h : RL M Z (.ls b len) x) {k rows a} (hz : Z[b]? = some (a, .arr k rows)) (hl : rows.length = len) : x = slOf a len := by
 cases h with
 | fz h => cases h
 | ls hz' _ _ h => rw [hz] at hz'; cases hz'; exact h hl
 | lsD hz' _ => rw [hz] at hz'; cases hz'
def Pt (R : V → Value → Prop) (l : List V) (l' : List Value) : Prop := l.length = l'.length ∧ ∀ (i : Nat) x y, l[i]? = some x → l'[i]? = some y → R x y
theorem Pt.mono {R R' : V → Value → Prop} {l l'} (h : Pt R l l') (hr : ∀ x y, R x y → R' x y) : Pt R' l l' := ⟨h.1, fun i x y h1 h2 => hr _ _ (h.2 i x y h1 h2)⟩
theorem Pt.nil {R} : Pt R [] [] := ⟨rfl, fun i x y h => by simp at h⟩
theorem Pt.cons {R : V → Value → Prop} {v x l l'} (h : R v x) (hs : Pt R l l') : Pt R (v :: l) (x :: l') := by
 refine ⟨by simp [hs.1], fun i u y h1 h2 => ?_⟩
 cases i with
 | zero => simp at h1 h2; subst h1 h2; exact h
 | succ i => exact hs.2 i u y (by simpa using h1) (by simpa using h2)
theorem Pt.uncons {R : V → Value → Prop} {v l l'} (h : Pt R (v :: l) l') : ∃ x r, l' = x :: r ∧ R v x ∧ Pt R l r := by
 cases l' with
 | nil => have := h.1; simp at this
 | cons x r => exact ⟨x, r, rfl, h.2 0 _ _ rfl rfl, by have := h.1; simp at this; exact this, fun i u y h1 h2 => h.2 (i + 1) u y (by simpa using h1) (by simpa using h2)⟩
theorem Pt.unnil {R : V → Value → Prop} {l'} (h : Pt R [] l') : l' = [] := by
 have := h.1; exact List.eq_nil_of_length_eq_zero (by simpa using this.symm)
theorem Pt.get {R : V → Value → Prop} {l l'} (h : Pt R l l') {i : Nat} {x : V} (hx : l[i]? = some x) : ∃ y, l'[i]? = some y ∧ R x y := by
 have hi := (List.getElem?_eq_some_iff.1 hx).1
 have hi' : i < l'.length := by rw [← h.1]; exact hi
 exact ⟨l'[i], List.getElem?_eq_getElem hi', h.2 i x _ hx (List.getElem?_eq_getElem hi')⟩
theorem Pt.append {R : V → Value → Prop} {a b a' b'} (h : Pt R a a') (k : Pt R b b') : Pt R (a ++ b) (a' ++ b') := by
 refine ⟨by simp [h.1, k.1], fun i x y h1 h2 => ?_⟩
 rw [List.getElem?_append] at h1 h2
 rw [h.1] at h1
 split at h1
 · rename_i hi; rw [if_pos hi] at h2; exact h.2 i x y h1 h2
 · rename_i hi; rw [if_neg hi] at h2; exact k.2 _ x y h1 h2
theorem Pt.take {R : V → Value → Prop} {a a'} (h : Pt R a a') (c : Nat) : Pt R (a.take c) (a'.take c) := by
 refine ⟨by simp [h.1], fun i x y h1 h2 => ?_⟩
 rw [List.getElem?_take] at h1 h2
 split at h1
 · rename_i hi; rw [if_pos hi] at h2; exact h.2 i x y h1 h2
 · cases h1
theorem Pt.drop {R : V → Value → Prop} {a a'} (h : Pt R a a') (c : Nat) : Pt R (a.drop c) (a'.drop c) := by
 refine ⟨by simp [h.1], fun i x y h1 h2 => ?_⟩
 rw [List.getElem?_drop] at h1 h2
 exact h.2 _ x y h1 h2
theorem Pt.set {R : V → Value → Prop} {a a'} (h : Pt R a a') (c : Nat) {v x} (hv : R v x) : Pt R (a.set c v) (a'.set c x) := by
 refine ⟨by simp [h.1], fun i u y h1 h2 => ?_⟩
 rw [List.getElem?_set] at h1 h2
 rw [h.1] at h1
 by_cases hc : c = i
 · rw [if_pos hc] at h1 h2
   split at h1
   · rename_i hi; rw [if_pos hi] at h2; cases h1; cases h2; exact hv
   · cases h1
 · rw [if_neg hc] at h1 h2; exact h.2 i u y h1 h2
def LB.rel (M : Mem) (Z : Zl) : LB → List Value → Prop
 | .cell row, cells => Pt (RL M Z) row cells
 | .gone, _ => False
 | .dead, _ => False
 | .arr k rows, cells => ∃ rows' : List (List Value), cells = rows'.flatten ∧ rows'.length = rows.length ∧ (∀ r', r' ∈ rows' → r'.length = k) ∧
    (∀ (i : Nat) r r', rows[i]? = some r → rows'[i]? = some r' → Pt (RF M) r r') ∧ ∀ (i : Nat) r (j : Nat) x, rows[i]? = some r → r[j]? = some x → x.nar = true
theorem LB.rel.mono {M Z M1 Z1 lb cells} (he : ExtV Z M Z1 M1) (h : LB.rel M Z lb cells) : LB.rel M1 Z1 lb cells := by
 cases lb with
 | cell row => exact Pt.mono h fun x y => RL.mono he
 | gone => exact h.elim
 | dead => exact h.elim
 | arr k rows =>
   obtain ⟨rows', h1, h2, h3, h4, h5⟩ := h
   exact ⟨rows', h1, h2, h3, fun i r r' hr hr' => (h4 i r r' hr hr').mono fun x y => RF.mono he.hM, h5⟩
def LB.at (M : Mem) (Z : Zl) (m : Mem) (a : Nat) : LB → Prop
 | .gone => m a = none
 | .dead => False
 | .cell row => ∃ cells, m a = some ⟨cells, true, LB.sz (.cell row)⟩ ∧ LB.rel M Z (.cell row) cells
 | .arr k rows => ∃ cells, m a = some ⟨cells, true, LB.sz (.arr k rows)⟩ ∧ LB.rel M Z (.arr k rows) cells
theorem LB.at.mono {M Z m a lb M1 Z1 m1} (h : LB.at M Z m a lb) (he : ExtV Z M Z1 M1) (hm : m1 a = m a) : LB.at M1 Z1 m1 a lb := by
 cases lb with
 | gone => exact hm.trans h
 | dead => exact h.elim
 | cell row => obtain ⟨cells, h1, h2⟩ := h; exact ⟨cells, hm.trans h1, LB.rel.mono he h2⟩
 | arr k rows => obtain ⟨cells, h1, h2⟩ := h; exact ⟨cells, hm.trans h1, LB.rel.mono he h2⟩
theorem LB.at.of {M Z m a lb cells} (h1 : m a = some ⟨cells, true, lb.sz⟩) (h2 : LB.rel M Z lb cells) : LB.at M Z m a lb := by
 cases lb with
 | gone => exact h2.elim
 | dead => exact h2.elim
 | cell row => exact ⟨cells, h1, h2⟩
 | arr k rows => exact ⟨cells, h1, h2⟩
theorem LB.at.map {M Z m a lb M1 Z1 m1} (h : LB.at M Z m a lb) (hm : m1 a = m a) (hr : ∀ cells, m a = some ⟨cells, true, lb.sz⟩ → LB.rel M Z lb cells → LB.rel M1 Z1 lb cells) : LB.at M1 Z1 m1 a lb := by
 cases lb with
 | gone => exact hm.trans h
 | dead => exact h.elim
 | cell row => obtain ⟨cells, h1, h2⟩ := h; exact ⟨cells, hm.trans h1, hr cells h1 h2⟩
 | arr k rows => obtain ⟨cells, h1, h2⟩ := h; exact ⟨cells, hm.trans h1, hr cells h1 h2⟩
structure Cx (N : Nat) where
 m0 : Mem
 ma : Mem
 n0 : Nat
 bs : Nat
 br : List Nat
 ad : List (Option Nat)
 hN : ad.length ≤ N
def Cx.okA {N : Nat} (c : Cx N) (a : Nat) : Prop := c.n0 ≤ a ∨ a ∈ c.br
structure StM {N : Nat} (c : Cx N) (Z : Zl) (M : Mem) (L : List LB) (m : Mem) (n : Nat) : Prop where
 hbs : c.bs ≤ c.n0
 hn : c.n0 ≤ n
 fresh : Fresh m n
 hL : Z.map (·.2) = L
 hM : ∀ b x, M b = some x → m b = some x ∧ (c.ma b = some x ∨ c.n0 ≤ b) ∧ ∀ (i : Nat) lb, Z[i]? ≠ some (some b, lb)
 h0 : sub c.m0 m
 f0 : Fresh c.m0 c.n0
 hma : sub c.ma M
 hbr : ∀ a, a ∈ c.br → c.bs ≤ a ∧ c.m0 a = none ∧ a < c.n0
 cell : ∀ (i : Nat) a lb, Z[i]? = some (some a, lb) → c.okA a ∧ a < n ∧ lb.at M Z m a
 nl : ∀ (i : Nat) lb, Z[i]? = some (none, lb) → lb = .dead ∨ ∃ k, lb = .arr k []
 inj : ∀ (i j : Nat) a lb lb', Z[i]? = some (some a, lb) → Z[j]? = some (some a, lb') → i = j
 lo : ∀ (i : Nat) a lb, Z[i]? = some (some a, lb) → c.n0 ≤ a ∨ c.ad[i]? = some (some a)
def Cx.up {N N1 : Nat} (c : Cx N) (h : N ≤ N1) : Cx N1 := ⟨c.m0, c.ma, c.n0, c.bs, c.br, c.ad, Nat.le_trans c.hN h⟩
theorem StM.up {N N1 : Nat} {c : Cx N} {h : N ≤ N1} {Z M L m n} (k : StM c Z M L m n) : StM (c.up h) Z M L m n := ⟨k.hbs, k.hn, k.fresh, k.hL, k.hM, k.h0, k.f0, k.hma, k.hbr, k.cell, k.nl, k.inj, k.lo⟩
theorem StM.down {N N1 : Nat} {c : Cx N} {h : N ≤ N1} {Z M L m n} (k : StM (c.up h) Z M L m n) : StM c Z M L m n := ⟨k.hbs, k.hn, k.fresh, k.hL, k.hM, k.h0, k.f0, k.hma, k.hbr, k.cell, k.nl, k.inj, k.lo⟩
theorem StM.nil {N : Nat} {c : Cx N} {Z M L m n} (h : StM c Z M L m n) (i : Nat) (lb : LB) (hz : Z[i]? = some (none, lb)) (hd : lb ≠ .dead := by intro e; cases e) : ∃ k, lb = .arr k [] := by
 rcases h.nl i lb hz with e | e
 · exact absurd e hd
 · exact e
def look : List (Nat × V) → Nat → Option V
 | [], _ => none
 | (j, v) :: l, i => bif Nat.beq i j then some v else look l i
def Slots (M : Mem) (Z : Zl) (tl : List (Nat × V)) (tm : Tm) : Prop := ∀ t v, look tl t = some v → RL M Z v (tm t)
theorem Slots.mono {M Z M1 Z1 tl tm} (he : ExtV Z M Z1 M1) (h : Slots M Z tl tm) : Slots M1 Z1 tl tm := fun t v hv => (h t v hv).mono he
theorem Slots.put {M Z tl tm} (h : Slots M Z tl tm) {d : Nat} {v x} (hv : RL M Z v x) : Slots M Z ((d, v) :: tl) (upd tm d x) := by
 intro t u hu
 simp only [look] at hu
 simp only [upd]
 cases e : Nat.beq t d with
 | true =>
   rw [e] at hu
   have := Nat.eq_of_beq_eq_true e
   simp only [cond_true, Option.some.injEq] at hu
   subst hu
   rw [if_pos this]; exact hv
 | false =>
   rw [e] at hu
   have := Nat.ne_of_beq_eq_false e
   rw [if_neg this]; exact h t u hu
theorem StM.getZ {N : Nat} {c : Cx N} {Z M L m n} (h : StM c Z M L m n) {b : Nat} {lb} (hb : L[b]? = some lb) : ∃ a, Z[b]? = some (a, lb) := by
 rw [← h.hL, List.getElem?_map] at hb
 cases e : Z[b]? with
 | none => rw [e] at hb; cases hb
 | some p => rw [e] at hb; simp at hb; subst hb; exact ⟨p.1, rfl⟩
theorem StM.lenZ {N : Nat} {c : Cx N} {Z M L m n} (h : StM c Z M L m n) : Z.length = L.length := by rw [← h.hL]; simp
theorem StM.m0A {N : Nat} {c : Cx N} {Z M L m n} (h : StM c Z M L m n) {a : Nat} (ha : c.okA a) : c.m0 a = none := by
 rcases ha with ha | ha
 · exact h.f0 a ha
 · exact (h.hbr a ha).2.1
theorem sub_fr' {m0 m : Mem} {n0 a : Nat} {b : Option Blk} (h : sub m0 m) (hf : Fresh m0 n0) (ha : n0 ≤ a) : sub m0 (upd m a b) := sub_upd h (hf a ha)
theorem StM.push {N : Nat} {c : Cx N} {Z M L m n} (h : StM c Z M L m n) (lb : LB) (cells : List Value) (hr : lb.rel M Z cells) :
 ExtV Z M (Z ++ [(some n, lb)]) M ∧ StM c (Z ++ [(some n, lb)]) M (L ++ [lb]) (upd m n (some ⟨cells, true, lb.sz⟩)) (n + 1) ∧ (Z ++ [(some n, lb)])[L.length]? = some (some n, lb) := by
 have hlt : ∀ (i : Nat) p, Z[i]? = some p → i < Z.length := fun i p hp => (List.getElem?_eq_some_iff.1 hp).1
 have hget : ∀ (i : Nat) p, (Z ++ [(some n, lb)])[i]? = some p → Z[i]? = some p ∨ (i = Z.length ∧ p = (some n, lb)) := by
  intro i p hp
  rw [List.getElem?_append] at hp
  split at hp
  · exact .inl hp
  · rename_i hi
    rw [List.getElem?_singleton] at hp
    split at hp
    · cases hp; exact .inr ⟨by omega, rfl⟩
    · cases hp
 have hext : ExtV Z M (Z ++ [(some n, lb)]) M := ⟨sub_refl _, fun b p hp => ⟨p, by rw [List.getElem?_append_left (hlt b p hp)]; exact hp, grow.refl p⟩⟩
 have hMn : ∀ b x, M b = some x → b ≠ n := by
  intro b x hb e
  subst e
  have := (h.hM _ _ hb).1
  rw [h.fresh _ (Nat.le_refl _)] at this; cases this
 refine ⟨hext, ⟨h.hbs, by have := h.hn; omega, h.fresh.upd _, by simp [h.hL], fun b x hb => ?_, sub_fr' h.h0 h.f0 h.hn, h.f0, h.hma, h.hbr, fun i a lb' hi => ?_, fun i lb' hi => ?_, fun i j a l1 l2 hi hj => ?_, fun i a lb' hi => ?_⟩, ?_⟩
 · obtain ⟨h1, h2, h3⟩ := h.hM b x hb
   refine ⟨by simp only [upd, if_neg (hMn b x hb)]; exact h1, h2, fun i lb' e => ?_⟩
   rcases hget i _ e with e1 | ⟨_, e1⟩
   · exact h3 i lb' e1
   · cases e1; exact hMn _ x hb rfl
 · rcases hget i _ hi with e1 | ⟨_, e1⟩
   · obtain ⟨h1, h2, h3⟩ := h.cell i a lb' e1
     exact ⟨h1, by omega, h3.mono hext (by simp only [upd, if_neg (by omega : a ≠ n)])⟩
   · cases e1
     exact ⟨.inl h.hn, by omega, .of (cells := cells) (by simp [upd]) (hr.mono hext)⟩
 · rcases hget i _ hi with e1 | ⟨_, e1⟩
   · exact h.nl i lb' e1
   · cases e1
 · rcases hget i _ hi with e1 | ⟨e0, e1⟩ <;> rcases hget j _ hj with e2 | ⟨e3, e2⟩
   · exact h.inj i j a l1 l2 e1 e2
   · cases e2; have := (h.cell i _ _ e1).2.1; omega
   · cases e1; have := (h.cell j _ _ e2).2.1; omega
   · omega
 · rcases hget i _ hi with e1 | ⟨_, e1⟩
   · exact h.lo i a lb' e1
   · cases e1; exact .inl h.hn
 · rw [← h.lenZ, List.getElem?_append_right (Nat.le_refl _)]; simp
theorem StM.write {N : Nat} {c : Cx N} {Z M L m n} (h : StM c Z M L m n) {b a : Nat} {lb lb' : LB} (hb : Z[b]? = some (some a, lb)) (cells : List Value) (hg : grow (some a, lb) (some a, lb')) (hsz : lb'.sz = lb.sz)
 (hr : LB.rel M (Z.set b (some a, lb')) lb' cells) :
 ExtV Z M (Z.set b (some a, lb')) M ∧ StM c (Z.set b (some a, lb')) M (L.set b lb') (upd m a (some ⟨cells, true, lb.sz⟩)) n := by
 have hlt : b < Z.length := (List.getElem?_eq_some_iff.1 hb).1
 have hget : ∀ (i : Nat) p, (Z.set b (some a, lb'))[i]? = some p → (i ≠ b ∧ Z[i]? = some p) ∨ (i = b ∧ p = (some a, lb')) := by
  intro i p hp
  rw [List.getElem?_set] at hp
  by_cases e : b = i
  · subst e; rw [if_pos rfl, if_pos hlt] at hp; cases hp; exact .inr ⟨rfl, rfl⟩
  · rw [if_neg e] at hp; exact .inl ⟨fun e' => e e'.symm, hp⟩
 have hext : ExtV Z M (Z.set b (some a, lb')) M := by
  refine ⟨sub_refl _, fun i p hp => ?_⟩
  by_cases e : b = i
  · subst e; rw [hb] at hp; cases hp
    exact ⟨_, by rw [List.getElem?_set, if_pos rfl, if_pos hlt], hg⟩
  · exact ⟨p, by rw [List.getElem?_set, if_neg e]; exact hp, grow.refl p⟩
 obtain ⟨ha0, han, _⟩ := h.cell b a lb hb
 refine ⟨hext, ⟨h.hbs, h.hn, fresh_upd h.fresh han, by simp [List.map_set, h.hL], fun b' x hb' => ?_, sub_upd h.h0 (h.m0A ha0), h.f0, h.hma, h.hbr, fun i a' l hi => ?_, fun i l hi => ?_, fun i j a' l1 l2 hi hj => ?_, fun i a' l hi => ?_⟩⟩
 · obtain ⟨h1, h2, h3⟩ := h.hM b' x hb'
   have hne : b' ≠ a := fun e => h3 b lb (by rw [e]; exact hb)
   refine ⟨by simp only [upd, if_neg hne]; exact h1, h2, fun i l e => ?_⟩
   rcases hget i _ e with ⟨_, e1⟩ | ⟨_, e1⟩
   · exact h3 i l e1
   · cases e1; exact hne rfl
 · rcases hget i _ hi with ⟨hne, e1⟩ | ⟨_, e1⟩
   · obtain ⟨h1, h2, h3⟩ := h.cell i a' l e1
     have : a' ≠ a := fun e => hne (h.inj i b a l lb (by rw [← e]; exact e1) hb)
     exact ⟨h1, h2, h3.mono hext (by simp only [upd, if_neg this])⟩
   · cases e1
     exact ⟨ha0, han, .of (cells := cells) (by simp [upd, hsz]) hr⟩
 · rcases hget i _ hi with ⟨_, e1⟩ | ⟨_, e1⟩
   · exact h.nl i l e1
   · cases e1
 · rcases hget i _ hi with ⟨hne, e1⟩ | ⟨e0, e1⟩ <;> rcases hget j _ hj with ⟨hne', e2⟩ | ⟨e3, e2⟩
   · exact h.inj i j a' l1 l2 e1 e2
   · cases e2; exact absurd (h.inj i b _ _ _ e1 hb) hne
   · cases e1; exact absurd (h.inj j b _ _ _ e2 hb) hne'
   · omega
 · rcases hget i _ hi with ⟨_, e1⟩ | ⟨e0, e1⟩
   · exact h.lo i a' l e1
   · cases e1; subst e0; exact h.lo i a lb hb
end Go.Proofs.YtoppcdecolponaaDoor.AL
