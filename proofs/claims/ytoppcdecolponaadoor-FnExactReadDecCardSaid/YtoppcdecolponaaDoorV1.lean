/- Code over plain data: what single operations do. -/
import Derived.Test.YtoppcdecolponaaDoorV0
namespace Go.Proofs.YtoppcdecolponaaDoor.AL
open Go
set_option linter.unusedVariables false
set_option linter.unusedSimpArgs false
def ofW (v : Value) : Option V := match flatW v with
 | true => some (.w v)
 | false => none
def ofWs : List Value → Option (List V)
 | [] => some []
 | v :: l => match ofW v, ofWs l with
   | some u, some us => some (u :: us)
   | _, _ => none
def ofVal : Value → Option V
 | .agg cs => match ofWs cs.toList with
   | some l => some (.agg l)
   | none => none
 | .tuple cs => match ofWs cs.toList with
   | some l => some (.tup l)
   | none => none
 | .func (.func f) a b => match a.toList, b.toList with
   | [], [] => some (.fn f [])
   | _, _ => none
 | v => ofW v
def evE (tl : List (Nat × V)) : E → Option V
 | .t i => look tl i
 | .k v => ofVal v
def evEs (tl : List (Nat × V)) : List E → Option (List V)
 | [] => some []
 | e :: l => match evE tl e, evEs tl l with
   | some u, some us => some (u :: us)
   | _, _ => none
theorem ofW_inv {v u} (h : ofW v = some u) : u = .w v ∧ flatW v = true := by
 unfold ofW at h
 split at h
 · rename_i e; cases h; exact ⟨rfl, e⟩
 · cases h
theorem ofWs_rel {M} : ∀ {l us}, ofWs l = some us → Pt (RF M) us l ∧ ∀ u, u ∈ us → u.nar = true
 | [], us, h => by simp [ofWs] at h; subst h; exact ⟨Pt.nil, by simp⟩
 | v :: l, us, h => by
   simp only [ofWs] at h
   split at h
   · rename_i u us' h1 h2
     cases h
     obtain ⟨rfl, hf⟩ := ofW_inv h1
     obtain ⟨i1, i2⟩ := ofWs_rel h2
     refine ⟨Pt.cons (.w hf) i1, fun x hx => ?_⟩
     simp only [List.mem_cons] at hx
     rcases hx with rfl | hx
     · rfl
     · exact i2 x hx
   · cases h
theorem ofVal_rel {M v u} (h : ofVal v = some u) : RF M u v := by
 unfold ofVal at h
 split at h
 · split at h
   · rename_i l h1
     cases h
     have := (ofWs_rel (M := M) h1).1
     exact .agg (by simpa using this.1) fun i x y h2 h3 => this.2 i x y h2 (by simpa using h3)
   · cases h
 · split at h
   · rename_i l h1
     cases h
     have := (ofWs_rel (M := M) h1).1
     exact .tup (by simpa using this.1) fun i x y h2 h3 => this.2 i x y h2 (by simpa using h3)
   · cases h
 · split at h
   · rename_i h1 h2
     cases h
     rw [Array.toList_eq_nil_iff] at h1 h2
     subst h1 h2
     exact .fn rfl fun i x y h => by simp at h
   · cases h
 · obtain ⟨rfl, hf⟩ := ofW_inv h
   exact .w hf
theorem evE_rel {M Z tl tm e u} (hs : Slots M Z tl tm) (h : evE tl e = some u) : RL M Z u (e.ev tm) := by
 cases e with
 | t i => exact hs _ _ h
 | k v => exact .fz (ofVal_rel h)
theorem evEs_rel {M Z tl tm} (hs : Slots M Z tl tm) : ∀ {es us}, evEs tl es = some us → Pt (RL M Z) us (es.map (·.ev tm))
 | [], us, h => by simp [evEs] at h; subst h; exact Pt.nil
 | e :: l, us, h => by
   simp only [evEs] at h
   split at h
   · rename_i u us' h1 h2
     cases h
     exact Pt.cons (evE_rel hs h1) (evEs_rel hs h2)
   · cases h
theorem evE_w {M Z tl tm e v} (hs : Slots M Z tl tm) (h : evE tl e = some (.w v)) : e.ev tm = v := (evE_rel hs h).w_inv.1
def setN {α : Type} : List α → Nat → α → Option (List α)
 | [], _, _ => none
 | _ :: l, 0, x => some (x :: l)
 | y :: l, i + 1, x => match setN l i x with
   | some l' => some (y :: l')
   | none => none
theorem setN_inv {α : Type} : ∀ {l : List α} {i x l'}, setN l i x = some l' → i < l.length ∧ l' = l.set i x
 | [], _, _, _, h => by cases h
 | _ :: l, 0, x, l', h => by cases h; exact ⟨by simp, rfl⟩
 | y :: l, i + 1, x, l', h => by
   simp only [setN] at h
   split at h
   · rename_i l1 h1
     cases h
     obtain ⟨h2, h3⟩ := setN_inv h1
     exact ⟨by simp; omega, by simp [h3]⟩
   · cases h
def pushN {α : Type} : List α → α → Option (List α × Nat)
 | [], x => some ([x], 0)
 | y :: l, x => match pushN l x with
   | some (l', i) => some (y :: l', i + 1)
   | none => none
theorem pushN_inv {α : Type} : ∀ {l : List α} {x p}, pushN l x = some p → p = (l ++ [x], l.length)
 | [], _, _, h => by cases h; rfl
 | y :: l, x, p, h => by
   simp only [pushN] at h
   split at h
   · rename_i l1 i h1
     cases h
     have := pushN_inv h1
     cases this; rfl
   · cases h
def takeN : List V → Nat → Option (List V)
 | _, 0 => some []
 | [], _ + 1 => none
 | x :: l, n + 1 => match takeN l n with
   | some r => some (x :: r)
   | none => none
def subN : List V → Nat → Nat → Option (List V)
 | l, 0, n => takeN l n
 | [], _ + 1, _ => none
 | _ :: l, o + 1, n => subN l o n
theorem takeN_inv : ∀ {l n r}, takeN l n = some r → n ≤ l.length ∧ r = l.take n
 | l, 0, r, h => by cases l <;> (simp [takeN] at h; subst h; simp)
 | [], _ + 1, _, h => by cases h
 | x :: l, n + 1, r, h => by
   simp only [takeN] at h
   split at h
   · rename_i r1 h1; cases h; obtain ⟨h2, h3⟩ := takeN_inv h1; exact ⟨by simp; omega, by simp [h3]⟩
   · cases h
theorem subN_inv : ∀ {l o n r}, subN l o n = some r → o + n ≤ l.length ∧ r = (l.drop o).take n
 | l, 0, n, r, h => by
   have h : takeN l n = some r := by cases l <;> exact h
   obtain ⟨h2, h3⟩ := takeN_inv h; exact ⟨by omega, by simpa using h3⟩
 | [], _ + 1, _, _, h => by cases h
 | x :: l, o + 1, n, r, h => by
   obtain ⟨h2, h3⟩ := subN_inv (show subN l o n = some r from h)
   exact ⟨by simp; omega, by simpa using h3⟩
def V.fzW : V → Bool
 | .w _ | .sl .. | .rp .. | .raw _ => true
 | _ => false
def fzs : List V → Bool
 | [] => true
 | v :: l => v.fzW && fzs l
theorem fzW_rel {M Z v x} (h : RL M Z v x) (hf : v.fzW = true) : RF M v x ∧ v.nar = true := by
 cases h with
 | fz h => exact ⟨h, by cases v <;> first | rfl | cases hf⟩
 | _ => cases hf
theorem fzs_rel {M Z} : ∀ {l l'}, Pt (RL M Z) l l' → fzs l = true → Pt (RF M) l l' ∧ ∀ v, v ∈ l → v.nar = true
 | [], l', h, _ => by rw [h.unnil]; exact ⟨Pt.nil, by simp⟩
 | v :: l, l', h, hf => by
   simp only [fzs, Bool.and_eq_true] at hf
   obtain ⟨x, r, rfl, h1, h2⟩ := h.uncons
   obtain ⟨h3, h4⟩ := fzs_rel h2 hf.2
   obtain ⟨h5, h6⟩ := fzW_rel h1 hf.1
   refine ⟨Pt.cons h5 h3, fun u hu => ?_⟩
   simp only [List.mem_cons] at hu
   rcases hu with rfl | hu
   · exact h6
   · exact h4 u hu
def cellsV : V → Option (List V)
 | .agg cs => some cs
 | .tup _ => none
 | u => some [u]
theorem cellsV_rel {M Z u x cs} (h : RL M Z u x) (hc : cellsV u = some cs) : Pt (RL M Z) cs x.cells.toList ∧ isJunk x = false := by
 have one : u.nar = true → cs = [u] → Pt (RL M Z) cs x.cells.toList ∧ isJunk x = false := by
  intro hn e
  subst e
  have hw := h.nar hn
  have hx : x.cells = #[x] := by cases x <;> first | rfl | cases hw
  rw [hx]
  exact ⟨Pt.cons h Pt.nil, by cases x <;> first | rfl | cases hw⟩
 cases u with
 | agg l =>
   cases hc
   obtain ⟨vs, rfl, hl, hh⟩ := h.agg_inv
   exact ⟨⟨by simpa [Value.cells] using hl, fun i a b h1 h2 => hh i a b h1 (by simpa [Value.cells] using h2)⟩, rfl⟩
 | tup l => cases hc
 | _ => exact one rfl (by cases hc; rfl)
def Op1 (G : Prg) (b : Nat) (o : O) (tm : Tm) (m : Mem) (n : Nat) (v : Value) (m1 : Mem) (n1 : Nat) : Prop :=
 stepO b o tm m n = some (v, m1, n1) ∨ ∃ f args, o.callee tm = some (f, args) ∧ Big G b (.call f args) m n (.ret v) m1 n1
def OpV (G : Prg) (q : Bool) (o : O) (tl : List (Nat × V)) (L : List LB) (v : Option V) (L1 : List LB) : Prop :=
 ∀ (N : Nat) (c : Cx N) Z M tm m n, StM c Z M L m n → Slots M Z tl tm → ∃ v' m1 n1 Z1 M1, Op1 G (if q then n else c.bs) o tm m n v' m1 n1 ∧ ExtV Z M Z1 M1 ∧ StM c Z1 M1 L1 m1 n1 ∧ ∀ u, v = some u → RL M1 Z1 u v'
theorem OpV.same {G q o tl L u} (h : ∀ (N : Nat) (c : Cx N) Z M tm m n, StM c Z M L m n → Slots M Z tl tm → ∃ v', (∀ b, stepO b o tm m n = some (v', m, n)) ∧ RL M Z u v') : OpV G q o tl L (some u) L := by
 intro N c Z M tm m n hM hS
 obtain ⟨v', h1, h2⟩ := h N c Z M tm m n hM hS
 exact ⟨v', m, n, Z, M, .inl (h1 _), ExtV.refl _ _, hM, fun u' e => by cases e; exact h2⟩
section
variable {G : Prg} {q : Bool} {tl : List (Nat × V)} {L : List LB}
theorem Ed {x u} (h : evE tl x = some u) : OpV G q (.mv x) tl L (some u) L :=
 .same fun N c Z M tm m n hM hS => ⟨_, fun b => rfl, evE_rel hS h⟩
theorem o_pickT {x a b u} (h : evE tl x = some (.w (.bool true))) (ha : evE tl a = some u) : OpV G q (.pick x a b) tl L (some u) L :=
 .same fun N c Z M tm m n hM hS => ⟨_, fun _ => by simp only [stepO, evE_w hS h]; rfl, evE_rel hS ha⟩
theorem o_pickF {x a b u} (h : evE tl x = some (.w (.bool false))) (ha : evE tl b = some u) : OpV G q (.pick x a b) tl L (some u) L :=
 .same fun N c Z M tm m n hM hS => ⟨_, fun _ => by simp only [stepO, evE_w hS h]; rfl, evE_rel hS ha⟩
theorem o_w {o : O} {v : Value} (hf : flatW v = true) (h : ∀ M Z tm, Slots M Z tl tm → ∀ b m n, stepO b o tm m n = some (v, m, n)) : OpV G q o tl L (some (.w v)) L :=
 .same fun N c Z M tm m n hM hS => ⟨v, fun b => h M Z tm hS b m n, .fz (.w hf)⟩
theorem o_bin {op x y a b v} (hx : evE tl x = some (.w a)) (hy : evE tl y = some (.w b)) (h : binv op a b = some v) (hf : flatW v = true) : OpV G q (.bin op x y) tl L (some (.w v)) L :=
 o_w hf fun M Z tm hS _ m n => by simp only [stepO, evE_w hS hx, evE_w hS hy, h]
theorem o_add {x y k a b} (hx : evE tl x = some (.w (.int k a))) (hy : evE tl y = some (.w (.int k b))) : OpV G q (.bin .add x y) tl L (some (.w (.int k (k.wrap (a + b))))) L :=
 o_bin hx hy (by simp [binv]) rfl
theorem o_sub {x y k a b} (hx : evE tl x = some (.w (.int k a))) (hy : evE tl y = some (.w (.int k b))) : OpV G q (.bin .sub x y) tl L (some (.w (.int k (k.wrap (a - b))))) L :=
 o_bin hx hy (by simp [binv]) rfl
theorem o_mul {x y k a b} (hx : evE tl x = some (.w (.int k a))) (hy : evE tl y = some (.w (.int k b))) : OpV G q (.bin .mul x y) tl L (some (.w (.int k (k.wrap (a * b))))) L :=
 o_bin hx hy (by simp [binv]) rfl
theorem o_quo {x y k a b} (hx : evE tl x = some (.w (.int k a))) (hy : evE tl y = some (.w (.int k b))) (h : ¬ b = 0) : OpV G q (.bin .quo x y) tl L (some (.w (.int k (k.wrap (a.tdiv b))))) L :=
 o_bin hx hy (by simp [binv, h]) rfl
theorem o_rem {x y k a b} (hx : evE tl x = some (.w (.int k a))) (hy : evE tl y = some (.w (.int k b))) (h : ¬ b = 0) : OpV G q (.bin .rem x y) tl L (some (.w (.int k (a.tmod b)))) L :=
 o_bin hx hy (by simp [binv, h]) rfl
theorem o_eql {x y k a b} (hx : evE tl x = some (.w (.int k a))) (hy : evE tl y = some (.w (.int k b))) : OpV G q (.bin .eql x y) tl L (some (.w (.bool (decide (a = b))))) L :=
 o_bin hx hy (by simp [binv]; rfl) rfl
theorem o_neq {x y k a b} (hx : evE tl x = some (.w (.int k a))) (hy : evE tl y = some (.w (.int k b))) : OpV G q (.bin .neq x y) tl L (some (.w (.bool (decide (¬ a = b))))) L :=
 o_bin hx hy (by simp [binv]; rfl) rfl
theorem o_lss {x y k a b} (hx : evE tl x = some (.w (.int k a))) (hy : evE tl y = some (.w (.int k b))) : OpV G q (.bin .lss x y) tl L (some (.w (.bool (decide (a < b))))) L :=
 o_bin hx hy (by simp [binv]) rfl
theorem o_leq {x y k a b} (hx : evE tl x = some (.w (.int k a))) (hy : evE tl y = some (.w (.int k b))) : OpV G q (.bin .leq x y) tl L (some (.w (.bool (decide (a ≤ b))))) L :=
 o_bin hx hy (by simp [binv]) rfl
theorem o_gtr {x y k a b} (hx : evE tl x = some (.w (.int k a))) (hy : evE tl y = some (.w (.int k b))) : OpV G q (.bin .gtr x y) tl L (some (.w (.bool (decide (b < a))))) L :=
 o_bin hx hy (by simp [binv]) rfl
theorem o_geq {x y k a b} (hx : evE tl x = some (.w (.int k a))) (hy : evE tl y = some (.w (.int k b))) : OpV G q (.bin .geq x y) tl L (some (.w (.bool (decide (b ≤ a))))) L :=
 o_bin hx hy (by simp [binv]) rfl
theorem o_eqb {g x y a b} (hx : evE tl x = some (.w (.bool a))) (hy : evE tl y = some (.w (.bool b))) : OpV G q (.eqb g x y) tl L (some (.w (.bool (bif g then !(a == b) else (a == b))))) L :=
 o_w rfl fun M Z tm hS _ m n => by simp only [stepO, evE_w hS hx, evE_w hS hy]; cases g <;> rfl
theorem o_neg {x k a} (hx : evE tl x = some (.w (.int k a))) : OpV G q (.neg x) tl L (some (.w (.int k (k.wrap (0 - a))))) L :=
 o_w rfl fun M Z tm hS _ m n => by simp only [stepO, evE_w hS hx]
theorem o_cvi {x j k a} (hx : evE tl x = some (.w (.int j a))) : OpV G q (.cvi k x) tl L (some (.w (.int k (k.wrap a)))) L :=
 o_w rfl fun M Z tm hS _ m n => by simp only [stepO, evE_w hS hx]
theorem o_lens {x s} (hx : evE tl x = some (.w (.string s))) : OpV G q (.lens x) tl L (some (.w (.int .i64 s.size))) L :=
 o_w rfl fun M Z tm hS _ m n => by simp only [stepO, evE_w hS hx]
theorem o_ix {x i s t j b} (hx : evE tl x = some (.w (.string s))) (hi : evE tl i = some (.w (.int t j))) (hj : 0 ≤ j) (hb : s[j.toNat]? = some b) : OpV G q (.ix x i) tl L (some (.w (.int .u8 b.toNat))) L :=
 o_w rfl fun M Z tm hS _ m n => by simp only [stepO, evE_w hS hx, evE_w hS hi, hj, hb, if_true]
theorem RF.rd {M m : Mem} {row : List V} {off : Nat} {x : Value} (h : RF M (.rp row off) x) (hs : sub M m) {u : V} (hr : row[off]? = some u) : ∃ a y, x = .pointer (some a) ∧ rd m a = some y ∧ RF M u y := by
 cases h with
 | rp hb hc hh =>
   rename_i b o blk
   have hi := (List.getElem?_eq_some_iff.1 hr).1
   have h1 : blk.cells[o + off]? = some blk.cells[o + off] := List.getElem?_eq_getElem (by omega)
   exact ⟨_, _, rfl, by simp [AL.rd, hs _ _ hb, h1], hh off _ _ hr h1⟩
theorem RF.rdn {M m : Mem} {row : List V} {off : Nat} {x : Value} (h : RF M (.rp row off) x) (hs : sub M m) {k : Nat} {cs : List V} (hr : subN row off k = some cs) : ∃ a ys, x = .pointer (some a) ∧ rdn m a k = some ys ∧ Pt (RF M) cs ys := by
 cases h with
 | rp hb hc hh =>
   rename_i b o blk
   obtain ⟨h1, rfl⟩ := subN_inv hr
   refine ⟨_, (blk.cells.drop (o + off)).take k, rfl, ?_, ?_⟩
   · simp only [AL.rdn, hs _ _ hb, Option.isSome_none, Bool.false_eq_true, if_false]
     rw [if_pos (by omega)]
   · refine ⟨by simp; omega, fun i x y h2 h3 => ?_⟩
     rw [List.getElem?_take] at h2 h3
     split at h2
     · rename_i hi
       rw [if_pos hi] at h3
       rw [List.getElem?_drop] at h2 h3
       exact hh (off + i) x y h2 (by rw [← Nat.add_assoc]; exact h3)
     · cases h2
theorem StM.subM {N : Nat} {c : Cx N} {Z M m n} (h : StM c Z M L m n) : sub M m := fun b x hb => (h.hM b x hb).1
theorem flat_set {k : Nat} {vs : List Value} {off : Nat} (h : off + vs.length ≤ k) : ∀ {rows : List (List Value)} {j : Nat} {r : List Value}, (∀ r, r ∈ rows → r.length = k) → rows[j]? = some r →
 rows.flatten.take (j * k + off) ++ vs ++ rows.flatten.drop (j * k + off + vs.length) = (rows.set j (r.take off ++ vs ++ r.drop (off + vs.length))).flatten
 | [], j, r, _, hr => by simp at hr
 | r0 :: rows, 0, r, hall, hr => by
   simp at hr; subst hr
   have h0 := hall r0 (List.mem_cons_self ..)
   simp only [Nat.zero_mul, Nat.zero_add, List.flatten_cons, List.set_cons_zero]
   rw [List.take_append_of_le_length (by omega), List.drop_append_of_le_length (by omega)]
   simp
 | r0 :: rows, j + 1, r, hall, hr => by
   have h0 := hall r0 (List.mem_cons_self ..)
   have ih := flat_set h (fun r hr => hall r (List.mem_cons_of_mem _ hr)) (by simpa using hr : rows[j]? = some r)
   simp only [List.flatten_cons, List.set_cons_succ, ← ih]
   have e : (j + 1) * k + off = r0.length + (j * k + off) := by rw [Nat.succ_mul]; omega
   rw [e, Nat.add_assoc r0.length, List.take_length_add_append, List.drop_length_add_append]
   simp
end
end Go.Proofs.YtoppcdecolponaaDoor.AL
