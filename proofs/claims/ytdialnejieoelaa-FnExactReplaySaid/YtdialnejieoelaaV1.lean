/- Code over plain data: what single operations do. -/
import Derived.Test.YtdialnejieoelaaV0
namespace Go.Proofs.Ytdialnejieoelaa.AL
open Go
set_option linter.unusedVariables false
set_option linter.unusedSimpArgs false
def ofW (v : Value) : Option V := match flatW v with
 | true => some (.w v)
 | false => none
def ofWs : List Value → Option (List V)
 | [] => some []
 | v :: l => match ofW v, ofWs l with
   | some u, some us => some (u :: us)
   | _, _ => none
def ofVal : Value → Option V
 | .agg cs => match ofWs cs.toList with
   | some l => some (.agg l)
   | none => none
 | .tuple cs => match ofWs cs.toList with
   | some l => some (.tup l)
   | none => none
 | .func (.func f) a b => match a.toList, b.toList with
   | [], [] => some (.fn f [])
   | _, _ => none
 | v => ofW v
def evE (tl : List (Nat × V)) : E → Option V
 | .t i => look tl i
 | .k v => ofVal v
def evEs (tl : List (Nat × V)) : List E → Option (List V)
 | [] => some []
 | e :: l => match evE tl e, evEs tl l with
   | some u, some us => some (u :: us)
   | _, _ => none
theorem ofW_inv {v u} (h : ofW v = some u) : u = .w v ∧ flatW v = true := by
 unfold ofW at h
 split at h
 · rename_i e; cases h; exact ⟨rfl, e⟩
 · cases h
theorem ofWs_rel {M} : ∀ {l us}, ofWs l = some us → Pt (RF M) us l ∧ ∀ u, u ∈ us → u.nar = true
 | [], us, h => by simp [ofWs] at h; subst h; exact ⟨Pt.nil, by simp⟩
 | v :: l, us, h => by
   simp only [ofWs] at h
   split at h
   · rename_i u us' h1 h2
     cases h
     obtain ⟨rfl, hf⟩ := ofW_inv h1
     obtain ⟨i1, i2⟩ := ofWs_rel h2
     refine ⟨Pt.cons (.w hf) i1, fun x hx => ?_⟩
     simp only [List.mem_cons] at hx
     rcases hx with rfl | hx
     · rfl
     · exact i2 x hx
   · cases h
theorem ofVal_rel {M v u} (h : ofVal v = some u) : RF M u v := by
 unfold ofVal at h
 split at h
 · split at h
   · rename_i l h1
     cases h
     have := (ofWs_rel (M := M) h1).1
     exact .agg (by simpa using this.1) fun i x y h2 h3 => this.2 i x y h2 (by simpa using h3)
   · cases h
 · split at h
   · rename_i l h1
     cases h
     have := (ofWs_rel (M := M) h1).1
     exact .tup (by simpa using this.1) fun i x y h2 h3 => this.2 i x y h2 (by simpa using h3)
   · cases h
 · split at h
   · rename_i h1 h2
     cases h
     rw [Array.toList_eq_nil_iff] at h1 h2
     subst h1 h2
     exact .fn rfl fun i x y h => by simp at h
   · cases h
 · obtain ⟨rfl, hf⟩ := ofW_inv h
   exact .w hf
theorem evE_rel {M Z tl tm e u} (hs : Slots M Z tl tm) (h : evE tl e = some u) : RL M Z u (e.ev tm) := by
 cases e with
 | t i => exact hs _ _ h
 | k v => exact .fz (ofVal_rel h)
theorem evEs_rel {M Z tl tm} (hs : Slots M Z tl tm) : ∀ {es us}, evEs tl es = some us → Pt (RL M Z) us (es.map (·.ev tm))
 | [], us, h => by simp [evEs] at h; subst h; exact Pt.nil
 | e :: l, us, h => by
   simp only [evEs] at h
   split at h
   · rename_i u us' h1 h2
     cases h
     exact Pt.cons (evE_rel hs h1) (evEs_rel hs h2)
   · cases h
theorem evE_w {M Z tl tm e v} (hs : Slots M Z tl tm) (h : evE tl e = some (.w v)) : e.ev tm = v := (evE_rel hs h).w_inv.1
def setN {α : Type} : List α → Nat → α → Option (List α)
 | [], _, _ => none
 | _ :: l, 0, x => some (x :: l)
 | y :: l, i + 1, x => match setN l i x with
   | some l' => some (y :: l')
   | none => none
theorem setN_inv {α : Type} : ∀ {l : List α} {i x l'}, setN l i x = some l' → i < l.length ∧ l' = l.set i x
 | [], _, _, _, h => by cases h
 | _ :: l, 0, x, l', h => by cases h; exact ⟨by simp, rfl⟩
 | y :: l, i + 1, x, l', h => by
   simp only [setN] at h
   split at h
   · rename_i l1 h1
     cases h
     obtain ⟨h2, h3⟩ := setN_inv h1
     exact ⟨by simp; omega, by simp [h3]⟩
   · cases h
def pushN {α : Type} : List α → α → Option (List α × Nat)
 | [], x => some ([x], 0)
 | y :: l, x => match pushN l x with
   | some (l', i) => some (y :: l', i + 1)
   | none => none
theorem pushN_inv {α : Type} : ∀ {l : List α} {x p}, pushN l x = some p → p = (l ++ [x], l.length)
 | [], _, _, h => by cases h; rfl
 | y :: l, x, p, h => by
   simp only [pushN] at h
   split at h
   · rename_i l1 i h1
     cases h
     have := pushN_inv h1
     cases this; rfl
   · cases h
def takeN : List V → Nat → Option (List V)
 | _, 0 => some []
 | [], _ + 1 => none
 | x :: l, n + 1 => match takeN l n with
   | some r => some (x :: r)
   | none => none
def subN : List V → Nat → Nat → Option (List V)
 | l, 0, n => takeN l n
 | [], _ + 1, _ => none
 | _ :: l, o + 1, n => subN l o n
theorem takeN_inv : ∀ {l n r}, takeN l n = some r → n ≤ l.length ∧ r = l.take n
 | l, 0, r, h => by cases l <;> (simp [takeN] at h; subst h; simp)
 | [], _ + 1, _, h => by cases h
 | x :: l, n + 1, r, h => by
   simp only [takeN] at h
   split at h
   · rename_i r1 h1; cases h; obtain ⟨h2, h3⟩ := takeN_inv h1; exact ⟨by simp; omega, by simp [h3]⟩
   · cases h
theorem subN_inv : ∀ {l o n r}, subN l o n = some r → o + n ≤ l.length ∧ r = (l.drop o).take n
 | l, 0, n, r, h => by
   have h : takeN l n = some r := by cases l <;> exact h
   obtain ⟨h2, h3⟩ := takeN_inv h; exact ⟨by omega, by simpa using h3⟩
 | [], _ + 1, _, _, h => by cases h
 | x :: l, o + 1, n, r, h => by
   obtain ⟨h2, h3⟩ := subN_inv (show subN l o n = some r from h)
   exact ⟨by simp; omega, by simpa using h3⟩
def splN : List V → Nat → List V → Option (List V)
 | l, 0, [] => some l
 | [], _, _ => none
 | _ :: l, 0, x :: xs => match splN l 0 xs with
   | some r => some (x :: r)
   | none => none
 | y :: l, o + 1, xs => match splN l o xs with
   | some r => some (y :: r)
   | none => none
theorem splN_inv : ∀ {l o xs r}, splN l o xs = some r → o + xs.length ≤ l.length ∧ r = l.take o ++ xs ++ l.drop (o + xs.length)
 | l, 0, [], r, h => by
   have h : some l = some r := by cases l <;> exact h
   cases h; exact ⟨by simp, by simp⟩
 | [], 0, x :: xs, _, h => by cases h
 | [], _ + 1, xs, _, h => by cases xs <;> cases h
 | y :: l, 0, x :: xs, r, h => by
   simp only [splN] at h
   split at h
   · rename_i r1 h1; cases h; obtain ⟨h2, h3⟩ := splN_inv h1; exact ⟨by simp at *; omega, by simp at *; exact h3⟩
   · cases h
 | y :: l, o + 1, xs, r, h => by
   simp only [splN] at h
   split at h
   · rename_i r1 h1; cases h; obtain ⟨h2, h3⟩ := splN_inv h1
     refine ⟨by simp at *; omega, ?_⟩
     have e : o + 1 + xs.length = (o + xs.length) + 1 := by omega
     rw [e, List.drop_succ_cons, List.take_succ_cons, h3]; simp
   · cases h
def V.fzW : V → Bool
 | .w _ | .sl .. | .rp .. | .raw _ => true
 | _ => false
def fzs : List V → Bool
 | [] => true
 | v :: l => v.fzW && fzs l
def nars : List V → Bool
 | [] => true
 | v :: l => v.nar && nars l
theorem nars_mem : ∀ {l : List V}, nars l = true → ∀ v, v ∈ l → v.nar = true
 | [], _, v, hv => by simp at hv
 | u :: l, h, v, hv => by
   simp only [nars, Bool.and_eq_true] at h
   simp only [List.mem_cons] at hv
   rcases hv with rfl | hv
   · exact h.1
   · exact nars_mem h.2 v hv
theorem fzW_rel {M Z v x} (h : RL M Z v x) (hf : v.fzW = true) : RF M v x ∧ v.nar = true := by
 cases h with
 | fz h => exact ⟨h, by cases v <;> first | rfl | cases hf⟩
 | _ => cases hf
theorem fzs_rel {M Z} : ∀ {l l'}, Pt (RL M Z) l l' → fzs l = true → Pt (RF M) l l' ∧ ∀ v, v ∈ l → v.nar = true
 | [], l', h, _ => by rw [h.unnil]; exact ⟨Pt.nil, by simp⟩
 | v :: l, l', h, hf => by
   simp only [fzs, Bool.and_eq_true] at hf
   obtain ⟨x, r, rfl, h1, h2⟩ := h.uncons
   obtain ⟨h3, h4⟩ := fzs_rel h2 hf.2
   obtain ⟨h5, h6⟩ := fzW_rel h1 hf.1
   refine ⟨Pt.cons h5 h3, fun u hu => ?_⟩
   simp only [List.mem_cons] at hu
   rcases hu with rfl | hu
   · exact h6
   · exact h4 u hu
def cellsV : V → Option (List V)
 | .agg cs => some cs
 | .tup _ => none
 | u => some [u]
theorem cellsV_rel {M Z u x cs} (h : RL M Z u x) (hc : cellsV u = some cs) : Pt (RL M Z) cs x.cells.toList ∧ isJunk x = false := by
 have one : u.nar = true → cs = [u] → Pt (RL M Z) cs x.cells.toList ∧ isJunk x = false := by
  intro hn e
  subst e
  have hw := h.nar hn
  have hx : x.cells = #[x] := by cases x <;> first | rfl | cases hw
  rw [hx]
  exact ⟨Pt.cons h Pt.nil, by cases x <;> first | rfl | cases hw⟩
 cases u with
 | agg l =>
   cases hc
   obtain ⟨vs, rfl, hl, hh⟩ := h.agg_inv
   exact ⟨⟨by simpa [Value.cells] using hl, fun i a b h1 h2 => hh i a b h1 (by simpa [Value.cells] using h2)⟩, rfl⟩
 | tup l => cases hc
 | _ => exact one rfl (by cases hc; rfl)
def Op1 (G : Prg) (b : Nat) (o : O) (tm : Tm) (m : Mem) (n : Nat) (v : Value) (m1 : Mem) (n1 : Nat) : Prop :=
 stepO b o tm m n = some (v, m1, n1) ∨ ∃ f args, o.callee tm = some (f, args) ∧ Big G b (.call f args) m n (.ret v) m1 n1
def OpV (G : Prg) (q : Bool) (o : O) (tl : List (Nat × V)) (L : List LB) (v : Option V) (L1 : List LB) : Prop :=
 ∀ (N : Nat) (c : Cx N) Z M tm m n, StM c Z M L m n → Slots M Z tl tm → ∃ v' m1 n1 Z1 M1, Op1 G (if q then n else c.bs) o tm m n v' m1 n1 ∧ ExtV Z M Z1 M1 ∧ StM c Z1 M1 L1 m1 n1 ∧ ∀ u, v = some u → RL M1 Z1 u v'
theorem OpV.same {G q o tl L u} (h : ∀ (N : Nat) (c : Cx N) Z M tm m n, StM c Z M L m n → Slots M Z tl tm → ∃ v', (∀ b, stepO b o tm m n = some (v', m, n)) ∧ RL M Z u v') : OpV G q o tl L (some u) L := by
 intro N c Z M tm m n hM hS
 obtain ⟨v', h1, h2⟩ := h N c Z M tm m n hM hS
 exact ⟨v', m, n, Z, M, .inl (h1 _), ExtV.refl _ _, hM, fun u' e => by cases e; exact h2⟩
section
variable {G : Prg} {q : Bool} {tl : List (Nat × V)} {L : List LB}
theorem Ee {x u} (h : evE tl x = some u) : OpV G q (.mv x) tl L (some u) L :=
 .same fun N c Z M tm m n hM hS => ⟨_, fun b => rfl, evE_rel hS h⟩
theorem Er {x a b u} (h : evE tl x = some (.w (.bool true))) (ha : evE tl a = some u) : OpV G q (.pick x a b) tl L (some u) L :=
 .same fun N c Z M tm m n hM hS => ⟨_, fun _ => by simp only [stepO, evE_w hS h]; rfl, evE_rel hS ha⟩
theorem Ej {x a b u} (h : evE tl x = some (.w (.bool false))) (ha : evE tl b = some u) : OpV G q (.pick x a b) tl L (some u) L :=
 .same fun N c Z M tm m n hM hS => ⟨_, fun _ => by simp only [stepO, evE_w hS h]; rfl, evE_rel hS ha⟩
theorem o_w {o : O} {v : Value} (hf : flatW v = true) (h : ∀ M Z tm, Slots M Z tl tm → ∀ b m n, stepO b o tm m n = some (v, m, n)) : OpV G q o tl L (some (.w v)) L :=
 .same fun N c Z M tm m n hM hS => ⟨v, fun b => h M Z tm hS b m n, .fz (.w hf)⟩
theorem o_bin {op x y a b v} (hx : evE tl x = some (.w a)) (hy : evE tl y = some (.w b)) (h : binv op a b = some v) (hf : flatW v = true) : OpV G q (.bin op x y) tl L (some (.w v)) L :=
 o_w hf fun M Z tm hS _ m n => by simp only [stepO, evE_w hS hx, evE_w hS hy, h]
theorem o_add {x y k a b} (hx : evE tl x = some (.w (.int k a))) (hy : evE tl y = some (.w (.int k b))) : OpV G q (.bin .add x y) tl L (some (.w (.int k (k.wrap (a + b))))) L :=
 o_bin hx hy (by simp [binv]) rfl
theorem o_sub {x y k a b} (hx : evE tl x = some (.w (.int k a))) (hy : evE tl y = some (.w (.int k b))) : OpV G q (.bin .sub x y) tl L (some (.w (.int k (k.wrap (a - b))))) L :=
 o_bin hx hy (by simp [binv]) rfl
theorem o_mul {x y k a b} (hx : evE tl x = some (.w (.int k a))) (hy : evE tl y = some (.w (.int k b))) : OpV G q (.bin .mul x y) tl L (some (.w (.int k (k.wrap (a * b))))) L :=
 o_bin hx hy (by simp [binv]) rfl
theorem o_addn {x y a b} (hx : evE tl x = some (.w (.int .i64 a))) (hy : evE tl y = some (.w (.int .i64 b))) (h : -9223372036854775808 ≤ a + b ∧ a + b ≤ 9223372036854775807) :
 OpV G q (.bin .add x y) tl L (some (.w (.int .i64 (a + b)))) L := by have := o_add (G := G) (q := q) (L := L) hx hy; rwa [wrap_in _ h] at this
theorem o_subn {x y a b} (hx : evE tl x = some (.w (.int .i64 a))) (hy : evE tl y = some (.w (.int .i64 b))) (h : -9223372036854775808 ≤ a - b ∧ a - b ≤ 9223372036854775807) :
 OpV G q (.bin .sub x y) tl L (some (.w (.int .i64 (a - b)))) L := by have := o_sub (G := G) (q := q) (L := L) hx hy; rwa [wrap_in _ h] at this
theorem o_muln {x y a b} (hx : evE tl x = some (.w (.int .i64 a))) (hy : evE tl y = some (.w (.int .i64 b))) (h : -9223372036854775808 ≤ a * b ∧ a * b ≤ 9223372036854775807) :
 OpV G q (.bin .mul x y) tl L (some (.w (.int .i64 (a * b)))) L := by have := o_mul (G := G) (q := q) (L := L) hx hy; rwa [wrap_in _ h] at this
theorem o_quo {x y k a b} (hx : evE tl x = some (.w (.int k a))) (hy : evE tl y = some (.w (.int k b))) (h : ¬ b = 0) : OpV G q (.bin .quo x y) tl L (some (.w (.int k (k.wrap (a.tdiv b))))) L :=
 o_bin hx hy (by simp [binv, h]) rfl
theorem o_rem {x y k a b} (hx : evE tl x = some (.w (.int k a))) (hy : evE tl y = some (.w (.int k b))) (h : ¬ b = 0) : OpV G q (.bin .rem x y) tl L (some (.w (.int k (a.tmod b)))) L :=
 o_bin hx hy (by simp [binv, h]) rfl
theorem o_shl {x y k j a b} (hx : evE tl x = some (.w (.int k a))) (hy : evE tl y = some (.w (.int j b))) (h : 0 ≤ b) : OpV G q (.bin .shl x y) tl L (some (.w (.int k (k.wrap (a * 2 ^ (min b.toNat k.bits)))))) L :=
 o_bin hx hy (by simp [binv, h]) rfl
theorem o_shr {x y k j a b} (hx : evE tl x = some (.w (.int k a))) (hy : evE tl y = some (.w (.int j b))) (h : 0 ≤ b) : OpV G q (.bin .shr x y) tl L (some (.w (.int k (a.fdiv (2 ^ (min b.toNat k.bits)))))) L :=
 o_bin hx hy (by simp [binv, h]) rfl
theorem o_eql {x y k a b} (hx : evE tl x = some (.w (.int k a))) (hy : evE tl y = some (.w (.int k b))) : OpV G q (.bin .eql x y) tl L (some (.w (.bool (decide (a = b))))) L :=
 o_bin hx hy (by simp [binv]; rfl) rfl
theorem o_neq {x y k a b} (hx : evE tl x = some (.w (.int k a))) (hy : evE tl y = some (.w (.int k b))) : OpV G q (.bin .neq x y) tl L (some (.w (.bool (decide (¬ a = b))))) L :=
 o_bin hx hy (by simp [binv]; rfl) rfl
theorem o_lss {x y k a b} (hx : evE tl x = some (.w (.int k a))) (hy : evE tl y = some (.w (.int k b))) : OpV G q (.bin .lss x y) tl L (some (.w (.bool (decide (a < b))))) L :=
 o_bin hx hy (by simp [binv]) rfl
theorem o_leq {x y k a b} (hx : evE tl x = some (.w (.int k a))) (hy : evE tl y = some (.w (.int k b))) : OpV G q (.bin .leq x y) tl L (some (.w (.bool (decide (a ≤ b))))) L :=
 o_bin hx hy (by simp [binv]) rfl
theorem o_gtr {x y k a b} (hx : evE tl x = some (.w (.int k a))) (hy : evE tl y = some (.w (.int k b))) : OpV G q (.bin .gtr x y) tl L (some (.w (.bool (decide (b < a))))) L :=
 o_bin hx hy (by simp [binv]) rfl
theorem o_geq {x y k a b} (hx : evE tl x = some (.w (.int k a))) (hy : evE tl y = some (.w (.int k b))) : OpV G q (.bin .geq x y) tl L (some (.w (.bool (decide (b ≤ a))))) L :=
 o_bin hx hy (by simp [binv]) rfl
theorem o_eqb {g x y a b} (hx : evE tl x = some (.w (.bool a))) (hy : evE tl y = some (.w (.bool b))) : OpV G q (.eqb g x y) tl L (some (.w (.bool (bif g then !(a == b) else (a == b))))) L :=
 o_w rfl fun M Z tm hS _ m n => by simp only [stepO, evE_w hS hx, evE_w hS hy]; cases g <;> rfl
theorem o_not {x a} (hx : evE tl x = some (.w (.bool a))) : OpV G q (.not x) tl L (some (.w (.bool !a))) L :=
 o_w rfl fun M Z tm hS _ m n => by simp only [stepO, evE_w hS hx]
theorem o_lenN {x a l c} (hx : evE tl x = some (.w (.slice a l c))) : OpV G q (.len x) tl L (some (.w (.int .i64 l))) L :=
 o_w rfl fun M Z tm hS _ m n => by simp only [stepO, evE_w hS hx]
theorem o_len {x k rows} (hx : evE tl x = some (.sl k rows)) : OpV G q (.len x) tl L (some (.w (.int .i64 rows.length))) L :=
 o_w rfl fun M Z tm hS _ m n => by
  have := (evE_rel hS hx).sl_inv
  simp only [stepO]
  generalize x.ev tm = e at this
  cases this; rfl
theorem o_lenL {x b len k rows} (hx : evE tl x = some (.ls b len)) (hb : L[b]? = some (.arr k rows)) (hl : rows.length = len) : OpV G q (.len x) tl L (some (.w (.int .i64 len))) L :=
 .same fun N c Z M tm m n hM hS => by
  obtain ⟨a, ha⟩ := hM.getZ hb
  have h1 := (evE_rel hS hx).ls_inv ha hl
  refine ⟨_, fun _ => ?_, .fz (.w rfl)⟩
  simp only [stepO, h1]
  cases a with
  | some ad => rfl
  | none =>
    obtain ⟨k', e⟩ := hM.nil _ _ ha
    cases e
    subst hl
    rfl
theorem RF.rd {M m : Mem} {row : List V} {off : Nat} {x : Value} (h : RF M (.rp row off) x) (hs : sub M m) {u : V} (hr : row[off]? = some u) : ∃ a y, x = .pointer (some a) ∧ rd m a = some y ∧ RF M u y := by
 cases h with
 | rp hb hc hh =>
   rename_i b o blk
   have hi := (List.getElem?_eq_some_iff.1 hr).1
   have h1 : blk.cells[o + off]? = some blk.cells[o + off] := List.getElem?_eq_getElem (by omega)
   exact ⟨_, _, rfl, by simp [AL.rd, hs _ _ hb, h1], hh off _ _ hr h1⟩
theorem RF.rdn {M m : Mem} {row : List V} {off : Nat} {x : Value} (h : RF M (.rp row off) x) (hs : sub M m) {k : Nat} {cs : List V} (hr : subN row off k = some cs) : ∃ a ys, x = .pointer (some a) ∧ rdn m a k = some ys ∧ Pt (RF M) cs ys := by
 cases h with
 | rp hb hc hh =>
   rename_i b o blk
   obtain ⟨h1, rfl⟩ := subN_inv hr
   refine ⟨_, (blk.cells.drop (o + off)).take k, rfl, ?_, ?_⟩
   · simp only [AL.rdn, hs _ _ hb, Option.isSome_none, Bool.false_eq_true, if_false]
     rw [if_pos (by omega)]
   · refine ⟨by simp; omega, fun i x y h2 h3 => ?_⟩
     rw [List.getElem?_take] at h2 h3
     split at h2
     · rename_i hi
       rw [if_pos hi] at h3
       rw [List.getElem?_drop] at h2 h3
       exact hh (off + i) x y h2 (by rw [← Nat.add_assoc]; exact h3)
     · cases h2
theorem StM.subM {N : Nat} {c : Cx N} {Z M m n} (h : StM c Z M L m n) : sub M m := fun b x hb => (h.hM b x hb).1
theorem o_ld {x row off u} (hx : evE tl x = some (.rp row off)) (hr : row[off]? = some u) : OpV G q (.ld x) tl L (some u) L :=
 .same fun N c Z M tm m n hM hS => by
  obtain ⟨a, y, h1, h2, h3⟩ := (evE_rel hS hx).rp_inv.rd hM.subM hr
  exact ⟨y, fun _ => by simp only [stepO, h1, h2], .fz h3⟩
theorem o_ldn {x row off k cs} (hx : evE tl x = some (.rp row off)) (hr : subN row off k = some cs) : OpV G q (.ldn k x) tl L (some (.agg cs)) L :=
 .same fun N c Z M tm m n hM hS => by
  obtain ⟨a, ys, h1, h2, h3⟩ := (evE_rel hS hx).rp_inv.rdn hM.subM hr
  exact ⟨.agg ys.toArray, fun _ => by simp only [stepO, h1, h2], .fz (.agg (by simpa using h3.1) fun i u y e1 e2 => h3.2 i u y e1 (by simpa using e2))⟩
theorem Fd {x b off row u} (hx : evE tl x = some (.cp b off)) (hb : L[b]? = some (.cell row)) (hr : row[off]? = some u) : OpV G q (.ld x) tl L (some u) L :=
 .same fun N c Z M tm m n hM hS => by
  obtain ⟨a, row', hz, h1⟩ := (evE_rel hS hx).cp_inv
  obtain ⟨a', ha⟩ := hM.getZ hb
  rw [hz] at ha; cases ha
  obtain ⟨_, _, cells, hm, hrel⟩ := hM.cell _ _ _ hz
  obtain ⟨y, h2, h3⟩ := Pt.get hrel hr
  exact ⟨y, fun _ => by simp [stepO, h1, AL.rd, hm, h2], h3⟩
theorem Em {x b off row k cs} (hx : evE tl x = some (.cp b off)) (hb : L[b]? = some (.cell row)) (hr : subN row off k = some cs) : OpV G q (.ldn k x) tl L (some (.agg cs)) L :=
 .same fun N c Z M tm m n hM hS => by
  obtain ⟨a, row', hz, h1⟩ := (evE_rel hS hx).cp_inv
  obtain ⟨a', ha⟩ := hM.getZ hb
  rw [hz] at ha; cases ha
  obtain ⟨_, _, cells, hm, hrel⟩ := hM.cell _ _ _ hz
  obtain ⟨h2, rfl⟩ := subN_inv hr
  have hrel : Pt (RL M Z) row cells := hrel
  have h3 := (hrel.drop off).take k
  have h4 := hrel.1
  refine ⟨.agg ((cells.drop off).take k).toArray, fun _ => ?_, .agg (by simpa using h3.1) fun i u y e1 e2 => h3.2 i u y e1 (by simpa using e2)⟩
  simp only [stepO, h1, AL.rdn, hm, Option.isSome_none, Bool.false_eq_true, if_false]
  rw [if_pos (by omega)]
theorem o_fa {o x row off} (hx : evE tl x = some (.rp row off)) : OpV G q (.fa o x) tl L (some (.rp row (off + o))) L :=
 .same fun N c Z M tm m n hM hS => by
  have h1 := (evE_rel hS hx).rp_inv
  generalize he : x.ev tm = e at h1
  cases h1 with
  | rp hb hc hh => exact ⟨_, fun _ => by simp only [stepO, he]; rfl, by rw [Nat.add_assoc]; exact .fz (.rp hb hc hh)⟩
theorem Ew {o x b off} (hx : evE tl x = some (.cp b off)) : OpV G q (.fa o x) tl L (some (.cp b (off + o))) L :=
 .same fun N c Z M tm m n hM hS => by
  obtain ⟨a, row', hz, h1, hc⟩ := (evE_rel hS hx).cp_inv'
  exact ⟨_, fun _ => by simp only [stepO, h1]; rfl, .cp hz hc⟩
theorem o_faA {o x b len j off k rows} (hx : evE tl x = some (.ap b len j off)) (hb : L[b]? = some (.arr k rows)) (hl : rows.length = len) : OpV G q (.fa o x) tl L (some (.ap b len j (off + o))) L :=
 .same fun N c Z M tm m n hM hS => by
  obtain ⟨a, ha⟩ := hM.getZ hb
  obtain ⟨ad, rfl, h1⟩ := (evE_rel hS hx).ap_inv ha hl
  exact ⟨_, fun _ => by simp only [stepO, h1]; rfl, .ap ha (by omega) rfl fun _ => ⟨ad, rfl, by rw [← Nat.add_assoc]; rfl⟩⟩
theorem o_ia {x i k rows t j row} (hx : evE tl x = some (.sl k rows)) (hi : evE tl i = some (.w (.int t j))) (hb : 0 ≤ j ∧ j < rows.length) (hr : rows[j.toNat]? = some row) : OpV G q (.ia k x i) tl L (some (.rp row 0)) L :=
 .same fun N c Z M tm m n hM hS => by
  have h1 := (evE_rel hS hx).sl_inv
  have h2 := evE_w hS hi
  generalize he : x.ev tm = e at h1
  cases h1 with
  | sl hc ha hl hn hk hh =>
    rename_i a cp rows'
    have hj : j.toNat < rows.length := by omega
    obtain ⟨⟨hs, hsp⟩, blk, hm, hsz, hrow⟩ := ha (by intro e; subst e; simp at hl; omega)
    cases a with
    | none => cases hs
    | some a =>
      simp only [adr, Option.getD_some] at hm hrow hsp
      have hr' : rows'[j.toNat]? = some rows'[j.toNat] := List.getElem?_eq_getElem (by omega)
      obtain ⟨g1, g2, g3⟩ := hrow _ _ hr'
      have gl := hk _ _ _ hr hr'
      refine ⟨ptr a.block (a.off + j.toNat * k), fun _ => ?_, .fz ?_⟩
      · simp [stepO, he, h2, hsp, hb]
      · have := RF.rp (M := M) (row := row) (off := 0) (o := a.off + j.toNat * k) hm (by omega) (fun j' x y e1 e2 => ?_)
        · exact this
        · refine hh _ _ _ j' x y hr hr' e1 ?_
          have hj' := (List.getElem?_eq_some_iff.1 e1).1
          rw [← g3, List.getElem?_take_of_lt (by omega), List.getElem?_drop]
          exact e2
theorem o_iaL {x i b len k rows t j} (hx : evE tl x = some (.ls b len)) (hL : L[b]? = some (.arr k rows)) (hl : rows.length = len) (hi : evE tl i = some (.w (.int t j))) (hb : 0 ≤ j ∧ j < len) :
 OpV G q (.ia k x i) tl L (some (.ap b len j.toNat 0)) L :=
 .same fun N c Z M tm m n hM hS => by
  obtain ⟨a, ha⟩ := hM.getZ hL
  have h1 := (evE_rel hS hx).ls_inv ha hl
  have h2 := evE_w hS hi
  cases a with
  | none =>
    obtain ⟨k', e⟩ := hM.nil _ _ ha
    cases e
    simp at hl; omega
  | some ad =>
    refine ⟨ptr ad (0 + j.toNat * k), fun _ => by simp [stepO, h1, slOf, h2, hb], .ap ha (by omega) rfl fun _ => ⟨ad, rfl, by simp [ptr]⟩⟩
theorem flat_set {k : Nat} {vs : List Value} {off : Nat} (h : off + vs.length ≤ k) : ∀ {rows : List (List Value)} {j : Nat} {r : List Value}, (∀ r, r ∈ rows → r.length = k) → rows[j]? = some r →
 rows.flatten.take (j * k + off) ++ vs ++ rows.flatten.drop (j * k + off + vs.length) = (rows.set j (r.take off ++ vs ++ r.drop (off + vs.length))).flatten
 | [], j, r, _, hr => by simp at hr
 | r0 :: rows, 0, r, hall, hr => by
   simp at hr; subst hr
   have h0 := hall r0 (List.mem_cons_self ..)
   simp only [Nat.zero_mul, Nat.zero_add, List.flatten_cons, List.set_cons_zero]
   rw [List.take_append_of_le_length (by omega), List.drop_append_of_le_length (by omega)]
   simp
 | r0 :: rows, j + 1, r, hall, hr => by
   have h0 := hall r0 (List.mem_cons_self ..)
   have ih := flat_set h (fun r hr => hall r (List.mem_cons_of_mem _ hr)) (by simpa using hr : rows[j]? = some r)
   simp only [List.flatten_cons, List.set_cons_succ, ← ih]
   have e : (j + 1) * k + off = r0.length + (j * k + off) := by rw [Nat.succ_mul]; omega
   rw [e, Nat.add_assoc r0.length, List.take_length_add_append, List.drop_length_add_append]
   simp
theorem set_spl {α : Type} (l : List α) (i : Nat) (v : α) (h : i < l.length) : l.set i v = l.take i ++ [v] ++ l.drop (i + 1) := by
 rw [List.set_eq_take_append_cons_drop, if_pos h]; simp
theorem o_stC {x v b off row row' u L1} (hx : evE tl x = some (.cp b off)) (hv : evE tl v = some u) (hn : u.nar = true) (hb : L[b]? = some (.cell row)) (hr : setN row off u = some row') (hL : setN L b (.cell row') = some L1) :
 OpV G false (.st x v) tl L none L1 := by
 intro N c Z M tm m n hM hS
 obtain ⟨a, row0, hz, h1⟩ := (evE_rel hS hx).cp_inv
 obtain ⟨a', ha⟩ := hM.getZ hb
 rw [hz] at ha; cases ha
 obtain ⟨ha0, _, cells, hm, hrel⟩ := hM.cell _ _ _ hz
 obtain ⟨hoff, rfl⟩ := setN_inv hr
 obtain ⟨_, rfl⟩ := setN_inv hL
 have hu := evE_rel hS hv
 have hw := hu.nar hn
 have hrel : Pt (RL M Z) row cells := hrel
 have hg : grow (some a, LB.cell row) (some a, LB.cell (row.set off u)) := ⟨trivial, rfl⟩
 have he : ExtV Z M (Z.set b (some a, LB.cell (row.set off u))) M := by
  have hlt : b < Z.length := (List.getElem?_eq_some_iff.1 hz).1
  refine ⟨sub_refl _, fun i p hp => ?_⟩
  by_cases e : b = i
  · subst e; rw [hz] at hp; cases hp
    exact ⟨_, by rw [List.getElem?_set, if_pos rfl, if_pos hlt], hg⟩
  · exact ⟨p, by rw [List.getElem?_set, if_neg e]; exact hp, grow.refl p⟩
 obtain ⟨_, h3⟩ := hM.write hz (cells.set off (v.ev tm)) hg rfl (Pt.mono (Pt.set hrel off hu) fun _ _ => RL.mono he)
 refine ⟨junk, _, n, _, M, .inl ?_, he, h3, fun u e => by cases e⟩
 have hlc : off < cells.length := by rw [← hrel.1]; exact hoff
 simp [stepO, h1, hw, AL.wr, hm, hlc, hM.bsA ha0, LB.sz]
theorem Eo {x v b off row row' k cs L1} (hx : evE tl x = some (.cp b off)) (hv : evE tl v = some (.agg cs)) (hk : cs.length = k) (hn : nars cs = true) (hb : L[b]? = some (.cell row)) (hr : splN row off cs = some row') (hL : setN L b (.cell row') = some L1) :
 OpV G false (.stn k x v) tl L none L1 := by
 intro N c Z M tm m n hM hS
 obtain ⟨a, row0, hz, h1⟩ := (evE_rel hS hx).cp_inv
 obtain ⟨a', ha⟩ := hM.getZ hb
 rw [hz] at ha; cases ha
 obtain ⟨ha0, _, cells, hm, hrel⟩ := hM.cell _ _ _ hz
 obtain ⟨hoff, rfl⟩ := splN_inv hr
 obtain ⟨_, rfl⟩ := setN_inv hL
 obtain ⟨vs, e1, hl, hu⟩ := (evE_rel hS hv).agg_inv
 have hcs : Pt (RL M Z) cs vs.toList := ⟨by simpa using hl, fun i x y h2 h3 => hu i x y h2 (by simpa using h3)⟩
 have hrel : Pt (RL M Z) row cells := hrel
 have hg : grow (some a, LB.cell row) (some a, LB.cell (row.take off ++ cs ++ row.drop (off + cs.length))) := ⟨trivial, rfl⟩
 have he : ExtV Z M (Z.set b (some a, LB.cell (row.take off ++ cs ++ row.drop (off + cs.length)))) M := by
  have hlt : b < Z.length := (List.getElem?_eq_some_iff.1 hz).1
  refine ⟨sub_refl _, fun i p hp => ?_⟩
  by_cases e : b = i
  · subst e; rw [hz] at hp; cases hp
    exact ⟨_, by rw [List.getElem?_set, if_pos rfl, if_pos hlt], hg⟩
  · exact ⟨p, by rw [List.getElem?_set, if_neg e]; exact hp, grow.refl p⟩
 have hnew : Pt (RL M Z) (row.take off ++ cs ++ row.drop (off + cs.length)) (cells.take off ++ vs.toList ++ cells.drop (off + cs.length)) := ((hrel.take off).append hcs).append (hrel.drop _)
 obtain ⟨_, h3⟩ := hM.write hz _ hg rfl (Pt.mono hnew fun _ _ => RL.mono he)
 refine ⟨junk, _, n, _, M, .inl ?_, he, h3, fun u e => by cases e⟩
 have hlc : off + vs.size ≤ cells.length := by rw [← hrel.1, ← hl]; exact hoff
 have hbs := hM.hbs
 have hnar : vs.toList.all (fun u => !wideV u) = true := by
  rw [List.all_eq_true]
  intro y hy
  obtain ⟨i, hi⟩ := List.mem_iff_getElem?.1 hy
  have hi2 : i < cs.length := by rw [hcs.1]; exact (List.getElem?_eq_some_iff.1 hi).1
  have hx := List.getElem?_eq_getElem hi2
  have := (hcs.2 i _ y hx hi).nar (nars_mem hn _ (List.getElem_mem hi2))
  simp [this]
 have hnar' : ∀ x, x ∈ vs → wideV x = false := by
  intro x hx
  have := List.all_eq_true.1 hnar x (Array.mem_toList_iff.2 hx)
  simpa using this
 have hk2 : vs.size = k := by omega
 simp only [stepO, h1, e1, hnar, hk2, and_self, if_true, AL.wrn, hm, Option.isSome_none, Bool.false_eq_true, if_false, Array.length_toList]
 rw [if_pos ⟨hM.bsA ha0, trivial, by omega⟩]
 have e2 : cs.length = k := by omega
 simp only [e2, LB.sz]
theorem o_new {z row d L1} (hz : ofWs z = some row) (hL : pushN L (.cell row) = some (L1, d)) : OpV G q (.new z) tl L (some (.cp d 0)) L1 := by
 intro N c Z M tm m n hM hS
 have := pushN_inv hL; cases this
 obtain ⟨h1, h2, h3⟩ := hM.push (.cell row) z (Pt.mono (ofWs_rel (M := M) hz).1 fun _ _ => .fz)
 exact ⟨_, _, _, _, _, .inl rfl, h1, h2, fun u e => by cases e; exact .cp h3 trivial⟩
theorem o_box {x u row d L1} (hx : evE tl x = some u) (hc : cellsV u = some row) (hL : pushN L (.cell row) = some (L1, d)) : OpV G q (.box x) tl L (some (.cp d 0)) L1 := by
 intro N c Z M tm m n hM hS
 have := pushN_inv hL; cases this
 obtain ⟨h0, hj⟩ := cellsV_rel (evE_rel hS hx) hc
 obtain ⟨h1, h2, h3⟩ := hM.push (.cell row) _ h0
 exact ⟨_, _, _, _, _, .inl (by simp [stepO, hj]; exact ⟨rfl, rfl⟩), h1, h2, fun u e => by cases e; exact .cp h3 trivial⟩
end
end Go.Proofs.Ytdialnejieoelaa.AL
