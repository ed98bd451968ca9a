/- Stores whose order is drawn: rows that are put aside while the other operations are carried out. -/
import Derived.Test.YtoppcdecolponaaDoorV6
import Derived.Test.YtoppcdecolponaaDoorAlS3
import Derived.Lib.ItoaLen
import Derived.Lib.AtoiAllCases
import Derived.Test.YtoppcdecolponaaDoorKl
import Derived.Lib.Join
import Derived.KernelRfl
namespace Go.Proofs.YtoppcdecolponaaDoor.AL
open Go
set_option linter.unusedVariables false
set_option linter.unusedSimpArgs false
abbrev Hs := List (Nat × List V × Nat)
def Mk0 (X : Xs) (a d : Nat) : Prop := (d = 0 → ¬ XIn X a) ∧ (d = 1 → (a, false) ∉ X)
theorem Mk0.nil (a d : Nat) : Mk0 [] a d := ⟨fun _ ⟨_, h⟩ => (nomatch h), fun _ h => (nomatch h)⟩
theorem Mk0.ok {X : Xs} {a d : Nat} {o : O} (h : Mk0 X a d) (hd : d = 0 ∨ (d = 1 ∧ o.isCall = true)) : XOk o X a := by
 rcases hd with rfl | ⟨rfl, hc⟩
 · exact ⟨fun h1 => h.1 rfl ⟨_, h1⟩, fun _ h1 => h.1 rfl ⟨_, h1⟩⟩
 · exact ⟨h.2 rfl, fun e => by rw [hc] at e; cases e⟩
theorem Mk0.add {X : Xs} {a d : Nat} {o : O} {T : List Nat} (h : Mk0 X a d) (ha : a ∉ T) : Mk0 (XAdd o T X) a d := by
 refine ⟨fun e h1 => ?_, fun e h1 => ?_⟩
 · rcases XAdd.xin.1 h1 with h2 | h2
   · exact ha h2
   · exact h.1 e h2
 · rcases XAdd.mem.1 h1 with ⟨h2, _⟩ | h2
   · exact ha h2
   · exact h.2 e h2
theorem Mk0.call {X : Xs} {a d : Nat} {o : O} {T : List Nat} (h : Mk0 X a d) (hd : d = 0 ∨ d = 1) (hc : o.isCall = true) : Mk0 (XAdd o T X) a 1 := by
 refine ⟨fun e => (by cases e), fun _ h1 => ?_⟩
 rcases XAdd.mem.1 h1 with ⟨_, h2⟩ | h2
 · rw [hc] at h2; cases h2
 · rcases hd with rfl | rfl
   · exact h.1 rfl ⟨_, h2⟩
   · exact h.2 rfl h2
structure HidR (Z : Zl) (M : Mem) (L : List LB) (h : Mem) (X : Xs) (hs : Hs) : Prop where
 nd : (hs.map (·.1)).Nodup
 row : ∀ e, e ∈ hs → L[e.1]? = some .gone ∧ ∃ a cells, Z[e.1]? = some (some a, .gone) ∧ h a = some ⟨cells, true, 1⟩ ∧ Pt (RL M Z) e.2.1 cells ∧ Mk0 X a e.2.2
 dom : ∀ a x, h a = some x → ∃ e, e ∈ hs ∧ Z[e.1]? = some (some a, .gone)
 xs : ∀ a, XIn X a → ∃ x, h a = some x
section
variable {N : Nat} {G : Prg} {tl : Tl} {L : List LB} {K : Tl → List LB → Prop} {Q : Ex → Tl → List LB → Prop} {hs : Hs} {l : List IOp}
def gones (L : List LB) : Hs → Bool
 | [] => true
 | e :: hs => (match L[e.1]? with
   | some .gone => true
   | _ => false) && gones L hs
theorem gones_inv {L : List LB} : ∀ {hs : Hs}, gones L hs = true → ∀ e, e ∈ hs → L[e.1]? = some .gone
 | [], _, e, he => by cases he
 | e0 :: hs, h, e, he => by
   simp only [gones, Bool.and_eq_true] at h
   rcases List.mem_cons.1 he with rfl | he
   · have := h.1
     split at this
     · rename_i h1; exact h1
     · cases this
   · exact gones_inv h.2 e he
theorem HidR.mono {N : Nat} {c : Cx N} {Z M L h X hs Z1 M1 L1 m1 n1} (hH : HidR Z M L h X hs) (he : ExtV Z M Z1 M1) (hM1 : StM c Z1 M1 L1 m1 n1) (hg : gones L1 hs = true) : HidR Z1 M1 L1 h X hs := by
 have up : ∀ e a, e ∈ hs → Z[e.1]? = some (some a, LB.gone) → Z1[e.1]? = some (some a, LB.gone) := by
  intro e a he' hz
  obtain ⟨p1, q1, q2⟩ := he.hZ _ _ hz
  have h2 := (q2.cl trivial).2
  obtain ⟨a1, hz1⟩ := hM1.getZ (gones_inv hg e he')
  rw [q1] at hz1; cases hz1
  simp only at h2; subst h2; exact q1
 refine ⟨hH.nd, fun e he' => ?_, fun a x hx => ?_, hH.xs⟩
 · obtain ⟨h1, a, cells, h2, h3, h4, h5⟩ := hH.row e he'
   exact ⟨gones_inv hg e he', a, cells, up e a he' h2, h3, Pt.mono h4 fun _ _ => RL.mono he, h5⟩
 · obtain ⟨e, e1, e2⟩ := hH.dom a x hx
   exact ⟨e, e1, up e a e1 e2⟩
end
end Go.Proofs.YtoppcdecolponaaDoor.AL
namespace Go.Proofs.YtoppcdecolponaaDoor.AL
open Go
set_option linter.unusedVariables false
set_option linter.unusedSimpArgs false
end Go.Proofs.YtoppcdecolponaaDoor.AL
namespace Go.Proofs.YtoppcdecolponaaDoor.AL
open Go
set_option linter.unusedVariables false
set_option linter.unusedSimpArgs false
def LB.ren (s : Nat → Option Nat) : LB → Option LB
 | .cell row => match rens (V.ren s 6) row with
   | some r => some (.cell r)
   | none => none
 | .arr k rows => some (.arr k rows)
 | .gone => none
 | .dead => some .dead
theorem LB.ren_rel {M : Mem} {Z Z' : Zl} {s : Nat → Option Nat} (hs : ∀ (b b' : Nat) p, s b = some b' → Z[b]? = some p → ∃ p', Z'[b']? = some p' ∧ grow p p') {lb lb' cells} (h : LB.ren s lb = some lb') (hr : LB.rel M Z lb cells) : LB.rel M Z' lb' cells := by
 cases lb with
 | cell row =>
   simp only [LB.ren] at h
   split at h
   · rename_i r e
     cases h
     exact rens_rel (R := RL M Z) (R' := RL M Z') (AL.ren_rel (sub_refl _) hs 6) e hr
   · cases h
 | arr k rows => cases h; exact hr
 | gone => cases h
 | dead => cases h; exact hr.elim
end Go.Proofs.YtoppcdecolponaaDoor.AL
namespace Go.Proofs.YtoppcdecolponaaDoor.AL
open Go
set_option linter.unusedVariables false
set_option linter.unusedSimpArgs false
theorem Wk.nar {a b : V} (h : Wk a b) (hn : a.nar = true) : b.nar = true := by
 cases h with
 | refl => exact hn
 | nil => rfl
 | agg => cases hn
 | tup => cases hn
end Go.Proofs.YtoppcdecolponaaDoor.AL
namespace Go.Proofs.YtoppcdecolponaaDoor.AL
open Go
set_option linter.unusedVariables false
set_option linter.unusedSimpArgs false
abbrev Ob := List Mem
structure OBs {N : Nat} (c : Cx N) (Z : Zl) (M m : Mem) (n : Nat) (OL : Ob) : Prop where
 pt : ∀ (i : Nat) D a b, OL[i]? = some D → D a = some b → m a = some b ∧ b.own = true ∧ c.okA a ∧ a < n ∧ M a = none ∧ (∀ (j : Nat) lb, Z[j]? ≠ some (some a, lb)) ∧ ∀ (j : Nat), c.ad[j]? ≠ some (some a)
 low : ∀ (i : Nat) a, c.ad[i]? = some (some a) → a < c.n0
 dis : ∀ (i j : Nat) D E a b b', OL[i]? = some D → OL[j]? = some E → D a = some b → E a = some b' → i = j
theorem OBs.nil {N : Nat} {c : Cx N} {Z M m n} (h : ∀ (i : Nat) a, c.ad[i]? = some (some a) → a < c.n0) : OBs c Z M m n [] := ⟨fun i D a b h => by simp at h, h, fun i j D E a b b' h => by simp at h⟩
end Go.Proofs.YtoppcdecolponaaDoor.AL
namespace Go.Proofs.YtoppcdecolponaaDoor.AL
open Go
set_option linter.unusedVariables false
set_option linter.unusedSimpArgs false
abbrev M0 : Mem := fun _ => none
structure BackX (n n1 : Nat) (m m1 : Mem) (Z0 : Zl) (O0 : Mem) (Z1 : Zl) (O1 : Mem) : Prop where
 cell : ∀ (i : Nat) a lb, Z1[i]? = some (some a, lb) → (a ∈ adrs Z0 ∨ n ≤ a) ∧ a < n1 ∧ ∃ cells, m1 a = some ⟨cells, true, lb.sz⟩ ∧ ∀ M' Z', lb.rel M' Z' cells
 nil : ∀ (i : Nat) lb, Z1[i]? = some (none, lb) → lb = .dead ∨ ∃ k, lb = .arr k []
 inj : ∀ (i j : Nat) a lb lb', Z1[i]? = some (some a, lb) → Z1[j]? = some (some a, lb') → i = j
 keep : ∀ b x, b ∉ adrs Z0 → O0 b = none → m b = some x → m1 b = some x
 ext : ∀ (b : Nat) p, Z0[b]? = some p → ∃ p1, Z1[b]? = some p1 ∧ grow p p1
 lo : ∀ (i : Nat) a lb, Z1[i]? = some (some a, lb) → n ≤ a ∨ ∃ lb0, Z0[i]? = some (some a, lb0)
 ob : ∀ a b, O1 a = some b → m1 a = some b ∧ b.own = true ∧ a < n1 ∧ (O0 a ≠ none ∨ n ≤ a) ∧ a ∉ adrs Z1
structure GX (G : Prg) (f : Nat) (L0 : List LB) (O0 : Mem) (vargs : List V) (post : V → List LB → Mem → Prop) : Prop where
 run : ∀ args bs m n Ma Z0, Fresh m n → bs ≤ n → sub Ma m → Lent bs n Ma m Z0 L0 → (∀ a b, O0 a = some b → m a = some b ∧ b.own = true ∧ bs ≤ a ∧ a < n ∧ Ma a = none ∧ a ∉ adrs Z0) → Pt (RL Ma Z0) vargs args →
  CallW G f args bs m n fun v m1 n1 => ∃ u Z1 O1, RL M0 Z1 u v ∧ post u (Z1.map (·.2)) O1 ∧ BackX n n1 m m1 Z0 O0 Z1 O1
theorem GX.mono {G f L0 O0 vargs} {post post' : V → List LB → Mem → Prop} (h : GX G f L0 O0 vargs post) (hp : ∀ u L1 D, post u L1 D → post' u L1 D) : GX G f L0 O0 vargs post' :=
 ⟨fun args bs m n Ma Z0 h1 h2 h3 h4 h5 h6 => (h.run args bs m n Ma Z0 h1 h2 h3 h4 h5 h6).mono fun v m1 n1 ⟨u, Z1, O1, g1, g2, g3⟩ => ⟨u, Z1, O1, g1, hp _ _ _ g2, g3⟩⟩
end Go.Proofs.YtoppcdecolponaaDoor.AL
namespace Go.Proofs.YtoppcdecolponaaDoor.AL
open Go
set_option linter.unusedVariables false
set_option linter.unusedSimpArgs false
section
variable {N : Nat} {G : Prg} {tl : Tl} {L : List LB} {OL : Ob} {K : Tl → List LB → Ob → Prop} {l : List IOp} {q : Bool} {d : Nat}
def Vew (OL : Ob) (us us' : List V) : Prop := ∀ M', (∀ (i : Nat) D, OL[i]? = some D → sub D M') → ∀ args, Pt (RF M') us args → Pt (RF M') us' args
end
end Go.Proofs.YtoppcdecolponaaDoor.AL
namespace Go.Proofs.YtoppcdecolponaaDoor.AL
open Go
set_option linter.unusedVariables false
set_option linter.unusedSimpArgs false
end Go.Proofs.YtoppcdecolponaaDoor.AL
namespace Go.Proofs.YtoppcdecolponaaDoor.AL
open Go
set_option linter.unusedVariables false
set_option linter.unusedSimpArgs false
abbrev Ps := List (Nat × Nat × Nat × List (List V))
structure PendR {N : Nat} (c : Cx N) (Z : Zl) (M m h : Mem) (n : Nat) (X : Xs) (ps : Ps) : Prop where
 nd : (ps.map (·.2.1)).Nodup
 row : ∀ e, e ∈ ps → ∃ cells, h e.2.1 = some ⟨cells, true, e.2.2.1⟩ ∧ LB.rel M Z (.arr e.2.2.1 e.2.2.2) cells
 dom : ∀ a x, h a = some x → c.n0 ≤ a ∧ a < n ∧ m a = none ∧ a ∈ ps.map (·.2.1)
 xs : ∀ a, XIn X a → a < n ∧ a ∉ ps.map (·.2.1)
theorem PendR.keep {N : Nat} {c : Cx N} {Z M m h n X ps Z1 M1 m1 n1} (hP : PendR c Z M m h n X ps) (he : ExtV Z M Z1 M1) (hn : n ≤ n1) (hd : ∀ b, b < n → m b = none → m1 b = none) : PendR c Z1 M1 m1 h n1 X ps :=
 ⟨hP.nd, fun e h1 => let ⟨cells, h2, h3⟩ := hP.row e h1; ⟨cells, h2, h3.mono he⟩, fun a x h1 => let ⟨h2, h3, h4, h5⟩ := hP.dom a x h1; ⟨h2, by omega, hd a h3 h4, h5⟩, fun a h1 => let ⟨h2, h3⟩ := hP.xs a h1; ⟨by omega, h3⟩⟩
end Go.Proofs.YtoppcdecolponaaDoor.AL
namespace Go.Proofs.YtoppcdecolponaaDoor.AL
open Go
set_option linter.unusedVariables false
section
variable {G : Prg} {q : Bool} {tl : List (Nat × V)} {L : List LB}
theorem o_cvbs1 {x : E} {b : Nat} {k : Int} (hx : evE tl x = some (.ls b 1)) (hb : L[b]? = some (.arr 1 [[.w (.int .u8 k)]])) (hk : 0 ≤ k ∧ k < 256) :
 OpV G q (.cvbs x) tl L (some (.w (.string ⟨#[UInt8.ofNat k.toNat]⟩))) L :=
 .same fun N c Z M tm m n hM hS => by
  obtain ⟨a, ha⟩ := hM.getZ hb
  have h1 := (evE_rel hS hx).ls_inv ha rfl
  cases a with
  | none => obtain ⟨k', e⟩ := hM.nil _ _ ha; cases e
  | some ad =>
    obtain ⟨_, _, cells, hm, rows', rfl, hl, hall, hpt, hn⟩ := hM.cell _ _ _ ha
    match rows', hl with
    | [r], _ =>
      have h2 := hpt 0 _ r rfl rfl
      obtain ⟨y, r2, rfl, e1, e2⟩ := h2.uncons
      rw [e2.unnil] at hm
      cases e1
      refine ⟨_, fun _ => ?_, .fz (.w rfl)⟩
      simp only [stepO, h1, slOf]
      simp [AL.rdn, hm, bytesV, hk]
end
end Go.Proofs.YtoppcdecolponaaDoor.AL
namespace Go.Proofs.YtoppcdecolponaaDoor.AL
open Go
set_option linter.unusedVariables false
def stR (x : List UInt8) : List V := [.w (.string ⟨x.toArray⟩)]
theorem str_list (a : List UInt8) : (ByteArray.mk a.toArray).toList = a := by rw [ByteArray.toList_eq]
theorem beq_dec (a b : List UInt8) : (a == b) = decide (a = b) := by
 by_cases h : a = b
 · subst h; simp
 · rw [decide_eq_false h, beq_eq_false_iff_ne]; exact h
theorem str_app (a b : List UInt8) : (ByteArray.mk a.toArray) ++ (ByteArray.mk b.toArray) = ByteArray.mk (a ++ b).toArray := by
 apply ByteArray.ext
 simp
section
variable {G : Prg} {q : Bool} {tl : List (Nat × V)} {L : List LB}
theorem o_adds {x y a b} (hx : evE tl x = some (.w (.string ⟨List.toArray a⟩))) (hy : evE tl y = some (.w (.string ⟨List.toArray b⟩))) (h : (a.length : Int) + b.length ≤ 9223372036854775807) :
 OpV G q (.bin .add x y) tl L (some (.w (.string ⟨(a ++ b).toArray⟩))) L :=
 o_bin hx hy (by
  have e : (((ByteArray.mk a.toArray).size + (ByteArray.mk b.toArray).size : Nat) : Int) = (a.length : Int) + b.length := by
   rw [show (ByteArray.mk a.toArray).size = a.length from rfl, show (ByteArray.mk b.toArray).size = b.length from rfl]; omega
  simp only [binv, e]
  rw [if_neg (by simp [IntKind.max, IntKind.bits, IntKind.signed]; omega), str_app]) rfl
theorem o_neqs {x y a b} (hx : evE tl x = some (.w (.string ⟨List.toArray a⟩))) (hy : evE tl y = some (.w (.string ⟨List.toArray b⟩))) : OpV G q (.bin .neq x y) tl L (some (.w (.bool (decide (¬ a = b))))) L :=
 o_bin hx hy (by simp only [binv, str_list, beq_dec]; simp) rfl
end
theorem pt_w {M : Mem} : ∀ {vs args : List Value}, Pt (RF M) (vs.map V.w) args → args = vs
 | [], args, h => h.unnil
 | v :: vs, args, h => by
   obtain ⟨x, r, rfl, h1, h2⟩ := h.uncons
   rw [pt_w h2, show x = v from (RL.fz (Z := []) h1).w_inv.1]
theorem cv_nat {G : Prg} {f : Nat} (vs : List Value) {v : Value} {u : V} (h : AL.nat f vs = some v) (hr : ∀ M, RF M u v) : CV G f (vs.map V.w) (fun x => x = u) :=
 ⟨fun args bs m n Ma hF hb hs hp => by
   rw [pt_w hp]
   exact ⟨v, m, n, .callN h, u, fun _ => none, hr _, rfl, sub_refl _, (fun b x e => by cases e), (fun b x e => by cases e)⟩⟩
theorem cn_272 {G : Prg} (n : Int) (h : -9223372036854775808 ≤ n ∧ n ≤ 9223372036854775807) : CV G 272 [.w (.int .i64 n)] (fun v => v = .w (.string ⟨(Lib.itoa n).toArray⟩)) :=
 cv_nat [.int .i64 n] (v := .string ⟨(Lib.itoa n).toArray⟩) (by simp only [AL.nat, h, and_self, if_true]) fun M => .w rfl
theorem strsV_of : ∀ (vs : List Value) (xs : List (List UInt8)), vs.length = xs.length → (∀ (i : Nat) x, xs[i]? = some x → vs[i]? = some (.string ⟨x.toArray⟩)) → strsV vs = some (xs.map fun x => ⟨x.toArray⟩)
 | [], [], _, _ => rfl
 | [], _ :: _, h, _ => by simp at h
 | _ :: _, [], h, _ => by simp at h
 | v :: vs, x :: xs, h, hp => by
   have h0 := hp 0 x rfl
   simp only [List.getElem?_cons_zero, Option.some.injEq] at h0
   subst h0
   rw [strsV, strsV_of vs xs (by simpa using h) fun i x h1 => hp (i + 1) x h1]
   rfl
theorem cn_407 {G : Prg} (xs : List (List UInt8)) (sep : List UInt8) (h0 : xs ≠ []) (hn : xs.length ≤ 140737488355328) (hl : (Lib.join xs sep).length ≤ 140737488355328) :
 CV G 407 [.sl 1 (xs.map stR), .w (.string ⟨sep.toArray⟩)] (fun v => v = .w (.string ⟨(Lib.join xs sep).toArray⟩)) :=
 ⟨fun args bs m n Ma hF hb hs hp => by
   obtain ⟨x0, r0, rfl, h1, h2⟩ := hp.uncons
   obtain ⟨x1, r1, rfl, h3, h4⟩ := h2.uncons
   rw [h4.unnil]
   cases h3
   cases h1 with
   | sl hc ha hl' hn' hk hh =>
     rename_i a c rows'
     simp only [List.length_map] at hc hl' ⊢
     have hpos : 0 < xs.length := List.length_pos_iff.2 h0
     obtain ⟨⟨ho1, ho2⟩, blk, hblk, hsz, hrow⟩ := ha (by intro e; rw [e] at hl'; simp at hl'; omega)
     cases a with
     | none => cases ho1
     | some ad =>
       simp only [adr, Option.getD_some] at ho2 hblk hrow
       have hat : ∀ (i : Nat) x, xs[i]? = some x → ad.off + i + 1 ≤ blk.cells.length ∧ blk.cells[ad.off + i]? = some (.string ⟨x.toArray⟩) := by
        intro i x hx
        have hi := (List.getElem?_eq_some_iff.1 hx).1
        have hr : rows'[i]? = some rows'[i] := List.getElem?_eq_getElem (by omega)
        obtain ⟨g1, g2, g3⟩ := hrow i _ hr
        have hxs : (xs.map stR)[i]? = some (stR x) := by simp [hx]
        have hy : rows'[i][0]? = some (rows'[i][0]'(by omega)) := List.getElem?_eq_getElem (by omega)
        have k := hh i _ _ 0 _ _ hxs hr rfl hy
        generalize rows'[i][0]'(by omega) = y at k hy
        cases k
        refine ⟨by omega, ?_⟩
        rw [← g3, List.getElem?_take_of_lt (by omega), List.getElem?_drop, Nat.mul_one, Nat.add_zero] at hy
        exact hy
       have hlast := hat (xs.length - 1) xs[xs.length - 1] (List.getElem?_eq_getElem (by omega))
       have e1 : AL.rdn m ad xs.length = some ((blk.cells.drop ad.off).take xs.length) := by
        simp only [AL.rdn, ho2, hs _ _ hblk, Option.isSome_none, Bool.false_eq_true, if_false]
        rw [if_pos (by omega)]
       have e2 : strsV ((blk.cells.drop ad.off).take xs.length) = some (xs.map fun x => ⟨x.toArray⟩) := by
        refine strsV_of _ _ (by simp; omega) fun i x hx => ?_
        have hi := (List.getElem?_eq_some_iff.1 hx).1
        rw [List.getElem?_take_of_lt hi, List.getElem?_drop]
        exact (hat i x hx).2
       have e3 : joinB (xs.map fun x => ⟨x.toArray⟩) ⟨sep.toArray⟩ = Lib.join xs sep := by simp [joinB, Function.comp_def]
       have e : natJ 407 [.slice (some ad) xs.length c, .string ⟨sep.toArray⟩] m = some (.string ⟨(Lib.join xs sep).toArray⟩) := by
        simp only [natJ, e1, e2, e3, List.length_map]
        rw [if_pos ⟨trivial, hn, hl, by omega⟩]
       exact ⟨_, m, n, .callJ e, _, fun _ => none, .w rfl, rfl, sub_refl _, fun b x e => (by cases e), fun b x e => (by cases e)⟩⟩
end Go.Proofs.YtoppcdecolponaaDoor.AL
namespace Go.Proofs.YtoppcdecolponaaDoor.AL
open Go
set_option linter.unusedVariables false
def i64 (x : Int) : Prop := -9223372036854775808 ≤ x ∧ x ≤ 9223372036854775807
structure MConf where
 weight : Int
 prio : Bool
 every : Int
 cap : Int
 deriving DecidableEq
def MConf.wf (x : MConf) : Prop := i64 x.weight ∧ i64 x.every ∧ i64 x.cap
structure Bucket where
 tokens : Int
 count : Int
 deriving DecidableEq
def Bucket.wf (x : Bucket) : Prop := i64 x.tokens ∧ i64 x.count
structure Wrr where
 pos : Int
 credit : Int
 deriving DecidableEq
def Wrr.wf (x : Wrr) : Prop := i64 x.pos ∧ i64 x.credit
structure Beat where
 live : Bool
 who : Int
 num : Int
 first : Bool
 via : Int
 left : Int
 resp : Int
 second : Bool
 deriving DecidableEq
def Beat.wf (x : Beat) : Prop := i64 x.who ∧ i64 x.num ∧ i64 x.via ∧ i64 x.left ∧ i64 x.resp
structure Done where
 cycle : Int
 who : Int
 write : Bool
 addr : Int
 size : Int
 value : Int
 resp : Int
 deriving DecidableEq
def Done.wf (x : Done) : Prop := i64 x.cycle ∧ i64 x.who ∧ i64 x.addr ∧ i64 x.size ∧ i64 x.value ∧ i64 x.resp
structure Wave where
 cycle : Int
 addr : Int
 kind : Int
 who : Int
 data : Int
 src : Int
 ready : Bool
 resp : Int
 got : Int
 deriving DecidableEq
def Wave.wf (x : Wave) : Prop := i64 x.cycle ∧ i64 x.addr ∧ i64 x.kind ∧ i64 x.who ∧ i64 x.data ∧ i64 x.src ∧ i64 x.resp ∧ i64 x.got
structure Apb where
 state : Int
 left : Int
 deriving DecidableEq
def Apb.wf (x : Apb) : Prop := i64 x.state ∧ i64 x.left
structure Req where
 write : Bool
 addr : Int
 size : Int
 burst : Int
 lock : Bool
 data : List Int
 deriving DecidableEq
def Req.wf (x : Req) : Prop := i64 x.addr ∧ i64 x.size ∧ i64 x.burst ∧ (x.data.length ≤ 140737488355328 ∧ ∀ y, y ∈ x.data → i64 y)
structure Conf where
 masters : List MConf
 quantum : Int
 maxWait : Int
 maxRetry : Int
 maxSplit : Int
 lockMost : Int
 deriving DecidableEq
def Conf.wf (x : Conf) : Prop := (x.masters.length ≤ 140737488355328 ∧ ∀ y, y ∈ x.masters → MConf.wf y) ∧ i64 x.quantum ∧ i64 x.maxWait ∧ i64 x.maxRetry ∧ i64 x.maxSplit ∧ i64 x.lockMost
structure Post where
 moment : Int
 who : Int
 req : Req
 deriving DecidableEq
def Post.wf (x : Post) : Prop := i64 x.moment ∧ i64 x.who ∧ Req.wf x.req
structure Script where
 posts : List Post
 waits : List Int
 says : List Int
 deriving DecidableEq
def Script.wf (x : Script) : Prop := (x.posts.length ≤ 140737488355328 ∧ ∀ y, y ∈ x.posts → Post.wf y) ∧ (x.waits.length ≤ 140737488355328 ∧ ∀ y, y ∈ x.waits → i64 y) ∧ (x.says.length ≤ 140737488355328 ∧ ∀ y, y ∈ x.says → i64 y)
structure Dev where
 regs : List Int
 timer : Int
 fifo : List Int
 deriving DecidableEq
def Dev.wf (x : Dev) : Prop := (x.regs.length ≤ 140737488355328 ∧ ∀ y, y ∈ x.regs → i64 y) ∧ i64 x.timer ∧ (x.fifo.length ≤ 140737488355328 ∧ ∀ y, y ∈ x.fifo → i64 y)
structure Model where
 ram : List Int
 dev : Dev
 deriving DecidableEq
def Model.wf (x : Model) : Prop := (x.ram.length ≤ 140737488355328 ∧ ∀ y, y ∈ x.ram → i64 y) ∧ Dev.wf x.dev
structure Mst where
 queue : List Req
 beat : Int
 done : Int
 tries : Int
 parted : Bool
 broken : Bool
 deriving DecidableEq
def Mst.wf (x : Mst) : Prop := (x.queue.length ≤ 140737488355328 ∧ ∀ y, y ∈ x.queue → Req.wf y) ∧ i64 x.beat ∧ i64 x.done ∧ i64 x.tries
structure Bus where
 conf : Conf
 now : Int
 ms : List Mst
 arb : Wrr
 buckets : List Bucket
 splits : List Int
 holder : Int
 kept : Int
 last : Int
 addr : Beat
 data : Beat
 model : Model
 picks : Int
 log : List Done
 deriving DecidableEq
def Bus.wf (x : Bus) : Prop := Conf.wf x.conf ∧ i64 x.now ∧ (x.ms.length ≤ 140737488355328 ∧ ∀ y, y ∈ x.ms → Mst.wf y) ∧ Wrr.wf x.arb ∧ (x.buckets.length ≤ 140737488355328 ∧ ∀ y, y ∈ x.buckets → Bucket.wf y) ∧ (x.splits.length ≤ 140737488355328 ∧ ∀ y, y ∈ x.splits → i64 y) ∧ i64 x.holder ∧ i64 x.kept ∧ i64 x.last ∧ Beat.wf x.addr ∧ Beat.wf x.data ∧ Model.wf x.model ∧ i64 x.picks ∧ (x.log.length ≤ 140737488355328 ∧ ∀ y, y ∈ x.log → Done.wf y)
end Go.Proofs.YtoppcdecolponaaDoor.AL
namespace Go.Proofs.YtoppcdecolponaaDoor.AL
open Go
set_option linter.unusedVariables false
def iR (x : Int) : List V := [.w (.int .i64 x)]
def bR (x : Bool) : List V := [.w (.bool x)]
def uR (x : Int) : List V := [.w (.int .u8 x)]
abbrev u8 (x : Int) : Prop := 0 ≤ x ∧ x ≤ 255
def MConf.r (x : MConf) : List V := [.w (.int .i64 x.weight), .w (.bool x.prio), .w (.int .i64 x.every), .w (.int .i64 x.cap)]
def Bucket.r (x : Bucket) : List V := [.w (.int .i64 x.tokens), .w (.int .i64 x.count)]
def Wrr.r (x : Wrr) : List V := [.w (.int .i64 x.pos), .w (.int .i64 x.credit)]
def Beat.r (x : Beat) : List V := [.w (.bool x.live), .w (.int .i64 x.who), .w (.int .i64 x.num), .w (.bool x.first), .w (.int .i64 x.via), .w (.int .i64 x.left), .w (.int .i64 x.resp), .w (.bool x.second)]
def Done.r (x : Done) : List V := [.w (.int .i64 x.cycle), .w (.int .i64 x.who), .w (.bool x.write), .w (.int .i64 x.addr), .w (.int .i64 x.size), .w (.int .i64 x.value), .w (.int .i64 x.resp)]
def Wave.r (x : Wave) : List V := [.w (.int .i64 x.cycle), .w (.int .i64 x.addr), .w (.int .i64 x.kind), .w (.int .i64 x.who), .w (.int .i64 x.data), .w (.int .i64 x.src), .w (.bool x.ready), .w (.int .i64 x.resp), .w (.int .i64 x.got)]
def Apb.r (x : Apb) : List V := [.w (.int .i64 x.state), .w (.int .i64 x.left)]
def Req.r (x : Req) : List V := [.w (.bool x.write), .w (.int .i64 x.addr), .w (.int .i64 x.size), .w (.int .i64 x.burst), .w (.bool x.lock), .sl 1 (x.data.map iR)]
def Conf.r (x : Conf) : List V := [.sl 4 (x.masters.map MConf.r), .w (.int .i64 x.quantum), .w (.int .i64 x.maxWait), .w (.int .i64 x.maxRetry), .w (.int .i64 x.maxSplit), .w (.int .i64 x.lockMost)]
def Post.r (x : Post) : List V := [.w (.int .i64 x.moment), .w (.int .i64 x.who), .w (.bool x.req.write), .w (.int .i64 x.req.addr), .w (.int .i64 x.req.size), .w (.int .i64 x.req.burst), .w (.bool x.req.lock), .sl 1 (x.req.data.map iR)]
def Script.r (x : Script) : List V := [.sl 8 (x.posts.map Post.r), .sl 1 (x.waits.map iR), .sl 1 (x.says.map iR)]
def Dev.r (x : Dev) : List V := [.sl 1 (x.regs.map iR), .w (.int .i64 x.timer), .sl 1 (x.fifo.map iR)]
def Model.r (x : Model) : List V := [.sl 1 (x.ram.map iR), .sl 1 (x.dev.regs.map iR), .w (.int .i64 x.dev.timer), .sl 1 (x.dev.fifo.map iR)]
def Mst.r (x : Mst) : List V := [.sl 6 (x.queue.map Req.r), .w (.int .i64 x.beat), .w (.int .i64 x.done), .w (.int .i64 x.tries), .w (.bool x.parted), .w (.bool x.broken)]
def Bus.r (x : Bus) : List V := [.sl 4 (x.conf.masters.map MConf.r), .w (.int .i64 x.conf.quantum), .w (.int .i64 x.conf.maxWait), .w (.int .i64 x.conf.maxRetry), .w (.int .i64 x.conf.maxSplit), .w (.int .i64 x.conf.lockMost), .w (.int .i64 x.now), .sl 6 (x.ms.map Mst.r), .w (.int .i64 x.arb.pos), .w (.int .i64 x.arb.credit), .sl 2 (x.buckets.map Bucket.r), .sl 1 (x.splits.map iR), .w (.int .i64 x.holder), .w (.int .i64 x.kept), .w (.int .i64 x.last), .w (.bool x.addr.live), .w (.int .i64 x.addr.who), .w (.int .i64 x.addr.num), .w (.bool x.addr.first), .w (.int .i64 x.addr.via), .w (.int .i64 x.addr.left), .w (.int .i64 x.addr.resp), .w (.bool x.addr.second), .w (.bool x.data.live), .w (.int .i64 x.data.who), .w (.int .i64 x.data.num), .w (.bool x.data.first), .w (.int .i64 x.data.via), .w (.int .i64 x.data.left), .w (.int .i64 x.data.resp), .w (.bool x.data.second), .sl 1 (x.model.ram.map iR), .sl 1 (x.model.dev.regs.map iR), .w (.int .i64 x.model.dev.timer), .sl 1 (x.model.dev.fifo.map iR), .w (.int .i64 x.picks), .sl 7 (x.log.map Done.r)]
end Go.Proofs.YtoppcdecolponaaDoor.AL
namespace Go.Proofs.YtoppcdecolponaaDoor.AL
open Go
set_option linter.unusedVariables false
theorem take_get {α : Type} {xs : List α} {i : Nat} {y : α} (h : xs[i]? = some y) : xs.take (i + 1) = xs.take i ++ [y] := by
 rw [List.take_add_one, h]; rfl
theorem take_end {α : Type} {xs : List α} {i : Nat} (h : xs.length ≤ i) : xs.take i = xs := List.take_of_length_le h
theorem all_take {α : Type} {xs : List α} {i : Nat} {y : α} {p : α → Bool} (h : xs[i]? = some y) (h1 : (xs.take i).all p = true) (h2 : p y = true) : (xs.take (i + 1)).all p = true := by
 rw [take_get h, List.all_append, h1]; simp [h2]
theorem all_end {α : Type} {xs : List α} {i : Nat} {p : α → Bool} (h : (xs.take i).all p = true) (hi : xs.length ≤ i) : xs.all p = true := by rwa [take_end hi] at h
theorem all_no {α : Type} {xs : List α} {i : Nat} {y : α} {p : α → Bool} (h : xs[i]? = some y) (h2 : p y = false) : xs.all p = false := by
 rw [List.all_eq_false]; exact ⟨y, List.mem_of_getElem? h, by simp [h2]⟩
theorem any_take {α : Type} {xs : List α} {i : Nat} {y : α} {p : α → Bool} (h : xs[i]? = some y) (h1 : (xs.take i).any p = false) (h2 : p y = false) : (xs.take (i + 1)).any p = false := by
 rw [take_get h, List.any_append, h1]; simp [h2]
theorem any_end {α : Type} {xs : List α} {i : Nat} {p : α → Bool} (h : (xs.take i).any p = false) (hi : xs.length ≤ i) : xs.any p = false := by rwa [take_end hi] at h
def inB (x a b : Int) : Bool := decide (a ≤ x) && decide (x ≤ b)
theorem inB_t {x a b : Int} (h : inB x a b = true) : a ≤ x ∧ x ≤ b := by simpa [inB] using h
def tabV {α : Type} (f : α → List V) (z : List V) (xs : List α) (i : Nat) : List (List V) := (xs.take i).map f ++ List.replicate (xs.length - i) z
theorem tabV_len {α : Type} (f : α → List V) (z : List V) (xs : List α) (i : Nat) (h : i ≤ xs.length) : (tabV f z xs i).length = xs.length := by simp [tabV]; omega
theorem tabV_zero {α : Type} (f : α → List V) (z : List V) (xs : List α) : tabV f z xs 0 = List.replicate xs.length z := by simp [tabV]
theorem tabV_end {α : Type} (f : α → List V) (z : List V) (xs : List α) {i : Nat} (h : xs.length ≤ i) : tabV f z xs i = xs.map f := by simp [tabV, take_end h, Nat.sub_eq_zero_of_le h]
theorem tabV_at {α : Type} (f : α → List V) (z : List V) {xs : List α} {i : Nat} (h : i < xs.length) : (tabV f z xs i)[i]? = some z := by
 unfold tabV
 rw [List.getElem?_append_right (by simp; omega), List.getElem?_replicate, if_pos (by simp; omega)]
theorem tabV_set {α : Type} (f : α → List V) (z : List V) {xs : List α} {i : Nat} {y : α} (h : xs[i]? = some y) : (tabV f z xs i).set i (f y) = tabV f z xs (i + 1) := by
 have hi := (List.getElem?_eq_some_iff.1 h).1
 unfold tabV
 rw [take_get h, List.map_append, List.set_append, if_neg (by simp; omega)]
 have e : xs.length - i = (xs.length - (i + 1)) + 1 := by omega
 have e2 : i - (List.map f (List.take i xs)).length = 0 := by simp; omega
 rw [e, e2, List.replicate_succ, List.set_cons_zero]
 simp
theorem eq_take {α : Type} {xs ys : List α} {i : Nat} {x y : α} (hx : xs[i]? = some x) (hy : ys[i]? = some y) (h : xs.take i = ys.take i) (e : x = y) : xs.take (i + 1) = ys.take (i + 1) := by
 rw [take_get hx, take_get hy, h, e]
theorem eq_end {α : Type} {xs ys : List α} {i : Nat} (h : xs.take i = ys.take i) (hi : xs.length ≤ i) (hl : xs.length = ys.length) : xs = ys := by
 rwa [take_end hi, take_end (by omega)] at h
theorem ne_at {α : Type} {xs ys : List α} {i : Nat} {x y : α} (hx : xs[i]? = some x) (hy : ys[i]? = some y) (h : x ≠ y) : xs ≠ ys := by
 intro e; subst e; rw [hx] at hy; exact h (by simpa using hy)
def idxOf {α : Type} (p : α → Bool) (xs : List α) : Int := match xs.findIdx? p with
 | some i => i
 | none => -1
theorem idxOf_at {α : Type} {p : α → Bool} {xs : List α} {i : Nat} {y : α} (h : xs[i]? = some y) (h1 : (xs.take i).any p = false) (h2 : p y = true) : idxOf p xs = i := by
 have : xs.findIdx? p = some i := by
  rw [List.findIdx?_eq_some_iff_getElem]
  obtain ⟨g1, g2⟩ := List.getElem?_eq_some_iff.1 h
  refine ⟨g1, by rw [g2]; exact h2, fun j hj => ?_⟩
  rw [List.any_eq_false] at h1
  have := h1 xs[j] (by rw [List.mem_take_iff_getElem]; exact ⟨j, by omega, rfl⟩)
  simpa using this
 simp [idxOf, this]
theorem idxOf_no {α : Type} {p : α → Bool} {xs : List α} (h : xs.any p = false) : idxOf p xs = -1 := by
 have : xs.findIdx? p = none := by
  rw [List.findIdx?_eq_none_iff]
  intro x hx
  rw [List.any_eq_false] at h
  simpa using h x hx
 simp [idxOf, this]
theorem idxOf_any {α : Type} (p : α → Bool) (xs : List α) : decide (0 ≤ idxOf p xs) = xs.any p := by
 cases h : xs.any p with
 | false => rw [idxOf_no h]; rfl
 | true =>
   unfold idxOf
   cases e : xs.findIdx? p with
   | none =>
     rw [List.findIdx?_eq_none_iff] at e
     obtain ⟨x, hx, hp⟩ := List.any_eq_true.1 h
     rw [e x hx] at hp; cases hp
   | some i => simp
theorem fzV_mono : ∀ (n : Nat) (v : V), V.fzV n v = true → V.fzV (n + 1) v = true
 | 0, v, h => by cases h
 | n + 1, v, h => by
   cases v with
   | agg cs => exact List.all_eq_true.2 fun x hx => fzV_mono n x (List.all_eq_true.1 h x hx)
   | tup cs => exact List.all_eq_true.2 fun x hx => fzV_mono n x (List.all_eq_true.1 h x hx)
   | fn f cs => exact List.all_eq_true.2 fun x hx => fzV_mono n x (List.all_eq_true.1 h x hx)
   | w _ => rfl
   | sl _ _ => rfl
   | rp _ _ => rfl
   | raw _ => rfl
   | _ => cases h
theorem fz1 {u : V} {caps : List V} (hu : V.fzV 6 u = true) (hc : caps.all (V.fzV 5) = true) : ([u] ++ caps).all (V.fzV 6) = true :=
 List.all_eq_true.2 fun x hx => by
  simp only [List.cons_append, List.nil_append, List.mem_cons] at hx
  rcases hx with rfl | hx
  · exact hu
  · exact fzV_mono 5 x (List.all_eq_true.1 hc x hx)
theorem fz2 {u : V} {f : Nat} {caps : List V} (hu : V.fzV 6 u = true) (hc : caps.all (V.fzV 5) = true) : [u, .fn f caps].all (V.fzV 6) = true := by
 rw [List.all_cons, hu, List.all_cons]
 show (true && (caps.all (V.fzV 5) && true)) = true
 rw [hc]; rfl
def room (left : Int) (n : Nat) : Int := max (left - n) (-1)
def sumL {α : Type} (f : α → Nat) : List α → Nat
 | [] => 0
 | x :: l => f x + sumL f l
theorem sumL_mem {α : Type} (f : α → Nat) {xs : List α} {y : α} (h : y ∈ xs) : f y ≤ sumL f xs := by
 induction xs with
 | nil => cases h
 | cons x xs ih =>
   simp only [List.mem_cons] at h
   simp only [sumL]
   rcases h with rfl | h
   · omega
   · have := ih h; omega
end Go.Proofs.YtoppcdecolponaaDoor.AL
namespace Go.Proofs.YtoppcdecolponaaDoor.AL
open Go
set_option linter.unusedVariables false
theorem dec_len (u : Nat) : (Lib.decDigits u).length = Lib.nDigits u := by
 induction u using Nat.strongRecOn with
 | _ u ih =>
   rw [Lib.decDigits, Lib.nDigits]
   split
   · rfl
   · rw [List.length_append, ih (u / 10) (by omega)]; rfl
end Go.Proofs.YtoppcdecolponaaDoor.AL
namespace Go.Proofs.YtoppcdecolponaaDoor.AL
open Go
set_option linter.unusedVariables false
theorem wrap_u8 (x : Int) : 0 ≤ IntKind.wrap .u8 x ∧ IntKind.wrap .u8 x < 256 := by
 have e : IntKind.wrap .u8 x = x % 256 := rfl
 rw [e]; omega
theorem wrap_u8_in {x : Int} (h : 0 ≤ x ∧ x < 256) : IntKind.wrap .u8 x = x := by
 have e : IntKind.wrap .u8 x = x % 256 := rfl
 rw [e]; omega
def restD (n : Int) : List UInt8 := if n = 0 then [] else Lib.decDigits n.natAbs
theorem restD_0 : restD 0 = [] := rfl
theorem tmod_abs (n : Int) : (n.tmod 10).natAbs = n.natAbs % 10 := by rw [Int.natAbs_tmod]; rfl
theorem tdiv_abs (n : Int) : (n.tdiv 10).natAbs = n.natAbs / 10 := by rw [Int.natAbs_tdiv]; rfl
theorem restD_next {n : Int} (h : ¬ n = 0) : restD n = restD (n.tdiv 10) ++ [UInt8.ofNat (48 + n.natAbs % 10)] := by
 unfold restD
 rw [if_neg h, Lib.decDigits]
 have hd := tdiv_abs n
 split
 · rename_i h2
   rw [if_pos (by omega), Nat.mod_eq_of_lt h2]; rfl
 · rename_i h2
   rw [if_neg (by omega), hd]
theorem dec_start {n : Int} (h : ¬ n = 0) : restD n ++ [] = Lib.decDigits n.natAbs := by simp [restD, h]
theorem dec_end {n m : Int} {out : List UInt8} (hr : restD m ++ out = Lib.decDigits n.natAbs) (h : m = 0) : out = Lib.decDigits n.natAbs := by
 rw [h, restD_0, List.nil_append] at hr; exact hr
theorem dec_round {n d : Int} {out D : List UInt8} (h : ¬ n = 0) (hb : -9223372036854775808 ≤ n ∧ n ≤ 9223372036854775807) (hr : restD n ++ out = D) (hd : d = ((n.natAbs % 10 : Nat) : Int)) :
 (-9223372036854775808 ≤ IntKind.wrap .i64 (n.tdiv 10) ∧ IntKind.wrap .i64 (n.tdiv 10) ≤ 9223372036854775807) ∧ restD (IntKind.wrap .i64 (n.tdiv 10)) ++ (UInt8.ofNat (IntKind.wrap .u8 (IntKind.wrap .i64 (48 + d))).toNat :: out) = D := by
 have hq := tdiv_abs n
 have hw : IntKind.wrap .i64 (n.tdiv 10) = n.tdiv 10 := wrap_in _ (by omega)
 have hl : n.natAbs % 10 < 10 := Nat.mod_lt _ (by decide)
 rw [hw]
 refine ⟨by omega, ?_⟩
 rw [wrap_in (48 + d) (by omega), wrap_u8_in (by omega), ← hr, restD_next h, List.append_assoc]
 have e : (48 + d).toNat = 48 + n.natAbs % 10 := by omega
 rw [e]; rfl
theorem dig_neg {n : Int} (hb : -9223372036854775808 ≤ n ∧ n ≤ 9223372036854775807) (h : n.tmod 10 < 0) : IntKind.wrap .i64 (0 - n.tmod 10) = ((n.natAbs % 10 : Nat) : Int) := by
 have := tmod_abs n
 have hl : n.natAbs % 10 < 10 := Nat.mod_lt _ (by decide)
 rw [wrap_in _ (by omega)]; omega
theorem dig_pos {n : Int} (h : ¬ n.tmod 10 < 0) : n.tmod 10 = ((n.natAbs % 10 : Nat) : Int) := by
 have := tmod_abs n; omega
theorem natAbs_next {n : Int} (h : ¬ n = 0) (hb : -9223372036854775808 ≤ n ∧ n ≤ 9223372036854775807) : (IntKind.wrap .i64 (n.tdiv 10)).natAbs < n.natAbs := by
 have hq := tdiv_abs n
 rw [wrap_in _ (by omega)]; omega
theorem dec_short {n : Int} (hb : -9223372036854775808 ≤ n ∧ n ≤ 9223372036854775807) {m : Int} {out : List UInt8} (h : restD m ++ out = Lib.decDigits n.natAbs) : out.length ≤ 20 := by
 have h1 := congrArg List.length h
 rw [List.length_append, dec_len] at h1
 have := Lib.nDigits_le20 n.natAbs (by omega)
 omega
theorem itoa_0 : Lib.itoa 0 = [48] := by unfold Lib.itoa; rw [if_neg (by decide), Lib.decDigits]; rfl
theorem itoa_n {n : Int} (h : n < 0) : Lib.itoa n = 45 :: Lib.decDigits n.natAbs := by unfold Lib.itoa; rw [if_pos h]
theorem itoa_p {n : Int} (h : ¬ n < 0) : Lib.itoa n = Lib.decDigits n.natAbs := by unfold Lib.itoa; rw [if_neg h]; congr 1; omega
theorem itoa_len {n : Int} (hb : -9223372036854775808 ≤ n ∧ n ≤ 9223372036854775807) : (Lib.itoa n).length ≤ 21 := Lib.itoa_length_le n hb.1 hb.2
theorem dec_leaf1 {n : Int} (h : n = 0) : V.w (.string ⟨#[48]⟩) = V.w (.string ⟨(Lib.itoa n).toArray⟩) := by rw [h, itoa_0]
theorem dec_leaf2 {n m : Int} {out : List UInt8} (hr : restD m ++ out = Lib.decDigits n.natAbs) (h : m = 0) (h9 : n < 0) : V.w (.string ⟨([45] ++ out).toArray⟩) = V.w (.string ⟨(Lib.itoa n).toArray⟩) := by
 rw [itoa_n h9, ← dec_end hr h]; rfl
theorem dec_leaf3 {n m : Int} {out : List UInt8} (hr : restD m ++ out = Lib.decDigits n.natAbs) (h : m = 0) (h9 : ¬ n < 0) : V.w (.string ⟨out.toArray⟩) = V.w (.string ⟨(Lib.itoa n).toArray⟩) := by
 rw [itoa_p h9, ← dec_end hr h]
end Go.Proofs.YtoppcdecolponaaDoor.AL
namespace Go.Proofs.YtoppcdecolponaaDoor.AL
open Go
def Conf.cost (c : Conf) : Int := if inB c.maxRetry 0 3 && inB c.maxWait 0 3 then (c.maxRetry + 2) * (c.maxWait + 6) else 0
def Conf.slot (c : Conf) : Int := if c.cost = 0 ∨ inB c.lockMost 1 40 = false then 0 else 2 * c.cost + c.lockMost
def priosOf (l : List MConf) : Nat := l.countP (·.prio)
def Conf.least (c : Conf) : Int := 2 * c.slot * (priosOf c.masters : Int)
def MConf.ok (l : Int) (m : MConf) : Bool :=
 inB m.weight 1 4 && (if m.prio then inB m.every l 1000 && inB m.cap 1 8 else decide (m.every = 0) && decide (m.cap = 0))
def Conf.ok (c : Conf) : Bool :=
 inB c.masters.length 1 4 && inB c.quantum 1 4 && inB c.maxSplit 1 12 && decide (c.slot ≠ 0) && c.masters.all (MConf.ok c.least)
theorem Conf.cost_bd (c : Conf) : 0 ≤ c.cost ∧ c.cost ≤ 45 := by
 unfold Conf.cost inB
 split
 · rename_i h
   simp only [Bool.and_eq_true, decide_eq_true_eq] at h
   obtain ⟨⟨h1, h2⟩, h3, h4⟩ := h
   have hr : c.maxRetry = 0 ∨ c.maxRetry = 1 ∨ c.maxRetry = 2 ∨ c.maxRetry = 3 := by omega
   rcases hr with h | h | h | h <;> rw [h] <;> omega
 · omega
theorem Conf.slot_bd (c : Conf) : 0 ≤ c.slot ∧ c.slot ≤ 130 := by
 have := c.cost_bd
 unfold Conf.slot inB
 split
 · omega
 · rename_i h
   simp only [not_or, Bool.not_eq_false, Bool.and_eq_true, decide_eq_true_eq] at h
   omega
theorem slot_ne (x : Conf) : decide (x.slot ≠ 0) = (decide (0 < x.cost) && inB x.lockMost 1 40) := by
 have h := x.cost_bd
 unfold Conf.slot
 by_cases h1 : x.cost = 0
 · rw [if_pos (.inl h1)]; simp [h1]
 · cases h2 : inB x.lockMost 1 40 with
   | false => rw [if_pos (.inr rfl)]; simp
   | true =>
     have := inB_t h2
     rw [if_neg (by simp [h1])]
     have h3 : 0 < x.cost := by omega
     have h4 : 2 * x.cost + x.lockMost ≠ 0 := by omega
     simp [h3, h4]
theorem ok_no {x : Conf} {i : Nat} {y : MConf} (h : x.masters[i]? = some y) (h2 : MConf.ok x.least y = false) : false = x.ok := by
 unfold Conf.ok; rw [all_no h h2]; simp
theorem ok_is {x : Conf} (h : x.masters.all (MConf.ok x.least) = true) : x.ok = (inB x.masters.length 1 4 && (inB x.quantum 1 4 && decide (0 < x.cost) && inB x.maxSplit 1 12 && inB x.lockMost 1 40)) := by
 unfold Conf.ok; rw [h, slot_ne]; cases inB x.masters.length 1 4 <;> cases inB x.quantum 1 4 <;> cases inB x.maxSplit 1 12 <;> simp
theorem priosOf_le (l : List MConf) : priosOf l ≤ l.length := List.countP_le_length
def Conf.turn (c : Conf) (who : Int) : Int := if c.ok && inB who 0 (c.masters.length - 1) then IntKind.wrap .i64 ((match c.masters[who.toNat]? with | some m => m.weight | none => 0) * c.quantum) else 0
def caps1 (slot : Int) (s : Int) (m : MConf) : Int := if m.prio then IntKind.wrap .i64 (s + IntKind.wrap .i64 (IntKind.wrap .i64 (m.cap + 1) * slot)) else s
def Conf.caps (c : Conf) : Int := c.masters.foldl (caps1 c.slot) 0
def Conf.first (c : Conf) : Int := if c.ok then IntKind.wrap .i64 (IntKind.wrap .i64 (2 * IntKind.wrap .i64 (c.caps + c.slot)) + 10) else 0
def Wrr.ok (w : Wrr) (c : Conf) : Bool := c.ok && inB w.pos 0 (c.masters.length - 1) && inB w.credit 0 (c.turn w.pos)
end Go.Proofs.YtoppcdecolponaaDoor.AL
namespace Go.Proofs.YtoppcdecolponaaDoor.AL
open Go
open Go.ChangeShapes Go.WideShapes Go.RowKit
set_option linter.unusedVariables false
set_option linter.unusedSimpArgs false
structure VR {α : Type} (r : α → List V) (wf : α → Prop) (m : Mem) (x : α) (vs : List Value) : Prop where
 pt : Pt (RF m) (r x) vs
 nar : ∀ u, u ∈ r x → u.nar = true
 wf : wf x
theorem VR.mono {α : Type} {r : α → List V} {wf : α → Prop} : Mono (VR r wf) := fun m m1 x vs h hs => ⟨h.pt.mono fun _ _ => RF.mono hs, h.nar, h.wf⟩
theorem VR.int {m : Mem} {x : Int} {vs : List Value} (h : RInt .i64 m x vs) : VR iR i64 m x vs := by
 obtain ⟨rfl, hw⟩ := h
 refine ⟨Pt.cons (.w rfl) Pt.nil, fun u hu => by simp [iR] at hu; subst hu; rfl, ?_⟩
 simp [Lit.wf, IntKind.min, IntKind.max, IntKind.bits, IntKind.signed] at hw
 unfold AL.i64
 omega
theorem VR.bool {m : Mem} {x : Bool} {vs : List Value} (h : RBool m x vs) : VR bR (fun _ => True) m x vs := by
 cases h
 exact ⟨Pt.cons (.w rfl) Pt.nil, fun u hu => by simp [bR] at hu; subst hu; rfl, trivial⟩
def slR {α : Type} (k : Nat) (r : α → List V) (xs : List α) : List V := [.sl k (xs.map r)]
theorem VR.sl {α : Type} {k : Nat} {r : α → List V} {wf : α → Prop} {m : Mem} {xs : List α} {vs : List Value} (h : RSl k (VR r wf) m xs vs) : VR (slR k r) (fun xs => xs.length ≤ 140737488355328 ∧ ∀ y, y ∈ xs → wf y) m xs vs := by
 obtain ⟨a, c, rows, rfl, hc, hr, hl, hx, hb⟩ := h
 have hx' : ∀ (i : Nat) (u : List V) r', (xs.map r)[i]? = some u → rows[i]? = some r' → Pt (RF m) u r' ∧ ∀ v, v ∈ u → v.nar = true := by
  intro i u r' h1 h2
  rw [List.getElem?_map] at h1
  cases e : xs[i]? with
  | none => rw [e] at h1; cases h1
  | some x =>
    rw [e] at h1; cases h1
    have := hx i x r' e h2
    exact ⟨this.pt, this.nar⟩
 have he : (xs.map r).length = xs.length := by simp
 have hsl : RF m (.sl k (xs.map r)) (.slice a (xs.map r).length c) := by
  have hr' : ∀ (i : Nat) u, (xs.map r)[i]? = some u → ∃ r', rows[i]? = some r' := fun i u h => by
   have := (List.getElem?_eq_some_iff.1 h).1
   exact ⟨_, List.getElem?_eq_getElem (by omega)⟩
  refine .sl (by omega) hr (by omega) (fun i u j x h1 h2 => ?_) (fun i u r' h1 h2 => (hx' i u r' h1 h2).1.1) (fun i u r' j x y h1 h2 h3 h4 => (hx' i u r' h1 h2).1.2 j x y h3 h4)
  obtain ⟨r', h3⟩ := hr' i u h1
  exact (hx' i u r' h1 h3).2 x (List.mem_of_getElem? h2)
 rw [he] at hsl
 refine ⟨Pt.cons hsl Pt.nil, fun u hu => by simp [slR] at hu; subst hu; rfl, by simpa using hb, fun y hy => ?_⟩
 obtain ⟨i, hi⟩ := List.mem_iff_getElem?.1 hy
 have hi2 : i < rows.length := by have := (List.getElem?_eq_some_iff.1 hi).1; omega
 exact (hx i y _ hi (List.getElem?_eq_getElem hi2)).wf
theorem VR.nil {m : Mem} {x : Unit} {vs : List Value} (h : RNil m x vs) : VR (fun _ : Unit => []) (fun _ => True) m x vs := by
 cases h
 exact ⟨Pt.nil, by simp, trivial⟩
theorem VR.cons {α γ : Type} {r1 : α → List V} {w1 : α → Prop} {r2 : γ → List V} {w2 : γ → Prop} {R2 : Mem → γ → List Value → Prop} {m : Mem} {x : α × γ} {vs : List Value} (h : RCons (VR r1 w1) R2 m x vs) (k : ∀ vs', R2 m x.2 vs' → VR r2 w2 m x.2 vs') :
 VR (fun p : α × γ => r1 p.1 ++ r2 p.2) (fun p => w1 p.1 ∧ w2 p.2) m x vs := by
 obtain ⟨v1, v2, rfl, h1, h2⟩ := h
 have h2 := k _ h2
 refine ⟨h1.pt.append h2.pt, fun u hu => ?_, h1.wf, h2.wf⟩
 rcases List.mem_append.1 hu with hu | hu
 · exact h1.nar u hu
 · exact h2.nar u hu
section
variable {H : Type} {enc : TypeId × Value → H} {P : Program} {no : No} {W : World}
theorem VO.int {t : TypeId} (ht : P.underlying t = some (.int .i64)) : Opn enc P no W t (VR iR i64) := (Opn.int ht).imp fun m x vs h => ⟨x, VR.int h⟩
theorem VO.bool {t : TypeId} (ht : P.underlying t = some .bool) : Opn enc P no W t (VR bR fun _ => True) := (Opn.bool ht).imp fun m x vs h => ⟨x, VR.bool h⟩
theorem VO.slice {α : Type} {t e : TypeId} {k : Nat} {r : α → List V} {wf : α → Prop} (ht : P.underlying t = some (.slice e)) (hk : P.cellsOf e = k) (hk0 : 0 < k) (hb : 0 < P.bytesOf e)
 (h : Opn enc P no W e (VR r wf)) : Opn enc P no W t (VR (slR k r) fun xs => xs.length ≤ 140737488355328 ∧ ∀ y, y ∈ xs → wf y) := (Opn.slice VR.mono ht hk hk0 hb h).imp fun m x vs h => ⟨x, VR.sl h⟩
theorem Pt.word {R : V → Value → Prop} {u : V} {v : Value} (h : Pt R [u] [v]) : R u v := h.2 0 _ _ rfl rfl
theorem law_end {G : Prg} {f g : Nat} (hm : P.follows .mixedOrders = true) (hL : Link P no G) (hno : no f = some g) {β : Inj} {m : Mem} {n : Nat} (V : View no W β m n) {args : Array Value} {vals : List Value} {us : List AL.V}
 (hw : Wds no β n vals args.toList) (hp : Pt (RF m) us vals) (hc : CV G g us fun v => v = .w (.bool true)) : Calls P f args W fun e W' => e = .returned (.bool true) ∧ Below W.heap.size W W' := by
 refine law_run hm hL hno V hw ?_
 refine (hc.run vals n m n m V.mlt.fresh (Nat.le_refl _) (sub_refl _) hp).mono ?_
 rintro v m1 n1 ⟨u, M1, h1, rfl, _⟩
 cases h1
 rfl
end
end Go.Proofs.YtoppcdecolponaaDoor.AL
namespace Go.Proofs.YtoppcdecolponaaDoor.AL
open Go
set_option linter.unusedVariables false
theorem join_le (B : Nat) (sep : List UInt8) : ∀ (xs : List (List UInt8)), (∀ w, w ∈ xs → w.length ≤ B) → (Lib.join xs sep).length ≤ xs.length * (B + sep.length)
 | [], _ => by simp [Lib.join_nil]
 | x :: xs, h => by
   rw [Lib.join_length]
   have h1 : ∀ (l : List (List UInt8)), (∀ w, w ∈ l → w.length ≤ B) → Lib.lens l ≤ l.length * B := by
    intro l
    induction l with
    | nil => intro _; simp [Lib.lens]
    | cons a l ih =>
      intro h
      have := ih fun w hw => h w (by simp [hw])
      have h0 := h a (by simp)
      simp only [Lib.lens, List.map_cons, List.sum_cons, List.length_cons] at this ⊢
      rw [Nat.succ_mul]; omega
   have h2 := h1 (x :: xs) h
   simp only [List.length_cons] at h2 ⊢
   rw [Nat.mul_add, Nat.mul_comm sep.length]
   have h3 : xs.length * sep.length ≤ (xs.length + 1) * sep.length := Nat.mul_le_mul_right _ (by omega)
   omega
theorem join_snoc (sep w : List UInt8) : ∀ (xs : List (List UInt8)), xs ≠ [] → Lib.join (xs ++ [w]) sep = Lib.join xs sep ++ sep ++ w
 | [], h => absurd rfl h
 | x :: xs, _ => by
   rw [List.cons_append, Lib.join_cons, Lib.join_cons]
   simp [Lib.joinTail]
theorem join_app (sep : List UInt8) : ∀ (ys xs : List (List UInt8)), xs ≠ [] → Lib.join (xs ++ ys) sep = Lib.join xs sep ++ (ys.map (sep ++ ·)).flatten
 | [], xs, _ => by simp
 | y :: ys, xs, h => by
   have e : xs ++ y :: ys = (xs ++ [y]) ++ ys := by simp
   rw [e, join_app sep ys (xs ++ [y]) (by simp), join_snoc sep y xs h]
   simp [List.append_assoc]
def mWord (m : MConf) : List UInt8 := if m.prio = true then Lib.join [Lib.itoa m.weight, Lib.itoa m.every, Lib.itoa m.cap] [58] else Lib.itoa m.weight
def cHead (x : Conf) : List UInt8 := Lib.itoa x.quantum ++ [32] ++ Lib.itoa x.maxWait ++ [32] ++ Lib.itoa x.maxRetry ++ [32] ++ Lib.itoa x.maxSplit ++ [32] ++ Lib.itoa x.lockMost
def cWords (x : Conf) : List (List UInt8) := [x.quantum, x.maxWait, x.maxRetry, x.maxSplit, x.lockMost].map Lib.itoa
def cAcc (x : Conf) (ms : List MConf) : List UInt8 := cHead x ++ (ms.map fun m => 32 :: mWord m).flatten
def cText (x : Conf) : List UInt8 := if x.ok = true then cAcc x x.masters else []
theorem mWord_p {m : MConf} (h : m.prio = true) : mWord m = Lib.itoa m.weight ++ [58] ++ Lib.itoa m.every ++ [58] ++ Lib.itoa m.cap := by
 rw [mWord, if_pos h, Lib.join_cons]
 simp [Lib.joinTail, List.append_assoc]
theorem mWord_n {m : MConf} (h : m.prio = false) : mWord m = Lib.itoa m.weight := by rw [mWord, if_neg (by rw [h]; decide)]
theorem mWord_len {m : MConf} (h : m.wf) : (mWord m).length ≤ 65 := by
 obtain ⟨h1, h2, h3⟩ := h
 have l1 := itoa_len h1
 have l2 := itoa_len h2
 have l3 := itoa_len h3
 cases hp : m.prio with
 | true => rw [mWord_p hp]; simp; omega
 | false => rw [mWord_n hp]; omega
theorem cHead_len {x : Conf} (h : x.wf) : (cHead x).length ≤ 109 := by
 obtain ⟨_, h1, h2, h3, h4, h5⟩ := h
 have l1 := itoa_len h1
 have l2 := itoa_len h2
 have l3 := itoa_len h3
 have l4 := itoa_len h4
 have l5 := itoa_len h5
 simp [cHead]; omega
theorem acc_len {ms : List MConf} (h : ∀ m, m ∈ ms → m.wf) : ((ms.map fun m => 32 :: mWord m).flatten).length ≤ 66 * ms.length := by
 induction ms with
 | nil => simp
 | cons m ms ih =>
   have h1 := ih fun x hx => h x (by simp [hx])
   have h2 := mWord_len (h m (by simp))
   simp only [List.map_cons, List.flatten_cons, List.length_append, List.length_cons] at h1 ⊢
   omega
theorem cAcc_len {x : Conf} (h : x.wf) (i : Nat) : (cAcc x (x.masters.take i)).length ≤ 109 + 66 * i := by
 have h1 := cHead_len h
 have h2 := acc_len (ms := x.masters.take i) fun m hm => h.1.2 m (List.mem_of_mem_take hm)
 have h3 : (x.masters.take i).length ≤ i := by rw [List.length_take]; omega
 simp only [cAcc, List.length_append]
 omega
theorem cAcc_0 (x : Conf) : cAcc x (x.masters.take 0) = cHead x := by simp [cAcc]
theorem cAcc_next {x : Conf} {i : Nat} {y : MConf} (h : x.masters[i]? = some y) : cAcc x (x.masters.take (i + 1)) = cAcc x (x.masters.take i) ++ [32] ++ mWord y := by
 rw [take_get h]
 simp [cAcc, List.append_assoc]
theorem cAcc_p {x : Conf} {i : Nat} {y : MConf} (h : x.masters[i]? = some y) (hp : y.prio = true) : cAcc x (x.masters.take i) ++ [32] ++ Lib.itoa y.weight ++ [58] ++ Lib.itoa y.every ++ [58] ++ Lib.itoa y.cap = cAcc x (x.masters.take (i + 1)) := by
 rw [cAcc_next h, mWord_p hp]; simp [List.append_assoc]
theorem cAcc_n {x : Conf} {i : Nat} {y : MConf} (h : x.masters[i]? = some y) (hp : y.prio = false) : cAcc x (x.masters.take i) ++ [32] ++ Lib.itoa y.weight = cAcc x (x.masters.take (i + 1)) := by
 rw [cAcc_next h, mWord_n hp]
theorem cWords_ne (x : Conf) (ms : List MConf) : cWords x ++ ms.map mWord ≠ [] := by simp [cWords]
theorem cWords_join (x : Conf) (ms : List MConf) : Lib.join (cWords x ++ ms.map mWord) [32] = cAcc x ms := by
 rw [join_app _ _ _ (by simp [cWords]), cAcc]
 have e : Lib.join (cWords x) [32] = cHead x := by
  simp only [cWords, List.map_cons, List.map_nil, Lib.join_cons]
  simp [Lib.joinTail, cHead, List.append_assoc]
 rw [e, List.map_map]; rfl
theorem words_next {x : Conf} {i : Nat} {y : MConf} (h : x.masters[i]? = some y) : cWords x ++ (x.masters.take (i + 1)).map mWord = (cWords x ++ (x.masters.take i).map mWord) ++ [mWord y] := by
 rw [take_get h, List.map_append, List.append_assoc]; rfl
theorem cT_no {x : Conf} (h : x.ok = false) : V.w (.string ⟨#[]⟩) = V.w (.string ⟨(cText x).toArray⟩) := by rw [cText, if_neg (by rw [h]; decide)]
theorem cT_yes {x : Conf} {i : Nat} (h : x.ok = true) (hi : x.masters.length ≤ i) : V.w (.string ⟨(cAcc x (x.masters.take i)).toArray⟩) = V.w (.string ⟨(cText x).toArray⟩) := by rw [cText, if_pos h, List.take_of_length_le hi]
theorem cT_join {x : Conf} {i : Nat} (h : x.ok = true) (hi : x.masters.length ≤ i) : V.w (.string ⟨(Lib.join (cWords x ++ (x.masters.take i).map mWord) [32]).toArray⟩) = V.w (.string ⟨(cText x).toArray⟩) := by rw [cWords_join, ← cT_yes h hi]
theorem words_len {x : Conf} (h : x.wf) (ms : List MConf) (hm : ∀ m, m ∈ ms → m ∈ x.masters) : ∀ w, w ∈ cWords x ++ ms.map mWord → w.length ≤ 65 := by
 obtain ⟨h0, h1, h2, h3, h4, h5⟩ := h
 intro w hw
 simp only [cWords, List.map_cons, List.map_nil, List.mem_append, List.mem_cons, List.not_mem_nil, or_false, List.mem_map] at hw
 have l1 := itoa_len h1
 have l2 := itoa_len h2
 have l3 := itoa_len h3
 have l4 := itoa_len h4
 have l5 := itoa_len h5
 rcases hw with (rfl | rfl | rfl | rfl | rfl) | ⟨m, hm1, rfl⟩
 all_goals first | omega | exact mWord_len (h0.2 m (hm m hm1))
theorem words_cnt (x : Conf) (ms : List MConf) : (cWords x ++ ms.map mWord).length = 5 + ms.length := by simp [cWords]; omega
theorem words_join {x : Conf} (h : x.wf) (ms : List MConf) (hm : ∀ m, m ∈ ms → m ∈ x.masters) (hl : ms.length ≤ 1048576) : (Lib.join (cWords x ++ ms.map mWord) [32]).length ≤ 140737488355328 := by
 have := join_le 65 [32] _ (words_len h ms hm)
 rw [words_cnt] at this
 have e : ([32] : List UInt8).length = 1 := rfl
 rw [e] at this
 omega
theorem three_join {m : MConf} (h : m.wf) : (Lib.join ([m.weight, m.every, m.cap].map Lib.itoa) [58]).length ≤ 140737488355328 := by
 obtain ⟨h1, h2, h3⟩ := h
 have l1 := itoa_len h1
 have l2 := itoa_len h2
 have l3 := itoa_len h3
 have := join_le 21 [58] ([m.weight, m.every, m.cap].map Lib.itoa) (fun w hw => by
  simp only [List.map_cons, List.map_nil, List.mem_cons, List.not_mem_nil, or_false] at hw
  rcases hw with rfl | rfl | rfl <;> assumption)
 have e : ([58] : List UInt8).length = 1 := rfl
 rw [e] at this
 simp only [List.length_map, List.length_cons, List.length_nil] at this
 omega
theorem three_wf {m : MConf} (h : m.wf) : ∀ y, y ∈ [m.weight, m.every, m.cap] → i64 y := by
 intro y hy
 simp only [List.mem_cons, List.not_mem_nil, or_false] at hy
 rcases hy with rfl | rfl | rfl
 · exact h.1
 · exact h.2.1
 · exact h.2.2
theorem five_wf {x : Conf} (h : x.wf) : ∀ y, y ∈ [x.quantum, x.maxWait, x.maxRetry, x.maxSplit, x.lockMost] → i64 y := by
 intro y hy
 simp only [List.mem_cons, List.not_mem_nil, or_false] at hy
 rcases hy with rfl | rfl | rfl | rfl | rfl
 · exact h.2.1
 · exact h.2.2.1
 · exact h.2.2.2.1
 · exact h.2.2.2.2.1
 · exact h.2.2.2.2.2
theorem wordsR_next {x : Conf} {i : Nat} {y : MConf} (h : x.masters[i]? = some y) : (cWords x ++ (x.masters.take (i + 1)).map mWord).map stR = (cWords x ++ (x.masters.take i).map mWord).map stR ++ [stR (mWord y)] := by
 rw [words_next h, List.map_append]; rfl
theorem mw_p {m : MConf} (h : m.prio = true) : Lib.join ([m.weight, m.every, m.cap].map Lib.itoa) [58] = mWord m := by rw [mWord, if_pos h]; rfl
theorem mw_n {m : MConf} (h : m.prio = false) : Lib.itoa m.weight = mWord m := (mWord_n h).symm
end Go.Proofs.YtoppcdecolponaaDoor.AL
namespace Go.Proofs.YtoppcdecolponaaDoor.AL
open Go
def F34 : Fnc := ⟨(.seq (.rg [p 1 (.box (.t 0)),
 p 2 (.mv (.k (.bool false)))])
 (.seq (.seq (.rg [p 3 (.fa 0 (.t 1)),
 p 4 (.ld (.t 3)),
 p 5 (.len (.t 4)),
 p 6 (.call 103 [(.t 5), (.k (.int .i64 1)), (.k (.int .i64 4))]),
 p 7 (.not (.t 6)),
 p 8 (.mv (.t 7)),
 ⟨(some 9), .fa 1 (.t 1), (some (8, false)), false⟩,
 ⟨(some 10), .ld (.t 9), (some (8, false)), false⟩,
 ⟨(some 11), .call 103 [(.t 10), (.k (.int .i64 1)), (.k (.int .i64 4))], (some (8, false)), false⟩,
 ⟨(some 12), .not (.t 11), (some (8, false)), false⟩,
 p 13 (.pick (.t 8) (.k (.bool true)) (.t 12)),
 p 14 (.mv (.t 13)),
 ⟨(some 15), .fa 4 (.t 1), (some (14, false)), false⟩,
 ⟨(some 16), .ld (.t 15), (some (14, false)), false⟩,
 ⟨(some 17), .call 103 [(.t 16), (.k (.int .i64 1)), (.k (.int .i64 12))], (some (14, false)), false⟩,
 ⟨(some 18), .not (.t 17), (some (14, false)), false⟩,
 p 19 (.pick (.t 14) (.k (.bool true)) (.t 18)),
 p 20 (.mv (.t 19)),
 ⟨(some 21), .ldn 6 (.t 1), (some (20, false)), false⟩,
 ⟨(some 22), .call 74 [(.t 21)], (some (20, false)), false⟩,
 ⟨(some 23), .bin .eql (.t 22) (.k (.int .i64 0)), (some (20, false)), false⟩,
 p 24 (.pick (.t 20) (.k (.bool true)) (.t 23))])
 (.cond (.t 24) (.seq (.rg [p 2 (.mv (.k (.bool false)))])
 .ret)
 .skip))
 (.seq (.rg [p 25 (.fa 0 (.t 1)),
 p 26 (.ld (.t 25)),
 p 27 (.fn 35 [(.t 1)]),
 p 28 (.call 258 [(.t 26), (.t 27)]),
 p 29 (.not (.t 28)),
 p 2 (.mv (.t 29))])
 .ret))),
 [.tmp 2]⟩
def F35 : Fnc := ⟨(.seq (.rg [p 2 (.box (.t 0)),
 p 3 (.mv (.k (.bool false)))])
 (.seq (.block 0 (.seq (.rg [p 5 (.fa 0 (.t 2)),
 p 6 (.ld (.t 5)),
 p 7 (.call 103 [(.t 6), (.k (.int .i64 1)), (.k (.int .i64 4))]),
 p 8 (.not (.t 7)),
 p 4 (.mv (.t 8))])
 (.cond (.t 4) (.seq (.rg [p 3 (.mv (.k (.bool true)))])
 .ret)
 (.seq (.rg [p 10 (.fa 1 (.t 2)),
 p 11 (.ld (.t 10)),
 p 9 (.mv (.t 11))])
 (.cond (.t 9) (.seq (.rg [⟨(some 12), .fa 2 (.t 2), none, true⟩,
 ⟨(some 13), .ld (.t 12), none, true⟩,
 ⟨(some 14), .ldn 6 (.t 1), none, true⟩,
 ⟨(some 15), .call 50 [(.t 14)], none, true⟩,
 p 16 (.call 103 [(.t 13), (.t 15), (.k (.int .i64 1000))]),
 p 17 (.not (.t 16)),
 p 18 (.mv (.t 17)),
 ⟨(some 19), .fa 3 (.t 2), (some (18, false)), false⟩,
 ⟨(some 20), .ld (.t 19), (some (18, false)), false⟩,
 ⟨(some 21), .call 103 [(.t 20), (.k (.int .i64 1)), (.k (.int .i64 8))], (some (18, false)), false⟩,
 ⟨(some 22), .not (.t 21), (some (18, false)), false⟩,
 p 23 (.pick (.t 18) (.k (.bool true)) (.t 22)),
 p 3 (.mv (.t 23))])
 .ret)
 .skip)))))
 (.seq (.rg [p 24 (.fa 2 (.t 2)),
 p 25 (.ld (.t 24)),
 p 26 (.bin .neq (.t 25) (.k (.int .i64 0))),
 p 27 (.mv (.t 26)),
 ⟨(some 28), .fa 3 (.t 2), (some (27, false)), false⟩,
 ⟨(some 29), .ld (.t 28), (some (27, false)), false⟩,
 ⟨(some 30), .bin .neq (.t 29) (.k (.int .i64 0)), (some (27, false)), false⟩,
 p 31 (.pick (.t 27) (.k (.bool true)) (.t 30)),
 p 3 (.mv (.t 31))])
 .ret))),
 [.tmp 3]⟩
def F36 : Fnc := ⟨(.seq (.rg [p 1 (.box (.t 0)),
 p 2 (.mv (.k (.string ⟨#[]⟩)))])
 (.seq (.seq (.rg [p 7 (.ldn 6 (.t 1)),
 p 8 (.call 34 [(.t 7)]),
 p 9 (.not (.t 8))])
 (.cond (.t 9) (.seq (.rg [p 2 (.mv (.k (.string ⟨#[]⟩)))])
 .ret)
 .skip))
 (.seq (.rg [p 10 (.fa 1 (.t 1)),
 p 11 (.ld (.t 10)),
 p 12 (.fa 2 (.t 1)),
 p 13 (.ld (.t 12)),
 p 14 (.fa 3 (.t 1)),
 p 15 (.ld (.t 14)),
 p 16 (.fa 4 (.t 1)),
 p 17 (.ld (.t 16)),
 p 18 (.fa 5 (.t 1)),
 p 19 (.ld (.t 18)),
 p 20 (.bs 1 5 [.int .i64 0] [(0, (.t 11)), (1, (.t 13)), (2, (.t 15)), (3, (.t 17)), (4, (.t 19))]),
 p 21 (.call 84 [(.t 20)]),
 p 3 (.mv (.t 21))])
 (.seq (.seq (.rg [p 22 (.fa 0 (.t 1)),
 p 23 (.ld (.t 22)),
 p 24 (.len (.t 23)),
 p 25 (.mv (.k (.int .i64 0)))])
 (.block 0 (.loop (.seq (.rg [p 26 (.bin .lss (.t 25) (.t 24))])
 (.seq (.cond (.t 26) .skip
 (.exit 0))
 (.seq (.block 1 (.seq (.rg [p 27 (.ia 4 (.t 23) (.t 25)),
 p 28 (.ldn 4 (.t 27)),
 p 5 (.new [.int .i64 0, .bool false, .int .i64 0, .int .i64 0]),
 ⟨none, .stn 4 (.t 5) (.t 28), none, false⟩])
 (.seq (.rg [p 29 (.fa 0 (.t 5)),
 p 30 (.ld (.t 29)),
 p 31 (.call 38 [(.t 30)]),
 p 6 (.mv (.t 31))])
 (.seq (.seq (.rg [p 32 (.fa 1 (.t 5)),
 p 33 (.ld (.t 32))])
 (.cond (.t 33) (.rg [p 34 (.fa 0 (.t 5)),
 p 35 (.ld (.t 34)),
 p 36 (.fa 2 (.t 5)),
 p 37 (.ld (.t 36)),
 p 38 (.fa 3 (.t 5)),
 p 39 (.ld (.t 38)),
 p 40 (.bs 1 3 [.int .i64 0] [(0, (.t 35)), (1, (.t 37)), (2, (.t 39))]),
 p 41 (.call 84 [(.t 40)]),
 p 42 (.call 407 [(.t 41), (.k (.string ⟨#[58]⟩))]),
 p 6 (.mv (.t 42))])
 .skip))
 (.rg [p 43 (.mv (.t 3)),
 p 44 (.mv (.t 6)),
 p 45 (.bs 1 1 [.string ⟨#[]⟩] [(0, (.t 44))]),
 p 46 (.app 1 16 (.t 43) (.t 45)),
 p 3 (.mv (.t 46))])))))
 (.rg [p 47 (.bin .add (.t 25) (.k (.int .i64 1))),
 p 25 (.mv (.t 47))])))))))
 (.seq (.rg [p 48 (.mv (.t 3)),
 p 49 (.call 407 [(.t 48), (.k (.string ⟨#[32]⟩))]),
 p 2 (.mv (.t 49))])
 .ret))))),
 [.tmp 2]⟩
def F37 : Fnc := ⟨(.seq (.rg [p 1 (.box (.t 0)),
 p 2 (.mv (.k (.int .i64 0)))])
 (.seq (.seq (.rg [p 3 (.fa 3 (.t 1)),
 p 4 (.ld (.t 3)),
 p 5 (.call 103 [(.t 4), (.k (.int .i64 0)), (.k (.int .i64 3))]),
 p 6 (.not (.t 5)),
 p 7 (.mv (.t 6)),
 ⟨(some 8), .fa 2 (.t 1), (some (7, false)), false⟩,
 ⟨(some 9), .ld (.t 8), (some (7, false)), false⟩,
 ⟨(some 10), .call 103 [(.t 9), (.k (.int .i64 0)), (.k (.int .i64 3))], (some (7, false)), false⟩,
 ⟨(some 11), .not (.t 10), (some (7, false)), false⟩,
 p 12 (.pick (.t 7) (.k (.bool true)) (.t 11))])
 (.cond (.t 12) (.seq (.rg [p 2 (.mv (.k (.int .i64 0)))])
 .ret)
 .skip))
 (.seq (.rg [p 13 (.fa 3 (.t 1)),
 p 14 (.ld (.t 13)),
 p 15 (.bin .add (.t 14) (.k (.int .i64 2))),
 p 16 (.fa 2 (.t 1)),
 p 17 (.ld (.t 16)),
 p 18 (.bin .add (.t 17) (.k (.int .i64 6))),
 p 19 (.bin .mul (.t 15) (.t 18)),
 p 2 (.mv (.t 19))])
 .ret))),
 [.tmp 2]⟩
def F38 : Fnc := ⟨(.seq (.rg [p 2 (.mv (.k (.string ⟨#[]⟩)))])
 (.seq (.rg [p 3 (.mv (.t 0)),
 p 4 (.call 272 [(.t 3)]),
 p 2 (.mv (.t 4))])
 .ret)),
 [.tmp 2]⟩
def F50 : Fnc := ⟨(.seq (.rg [p 1 (.box (.t 0)),
 p 2 (.mv (.k (.int .i64 0)))])
 (.seq (.rg [⟨(some 3), .ldn 6 (.t 1), none, true⟩,
 ⟨(some 4), .call 74 [(.t 3)], none, true⟩,
 ⟨(some 5), .bin .mul (.k (.int .i64 2)) (.t 4), none, true⟩,
 ⟨(some 6), .ldn 6 (.t 1), none, true⟩,
 ⟨(some 7), .call 101 [(.t 6)], none, true⟩,
 p 8 (.bin .mul (.t 5) (.t 7)),
 p 2 (.mv (.t 8))])
 .ret)),
 [.tmp 2]⟩
def F74 : Fnc := ⟨(.seq (.rg [p 1 (.box (.t 0)),
 p 2 (.mv (.k (.int .i64 0)))])
 (.seq (.seq (.rg [p 3 (.ldn 6 (.t 1)),
 p 4 (.call 37 [(.t 3)]),
 p 5 (.bin .eql (.t 4) (.k (.int .i64 0))),
 p 6 (.mv (.t 5)),
 ⟨(some 7), .fa 5 (.t 1), (some (6, false)), false⟩,
 ⟨(some 8), .ld (.t 7), (some (6, false)), false⟩,
 ⟨(some 9), .call 103 [(.t 8), (.k (.int .i64 1)), (.k (.int .i64 40))], (some (6, false)), false⟩,
 ⟨(some 10), .not (.t 9), (some (6, false)), false⟩,
 p 11 (.pick (.t 6) (.k (.bool true)) (.t 10))])
 (.cond (.t 11) (.seq (.rg [p 2 (.mv (.k (.int .i64 0)))])
 .ret)
 .skip))
 (.seq (.rg [⟨(some 12), .ldn 6 (.t 1), none, true⟩,
 ⟨(some 13), .call 37 [(.t 12)], none, true⟩,
 ⟨(some 14), .bin .mul (.k (.int .i64 2)) (.t 13), none, true⟩,
 ⟨(some 15), .fa 5 (.t 1), none, true⟩,
 ⟨(some 16), .ld (.t 15), none, true⟩,
 p 17 (.bin .add (.t 14) (.t 16)),
 p 2 (.mv (.t 17))])
 .ret))),
 [.tmp 2]⟩
def F84 : Fnc := ⟨(.seq (.rg [p 2 (.mv (.k (.slice none 0 0)))])
 (.seq (.rg [p 6 (.bs 1 0 [.string ⟨#[]⟩] []),
 p 3 (.mv (.t 6))])
 (.seq (.seq (.rg [p 7 (.mv (.t 0)),
 p 8 (.len (.t 7)),
 p 9 (.mv (.k (.int .i64 0)))])
 (.block 0 (.loop (.seq (.rg [p 10 (.bin .lss (.t 9) (.t 8))])
 (.seq (.cond (.t 10) .skip
 (.exit 0))
 (.seq (.block 1 (.seq (.rg [p 11 (.ia 1 (.t 7) (.t 9)),
 p 12 (.ld (.t 11)),
 p 5 (.mv (.t 12))])
 (.rg [p 13 (.mv (.t 3)),
 p 14 (.mv (.t 5)),
 p 15 (.call 38 [(.t 14)]),
 p 16 (.bs 1 1 [.string ⟨#[]⟩] [(0, (.t 15))]),
 p 17 (.app 1 16 (.t 13) (.t 16)),
 p 3 (.mv (.t 17))])))
 (.rg [p 18 (.bin .add (.t 9) (.k (.int .i64 1))),
 p 9 (.mv (.t 18))])))))))
 (.seq (.rg [p 19 (.mv (.t 3)),
 p 2 (.mv (.t 19))])
 .ret)))),
 [.tmp 2]⟩
def F101 : Fnc := ⟨(.seq (.rg [p 1 (.box (.t 0)),
 p 2 (.mv (.k (.int .i64 0)))])
 (.seq (.rg [p 3 (.mv (.k (.int .i64 0)))])
 (.seq (.seq (.rg [p 6 (.fa 0 (.t 1)),
 p 7 (.ld (.t 6)),
 p 8 (.len (.t 7)),
 p 9 (.mv (.k (.int .i64 0)))])
 (.block 0 (.loop (.seq (.rg [p 10 (.bin .lss (.t 9) (.t 8))])
 (.seq (.cond (.t 10) .skip
 (.exit 0))
 (.seq (.block 1 (.seq (.rg [p 11 (.ia 4 (.t 7) (.t 9)),
 p 12 (.ldn 4 (.t 11)),
 p 5 (.new [.int .i64 0, .bool false, .int .i64 0, .int .i64 0]),
 ⟨none, .stn 4 (.t 5) (.t 12), none, false⟩])
 (.seq (.rg [p 13 (.fa 1 (.t 5)),
 p 14 (.ld (.t 13))])
 (.cond (.t 14) (.rg [p 15 (.mv (.t 3)),
 p 16 (.bin .add (.t 15) (.k (.int .i64 1))),
 p 3 (.mv (.t 16))])
 .skip))))
 (.rg [p 17 (.bin .add (.t 9) (.k (.int .i64 1))),
 p 9 (.mv (.t 17))])))))))
 (.seq (.rg [p 18 (.mv (.t 3)),
 p 2 (.mv (.t 18))])
 .ret)))),
 [.tmp 2]⟩
def F103 : Fnc := ⟨(.seq (.rg [p 6 (.mv (.k (.bool false)))])
 (.seq (.rg [p 7 (.mv (.t 1)),
 p 8 (.mv (.t 0)),
 p 9 (.bin .leq (.t 7) (.t 8)),
 p 10 (.mv (.t 9)),
 ⟨(some 11), .mv (.t 0), (some (10, true)), false⟩,
 ⟨(some 12), .mv (.t 2), (some (10, true)), false⟩,
 ⟨(some 13), .bin .leq (.t 11) (.t 12), (some (10, true)), false⟩,
 p 14 (.pick (.t 10) (.t 13) (.k (.bool false))),
 p 6 (.mv (.t 14))])
 .ret)),
 [.tmp 6]⟩
def F108 : Fnc := ⟨(.seq (.rg [p 1 (.box (.t 0)),
 p 2 (.mv (.k (.bool false)))])
 (.seq (.rg [p 3 (.mv (.k (.int .i64 1048576)))])
 (.seq (.rg [p 7 (.ldn 6 (.t 1)),
 p 8 (.mv (.t 3)),
 p 9 (.call 145 [(.t 7), (.t 8)]),
 p 3 (.mv (.t 9))])
 (.seq (.seq (.rg [p 10 (.mv (.t 3)),
 p 11 (.bin .lss (.t 10) (.k (.int .i64 0)))])
 (.cond (.t 11) (.seq (.rg [p 2 (.mv (.k (.bool true)))])
 .ret)
 .skip))
 (.seq (.rg [p 12 (.ldn 6 (.t 1)),
 p 13 (.call 159 [(.t 12)]),
 p 14 (.call 185 [(.t 13)]),
 p 4 (.mv (.t 14))])
 (.seq (.rg [p 15 (.ldn 6 (.t 1)),
 p 16 (.call 159 [(.t 15)]),
 p 5 (.new [.slice none 0 0, .int .i64 0, .int .i64 0, .int .i64 0, .int .i64 0, .int .i64 0]),
 ⟨none, .stn 6 (.t 5) (.t 16), none, false⟩])
 (.seq (.rg [p 17 (.ldn 6 (.t 5)),
 p 18 (.call 36 [(.t 17)]),
 p 6 (.mv (.t 18))])
 (.seq (.seq (.rg [p 19 (.mv (.t 6)),
 p 20 (.mv (.t 4)),
 p 21 (.bin .neq (.t 19) (.t 20))])
 (.cond (.t 21) (.seq (.rg [p 2 (.mv (.k (.bool false)))])
 .ret)
 .skip))
 (.seq (.seq (.rg [⟨(some 22), .ldn 6 (.t 5), none, true⟩,
 ⟨(some 23), .ldn 6 (.t 1), none, true⟩,
 ⟨(some 24), .call 159 [(.t 23)], none, true⟩,
 p 25 (.call 128 [(.t 22), (.t 24)]),
 p 26 (.not (.t 25))])
 (.cond (.t 26) (.seq (.rg [p 2 (.mv (.k (.bool false)))])
 .ret)
 .skip))
 (.seq (.rg [p 2 (.mv (.k (.bool true)))])
 .ret)))))))))),
 [.tmp 2]⟩
def F128 : Fnc := ⟨(.seq (.rg [p 2 (.box (.t 0)),
 p 3 (.box (.t 1)),
 p 4 (.mv (.k (.bool false)))])
 (.seq (.seq (.rg [p 5 (.fa 0 (.t 2)),
 p 6 (.ld (.t 5)),
 p 7 (.fa 0 (.t 3)),
 p 8 (.ld (.t 7)),
 p 9 (.call 134 [(.t 6), (.t 8)]),
 p 10 (.not (.t 9))])
 (.cond (.t 10) (.seq (.rg [p 4 (.mv (.k (.bool false)))])
 .ret)
 .skip))
 (.seq (.seq (.rg [p 11 (.fa 1 (.t 2)),
 p 12 (.ld (.t 11)),
 p 13 (.fa 1 (.t 3)),
 p 14 (.ld (.t 13)),
 p 15 (.bin .neq (.t 12) (.t 14))])
 (.cond (.t 15) (.seq (.rg [p 4 (.mv (.k (.bool false)))])
 .ret)
 .skip))
 (.seq (.seq (.rg [p 16 (.fa 2 (.t 2)),
 p 17 (.ld (.t 16)),
 p 18 (.fa 2 (.t 3)),
 p 19 (.ld (.t 18)),
 p 20 (.bin .neq (.t 17) (.t 19))])
 (.cond (.t 20) (.seq (.rg [p 4 (.mv (.k (.bool false)))])
 .ret)
 .skip))
 (.seq (.seq (.rg [p 21 (.fa 3 (.t 2)),
 p 22 (.ld (.t 21)),
 p 23 (.fa 3 (.t 3)),
 p 24 (.ld (.t 23)),
 p 25 (.bin .neq (.t 22) (.t 24))])
 (.cond (.t 25) (.seq (.rg [p 4 (.mv (.k (.bool false)))])
 .ret)
 .skip))
 (.seq (.seq (.rg [p 26 (.fa 4 (.t 2)),
 p 27 (.ld (.t 26)),
 p 28 (.fa 4 (.t 3)),
 p 29 (.ld (.t 28)),
 p 30 (.bin .neq (.t 27) (.t 29))])
 (.cond (.t 30) (.seq (.rg [p 4 (.mv (.k (.bool false)))])
 .ret)
 .skip))
 (.seq (.seq (.rg [p 31 (.fa 5 (.t 2)),
 p 32 (.ld (.t 31)),
 p 33 (.fa 5 (.t 3)),
 p 34 (.ld (.t 33)),
 p 35 (.bin .neq (.t 32) (.t 34))])
 (.cond (.t 35) (.seq (.rg [p 4 (.mv (.k (.bool false)))])
 .ret)
 .skip))
 (.seq (.rg [p 4 (.mv (.k (.bool true)))])
 .ret)))))))),
 [.tmp 4]⟩
def F133 : Fnc := ⟨(.seq (.rg [p 2 (.box (.t 0)),
 p 3 (.box (.t 1)),
 p 4 (.mv (.k (.bool false)))])
 (.seq (.seq (.rg [p 5 (.fa 0 (.t 2)),
 p 6 (.ld (.t 5)),
 p 7 (.fa 0 (.t 3)),
 p 8 (.ld (.t 7)),
 p 9 (.bin .neq (.t 6) (.t 8))])
 (.cond (.t 9) (.seq (.rg [p 4 (.mv (.k (.bool false)))])
 .ret)
 .skip))
 (.seq (.seq (.rg [p 10 (.fa 1 (.t 2)),
 p 11 (.ld (.t 10)),
 p 12 (.fa 1 (.t 3)),
 p 13 (.ld (.t 12)),
 p 14 (.eqb true (.t 11) (.t 13))])
 (.cond (.t 14) (.seq (.rg [p 4 (.mv (.k (.bool false)))])
 .ret)
 .skip))
 (.seq (.seq (.rg [p 15 (.fa 2 (.t 2)),
 p 16 (.ld (.t 15)),
 p 17 (.fa 2 (.t 3)),
 p 18 (.ld (.t 17)),
 p 19 (.bin .neq (.t 16) (.t 18))])
 (.cond (.t 19) (.seq (.rg [p 4 (.mv (.k (.bool false)))])
 .ret)
 .skip))
 (.seq (.seq (.rg [p 20 (.fa 3 (.t 2)),
 p 21 (.ld (.t 20)),
 p 22 (.fa 3 (.t 3)),
 p 23 (.ld (.t 22)),
 p 24 (.bin .neq (.t 21) (.t 23))])
 (.cond (.t 24) (.seq (.rg [p 4 (.mv (.k (.bool false)))])
 .ret)
 .skip))
 (.seq (.rg [p 4 (.mv (.k (.bool true)))])
 .ret)))))),
 [.tmp 4]⟩
def F134 : Fnc := ⟨(.seq (.rg [p 4 (.mv (.k (.bool false)))])
 (.seq (.seq (.rg [p 6 (.mv (.t 0)),
 p 7 (.len (.t 6)),
 p 8 (.mv (.t 1)),
 p 9 (.len (.t 8)),
 p 10 (.bin .neq (.t 7) (.t 9))])
 (.cond (.t 10) (.seq (.rg [p 4 (.mv (.k (.bool false)))])
 .ret)
 .skip))
 (.seq (.seq (.rg [p 5 (.mv (.k (.int .i64 0)))])
 (.block 0 (.loop (.seq (.seq (.rg [p 11 (.mv (.t 5)),
 p 12 (.mv (.t 0)),
 p 13 (.len (.t 12)),
 p 14 (.bin .lss (.t 11) (.t 13))])
 (.cond (.t 14) .skip
 (.exit 0)))
 (.seq (.block 1 (.seq (.rg [⟨(some 17), .mv (.t 0), none, true⟩,
 ⟨(some 18), .mv (.t 5), none, true⟩,
 ⟨(some 19), .ia 4 (.t 17) (.t 18), none, true⟩,
 ⟨(some 20), .ldn 4 (.t 19), none, true⟩,
 ⟨(some 21), .mv (.t 1), none, true⟩,
 ⟨(some 22), .mv (.t 5), none, true⟩,
 ⟨(some 23), .ia 4 (.t 21) (.t 22), none, true⟩,
 ⟨(some 24), .ldn 4 (.t 23), none, true⟩,
 p 25 (.call 133 [(.t 20), (.t 24)]),
 p 26 (.not (.t 25))])
 (.cond (.t 26) (.seq (.rg [p 4 (.mv (.k (.bool false)))])
 .ret)
 .skip)))
 (.rg [p 15 (.mv (.t 5)),
 p 16 (.bin .add (.t 15) (.k (.int .i64 1))),
 p 5 (.mv (.t 16))]))))))
 (.seq (.rg [p 4 (.mv (.k (.bool true)))])
 .ret)))),
 [.tmp 4]⟩
def F145 : Fnc := ⟨(.seq (.rg [p 2 (.box (.t 0)),
 p 4 (.mv (.k (.int .i64 0)))])
 (.seq (.rg [p 5 (.fa 0 (.t 2)),
 p 6 (.ld (.t 5)),
 p 7 (.mv (.t 1)),
 p 8 (.call 149 [(.t 6), (.t 7)]),
 p 1 (.mv (.t 8))])
 (.seq (.seq (.rg [p 9 (.mv (.t 1)),
 p 10 (.bin .lss (.t 9) (.k (.int .i64 0)))])
 (.cond (.t 10) (.seq (.rg [p 4 (.mv (.k (.int .i64 (-1))))])
 .ret)
 .skip))
 (.seq (.rg [p 11 (.mv (.t 1)),
 p 4 (.mv (.t 11))])
 .ret)))),
 [.tmp 4]⟩
def F149 : Fnc := ⟨(.seq (.rg [p 4 (.mv (.k (.int .i64 0)))])
 (.seq (.rg [p 5 (.mv (.t 1)),
 p 6 (.mv (.t 0)),
 p 7 (.len (.t 6)),
 p 8 (.bin .sub (.t 5) (.t 7)),
 p 1 (.mv (.t 8))])
 (.seq (.seq (.rg [p 9 (.mv (.t 1)),
 p 10 (.bin .lss (.t 9) (.k (.int .i64 0)))])
 (.cond (.t 10) (.seq (.rg [p 4 (.mv (.k (.int .i64 (-1))))])
 .ret)
 .skip))
 (.seq (.rg [p 11 (.mv (.t 1)),
 p 4 (.mv (.t 11))])
 .ret)))),
 [.tmp 4]⟩
def F159 : Fnc := ⟨(.seq (.rg [p 1 (.box (.t 0)),
 p 2 (.new [.slice none 0 0, .int .i64 0, .int .i64 0, .int .i64 0, .int .i64 0, .int .i64 0])])
 (.seq (.rg [p 3 (.new [.slice none 0 0, .int .i64 0, .int .i64 0, .int .i64 0, .int .i64 0, .int .i64 0])])
 (.seq (.rg [p 4 (.fa 0 (.t 1)),
 p 5 (.ld (.t 4)),
 p 6 (.call 165 [(.t 5)]),
 p 7 (.fa 0 (.t 3)),
 ⟨none, .st (.t 7) (.t 6), none, false⟩])
 (.seq (.rg [p 8 (.fa 1 (.t 1)),
 p 9 (.ld (.t 8)),
 p 10 (.fa 1 (.t 3)),
 ⟨none, .st (.t 10) (.t 9), none, false⟩])
 (.seq (.rg [p 11 (.fa 2 (.t 1)),
 p 12 (.ld (.t 11)),
 p 13 (.fa 2 (.t 3)),
 ⟨none, .st (.t 13) (.t 12), none, false⟩])
 (.seq (.rg [p 14 (.fa 3 (.t 1)),
 p 15 (.ld (.t 14)),
 p 16 (.fa 3 (.t 3)),
 ⟨none, .st (.t 16) (.t 15), none, false⟩])
 (.seq (.rg [p 17 (.fa 4 (.t 1)),
 p 18 (.ld (.t 17)),
 p 19 (.fa 4 (.t 3)),
 ⟨none, .st (.t 19) (.t 18), none, false⟩])
 (.seq (.rg [p 20 (.fa 5 (.t 1)),
 p 21 (.ld (.t 20)),
 p 22 (.fa 5 (.t 3)),
 ⟨none, .st (.t 22) (.t 21), none, false⟩])
 (.seq (.rg [p 23 (.ldn 6 (.t 3)),
 ⟨none, .stn 6 (.t 2) (.t 23), none, false⟩])
 .ret))))))))),
 [.celln 2 6]⟩
def F164 : Fnc := ⟨(.seq (.rg [p 1 (.box (.t 0)),
 p 2 (.new [.int .i64 0, .bool false, .int .i64 0, .int .i64 0])])
 (.seq (.rg [p 3 (.new [.int .i64 0, .bool false, .int .i64 0, .int .i64 0])])
 (.seq (.rg [p 4 (.fa 0 (.t 1)),
 p 5 (.ld (.t 4)),
 p 6 (.fa 0 (.t 3)),
 ⟨none, .st (.t 6) (.t 5), none, false⟩])
 (.seq (.rg [p 7 (.fa 1 (.t 1)),
 p 8 (.ld (.t 7)),
 p 9 (.fa 1 (.t 3)),
 ⟨none, .st (.t 9) (.t 8), none, false⟩])
 (.seq (.rg [p 10 (.fa 2 (.t 1)),
 p 11 (.ld (.t 10)),
 p 12 (.fa 2 (.t 3)),
 ⟨none, .st (.t 12) (.t 11), none, false⟩])
 (.seq (.rg [p 13 (.fa 3 (.t 1)),
 p 14 (.ld (.t 13)),
 p 15 (.fa 3 (.t 3)),
 ⟨none, .st (.t 15) (.t 14), none, false⟩])
 (.seq (.rg [p 16 (.ldn 4 (.t 3)),
 ⟨none, .stn 4 (.t 2) (.t 16), none, false⟩])
 .ret))))))),
 [.celln 2 4]⟩
def F165 : Fnc := ⟨(.seq (.rg [p 2 (.mv (.k (.slice none 0 0)))])
 (.seq (.rg [p 5 (.mv (.t 0)),
 p 6 (.len (.t 5)),
 p 7 (.mk 4 32 [.int .i64 0, .bool false, .int .i64 0, .int .i64 0] (.t 6) (.t 6)),
 p 3 (.mv (.t 7))])
 (.seq (.seq (.rg [p 4 (.mv (.k (.int .i64 0)))])
 (.block 0 (.loop (.seq (.seq (.rg [p 8 (.mv (.t 4)),
 p 9 (.mv (.t 0)),
 p 10 (.len (.t 9)),
 p 11 (.bin .lss (.t 8) (.t 10))])
 (.cond (.t 11) .skip
 (.exit 0)))
 (.seq (.block 1 (.rg [p 14 (.mv (.t 3)),
 p 15 (.mv (.t 4)),
 p 16 (.mv (.t 0)),
 p 17 (.mv (.t 4)),
 p 18 (.ia 4 (.t 16) (.t 17)),
 p 19 (.ldn 4 (.t 18)),
 p 20 (.call 164 [(.t 19)]),
 p 21 (.ia 4 (.t 14) (.t 15)),
 ⟨none, .stn 4 (.t 21) (.t 20), none, false⟩]))
 (.rg [p 12 (.mv (.t 4)),
 p 13 (.bin .add (.t 12) (.k (.int .i64 1))),
 p 4 (.mv (.t 13))]))))))
 (.seq (.rg [p 22 (.mv (.t 3)),
 p 2 (.mv (.t 22))])
 .ret)))),
 [.tmp 2]⟩
def F184 : Fnc := ⟨(.seq (.rg [p 1 (.box (.t 0)),
 p 2 (.mv (.k (.bool false)))])
 (.seq (.rg [p 3 (.mv (.k (.int .i64 0)))])
 (.seq (.seq (.rg [p 4 (.mv (.k (.int .i64 0)))])
 (.block 0 (.loop (.seq (.seq (.rg [p 7 (.mv (.t 4)),
 p 8 (.fa 0 (.t 1)),
 p 9 (.ld (.t 8)),
 p 10 (.len (.t 9)),
 p 11 (.bin .lss (.t 7) (.t 10))])
 (.cond (.t 11) .skip
 (.exit 0)))
 (.seq (.block 1 (.seq (.rg [p 14 (.fa 0 (.t 1)),
 p 15 (.ld (.t 14)),
 p 16 (.mv (.t 4)),
 p 17 (.ia 4 (.t 15) (.t 16)),
 p 18 (.fa 1 (.t 17)),
 p 19 (.ld (.t 18))])
 (.cond (.t 19) (.rg [p 20 (.mv (.t 3)),
 p 21 (.bin .add (.t 20) (.k (.int .i64 1))),
 p 3 (.mv (.t 21))])
 .skip)))
 (.rg [p 12 (.mv (.t 4)),
 p 13 (.bin .add (.t 12) (.k (.int .i64 1))),
 p 4 (.mv (.t 13))]))))))
 (.seq (.seq (.rg [p 5 (.mv (.k (.int .i64 0)))])
 (.block 2 (.loop (.seq (.seq (.rg [p 22 (.mv (.t 5)),
 p 23 (.fa 0 (.t 1)),
 p 24 (.ld (.t 23)),
 p 25 (.len (.t 24)),
 p 26 (.bin .lss (.t 22) (.t 25))])
 (.cond (.t 26) .skip
 (.exit 2)))
 (.seq (.block 3 (.seq (.rg [p 29 (.fa 0 (.t 1)),
 p 30 (.ld (.t 29)),
 p 31 (.mv (.t 5)),
 p 32 (.ia 4 (.t 30) (.t 31)),
 p 33 (.ldn 4 (.t 32)),
 p 6 (.new [.int .i64 0, .bool false, .int .i64 0, .int .i64 0]),
 ⟨none, .stn 4 (.t 6) (.t 33), none, false⟩])
 (.seq (.rg [p 34 (.fa 0 (.t 6)),
 p 35 (.ld (.t 34)),
 p 36 (.call 230 [(.t 35), (.k (.int .i64 1)), (.k (.int .i64 4))]),
 p 37 (.not (.t 36)),
 p 38 (.mv (.t 37)),
 ⟨(some 39), .fa 1 (.t 6), (some (38, false)), false⟩,
 ⟨(some 40), .ld (.t 39), (some (38, false)), false⟩,
 ⟨(some 41), .not (.t 40), (some (38, false)), false⟩,
 ⟨(some 42), .mv (.t 41), (some (38, false)), false⟩,
 ⟨(some 43), .fa 2 (.t 6), (some (42, true)), false⟩,
 ⟨(some 44), .ld (.t 43), (some (42, true)), false⟩,
 ⟨(some 45), .bin .neq (.t 44) (.k (.int .i64 0)), (some (42, true)), false⟩,
 ⟨(some 46), .mv (.t 45), (some (42, true)), false⟩,
 ⟨(some 47), .fa 3 (.t 6), (some (46, false)), false⟩,
 ⟨(some 48), .ld (.t 47), (some (46, false)), false⟩,
 ⟨(some 49), .bin .neq (.t 48) (.k (.int .i64 0)), (some (46, false)), false⟩,
 ⟨(some 50), .pick (.t 46) (.k (.bool true)) (.t 49), (some (42, true)), false⟩,
 ⟨(some 51), .pick (.t 42) (.t 50) (.k (.bool false)), (some (38, false)), false⟩,
 p 52 (.pick (.t 38) (.k (.bool true)) (.t 51)),
 p 53 (.mv (.t 52)),
 ⟨(some 54), .fa 1 (.t 6), (some (53, false)), false⟩,
 ⟨(some 55), .ld (.t 54), (some (53, false)), false⟩,
 ⟨(some 56), .mv (.t 55), (some (53, false)), false⟩,
 ⟨(some 57), .fa 2 (.t 6), (some (56, true)), true⟩,
 ⟨(some 58), .ld (.t 57), (some (56, true)), true⟩,
 ⟨(some 59), .mv (.t 3), (some (56, true)), true⟩,
 ⟨(some 60), .bin .mul (.k (.int .i64 2)) (.t 59), (some (56, true)), true⟩,
 ⟨(some 61), .ldn 6 (.t 1), (some (56, true)), true⟩,
 ⟨(some 62), .call 214 [(.t 61)], (some (56, true)), true⟩,
 ⟨(some 63), .bin .mul (.t 60) (.t 62), (some (56, true)), true⟩,
 ⟨(some 64), .call 230 [(.t 58), (.t 63), (.k (.int .i64 1000))], (some (56, true)), false⟩,
 ⟨(some 65), .not (.t 64), (some (56, true)), false⟩,
 ⟨(some 66), .mv (.t 65), (some (56, true)), false⟩,
 ⟨(some 67), .fa 3 (.t 6), (some (66, false)), false⟩,
 ⟨(some 68), .ld (.t 67), (some (66, false)), false⟩,
 ⟨(some 69), .call 230 [(.t 68), (.k (.int .i64 1)), (.k (.int .i64 8))], (some (66, false)), false⟩,
 ⟨(some 70), .not (.t 69), (some (66, false)), false⟩,
 ⟨(some 71), .pick (.t 66) (.k (.bool true)) (.t 70), (some (56, true)), false⟩,
 ⟨(some 72), .pick (.t 56) (.t 71) (.k (.bool false)), (some (53, false)), false⟩,
 p 73 (.pick (.t 53) (.k (.bool true)) (.t 72))])
 (.cond (.t 73) (.seq (.rg [p 2 (.mv (.k (.bool false)))])
 .ret)
 .skip))))
 (.rg [p 27 (.mv (.t 5)),
 p 28 (.bin .add (.t 27) (.k (.int .i64 1))),
 p 5 (.mv (.t 28))]))))))
 (.seq (.rg [p 74 (.fa 0 (.t 1)),
 p 75 (.ld (.t 74)),
 p 76 (.len (.t 75)),
 p 77 (.call 230 [(.t 76), (.k (.int .i64 1)), (.k (.int .i64 4))]),
 p 78 (.mv (.t 77)),
 ⟨(some 79), .ldn 6 (.t 1), (some (78, true)), false⟩,
 ⟨(some 80), .call 245 [(.t 79)], (some (78, true)), false⟩,
 p 81 (.pick (.t 78) (.t 80) (.k (.bool false))),
 p 2 (.mv (.t 81))])
 .ret))))),
 [.tmp 2]⟩
def F185 : Fnc := ⟨(.seq (.rg [p 1 (.box (.t 0)),
 p 2 (.mv (.k (.string ⟨#[]⟩)))])
 (.seq (.seq (.rg [p 6 (.ldn 6 (.t 1)),
 p 7 (.call 184 [(.t 6)]),
 p 8 (.not (.t 7))])
 (.cond (.t 8) (.seq (.rg [p 2 (.mv (.k (.string ⟨#[]⟩)))])
 .ret)
 .skip))
 (.seq (.rg [⟨(some 9), .fa 1 (.t 1), none, true⟩,
 ⟨(some 10), .ld (.t 9), none, true⟩,
 ⟨(some 11), .call 187 [(.t 10)], none, true⟩,
 ⟨(some 12), .bin .add (.t 11) (.k (.string ⟨#[32]⟩)), none, true⟩,
 ⟨(some 13), .fa 2 (.t 1), none, true⟩,
 ⟨(some 14), .ld (.t 13), none, true⟩,
 ⟨(some 15), .call 187 [(.t 14)], none, true⟩,
 ⟨(some 16), .bin .add (.t 12) (.t 15), none, true⟩,
 ⟨(some 17), .bin .add (.t 16) (.k (.string ⟨#[32]⟩)), none, true⟩,
 ⟨(some 18), .fa 3 (.t 1), none, true⟩,
 ⟨(some 19), .ld (.t 18), none, true⟩,
 ⟨(some 20), .call 187 [(.t 19)], none, true⟩,
 ⟨(some 21), .bin .add (.t 17) (.t 20), none, true⟩,
 ⟨(some 22), .bin .add (.t 21) (.k (.string ⟨#[32]⟩)), none, true⟩,
 ⟨(some 23), .fa 4 (.t 1), none, true⟩,
 ⟨(some 24), .ld (.t 23), none, true⟩,
 ⟨(some 25), .call 187 [(.t 24)], none, true⟩,
 ⟨(some 26), .bin .add (.t 22) (.t 25), none, true⟩,
 ⟨(some 27), .bin .add (.t 26) (.k (.string ⟨#[32]⟩)), none, true⟩,
 ⟨(some 28), .fa 5 (.t 1), none, true⟩,
 ⟨(some 29), .ld (.t 28), none, true⟩,
 ⟨(some 30), .call 187 [(.t 29)], none, true⟩,
 p 31 (.bin .add (.t 27) (.t 30)),
 p 3 (.mv (.t 31))])
 (.seq (.seq (.rg [p 4 (.mv (.k (.int .i64 0)))])
 (.block 0 (.loop (.seq (.seq (.rg [p 32 (.mv (.t 4)),
 p 33 (.fa 0 (.t 1)),
 p 34 (.ld (.t 33)),
 p 35 (.len (.t 34)),
 p 36 (.bin .lss (.t 32) (.t 35))])
 (.cond (.t 36) .skip
 (.exit 0)))
 (.seq (.block 1 (.seq (.rg [p 39 (.fa 0 (.t 1)),
 p 40 (.ld (.t 39)),
 p 41 (.mv (.t 4)),
 p 42 (.ia 4 (.t 40) (.t 41)),
 p 43 (.ldn 4 (.t 42)),
 p 5 (.new [.int .i64 0, .bool false, .int .i64 0, .int .i64 0]),
 ⟨none, .stn 4 (.t 5) (.t 43), none, false⟩])
 (.seq (.rg [p 44 (.mv (.t 3)),
 p 45 (.bin .add (.t 44) (.k (.string ⟨#[32]⟩))),
 p 46 (.fa 0 (.t 5)),
 p 47 (.ld (.t 46)),
 p 48 (.call 187 [(.t 47)]),
 p 49 (.bin .add (.t 45) (.t 48)),
 p 3 (.mv (.t 49))])
 (.seq (.rg [p 50 (.fa 1 (.t 5)),
 p 51 (.ld (.t 50))])
 (.cond (.t 51) (.rg [⟨(some 52), .mv (.t 3), none, true⟩,
 ⟨(some 53), .bin .add (.t 52) (.k (.string ⟨#[58]⟩)), none, true⟩,
 ⟨(some 54), .fa 2 (.t 5), none, true⟩,
 ⟨(some 55), .ld (.t 54), none, true⟩,
 ⟨(some 56), .call 187 [(.t 55)], none, true⟩,
 ⟨(some 57), .bin .add (.t 53) (.t 56), none, true⟩,
 ⟨(some 58), .bin .add (.t 57) (.k (.string ⟨#[58]⟩)), none, true⟩,
 ⟨(some 59), .fa 3 (.t 5), none, true⟩,
 ⟨(some 60), .ld (.t 59), none, true⟩,
 ⟨(some 61), .call 187 [(.t 60)], none, true⟩,
 p 62 (.bin .add (.t 58) (.t 61)),
 p 3 (.mv (.t 62))])
 .skip)))))
 (.rg [p 37 (.mv (.t 4)),
 p 38 (.bin .add (.t 37) (.k (.int .i64 1))),
 p 4 (.mv (.t 38))]))))))
 (.seq (.rg [p 63 (.mv (.t 3)),
 p 2 (.mv (.t 63))])
 .ret))))),
 [.tmp 2]⟩
def F186 : Fnc := ⟨(.seq (.rg [p 1 (.box (.t 0)),
 p 2 (.mv (.k (.int .i64 0)))])
 (.seq (.seq (.rg [p 3 (.fa 3 (.t 1)),
 p 4 (.ld (.t 3)),
 p 5 (.call 230 [(.t 4), (.k (.int .i64 0)), (.k (.int .i64 3))]),
 p 6 (.not (.t 5)),
 p 7 (.mv (.t 6)),
 ⟨(some 8), .fa 2 (.t 1), (some (7, false)), false⟩,
 ⟨(some 9), .ld (.t 8), (some (7, false)), false⟩,
 ⟨(some 10), .call 230 [(.t 9), (.k (.int .i64 0)), (.k (.int .i64 3))], (some (7, false)), false⟩,
 ⟨(some 11), .not (.t 10), (some (7, false)), false⟩,
 p 12 (.pick (.t 7) (.k (.bool true)) (.t 11))])
 (.cond (.t 12) (.seq (.rg [p 2 (.mv (.k (.int .i64 0)))])
 .ret)
 .skip))
 (.seq (.rg [p 13 (.fa 3 (.t 1)),
 p 14 (.ld (.t 13)),
 p 15 (.bin .add (.t 14) (.k (.int .i64 2))),
 p 16 (.fa 2 (.t 1)),
 p 17 (.ld (.t 16)),
 p 18 (.bin .add (.t 17) (.k (.int .i64 6))),
 p 19 (.bin .mul (.t 15) (.t 18)),
 p 2 (.mv (.t 19))])
 .ret))),
 [.tmp 2]⟩
def F187 : Fnc := ⟨(.seq (.rg [p 2 (.mv (.k (.string ⟨#[]⟩)))])
 (.seq (.seq (.rg [p 6 (.mv (.t 0)),
 p 7 (.bin .eql (.t 6) (.k (.int .i64 0)))])
 (.cond (.t 7) (.seq (.rg [p 2 (.mv (.k (.string ⟨#[48]⟩)))])
 .ret)
 .skip))
 (.seq (.rg [p 3 (.mv (.k (.string ⟨#[]⟩)))])
 (.seq (.rg [p 8 (.mv (.t 0)),
 p 9 (.bin .lss (.t 8) (.k (.int .i64 0))),
 p 4 (.mv (.t 9))])
 (.seq (.block 0 (.loop (.seq (.seq (.rg [p 10 (.mv (.t 0)),
 p 11 (.bin .neq (.t 10) (.k (.int .i64 0)))])
 (.cond (.t 11) .skip
 (.exit 0)))
 (.block 1 (.seq (.rg [p 12 (.mv (.t 0)),
 p 13 (.bin .rem (.t 12) (.k (.int .i64 10))),
 p 5 (.mv (.t 13))])
 (.seq (.seq (.rg [p 14 (.mv (.t 5)),
 p 15 (.bin .lss (.t 14) (.k (.int .i64 0)))])
 (.cond (.t 15) (.rg [p 16 (.mv (.t 5)),
 p 17 (.neg (.t 16)),
 p 5 (.mv (.t 17))])
 .skip))
 (.seq (.rg [p 18 (.mv (.t 5)),
 p 19 (.bin .add (.k (.int .i64 48)) (.t 18)),
 p 20 (.cvi .u8 (.t 19)),
 p 21 (.bs 1 1 [.int .u8 0] [(0, (.t 20))]),
 p 22 (.cvbs (.t 21)),
 p 23 (.mv (.t 3)),
 p 24 (.bin .add (.t 22) (.t 23)),
 p 3 (.mv (.t 24))])
 (.rg [p 25 (.mv (.t 0)),
 p 26 (.bin .quo (.t 25) (.k (.int .i64 10))),
 p 0 (.mv (.t 26))]))))))))
 (.seq (.seq (.rg [p 27 (.mv (.t 4))])
 (.cond (.t 27) (.seq (.rg [p 28 (.mv (.t 3)),
 p 29 (.bin .add (.k (.string ⟨#[45]⟩)) (.t 28)),
 p 2 (.mv (.t 29))])
 .ret)
 .skip))
 (.seq (.rg [p 30 (.mv (.t 3)),
 p 2 (.mv (.t 30))])
 .ret))))))),
 [.tmp 2]⟩
def F214 : Fnc := ⟨(.seq (.rg [p 1 (.box (.t 0)),
 p 2 (.mv (.k (.int .i64 0)))])
 (.seq (.seq (.rg [p 3 (.ldn 6 (.t 1)),
 p 4 (.call 186 [(.t 3)]),
 p 5 (.bin .eql (.t 4) (.k (.int .i64 0))),
 p 6 (.mv (.t 5)),
 ⟨(some 7), .fa 5 (.t 1), (some (6, false)), false⟩,
 ⟨(some 8), .ld (.t 7), (some (6, false)), false⟩,
 ⟨(some 9), .call 230 [(.t 8), (.k (.int .i64 1)), (.k (.int .i64 40))], (some (6, false)), false⟩,
 ⟨(some 10), .not (.t 9), (some (6, false)), false⟩,
 p 11 (.pick (.t 6) (.k (.bool true)) (.t 10))])
 (.cond (.t 11) (.seq (.rg [p 2 (.mv (.k (.int .i64 0)))])
 .ret)
 .skip))
 (.seq (.rg [⟨(some 12), .ldn 6 (.t 1), none, true⟩,
 ⟨(some 13), .call 186 [(.t 12)], none, true⟩,
 ⟨(some 14), .bin .mul (.k (.int .i64 2)) (.t 13), none, true⟩,
 ⟨(some 15), .fa 5 (.t 1), none, true⟩,
 ⟨(some 16), .ld (.t 15), none, true⟩,
 p 17 (.bin .add (.t 14) (.t 16)),
 p 2 (.mv (.t 17))])
 .ret))),
 [.tmp 2]⟩
def F230 : Fnc := ⟨(.seq (.rg [p 6 (.mv (.k (.bool false)))])
 (.seq (.rg [p 7 (.mv (.t 0)),
 p 8 (.mv (.t 1)),
 p 9 (.bin .geq (.t 7) (.t 8)),
 p 10 (.mv (.t 9)),
 ⟨(some 11), .mv (.t 0), (some (10, true)), false⟩,
 ⟨(some 12), .mv (.t 2), (some (10, true)), false⟩,
 ⟨(some 13), .bin .leq (.t 11) (.t 12), (some (10, true)), false⟩,
 p 14 (.pick (.t 10) (.t 13) (.k (.bool false))),
 p 6 (.mv (.t 14))])
 .ret)),
 [.tmp 6]⟩
def F245 : Fnc := ⟨(.seq (.rg [p 1 (.box (.t 0)),
 p 2 (.mv (.k (.bool false)))])
 (.seq (.rg [p 3 (.fa 1 (.t 1)),
 p 4 (.ld (.t 3)),
 p 5 (.call 230 [(.t 4), (.k (.int .i64 1)), (.k (.int .i64 4))]),
 p 6 (.mv (.t 5)),
 ⟨(some 7), .ldn 6 (.t 1), (some (6, true)), false⟩,
 ⟨(some 8), .call 186 [(.t 7)], (some (6, true)), false⟩,
 ⟨(some 9), .bin .gtr (.t 8) (.k (.int .i64 0)), (some (6, true)), false⟩,
 p 10 (.pick (.t 6) (.t 9) (.k (.bool false))),
 p 11 (.mv (.t 10)),
 ⟨(some 12), .fa 4 (.t 1), (some (11, true)), false⟩,
 ⟨(some 13), .ld (.t 12), (some (11, true)), false⟩,
 ⟨(some 14), .call 230 [(.t 13), (.k (.int .i64 1)), (.k (.int .i64 12))], (some (11, true)), false⟩,
 p 15 (.pick (.t 11) (.t 14) (.k (.bool false))),
 p 16 (.mv (.t 15)),
 ⟨(some 17), .fa 5 (.t 1), (some (16, true)), false⟩,
 ⟨(some 18), .ld (.t 17), (some (16, true)), false⟩,
 ⟨(some 19), .call 230 [(.t 18), (.k (.int .i64 1)), (.k (.int .i64 40))], (some (16, true)), false⟩,
 p 20 (.pick (.t 16) (.t 19) (.k (.bool false))),
 p 2 (.mv (.t 20))])
 .ret)),
 [.tmp 2]⟩
def F258 : Fnc := ⟨(.seq (.rg [p 4 (.mv (.k (.bool false)))])
 (.seq (.rg [p 5 (.mv (.t 0)),
 p 6 (.mv (.t 1)),
 p 7 (.call 269 [(.t 5), (.t 6)]),
 p 8 (.bin .geq (.t 7) (.k (.int .i64 0))),
 p 4 (.mv (.t 8))])
 .ret)),
 [.tmp 4]⟩
def F269 : Fnc := ⟨(.seq (.rg [p 4 (.mv (.k (.int .i64 0)))])
 (.seq (.seq (.rg [p 6 (.mv (.t 0)),
 p 7 (.len (.t 6)),
 p 8 (.mv (.k (.int .i64 0)))])
 (.block 0 (.loop (.seq (.rg [p 9 (.bin .lss (.t 8) (.t 7))])
 (.seq (.cond (.t 9) .skip
 (.exit 0))
 (.seq (.block 1 (.seq (.rg [p 10 (.mv (.t 8)),
 p 5 (.mv (.t 10))])
 (.seq (.rg [p 11 (.mv (.t 1)),
 p 12 (.mv (.t 0)),
 p 13 (.mv (.t 5)),
 p 14 (.ia 4 (.t 12) (.t 13)),
 p 15 (.ldn 4 (.t 14)),
 p 16 (.calli (.t 11) [(.t 15)])])
 (.cond (.t 16) (.seq (.rg [p 17 (.mv (.t 5)),
 p 4 (.mv (.t 17))])
 .ret)
 .skip))))
 (.rg [p 18 (.bin .add (.t 8) (.k (.int .i64 1))),
 p 8 (.mv (.t 18))])))))))
 (.seq (.rg [p 4 (.mv (.k (.int .i64 (-1))))])
 .ret))),
 [.tmp 4]⟩
end Go.Proofs.YtoppcdecolponaaDoor.AL
namespace Go.Proofs.YtoppcdecolponaaDoor.AL
open Go
def prgT : List (Nat × Fnc) := [(34, F34),
 (35, F35),
 (36, F36),
 (37, F37),
 (38, F38),
 (50, F50),
 (74, F74),
 (84, F84),
 (101, F101),
 (103, F103),
 (108, F108),
 (128, F128),
 (133, F133),
 (134, F134),
 (145, F145),
 (149, F149),
 (159, F159),
 (164, F164),
 (165, F165),
 (184, F184),
 (185, F185),
 (186, F186),
 (187, F187),
 (214, F214),
 (230, F230),
 (245, F245),
 (258, F258),
 (269, F269)]
def prg : Prg := fun f => prgT.lookup f
theorem g34 : prg 34 = some F34 := by kernel_rfl
theorem g35 : prg 35 = some F35 := by kernel_rfl
theorem g36 : prg 36 = some F36 := by kernel_rfl
theorem g37 : prg 37 = some F37 := by kernel_rfl
theorem g38 : prg 38 = some F38 := by kernel_rfl
theorem g50 : prg 50 = some F50 := by kernel_rfl
theorem g74 : prg 74 = some F74 := by kernel_rfl
theorem g84 : prg 84 = some F84 := by kernel_rfl
theorem g101 : prg 101 = some F101 := by kernel_rfl
theorem g103 : prg 103 = some F103 := by kernel_rfl
theorem g108 : prg 108 = some F108 := by kernel_rfl
theorem g128 : prg 128 = some F128 := by kernel_rfl
theorem g133 : prg 133 = some F133 := by kernel_rfl
theorem g134 : prg 134 = some F134 := by kernel_rfl
theorem g145 : prg 145 = some F145 := by kernel_rfl
theorem g149 : prg 149 = some F149 := by kernel_rfl
theorem g159 : prg 159 = some F159 := by kernel_rfl
theorem g164 : prg 164 = some F164 := by kernel_rfl
theorem g165 : prg 165 = some F165 := by kernel_rfl
theorem g184 : prg 184 = some F184 := by kernel_rfl
theorem g185 : prg 185 = some F185 := by kernel_rfl
theorem g186 : prg 186 = some F186 := by kernel_rfl
theorem g187 : prg 187 = some F187 := by kernel_rfl
theorem g214 : prg 214 = some F214 := by kernel_rfl
theorem g230 : prg 230 = some F230 := by kernel_rfl
theorem g245 : prg 245 = some F245 := by kernel_rfl
theorem g258 : prg 258 = some F258 := by kernel_rfl
theorem g269 : prg 269 = some F269 := by kernel_rfl
theorem prg_ok : prgT.all (fun p => p.2.body.ok) = true := by kernel_rfl
end Go.Proofs.YtoppcdecolponaaDoor.AL
