/- Code over plain data: steps that call. -/
import Derived.Test.YtdialnejieoelaaV4
namespace Go.Proofs.Ytdialnejieoelaa.AL
open Go
set_option linter.unusedVariables false
set_option linter.unusedSimpArgs false
section
variable {N : Nat} {G : Prg} {tl : Tl} {L : List LB}
theorem call_after {N : Nat} {c : Cx N} {Z M m n} (hM : StM c Z M L m n) {m1 : Mem} {n1 : Nat} (hn : n ≤ n1) (hf : Fresh m1 n1) (hs : sub m m1) (hd : ∀ b, b < n → m b = none → m1 b = none) {M1 : Mem} (hs1 : sub M1 m1) (hp : ∀ b x, M1 b = some x → M b = some x ∨ n ≤ b) :
 ∃ M2, sub M1 M2 ∧ ExtV Z M Z M2 ∧ StM c Z M2 L m1 n1 := by
 refine ⟨fun b => if (M b).isSome then M b else M1 b, fun b x hb => ?_, ?_⟩
 · simp only
   split
   · rename_i h
     obtain ⟨y, hy⟩ := Option.isSome_iff_exists.1 h
     have h1 := hs b y (hM.hM b y hy).1
     have h2 := hs1 b x hb
     rw [h1] at h2
     rw [hy, h2]
   · exact hb
 · have hsub : sub M (fun b => if (M b).isSome then M b else M1 b) := fun b x hb => by
    show (if (M b).isSome then M b else M1 b) = some x
    rw [hb]; rfl
   have hE : ExtV Z M Z (fun b => if (M b).isSome then M b else M1 b) := ⟨hsub, fun b p h => ⟨p, h, grow.refl p⟩⟩
   refine ⟨hE, ⟨hM.hbs, by have := hM.hn; omega, hf, hM.hL, fun b x hb => ?_, sub_trans hM.h0 hs, hM.f0, sub_trans hM.hma hsub, hM.hbr, fun i a lb hi => ?_, hM.nl, hM.inj, hM.lo⟩⟩
   · have hb : (if (M b).isSome then M b else M1 b) = some x := hb
     split at hb
     · obtain ⟨h1, h2, h3⟩ := hM.hM b x hb
       exact ⟨hs _ _ h1, h2, h3⟩
     · rename_i hno
       rcases hp b x hb with h | h
       · rw [h] at hno; exact absurd rfl hno
       · refine ⟨hs1 _ _ hb, .inr (by have := hM.hn; omega), fun i lb e => ?_⟩
         have := (hM.cell _ _ _ e).2.1
         omega
   · obtain ⟨g1, g2, g3⟩ := hM.cell i a lb hi
     refine ⟨g1, by omega, g3.mono hE ?_⟩
     cases e : m a with
     | none => exact hd a g2 e
     | some x => exact hs _ _ e
theorem call_plain {f us post q} {args : List Value} {N : Nat} {c : Cx N} {Z M m n} (hM : StM c Z M L m n) (ha : Pt (RL M Z) us args) (hz : us.all (V.fzV 6) = true) (hc : CV G f us post) :
 ∃ v m1 n1 M2 u, Big G (if q = true then n else c.bs) (.call f args) m n (.ret v) m1 n1 ∧ ExtV Z M Z M2 ∧ StM c Z M2 L m1 n1 ∧ RL M2 Z u v ∧ post u := by
 have hp : Pt (RF M) us args := ⟨ha.1, fun i x y h1 h2 => V.fzV_rel (ha.2 i x y h1 h2) (List.all_eq_true.1 hz x (List.mem_of_getElem? h1))⟩
 have hbs : (if q = true then n else c.bs) ≤ n := by
  have h1 := hM.hbs; have h2 := hM.hn
  split <;> omega
 obtain ⟨v, m1, n1, hb, u, M1, g1, g2, g3, g4, g5⟩ := hc.run args _ m n M hM.fresh hbs hM.subM hp
 obtain ⟨hn, hf⟩ := hb.fresh hM.fresh
 obtain ⟨M2, k1, k2, k3⟩ := call_after hM hn hf g3 hb.dom g4 g5
 exact ⟨v, m1, n1, M2, u, hb, k2, k3, .fz (g1.mono k1), g2⟩
theorem call_local {f us us' p post q} {args : List Value} {N : Nat} {c : Cx N} {Z M m n} (hM : StM c Z M L m n) (ha : Pt (RL M Z) us args) (hz : frs (fr L 6) us = some (us', p)) (ho : ∀ e, e ∈ p → e.1 = e.2) (hc : CV G f us' post) (hfl : ∀ u, post u → V.flat 6 u = true) :
 ∃ v m1 n1 M2 u, Big G (if q = true then n else c.bs) (.call f args) m n (.ret v) m1 n1 ∧ ExtV Z M Z M2 ∧ StM c Z M2 L m1 n1 ∧ RL M2 Z u v ∧ post u := by
 have hp : Pt (RF m) us' args := frs_rel (R := RL M Z) (fr_rel hM hM.subM (fun _ _ _ _ => rfl) 6) hz ho ha
 have hbs : (if q = true then n else c.bs) ≤ n := by
  have h1 := hM.hbs; have h2 := hM.hn
  split <;> omega
 obtain ⟨v, m1, n1, hb, u, M1, g1, g2, g3, g4, g5⟩ := hc.run args _ m n m hM.fresh hbs (sub_refl _) hp
 obtain ⟨hn, hf⟩ := hb.fresh hM.fresh
 obtain ⟨M2, k1, k2, k3⟩ := call_after (M1 := fun _ => none) hM hn hf g3 hb.dom (fun b x h => by cases h) (fun b x h => by cases h)
 exact ⟨v, m1, n1, M2, u, hb, k2, k3, .fz (V.flat_rel g1 (hfl u g2)), g2⟩
variable {K : Tl → List LB → Prop} {l : List IOp} {q : Bool} {d : Nat}
theorem call_step {o : O} {f : Nat} {post : V → Prop} (k : ∀ u, post u → VO N G l K ((d, u) :: tl) L)
 (h : ∀ (c : Cx N) Z M tm m n, StM c Z M L m n → Slots M Z tl tm → ∃ args, o.callee tm = some (f, args) ∧ ∃ v m1 n1 M2 u, Big G (if q = true then n else c.bs) (.call f args) m n (.ret v) m1 n1 ∧ ExtV Z M Z M2 ∧ StM c Z M2 L m1 n1 ∧ RL M2 Z u v ∧ post u) :
 VO N G (⟨some d, o, none, q⟩ :: l) K tl L := by
 intro c Z M tm m n hM hS
 obtain ⟨args, hc, v, m1, n1, M2, u, hb, he, hM2, hr, hp⟩ := h c Z M tm m n hM hS
 obtain ⟨tm2, m2, n2, Z2, M3, tl2, L2, hb2, he2, r⟩ := k u hp c Z M2 (upd tm d v) m1 n1 hM2 ((hS.mono he).put hr)
 exact ⟨tm2, m2, n2, Z2, M3, tl2, L2, op_run (o := ⟨some d, o, none, q⟩) rfl (.inr ⟨f, args, hc, hb⟩) hb2, he.trans he2, r⟩
theorem s_callP {f es us} {post : V → Prop} (ha : evEs tl es = some us) (hz : us.all (V.fzV 6) = true) (hc : CV G f us post) (k : ∀ u, post u → VO N G l K ((d, u) :: tl) L) : VO N G (⟨some d, .call f es, none, q⟩ :: l) K tl L :=
 call_step k fun c Z M tm m n hM hS => ⟨_, rfl, call_plain hM (evEs_rel hS ha) hz hc⟩
theorem Fc {f es us u} (ha : evEs tl es = some us) (hz : us.all (V.fzV 6) = true) (hc : CV G f us (fun v => v = u)) (k : VO N G l K ((d, u) :: tl) L) : VO N G (⟨some d, .call f es, none, q⟩ :: l) K tl L :=
 s_callP ha hz hc fun u' e => by cases e; exact k
theorem s_callLP {f es us us' p} {post : V → Prop} (ha : evEs tl es = some us) (hz : frs (fr L 6) us = some (us', p)) (ho : ∀ e, e ∈ p → e.1 = e.2) (hc : CV G f us' post) (hfl : ∀ u, post u → V.flat 6 u = true) (k : ∀ u, post u → VO N G l K ((d, u) :: tl) L) : VO N G (⟨some d, .call f es, none, q⟩ :: l) K tl L :=
 call_step k fun c Z M tm m n hM hS => ⟨_, rfl, call_local hM (evEs_rel hS ha) hz ho hc hfl⟩
theorem s_callL {f es us us' p u} (ha : evEs tl es = some us) (hz : frs (fr L 6) us = some (us', p)) (ho : ∀ e, e ∈ p → e.1 = e.2) (hc : CV G f us' (fun v => v = u)) (hfl : V.flat 6 u = true) (k : VO N G l K ((d, u) :: tl) L) : VO N G (⟨some d, .call f es, none, q⟩ :: l) K tl L :=
 s_callLP ha hz ho hc (fun u' e => by cases e; exact hfl) fun u' e => by cases e; exact k
theorem calli_args {M Z tm} {f : E} {g : Nat} {caps us : List V} {es : List E} (hS : Slots M Z tl tm) (hf : evE tl f = some (.fn g caps)) (ha : evEs tl es = some us) : ∃ args, O.callee tm (.calli f es) = some (g, args) ∧ Pt (RL M Z) (us ++ caps) args := by
 obtain ⟨vs, e, h1, h2⟩ := (evE_rel hS hf).fn_inv
 exact ⟨(es.map (·.ev tm)) ++ vs.toList, by simp only [O.callee, e]; simp, (evEs_rel hS ha).append ⟨by simpa using h1, fun i x y g1 g2 => h2 i x y g1 (by simpa using g2)⟩⟩
theorem s_calliP {f es g caps us} {post : V → Prop} (hf : evE tl f = some (.fn g caps)) (ha : evEs tl es = some us) (hz : (us ++ caps).all (V.fzV 6) = true) (hc : CV G g (us ++ caps) post) (k : ∀ u, post u → VO N G l K ((d, u) :: tl) L) : VO N G (⟨some d, .calli f es, none, q⟩ :: l) K tl L :=
 call_step k fun c Z M tm m n hM hS => let ⟨args, h1, h2⟩ := calli_args hS hf ha; ⟨args, h1, call_plain hM h2 hz hc⟩
theorem s_calli {f es g caps us u} (hf : evE tl f = some (.fn g caps)) (ha : evEs tl es = some us) (hz : (us ++ caps).all (V.fzV 6) = true) (hc : CV G g (us ++ caps) (fun v => v = u)) (k : VO N G l K ((d, u) :: tl) L) : VO N G (⟨some d, .calli f es, none, q⟩ :: l) K tl L :=
 s_calliP hf ha hz hc fun u' e => by cases e; exact k
theorem s_nil (i k : Nat) {Q : Ex → Tl → List LB → Prop} {c : C} {L1 b a c'} (hi : look tl i = some (.w (.slice a 0 c'))) (ha : a = none ∧ c' = 0) (hL : pushN L (.arr k []) = some (L1, b)) (h : VC N G c Q ((i, .ls b 0) :: tl) L1) : VC N G c Q tl L := by
 obtain ⟨rfl, rfl⟩ := ha
 intro cx Z M tm m n hM hS
 have := pushN_inv hL; cases this
 have hlt : ∀ (i : Nat) p, Z[i]? = some p → i < Z.length := fun i p hp => (List.getElem?_eq_some_iff.1 hp).1
 have hget : ∀ (i : Nat) p, (Z ++ [((none : Option Nat), LB.arr k [])])[i]? = some p → Z[i]? = some p ∨ (i = Z.length ∧ p = (none, .arr k [])) := by
  intro i p hp
  rw [List.getElem?_append] at hp
  split at hp
  · exact .inl hp
  · rename_i hi
    rw [List.getElem?_singleton] at hp
    split at hp
    · cases hp; exact .inr ⟨by omega, rfl⟩
    · cases hp
 have hE : ExtV Z M (Z ++ [(none, .arr k [])]) M := ⟨sub_refl _, fun b p hp => ⟨p, by rw [List.getElem?_append_left (hlt b p hp)]; exact hp, grow.refl p⟩⟩
 have hZ : (Z ++ [((none : Option Nat), LB.arr k [])])[L.length]? = some (none, .arr k []) := by
  rw [← hM.lenZ, List.getElem?_append_right (Nat.le_refl _)]; simp
 have hM1 : StM cx (Z ++ [(none, .arr k [])]) M (L ++ [.arr k []]) m n := by
  refine ⟨hM.hbs, hM.hn, hM.fresh, by simp [hM.hL], fun b x hb => ?_, hM.h0, hM.f0, hM.hma, hM.hbr, fun j a lb hj => ?_, fun j lb hj => ?_, fun i j a l1 l2 h1 h2 => ?_, fun j a lb hj => ?_⟩
  · obtain ⟨h1, h2, h3⟩ := hM.hM b x hb
    refine ⟨h1, h2, fun j lb e => ?_⟩
    rcases hget j _ e with e1 | ⟨_, e1⟩
    · exact h3 j lb e1
    · cases e1
  · rcases hget j _ hj with e1 | ⟨_, e1⟩
    · obtain ⟨h1, h2, h3⟩ := hM.cell j a lb e1
      exact ⟨h1, h2, h3.mono hE rfl⟩
    · cases e1
  · rcases hget j _ hj with e1 | ⟨_, e1⟩
    · exact hM.nl j lb e1
    · cases e1; exact .inr ⟨k, rfl⟩
  · rcases hget i _ h1 with e1 | ⟨_, e1⟩ <;> rcases hget j _ h2 with e2 | ⟨_, e2⟩
    · exact hM.inj i j a l1 l2 e1 e2
    · cases e2
    · cases e1
    · cases e1
  · rcases hget j _ hj with e1 | ⟨_, e1⟩
    · exact hM.lo j a lb e1
    · cases e1
 have hS1 : Slots M (Z ++ [(none, .arr k [])]) ((i, .ls L.length 0) :: tl) tm := by
  intro t u hu
  simp only [look] at hu
  cases e : Nat.beq t i with
  | true =>
    rw [e] at hu
    have := Nat.eq_of_beq_eq_true e
    simp only [cond_true, Option.some.injEq] at hu
    subst hu; subst this
    have hv := (hS _ _ hi).w_inv.1
    exact .ls hZ (Nat.le_refl _) (by rw [hv]; rfl) fun _ => hv
  | false => rw [e] at hu; exact (hS t u hu).mono hE
 obtain ⟨e, tm1, m1, n1, Z1, M1, tl1, L1, hb, he, r⟩ := h cx _ M tm m n hM1 hS1
 exact ⟨e, tm1, m1, n1, Z1, M1, tl1, L1, hb, hE.trans he, r⟩
theorem s_iaM {α : Type} {r : α → List V} {xs : List α} {x i k t j} (hx : evE tl x = some (.sl k (xs.map r))) (hi : evE tl i = some (.w (.int t j))) (hb : 0 ≤ j ∧ j < xs.length)
 (h : ∀ y, xs[j.toNat]? = some y → VO N G l K ((d, .rp (r y) 0) :: tl) L) : VO N G (⟨some d, .ia k x i, none, q⟩ :: l) K tl L := by
 have hj : j.toNat < xs.length := by omega
 have hy : xs[j.toNat]? = some xs[j.toNat] := List.getElem?_eq_getElem hj
 exact Ea (o_ia (row := r xs[j.toNat]) hx hi (by simpa using hb) (by rw [List.getElem?_map, hy]; rfl)) (h _ hy)
theorem o_lenM {α : Type} {r : α → List V} {xs : List α} {x k} (hx : evE tl x = some (.sl k (xs.map r))) : OpV G q (.len x) tl L (some (.w (.int .i64 xs.length))) L := by
 have := o_len (G := G) (q := q) (L := L) hx
 rwa [List.length_map] at this
end
def HasS (tl : Tl) : Tl → Prop
 | [] => True
 | (i, v) :: S => look tl i = some v ∧ HasS tl S
theorem HasS.mem {tl : Tl} : ∀ {S : Tl}, HasS tl S → ∀ p, p ∈ S → look tl p.1 = some p.2
 | (i, v) :: S, h, p, hp => by
   simp only [List.mem_cons] at hp
   rcases hp with rfl | hp
   · exact h.1
   · exact HasS.mem h.2 p hp
theorem hasOf {tl : Tl} {L : List LB} {S : Tl} {F : List LB} (h : HasS tl S) (hl : L.take F.length = F) : Has tl L S F := ⟨h.mem, hl⟩
theorem ret_leaf {res post e tl L v u} (he : e = .normal ∨ e = .ret) (h1 : retV tl L res = some v) (h2 : fr L 6 v = some (u, [])) (h : post u) : Ret res post e tl L := ⟨he, v, u, [], u, h1, h2, fun e he => by simp at he, .refl _, h⟩
theorem nnp {p : Prop} [Decidable p] : ¬¬p ↔ p := Decidable.not_not
theorem ret_leafR {res post tl L v u} (h1 : retV tl L res = some v) (h2 : fr L 6 v = some (u, [])) (h : post u) : Ret res post .ret tl L := ret_leaf (.inr rfl) h1 h2 h
theorem Fa {res tl L v b b'} (h1 : retV tl L res = some v) (h2 : fr L 6 v = some (.w (.bool b), [])) (h : b = b') : Ret res (fun r => r = .w (.bool b')) .ret tl L := ret_leaf (.inr rfl) h1 h2 (congrArg (fun b => V.w (.bool b)) h)
theorem ret_leafIR {res tl L v b b'} (h1 : retV tl L res = some v) (h2 : fr L 6 v = some (.w (.int .i64 b), [])) (h : b = b') : Ret res (fun r => r = .w (.int .i64 b')) .ret tl L := ret_leaf (.inr rfl) h1 h2 (congrArg (fun b => V.w (.int .i64 b)) h)
theorem ret_leafA {res post e tl L v u a b} (he : e = .normal ∨ e = .ret) (h1 : retV tl L res = some v) (h2 : fr L 6 v = some (u, [(a, b)])) (hab : a = b) (h : post u) : Ret res post e tl L := ⟨he, v, u, _, u, h1, h2, fun e he => by simp at he; subst he; exact hab, .refl _, h⟩
section
variable {N : Nat} {G : Prg} {tl : Tl} {L : List LB} {Q : Ex → Tl → List LB → Prop}
theorem s_condNB {x a b t} (hx : evE tl x = some (.w (.bool (!t)))) (k1 : t = false → VC N G a Q tl L) (k2 : t = true → VC N G b Q tl L) : VC N G (.cond x a b) Q tl L :=
 Et hx (fun h => k1 (by simpa using h)) (fun h => k2 (by simpa using h))
theorem s_gNT {d o q l g t} {K : Tl → List LB → Prop} (hg : look tl g = some (.w (.bool (!t)))) (k1 : t = false → VO N G (⟨d, o, none, q⟩ :: l) K ((g, .w (.bool true)) :: tl) L)
 (k2 : t = true → VO N G (⟨d, o, some (g, true), q⟩ :: l) K ((g, .w (.bool false)) :: tl) L) : VO N G (⟨d, o, some (g, true), q⟩ :: l) K tl L :=
 s_gB hg (fun h => k1 (by simpa using h)) (fun h => k2 (by simpa using h))
theorem s_gNF {d o q l g t} {K : Tl → List LB → Prop} (hg : look tl g = some (.w (.bool (!t)))) (k1 : t = true → VO N G (⟨d, o, none, q⟩ :: l) K ((g, .w (.bool false)) :: tl) L)
 (k2 : t = false → VO N G (⟨d, o, some (g, false), q⟩ :: l) K ((g, .w (.bool true)) :: tl) L) : VO N G (⟨d, o, some (g, false), q⟩ :: l) K tl L :=
 s_gB hg (fun h => k1 (by simpa using h)) (fun h => k2 (by simpa using h))
theorem s_gNDT {d o q l g} {p : Prop} [Decidable p] {K : Tl → List LB → Prop} (hg : look tl g = some (.w (.bool (!decide p)))) (k1 : ¬ p → VO N G (⟨d, o, none, q⟩ :: l) K ((g, .w (.bool true)) :: tl) L)
 (k2 : p → VO N G (⟨d, o, some (g, true), q⟩ :: l) K ((g, .w (.bool false)) :: tl) L) : VO N G (⟨d, o, some (g, true), q⟩ :: l) K tl L :=
 s_gB hg (fun h => k1 (by simpa using h)) (fun h => k2 (by simpa using h))
theorem s_gNDF {d o q l g} {p : Prop} [Decidable p] {K : Tl → List LB → Prop} (hg : look tl g = some (.w (.bool (!decide p)))) (k1 : p → VO N G (⟨d, o, none, q⟩ :: l) K ((g, .w (.bool false)) :: tl) L)
 (k2 : ¬ p → VO N G (⟨d, o, some (g, false), q⟩ :: l) K ((g, .w (.bool true)) :: tl) L) : VO N G (⟨d, o, some (g, false), q⟩ :: l) K tl L :=
 s_gB hg (fun h => k1 (by simpa using h)) (fun h => k2 (by simpa using h))
end
section
variable {N : Nat} {G : Prg} {tl : Tl} {L : List LB} {Q : Ex → Tl → List LB → Prop}
def seqQ (N : Nat) (G : Prg) (b : C) (Q : Ex → Tl → List LB → Prop) : Ex → Tl → List LB → Prop := fun e tl L => match e with
 | .normal => VC N G b Q tl L
 | e => Q e tl L
def blkQ (i : Nat) (Q : Ex → Tl → List LB → Prop) : Ex → Tl → List LB → Prop := fun e => Q (e.out i)
def loopQ (R : Tl → List LB → Prop) (Q : Ex → Tl → List LB → Prop) : Ex → Tl → List LB → Prop := fun e tl L => match e with
 | .normal => R tl L
 | e => Q e tl L
theorem Ed {b} (h : VC N G b Q tl L) : seqQ N G b Q .normal tl L := h
theorem q_seqX {b i} (h : Q (.exit i) tl L) : seqQ N G b Q (.exit i) tl L := h
theorem Ev {b} (h : Q .ret tl L) : seqQ N G b Q .ret tl L := h
theorem Fg {i} (h : Q .normal tl L) : blkQ i Q .normal tl L := h
theorem Ff {i} (h : Q .ret tl L) : blkQ i Q .ret tl L := h
theorem q_blkH {i} (h : Q .normal tl L) : blkQ i Q (.exit i) tl L := by unfold blkQ; simp only [Ex.out, if_true]; exact h
theorem q_loopN {R} (h : R tl L) : loopQ R Q .normal tl L := h
theorem q_loopX {R i} (h : Q (.exit i) tl L) : loopQ R Q (.exit i) tl L := h
theorem q_loopR {R} (h : Q .ret tl L) : loopQ R Q .ret tl L := h
theorem Eg {a b} (h : VC N G a (seqQ N G b Q) tl L) : VC N G (.seq a b) Q tl L := by
 refine s_seq (s_mono h fun e tl L h => ?_)
 cases e <;> exact h
theorem S_block {i c} (h : VC N G c (blkQ i Q) tl L) : VC N G (.block i c) Q tl L := s_block h
theorem S_loop {N0 : Nat} {c : C} {ι : Type} (P : ι → Prop) (S : ι → Tl) (F : ι → List LB) (μ : ι → Nat) (N : Nat) (i0 : ι) (hP : P i0) {tlk : Tl} (hk : keepN c.dsts tl = some tlk)
 (start : Has tl L (S i0) (F i0)) (hL : L.length = N) (hN : ∀ i, P i → (F i).length = N) (hbel : ∀ i, P i → (S i).all (fun p => V.bel 6 N p.2) = true ∧ (F i).all (LB.bel N) = true)
 (round : ∀ i, P i → VC (max N0 N) G c (loopQ (fun tl1 L1 => ∃ j, P j ∧ μ j < μ i ∧ Has tl1 L1 (S j) (F j)) Q) (S i ++ tlk) (F i)) : VC N0 G (.loop c) Q tl L := by
 refine s_loop P S F μ N i0 hP hk start hL hN hbel fun i hi => s_mono (round i hi) fun e tl L h => ?_
 cases e <;> exact h
theorem S_loop0 {c : C} {ι : Type} (P : ι → Prop) (S : ι → Tl) (μ : ι → Nat) (i0 : ι) (hP : P i0) {tlk : Tl} (hk : keepN c.dsts tl = some tlk)
 (start : HasS tl (S i0)) (hbel : ∀ i, P i → (S i).all (fun p => V.bel 6 L.length p.2) = true) (hL : L.all (LB.bel L.length) = true)
 (round : ∀ i, P i → VC (max N L.length) G c (loopQ (fun tl1 L1 => ∃ j, P j ∧ μ j < μ i ∧ Has tl1 L1 (S j) L) Q) (S i ++ tlk) L) : VC N G (.loop c) Q tl L :=
 S_loop P S (fun _ => L) μ L.length i0 hP hk (hasOf start (List.take_length ..)) rfl (fun _ _ => rfl) (fun i hi => ⟨hbel i hi, hL⟩) round
theorem cv_in {G f body res vargs post} (hG : G f = some ⟨body, res⟩) (h : VC 0 G body (Ret res post) (tlOf 0 vargs) []) : CV G f vargs post := cv_intro hG h
end
section
variable {N : Nat} {G : Prg} {tl : Tl} {L : List LB} {K : Tl → List LB → Prop} {l : List IOp} {q : Bool} {d : Nat}
theorem flat_drop {k : Nat} : ∀ {rows : List (List Value)} {l : Nat}, (∀ r, r ∈ rows → r.length = k) → rows.flatten.drop (l * k) = (rows.drop l).flatten
 | [], l, _ => by simp
 | r :: rows, 0, _ => by simp
 | r :: rows, l + 1, h => by
   have h0 := h r (List.mem_cons_self ..)
   have ih := flat_drop (l := l) fun r hr => h r (List.mem_cons_of_mem _ hr)
   rw [List.drop_succ_cons, List.flatten_cons, ← ih, show (l + 1) * k = r.length + l * k by rw [Nat.succ_mul]; omega, List.drop_length_add_append]
theorem flat_take {k : Nat} : ∀ {rows : List (List Value)} {l : Nat}, (∀ r, r ∈ rows → r.length = k) → rows.flatten.take (l * k) = (rows.take l).flatten
 | [], l, _ => by simp
 | r :: rows, 0, _ => by simp
 | r :: rows, l + 1, h => by
   have h0 := h r (List.mem_cons_self ..)
   have ih := flat_take (l := l) fun r hr => h r (List.mem_cons_of_mem _ hr)
   rw [List.take_succ_cons, List.flatten_cons, List.flatten_cons, ← ih, show (l + 1) * k = r.length + l * k by rw [Nat.succ_mul]; omega, List.take_length_add_append]
theorem part_rel {M : Mem} {Z Z' : Zl} {k : Nat} {rows : List (List V)} {cells : List Value} (h : LB.rel M Z (.arr k rows) cells) (l h' : Nat) : LB.rel M Z' (.arr k ((rows.take h').drop l)) ((cells.drop (l * k)).take ((h' - l) * k)) := by
 obtain ⟨rows', rfl, h2, h3, h4, h5⟩ := h
 have h3d : ∀ r, r ∈ rows'.drop l → r.length = k := fun r hr => h3 r (List.mem_of_mem_drop hr)
 refine ⟨(rows'.take h').drop l, ?_, by simp [h2], fun r hr => h3 r (List.mem_of_mem_take (List.mem_of_mem_drop hr)), fun i r r' e1 e2 => ?_, fun i r j x e1 e2 => ?_⟩
 · rw [flat_drop h3, flat_take h3d, List.drop_take]
 · rw [List.getElem?_drop, List.getElem?_take] at e1 e2
   split at e1
   · rename_i hi; rw [if_pos hi] at e2; exact h4 _ _ _ e1 e2
   · cases e1
 · rw [List.getElem?_drop, List.getElem?_take] at e1
   split at e1
   · exact h5 _ _ _ _ e1 e2
   · cases e1
theorem cut_core {x : E} {lo hi : Option E} {b len k : Nat} {rows : List (List V)} {h lw : Int} {L1 L2 : List LB} {b2 : Nat} (hx : evE tl x = some (.ls b len)) (hb : L[b]? = some (.arr k rows)) (hl : rows.length = len)
 (hh : bndV tl (rows.length : Nat) hi = some h) (hlo : bndV tl (0 : Nat) lo = some lw) (hbd : 0 ≤ lw ∧ lw ≤ h ∧ h ≤ rows.length)
 (hL1 : setN L b .dead = some L1) (hL2 : pushN L1 (.arr k ((rows.take h.toNat).drop lw.toNat)) = some (L2, b2))
 {c : Cx N} {Z M tm m n} (hM : StM c Z M L m n) (hS : Slots M Z tl tm) : ∃ v m2 n2 Z2, (∀ l r m3 n3, Big G c.bs (.ops l (upd tm d v)) m2 n2 r m3 n3 → Big G c.bs (.ops (⟨some d, .sl k x lo hi none, none, false⟩ :: l) tm) m n r m3 n3) ∧ ExtV Z M Z2 M ∧ StM c Z2 M L2 m2 n2 ∧ RL M Z2 (.ls b2 ((rows.take h.toNat).drop lw.toNat).length) v := by
 obtain ⟨a, ha⟩ := hM.getZ hb
 obtain ⟨hbl, rfl⟩ := setN_inv hL1
 have := pushN_inv hL2; cases this
 have h1 := (evE_rel hS hx).ls_inv ha hl
 have hlt : b < Z.length := (List.getElem?_eq_some_iff.1 ha).1
 have hlen : ((rows.take h.toNat).drop lw.toNat).length = h.toNat - lw.toNat := by simp; omega
 -- the rows from now on
 have key : ∀ (a2 : Option Nat) (m2 : Mem) (n2 : Nat), (∀ a', a2 = some a' → a' = n ∧ n2 = n + 1 ∧ ∃ cells, m2 n = some ⟨cells, true, k⟩ ∧ ∀ Z', LB.rel M Z' (.arr k ((rows.take h.toNat).drop lw.toNat)) cells) →
  (a2 = none → (rows.take h.toNat).drop lw.toNat = []) → n ≤ n2 → Fresh m2 n2 → (∀ b', b' ≠ n → b' ∉ a → m2 b' = m b') →
  ∃ Z2, ExtV Z M Z2 M ∧ StM c Z2 M (L.set b .dead ++ [.arr k ((rows.take h.toNat).drop lw.toNat)]) m2 n2 ∧ Z2[(L.set b LB.dead).length]? = some (a2, .arr k ((rows.take h.toNat).drop lw.toNat)) := by
  intro a2 m2 n2 h2 h20 hn2 hf2 hm2
  have hget : ∀ (i : Nat) p, ((Z.set b ((none : Option Nat), LB.dead)) ++ [(a2, LB.arr k ((rows.take h.toNat).drop lw.toNat))])[i]? = some p →
   (i ≠ b ∧ Z[i]? = some p) ∨ (i = b ∧ p = (none, .dead)) ∨ (i = Z.length ∧ p = (a2, .arr k ((rows.take h.toNat).drop lw.toNat))) := by
   intro i p hp
   rw [List.getElem?_append] at hp
   split at hp
   · rw [List.getElem?_set] at hp
     by_cases e : b = i
     · subst e; rw [if_pos rfl, if_pos hlt] at hp; cases hp; exact Or.inr (Or.inl ⟨rfl, rfl⟩)
     · rw [if_neg e] at hp; exact .inl ⟨fun e' => e e'.symm, hp⟩
   · rename_i hi
     rw [List.getElem?_singleton] at hp
     split at hp
     · have hl9 : (Z.set b ((none : Option Nat), LB.dead)).length = Z.length := by simp
       cases hp; exact Or.inr (Or.inr ⟨by omega, rfl⟩)
     · cases hp
  have hext : ExtV Z M ((Z.set b ((none : Option Nat), LB.dead)) ++ [(a2, LB.arr k ((rows.take h.toNat).drop lw.toNat))]) M := by
   refine ⟨sub_refl _, fun i p hp => ?_⟩
   have hi := (List.getElem?_eq_some_iff.1 hp).1
   by_cases e : b = i
   · subst e; rw [ha] at hp; cases hp
     exact ⟨(none, .dead), by rw [List.getElem?_append_left (by simpa using hi), List.getElem?_set, if_pos rfl, if_pos hlt], Or.inr (Eq.refl LB.dead)⟩
   · exact ⟨p, by rw [List.getElem?_append_left (by simpa using hi), List.getElem?_set, if_neg e]; exact hp, grow.refl p⟩
  have ha0 : ∀ ad, a = some ad → c.okA ad ∧ ad < n := fun ad e => by subst e; exact ⟨(hM.cell _ _ _ ha).1, (hM.cell _ _ _ ha).2.1⟩
  have hcn := hM.hn
  refine ⟨_, hext, ⟨hM.hbs, by omega, hf2, by simp [List.map_set, hM.hL], fun b' y hb' => ?_, fun b' y hb' => ?_, hM.f0, hM.hma, hM.hbr, fun i a' lb hi => ?_, fun i lb hi => ?_, fun i j a' l1 l2 hi hj => ?_, fun i a' lb hi => ?_⟩, ?_⟩
  · obtain ⟨g1, g2, g3⟩ := hM.hM b' y hb'
    have hn' : b' ≠ n := by intro e; subst e; rw [hM.fresh _ (Nat.le_refl _)] at g1; cases g1
    have hna : b' ∉ a := fun e => by
     have e : a = some b' := e
     subst e; exact g3 _ _ ha
    refine ⟨by rw [hm2 b' hn' hna]; exact g1, g2, fun i lb e => ?_⟩
    rcases hget i _ e with ⟨_, e1⟩ | ⟨_, e1⟩ | ⟨_, e1⟩
    · exact g3 i lb e1
    · cases e1
    · have e2 : a2 = some b' := by rw [Prod.mk.injEq] at e1; exact e1.1.symm
      exact hn' (h2 _ e2).1
  · have hlt' : b' < c.n0 := by
     rcases Nat.lt_or_ge b' c.n0 with h | h
     · exact h
     · rw [hM.f0 _ h] at hb'; cases hb'
    have hna : b' ∉ a := fun e => by
     have := hM.m0A (ha0 b' e).1
     rw [this] at hb'; cases hb'
    rw [hm2 b' (by omega) hna]
    exact hM.h0 _ _ hb'
  · rcases hget i _ hi with ⟨hne', e1⟩ | ⟨_, e1⟩ | ⟨_, e1⟩
    · obtain ⟨g1, g2, g3⟩ := hM.cell i a' lb e1
      have hna : a' ∉ a := fun e => by
       have e : a = some a' := e
       subst e; exact hne' (hM.inj _ _ _ _ _ e1 ha)
      exact ⟨g1, by omega, g3.mono hext (hm2 a' (by omega) hna)⟩
    · cases e1
    · rw [Prod.mk.injEq] at e1
      obtain ⟨e1, rfl⟩ := e1
      obtain ⟨q1, q2, cells, q3, q4⟩ := h2 _ e1.symm
      subst q1
      exact ⟨.inl hcn, by omega, cells, q3, q4 _⟩
  · rcases hget i _ hi with ⟨_, e1⟩ | ⟨_, e1⟩ | ⟨_, e1⟩
    · exact hM.nl i lb e1
    · cases e1; exact .inl rfl
    · rw [Prod.mk.injEq] at e1
      obtain ⟨e1, rfl⟩ := e1
      exact .inr ⟨k, by rw [h20 e1.symm]⟩
  · have dis : ∀ (i : Nat) lb, Z[i]? = some (some n, lb) → False := fun i lb e => by have := (hM.cell i _ _ e).2.1; omega
    rcases hget i _ hi with ⟨_, e1⟩ | ⟨_, e1⟩ | ⟨e0, e1⟩ <;> rcases hget j _ hj with ⟨_, e2⟩ | ⟨_, e2⟩ | ⟨e3, e2⟩
    · exact hM.inj i j a' l1 l2 e1 e2
    · cases e2
    · rw [Prod.mk.injEq] at e2; have := (h2 _ e2.1.symm).1; subst this; exact (dis _ _ e1).elim
    · cases e1
    · cases e1
    · cases e1
    · rw [Prod.mk.injEq] at e1; have := (h2 _ e1.1.symm).1; subst this; exact (dis _ _ e2).elim
    · cases e2
    · omega
  · rcases hget i _ hi with ⟨_, e1⟩ | ⟨_, e1⟩ | ⟨_, e1⟩
    · exact hM.lo i a' lb e1
    · cases e1
    · rw [Prod.mk.injEq] at e1; have := (h2 _ e1.1.symm).1; subst this; exact .inl hcn
  · have hLl : (L.set b LB.dead).length = (Z.set b ((none : Option Nat), LB.dead)).length := by simp [hM.lenZ]
    rw [hLl, List.getElem?_append_right (Nat.le_refl _)]; simp
 cases a with
 | none =>
   obtain ⟨k', e⟩ := hM.nil _ _ ha
   cases e
   simp only [List.length_nil] at hbd
   obtain ⟨rfl, rfl⟩ : h = 0 ∧ lw = 0 := by omega
   obtain ⟨Z2, q1, q2, q3⟩ := key none m n (fun a' e => by cases e) (fun _ => by simp) (Nat.le_refl _) hM.fresh (fun _ _ _ => rfl)
   have hr : RL M Z2 (.ls (L.set b LB.dead).length 0) (.slice none 0 0) := .ls q3 (by simp) rfl fun _ => rfl
   refine ⟨_, _, _, _, fun l r m3 n3 hb2 => op_run (o := ⟨some d, .sl k x lo hi none, none, false⟩) rfl (.inl ?_) hb2, q1, q2, hr⟩
   simp only [stepO, h1, slOf]
   rw [show bnd tm none 0 0 = some 0 from rfl]
   simp only
   rw [show bnd tm hi 0 0 = some 0 from bndV_rel (d := 0) (most := 0) hS hh (by simp)]
   simp only
   rw [show bnd tm lo 0 0 = some 0 from bndV_rel (d := 0) (most := 0) hS hlo (by simp)]
   rfl
 | some ad =>
   obtain ⟨ha0, han, cells, hm, hrel⟩ := hM.cell _ _ _ ha
   have hcl : cells.length = rows.length * k := by
    obtain ⟨rows', rfl, e2, e3, _⟩ := hrel
    rw [flat_len e3, e2]
   have hhl : h.toNat ≤ rows.length := by omega
   have hhk : h.toNat * k ≤ rows.length * k := Nat.mul_le_mul_right _ hhl
   obtain ⟨Z2, q1, q2, q3⟩ := key (some n) (upd (upd m ad none) n (some ⟨(cells.drop (0 + lw.toNat * k)).take ((h.toNat - lw.toNat) * k), true, k⟩)) (n + 1)
    (fun a' e => by cases e; exact ⟨rfl, rfl, (cells.drop (0 + lw.toNat * k)).take ((h.toNat - lw.toNat) * k), by simp only [upd, if_true], fun Z' => by rw [Nat.zero_add]; exact part_rel hrel _ _⟩) (fun e => by cases e) (by omega)
    (Fresh.upd (fresh_upd hM.fresh han) _) (fun b' h3 h4 => by
      have : b' ≠ ad := fun e => h4 (by rw [e]; rfl)
      simp [upd, h3, this])
   have hr : RL M Z2 (.ls (L.set b LB.dead).length ((rows.take h.toNat).drop lw.toNat).length) (slc n 0 (h.toNat - lw.toNat) (h.toNat - lw.toNat)) := .ls q3 (Nat.le_refl _) rfl fun _ => by rw [hlen]; rfl
   refine ⟨_, _, _, _, fun l r m3 n3 hb2 => .opsAlt (fun g b e => by cases e) rfl ?_ hb2, q1, q2, hr⟩
   simp only [stepA, h1, slOf, ← hl]
   rw [bndV_rel (most := rows.length) hS hh (by omega)]
   simp only
   rw [bndV_rel (most := h.toNat) hS hlo (by omega)]
   simp only
   rw [if_pos ⟨by omega, by omega, by omega, rfl⟩]
   simp only [hm]
   rw [if_pos ⟨hM.bsA ha0, trivial, rfl, by omega⟩]
theorem s_cut {x : E} {lo hi : Option E} {b len k : Nat} {rows : List (List V)} {h lw : Int} {L1 L2 : List LB} {b2 : Nat} (hx : evE tl x = some (.ls b len)) (hb : L[b]? = some (.arr k rows)) (hl : rows.length = len)
 (hh : bndV tl (rows.length : Nat) hi = some h) (hlo : bndV tl (0 : Nat) lo = some lw) (hbd : 0 ≤ lw ∧ lw ≤ h ∧ h ≤ rows.length)
 (hL1 : setN L b .dead = some L1) (hL2 : pushN L1 (.arr k ((rows.take h.toNat).drop lw.toNat)) = some (L2, b2))
 (kk : VO N G l K ((d, .ls b2 ((rows.take h.toNat).drop lw.toNat).length) :: tl) L2) : VO N G (⟨some d, .sl k x lo hi none, none, false⟩ :: l) K tl L := by
 intro c Z M tm m n hM hS
 obtain ⟨v, m2, n2, Z2, g1, g2, g3, g4⟩ := cut_core (G := G) (d := d) hx hb hl hh hlo hbd hL1 hL2 hM hS
 obtain ⟨tm3, m3, n3, Z3, M3, tl3, L3, hb2, he2, r⟩ := kk c Z2 M (upd tm d v) m2 n2 g3 ((hS.mono g2).put g4)
 exact ⟨tm3, m3, n3, Z3, M3, tl3, L3, g1 _ _ _ _ hb2, g2.trans he2, r⟩
end
end Go.Proofs.Ytdialnejieoelaa.AL
