/- Code over plain data: steps that call. -/
import Derived.Test.YtoppcdecolponaaDoorV4
namespace Go.Proofs.YtoppcdecolponaaDoor.AL
open Go
set_option linter.unusedVariables false
set_option linter.unusedSimpArgs false
section
variable {N : Nat} {G : Prg} {tl : Tl} {L : List LB}
theorem call_after {N : Nat} {c : Cx N} {Z M m n} (hM : StM c Z M L m n) {m1 : Mem} {n1 : Nat} (hn : n ≤ n1) (hf : Fresh m1 n1) (hs : sub m m1) (hd : ∀ b, b < n → m b = none → m1 b = none) {M1 : Mem} (hs1 : sub M1 m1) (hp : ∀ b x, M1 b = some x → M b = some x ∨ n ≤ b) :
 ∃ M2, sub M1 M2 ∧ ExtV Z M Z M2 ∧ StM c Z M2 L m1 n1 := by
 refine ⟨fun b => if (M b).isSome then M b else M1 b, fun b x hb => ?_, ?_⟩
 · simp only
   split
   · rename_i h
     obtain ⟨y, hy⟩ := Option.isSome_iff_exists.1 h
     have h1 := hs b y (hM.hM b y hy).1
     have h2 := hs1 b x hb
     rw [h1] at h2
     rw [hy, h2]
   · exact hb
 · have hsub : sub M (fun b => if (M b).isSome then M b else M1 b) := fun b x hb => by
    show (if (M b).isSome then M b else M1 b) = some x
    rw [hb]; rfl
   have hE : ExtV Z M Z (fun b => if (M b).isSome then M b else M1 b) := ⟨hsub, fun b p h => ⟨p, h, grow.refl p⟩⟩
   refine ⟨hE, ⟨hM.hbs, by have := hM.hn; omega, hf, hM.hL, fun b x hb => ?_, sub_trans hM.h0 hs, hM.f0, sub_trans hM.hma hsub, hM.hbr, fun i a lb hi => ?_, hM.nl, hM.inj, hM.lo⟩⟩
   · have hb : (if (M b).isSome then M b else M1 b) = some x := hb
     split at hb
     · obtain ⟨h1, h2, h3⟩ := hM.hM b x hb
       exact ⟨hs _ _ h1, h2, h3⟩
     · rename_i hno
       rcases hp b x hb with h | h
       · rw [h] at hno; exact absurd rfl hno
       · refine ⟨hs1 _ _ hb, .inr (by have := hM.hn; omega), fun i lb e => ?_⟩
         have := (hM.cell _ _ _ e).2.1
         omega
   · obtain ⟨g1, g2, g3⟩ := hM.cell i a lb hi
     refine ⟨g1, by omega, g3.mono hE ?_⟩
     cases e : m a with
     | none => exact hd a g2 e
     | some x => exact hs _ _ e
theorem call_plain {f us post q} {args : List Value} {N : Nat} {c : Cx N} {Z M m n} (hM : StM c Z M L m n) (ha : Pt (RL M Z) us args) (hz : us.all (V.fzV 6) = true) (hc : CV G f us post) :
 ∃ v m1 n1 M2 u, Big G (if q = true then n else c.bs) (.call f args) m n (.ret v) m1 n1 ∧ ExtV Z M Z M2 ∧ StM c Z M2 L m1 n1 ∧ RL M2 Z u v ∧ post u := by
 have hp : Pt (RF M) us args := ⟨ha.1, fun i x y h1 h2 => V.fzV_rel (ha.2 i x y h1 h2) (List.all_eq_true.1 hz x (List.mem_of_getElem? h1))⟩
 have hbs : (if q = true then n else c.bs) ≤ n := by
  have h1 := hM.hbs; have h2 := hM.hn
  split <;> omega
 obtain ⟨v, m1, n1, hb, u, M1, g1, g2, g3, g4, g5⟩ := hc.run args _ m n M hM.fresh hbs hM.subM hp
 obtain ⟨hn, hf⟩ := hb.fresh hM.fresh
 obtain ⟨M2, k1, k2, k3⟩ := call_after hM hn hf g3 hb.dom g4 g5
 exact ⟨v, m1, n1, M2, u, hb, k2, k3, .fz (g1.mono k1), g2⟩
variable {K : Tl → List LB → Prop} {l : List IOp} {q : Bool} {d : Nat}
theorem call_step {o : O} {f : Nat} {post : V → Prop} (k : ∀ u, post u → VO N G l K ((d, u) :: tl) L)
 (h : ∀ (c : Cx N) Z M tm m n, StM c Z M L m n → Slots M Z tl tm → ∃ args, o.callee tm = some (f, args) ∧ ∃ v m1 n1 M2 u, Big G (if q = true then n else c.bs) (.call f args) m n (.ret v) m1 n1 ∧ ExtV Z M Z M2 ∧ StM c Z M2 L m1 n1 ∧ RL M2 Z u v ∧ post u) :
 VO N G (⟨some d, o, none, q⟩ :: l) K tl L := by
 intro c Z M tm m n hM hS
 obtain ⟨args, hc, v, m1, n1, M2, u, hb, he, hM2, hr, hp⟩ := h c Z M tm m n hM hS
 obtain ⟨tm2, m2, n2, Z2, M3, tl2, L2, hb2, he2, r⟩ := k u hp c Z M2 (upd tm d v) m1 n1 hM2 ((hS.mono he).put hr)
 exact ⟨tm2, m2, n2, Z2, M3, tl2, L2, op_run (o := ⟨some d, o, none, q⟩) rfl (.inr ⟨f, args, hc, hb⟩) hb2, he.trans he2, r⟩
theorem s_callP {f es us} {post : V → Prop} (ha : evEs tl es = some us) (hz : us.all (V.fzV 6) = true) (hc : CV G f us post) (k : ∀ u, post u → VO N G l K ((d, u) :: tl) L) : VO N G (⟨some d, .call f es, none, q⟩ :: l) K tl L :=
 call_step k fun c Z M tm m n hM hS => ⟨_, rfl, call_plain hM (evEs_rel hS ha) hz hc⟩
theorem s_call {f es us u} (ha : evEs tl es = some us) (hz : us.all (V.fzV 6) = true) (hc : CV G f us (fun v => v = u)) (k : VO N G l K ((d, u) :: tl) L) : VO N G (⟨some d, .call f es, none, q⟩ :: l) K tl L :=
 s_callP ha hz hc fun u' e => by cases e; exact k
end
def HasS (tl : Tl) : Tl → Prop
 | [] => True
 | (i, v) :: S => look tl i = some v ∧ HasS tl S
theorem HasS.mem {tl : Tl} : ∀ {S : Tl}, HasS tl S → ∀ p, p ∈ S → look tl p.1 = some p.2
 | (i, v) :: S, h, p, hp => by
   simp only [List.mem_cons] at hp
   rcases hp with rfl | hp
   · exact h.1
   · exact HasS.mem h.2 p hp
theorem hasOf {tl : Tl} {L : List LB} {S : Tl} {F : List LB} (h : HasS tl S) (hl : L.take F.length = F) : Has tl L S F := ⟨h.mem, hl⟩
theorem ret_leaf {res post e tl L v u} (he : e = .normal ∨ e = .ret) (h1 : retV tl L res = some v) (h2 : fr L 6 v = some (u, [])) (h : post u) : Ret res post e tl L := ⟨he, v, u, [], u, h1, h2, fun e he => by simp at he, .refl _, h⟩
theorem nnp {p : Prop} [Decidable p] : ¬¬p ↔ p := Decidable.not_not
theorem ret_leafR {res post tl L v u} (h1 : retV tl L res = some v) (h2 : fr L 6 v = some (u, [])) (h : post u) : Ret res post .ret tl L := ret_leaf (.inr rfl) h1 h2 h
theorem ret_leafBR {res tl L v b b'} (h1 : retV tl L res = some v) (h2 : fr L 6 v = some (.w (.bool b), [])) (h : b = b') : Ret res (fun r => r = .w (.bool b')) .ret tl L := ret_leaf (.inr rfl) h1 h2 (congrArg (fun b => V.w (.bool b)) h)
section
variable {N : Nat} {G : Prg} {tl : Tl} {L : List LB} {Q : Ex → Tl → List LB → Prop}
theorem s_condNB {x a b t} (hx : evE tl x = some (.w (.bool (!t)))) (k1 : t = false → VC N G a Q tl L) (k2 : t = true → VC N G b Q tl L) : VC N G (.cond x a b) Q tl L :=
 s_condB hx (fun h => k1 (by simpa using h)) (fun h => k2 (by simpa using h))
end
section
variable {N : Nat} {G : Prg} {tl : Tl} {L : List LB} {Q : Ex → Tl → List LB → Prop}
def seqQ (N : Nat) (G : Prg) (b : C) (Q : Ex → Tl → List LB → Prop) : Ex → Tl → List LB → Prop := fun e tl L => match e with
 | .normal => VC N G b Q tl L
 | e => Q e tl L
def blkQ (i : Nat) (Q : Ex → Tl → List LB → Prop) : Ex → Tl → List LB → Prop := fun e => Q (e.out i)
def loopQ (R : Tl → List LB → Prop) (Q : Ex → Tl → List LB → Prop) : Ex → Tl → List LB → Prop := fun e tl L => match e with
 | .normal => R tl L
 | e => Q e tl L
theorem Ec {b} (h : VC N G b Q tl L) : seqQ N G b Q .normal tl L := h
theorem q_seqX {b i} (h : Q (.exit i) tl L) : seqQ N G b Q (.exit i) tl L := h
theorem q_seqR {b} (h : Q .ret tl L) : seqQ N G b Q .ret tl L := h
theorem q_blkN {i} (h : Q .normal tl L) : blkQ i Q .normal tl L := h
theorem q_blkH {i} (h : Q .normal tl L) : blkQ i Q (.exit i) tl L := by unfold blkQ; simp only [Ex.out, if_true]; exact h
theorem q_loopN {R} (h : R tl L) : loopQ R Q .normal tl L := h
theorem q_loopX {R i} (h : Q (.exit i) tl L) : loopQ R Q (.exit i) tl L := h
theorem S_seq {a b} (h : VC N G a (seqQ N G b Q) tl L) : VC N G (.seq a b) Q tl L := by
 refine s_seq (s_mono h fun e tl L h => ?_)
 cases e <;> exact h
theorem S_block {i c} (h : VC N G c (blkQ i Q) tl L) : VC N G (.block i c) Q tl L := s_block h
theorem S_loop {N0 : Nat} {c : C} {ι : Type} (P : ι → Prop) (S : ι → Tl) (F : ι → List LB) (μ : ι → Nat) (N : Nat) (i0 : ι) (hP : P i0) {tlk : Tl} (hk : keepN c.dsts tl = some tlk)
 (start : Has tl L (S i0) (F i0)) (hL : L.length = N) (hN : ∀ i, P i → (F i).length = N) (hbel : ∀ i, P i → (S i).all (fun p => V.bel 6 N p.2) = true ∧ (F i).all (LB.bel N) = true)
 (round : ∀ i, P i → VC (max N0 N) G c (loopQ (fun tl1 L1 => ∃ j, P j ∧ μ j < μ i ∧ Has tl1 L1 (S j) (F j)) Q) (S i ++ tlk) (F i)) : VC N0 G (.loop c) Q tl L := by
 refine s_loop P S F μ N i0 hP hk start hL hN hbel fun i hi => s_mono (round i hi) fun e tl L h => ?_
 cases e <;> exact h
theorem S_loop0 {c : C} {ι : Type} (P : ι → Prop) (S : ι → Tl) (μ : ι → Nat) (i0 : ι) (hP : P i0) {tlk : Tl} (hk : keepN c.dsts tl = some tlk)
 (start : HasS tl (S i0)) (hbel : ∀ i, P i → (S i).all (fun p => V.bel 6 L.length p.2) = true) (hL : L.all (LB.bel L.length) = true)
 (round : ∀ i, P i → VC (max N L.length) G c (loopQ (fun tl1 L1 => ∃ j, P j ∧ μ j < μ i ∧ Has tl1 L1 (S j) L) Q) (S i ++ tlk) L) : VC N G (.loop c) Q tl L :=
 S_loop P S (fun _ => L) μ L.length i0 hP hk (hasOf start (List.take_length ..)) rfl (fun _ _ => rfl) (fun i hi => ⟨hbel i hi, hL⟩) round
theorem cv_in {G f body res vargs post} (hG : G f = some ⟨body, res⟩) (h : VC 0 G body (Ret res post) (tlOf 0 vargs) []) : CV G f vargs post := cv_intro hG h
end
end Go.Proofs.YtoppcdecolponaaDoor.AL
