/- What functions do with plain data, each by the form of its code. Printed by program. -/
import Derived.Test.YtdialnejieoelaaCMstEnd0
namespace Go.Proofs.Ytdialnejieoelaa.AL
open Go
set_option linter.unusedVariables false
set_option linter.unusedSimpArgs false
set_option maxRecDepth 4096
def Mst.fit (m : Mst) : Prop := m.queue.length ≤ 4 ∧ ∀ x, x ∈ m.queue → x.data.length ≤ 16
def Mst.fit5 (m : Mst) : Prop := m.queue.length ≤ 5 ∧ ∀ x, x ∈ m.queue → x.data.length ≤ 16
theorem Mst.fit.to5 {m : Mst} (h : m.fit) : m.fit5 := ⟨Nat.le_trans h.1 (by decide), h.2⟩
theorem Mst.fit5.small {m : Mst} (h : m.fit5) : m.small := ⟨Nat.le_trans h.1 (by decide), fun x hx => Nat.le_trans (h.2 x hx) (by decide)⟩
theorem Mst.fit.small {m : Mst} (h : m.fit) : m.small := h.to5.small
theorem Mst.fit.back {m : Mst} (h : m.fit) : m.back.1.fit := by
 unfold Mst.back
 split
 · exact h
 · exact h
theorem Mst.fit.fin {m : Mst} (h : m.fit) : m.fin.1.fit := by
 unfold Mst.fin
 split
 · split
   · exact ⟨by simp only [List.length_drop]; have := h.1; omega, fun x hx => h.2 x (List.mem_of_mem_drop hx)⟩
   · exact h
 · exact h
theorem Mst.fit.post {m : Mst} (h : m.fit) {x : Req} (hx : x.data.length ≤ 16) : (m.post x).1.fit := by
 unfold Mst.post
 split
 · rename_i hc
   unfold Mst.postC at hc
   simp only [Bool.and_eq_true, decide_eq_true_eq] at hc
   refine ⟨by simp only [List.length_append, List.length_cons, List.length_nil]; have := h.1; omega, fun y hy => ?_⟩
   rcases List.mem_append.1 hy with hy | hy
   · exact h.2 y hy
   · rw [List.mem_singleton.1 hy]; exact hx
 · exact h
theorem c_56y {m y : Mst} {b : Bool} (h : m.fin = (y, b)) (hm : m.small) : CV prg 56 [.agg m.r] (fun v => v = .tup [.agg y.r, .w (.bool b)]) := by
 have := c_56 m hm
 rwa [h] at this
theorem c_356y {m y : Mst} {b : Bool} (h : m.fin = (y, b)) (hm : m.small) : CV prg 356 [.agg m.r] (fun v => v = .tup [.agg y.r, .w (.bool b)]) := by
 have := c_356 m hm
 rwa [h] at this
def Mst.n (x : Mst) : List V := [.w (.slice none 0 0), .w (.int .i64 x.beat), .w (.int .i64 x.done), .w (.int .i64 x.tries), .w (.bool x.parted), .w (.bool x.broken)]
def Bus.mid (b : Bus) : List V := [.w (.int .i64 b.holder), .w (.int .i64 b.kept), .w (.int .i64 b.last), .w (.bool b.addr.live), .w (.int .i64 b.addr.who), .w (.int .i64 b.addr.num), .w (.bool b.addr.first), .w (.int .i64 b.addr.via), .w (.int .i64 b.addr.left), .w (.int .i64 b.addr.resp), .w (.bool b.addr.second), .w (.bool b.data.live), .w (.int .i64 b.data.who), .w (.int .i64 b.data.num), .w (.bool b.data.first), .w (.int .i64 b.data.via), .w (.int .i64 b.data.left), .w (.int .i64 b.data.resp), .w (.bool b.data.second)]
def Bus.o (b : Bus) : List V := [.ls 0 b.conf.masters.length, .w (.int .i64 b.conf.quantum), .w (.int .i64 b.conf.maxWait), .w (.int .i64 b.conf.maxRetry), .w (.int .i64 b.conf.maxSplit), .w (.int .i64 b.conf.lockMost), .w (.int .i64 b.now), .ls 1 b.ms.length, .w (.int .i64 b.arb.pos), .w (.int .i64 b.arb.credit), .ls 2 b.buckets.length, .ls 3 b.splits.length] ++ b.mid ++ [.ls 4 b.model.ram.length, .ls 5 b.model.dev.regs.length, .w (.int .i64 b.model.dev.timer), .ls 6 b.model.dev.fifo.length, .w (.int .i64 b.picks), .ls 7 b.log.length]
def Bus.n (b : Bus) : List V := [.sl 4 (b.conf.masters.map MConf.r), .w (.int .i64 b.conf.quantum), .w (.int .i64 b.conf.maxWait), .w (.int .i64 b.conf.maxRetry), .w (.int .i64 b.conf.maxSplit), .w (.int .i64 b.conf.lockMost), .w (.int .i64 b.now), .sl 6 (b.ms.map Mst.n), .w (.int .i64 b.arb.pos), .w (.int .i64 b.arb.credit), .sl 2 (b.buckets.map Bucket.r), .sl 1 (b.splits.map iR)] ++ b.mid ++ [.sl 1 (b.model.ram.map iR), .sl 1 (b.model.dev.regs.map iR), .w (.int .i64 b.model.dev.timer), .sl 1 (b.model.dev.fifo.map iR), .w (.int .i64 b.picks), .sl 7 (b.log.map Done.r)]
def Bus.rows (b : Bus) : List LB := [.arr 4 (b.conf.masters.map MConf.r), .arr 6 (b.ms.map Mst.n), .arr 2 (b.buckets.map Bucket.r), .arr 1 (b.splits.map iR), .arr 1 (b.model.ram.map iR), .arr 1 (b.model.dev.regs.map iR), .arr 1 (b.model.dev.fifo.map iR), .arr 7 (b.log.map Done.r)]
structure DAt (D : Mem) (ds : List Value) (xss : List (List Int)) (as : List (Option Nat)) : Prop where
 l1 : ds.length = xss.length
 l2 : as.length = xss.length
 pt : ∀ (i : Nat) a xs, as[i]? = some a → xss[i]? = some xs → ds[i]? = some (slOf a xs.length) ∧ (a = none → xs = []) ∧ ∀ ad, a = some ad → D ad = some ⟨xs.map (Value.int .i64), true, 1⟩
 inj : ∀ (i j : Nat) ad, as[i]? = some (some ad) → as[j]? = some (some ad) → i = j
theorem dat_nil : DAt M0 [] [] [] := ⟨rfl, rfl, fun i a xs h => by simp at h, fun i j ad h => by simp at h⟩
theorem flat_int (xs : List Int) : (xs.map fun x => [Value.int .i64 x]).flatten = xs.map (Value.int .i64) := by
 induction xs with
 | nil => rfl
 | cons x xs ih => simp only [List.map_cons, List.flatten_cons, List.cons_append, List.nil_append, ih]
theorem cells_iR {M Z} {xs : List Int} {cells : List Value} (h : LB.rel M Z (.arr 1 (xs.map iR)) cells) : cells = xs.map (Value.int .i64) := by
 obtain ⟨rows', rfl, h2, h3, h4, _⟩ := h
 have h2 : rows'.length = xs.length := by simpa using h2
 have e : rows' = xs.map (fun x => [Value.int .i64 x]) := by
  apply List.ext_getElem?
  intro i
  rw [List.getElem?_map]
  by_cases hi : i < xs.length
  · have hr' : rows'[i]? = some rows'[i] := List.getElem?_eq_getElem (by omega)
    have hp := h4 i (iR xs[i]) rows'[i] (by rw [List.getElem?_map, List.getElem?_eq_getElem hi]; rfl) hr'
    obtain ⟨x, r, e1, e2, e3⟩ := hp.uncons
    rw [hr', e1, e3.unnil, List.getElem?_eq_getElem hi]
    cases e2; rfl
  · rw [List.getElem?_eq_none (by omega), List.getElem?_eq_none (by omega)]; rfl
 rw [e, flat_int]
theorem dat_snoc {D ds xss as} (h : DAt D ds xss as) {E : Mem} {x : Value} {xs : List Int} (hE : Leaf E x 1 (xs.map iR)) (hd : ∀ a e, E a = some e → D a = none) : ∃ a, DAt (mrg E D) (ds ++ [x]) (xss ++ [xs]) (as ++ [a]) := by
 obtain ⟨oa, h1, h2, h3⟩ := hE.h
 have hl1 := h.l1
 have hl2 := h.l2
 have hnew : ∀ (i : Nat) ad xs', as[i]? = some (some ad) → xss[i]? = some xs' → oa ≠ some ad := by
  intro i ad xs' h4 h5 h6
  obtain ⟨cells, e1, _⟩ := h3 ad h6
  have := hd ad _ (by rw [e1]; simp [upd]; rfl)
  rw [(h.pt i _ xs' h4 h5).2.2 ad rfl] at this; cases this
 refine ⟨oa, by simp [hl1], by simp [hl2], fun i a ys ha hy => ?_, fun i j ad hi hj => ?_⟩
 · rw [List.getElem?_append] at ha hy ⊢
   rw [hl2] at ha
   rw [hl1]
   split at ha
   · rename_i hi
     rw [if_pos hi] at hy ⊢
     obtain ⟨g1, g2, g3⟩ := h.pt i a ys ha hy
     refine ⟨g1, g2, fun ad e => ?_⟩
     subst e
     unfold mrg
     split
     · rename_i b hb
       have := hd ad b hb
       rw [g3 ad rfl] at this; cases this
     · exact g3 ad rfl
   · rename_i hi
     rw [if_neg hi] at hy ⊢
     rw [List.getElem?_singleton] at ha hy ⊢
     split at ha
     · rename_i h0
       rw [if_pos h0] at hy ⊢
       cases ha; cases hy
       refine ⟨by rw [h1]; simp, fun e => ?_, fun ad e => ?_⟩
       · have := (h2 e).1
         exact List.map_eq_nil_iff.1 this
       · obtain ⟨cells, e1, e2⟩ := h3 ad e
         rw [e1]
         simp only [mrg, upd, if_true]
         rw [cells_iR (e2 M0 [])]
     · cases ha
 · rw [List.getElem?_append] at hi hj
   rw [hl2] at hi hj
   have lt : ∀ i : Nat, as[i]? = some (some ad) → ∃ xs', xss[i]? = some xs' := fun i h => ⟨_, List.getElem?_eq_getElem (by have := (List.getElem?_eq_some_iff.1 h).1; omega)⟩
   split at hi <;> split at hj
   · exact h.inj i j ad hi hj
   · rename_i q1 q2
     rw [List.getElem?_singleton] at hj
     split at hj
     · simp only [Option.some.injEq] at hj
       obtain ⟨xs', hx⟩ := lt i hi
       exact (hnew i ad xs' hi hx hj).elim
     · cases hj
   · rename_i q1 q2
     rw [List.getElem?_singleton] at hi
     split at hi
     · simp only [Option.some.injEq] at hi
       obtain ⟨xs', hx⟩ := lt j hj
       exact (hnew j ad xs' hj hx hi).elim
     · cases hi
   · rename_i q1 q2
     rw [List.getElem?_singleton] at hi hj
     split at hi
     · split at hj
       · omega
       · cases hj
     · cases hi
theorem dat_sub {D D' : Mem} {ds xss as} (h : DAt D ds xss as) (hs : sub D D') : DAt D' ds xss as := ⟨h.l1, h.l2, fun i a xs h1 h2 => let ⟨g1, g2, g3⟩ := h.pt i a xs h1 h2; ⟨g1, g2, fun ad e => hs _ _ (g3 ad e)⟩, h.inj⟩
theorem dat_drop {D ds xss as} (h : DAt D ds xss as) (k : Nat) : DAt D (ds.drop k) (xss.drop k) (as.drop k) := by
 refine ⟨by simp [h.l1], by simp [h.l2], fun i a xs h1 h2 => ?_, fun i j ad h1 h2 => ?_⟩
 · rw [List.getElem?_drop] at h1 h2 ⊢
   exact h.pt _ a xs h1 h2
 · rw [List.getElem?_drop] at h1 h2
   have := h.inj _ _ ad h1 h2
   omega
def Req.w (r : Req) (x : Value) : List V := [.w (.bool r.write), .w (.int .i64 r.addr), .w (.int .i64 r.size), .w (.int .i64 r.burst), .w (.bool r.lock), .raw x]
def qrows (q : List Req) (ds : List Value) : List (List V) := List.zipWith Req.w q ds
theorem Ez {q : List Req} {ds : List Value} (h : ds.length = q.length) : (qrows q ds).length = q.length := by simp [qrows, h]
theorem qrows_wr (q : List Req) (ds : List Value) : (LB.arr 6 (qrows q ds)).wordsR := by
 intro r hr v hv
 obtain ⟨i, hi⟩ := List.mem_iff_getElem?.1 hr
 unfold qrows at hi
 rw [List.getElem?_zipWith] at hi
 split at hi
 · cases hi
   simp only [Req.w, List.mem_cons, List.not_mem_nil, or_false] at hv
   rcases hv with rfl | rfl | rfl | rfl | rfl | rfl
   · exact .inl ⟨_, rfl⟩
   · exact .inl ⟨_, rfl⟩
   · exact .inl ⟨_, rfl⟩
   · exact .inl ⟨_, rfl⟩
   · exact .inl ⟨_, rfl⟩
   · exact .inr ⟨_, rfl⟩
 · cases hi
theorem qrows_wrL (q : List Req) (ds : List Value) : ∀ lb, lb ∈ [LB.arr 6 (qrows q ds)] → lb.wordsR := fun lb h => by
 rw [List.mem_singleton] at h; subst h; exact qrows_wr q ds
theorem iR_wr (xs : List Int) : (LB.arr 1 (xs.map iR)).wordsR := by
 intro r hr v hv
 obtain ⟨y, _, rfl⟩ := List.mem_map.1 hr
 simp [iR] at hv
 exact .inl ⟨_, hv⟩
theorem qrows_snoc {q : List Req} {ds : List Value} (h : ds.length = q.length) (r : Req) (x : Value) : qrows (q ++ [r]) (ds ++ [x]) = qrows q ds ++ [r.w x] := by
 unfold qrows
 rw [List.zipWith_append h.symm]; rfl
theorem take_snocR {α : Type} {xs : List α} {i : Nat} {y : α} (h : xs[i]? = some y) : xs.take (i + 1) = xs.take i ++ [y] := take_get h
def one (a : Option Nat) (xs : List Int) : Mem := match a with
 | some ad => upd M0 ad (some ⟨xs.map (Value.int .i64), true, 1⟩)
 | none => M0
theorem one_dom {a : Option Nat} {xs ys : List Int} {b : Nat} (h : one a xs b ≠ none) : one a ys b ≠ none := by
 cases a with
 | none => exact absurd rfl h
 | some ad =>
   simp only [one, upd] at h ⊢
   split
   · exact nofun
   · rename_i hn; rw [if_neg hn] at h; exact absurd rfl h
theorem rel_iR (M : Mem) (Z : Zl) (xs : List Int) : LB.rel M Z (.arr 1 (xs.map iR)) (xs.map (Value.int .i64)) := by
 refine ⟨xs.map (fun x => [Value.int .i64 x]), (flat_int xs).symm, by simp, fun r' hr => ?_, fun i r r' h1 h2 => ?_, fun i r j x h1 h2 => ?_⟩
 · obtain ⟨y, _, rfl⟩ := List.mem_map.1 hr; rfl
 · rw [List.getElem?_map] at h1 h2
   cases e : xs[i]? with
   | none => rw [e] at h1; cases h1
   | some y =>
     rw [e] at h1 h2
     cases h1; cases h2
     exact Pt.cons (.w rfl) Pt.nil
 · rw [List.getElem?_map] at h1
   cases e : xs[i]? with
   | none => rw [e] at h1; cases h1
   | some y =>
     rw [e] at h1; cases h1
     cases j with
     | zero => cases h2; rfl
     | succ j => simp [iR] at h2
theorem gx_337 (xs : List Int) (k : Int) (a : Option Nat) (hl : xs.length ≤ 1048576) (hk : 0 ≤ k ∧ k ≤ 1099511627776) (hn : a = none → xs = []) :
 GX prg 337 [] (one a xs) [.raw (slOf a xs.length), .w (.int .i64 k)] (fun u L1 D1 => u = .w (.int .i64 (k + 1 * xs.length)) ∧ L1 = [] ∧ D1 = one a ((List.range xs.length).map (markI k))) := by
 refine ⟨fun args bs m n Ma Z0 hF hb hs hA hX hp => ?_⟩
 have hZ0 : Z0 = [] := List.map_eq_nil_iff.1 hA.hL
 subst hZ0
 obtain ⟨x, r, rfl, p1, p2⟩ := hp.uncons
 obtain ⟨y, r, rfl, p3, p4⟩ := p2.uncons
 rw [p4.unnil]
 obtain ⟨rfl, _⟩ := p1.raw_inv
 have hone : ∀ ad, a = some ad → m ad = some ⟨xs.map (Value.int .i64), true, 1⟩ ∧ bs ≤ ad ∧ ad < n ∧ Ma ad = none := by
  intro ad e
  subst e
  obtain ⟨g1, _, g3, g4, g5, _⟩ := hX ad ⟨xs.map (Value.int .i64), true, 1⟩ (by simp [one, upd])
  exact ⟨g1, g3, g4, g5⟩
 have hz1 : ∀ (i : Nat) p, ([(a, LB.arr 1 (xs.map iR))] : Zl)[i]? = some p → i = 0 ∧ p = (a, .arr 1 (xs.map iR)) := by
  intro i p h
  cases i with
  | zero => simp at h; exact ⟨rfl, h.symm⟩
  | succ i => simp at h
 have hLent : Lent bs n Ma m [(a, .arr 1 (xs.map iR))] [.arr 1 (xs.map iR)] := by
  refine ⟨rfl, fun b hb' => ?_, fun i lb h => ?_, fun i j b l1 l2 h1 h2 => ?_, fun i b lb h => ?_⟩
  · obtain ⟨i, lb, hi⟩ := adrs_mem.1 hb'
    obtain ⟨_, e⟩ := hz1 i _ hi
    cases e
    exact (hone b rfl).2
  · obtain ⟨_, e⟩ := hz1 i _ h
    cases e
    exact .inr ⟨1, by rw [hn rfl]; rfl⟩
  · rw [(hz1 i _ h1).1, (hz1 j _ h2).1]
  · obtain ⟨_, e⟩ := hz1 i _ h
    cases e
    exact ⟨_, (hone b rfl).1, rel_iR _ _ xs⟩
 have hp' : Pt (RL Ma [(a, .arr 1 (xs.map iR))]) [.ls 0 xs.length, .w (.int .i64 k)] [slOf a xs.length, y] := by
  refine Pt.cons (.ls (k := 1) (a := a) (rows := xs.map iR) rfl (by simp) (by unfold slOf; split <;> rfl) fun _ => rfl) (Pt.cons ?_ Pt.nil)
  obtain ⟨e1, e2⟩ := p3.w_inv
  rw [e1]; exact .fz (.w e2)
 refine ((cg_337 xs k hl hk).run _ bs m n Ma _ hF hb hs hLent hp').mono fun v m1 n1 ⟨u, M1, Z1, g1, ⟨g2, g3⟩, B⟩ => ?_
 subst g2
 obtain ⟨p1', e1, e2⟩ := B.ext 0 _ rfl
 obtain ⟨a1, lb1⟩ := p1'
 have hl1 : lb1 = .arr 1 (((List.range xs.length).map (markI k)).map iR) := by
  have : (Z1.map (·.2))[0]? = some lb1 := by rw [List.getElem?_map, e1]; rfl
  rw [g3] at this; simpa using this.symm
 subst hl1
 have ha : a1 = a := by
  rcases e2.arr with ⟨r1, h1, h2, h3⟩ | h
  · cases h1
    exact h3 (by simp)
  · cases h
 subst ha
 obtain ⟨rfl, _⟩ := g1.w_inv
 refine ⟨_, [], one a1 ((List.range xs.length).map (markI k)), .fz (.w rfl), ⟨rfl, rfl, rfl⟩, ⟨fun i b lb h => by simp at h, fun i lb h => by simp at h, fun i j b l1 l2 h => by simp at h, fun b x h1 h2 h3 => B.keep b x (fun hb' => ?_) h3, fun b p h => by simp at h, fun i b lb h => by simp at h, fun b y hy => ?_⟩⟩
 · obtain ⟨i, lb, hi⟩ := adrs_mem.1 hb'
   obtain ⟨_, e⟩ := hz1 i _ hi
   cases e
   simp [one, upd] at h2
 · cases a1 with
   | none => cases hy
   | some ad =>
     simp only [one, upd] at hy
     split at hy
     · rename_i e
       subst e
       cases hy
       obtain ⟨h1, h2, cells, h3, h4⟩ := B.cell 0 b _ e1
       rw [cells_iR h4] at h3
       exact ⟨h3, rfl, h2, .inl (by simp [one, upd]), by simp [adrs]⟩
     · cases hy
def mrkR (r : Req) (k : Int) : Req := ⟨decide (k.tmod 3 = 0), k + 1, k + 1 + 1, k + 1 + 1 + 1, decide ((k + 1 + 1 + 1 + 1).tmod 3 = 0), (List.range r.data.length).map (markI (k + 1 + 1 + 1 + 1 + 1))⟩
def dlen (q : List Req) (i : Nat) : Int := match q[i]? with | some r => r.data.length | none => 0
def kAt (q : List Req) (k : Int) : Nat → Int
 | 0 => k
 | i + 1 => kAt q k i + 1 + 1 + 1 + 1 + 1 + 1 * dlen q i
def markQ (q : List Req) (k : Int) : List Req := q.mapIdx fun i r => mrkR r (kAt q k i)
def mixQ (q : List Req) (k : Int) (i : Nat) : List Req := q.mapIdx fun j r => if j < i then mrkR r (kAt q k j) else r
def sumQ : List Req → Int
 | [] => 0
 | r :: q => r.data.length + sumQ q
theorem sumQ_nn : ∀ q, 0 ≤ sumQ q
 | [] => Int.le_refl _
 | r :: q => by have := sumQ_nn q; rw [sumQ]; omega
theorem sumQ_take : ∀ (q : List Req) (i : Nat), sumQ (q.take i) + dlen q i ≤ sumQ q ∧ sumQ (q.take (i + 1)) = sumQ (q.take i) + dlen q i
 | [], i => by simp [sumQ, dlen]
 | r :: q, 0 => by have := sumQ_nn q; simp [sumQ, dlen]; omega
 | r :: q, i + 1 => by
   have h := sumQ_take q i
   have e : dlen (r :: q) (i + 1) = dlen q i := by simp [dlen]
   rw [e]
   simp only [List.take_succ_cons, sumQ]
   omega
theorem kAt_eq (q : List Req) (k : Int) : ∀ i, kAt q k i = k + 5 * i + sumQ (q.take i)
 | 0 => by simp [kAt, sumQ]
 | i + 1 => by rw [kAt, kAt_eq q k i, (sumQ_take q i).2]; omega
theorem kAt_bd {q : List Req} {k : Int} {i : Nat} (hq : q.length ≤ 1048576) (h : sumQ q ≤ 1048576) (hk : 0 ≤ k ∧ k ≤ 8388608) (hi : i ≤ q.length) : 0 ≤ kAt q k i ∧ kAt q k i ≤ 16777216 ∧ 0 ≤ dlen q i ∧ dlen q i ≤ 1048576 := by
 have h1 := sumQ_take q i
 have h2 := sumQ_nn (q.take i)
 have h3 : 0 ≤ dlen q i := by unfold dlen; split <;> omega
 rw [kAt_eq]
 omega
theorem dlen_of {q : List Req} {i : Nat} {r : Req} (h : q[i]? = some r) : dlen q i = r.data.length := by unfold dlen; rw [h]
theorem mixQ_zero (q : List Req) (k : Int) : mixQ q k 0 = q := by
 unfold mixQ
 apply List.ext_getElem?
 intro i
 rw [List.getElem?_mapIdx]
 cases q[i]? <;> simp
theorem mixQ_len (q : List Req) (k : Int) (i : Nat) : (mixQ q k i).length = q.length := by simp [mixQ]
theorem mixQ_end (q : List Req) (k : Int) {i : Nat} (h : q.length ≤ i) : mixQ q k i = markQ q k := by
 unfold mixQ markQ
 apply List.ext_getElem?
 intro j
 rw [List.getElem?_mapIdx, List.getElem?_mapIdx]
 cases e : q[j]? with
 | none => rfl
 | some r =>
   have := (List.getElem?_eq_some_iff.1 e).1
   simp only [Option.map_some]
   rw [if_pos (by omega)]
theorem mixQ_at {q : List Req} {k : Int} {i : Nat} {r : Req} (h : q[i]? = some r) : (mixQ q k i)[i]? = some r := by
 unfold mixQ
 rw [List.getElem?_mapIdx, h]; simp
theorem mixQ_set {q : List Req} {k : Int} {i : Nat} {r : Req} (h : q[i]? = some r) : (mixQ q k i).set i (mrkR r (kAt q k i)) = mixQ q k (i + 1) := by
 unfold mixQ
 apply List.ext_getElem?
 intro j
 have hi := (List.getElem?_eq_some_iff.1 h).1
 rw [List.getElem?_set, List.getElem?_mapIdx, List.getElem?_mapIdx]
 by_cases e : i = j
 · subst e
   rw [if_pos rfl, if_pos (by simpa using hi), h]
   simp
 · rw [if_neg e]
   cases e2 : q[j]? with
   | none => rfl
   | some r' =>
     simp only [Option.map_some]
     by_cases h1 : j < i
     · rw [if_pos h1, if_pos (by omega)]
     · rw [if_neg h1, if_neg (by omega)]
theorem qrows_set {q : List Req} {ds : List Value} {i : Nat} {r : Req} {x : Value} (hx : ds[i]? = some x) : (qrows q ds).set i (r.w x) = qrows (q.set i r) ds := by
 unfold qrows
 apply List.ext_getElem?
 intro j
 rw [List.getElem?_set, List.getElem?_zipWith, List.getElem?_zipWith, List.getElem?_set]
 by_cases e : i = j
 · subst e
   rw [if_pos rfl, if_pos rfl]
   have := (List.getElem?_eq_some_iff.1 hx).1
   by_cases h : i < q.length
   · rw [if_pos (by simp; omega), if_pos h, hx]
   · rw [if_neg (by simp; omega), if_neg h]
 · rw [if_neg e, if_neg e]
theorem qrows_at {q : List Req} {ds : List Value} {i : Nat} {r : Req} {x : Value} (h : q[i]? = some r) (hx : ds[i]? = some x) : (qrows q ds)[i]? = some (r.w x) := by
 unfold qrows
 rw [List.getElem?_zipWith, h, hx]
theorem dat_at {D ds} {q : List Req} {as} {i : Nat} {r : Req} (h : DAt D ds (q.map Req.data) as) (hr : q[i]? = some r) : ∃ a, as[i]? = some a ∧ ds[i]? = some (slOf a r.data.length) ∧ (a = none → r.data = []) ∧ sub (one a r.data) D := by
 have hi := (List.getElem?_eq_some_iff.1 hr).1
 have hl := h.l2
 rw [List.length_map] at hl
 have ha : as[i]? = some as[i] := List.getElem?_eq_getElem (by omega)
 obtain ⟨g1, g2, g3⟩ := h.pt i _ r.data ha (by rw [List.getElem?_map, hr]; rfl)
 refine ⟨as[i], ha, g1, g2, fun b y hy => ?_⟩
 generalize as[i] = a at *
 cases a with
 | none => cases hy
 | some ad =>
   simp only [one, upd] at hy
   split at hy
   · rename_i e; subst e; cases hy; exact g3 b rfl
   · cases hy
theorem dat_mark {D ds} {q : List Req} {as} {i : Nat} {r r' : Req} {a : Option Nat} (h : DAt D ds (q.map Req.data) as) (hr : q[i]? = some r) (ha : as[i]? = some a) (hl : r'.data.length = r.data.length) : DAt (ovr D (one a r.data) (one a r'.data)) ds ((q.set i r').map Req.data) as := by
 have hi := (List.getElem?_eq_some_iff.1 hr).1
 refine ⟨by rw [h.l1]; simp, by rw [h.l2]; simp, fun j b xs hb hx => ?_, h.inj⟩
 rw [List.getElem?_map, List.getElem?_set] at hx
 by_cases e : i = j
 · subst e
   rw [if_pos rfl, if_pos hi] at hx
   cases hx
   rw [ha] at hb; cases hb
   obtain ⟨g1, g2, g3⟩ := h.pt i a r.data ha (by rw [List.getElem?_map, hr]; rfl)
   refine ⟨by rw [hl]; exact g1, fun e => ?_, fun ad e => ?_⟩
   · have := g2 e
     exact List.eq_nil_of_length_eq_zero (by rw [hl, this]; rfl)
   · subst e
     simp [ovr, one, upd]
 · rw [if_neg e] at hx
   obtain ⟨g1, g2, g3⟩ := h.pt j b xs hb (by rw [List.getElem?_map]; exact hx)
   refine ⟨g1, g2, fun ad e2 => ?_⟩
   subst e2
   have hne : a ≠ some ad := fun e3 => e (h.inj i j ad (by rw [ha, e3]) hb)
   rw [← g3 ad rfl]
   cases a with
   | none => rfl
   | some a0 =>
     have h0 : ad ≠ a0 := fun e3 => hne (by rw [e3])
     simp [ovr, one, upd, h0, M0]
theorem ovr_dom {D O0 D1 : Mem} {a : Nat} (h : ovr D O0 D1 a ≠ none) (h1 : ∀ a, D1 a ≠ none → D a ≠ none) : D a ≠ none := by
 unfold ovr at h
 split at h
 · rename_i e; exact h1 a (by rw [e]; exact nofun)
 · split at h
   · exact absurd rfl h
   · exact h
theorem sets2' {α : Type} (rows : List α) (i : Nat) (x y : α) : (rows.set i x).set i y = rows.set i y := List.set_set ..
theorem mrkR_len (r : Req) (k : Int) : (mrkR r k).data.length = r.data.length := by simp [mrkR]
theorem gx_375 (q : List Req) (ds : List Value) (as : List (Option Nat)) (D : Mem) (k : Int) (hD : DAt D ds (q.map Req.data) as) (hql : q.length ≤ 1048576) (hb : sumQ q ≤ 1048576) (hk : 0 ≤ k ∧ k ≤ 8388608) : GX prg 375 [.arr 6 (qrows q ds)] D [.ls 0 q.length, .w (.int .i64 k)] (fun u L1 D1 => u = .w (.int .i64 (kAt q k q.length)) ∧ L1 = [.arr 6 (qrows (markQ q k) ds)] ∧ DAt D1 ds ((markQ q k).map Req.data) as ∧ ∀ a, D1 a ≠ none → D a ≠ none) := by
 have hdl : ds.length = q.length := by have := hD.l1; simpa using this
 refine gx_in1 g375 (Em [0, 1] rfl (X_seq (x_rg (Ei (Ee rfl) (Ew (Et (Em [0, 1] rfl (X_seq (X_seq (x_rg (Ei (Ee rfl) ?_)))))))))))
 refine Ew (Et (Em [0, 1, 5] rfl (X_block (X_loop (ι := Nat × Mem) (fun p => p.1 ≤ q.length ∧ DAt p.2 ds ((mixQ q k p.1).map Req.data) as ∧ ∀ a, p.2 a ≠ none → D a ≠ none) (fun p => [(5, .w (.int .i64 (p.1 : Int))), (1, .w (.int .i64 (kAt q k p.1)))]) (fun p => [.arr 6 (qrows (mixQ q k p.1) ds)]) (fun p => [p.2]) (fun p => q.length - p.1) 1 (0, D) ⟨Nat.zero_le _, by rw [mixQ_zero]; exact hD, fun a h => h⟩ rfl (hasOf ⟨rfl, rfl, trivial⟩ (by simp only [mixQ_zero]; rfl)) rfl rfl (fun _ _ => rfl) (fun _ _ => ⟨rfl, rfl⟩) ?_))))
 rintro ⟨i, p2⟩ hp
 obtain ⟨hi, hp2, hp3⟩ := hp
 simp only at hi hp2 hp3
 have hkb := kAt_bd hql hb hk hi
 have hrl : (qrows (mixQ q k i) ds).length = q.length := by rw [Ez (by rw [mixQ_len]; exact hdl), mixQ_len]
 obtain ⟨r0, hr0⟩ : ∃ r, i < q.length → q[i]? = some r := by
  by_cases h : i < q.length
  · exact ⟨q[i], fun _ => List.getElem?_eq_getElem h⟩
  · exact ⟨⟨false, 0, 0, 0, false, []⟩, fun h2 => absurd h2 h⟩
 obtain ⟨a0, ha0⟩ : ∃ a, i < q.length → as[i]? = some a ∧ ds[i]? = some (slOf a r0.data.length) ∧ (a = none → r0.data = []) ∧ sub (one a r0.data) p2 := by
  by_cases h : i < q.length
  · obtain ⟨a, ha⟩ := dat_at hp2 (mixQ_at (k := k) (hr0 h))
    exact ⟨a, fun _ => ha⟩
  · exact ⟨none, fun h2 => absurd h2 h⟩
 refine Em [0, 1, 5] rfl ?_
 dsimp only
 refine X_seq (X_seq (x_rg (Ei (Ee rfl) (Ei (Ee rfl) (Ei (o_lenL rfl rfl (by (try simp only [Int.toNat_natCast, List.length_set]); first | exact hrl | rw [Ez hdl])) (Ei (o_lss rfl rfl) (Ew (Et (Em [0, 1, 5, 9] rfl ?_)))))))))
 first | refine x_condD rfl ?_ ?_ | refine x_condB rfl ?_ ?_
 intro h1
 try rw [nnp] at h1
 refine x_skip (Et (Em [0, 1, 5] rfl (X_seq (X_block (X_seq (x_rg (Ei (Ee rfl) (Ei (Ee rfl) (Ei (Ee rfl) ?_)))))))))
 first | refine Ei (o_rem rfl rfl (by decide)) ?_ | refine Ei (o_rem rfl rfl (by omega)) ?_
 refine Ei (o_eql rfl rfl) (Ei (o_iaL rfl rfl (by (try simp only [Int.toNat_natCast, List.length_set]); first | exact hrl | rw [Ez hdl]) rfl (by omega)) (Ei (o_faA rfl rfl (by (try simp only [Int.toNat_natCast, List.length_set]); first | exact hrl | rw [Ez hdl])) (x_opN (o_stA rfl rfl rfl rfl (by (try simp only [Int.toNat_natCast, List.length_set]); first | exact hrl | rw [Ez hdl]) (by (try rw [Int.toNat_natCast]); first | exact set_at (by (try simp only [List.length_set]); omega) | exact qrows_at (mixQ_at (hr0 (by omega))) (ha0 (by omega)).2.1) rfl rfl) (Ew (Et (Em [0, 1, 5] rfl (X_seq (x_rg (Ei (Ee rfl) ?_)))))))))
 first | refine Ei (o_addn rfl rfl (by omega)) ?_ | refine Ei (o_add rfl rfl) ?_
 refine Ei (Ee rfl) (Ew (Et (Em [0, 1, 5] rfl (X_seq (x_rg (Ei (Ee rfl) (Ei (Ee rfl) (Ei (Ee rfl) (Ei (o_iaL rfl rfl (by (try simp only [Int.toNat_natCast, List.length_set]); first | exact hrl | rw [Ez hdl]) rfl (by omega)) (Ei (o_faA rfl rfl (by (try simp only [Int.toNat_natCast, List.length_set]); first | exact hrl | rw [Ez hdl])) (x_opN (o_stA rfl rfl rfl rfl (by (try simp only [Int.toNat_natCast, List.length_set]); first | exact hrl | rw [Ez hdl]) (by (try rw [Int.toNat_natCast]); first | exact set_at (by (try simp only [List.length_set]); omega) | exact qrows_at (mixQ_at (hr0 (by omega))) (ha0 (by omega)).2.1) rfl rfl) ?_)))))))))))
 refine Ew (Et (Em [0, 1, 5] rfl (X_seq (x_rg (Ei (Ee rfl) ?_)))))
 first | refine Ei (o_addn rfl rfl (by omega)) ?_ | refine Ei (o_add rfl rfl) ?_
 refine Ei (Ee rfl) (Ew (Et (Em [0, 1, 5] rfl (X_seq (x_rg (Ei (Ee rfl) (Ei (Ee rfl) (Ei (Ee rfl) (Ei (o_iaL rfl rfl (by (try simp only [Int.toNat_natCast, List.length_set]); first | exact hrl | rw [Ez hdl]) rfl (by omega)) (Ei (o_faA rfl rfl (by (try simp only [Int.toNat_natCast, List.length_set]); first | exact hrl | rw [Ez hdl])) (x_opN (o_stA rfl rfl rfl rfl (by (try simp only [Int.toNat_natCast, List.length_set]); first | exact hrl | rw [Ez hdl]) (by (try rw [Int.toNat_natCast]); first | exact set_at (by (try simp only [List.length_set]); omega) | exact qrows_at (mixQ_at (hr0 (by omega))) (ha0 (by omega)).2.1) rfl rfl) ?_)))))))))))
 refine Ew (Et (Em [0, 1, 5] rfl (X_seq (x_rg (Ei (Ee rfl) ?_)))))
 first | refine Ei (o_addn rfl rfl (by omega)) ?_ | refine Ei (o_add rfl rfl) ?_
 refine Ei (Ee rfl) (Ew (Et (Em [0, 1, 5] rfl (X_seq (x_rg (Ei (Ee rfl) (Ei (Ee rfl) (Ei (Ee rfl) (Ei (o_iaL rfl rfl (by (try simp only [Int.toNat_natCast, List.length_set]); first | exact hrl | rw [Ez hdl]) rfl (by omega)) (Ei (o_faA rfl rfl (by (try simp only [Int.toNat_natCast, List.length_set]); first | exact hrl | rw [Ez hdl])) (x_opN (o_stA rfl rfl rfl rfl (by (try simp only [Int.toNat_natCast, List.length_set]); first | exact hrl | rw [Ez hdl]) (by (try rw [Int.toNat_natCast]); first | exact set_at (by (try simp only [List.length_set]); omega) | exact qrows_at (mixQ_at (hr0 (by omega))) (ha0 (by omega)).2.1) rfl rfl) ?_)))))))))))
 refine Ew (Et (Em [0, 1, 5] rfl (X_seq (x_rg (Ei (Ee rfl) ?_)))))
 first | refine Ei (o_addn rfl rfl (by omega)) ?_ | refine Ei (o_add rfl rfl) ?_
 refine Ei (Ee rfl) (Ew (Et (Em [0, 1, 5] rfl (X_seq (x_rg (Ei (Ee rfl) (Ei (Ee rfl) (Ei (Ee rfl) ?_))))))))
 first | refine Ei (o_rem rfl rfl (by decide)) ?_ | refine Ei (o_rem rfl rfl (by omega)) ?_
 refine Ei (o_eql rfl rfl) (Ei (o_iaL rfl rfl (by (try simp only [Int.toNat_natCast, List.length_set]); first | exact hrl | rw [Ez hdl]) rfl (by omega)) (Ei (o_faA rfl rfl (by (try simp only [Int.toNat_natCast, List.length_set]); first | exact hrl | rw [Ez hdl])) (x_opN (o_stA rfl rfl rfl rfl (by (try simp only [Int.toNat_natCast, List.length_set]); first | exact hrl | rw [Ez hdl]) (by (try rw [Int.toNat_natCast]); first | exact set_at (by (try simp only [List.length_set]); omega) | exact qrows_at (mixQ_at (hr0 (by omega))) (ha0 (by omega)).2.1) rfl rfl) (Ew (Et (Em [0, 1, 5] rfl (X_seq (x_rg (Ei (Ee rfl) ?_)))))))))
 first | refine Ei (o_addn rfl rfl (by omega)) ?_ | refine Ei (o_add rfl rfl) ?_
 refine Ei (Ee rfl) (Ew (Et (Em [0, 1, 5] rfl (x_rg (Ei (Ee rfl) (Ei (Ee rfl) (Ei (o_iaL rfl rfl (by (try simp only [Int.toNat_natCast, List.length_set]); first | exact hrl | rw [Ez hdl]) rfl (by omega)) (Ei (o_faA rfl rfl (by (try simp only [Int.toNat_natCast, List.length_set]); first | exact hrl | rw [Ez hdl])) (Ei (o_ldA rfl rfl (by (try simp only [Int.toNat_natCast, List.length_set]); first | exact hrl | rw [Ez hdl]) (by (try rw [Int.toNat_natCast]); first | exact set_at (by (try simp only [List.length_set]); omega) | exact qrows_at (mixQ_at (hr0 (by omega))) (ha0 (by omega)).2.1) rfl) (Ei (Ee rfl) (x_callM [] 0 rfl rfl rfl rfl (by simp) rfl (ha0 (by omega)).2.2.2 (gx_337 r0.data _ a0 (by have h9 := dlen_of (hr0 (by omega)); omega) (by omega) (ha0 (by omega)).2.2.1) (fun u L1 D1 h a ha => by rw [h.2.2] at ha; exact one_dom ha) ?_)))))))))))
 rintro u L1 D1 ⟨rfl, rfl, rfl⟩
 refine ⟨_, _, rfl, rfl, ?_⟩
 refine Ei (Ee rfl) (Ew (y_blkN (Et (Em [0, 1, 5] rfl (x_rg (Ei (Ee rfl) ?_))))))
 first | refine Ei (o_addn rfl rfl (by omega)) ?_ | refine Ei (o_add rfl rfl) ?_
 refine Ei (Ee rfl) (Ew (y_loopN ?_))
 · have hil : i < q.length := by omega
   refine ⟨(i + 1, ovr p2 (one a0 r0.data) (one a0 (mrkR r0 (kAt q k i)).data)), ⟨hil, ?_, fun a h => hp3 a (ovr_dom h fun b hb => ?_)⟩, by simp only; omega, hasOf ⟨rfl, congrArg (fun b => some (V.w (.int .i64 b))) ?_, trivial⟩ ?_, rfl⟩
   · rw [← mixQ_set (hr0 hil)]; exact dat_mark hp2 (mixQ_at (hr0 hil)) (ha0 hil).1 (mrkR_len _ _)
   · have h1 := one_dom (ys := r0.data) hb
     cases e : one a0 r0.data b with
     | none => exact absurd e h1
     | some y => rw [(ha0 hil).2.2.2 b y e]; exact nofun
   · rw [kAt, dlen_of (hr0 hil)]
   · simp only [Int.toNat_natCast, sets2']
     rw [← mixQ_set (hr0 hil), ← qrows_set (ha0 hil).2.1]; rfl
 intro h1
 try rw [nnp] at h1
 refine x_exit (y_seqX (y_loopX (y_blkH (Et (Em [1] rfl (X_seq (x_rg (Ei (Ee rfl) (Ei (Ee rfl) (Ew (Et ?_)))))))))))
 refine Em [4] rfl (x_ret ?_)
 · refine retX_leaf [] p2 (.inr rfl) rfl rfl rfl rfl rfl (show (List.range 1 ++ []).Nodup by decide) (.inr ⟨0, rfl⟩) (qrows_wrL _ _) ?_
   rw [show i = q.length by omega, mixQ_end q k (Nat.le_refl _)]
   exact ⟨rfl, rfl, by rw [← mixQ_end q k (show q.length ≤ i by omega)]; exact hp2, hp3⟩
theorem markQ_at {q : List Req} {k : Int} {i : Nat} {r y : Req} (h : q[i]? = some r) (hy : (markQ q k)[i]? = some y) : y = mrkR r (kAt q k i) := by
 unfold markQ at hy
 rw [List.getElem?_mapIdx, h] at hy
 cases hy; rfl
theorem markQ_len (q : List Req) (k : Int) : (markQ q k).length = q.length := by simp [markQ]
theorem kAt_step {q : List Req} {k : Int} {i : Nat} {r : Req} (h : q[i]? = some r) : kAt q k i + 1 + 1 + 1 + 1 + 1 + 1 * (r.data.length : Int) = kAt q k (i + 1) := by rw [kAt, dlen_of h]
theorem cq_376 (q : List Req) (k : Int) (hql : q.length ≤ 1048576) (hb : sumQ q ≤ 1048576) (hk : 0 ≤ k ∧ k ≤ 8388608) : CV prg 376 [.sl 6 ((markQ q k).map Req.r), .w (.int .i64 k)] (fun res => res = .w (.int .i64 (kAt q k q.length))) := by
 have hml := markQ_len q k
 refine cv_in g376 (Eb [0, 1] rfl (Ef (Eg (Ea (Ee rfl) (Ed (Ec (Eb [0, 1] rfl (Ef (Ef (Eg (Ea (Ee rfl) ?_)))))))))))
 refine Ed (Ec (Eb [0, 1, 5] rfl (S_block (S_loop0 (ι := Nat) (fun i => i ≤ q.length) (fun i => [(5, .w (.int .i64 (i : Int))), (1, .w (.int .i64 (kAt q k i)))]) (fun i => q.length - i) 0 (by simp) rfl ⟨rfl, rfl, trivial⟩ (fun _ _ => rfl) rfl ?_))))
 intro i hi
 have hkb := kAt_bd hql hb hk hi
 obtain ⟨r0, hr0⟩ : ∃ r, i < q.length → q[i]? = some r := by
  by_cases h : i < q.length
  · exact ⟨q[i], fun _ => List.getElem?_eq_getElem h⟩
  · exact ⟨⟨false, 0, 0, 0, false, []⟩, fun h2 => absurd h2 h⟩
 refine Eb [0, 1, 5] rfl (Ef (Ef (Eg (Ea (Ee rfl) (Ea (Ee rfl) ?_)))))
 first | refine Ea (o_lenM rfl) ?_ | refine Ea (o_len rfl) ?_
 refine Ea (o_lss rfl rfl) (Ed (Ec (Eb [0, 1, 5, 9] rfl ?_)))
 first | refine Ev rfl ?_ ?_ | refine Eo rfl ?_ ?_
 intro h1
 try rw [nnp] at h1
 refine Ey (Ec (Eb [0, 1, 5] rfl (Ef (S_block (Ef (Ef (Eg (Ea (Ee rfl) (Ea (Ee rfl) (s_iaM rfl rfl (by omega) ?_))))))))))
 intro y2 e2
 simp only [Int.toNat_natCast] at e2; obtain rfl := markQ_at (hr0 (by omega)) e2
 refine Ea (o_fa rfl) (Ea (o_ld rfl rfl) (Ea (Ee rfl) ?_))
 first | refine Ea (o_rem rfl rfl (by decide)) ?_ | refine Ea (o_rem rfl rfl (by omega)) ?_
 refine Ea (o_eql rfl rfl) (Ea (o_eqb rfl rfl) (Ed (Ec (Eb [0, 1, 5, 20] rfl ?_))))
 first | refine s_condNB rfl ?_ ?_ | refine Eo rfl ?_ ?_
 intro h3
 try rw [nnp] at h3
 refine Ef (Eg (Ea (Ee rfl) (Ed (Ec (Eb [4] rfl (Ek (Ep (q_blkR (Ep (q_loopR (q_blkR ?_)))))))))))
 refine Ep (En rfl rfl ?_)
 rotate_left
 intro h3
 try rw [nnp] at h3
 refine Ey (Ec (Eb [0, 1, 5] rfl (Ef (Eg (Ea (Ee rfl) ?_)))))
 first | refine Ea (o_addn rfl rfl (by omega)) ?_ | refine Ea (o_add rfl rfl) ?_
 refine Ea (Ee rfl) (Ed (Ec (Eb [0, 1, 5] rfl (Ef (Ef (Eg (Ea (Ee rfl) (Ea (Ee rfl) (s_iaM rfl rfl (by omega) ?_)))))))))
 intro y4 e4
 simp only [Int.toNat_natCast] at e4; obtain rfl := markQ_at (hr0 (by omega)) e4
 refine Ea (o_fa rfl) (Ea (o_ld rfl rfl) (Ea (Ee rfl) (Ea (o_neq rfl rfl) (Ed (Ec (Eb [0, 1, 5, 29] rfl ?_))))))
 first | refine Ev rfl ?_ ?_ | refine Eo rfl ?_ ?_
 intro h5
 try rw [nnp] at h5
 refine Ef (Eg (Ea (Ee rfl) (Ed (Ec (Eb [4] rfl (Ek (Ep (q_blkR (Ep (q_loopR (q_blkR ?_)))))))))))
 refine Ep (En rfl rfl ?_)
 rotate_left
 intro h5
 try rw [nnp] at h5
 refine Ey (Ec (Eb [0, 1, 5] rfl (Ef (Eg (Ea (Ee rfl) ?_)))))
 first | refine Ea (o_addn rfl rfl (by omega)) ?_ | refine Ea (o_add rfl rfl) ?_
 refine Ea (Ee rfl) (Ed (Ec (Eb [0, 1, 5] rfl (Ef (Ef (Eg (Ea (Ee rfl) (Ea (Ee rfl) (s_iaM rfl rfl (by omega) ?_)))))))))
 intro y6 e6
 simp only [Int.toNat_natCast] at e6; obtain rfl := markQ_at (hr0 (by omega)) e6
 refine Ea (o_fa rfl) (Ea (o_ld rfl rfl) (Ea (Ee rfl) (Ea (o_neq rfl rfl) (Ed (Ec (Eb [0, 1, 5, 38] rfl ?_))))))
 first | refine Ev rfl ?_ ?_ | refine Eo rfl ?_ ?_
 intro h7
 try rw [nnp] at h7
 refine Ef (Eg (Ea (Ee rfl) (Ed (Ec (Eb [4] rfl (Ek (Ep (q_blkR (Ep (q_loopR (q_blkR ?_)))))))))))
 refine Ep (En rfl rfl ?_)
 rotate_left
 intro h7
 try rw [nnp] at h7
 refine Ey (Ec (Eb [0, 1, 5] rfl (Ef (Eg (Ea (Ee rfl) ?_)))))
 first | refine Ea (o_addn rfl rfl (by omega)) ?_ | refine Ea (o_add rfl rfl) ?_
 refine Ea (Ee rfl) (Ed (Ec (Eb [0, 1, 5] rfl (Ef (Ef (Eg (Ea (Ee rfl) (Ea (Ee rfl) (s_iaM rfl rfl (by omega) ?_)))))))))
 intro y8 e8
 simp only [Int.toNat_natCast] at e8; obtain rfl := markQ_at (hr0 (by omega)) e8
 refine Ea (o_fa rfl) (Ea (o_ld rfl rfl) (Ea (Ee rfl) (Ea (o_neq rfl rfl) (Ed (Ec (Eb [0, 1, 5, 47] rfl ?_))))))
 first | refine Ev rfl ?_ ?_ | refine Eo rfl ?_ ?_
 intro h9
 try rw [nnp] at h9
 refine Ef (Eg (Ea (Ee rfl) (Ed (Ec (Eb [4] rfl (Ek (Ep (q_blkR (Ep (q_loopR (q_blkR ?_)))))))))))
 refine Ep (En rfl rfl ?_)
 rotate_left
 intro h9
 try rw [nnp] at h9
 refine Ey (Ec (Eb [0, 1, 5] rfl (Ef (Eg (Ea (Ee rfl) ?_)))))
 first | refine Ea (o_addn rfl rfl (by omega)) ?_ | refine Ea (o_add rfl rfl) ?_
 refine Ea (Ee rfl) (Ed (Ec (Eb [0, 1, 5] rfl (Ef (Ef (Eg (Ea (Ee rfl) (Ea (Ee rfl) (s_iaM rfl rfl (by omega) ?_)))))))))
 intro y10 e10
 simp only [Int.toNat_natCast] at e10; obtain rfl := markQ_at (hr0 (by omega)) e10
 refine Ea (o_fa rfl) (Ea (o_ld rfl rfl) (Ea (Ee rfl) ?_))
 first | refine Ea (o_rem rfl rfl (by decide)) ?_ | refine Ea (o_rem rfl rfl (by omega)) ?_
 refine Ea (o_eql rfl rfl) (Ea (o_eqb rfl rfl) (Ed (Ec (Eb [0, 1, 5, 58] rfl ?_))))
 first | refine s_condNB rfl ?_ ?_ | refine Eo rfl ?_ ?_
 intro h11
 try rw [nnp] at h11
 refine Ef (Eg (Ea (Ee rfl) (Ed (Ec (Eb [4] rfl (Ek (Ep (q_blkR (Ep (q_loopR (q_blkR ?_)))))))))))
 refine Ep (En rfl rfl ?_)
 rotate_left
 intro h11
 try rw [nnp] at h11
 refine Ey (Ec (Eb [0, 1, 5] rfl (Ef (Eg (Ea (Ee rfl) ?_)))))
 first | refine Ea (o_addn rfl rfl (by omega)) ?_ | refine Ea (o_add rfl rfl) ?_
 refine Ea (Ee rfl) (Ed (Ec (Eb [0, 1, 5] rfl (Ef (Eg (Ea (Ee rfl) (Ea (Ee rfl) (s_iaM rfl rfl (by omega) ?_))))))))
 intro y12 e12
 simp only [Int.toNat_natCast] at e12; obtain rfl := markQ_at (hr0 (by omega)) e12
 refine Ea (o_fa rfl) (Ea (o_ld rfl rfl) (Ea (Ee rfl) ?_))
 first | refine s_call rfl rfl (c_380 r0.data.length _ (by have h9 := dlen_of (hr0 (by omega)); omega) (by omega)) ?_ | refine s_callL rfl rfl (by simp) (c_380 r0.data.length _ (by have h9 := dlen_of (hr0 (by omega)); omega) (by omega)) rfl ?_
 refine Ea (Ee rfl) (Ed (Ec (Eb [0, 1, 5] rfl (Ef (Eg (Ea (Ee rfl) (Ea (o_lss rfl rfl) (Ed (Ec (Eb [0, 1, 5, 69] rfl ?_))))))))))
 first | refine Ev rfl ?_ ?_ | refine Eo rfl ?_ ?_
 intro h13
 try rw [nnp] at h13
 refine Ef (Eg (Ea (Ee rfl) (Ed (Ec (Eb [4] rfl (Ek (q_blkR (Ep (q_loopR (q_blkR (Ep ?_)))))))))))
 refine En rfl rfl ?_
 rotate_left
 intro h13
 try rw [nnp] at h13
 refine Ey (q_blkN (Ec (Eb [0, 1, 5] rfl (Eg (Ea (Ee rfl) ?_)))))
 first | refine Ea (o_addn rfl rfl (by omega)) ?_ | refine Ea (o_add rfl rfl) ?_
 refine Ea (Ee rfl) (Ed (q_loopN ?_))
 · exact ⟨i + 1, by omega, by omega, hasOf ⟨rfl, congrArg (fun b => some (V.w (.int .i64 b))) (kAt_step (hr0 (by omega))), trivial⟩ rfl⟩
 intro h1
 try rw [nnp] at h1
 refine s_exit (q_seqX (q_loopX (q_blkH (Ec (Eb [1] rfl (Ef (Eg (Ea (Ee rfl) (Ea (Ee rfl) (Ed (Ec ?_)))))))))))
 refine Eb [4] rfl (Ek (En rfl rfl ?_))
 rotate_left
 all_goals
  first | (rw [show i = q.length by omega]; done) | (exfalso; omega) | (exfalso; first | exact absurd rfl (by assumption) | (simp_all [mrkR]; done))
theorem ovr_sub {D O0 D1 : Mem} : sub D1 (ovr D O0 D1) := fun a b h => by unfold ovr; rw [h]
theorem gx_358 (q : List Req) (ds : List Value) (as : List (Option Nat)) (D : Mem) (k b d t : Int) (p r : Bool) (hD : DAt D ds (q.map Req.data) as) (hql : q.length ≤ 1048576) (hb : sumQ q ≤ 1048576) (hk : 0 ≤ k ∧ k ≤ 8388608) : GX prg 358 [.arr 6 (qrows q ds)] D [.agg [.ls 0 q.length, .w (.int .i64 b), .w (.int .i64 d), .w (.int .i64 t), .w (.bool p), .w (.bool r)], .w (.int .i64 k)] (fun u L1 D1 => u = .w (.int .i64 (kAt q k q.length)) ∧ L1 = [.arr 6 (qrows (markQ q k) ds)] ∧ DAt D1 ds ((markQ q k).map Req.data) as ∧ ∀ a, D1 a ≠ none → D a ≠ none) := by
 refine gx_in1 g358 (Em [0, 1] rfl (X_seq (x_rg (Ei (o_box rfl rfl rfl) (Ei (Ee rfl) (Ew (Et (Em [1, 2] rfl (X_seq (x_rg (Ei (Ej rfl) ?_)))))))))))
 refine Ei (Er rfl rfl rfl) (Ei (Ee rfl) (x_callM [0] 0 rfl rfl rfl rfl (by simp) rfl (fun _ _ h => h) (gx_375 q ds as D k hD hql hb hk) (fun u L1 D1 h => h.2.2.2) ?_))
 rintro u L1 D1 ⟨rfl, rfl, hD1, hD2⟩
 refine ⟨_, _, rfl, rfl, ?_⟩
 refine Ei (Ee rfl) (Ew (Et (Em [1] rfl (X_seq (x_rg (Ei (Ee rfl) (Ei (Ee rfl) (Ew (Et (Em [4] rfl (x_ret ?_)))))))))))
 · refine retX_leaf [] _ (.inr rfl) rfl rfl rfl rfl rfl (show (List.range 1 ++ []).Nodup by decide) (.inr ⟨0, rfl⟩) (qrows_wrL _ _) ?_
   exact ⟨rfl, rfl, dat_sub hD1 ovr_sub, fun a h => ovr_dom h hD2⟩
theorem c_359 (q : List Req) (k b d t : Int) (p r : Bool) (hql : q.length ≤ 1048576) (hb : sumQ q ≤ 1048576) (hk : 0 ≤ k ∧ k ≤ 8388608) : CV prg 359 [.agg [.sl 6 ((markQ q k).map Req.r), .w (.int .i64 b), .w (.int .i64 d), .w (.int .i64 t), .w (.bool p), .w (.bool r)], .w (.int .i64 k)] (fun res => res = .w (.int .i64 (kAt q k q.length))) := by
 have hkb := kAt_bd hql hb hk (Nat.le_refl _)
 refine cv_in g359 (Eb [0, 1] rfl (Ef (Eg (Ea (o_box rfl rfl rfl) (Ea (Ee rfl) (Ed (Ec (Eb [1, 2] rfl (Ef (Eg (Ea (Ej rfl) ?_)))))))))))
 refine Ea (Er rfl rfl rfl) (Ea (Ee rfl) ?_)
 first | refine s_call rfl rfl (cq_376 q k hql hb hk) ?_ | refine s_callL rfl rfl (by simp) (cq_376 q k hql hb hk) rfl ?_
 refine Ea (Ee rfl) (Ed (Ec (Eb [1] rfl (Ef (Ef (Eg (Ea (Ee rfl) (Ea (o_lss rfl rfl) (Ed (Ec (Eb [1, 10] rfl ?_)))))))))))
 first | refine Ev rfl ?_ ?_ | refine Eo rfl ?_ ?_
 intro h1
 try rw [nnp] at h1
 refine Ef (Eg (Ea (Ee rfl) (Ed (Ec (Eb [4] rfl (Ek (Ep (En rfl rfl ?_))))))))
 rotate_left
 intro h1
 try rw [nnp] at h1
 refine Ey (Ec (Eb [1] rfl (Ef (Eg (Ea (Ee rfl) (Ea (Ee rfl) (Ed (Ec (Eb [4] rfl (Ek (En rfl rfl ?_)))))))))))
 rotate_left
 all_goals
  first | rfl | (exfalso; omega)
def zreq : List V := [.w (.bool false), .w (.int .i64 0), .w (.int .i64 0), .w (.int .i64 0), .w (.bool false), .w (.slice none 0 0)]
def ztab (q : List Req) (ds : List Value) (i : Nat) : List (List V) := qrows (q.take i) ds ++ List.replicate (q.length - i) zreq
theorem ztab_len {q : List Req} {ds : List Value} {i : Nat} (hi : i ≤ q.length) (hd : ds.length = i) : (ztab q ds i).length = q.length := by
 unfold ztab
 rw [List.length_append, Ez (by rw [List.length_take]; omega), List.length_take, List.length_replicate]; omega
theorem ztab_at {q : List Req} {ds : List Value} {i : Nat} (hi : i < q.length) (hd : ds.length = i) : (ztab q ds i)[i]? = some zreq := by
 unfold ztab
 have hl : (qrows (q.take i) ds).length = i := by rw [Ez (by rw [List.length_take]; omega), List.length_take]; omega
 rw [List.getElem?_append_right (by omega), hl, Nat.sub_self, List.getElem?_replicate, if_pos (by omega)]
theorem ztab_set {q : List Req} {ds : List Value} {i : Nat} {r : Req} {x : Value} (hr : q[i]? = some r) (hd : ds.length = i) : (ztab q ds i).set i (r.w x) = ztab q (ds ++ [x]) (i + 1) := by
 have hi := (List.getElem?_eq_some_iff.1 hr).1
 unfold ztab
 have hl : (qrows (q.take i) ds).length = i := by rw [Ez (by rw [List.length_take]; omega), List.length_take]; omega
 rw [List.set_append_right _ _ (by omega), hl, Nat.sub_self, take_snocR hr, qrows_snoc (by rw [List.length_take]; omega), List.append_assoc]
 congr 1
 rw [show q.length - i = (q.length - (i + 1)) + 1 by omega, List.replicate_succ, List.set_cons_zero]; rfl
theorem ztab_end {q : List Req} {ds : List Value} {i : Nat} (hi : q.length ≤ i) : ztab q ds i = qrows q ds := by
 unfold ztab
 rw [List.take_of_length_le hi, Nat.sub_eq_zero_of_le hi]; simp
theorem ztab_zero (q : List Req) : ztab q [] 0 = List.replicate q.length zreq := by unfold ztab; simp [qrows]
theorem dat_len {D ds} {q : List Req} {as} {i : Nat} (h : DAt D ds ((q.take i).map Req.data) as) (hi : i ≤ q.length) : ds.length = i := by
 have := h.l1
 rw [List.length_map, List.length_take] at this
 omega
theorem dat_next {D ds} {q : List Req} {as} {i : Nat} {r : Req} (h : DAt D ds ((q.take i).map Req.data) as) (hr : q[i]? = some r) {E : Mem} {x : Value} (hE : Leaf E x 1 (r.data.map iR)) (hd : ∀ a e, E a = some e → D a = none) : ∃ a, DAt (mrg E D) (ds ++ [x]) ((q.take (i + 1)).map Req.data) (as ++ [a]) := by
 rw [take_snocR hr, List.map_append]
 exact dat_snoc h hE hd
theorem cg_100 (x : Req) (hs : x.small) : GV prg 100 [] [.agg x.r] (fun u L1 => u = .agg [.w (.bool x.write), .w (.int .i64 x.addr), .w (.int .i64 x.size), .w (.int .i64 x.burst), .w (.bool x.lock), .ls 0 x.data.length] ∧ L1 = [.arr 1 (x.data.map iR)]) := by
 refine gv_in g100 (Eb [0] rfl (Ef (Eg (Ea (o_box rfl rfl rfl) (Ea (o_new rfl rfl) (Ed (Ec (Eb [1, 2] rfl (Ef (Eg (Ea (Ej rfl) ?_)))))))))))
 refine Ea (Er rfl rfl rfl) (s_callG [] rfl rfl rfl rfl (by simp) (.inl rfl) (cg_253 _ hs) ?_)
 rintro u L1 ⟨rfl, rfl⟩
 refine ⟨_, _, rfl, rfl, ?_⟩
 refine Ea (Ej rfl) (s_opN (o_stC rfl rfl rfl rfl rfl rfl) (Ed (Ec (Eb [1, 2] rfl (Ef (Eg (Ea (o_ldnC rfl rfl rfl) (s_opN (o_stnC rfl rfl rfl rfl rfl rfl rfl) (Ed (Ec (Eb [2] rfl ?_)))))))))))
 refine Ek ?_
 · refine retG_leaf [2] (.inr rfl) rfl rfl rfl rfl (show (List.range 0 ++ [2]).Nodup by decide) ?_
   exact ⟨rfl, rfl⟩
theorem gx_170 (q : List Req) (hl : q.length ≤ 1048576) (hx : ∀ y, y ∈ q → Req.small y) : GX prg 170 [] M0 [.sl 6 (q.map Req.r)] (fun u L1 D1 => ∃ ds as, u = .ls 0 q.length ∧ L1 = [.arr 6 (qrows q ds)] ∧ DAt D1 ds (q.map Req.data) as) := by
 refine gx_in g170 (Em [0] rfl (X_seq (x_rg (Ei (Ee rfl) (Ew (Et (Em [0] rfl (X_seq (x_rg (Ei (Ee rfl) ?_))))))))))
 first | refine Ei (o_lenM rfl) ?_ | refine Ei (o_len rfl) ?_
 refine Ei (o_mk rfl rfl rfl rfl ⟨by omega, by unfold roomy; omega, by unfold roomy; omega⟩ rfl) (Ei (Ee rfl) (Ew (Et (Em [0, 3] rfl (X_seq (X_seq (x_rg (Ei (Ee rfl) (Ew (Et (Em [0, 3, 4] rfl ?_)))))))))))
 refine X_block (x_newC (X_loop (ι := Nat × Mem × List Value × List (Option Nat)) (fun p => p.1 ≤ q.length ∧ DAt p.2.1 p.2.2.1 ((q.take p.1).map Req.data) p.2.2.2) (fun p => [(4, .w (.int .i64 (p.1 : Int)))]) (fun p => [.arr 6 (ztab q p.2.2.1 p.1)]) (fun p => [p.2.1]) (fun p => q.length - p.1) 1 (0, M0, [], []) ⟨Nat.zero_le _, dat_nil⟩ rfl (hasOf ⟨rfl, trivial⟩ (by rw [ztab_zero]; rfl)) rfl rfl (fun _ _ => rfl) (fun _ _ => ⟨rfl, rfl⟩) ?_))
 rintro ⟨i, D, ds, as⟩ hp
 obtain ⟨hi, hD⟩ := hp
 simp only at hi hD
 have hdl := dat_len hD hi
 refine Em [0, 3, 4] rfl ?_
 dsimp only
 refine X_seq (X_seq (x_rg (Ei (Ee rfl) (Ei (Ee rfl) ?_))))
 first | refine Ei (o_lenM rfl) ?_ | refine Ei (o_len rfl) ?_
 refine Ei (o_lss rfl rfl) (Ew (Et (Em [0, 3, 4, 11] rfl ?_)))
 first | refine x_condD rfl ?_ ?_ | refine x_condB rfl ?_ ?_
 intro h1
 try rw [nnp] at h1
 refine x_skip (Et (Em [0, 3, 4] rfl (X_seq (X_block (x_rg (Ei (Ee rfl) (Ei (Ee rfl) (Ei (Ee rfl) (Ei (Ee rfl) (x_iaM rfl rfl (by first | omega | (rw [List.length_replicate]; omega)) ?_))))))))))
 intro y2 e2
 try simp only [Int.toNat_natCast, Int.toNat_zero] at e2
 refine Ei (o_ldn rfl rfl) (x_callG [] rfl rfl rfl rfl (by simp) (.inl rfl) (cg_169 _ (hx _ (List.mem_of_getElem? (by assumption)))) ?_)
 rintro u L1 ⟨rfl, rfl⟩
 refine ⟨_, _, rfl, rfl, ?_⟩
 refine x_abs 1 20 0 rfl (by simp) rfl (fun _ => rfl) (by simp) (iR_wr _) rfl rfl ?_
 intro x E hE hEd
 obtain ⟨a1, hD2⟩ := dat_next hD (by assumption) hE (hEd 0 _ · · rfl)
 refine Ei (o_iaL rfl rfl (by rw [ztab_len hi hdl, List.length_replicate]; rfl) rfl (by first | omega | (rw [List.length_replicate]; omega))) (x_opN (o_stnA rfl rfl rfl rfl rfl (by rw [ztab_len hi hdl, List.length_replicate]; rfl) (by rw [Int.toNat_natCast]; exact ztab_at (by omega) hdl) rfl rfl) (Ew (y_blkN (Et (Em [0, 3, 4] rfl (x_rg (Ei (Ee rfl) ?_)))))))
 first | refine Ei (o_addn rfl rfl (by omega)) ?_ | refine Ei (o_add rfl rfl) ?_
 refine Ei (Ee rfl) (Ew (y_loopN ?_))
 · refine ⟨(i + 1, mrg E D, ds ++ [x], as ++ [a1]), ⟨by omega, hD2⟩, by simp only; omega, hasOf ⟨rfl, trivial⟩ ?_, rfl⟩
   rw [← ztab_set (by assumption) hdl]; rfl
 intro h1
 try rw [nnp] at h1
 refine x_exit (y_seqX (y_loopX (y_blkH (Et (Em [3] rfl (X_seq (x_rg (Ei (Ee rfl) (Ei (Ee rfl) (Ew (Et ?_)))))))))))
 refine Em [2] rfl (x_ret ?_)
 · refine retX_leaf [0] D (.inr rfl) rfl rfl rfl rfl rfl (show (List.range 0 ++ [0]).Nodup by decide) (.inr ⟨0, rfl⟩) (by rw [ztab_end (show q.length ≤ i by omega)]; exact qrows_wrL _ _) ?_
   rw [ztab_end (show q.length ≤ i by omega)]
   rw [List.take_of_length_le (show q.length ≤ i by omega)] at hD
   exact ⟨ds, as, by rw [List.length_replicate]; rfl, rfl, hD⟩
theorem gx_167 (m : Mst) (hs : m.small) : GX prg 167 [] M0 [.agg m.r] (fun u L1 D1 => ∃ ds as, u = .agg [.ls 0 m.queue.length, .w (.int .i64 m.beat), .w (.int .i64 m.done), .w (.int .i64 m.tries), .w (.bool m.parted), .w (.bool m.broken)] ∧ L1 = [.arr 6 (qrows m.queue ds)] ∧ DAt D1 ds (m.queue.map Req.data) as) := by
 refine gx_in g167 (Em [0] rfl (X_seq (x_rg (Ei (o_box rfl rfl rfl) (Ei (o_new rfl rfl) (Ew (Et (Em [1, 2] rfl (X_seq (x_rg (Ei (o_new rfl rfl) ?_)))))))))))
 refine Ew (Et (Em [1, 2, 3] rfl (X_seq (x_rg (Ei (Ej rfl) (Ei (Er rfl rfl rfl) (x_callB rfl rfl (by simp) (fun _ _ _ h => h) (gx_170 _ hs.1 hs.2) ?_)))))))
 rintro u L1 D ⟨ds, as, rfl, rfl, hD⟩ hdis
 refine ⟨_, _, rfl, rfl, ?_⟩
 refine Ei (Ej rfl) (x_opN (o_stC rfl rfl rfl rfl rfl rfl) (Ew (Et (Em [1, 2, 3] rfl (X_seq (x_rg (Ei (Ej rfl) (Ei (Er rfl rfl rfl) (Ei (Ej rfl) (x_opN (o_stC rfl rfl rfl rfl rfl rfl) (Ew ?_)))))))))))
 refine Et (Em [1, 2, 3] rfl (X_seq (x_rg (Ei (Ej rfl) (Ei (Er rfl rfl rfl) (Ei (Ej rfl) (x_opN (o_stC rfl rfl rfl rfl rfl rfl) (Ew (Et (Em [1, 2, 3] rfl (X_seq ?_)))))))))))
 refine x_rg (Ei (Ej rfl) (Ei (Er rfl rfl rfl) (Ei (Ej rfl) (x_opN (o_stC rfl rfl rfl rfl rfl rfl) (Ew (Et (Em [1, 2, 3] rfl (X_seq (x_rg (Ei (Ej rfl) (Ei (Er rfl rfl rfl) ?_)))))))))))
 refine Ei (Ej rfl) (x_opN (o_stC rfl rfl rfl rfl rfl rfl) (Ew (Et (Em [1, 2, 3] rfl (X_seq (x_rg (Ei (Ej rfl) (Ei (Er rfl rfl rfl) (Ei (Ej rfl) (x_opN (o_stC rfl rfl rfl rfl rfl rfl) (Ew ?_)))))))))))
 refine Et (Em [2, 3] rfl (X_seq (x_rg (Ei (o_ldnC rfl rfl rfl) (x_opN (o_stnC rfl rfl rfl rfl rfl rfl rfl) (Ew (Et (Em [2] rfl (x_ret ?_)))))))))
 · refine retX_leaf [3] D (.inr rfl) rfl rfl rfl rfl rfl (show (List.range 0 ++ [3]).Nodup by decide) (.inr ⟨0, rfl⟩) (qrows_wrL _ _) ?_
   exact ⟨ds, as, rfl, rfl, hD⟩
theorem gx_99 (m : Mst) (hs : m.small) : GX prg 99 [] M0 [.agg m.r] (fun u L1 D1 => ∃ ds as, u = .agg [.ls 0 m.queue.length, .w (.int .i64 m.beat), .w (.int .i64 m.done), .w (.int .i64 m.tries), .w (.bool m.parted), .w (.bool m.broken)] ∧ L1 = [.arr 6 (qrows m.queue ds)] ∧ DAt D1 ds (m.queue.map Req.data) as) := by
 have hq := hs.1
 have hqs := hs.2
 refine gx_in g99 (Em [0] rfl (X_seq (x_rg (Ei (o_box rfl rfl rfl) (Ei (o_new rfl rfl) (Ew (Et (Em [1, 2] rfl (X_seq (x_rg (Ei (o_bs rfl rfl rfl rfl) ?_)))))))))))
 refine Ei (Ee rfl) (Ew (Et (Em [1, 2, 3] rfl (X_seq (X_seq (x_rg (Ei (Ej rfl) (Ei (Er rfl rfl rfl) ?_))))))))
 first | refine Ei (o_lenM rfl) ?_ | refine Ei (o_len rfl) ?_ | refine Ei (o_lenL rfl rfl rfl) ?_ | refine Ei (o_lenN rfl) ?_
 refine Ei (Ee rfl) (Ew (Et (Em [1, 2, 3, 8, 9, 10] rfl (X_block (x_newC (X_loop (ι := Nat × Mem × List Value × List (Option Nat)) (fun p => p.1 ≤ m.queue.length ∧ DAt p.2.1 p.2.2.1 ((m.queue.take p.1).map Req.data) p.2.2.2) (fun p => [(10, .w (.int .i64 (p.1 : Int))), (3, .ls 2 (qrows (m.queue.take p.1) p.2.2.1).length)]) (fun p => [.cell m.r, .cell [.w (.slice none 0 0), .w (.int .i64 0), .w (.int .i64 0), .w (.int .i64 0), .w (.bool false), .w (.bool false)], .arr 6 (qrows (m.queue.take p.1) p.2.2.1)]) (fun p => [p.2.1]) (fun p => m.queue.length - p.1) 3 (0, M0, [], []) ⟨Nat.zero_le _, dat_nil⟩ rfl (hasOf ⟨rfl, rfl, trivial⟩ rfl) rfl rfl (fun _ _ => rfl) (fun _ _ => ⟨rfl, rfl⟩) ?_))))))
 rintro ⟨i, D, ds, as⟩ hp
 obtain ⟨hi, hD⟩ := hp
 simp only at hi hD
 have hdl := dat_len hD hi
 have hml : (qrows (m.queue.take i) ds).length = i := by rw [Ez (by rw [List.length_take]; omega), List.length_take]; omega
 refine Em [1, 2, 3, 8, 9, 10] rfl ?_
 dsimp only
 refine X_seq (x_rg (Ei (o_lss rfl rfl) (Ew (Et (Em [1, 2, 3, 8, 9, 10, 11] rfl (X_seq ?_))))))
 first | refine x_condD rfl ?_ ?_ | refine x_condB rfl ?_ ?_
 intro h1
 try rw [nnp] at h1
 refine x_skip (Et (Em [1, 2, 3, 8, 9, 10] rfl (X_seq (X_block (X_seq (x_rg (x_iaM rfl rfl (by omega) ?_)))))))
 intro y2 e2
 try simp only [Int.toNat_natCast, Int.toNat_zero] at e2
 refine Ei (o_ldn rfl rfl) (Ei (o_new rfl rfl) (x_opN (o_stnC rfl rfl rfl rfl rfl rfl rfl) (Ew (Et (Em [1, 2, 3, 5, 8, 9, 10] rfl (x_rg (Ei (Ee rfl) (Ei (o_ldnC rfl rfl rfl) (x_callG [] rfl rfl rfl rfl (by simp) (.inl rfl) (cg_100 _ (hqs _ (List.mem_of_getElem? (by assumption)))) ?_)))))))))
 rintro u L1 ⟨rfl, rfl⟩
 refine ⟨_, _, rfl, rfl, ?_⟩
 refine x_abs 4 16 0 rfl (by simp) rfl (fun _ => rfl) (by simp) (iR_wr _) rfl rfl ?_
 intro x E hE hEd
 obtain ⟨a1, hD2⟩ := dat_next hD (by assumption) hE (hEd 0 _ · · rfl)
 refine Ei (o_bs rfl rfl rfl rfl) ?_
 first | refine Ei (o_appL rfl rfl rfl rfl rfl rfl rfl (by simp [roomy]; omega)) ?_ | refine Ei (o_app rfl rfl rfl rfl rfl (by simp [roomy]; omega)) ?_
 refine Ei (Ee rfl) (Ew (y_blkN (Et (Em [1, 2, 3, 8, 9, 10] rfl (x_rg ?_)))))
 first | refine Ei (o_addn rfl rfl (by omega)) ?_ | refine Ei (o_add rfl rfl) ?_
 refine Ei (Ee rfl) (Ew (y_loopN ?_))
 · refine ⟨(i + 1, mrg E D, ds ++ [x], as ++ [a1]), ⟨by omega, hD2⟩, by simp only; omega, hasOf ⟨rfl, ?_, trivial⟩ ?_, rfl⟩ <;> simp only [take_snocR (by assumption : m.queue[i]? = some _), qrows_snoc (show ds.length = (m.queue.take i).length by rw [List.length_take]; omega)] <;> rfl
 intro h1
 try rw [nnp] at h1
 refine x_exit (y_seqX (y_loopX (y_blkH (Et (Em [1, 2, 3] rfl (X_seq (x_rg (Ei (Ee rfl) (Ei (Ej rfl) (x_opN (o_stC rfl rfl rfl rfl rfl rfl) (Ew ?_)))))))))))
 refine Et (Em [1, 2] rfl (X_seq (x_rg (Ei (o_ldnC rfl rfl rfl) (x_opN (o_stnC rfl rfl rfl rfl rfl rfl rfl) (Ew (Et (Em [2] rfl (x_ret ?_)))))))))
 · refine retX_leaf [2] D (.inr rfl) rfl rfl rfl rfl rfl (show (List.range 0 ++ [2]).Nodup by decide) (.inr ⟨0, rfl⟩) (qrows_wrL _ _) ?_
   rw [take_all (show m.queue.length ≤ i by omega)] at hD hml ⊢
   exact ⟨ds, as, by rw [hml, show i = m.queue.length by omega], rfl, hD⟩
theorem RF.slV {M : Mem} {k : Nat} {l r : List (List V)} {x : Value} (hl : l.length = r.length) (h : ∀ (i : Nat) a b, l[i]? = some a → r[i]? = some b → a.length = b.length ∧ ∀ (j : Nat) u v y, a[j]? = some u → b[j]? = some v → RF M u y → RF M v y)
 (hn : ∀ (i : Nat) b (j : Nat) v, r[i]? = some b → b[j]? = some v → v.nar = true) (hx : RF M (.sl k l) x) : RF M (.sl k r) x := by
 cases hx with
 | sl hc ha hl' hn' hk hh =>
   rename_i a c rows'
   rw [hl]
   refine .sl (by omega) ha (by omega) hn (fun i b r' hb hr' => ?_) fun i b r' j y z hb hr' hy hz => ?_
   · obtain ⟨a', ha'⟩ := len_get hl hb
     have := hk i a' r' ha' hr'
     have := (h i a' b ha' hb).1
     omega
   · obtain ⟨a', ha'⟩ := len_get hl hb
     obtain ⟨g1, g2⟩ := h i a' b ha' hb
     obtain ⟨u, hu⟩ := len_get g1 hy
     exact g2 j u y z hu hy (hh i a' r' j u z ha' hr' hu hz)
theorem view_d {D ds} {q : List Req} {as} {M : Mem} (h : DAt D ds (q.map Req.data) as) (hs : sub D M) {i : Nat} {r : Req} {x y : Value} (hr : q[i]? = some r) (hx : ds[i]? = some x) (hy : RF M (.raw x) y) : RF M (.sl 1 (r.data.map iR)) y := by
 obtain ⟨a, g1, g2, g3, g4⟩ := dat_at h hr
 rw [hx] at g2; cases g2
 cases hy with
 | raw _ =>
   cases a with
   | none =>
     rw [g3 rfl]
     exact .sl (c := 0) (rows' := []) (Nat.le_refl _) (fun h => absurd rfl h) rfl (fun i r j x h => by simp at h) (fun i r r' h => by simp at h) (fun i r r' j x y h => by simp at h)
   | some ad =>
     have hm : M ad = some ⟨r.data.map (Value.int .i64), true, 1⟩ := hs _ _ (g4 _ _ (by simp [one, upd]))
     obtain ⟨rows', h1, h2, h3, h4, h5⟩ := rel_iR M [] r.data
     have hl : (r.data.map iR).length = r.data.length := List.length_map ..
     have hrow : ∀ (i : Nat) r', rows'[i]? = some r' → r'.length = 1 ∧ (adr (some ⟨ad, 0, none⟩)).off + i * 1 + 1 ≤ (r.data.map (Value.int .i64)).length ∧ ((r.data.map (Value.int .i64)).drop ((adr (some ⟨ad, 0, none⟩)).off + i * 1)).take 1 = r' := by
      intro i r' hi
      obtain ⟨q1, q2⟩ := flat_row h3 hi
      rw [← h1] at q1 q2
      refine ⟨h3 r' (List.mem_of_getElem? hi), ?_, ?_⟩
      · simpa [adr] using q1
      · simpa [adr] using q2
     have := RF.sl (M := M) (k := 1) (rows := r.data.map iR) (a := some ⟨ad, 0, none⟩) (c := r.data.length) (rows' := rows') (by omega) (fun _ => ⟨⟨rfl, rfl⟩, _, hm, rfl, hrow⟩) h2 h5 (fun i r r' e1 e2 => (h4 i r r' e1 e2).1) (fun i r r' j x y e1 e2 e3 e4 => (h4 i r r' e1 e2).2 j x y e3 e4)
     rw [hl] at this
     exact this
theorem view_q {D ds} {q : List Req} {as} {M : Mem} (h : DAt D ds (q.map Req.data) as) (hs : sub D M) {x : Value} (hx : RF M (.sl 6 (qrows q ds)) x) : RF M (.sl 6 (q.map Req.r)) x := by
 have hdl : ds.length = q.length := by have := h.l1; simpa using this
 refine RF.slV (by rw [Ez hdl]; simp) (fun i a b ha hb => ?_) (fun i b j v hb hv => ?_) hx
 · unfold qrows at ha
   rw [List.getElem?_zipWith] at ha
   rw [List.getElem?_map] at hb
   cases e : q[i]? with
   | none => rw [e] at hb; cases hb
   | some r =>
     rw [e] at ha hb
     cases hb
     cases e2 : ds[i]? with
     | none => rw [e2] at ha; cases ha
     | some x0 =>
       rw [e2] at ha; cases ha
       refine ⟨rfl, fun j u v y hu hv hy => ?_⟩
       match j, hu, hv with
       | 0, hu, hv => cases hu; cases hv; exact hy
       | 1, hu, hv => cases hu; cases hv; exact hy
       | 2, hu, hv => cases hu; cases hv; exact hy
       | 3, hu, hv => cases hu; cases hv; exact hy
       | 4, hu, hv => cases hu; cases hv; exact hy
       | 5, hu, hv => cases hu; cases hv; exact view_d h hs e e2 hy
 · rw [List.getElem?_map] at hb
   cases e : q[i]? with
   | none => rw [e] at hb; cases hb
   | some r =>
     rw [e] at hb; cases hb
     simp only [Req.r] at hv
     match j, hv with
     | 0, hv => cases hv; rfl
     | 1, hv => cases hv; rfl
     | 2, hv => cases hv; rfl
     | 3, hv => cases hv; rfl
     | 4, hv => cases hv; rfl
     | 5, hv => cases hv; rfl
theorem view_agg {M : Mem} {u u' : V} {r : List V} (h : ∀ x, RF M u x → RF M u' x) {x : Value} (hx : RF M (.agg (u :: r)) x) : RF M (.agg (u' :: r)) x := by
 cases hx with
 | agg hl hh =>
   refine .agg (by simpa using hl) fun i a y ha hy => ?_
   cases i with
   | zero => simp at ha; subst ha; exact h y (hh 0 u y rfl hy)
   | succ i => exact hh (i + 1) a y ha hy
theorem view_rp {M : Mem} {u u' : V} {r : List V} {o : Nat} (h : ∀ x, RF M u x → RF M u' x) {x : Value} (hx : RF M (.rp (u :: r) o) x) : RF M (.rp (u' :: r) o) x := by
 cases hx with
 | rp hb hr hh =>
   refine .rp hb (by simpa using hr) fun j a y ha hy => ?_
   cases j with
   | zero => simp at ha; subst ha; exact h y (hh 0 u y rfl hy)
   | succ j => exact hh (j + 1) a y ha hy
theorem dat_sim {D ds} {q : List Req} {as} (h : DAt D ds (q.map Req.data) as) : ds.length = q.length := by have := h.l1; simpa using this
theorem view_one {OL : Ob} {u u' : V} (h : ∀ M', (∀ (i : Nat) D, OL[i]? = some D → sub D M') → ∀ x, RF M' u x → RF M' u' x) : Vew OL [u] [u'] := fun M' hM' args hp => by
 obtain ⟨x, r, rfl, g1, g2⟩ := hp.uncons
 rw [g2.unnil]
 exact Pt.cons (h M' hM' x g1) Pt.nil
theorem cut_wrL (q : List Req) (ds : List Value) (a b : Nat) : ∀ lb, lb ∈ [LB.arr 6 (((qrows q ds).take a).drop b)] → lb.wordsR := fun lb h => by
 rw [List.mem_singleton] at h
 subst h
 intro r hr
 exact qrows_wr q ds r (List.mem_of_mem_take (List.mem_of_mem_drop hr))
theorem cut_eq {q : List Req} {ds : List Value} (h : ds.length = q.length) {n : Nat} (hn : n = q.length) : ((qrows q ds).take n).drop 1 = qrows (q.drop 1) (ds.drop 1) := by
 subst hn
 rw [List.take_of_length_le (by rw [Ez h]; omega)]
 unfold qrows; rw [List.drop_zipWith]
theorem gx_56 (m : Mst) (hs : m.small) : GX prg 56 [] M0 [.agg m.r] (fun u L1 D1 => ∃ ds as, u = .tup [.agg [.ls 0 (m.fin).1.queue.length, .w (.int .i64 (m.fin).1.beat), .w (.int .i64 (m.fin).1.done), .w (.int .i64 (m.fin).1.tries), .w (.bool (m.fin).1.parted), .w (.bool (m.fin).1.broken)], .w (.bool (m.fin).2)] ∧ L1 = [.arr 6 (qrows (m.fin).1.queue ds)] ∧ DAt D1 ds ((m.fin).1.queue.map Req.data) as) := by
 have hq := hs.1
 refine gx_in g56 (Em [0] rfl (X_seq (x_rg (Ei (o_box rfl rfl rfl) (Ei (o_new rfl rfl) (Ei (Ee rfl) (Ew (Et (Em [1, 2] rfl (X_seq (x_rg ?_)))))))))))
 refine Ei (o_ldnC rfl rfl rfl) (x_callB rfl rfl (by simp) (fun _ _ _ h => h) (gx_99 m hs) ?_)
 rintro u L1 D ⟨ds, as, rfl, rfl, hD⟩ hdis
 refine ⟨_, _, rfl, rfl, ?_⟩
 refine Ei (o_new rfl rfl) (x_opN (o_stnC rfl rfl rfl rfl rfl rfl rfl) (Ew (Et (Em [1, 2, 4] rfl (X_seq (X_seq (x_rg (Ei (o_ldnC rfl rfl rfl) ?_))))))))
 first | refine x_call rfl rfl (c_88 m hs) ?_ | refine x_callL rfl rfl (by simp) (c_88 m hs) rfl ?_
 refine Ei (o_not rfl) (Ei (Ee rfl) ?_)
 first | refine x_gDF rfl ?_ ?_ | refine x_gNDF rfl ?_ ?_ | refine x_gNF rfl ?_ ?_ | refine x_gB rfl ?_ ?_
 intro h1
 try rw [nnp] at h1
 try have h1' := right_bd h1
 try have h1' := wants_bd h1
 try have h1' := right_q (by assumption) h1
 refine Ei (Ej rfl) (x_gT rfl (Ei (Er rfl rfl rfl) (x_gT rfl (Ei (Ej rfl) (x_gT rfl (Ei (Er rfl rfl rfl) (x_gT rfl (Ei (o_eql rfl rfl) (Ei (Fa rfl rfl) (Ew (Et ?_)))))))))))
 refine Em [2, 4, 16] rfl ?_
 first | refine x_condD rfl ?_ ?_ | refine x_condB rfl ?_ ?_
 intro h2
 try rw [nnp] at h2
 try have h2' := right_bd h2
 try have h2' := wants_bd h2
 try have h2' := right_q (by assumption) h2
 refine X_seq (x_rg (Ei (o_ldnC rfl rfl rfl) (x_opN (o_stnC rfl rfl rfl rfl rfl rfl rfl) (Ei (Ee rfl) (Ew (Et (Em [2, 3] rfl (x_ret (y_seqR ?_)))))))))
 · first | (refine retX_leaf [2] D (.inr rfl) rfl rfl rfl rfl rfl (show (List.range 0 ++ [2]).Nodup by decide) (.inr ⟨0, rfl⟩) (qrows_wrL _ _) ?_; rw [m_fin_no (m := m) ?_]; exact ⟨ds, as, rfl, rfl, hD⟩; clear hs; unfold Mst.finC; clear hq; generalize m.right = r at *; generalize m.beats = n at *; generalize m.beat = b at *; generalize m.done = d at *; first | (simp_all; done) | (simp_all; omega) | (cases r <;> simp_all <;> intros <;> omega)) | (refine retX_leaf [2] D (.inr rfl) rfl rfl rfl rfl rfl (show (List.range 0 ++ [2]).Nodup by decide) (.inr ⟨0, rfl⟩) (qrows_wrL _ _) ?_; rw [m_fin_yes (m := m) ?_]; exact ⟨ds, as, rfl, rfl, hD⟩; clear hs; unfold Mst.finC; clear hq; generalize m.right = r at *; generalize m.beats = n at *; generalize m.beat = b at *; generalize m.done = d at *; first | (simp_all; done) | (simp_all; omega) | (cases r <;> simp_all <;> intros <;> omega)) | (refine retX_leaf [4] D (.inr rfl) rfl rfl rfl rfl rfl (show (List.range 0 ++ [4]).Nodup by decide) (.inr ⟨0, rfl⟩) (cut_wrL _ _ _ _) ?_; rw [m_fin_last (m := m) ?_]; exact ⟨ds.drop 1, as.drop 1, by simp [Ez (dat_sim hD)], congrArg (fun r => [LB.arr 6 r]) (cut_eq (dat_sim hD) (by simp [Ez (dat_sim hD)])), by rw [List.map_drop]; exact dat_drop hD 1⟩; clear hs; unfold Mst.finC; clear hq; generalize m.right = r at *; generalize m.beats = n at *; generalize m.beat = b at *; generalize m.done = d at *; first | (simp_all; done) | (simp_all; omega) | (cases r <;> simp_all <;> intros <;> omega))
 intro h2
 try rw [nnp] at h2
 try have h2' := right_bd h2
 try have h2' := wants_bd h2
 try have h2' := right_q (by assumption) h2
 refine x_skip (Et (Em [2, 4] rfl (X_seq (x_rg (Ei (Ej rfl) (Ei (Er rfl rfl rfl) ?_))))))
 first | refine Ei (o_addn rfl rfl (by omega)) ?_ | refine Ei (o_add rfl rfl) ?_
 refine Ei (Ej rfl) (x_opN (o_stC rfl rfl rfl rfl rfl rfl) (Ew (Et (Em [2, 4] rfl (X_seq (X_seq (x_rg (Ei (Ej rfl) (Ei (Er rfl rfl rfl) (x_callR rfl rfl (by rw [Ez (dat_sim hD)]; simp) (view_one fun M' hM' x hx => view_rp (fun y hy => view_q hD (hM' 0 D rfl) hy) hx) (c_18b m (m.done + 1)) rfl (Ei (o_eql rfl rfl) ?_)))))))))))
 refine Ew (Et (Em [2, 4, 25] rfl ?_))
 first | refine x_condD rfl ?_ ?_ | refine x_condB rfl ?_ ?_
 intro h3
 try rw [nnp] at h3
 try have h3' := right_bd h3
 try have h3' := wants_bd h3
 try have h3' := right_q (by assumption) h3
 refine X_seq (x_rg (Ei (Ej rfl) (Ei (Er rfl rfl rfl) (x_cut rfl rfl (by rw [Ez (dat_sim hD)]) rfl rfl (by rw [Ez (dat_sim hD)]; omega) rfl rfl (Ei (o_bd rfl rfl) (x_opN (o_stnC rfl rfl rfl rfl rfl rfl rfl) (Ei (Ee rfl) (Ew (Et (Em [2, 3] rfl (x_ret ?_)))))))))))
 refine y_seqR ?_
 · first | (refine retX_leaf [2] D (.inr rfl) rfl rfl rfl rfl rfl (show (List.range 0 ++ [2]).Nodup by decide) (.inr ⟨0, rfl⟩) (qrows_wrL _ _) ?_; rw [m_fin_no (m := m) ?_]; exact ⟨ds, as, rfl, rfl, hD⟩; clear hs; unfold Mst.finC; clear hq; generalize m.right = r at *; generalize m.beats = n at *; generalize m.beat = b at *; generalize m.done = d at *; first | (simp_all; done) | (simp_all; omega) | (cases r <;> simp_all <;> intros <;> omega)) | (refine retX_leaf [2] D (.inr rfl) rfl rfl rfl rfl rfl (show (List.range 0 ++ [2]).Nodup by decide) (.inr ⟨0, rfl⟩) (qrows_wrL _ _) ?_; rw [m_fin_yes (m := m) ?_]; exact ⟨ds, as, rfl, rfl, hD⟩; clear hs; unfold Mst.finC; clear hq; generalize m.right = r at *; generalize m.beats = n at *; generalize m.beat = b at *; generalize m.done = d at *; first | (simp_all; done) | (simp_all; omega) | (cases r <;> simp_all <;> intros <;> omega)) | (refine retX_leaf [4] D (.inr rfl) rfl rfl rfl rfl rfl (show (List.range 0 ++ [4]).Nodup by decide) (.inr ⟨0, rfl⟩) (cut_wrL _ _ _ _) ?_; rw [m_fin_last (m := m) ?_]; exact ⟨ds.drop 1, as.drop 1, by simp [Ez (dat_sim hD)], congrArg (fun r => [LB.arr 6 r]) (cut_eq (dat_sim hD) (by simp [Ez (dat_sim hD)])), by rw [List.map_drop]; exact dat_drop hD 1⟩; clear hs; unfold Mst.finC; clear hq; generalize m.right = r at *; generalize m.beats = n at *; generalize m.beat = b at *; generalize m.done = d at *; first | (simp_all; done) | (simp_all; omega) | (cases r <;> simp_all <;> intros <;> omega))
 intro h3
 try rw [nnp] at h3
 try have h3' := right_bd h3
 try have h3' := wants_bd h3
 try have h3' := right_q (by assumption) h3
 refine x_skip (Et (Em [2, 4] rfl (X_seq (x_rg (Ei (Ej rfl) (x_opN (o_stC rfl rfl rfl rfl rfl rfl) (Ew (Et (Em [2, 4] rfl (X_seq (x_rg ?_)))))))))))
 refine Ei (Ej rfl) (x_opN (o_stC rfl rfl rfl rfl rfl rfl) (Ew (Et (Em [2, 4] rfl (X_seq (x_rg (Ei (o_ldnC rfl rfl rfl) (x_opN (o_stnC rfl rfl rfl rfl rfl rfl rfl) (Ei (Ee rfl) (Ew (Et ?_)))))))))))
 refine Em [2, 3] rfl (x_ret ?_)
 · first | (refine retX_leaf [2] D (.inr rfl) rfl rfl rfl rfl rfl (show (List.range 0 ++ [2]).Nodup by decide) (.inr ⟨0, rfl⟩) (qrows_wrL _ _) ?_; rw [m_fin_no (m := m) ?_]; exact ⟨ds, as, rfl, rfl, hD⟩; clear hs; unfold Mst.finC; clear hq; generalize m.right = r at *; generalize m.beats = n at *; generalize m.beat = b at *; generalize m.done = d at *; first | (simp_all; done) | (simp_all; omega) | (cases r <;> simp_all <;> intros <;> omega)) | (refine retX_leaf [2] D (.inr rfl) rfl rfl rfl rfl rfl (show (List.range 0 ++ [2]).Nodup by decide) (.inr ⟨0, rfl⟩) (qrows_wrL _ _) ?_; rw [m_fin_yes (m := m) ?_]; exact ⟨ds, as, rfl, rfl, hD⟩; clear hs; unfold Mst.finC; clear hq; generalize m.right = r at *; generalize m.beats = n at *; generalize m.beat = b at *; generalize m.done = d at *; first | (simp_all; done) | (simp_all; omega) | (cases r <;> simp_all <;> intros <;> omega)) | (refine retX_leaf [4] D (.inr rfl) rfl rfl rfl rfl rfl (show (List.range 0 ++ [4]).Nodup by decide) (.inr ⟨0, rfl⟩) (cut_wrL _ _ _ _) ?_; rw [m_fin_last (m := m) ?_]; exact ⟨ds.drop 1, as.drop 1, by simp [Ez (dat_sim hD)], congrArg (fun r => [LB.arr 6 r]) (cut_eq (dat_sim hD) (by simp [Ez (dat_sim hD)])), by rw [List.map_drop]; exact dat_drop hD 1⟩; clear hs; unfold Mst.finC; clear hq; generalize m.right = r at *; generalize m.beats = n at *; generalize m.beat = b at *; generalize m.done = d at *; first | (simp_all; done) | (simp_all; omega) | (cases r <;> simp_all <;> intros <;> omega))
 intro h1
 try rw [nnp] at h1
 try have h1' := right_bd h1
 try have h1' := wants_bd h1
 try have h1' := right_q (by assumption) h1
 refine x_gF rfl (x_gF rfl (x_gF rfl (x_gF rfl (x_gF rfl (Ei (o_pickT rfl rfl) (Ew (Et (Em [2, 4, 16] rfl (x_condT rfl (X_seq (x_rg ?_)))))))))))
 refine Ei (o_ldnC rfl rfl rfl) (x_opN (o_stnC rfl rfl rfl rfl rfl rfl rfl) (Ei (Ee rfl) (Ew (Et (Em [2, 3] rfl (x_ret (y_seqR ?_)))))))
 · first | (refine retX_leaf [2] D (.inr rfl) rfl rfl rfl rfl rfl (show (List.range 0 ++ [2]).Nodup by decide) (.inr ⟨0, rfl⟩) (qrows_wrL _ _) ?_; rw [m_fin_no (m := m) ?_]; exact ⟨ds, as, rfl, rfl, hD⟩; clear hs; unfold Mst.finC; clear hq; generalize m.right = r at *; generalize m.beats = n at *; generalize m.beat = b at *; generalize m.done = d at *; first | (simp_all; done) | (simp_all; omega) | (cases r <;> simp_all <;> intros <;> omega)) | (refine retX_leaf [2] D (.inr rfl) rfl rfl rfl rfl rfl (show (List.range 0 ++ [2]).Nodup by decide) (.inr ⟨0, rfl⟩) (qrows_wrL _ _) ?_; rw [m_fin_yes (m := m) ?_]; exact ⟨ds, as, rfl, rfl, hD⟩; clear hs; unfold Mst.finC; clear hq; generalize m.right = r at *; generalize m.beats = n at *; generalize m.beat = b at *; generalize m.done = d at *; first | (simp_all; done) | (simp_all; omega) | (cases r <;> simp_all <;> intros <;> omega)) | (refine retX_leaf [4] D (.inr rfl) rfl rfl rfl rfl rfl (show (List.range 0 ++ [4]).Nodup by decide) (.inr ⟨0, rfl⟩) (cut_wrL _ _ _ _) ?_; rw [m_fin_last (m := m) ?_]; exact ⟨ds.drop 1, as.drop 1, by simp [Ez (dat_sim hD)], congrArg (fun r => [LB.arr 6 r]) (cut_eq (dat_sim hD) (by simp [Ez (dat_sim hD)])), by rw [List.map_drop]; exact dat_drop hD 1⟩; clear hs; unfold Mst.finC; clear hq; generalize m.right = r at *; generalize m.beats = n at *; generalize m.beat = b at *; generalize m.done = d at *; first | (simp_all; done) | (simp_all; omega) | (cases r <;> simp_all <;> intros <;> omega))
theorem gx_cv {G f vargs w} (h : GX G f [] M0 vargs (fun u _ _ => u = .w w)) : CV G f vargs (fun u => u = .w w) :=
 ⟨fun args bs m n Ma hF hb hs hp => (h.run args bs m n Ma [] hF hb hs ⟨rfl, fun a ha => by simp [adrs] at ha, fun i lb h => by simp at h, fun i j a l1 l2 h => by simp at h, fun i a lb h => by simp at h⟩ (fun a b h => by cases h) (hp.mono fun _ _ => .fz)).mono fun v m1 n1 ⟨u, Z1, O1, g1, g2, B⟩ => by
   subst g2
   obtain ⟨rfl, hf⟩ := g1.w_inv
   exact ⟨_, M0, .w hf, rfl, fun b x hb => B.keep b x (by simp [adrs]) rfl hb, (fun b x h => nomatch h), (fun b x h => nomatch h)⟩⟩
theorem sumQ_le (q : List Req) : sumQ q = (sumL Req.sz q : Nat) := by
 induction q with
 | nil => rfl
 | cons r q ih => rw [sumQ, sumL, ih]; simp [Req.sz]
def MB (k : Int) (m : Mst) : Prop := m.small ∧ m.queue.length ≤ 1048576 ∧ sumQ m.queue ≤ k
theorem MB.of {m : Mst} (h : m.sz ≤ 1048576) : MB (m.sz : Nat) m := ⟨Mst.small_of h, by unfold Mst.sz at h; omega, by rw [sumQ_le]; unfold Mst.sz; omega⟩
theorem MB.le {m : Mst} {k l : Int} (h : MB k m) (hk : k ≤ l) : MB l m := ⟨h.1, h.2.1, Int.le_trans h.2.2 hk⟩
theorem MB.q {m y : Mst} {k} (h : MB k m) (e : y.queue = m.queue) : MB k y := ⟨⟨by rw [e]; exact h.1.1, by rw [e]; exact h.1.2⟩, by rw [e]; exact h.2⟩
theorem sumQ_drop (q : List Req) : sumQ (q.drop 1) ≤ sumQ q := by
 cases q with
 | nil => exact Int.le_refl _
 | cons r q => simp only [List.drop_succ_cons, List.drop_zero, sumQ]; omega
theorem MB.drop {m y : Mst} {k} (h : MB k m) (e : y.queue = m.queue.drop 1) : MB k y :=
 ⟨⟨by rw [e, List.length_drop]; exact Nat.le_trans (Nat.sub_le _ _) h.1.1, by rw [e]; exact fun x hx => h.1.2 x (List.mem_of_mem_drop hx)⟩, by rw [e, List.length_drop]; exact Nat.le_trans (Nat.sub_le _ _) h.2.1, by rw [e]; exact Int.le_trans (sumQ_drop _) h.2.2⟩
theorem Vew.two {OL : Ob} {u u' w : V} (h : ∀ M', (∀ (i : Nat) D, OL[i]? = some D → sub D M') → ∀ x, RF M' u x → RF M' u' x) : Vew OL [u, w] [u', w] := fun M' hM' args hp => by
 obtain ⟨x, r, rfl, g1, g2⟩ := hp.uncons
 exact Pt.cons (h M' hM' x g1) g2
theorem c_136y (m : Mst) (hs : m.small) : CV prg 136 [.agg m.r, .agg m.r] (fun v => v = .w (.bool true)) := (c_136 m m hs).mono fun u h => by rw [h, decide_eq_true rfl]
theorem neg_false {k : Int} (h : 0 ≤ k) : decide (k < 0) = false := decide_eq_false (by omega)
theorem mst_lim {m : Mst} {k} (h : MB k m) (hk : k ≤ 1048576) : 0 ≤ kAt m.queue 1 m.queue.length := (kAt_bd h.2.1 (Int.le_trans h.2.2 hk) (by omega) (Nat.le_refl _)).1
theorem gx_56y {m y : Mst} {b : Bool} (h : m.fin = (y, b)) (hm : m.small) : GX prg 56 [] M0 [.agg m.r] (fun u L1 D1 => ∃ ds as, u = .tup [.agg [.ls 0 y.queue.length, .w (.int .i64 y.beat), .w (.int .i64 y.done), .w (.int .i64 y.tries), .w (.bool y.parted), .w (.bool y.broken)], .w (.bool b)] ∧ L1 = [.arr 6 (qrows y.queue ds)] ∧ DAt D1 ds (y.queue.map Req.data) as) := by have := gx_56 m hm; rwa [h] at this
theorem mb_fin {m : Mst} {k} (h : MB k m) : MB k m.fin.1 := by
 unfold Mst.fin
 split
 · split
   · exact h.drop rfl
   · exact h.q rfl
 · exact h
theorem gx_law_346 (m : Mst) (hwm : m.wf) : GX prg 346 [] M0 [.agg m.r] (fun u L1 D1 => u = .w (.bool true)) := by
 obtain ⟨y, b, hyb, hyB⟩ : ∃ y b, m.fin = (y, b) ∧ (MB (m.sz : Nat) m → MB (m.sz : Nat) y) := ⟨_, _, rfl, mb_fin⟩
 refine gx_in g346 (Em [0] rfl (X_seq (x_rg (Ei (o_box rfl rfl rfl) (Ei (Ee rfl) (Ew (Et (Em [1] rfl (X_seq (x_rg (Ei (Ee rfl) ?_)))))))))))
 refine Ew (Et (Em [1, 3] rfl (X_seq (x_rg (Ei (o_ldnC rfl rfl rfl) (Ei (Ee rfl) ?_))))))
 first | refine x_call rfl rfl (c_151 _ _ (by (try unfold room at *); omega) (by assumption)) ?_ | refine x_callL rfl rfl (by simp) (c_151 _ _ (by (try unfold room at *); omega) (by assumption)) rfl ?_
 refine Ei (Ee rfl) (Ew (Et (Em [1, 3] rfl (X_seq (X_seq (x_rg (Ei (Ee rfl) (Ei (o_lss rfl rfl) (Ew (Et (Em [1, 18] rfl ?_)))))))))))
 first | refine x_condD rfl ?_ ?_ | refine x_condB rfl ?_ ?_
 intro h1
 try rw [nnp] at h1
 try (have hm := MB.of (m := m) (by (try unfold room at *); omega); have hy := hyB hm; have hmz : ((m.sz : Nat) : Int) ≤ 1048576 := by (try unfold room at *); omega)
 try (have hmb := Int.le_trans hm.2.2 hmz; have hyb2 := Int.le_trans hy.2.2 hmz; have hk1 := mst_lim hm hmz; have hk2 := mst_lim hy hmz)
 refine X_seq (x_rg (Ei (Ee rfl) (Ew (Et (Em [2] rfl (x_ret (y_seqR ?_)))))))
 · refine retX_leaf [] M0 (.inr rfl) rfl rfl rfl rfl rfl (show (List.range 0 ++ []).Nodup by decide) (.inl rfl) (fun _ h => by cases h) rfl
 intro h1
 try rw [nnp] at h1
 try (have hm := MB.of (m := m) (by (try unfold room at *); omega); have hy := hyB hm; have hmz : ((m.sz : Nat) : Int) ≤ 1048576 := by (try unfold room at *); omega)
 try (have hmb := Int.le_trans hm.2.2 hmz; have hyb2 := Int.le_trans hy.2.2 hmz; have hk1 := mst_lim hm hmz; have hk2 := mst_lim hy hmz)
 refine x_skip (Et (Em [1] rfl (X_seq (x_rg (Ei (o_ldnC rfl rfl rfl) ?_)))))
 first | refine x_call rfl rfl (c_167 m hm.1) ?_ | refine x_callL rfl rfl (by simp) (c_167 m hm.1) rfl ?_
 first | refine x_call rfl rfl (c_356y hyb hm.1) ?_ | refine x_callL rfl rfl (by simp) (c_356y hyb hm.1) rfl ?_
 refine Ei (Ee rfl) (Ei (o_ext rfl rfl) (Ei (o_ext rfl rfl) (Ei (o_new rfl rfl) (x_opN (o_stnC rfl rfl rfl rfl rfl rfl rfl) (Ei (Ee rfl) (Ew (Et (Em [1, 4, 5] rfl (X_seq (x_rg (Ei (o_ldnC rfl rfl rfl) ?_)))))))))))
 refine x_callB rfl rfl (by simp) (fun _ _ _ h => h) (gx_167 m hm.1) ?_
 rintro u L1 D ⟨ds, as, rfl, rfl, hD⟩ hdis
 refine ⟨_, _, rfl, rfl, ?_⟩
 refine Ei (o_new rfl rfl) (x_opN (o_stnC rfl rfl rfl rfl rfl rfl rfl) (Ew (Et (Em [1, 4, 5, 6] rfl (X_seq (x_rg (Ei (o_ldnC rfl rfl rfl) (x_callB rfl rfl (by rw [Ez (dat_sim hD)]; first | (simp; done) | (simp; exact markQ_len _ _)) (view_one fun M' hM' x hx => view_agg (fun y hy => view_q hD (hM' 0 D rfl) hy) hx) (gx_56y hyb hm.1) ?_))))))))
 rintro u L1 D2 ⟨ds2, as2, rfl, rfl, hD2⟩ hdis2
 refine ⟨_, _, rfl, rfl, ?_⟩
 refine Ei (Ee rfl) (Ei (o_ext rfl rfl) (Ei (o_ext rfl rfl) (Ei (o_new rfl rfl) (x_opN (o_stnC rfl rfl rfl rfl rfl rfl rfl) (Ei (Ee rfl) (Ew (Et (Em [1, 4, 5, 6, 7, 8] rfl (X_seq (X_seq (x_rg ?_)))))))))))
 refine Ei (o_ldnC rfl rfl rfl) (Ei (o_ldnC rfl rfl rfl) (x_callR rfl rfl (by rw [Ez (dat_sim hD2)]; first | (simp; done) | (simp; exact markQ_len _ _)) (Vew.two fun M' hM' x hx => view_agg (fun y hy => view_q hD2 (hM' 1 D2 rfl) hy) hx) (c_136y y hy.1) rfl (Ei (o_not rfl) (Ei (Ee rfl) (x_gT rfl (Ei (Ee rfl) (x_gT rfl (Ei (Ee rfl) (x_gT rfl (Ei (o_eqb rfl rfl) (Ei (Fa rfl rfl) ?_)))))))))))
 refine Ew (Et (Em [1, 4, 5, 6, 7, 8, 40] rfl ?_))
 first | refine x_condNB rfl ?_ ?_ | refine x_condB rfl ?_ ?_
 · intro h2
   exfalso
   simp at h2
 intro h2
 try rw [nnp] at h2
 try (have hm := MB.of (m := m) (by (try unfold room at *); omega); have hy := hyB hm; have hmz : ((m.sz : Nat) : Int) ≤ 1048576 := by (try unfold room at *); omega)
 try (have hmb := Int.le_trans hm.2.2 hmz; have hyb2 := Int.le_trans hy.2.2 hmz; have hk1 := mst_lim hm hmz; have hk2 := mst_lim hy hmz)
 refine x_skip (Et (Em [1, 4, 5, 6, 7, 8] rfl (X_seq (X_seq (x_rg (Ei (o_ldnC rfl rfl rfl) (Ei (o_ldnC rfl rfl rfl) ?_)))))))
 first | refine x_call rfl rfl (c_167 m hm.1) ?_ | refine x_callL rfl rfl (by simp) (c_167 m hm.1) rfl ?_
 refine x_callR rfl rfl (by rw [Ez (dat_sim hD)]; first | (simp; done) | (simp; exact markQ_len _ _)) (Vew.two fun M' hM' x hx => view_agg (fun y hy => view_q hD (hM' 0 D rfl) hy) hx) (c_136y m hm.1) rfl (Ei (o_not rfl) (Ew (Et (Em [1, 4, 5, 6, 7, 8, 45] rfl (x_condF rfl (x_skip (Et (Em [1, 4, 5, 6, 7, 8] rfl (X_seq (x_rg (Ei (Ee rfl) ?_)))))))))))
 refine Ew (Et (Em [1, 4, 5, 6, 7, 8, 9] rfl (X_seq (x_rg (Ei (o_ldnC rfl rfl rfl) (Ei (Ee rfl) (x_callM [2] 0 rfl rfl rfl rfl (by simp) rfl (fun _ _ h => h) (gx_358 m.queue ds as D 1 _ _ _ _ _ hD hm.2.1 hmb (by omega)) (fun u L1 D1 h => h.2.2.2) ?_)))))))
 rintro u L1 D1 ⟨rfl, rfl, _, _⟩
 refine ⟨_, _, rfl, rfl, ?_⟩
 refine Ei (Ee rfl) (Ew (Et (Em [1, 4, 5, 7, 8, 9] rfl (X_seq (X_seq (x_rg (Ei (Ee rfl) (Ei (o_lss rfl rfl) ?_))))))))
 rw [neg_false hk1]
 refine Ei (Ee rfl) (x_gT rfl (Ei (o_ldnC rfl rfl rfl) (x_gT rfl (Ei (o_ldnC rfl rfl rfl) (x_gT rfl (x_callR rfl rfl (by rw [Ez (dat_sim hD2)]; first | (simp; done) | (simp; exact markQ_len _ _)) (Vew.two fun M' hM' x hx => view_agg (fun y hy => view_q hD2 (hM' 1 D2 rfl) hy) hx) (c_136y y hy.1) rfl (x_gT rfl (Ei (o_not rfl) (Ei (Fa rfl rfl) (Ei (Ee rfl) (x_gT rfl ?_)))))))))))
 refine Ei (Ee rfl) (x_gT rfl (Ei (Ee rfl) (x_gT rfl (Ei (o_eqb rfl rfl) (Ei (Fa rfl rfl) (Ew (Et (Em [1, 4, 5, 7, 61] rfl ?_))))))))
 first | refine x_condNB rfl ?_ ?_ | refine x_condB rfl ?_ ?_
 · intro h3
   exfalso
   simp at h3
 intro h3
 try rw [nnp] at h3
 try (have hm := MB.of (m := m) (by (try unfold room at *); omega); have hy := hyB hm; have hmz : ((m.sz : Nat) : Int) ≤ 1048576 := by (try unfold room at *); omega)
 try (have hmb := Int.le_trans hm.2.2 hmz; have hyb2 := Int.le_trans hy.2.2 hmz; have hk1 := mst_lim hm hmz; have hk2 := mst_lim hy hmz)
 refine x_skip (Et (Em [1, 4, 5, 7] rfl (X_seq (x_rg (Ei (Ee rfl) (Ew (Et (Em [1, 4, 5, 7, 10] rfl (X_seq (x_rg (Ei (o_ldnC rfl rfl rfl) ?_)))))))))))
 refine Ei (Ee rfl) (x_callM [4] 1 rfl rfl rfl rfl (by simp) rfl (fun _ _ h => h) (gx_358 y.queue ds2 as2 D2 1 _ _ _ _ _ hD2 hy.2.1 hyb2 (by omega)) (fun u L1 D1 h => h.2.2.2) ?_)
 rintro u L1 D1 ⟨rfl, rfl, hD3, hD4⟩
 refine ⟨_, _, rfl, rfl, ?_⟩
 replace hD3 := dat_sub hD3 (ovr_sub (D := D2) (O0 := D2))
 generalize hgD : ovr D2 D2 D1 = D5 at hD3 ⊢
 refine Ei (Ee rfl) (Ew (Et (Em [1, 4, 5, 7, 10] rfl (X_seq (x_rg (Ei (Ee rfl) (Ew (Et (Em [1, 4, 5, 7, 10, 11] rfl (X_seq (x_rg ?_)))))))))))
 refine Ei (o_ldnC rfl rfl rfl) (Ei (Ee rfl) (x_callR rfl rfl (by rw [Ez (dat_sim hD3)]; first | (simp; done) | (simp; exact markQ_len _ _)) (Vew.two fun M' hM' x hx => view_agg (fun y hy => view_q hD3 (hM' 1 D5 rfl) hy) hx) (c_359 y.queue 1 _ _ _ _ _ hy.2.1 hyb2 (by omega)) rfl (Ei (Ee rfl) (Ew (Et (Em [1, 4, 5, 7, 10, 11] rfl (X_seq (X_seq (x_rg (Ei (Ee rfl) (Ei (o_lss rfl rfl) ?_)))))))))))
 refine Ew (Et (Em [1, 4, 5, 7, 10, 11, 69] rfl ?_))
 first | refine x_condD rfl ?_ ?_ | refine x_condB rfl ?_ ?_
 · intro h4
   exfalso
   omega
 intro h4
 try rw [nnp] at h4
 try (have hm := MB.of (m := m) (by (try unfold room at *); omega); have hy := hyB hm; have hmz : ((m.sz : Nat) : Int) ≤ 1048576 := by (try unfold room at *); omega)
 try (have hmb := Int.le_trans hm.2.2 hmz; have hyb2 := Int.le_trans hy.2.2 hmz; have hk1 := mst_lim hm hmz; have hk2 := mst_lim hy hmz)
 refine x_skip (Et (Em [1, 4, 5, 7, 10, 11] rfl (X_seq (X_seq (x_rg (Ei (Ee rfl) (Ei (Ee rfl) (Ei (o_neq rfl rfl) (Ew (Et (Em [1, 4, 5, 7, 10, 72] rfl ?_)))))))))))
 first | refine x_condD rfl ?_ ?_ | refine x_condB rfl ?_ ?_
 · intro h5
   exfalso
   exact h5 rfl
 intro h5
 try rw [nnp] at h5
 try (have hm := MB.of (m := m) (by (try unfold room at *); omega); have hy := hyB hm; have hmz : ((m.sz : Nat) : Int) ≤ 1048576 := by (try unfold room at *); omega)
 try (have hmb := Int.le_trans hm.2.2 hmz; have hyb2 := Int.le_trans hy.2.2 hmz; have hk1 := mst_lim hm hmz; have hk2 := mst_lim hy hmz)
 refine x_skip (Et (Em [1, 4, 5, 7, 10] rfl (X_seq (x_rg (Ei (o_ldnC rfl rfl rfl) ?_)))))
 first | refine x_call rfl rfl (c_167 m hm.1) ?_ | refine x_callL rfl rfl (by simp) (c_167 m hm.1) rfl ?_
 first | refine x_call rfl rfl (c_56y hyb hm.1) ?_ | refine x_callL rfl rfl (by simp) (c_56y hyb hm.1) rfl ?_
 refine Ei (Ee rfl) (Ei (o_ext rfl rfl) (Ei (o_ext rfl rfl) (Ei (o_new rfl rfl) (x_opN (o_stnC rfl rfl rfl rfl rfl rfl rfl) (Ei (Ee rfl) (Ew (Et (Em [4, 5, 7, 10, 12, 13] rfl (X_seq (X_seq (x_rg ?_)))))))))))
 refine Ei (o_ldnC rfl rfl rfl) (Ei (o_ldnC rfl rfl rfl) ?_)
 first | refine x_call rfl rfl (c_136y y hy.1) ?_ | refine x_callL rfl rfl (by simp) (c_136y y hy.1) rfl ?_
 refine Ei (o_not rfl) (Ei (Ee rfl) (x_gT rfl (Ei (Ee rfl) (x_gT rfl (Ei (Ee rfl) (x_gT rfl (Ei (o_eqb rfl rfl) (Ei (Fa rfl rfl) (Ew (Et (Em [7, 10, 87] rfl ?_)))))))))))
 first | refine x_condNB rfl ?_ ?_ | refine x_condB rfl ?_ ?_
 · intro h6
   exfalso
   simp at h6
 intro h6
 try rw [nnp] at h6
 try (have hm := MB.of (m := m) (by (try unfold room at *); omega); have hy := hyB hm; have hmz : ((m.sz : Nat) : Int) ≤ 1048576 := by (try unfold room at *); omega)
 try (have hmb := Int.le_trans hm.2.2 hmz; have hyb2 := Int.le_trans hy.2.2 hmz; have hk1 := mst_lim hm hmz; have hk2 := mst_lim hy hmz)
 refine x_skip (Et (Em [7, 10] rfl (X_seq (x_rg (Ei (Ee rfl) (Ew (Et (Em [7, 10, 11] rfl (X_seq (x_rg (Ei (o_ldnC rfl rfl rfl) ?_)))))))))))
 refine Ei (Ee rfl) (x_callR rfl rfl (by rw [Ez (dat_sim hD3)]; first | (simp; done) | (simp; exact markQ_len _ _)) (Vew.two fun M' hM' x hx => view_agg (fun y hy => view_q hD3 (hM' 1 D5 rfl) hy) hx) (c_359 y.queue 1 _ _ _ _ _ hy.2.1 hyb2 (by omega)) rfl (Ei (Ee rfl) (Ew (Et (Em [10, 11] rfl (X_seq (X_seq (x_rg (Ei (Ee rfl) (Ei (o_lss rfl rfl) (Ew ?_)))))))))))
 refine Et (Em [10, 11, 92] rfl ?_)
 first | refine x_condD rfl ?_ ?_ | refine x_condB rfl ?_ ?_
 · intro h7
   exfalso
   omega
 intro h7
 try rw [nnp] at h7
 try (have hm := MB.of (m := m) (by (try unfold room at *); omega); have hy := hyB hm; have hmz : ((m.sz : Nat) : Int) ≤ 1048576 := by (try unfold room at *); omega)
 try (have hmb := Int.le_trans hm.2.2 hmz; have hyb2 := Int.le_trans hy.2.2 hmz; have hk1 := mst_lim hm hmz; have hk2 := mst_lim hy hmz)
 refine x_skip (Et (Em [10, 11] rfl (X_seq (X_seq (x_rg (Ei (Ee rfl) (Ei (Ee rfl) (Ei (o_neq rfl rfl) (Ew (Et (Em [95] rfl ?_)))))))))))
 first | refine x_condD rfl ?_ ?_ | refine x_condB rfl ?_ ?_
 · intro h8
   exfalso
   exact h8 rfl
 intro h8
 try rw [nnp] at h8
 try (have hm := MB.of (m := m) (by (try unfold room at *); omega); have hy := hyB hm; have hmz : ((m.sz : Nat) : Int) ≤ 1048576 := by (try unfold room at *); omega)
 try (have hmb := Int.le_trans hm.2.2 hmz; have hyb2 := Int.le_trans hy.2.2 hmz; have hk1 := mst_lim hm hmz; have hk2 := mst_lim hy hmz)
 refine x_skip (Et (Em [] rfl (X_seq (x_rg (Ei (Ee rfl) (Ew (Et (Em [2] rfl (x_ret ?_)))))))))
 · refine retX_leaf [] M0 (.inr rfl) rfl rfl rfl rfl rfl (show (List.range 0 ++ []).Nodup by decide) (.inl rfl) (fun _ h => by cases h) rfl
end Go.Proofs.Ytdialnejieoelaa.AL
