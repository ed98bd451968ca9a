/- Addresses in slots and rows are those of rows that were made before. -/
import Derived.Test.YtoppcdecolponaaDoorAl0
namespace Go.Proofs.YtoppcdecolponaaDoor.AL
open Go
set_option linter.unusedVariables false
inductive VLt (n : Nat) : Value → Prop
 | word {v} : flatW v = true → VLt n v
 | junk : VLt n .nilIface
 | nilFunc : VLt n .nilFunc
 | ptr {a : Addr} : a.block < n → VLt n (.pointer (some a))
 | slice {a : Addr} {l c} : a.block < n → VLt n (.slice (some a) l c)
 | empty : VLt n (.slice (some ⟨0, 0, some 0⟩) 0 0)
 | func {f} {xs ys : Array Value} : (∀ x, x ∈ xs.toList → VLt n x) → (∀ y, y ∈ ys.toList → VLt n y) → VLt n (.func f xs ys)
 | agg {xs : Array Value} : (∀ x, x ∈ xs.toList → VLt n x) → VLt n (.agg xs)
 | tuple {xs : Array Value} : (∀ x, x ∈ xs.toList → VLt n x) → VLt n (.tuple xs)
theorem VLt.mono {n n1 : Nat} (h : n ≤ n1) {v : Value} (hv : VLt n v) : VLt n1 v := by
 induction hv with
 | word h => exact .word h
 | junk => exact .junk
 | nilFunc => exact .nilFunc
 | ptr h1 => exact .ptr (by omega)
 | slice h1 => exact .slice (by omega)
 | empty => exact .empty
 | func _ _ ih1 ih2 => exact .func ih1 ih2
 | agg _ ih => exact .agg ih
 | tuple _ ih => exact .tuple ih
theorem VLt.flatA {n : Nat} {v : Value} (h : flatA v = true) : VLt n v := by
 cases v with
 | agg xs => exact .agg fun x hx => .word (List.all_eq_true.1 h x hx)
 | _ => exact .word h
theorem VLt.flat {n : Nat} {v : Value} (h : flat v = true) : VLt n v := by
 cases v with
 | nilFunc => exact .nilFunc
 | func f xs ys =>
   simp only [AL.flat, Bool.and_eq_true, beq_iff_eq] at h
   exact .func (fun x hx => by
    have : xs = #[] := Array.eq_empty_of_size_eq_zero h.1
    subst this; simp at hx) (fun x hx => by
    have : ys = #[] := Array.eq_empty_of_size_eq_zero h.2
    subst this; simp at hx)
 | tuple xs => exact .tuple fun x hx => .flatA (List.all_eq_true.1 h x hx)
 | _ => exact .flatA h
def MLt (m : Mem) (n : Nat) : Prop := ∀ b blk, m b = some blk → b < n ∧ ∀ c, c ∈ blk.cells → VLt n c
theorem MLt.mono {m : Mem} {n n1 : Nat} (h : MLt m n) (hn : n ≤ n1) : MLt m n1 := fun b blk e => ⟨by have := (h b blk e).1; omega, fun c hc => ((h b blk e).2 c hc).mono hn⟩
theorem MLt.sub {m m1 : Mem} {n : Nat} (h : MLt m n) (hs : AL.sub m1 m) : MLt m1 n := fun b blk e => h b blk (hs _ _ e)
theorem MLt.fresh {m : Mem} {n : Nat} (h : MLt m n) : Fresh m n := by
 intro b hb
 cases e : m b with
 | none => rfl
 | some blk => have := (h b blk e).1; omega
def TLt (tm : Tm) (n : Nat) : Prop := ∀ t, VLt n (tm t)
theorem TLt.put {tm : Tm} {n : Nat} (h : TLt tm n) (d : Option Nat) {v : Value} (hv : VLt n v) : TLt (put tm d v) n := by
 cases d with
 | none => exact h
 | some d =>
   intro t
   simp only [AL.put, upd]
   split
   · exact hv
   · exact h t
theorem TLt.mono {tm : Tm} {n n1 : Nat} (h : TLt tm n) (hn : n ≤ n1) : TLt tm n1 := fun t => (h t).mono hn
def E.ok : E → Bool
 | .t _ => true
 | .k v => flat v
theorem E.lt {tm : Tm} {n : Nat} (h : TLt tm n) {e : E} (he : e.ok = true) : VLt n (e.ev tm) := by
 cases e with
 | t i => exact h i
 | k v => exact .flat he
def optOk (e : Option E) : Bool := match e with | some e => e.ok | none => true
def O.ok : O → Bool
 | .mv x | .box x | .ld x | .ldn _ x | .fa _ x | .eqnil _ x | .not x | .neg x | .len x | .lens x | .cap x | .fld _ _ x | .ext _ x | .cvi _ x | .cvsb x | .cvbs x | .nilc x => x.ok
 | .clr _ z x => x.ok && z.all flatW
 | .pick c a b => c.ok && a.ok && b.ok
 | .new z => z.all flatW
 | .st x v | .stn _ x v | .ia _ x v | .bin _ x v | .eqb _ x v | .eqs _ _ x v | .app _ _ x v | .ix x v | .cpy _ x v => x.ok && v.ok
 | .mk _ _ z l c => z.all flatW && l.ok && c.ok
 | .bs _ _ z ps => z.all flatW && ps.all fun p => p.2.ok
 | .bd z ps => z.all flatW && ps.all fun p => p.2.2.ok
 | .fn _ es | .call _ es | .mn es | .mx es => es.all E.ok
 | .calli f es => f.ok && es.all E.ok
 | .sl _ x a b c => x.ok && optOk a && optOk b && optOk c
 | .sls x a b => x.ok && optOk a && optOk b
theorem rd_lt {m : Mem} {n : Nat} (h : MLt m n) {a : Addr} {v : Value} (hr : rd m a = some v) : VLt n v := by
 unfold rd at hr
 split at hr
 · cases hr
 · split at hr
   · rename_i b hb
     exact (h _ _ hb).2 _ (List.mem_of_getElem? hr)
   · cases hr
theorem rdn_lt {m : Mem} {n : Nat} (h : MLt m n) {a : Addr} {k : Nat} {vs : List Value} (hr : rdn m a k = some vs) : ∀ v, v ∈ vs → VLt n v := by
 unfold rdn at hr
 split at hr
 · cases hr
 · split at hr
   · rename_i b hb
     split at hr
     · cases hr
       intro v hv
       exact (h _ _ hb).2 _ (List.mem_of_mem_drop (List.mem_of_mem_take hv))
     · cases hr
   · cases hr
theorem MLt.upd {m : Mem} {n n1 : Nat} (h : MLt m n) (hn : n ≤ n1) {b : Nat} {x : Option Blk} (hb : x.isSome = true → b < n1) (hx : ∀ blk, x = some blk → ∀ c, c ∈ blk.cells → VLt n1 c) : MLt (upd m b x) n1 := by
 intro b' blk e
 simp only [AL.upd] at e
 split at e
 · rename_i e1; subst e1; exact ⟨hb (by rw [e]; rfl), hx blk e⟩
 · exact h.mono hn b' blk e
theorem wrn_lt {bs : Nat} {m m1 : Mem} {n : Nat} (h : MLt m n) {a : Addr} {vs : List Value} (hw : wrn bs m a vs = some m1) (hv : ∀ v, v ∈ vs → VLt n v) : MLt m1 n := by
 unfold wrn at hw
 split at hw
 · cases hw
 · split at hw
   · rename_i b hb
     split at hw
     · cases hw
       refine h.upd (Nat.le_refl _) (fun _ => (h _ _ hb).1) fun blk e c hc => ?_
       cases e
       simp only [List.mem_append] at hc
       rcases hc with (hc | hc) | hc
       · exact (h _ _ hb).2 _ (List.mem_of_mem_take hc)
       · exact hv c hc
       · exact (h _ _ hb).2 _ (List.mem_of_mem_drop hc)
     · cases hw
   · cases hw
theorem wr_lt {bs : Nat} {m m1 : Mem} {n : Nat} (h : MLt m n) {a : Addr} {v : Value} (hw : wr bs m a v = some m1) (hv : VLt n v) : MLt m1 n := by
 unfold wr at hw
 split at hw
 · cases hw
 · split at hw
   · rename_i b hb
     split at hw
     · cases hw
       refine h.upd (Nat.le_refl _) (fun _ => (h _ _ hb).1) fun blk e c hc => ?_
       cases e
       rcases List.mem_or_eq_of_mem_set hc with hc | hc
       · exact (h _ _ hb).2 _ hc
       · rw [hc]; exact hv
     · cases hw
   · cases hw
theorem cells_lt {n : Nat} {v : Value} (h : VLt n v) : ∀ c, c ∈ v.cells.toList → VLt n c := by
 cases v with
 | agg xs =>
   cases h with
   | word h => cases h
   | agg h => exact h
 | _ => intro c hc; simp [Value.cells] at hc; rw [hc]; exact h
theorem fill_lt {n : Nat} : ∀ (ps : List (Nat × List Value)) (l : List Value), (∀ c, c ∈ l → VLt n c) → (∀ p, p ∈ ps → ∀ c, c ∈ p.2 → VLt n c) → ∀ c, c ∈ fill l ps → VLt n c
 | [], l, h, _, c, hc => h c hc
 | (i, vs) :: ps, l, h, hp, c, hc => by
   simp only [fill] at hc
   refine fill_lt ps _ ?_ (fun p hpm => hp p (List.mem_cons_of_mem _ hpm)) c hc
   intro c hc
   simp only [List.mem_append] at hc
   rcases hc with (hc | hc) | hc
   · exact h c (List.mem_of_mem_take hc)
   · exact hp _ (List.mem_cons_self ..) c hc
   · exact h c (List.mem_of_mem_drop hc)
theorem binv_flat {op : BinOp} {x y v : Value} (h : binv op x y = some v) : flatW v = true := by
 unfold binv at h
 split at h
 · cases op <;> simp only at h <;> (try split at h) <;> (try split at h) <;> cases h <;> rfl
 · cases op <;> simp only at h <;> (try split at h) <;> cases h <;> rfl
 · cases h
theorem foldv_lt {f : Value → Value → Option Value} (hf : ∀ x y z, f x y = some z → flatW z = true) {n : Nat} : ∀ (l : List Value) (x z : Value), VLt n x → foldv f x l = some z → VLt n z
 | [], x, z, hx, h => by simp [foldv] at h; subst h; exact hx
 | y :: l, x, z, hx, h => by
   simp only [foldv] at h
   split at h
   · rename_i u hu; exact foldv_lt hf l u z (.word (hf _ _ _ hu)) h
   · cases h
theorem min2v_flat (x y z : Value) (h : min2v x y = some z) : flatW z = true := by
 unfold min2v at h; split at h
 · split at h <;> cases h; rfl
 · cases h
theorem max2v_flat (x y z : Value) (h : max2v x y = some z) : flatW z = true := by
 unfold max2v at h; split at h
 · split at h <;> cases h; rfl
 · cases h
theorem all_lt {n : Nat} {z : List Value} (h : z.all flatW = true) : ∀ c, c ∈ z → VLt n c := fun c hc => .word (List.all_eq_true.1 h c hc)
theorem slc_lt {n l c : Nat} : VLt (n + 1) (slc n 0 l c) := .slice (by show n < n + 1; omega)
theorem slice_lt {n : Nat} {a : Addr} {l c : Nat} (h : VLt n (.slice (some a) l c)) (hs : a.spot = none) : a.block < n := by
 cases h with
 | word h => cases h
 | slice h => exact h
 | empty => cases hs
theorem ptr_lt {n : Nat} {a : Addr} (h : VLt n (.pointer (some a))) : a.block < n := by
 cases h with
 | word h => cases h
 | ptr h => exact h
set_option maxHeartbeats 1000000 in
theorem step_lt {bs n n1 : Nat} {io : O} {tm : Tm} {m m1 : Mem} {v : Value} (hok : io.ok = true) (hs : stepO bs io tm m n = some (v, m1, n1)) (hT : TLt tm n) (hM : MLt m n) : n ≤ n1 ∧ VLt n1 v ∧ MLt m1 n1 := by
 have keep : ∀ {v : Value}, VLt n v → n ≤ n ∧ VLt n v ∧ MLt m n := fun h => ⟨Nat.le_refl _, h, hM⟩
 have mk : ∀ {v : Value} {cells : List Value} {sz : Nat}, VLt (n + 1) v → (∀ c, c ∈ cells → VLt n c) → n ≤ n + 1 ∧ VLt (n + 1) v ∧ MLt (upd m n (some ⟨cells, true, sz⟩)) (n + 1) := by
  intro v cells sz hv hc
  refine ⟨by omega, hv, hM.upd (by omega) (fun _ => by omega) fun blk e c hm => ?_⟩
  cases e
  exact (hc c hm).mono (by omega)
 cases io with
 | mv x =>
   simp only [stepO, Option.some.injEq, Prod.mk.injEq] at hs
   obtain ⟨rfl, rfl, rfl⟩ := hs
   exact keep (E.lt hT hok)
 | pick c a b =>
   simp only [O.ok, Bool.and_eq_true] at hok
   simp only [stepO] at hs
   split at hs
   · rename_i t _
     simp only [Option.some.injEq, Prod.mk.injEq] at hs
     obtain ⟨rfl, rfl, rfl⟩ := hs
     cases t
     · exact keep (E.lt hT hok.2)
     · exact keep (E.lt hT hok.1.2)
   · cases hs
 | new z =>
   simp only [stepO, Option.some.injEq, Prod.mk.injEq] at hs
   obtain ⟨rfl, rfl, rfl⟩ := hs
   exact mk (.ptr (by show n < n + 1; omega)) (all_lt hok)
 | box x =>
   simp only [stepO] at hs
   split at hs
   · cases hs
   · simp only [Option.some.injEq, Prod.mk.injEq] at hs
     obtain ⟨rfl, rfl, rfl⟩ := hs
     exact mk (.ptr (by show n < n + 1; omega)) (cells_lt (E.lt hT hok))
 | ld x =>
   simp only [stepO] at hs
   repeat' (split at hs)
   all_goals first
    | (cases hs; done)
    | (simp only [Option.some.injEq, Prod.mk.injEq] at hs; obtain ⟨rfl, rfl, rfl⟩ := hs; exact keep (rd_lt hM (by assumption)))
 | ldn k x =>
   simp only [stepO] at hs
   repeat' (split at hs)
   all_goals first
    | (cases hs; done)
    | (simp only [Option.some.injEq, Prod.mk.injEq] at hs; obtain ⟨rfl, rfl, rfl⟩ := hs; exact keep (.agg fun c hc => rdn_lt hM (by assumption) c (by simpa using hc)))
 | st x y =>
   simp only [O.ok, Bool.and_eq_true] at hok
   simp only [stepO] at hs
   repeat' (split at hs)
   all_goals first
    | (cases hs; done)
    | (simp only [Option.some.injEq, Prod.mk.injEq] at hs; obtain ⟨rfl, rfl, rfl⟩ := hs; exact ⟨Nat.le_refl _, .junk, wr_lt hM (by assumption) (E.lt hT hok.2)⟩)
 | stn k x y =>
   simp only [O.ok, Bool.and_eq_true] at hok
   simp only [stepO] at hs
   split at hs
   · rename_i a vs h1 h2
     split at hs
     · split at hs
       · rename_i m2 hw
         simp only [Option.some.injEq, Prod.mk.injEq] at hs
         obtain ⟨rfl, rfl, rfl⟩ := hs
         refine ⟨Nat.le_refl _, .junk, wrn_lt hM hw fun c hc => ?_⟩
         have := E.lt hT hok.2
         rw [h2] at this
         exact cells_lt this c hc
       · cases hs
     · cases hs
   · cases hs
 | fa off x =>
   simp only [stepO] at hs
   split at hs
   · rename_i a h1
     split at hs
     · cases hs
     · simp only [Option.some.injEq, Prod.mk.injEq] at hs
       obtain ⟨rfl, rfl, rfl⟩ := hs
       have := E.lt hT hok
       rw [h1] at this
       have := ptr_lt this
       exact keep (.ptr (by show a.block < n; exact this))
   · cases hs
 | ia sz x i =>
   simp only [O.ok, Bool.and_eq_true] at hok
   simp only [stepO] at hs
   split at hs
   · rename_i a l c k j h1 h2
     split at hs
     · cases hs
     · rename_i hsp
       split at hs
       · simp only [Option.some.injEq, Prod.mk.injEq] at hs
         obtain ⟨rfl, rfl, rfl⟩ := hs
         have := E.lt hT hok.1
         rw [h1] at this
         have := slice_lt this (by simpa using hsp)
         exact keep (.ptr (by show a.block < n; exact this))
       · cases hs
   · cases hs
 | bin op x y =>
   simp only [stepO] at hs
   split at hs
   · rename_i u hu
     simp only [Option.some.injEq, Prod.mk.injEq] at hs
     obtain ⟨rfl, rfl, rfl⟩ := hs
     exact keep (.word (binv_flat hu))
   · cases hs
 | mk sz by_ z l c =>
   simp only [O.ok, Bool.and_eq_true] at hok
   simp only [stepO] at hs
   split at hs
   · split at hs
     · simp only [Option.some.injEq, Prod.mk.injEq] at hs
       obtain ⟨rfl, rfl, rfl⟩ := hs
       refine mk slc_lt fun c hc => ?_
       simp only [List.mem_flatten, List.mem_replicate] at hc
       obtain ⟨l, ⟨_, rfl⟩, hl⟩ := hc
       exact all_lt hok.1.1 c hl
     · cases hs
   · cases hs
 | bs sz k z ps =>
   simp only [O.ok, Bool.and_eq_true] at hok
   simp only [stepO] at hs
   split at hs
   · simp only [Option.some.injEq, Prod.mk.injEq] at hs
     obtain ⟨rfl, rfl, rfl⟩ := hs
     refine mk slc_lt (fill_lt _ _ (fun c hc => ?_) fun p hp c hc => ?_)
     · simp only [List.mem_flatten, List.mem_replicate] at hc
       obtain ⟨l, ⟨_, rfl⟩, hl⟩ := hc
       exact all_lt hok.1 c hl
     · simp only [List.mem_map] at hp
       obtain ⟨q, hq, rfl⟩ := hp
       exact cells_lt (E.lt hT (List.all_eq_true.1 hok.2 q hq)) c hc
   · cases hs
 | bd z ps =>
   simp only [O.ok, Bool.and_eq_true] at hok
   simp only [stepO] at hs
   split at hs
   · simp only [Option.some.injEq, Prod.mk.injEq] at hs
     obtain ⟨rfl, rfl, rfl⟩ := hs
     refine keep (.agg fun c hc => fill_lt _ _ (all_lt hok.1) (fun p hp c hc => ?_) c (by simpa using hc))
     simp only [List.mem_map] at hp
     obtain ⟨q, hq, rfl⟩ := hp
     exact cells_lt (E.lt hT (List.all_eq_true.1 hok.2 q hq)) c hc
   · cases hs
 | fld off k x =>
   simp only [stepO] at hs
   split at hs
   · rename_i cs h1
     have hx := E.lt hT hok
     rw [h1] at hx
     have hc := cells_lt hx
     cases k with
     | none =>
       simp only at hs
       split at hs
       · rename_i u hu
         simp only [Option.some.injEq, Prod.mk.injEq] at hs
         obtain ⟨rfl, rfl, rfl⟩ := hs
         exact keep (hc _ (Array.mem_toList_iff.2 (Array.mem_of_getElem? hu)))
       · cases hs
     | some k =>
       simp only [Option.some.injEq, Prod.mk.injEq] at hs
       obtain ⟨rfl, rfl, rfl⟩ := hs
       refine keep (.agg fun c hcm => hc c ?_)
       rw [Array.toList_extract, List.extract_eq_take_drop] at hcm
       exact List.mem_of_mem_drop (List.mem_of_mem_take hcm)
   · cases hs
 | ext i x =>
   simp only [stepO] at hs
   split at hs
   · rename_i vs h1
     split at hs
     · rename_i u hu
       simp only [Option.some.injEq, Prod.mk.injEq] at hs
       obtain ⟨rfl, rfl, rfl⟩ := hs
       have hx := E.lt hT hok
       rw [h1] at hx
       cases hx with
       | word h => cases h
       | tuple h => exact keep (h _ (Array.mem_toList_iff.2 (Array.mem_of_getElem? hu)))
     · cases hs
   · cases hs
 | fn f es =>
   simp only [stepO, Option.some.injEq, Prod.mk.injEq] at hs
   obtain ⟨rfl, rfl, rfl⟩ := hs
   refine keep (.func (fun x hx => by simp at hx) fun y hy => ?_)
   simp only [List.mem_map] at hy
   obtain ⟨e, he, rfl⟩ := hy
   exact E.lt hT (List.all_eq_true.1 hok e he)
 | app sz by_ s x =>
   simp only [O.ok, Bool.and_eq_true] at hok
   simp only [stepO] at hs
   split at hs
   · rename_i base len cap xb xl xc h1 h2
     have hsl := E.lt hT hok.1
     split at hs
     · split at hs
       · simp only [Option.some.injEq, Prod.mk.injEq] at hs
         obtain ⟨rfl, rfl, rfl⟩ := hs
         rw [h1] at hsl
         exact keep hsl
       · split at hs
         · cases hs
         · split at hs
           · cases hs
           · rename_i new hnew
             split at hs
             · split at hs
               · split at hs
                 · simp only [Option.some.injEq, Prod.mk.injEq] at hs
                   obtain ⟨rfl, rfl, rfl⟩ := hs
                   exact mk slc_lt (rdn_lt hM hnew)
                 · cases hs
               · split at hs
                 · cases hs
                 · split at hs
                   · cases hs
                   · rename_i blk hblk
                     split at hs
                     · simp only [Option.some.injEq, Prod.mk.injEq] at hs
                       obtain ⟨rfl, rfl, rfl⟩ := hs
                       have hM1 : ∀ b0, MLt (upd m b0 none) n := fun b0 => hM.upd (Nat.le_refl _) (fun h => by cases h) (fun blk e => by cases e)
                       refine ⟨by omega, slc_lt, (hM1 _).upd (by omega) (fun _ => by omega) fun b e c hc => ?_⟩
                       cases e
                       simp only [List.mem_append] at hc
                       rcases hc with hc | hc
                       · exact ((hM _ _ hblk).2 _ (List.mem_of_mem_drop (List.mem_of_mem_take hc))).mono (by omega)
                       · exact (rdn_lt hM hnew c hc).mono (by omega)
                     · cases hs
             · cases hs
     · cases hs
   · cases hs
 | sl sz x lo hi mx =>
   simp only [O.ok, Bool.and_eq_true] at hok
   simp only [stepO] at hs
   split at hs
   case h_2 => cases hs
   rename_i ad len cap h1
   have hx := E.lt hT hok.1.1.1
   rw [h1] at hx
   split at hs
   · cases hs
   split at hs
   · cases hs
   split at hs
   · cases hs
   split at hs
   case isFalse => cases hs
   split at hs
   · simp only [Option.some.injEq, Prod.mk.injEq] at hs
     obtain ⟨rfl, rfl, rfl⟩ := hs
     exact keep (.word rfl)
   · split at hs
     · simp only [Option.some.injEq, Prod.mk.injEq] at hs
       obtain ⟨rfl, rfl, rfl⟩ := hs
       exact keep .empty
     · split at hs
       · cases hs
       · rename_i hsp
         split at hs
         · cases hs
         · split at hs
           · simp only [Option.some.injEq, Prod.mk.injEq] at hs
             obtain ⟨rfl, rfl, rfl⟩ := hs
             have := slice_lt hx (by simpa using hsp)
             refine keep (.slice ?_)
             split <;> exact this
           · cases hs
 | nilc x =>
   simp only [stepO] at hs
   split at hs
   · rename_i a h1
     simp only [Option.some.injEq, Prod.mk.injEq] at hs
     obtain ⟨rfl, rfl, rfl⟩ := hs
     have hx := E.lt hT hok
     rw [h1] at hx
     exact keep hx
   · rename_i f a b h1
     simp only [Option.some.injEq, Prod.mk.injEq] at hs
     obtain ⟨rfl, rfl, rfl⟩ := hs
     have hx := E.lt hT hok
     rw [h1] at hx
     exact keep hx
   · cases hs
 | mn xs =>
   simp only [stepO] at hs
   split at hs
   · cases hs
   · rename_i x l h1
     split at hs
     · rename_i u hu
       simp only [Option.some.injEq, Prod.mk.injEq] at hs
       obtain ⟨rfl, rfl, rfl⟩ := hs
       have : x ∈ xs.map (·.ev tm) := by rw [h1]; exact List.mem_cons_self ..
       simp only [List.mem_map] at this
       obtain ⟨e, he, rfl⟩ := this
       exact keep (foldv_lt min2v_flat _ _ _ (E.lt hT (List.all_eq_true.1 hok e he)) hu)
     · cases hs
 | mx xs =>
   simp only [stepO] at hs
   split at hs
   · cases hs
   · rename_i x l h1
     split at hs
     · rename_i u hu
       simp only [Option.some.injEq, Prod.mk.injEq] at hs
       obtain ⟨rfl, rfl, rfl⟩ := hs
       have : x ∈ xs.map (·.ev tm) := by rw [h1]; exact List.mem_cons_self ..
       simp only [List.mem_map] at this
       obtain ⟨e, he, rfl⟩ := this
       exact keep (foldv_lt max2v_flat _ _ _ (E.lt hT (List.all_eq_true.1 hok e he)) hu)
     · cases hs
 | clr sz z x =>
   simp only [O.ok, Bool.and_eq_true] at hok
   simp only [stepO] at hs
   repeat' (split at hs)
   all_goals first
    | (cases hs; done)
    | (simp only [Option.some.injEq, Prod.mk.injEq] at hs; obtain ⟨rfl, rfl, rfl⟩ := hs; exact keep .junk)
    | (simp only [Option.some.injEq, Prod.mk.injEq] at hs; obtain ⟨rfl, rfl, rfl⟩ := hs; exact ⟨Nat.le_refl _, .junk, wrn_lt hM (by assumption) (fun c hc => by
        rw [List.mem_flatten] at hc
        obtain ⟨l, hl1, hl2⟩ := hc
        rw [List.mem_replicate] at hl1
        rw [hl1.2] at hl2
        exact all_lt hok.2 c hl2)⟩)
 | _ =>
   simp only [stepO] at hs
   repeat' (split at hs)
   all_goals first
    | (cases hs; done)
    | (simp only [Option.some.injEq, Prod.mk.injEq] at hs; obtain ⟨rfl, rfl, rfl⟩ := hs; exact keep (.word rfl))
def C.ok : C → Bool
 | .rg l => l.all fun o => o.o.ok
 | .seq a b => a.ok && b.ok
 | .cond c a b => c.ok && a.ok && b.ok
 | .block _ c => c.ok
 | .loop c => c.ok
 | _ => true
def Task.okT (G : Prg) : Task → Bool
 | .code c _ => c.ok
 | .ops l _ => l.all fun o => o.o.ok
 | .opsH _ _ l _ => l.all fun o => o.o.ok
 | .call _ _ => true
def Task.lt (n : Nat) : Task → Prop
 | .code _ tm => TLt tm n
 | .ops _ tm => TLt tm n
 | .opsH h _ _ tm => TLt tm n ∧ MLt h n
 | .call _ args => ∀ x, x ∈ args → VLt n x
def Res.lt (n : Nat) : Res → Prop
 | .exit _ tm => TLt tm n
 | .ret v => VLt n v
theorem callee_lt {n : Nat} {io : O} {tm : Tm} {f : Nat} {args : List Value} (hok : io.ok = true) (hT : TLt tm n) (h : io.callee tm = some (f, args)) : ∀ x, x ∈ args → VLt n x := by
 cases io with
 | call g es =>
   simp only [O.callee, Option.some.injEq, Prod.mk.injEq] at h
   obtain ⟨rfl, rfl⟩ := h
   intro x hx
   simp only [List.mem_map] at hx
   obtain ⟨e, he, rfl⟩ := hx
   exact E.lt hT (List.all_eq_true.1 hok e he)
 | calli f es =>
   simp only [O.ok, Bool.and_eq_true] at hok
   simp only [O.callee] at h
   split at h
   · rename_i g a b hg
     simp only [Option.some.injEq, Prod.mk.injEq] at h
     obtain ⟨rfl, rfl⟩ := h
     have hf := E.lt hT hok.1
     rw [hg] at hf
     cases hf with
     | word h => cases h
     | func h1 h2 =>
       intro x hx
       simp only [List.mem_append, List.mem_map] at hx
       rcases hx with (hx | ⟨e, he, rfl⟩) | hx
       · exact h1 x hx
       · exact E.lt hT (List.all_eq_true.1 hok.2 e he)
       · exact h2 x hx
   · cases h
 | _ => cases h
theorem retv_lt {n : Nat} {res : List RV} {tm : Tm} {m : Mem} {v : Value} (hT : TLt tm n) (hM : MLt m n) (h : retv res tm m = some v) : VLt n v := by
 have one : ∀ r u, retv1 tm m r = some u → VLt n u := by
  intro r u hu
  cases r with
  | tmp t => simp [retv1] at hu; subst hu; exact hT t
  | cell t =>
    simp only [retv1] at hu
    split at hu
    · exact rd_lt hM hu
    · cases hu
  | celln t k =>
    simp only [retv1] at hu
    split at hu
    · split at hu
      · rename_i vs hvs
        cases hu
        exact .agg fun c hc => rdn_lt hM hvs c (by simpa using hc)
      · cases hu
    · cases hu
 have all : ∀ res vs, retvs tm m res = some vs → ∀ u, u ∈ vs → VLt n u := by
  intro res
  induction res with
  | nil => intro vs hv u hu; simp [retvs] at hv; subst hv; simp at hu
  | cons r l ih =>
    intro vs hv u hu
    simp only [retvs] at hv
    split at hv
    · rename_i x xs h1 h2
      cases hv
      simp only [List.mem_cons] at hu
      rcases hu with rfl | hu
      · exact one _ _ h1
      · exact ih _ h2 _ hu
    · cases hv
 unfold retv at h
 split at h
 · rename_i u hu; cases h; exact all _ _ hu _ (List.mem_cons_self ..)
 · rename_i vs _ hvs; cases h; exact .tuple fun c hc => all _ _ hvs c (by simpa using hc)
 · cases h
theorem nov_lt {n : Nat} : VLt n nov := .tuple fun x hx => by simp at hx
def Own (m : Mem) (b : Nat) : Prop := ∃ x, m b = some x ∧ x.own = true
theorem mrg_none {h m : Mem} {b : Nat} (e : h b = none) : mrg h m b = m b := by simp only [mrg, e]
theorem mrg_some {h m : Mem} {b : Nat} {x : Blk} (e : h b = some x) : mrg h m b = some x := by simp only [mrg, e]
theorem mrg_inv {h m : Mem} {b : Nat} {x : Blk} (e : mrg h m b = some x) : h b = some x ∨ (h b = none ∧ m b = some x) := by
 unfold mrg at e
 split at e
 · rename_i y hy; cases e; exact .inl hy
 · rename_i hy; exact .inr ⟨hy, e⟩
theorem MLt.mrg {h m : Mem} {n : Nat} (hh : MLt h n) (hm : MLt m n) : MLt (AL.mrg h m) n := by
 intro b blk e
 rcases mrg_inv e with e | ⟨_, e⟩
 · exact hh b blk e
 · exact hm b blk e
theorem MLt.unmrg {h m : Mem} {n : Nat} (hd : ∀ b x, h b = some x → m b = none) (hm : MLt (AL.mrg h m) n) : MLt h n ∧ MLt m n := by
 refine ⟨fun b blk e => hm b blk (mrg_some e), fun b blk e => ?_⟩
 cases e1 : h b with
 | some x => rw [hd b x e1] at e; cases e
 | none => exact hm b blk (by rw [mrg_none e1]; exact e)
theorem stepA_lt {bs n n1 : Nat} {io : O} {tm : Tm} {m m1 : Mem} {v : Value} (hs : stepA bs io tm m n = some (v, m1, n1)) (hM : MLt m n) : n ≤ n1 ∧ VLt n1 v ∧ MLt m1 n1 := by
 obtain ⟨sz, x, lo, hi, a, len, cap, h, l, b, _, _, _, _, _, _, _, _, hb, _, _, _, _, rfl, rfl, rfl⟩ := stepA_inv hs
 refine ⟨by omega, slc_lt, ?_⟩
 refine (hM.upd (n1 := n) (Nat.le_refl _) (fun h => by cases h) (fun _ e => by cases e)).upd (by omega) (fun _ => by omega) fun blk e c hc => ?_
 cases e
 exact ((hM _ _ hb).2 c (List.mem_of_mem_drop (List.mem_of_mem_take hc))).mono (by omega)
theorem HvR.lt {o : O} {tm : Tm} {n : Nat} {h m mh mh' h2 m2 : Mem} {X : Xs} {T : List Nat} (hv : HvR o tm n h X T m mh mh' h2 m2) (hh : MLt h n) (hm : MLt m n) : MLt mh n := fun b x e => by
 rcases hv.sub b x e with ⟨_, e1⟩ | e1
 · exact hh b x e1
 · exact hm b x e1
theorem HvR.lt2 {o : O} {tm : Tm} {n n1 : Nat} {h m mh mh' h2 m2 : Mem} {X : Xs} {T : List Nat} (hv : HvR o tm n h X T m mh mh' h2 m2) (hn : n ≤ n1) (hh : MLt h n) (hm : MLt m n) (hx : MLt mh' n1) : MLt h2 n1 ∧ MLt m2 n1 := by
 refine ⟨fun b x e => ?_, fun b x e => ?_⟩
 · rcases hv.outH b x e with ⟨_, _, e1⟩ | ⟨_, e1⟩
   · exact (hh.mono hn) b x e1
   · exact hx b x e1
 · rcases hv.outM b x e with ⟨_, e1⟩ | ⟨_, e1⟩
   · exact (hm.mono hn) b x e1
   · exact hx b x e1
theorem Big.lt {G bs T m n r m1 n1} (hG : ∀ f fn, G f = some fn → fn.body.ok = true) (h : Big G bs T m n r m1 n1) : T.okT G = true → T.lt n → MLt m n → n ≤ n1 ∧ r.lt n1 ∧ MLt m1 n1 := by
 induction h with
 | skip => intro _ hT hM; exact ⟨Nat.le_refl _, hT, hM⟩
 | ret => intro _ hT hM; exact ⟨Nat.le_refl _, hT, hM⟩
 | exit => intro _ hT hM; exact ⟨Nat.le_refl _, hT, hM⟩
 | seqN _ _ ih1 ih2 =>
   intro ho hT hM
   simp only [Task.okT, C.ok, Bool.and_eq_true] at ho
   obtain ⟨h1, h2, h3⟩ := ih1 ho.1 hT hM
   obtain ⟨h4, h5, h6⟩ := ih2 ho.2 h2 h3
   exact ⟨by omega, h5, h6⟩
 | seqE _ _ ih =>
   intro ho hT hM
   simp only [Task.okT, C.ok, Bool.and_eq_true] at ho
   exact ih ho.1 hT hM
 | @cond bs c a b tm m n t r m1 n1 _ _ ih =>
   intro ho hT hM
   simp only [Task.okT, C.ok, Bool.and_eq_true] at ho
   refine ih ?_ hT hM
   cases t
   · exact ho.2
   · exact ho.1.2
 | block _ ih => intro ho hT hM; exact ih ho hT hM
 | loopN _ _ ih1 ih2 =>
   intro ho hT hM
   obtain ⟨h1, h2, h3⟩ := ih1 ho hT hM
   obtain ⟨h4, h5, h6⟩ := ih2 ho h2 h3
   exact ⟨by omega, h5, h6⟩
 | loopE _ _ ih => intro ho hT hM; exact ih ho hT hM
 | rg _ ih => intro ho hT hM; exact ih ho hT hM
 | opsNil => intro _ hT hM; exact ⟨Nat.le_refl _, hT, hM⟩
 | opsSkip _ _ _ _ ih =>
   intro ho hT hM
   simp only [Task.okT, List.all_cons, Bool.and_eq_true] at ho
   exact ih ho.2 (TLt.put hT _ nov_lt) hM
 | opsNone _ _ _ ih =>
   intro ho hT hM
   simp only [Task.okT, List.all_cons, Bool.and_eq_true] at ho
   exact ih ho.2 (TLt.put hT _ nov_lt) hM
 | opsPure _ hs _ ih =>
   intro ho hT hM
   simp only [Task.okT, List.all_cons, Bool.and_eq_true] at ho
   obtain ⟨h1, h2, h3⟩ := step_lt ho.1 hs hT hM
   obtain ⟨h4, h5, h6⟩ := ih ho.2 (TLt.put (hT.mono h1) _ h2) h3
   exact ⟨by omega, h5, h6⟩
 | opsAlt _ _ hs _ ih =>
   intro ho hT hM
   simp only [Task.okT, List.all_cons, Bool.and_eq_true] at ho
   obtain ⟨h1, h2, h3⟩ := stepA_lt hs hM
   obtain ⟨h4, h5, h6⟩ := ih ho.2 (TLt.put (hT.mono h1) _ h2) h3
   exact ⟨by omega, h5, h6⟩
 | opsCall _ hc _ _ ih1 ih2 =>
   intro ho hT hM
   simp only [Task.okT, List.all_cons, Bool.and_eq_true] at ho
   obtain ⟨h1, h2, h3⟩ := ih1 rfl (callee_lt ho.1 hT hc) hM
   obtain ⟨h4, h5, h6⟩ := ih2 ho.2 (TLt.put (hT.mono h1) _ h2) h3
   exact ⟨by omega, h5, h6⟩
 | rgH hd _ ih => intro ho hT hM; obtain ⟨h1, h2⟩ := hM.unmrg hd; exact ih ho ⟨hT, h1⟩ h2
 | opsPureH _ _ hs hd _ ih =>
   intro ho hT hM
   simp only [Task.okT, List.all_cons, Bool.and_eq_true] at ho
   obtain ⟨h1, h2, h3⟩ := step_lt ho.1 hs hT hM
   obtain ⟨h6, h7⟩ := h3.unmrg hd
   obtain ⟨h4, h5, h6⟩ := ih ho.2 ⟨TLt.put (hT.mono h1) _ h2, h6⟩ h7
   exact ⟨by omega, h5, h6⟩
 | @opsNewH bs o l tm m n v blk r m2 n2 _ _ hs _ ih =>
   intro ho hT hM
   simp only [Task.okT, List.all_cons, Bool.and_eq_true] at ho
   obtain ⟨h1, h2, h3⟩ := step_lt ho.1 hs hT hM
   have hh : MLt (upd (fun _ => none) n (some blk)) (n + 1) := by
    intro b x e
    simp only [upd] at e
    split at e
    · rename_i hb; subst hb; cases e; exact h3 b _ (by simp [upd])
    · cases e
   obtain ⟨h4, h5, h6⟩ := ih ho.2 ⟨TLt.put (hT.mono h1) _ h2, hh⟩ (hM.mono h1)
   exact ⟨by omega, h5, h6⟩
 | hNil => intro _ hT hM; exact ⟨Nat.le_refl _, hT.1, hT.2.mrg hM⟩
 | hBar _ _ ih => intro ho hT hM; exact ih ho hT.1 (hT.2.mrg hM)
 | hSkip _ _ _ ih =>
   intro ho hT hM
   simp only [Task.okT, List.all_cons, Bool.and_eq_true] at ho
   exact ih ho.2 ⟨TLt.put hT.1 _ nov_lt, hT.2⟩ hM
 | hPure _ _ hs _ ih =>
   intro ho hT hM
   simp only [Task.okT, List.all_cons, Bool.and_eq_true] at ho
   obtain ⟨h1, h2, h3⟩ := step_lt ho.1 hs hT.1 hM
   obtain ⟨h4, h5, h6⟩ := ih ho.2 ⟨TLt.put (hT.1.mono h1) _ h2, hT.2.mono h1⟩ h3
   exact ⟨by omega, h5, h6⟩
 | hCall _ _ hc _ _ ih1 ih2 =>
   intro ho hT hM
   simp only [Task.okT, List.all_cons, Bool.and_eq_true] at ho
   obtain ⟨h1, h2, h3⟩ := ih1 rfl (callee_lt ho.1 hT.1 hc) hM
   obtain ⟨h4, h5, h6⟩ := ih2 ho.2 ⟨TLt.put (hT.1.mono h1) _ h2, hT.2.mono h1⟩ h3
   exact ⟨by omega, h5, h6⟩
 | @hNew bs h X o l tm m n v blk r m2 n2 _ _ hs _ ih =>
   intro ho hT hM
   simp only [Task.okT, List.all_cons, Bool.and_eq_true] at ho
   obtain ⟨h1, h2, h3⟩ := step_lt ho.1 hs hT.1 hM
   have hh : MLt (upd h n (some blk)) (n + 1) := by
    intro b x e
    simp only [upd] at e
    split at e
    · rename_i hb; subst hb; cases e; exact h3 b _ (by simp [upd])
    · exact (hT.2.mono h1) b x e
   obtain ⟨h4, h5, h6⟩ := ih ho.2 ⟨TLt.put (hT.1.mono h1) _ h2, hh⟩ (hM.mono h1)
   exact ⟨by omega, h5, h6⟩
 | hHvO _ _ hs hv _ ih =>
   intro ho hT hM
   simp only [Task.okT, List.all_cons, Bool.and_eq_true] at ho
   have hMh := hv.lt hT.2 hM
   obtain ⟨h1, h2, h3⟩ := step_lt ho.1 hs hT.1 hMh
   obtain ⟨h7, h8⟩ := hv.lt2 h1 hT.2 hM h3
   obtain ⟨h4, h5, h6⟩ := ih ho.2 ⟨TLt.put (hT.1.mono h1) _ h2, h7⟩ h8
   exact ⟨by omega, h5, h6⟩
 | hHvC _ _ hc _ hv _ ih1 ih =>
   intro ho hT hM
   simp only [Task.okT, List.all_cons, Bool.and_eq_true] at ho
   have hMh := hv.lt hT.2 hM
   obtain ⟨h1, h2, h3⟩ := ih1 rfl (callee_lt ho.1 hT.1 hc) hMh
   obtain ⟨h7, h8⟩ := hv.lt2 h1 hT.2 hM h3
   obtain ⟨h4, h5, h6⟩ := ih ho.2 ⟨TLt.put (hT.1.mono h1) _ h2, h7⟩ h8
   exact ⟨by omega, h5, h6⟩
 | hSide _ _ _ hb _ _ _ hs _ ih =>
   intro ho hT hM
   simp only [Task.okT, List.all_cons, Bool.and_eq_true] at ho
   obtain ⟨h1, h2, h3⟩ := step_lt ho.1 (hs _ _ hb) hT.1 hT.2
   exact ih ho.2 ⟨TLt.put hT.1 _ h2, h3⟩ hM
 | @call bs f args fn m n e tm1 m1 n1 v hf _ _ hr ih =>
   intro _ hT hM
   have h0 : TLt (tm0 args) n := by
    intro t
    simp only [tm0, List.getD]
    cases ha : args[t]? with
    | none => exact .junk
    | some x => exact hT x (List.mem_of_getElem? ha)
   obtain ⟨h1, h2, h3⟩ := ih (hG _ _ hf) h0 hM
   exact ⟨h1, retv_lt h2 h3 hr, h3⟩
 | callS _ hv hs ih => intro _ hT hM; exact ⟨Nat.le_refl _, .flat hv, hM⟩
 | callN hv => intro _ hT hM; exact ⟨Nat.le_refl _, .flat (nat_flat hv), hM⟩
 | callJ hv => intro _ hT hM; obtain ⟨_, _, _, _, _, _, _, _, _, _, _, _, _, rfl⟩ := natJ_inv hv; exact ⟨Nat.le_refl _, .flat rfl, hM⟩
 | drop _ hs ih =>
   intro ho hT hM
   obtain ⟨h1, h2, h3⟩ := ih ho hT hM
   exact ⟨h1, h2, h3.sub hs⟩
 | rst _ hs h ih =>
   intro ho hT hM
   refine ⟨Nat.le_refl _, fun t => ?_, hM⟩
   rcases (h t).2 with h1 | ⟨h1, h2 | h2⟩
   · rw [h1]; exact .junk
   · rw [h1, h2]; exact hT t
   · rw [h1]; exact .flat h2
 | jk _ h ih =>
   intro ho hT hM
   obtain ⟨h1, h2, h3⟩ := ih ho hT hM
   refine ⟨h1, fun t => ?_, h3⟩
   rcases (h t).2 with h4 | h4
   · rw [h4]; exact .junk
   · rw [h4]; exact h2 t
 | wk _ h ih =>
   intro ho hT hM
   refine ih ho (fun t => ?_) hM
   rcases (h t).2 with h4 | h4
   · rw [h4]; exact .junk
   · rw [h4]; exact hT t
end Go.Proofs.YtoppcdecolponaaDoor.AL
