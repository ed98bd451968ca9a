/- What functions do with plain data, each by the form of its code. Printed by program. -/
import Derived.Test.YtoppcdecolponaaDoorIrNumbers
namespace Go.Proofs.YtoppcdecolponaaDoor.AL
open Go
set_option linter.unusedVariables false
set_option linter.unusedSimpArgs false
set_option maxRecDepth 4096
theorem c_230 (a b c : Int) : CV prg 230 [.w (.int .i64 a), .w (.int .i64 b), .w (.int .i64 c)] (fun res => res = .w (.bool (inB a b c))) := by
 refine cv_in g230 (Ed [0, 1, 2] rfl (Ei (Eo (Ea (Eb rfl) (Eg (Ee (Ed [0, 1, 2] rfl (Ei (Eo (Ea (Eb rfl) (Ea (Eb rfl) ?_)))))))))))
 refine Ea (o_geq rfl rfl) (Ea (Eb rfl) ?_)
 first | refine s_gDT rfl ?_ ?_ | refine s_gB rfl ?_ ?_
 intro h1
 try rw [nnp] at h1
 refine Ea (Eb rfl) (Ec rfl (Ea (Eb rfl) (Ec rfl (Ea (o_leq rfl rfl) (Ea (Ef rfl rfl) (Ea (Eb rfl) (Eg (Ee (Ed [6] rfl (Eu (Eq rfl rfl ?_)))))))))))
 rotate_left
 intro h1
 try rw [nnp] at h1
 refine Ej rfl (Ej rfl (Ej rfl (Ea (En rfl rfl) (Ea (Eb rfl) (Eg (Ee (Ed [6] rfl (Eu (Eq rfl rfl ?_)))))))))
 rotate_left
 all_goals
  simp_all [inB] <;> omega
theorem c_103 (a b c : Int) : CV prg 103 [.w (.int .i64 a), .w (.int .i64 b), .w (.int .i64 c)] (fun res => res = .w (.bool (inB a b c))) := by
 refine cv_in g103 (Ed [0, 1, 2] rfl (Ei (Eo (Ea (Eb rfl) (Eg (Ee (Ed [0, 1, 2] rfl (Ei (Eo (Ea (Eb rfl) (Ea (Eb rfl) ?_)))))))))))
 refine Ea (o_leq rfl rfl) (Ea (Eb rfl) ?_)
 first | refine s_gDT rfl ?_ ?_ | refine s_gB rfl ?_ ?_
 intro h1
 try rw [nnp] at h1
 refine Ea (Eb rfl) (Ec rfl (Ea (Eb rfl) (Ec rfl (Ea (o_leq rfl rfl) (Ea (Ef rfl rfl) (Ea (Eb rfl) (Eg (Ee (Ed [6] rfl (Eu (Eq rfl rfl ?_)))))))))))
 rotate_left
 intro h1
 try rw [nnp] at h1
 refine Ej rfl (Ej rfl (Ej rfl (Ea (En rfl rfl) (Ea (Eb rfl) (Eg (Ee (Ed [6] rfl (Eu (Eq rfl rfl ?_)))))))))
 rotate_left
 all_goals
  simp_all [inB] <;> omega
def Conf.small (x : Conf) : Prop := x.masters.length ≤ 1048576
def Conf.sz (x : Conf) : Nat := x.masters.length
theorem Conf.small_of {x : Conf} (h : x.sz ≤ 1048576) : x.small := by unfold Conf.small; unfold Conf.sz at h; omega
def Done.beq (x y : Done) : Bool := ((x.cycle == y.cycle) && ((x.who == y.who) && ((x.write == y.write) && ((x.addr == y.addr) && ((x.size == y.size) && ((x.value == y.value) && ((x.resp == y.resp) && true)))))))
theorem Done.of_beq {x y : Done} (h : Done.beq x y = true) : x = y := by
 cases x; cases y; simp_all [Done.beq]
theorem Done.no_beq {x y : Done} (h : Done.beq x y = false) : x ≠ y := by
 rintro rfl; simp [Done.beq] at h
theorem Done.beq_dec (x y : Done) : Done.beq x y = decide (x = y) := by
 cases h : Done.beq x y
 · exact (decide_eq_false (Done.no_beq h)).symm
 · exact (decide_eq_true (Done.of_beq h)).symm
def folOk (p : Done × Done) : Bool := (p.1.write == p.2.write) && decide (p.1.addr = p.2.addr) && decide (p.1.size = p.2.size) && !(p.1.write && decide (p.1.resp = 0) && decide (p.1.value ≠ p.2.value))
def follows (l w : List Done) : Bool := decide (l.length ≤ w.length) && (l.zip w).all folOk
def Req.small (x : Req) : Prop := x.data.length ≤ 1048576
def Req.sz (x : Req) : Nat := x.data.length
theorem Req.small_of {x : Req} (h : x.sz ≤ 1048576) : x.small := by unfold Req.small; unfold Req.sz at h; omega
def Mst.small (x : Mst) : Prop := x.queue.length ≤ 1048576 ∧ (∀ y, y ∈ x.queue → Req.small y)
def Mst.sz (x : Mst) : Nat := x.queue.length + sumL Req.sz x.queue
theorem Mst.small_of {x : Mst} (h : x.sz ≤ 1048576) : x.small := ⟨by unfold Mst.sz at h; omega, fun y hy => Req.small_of (by have := sumL_mem Req.sz hy; unfold Mst.sz at h; omega)⟩
def roundStep (c : Conf) (s : Int) (i : Nat) : Int := IntKind.wrap .i64 (s + IntKind.wrap .i64 (c.turn i * c.slot))
def Conf.round (c : Conf) : Int := if c.ok then (List.range c.masters.length).foldl (roundStep c) (IntKind.wrap .i64 (c.cost * c.masters.length)) else 0
def Conf.bound (c : Conf) (beats : Int) : Int := if c.ok && inB beats 1 8 then
 IntKind.wrap .i64 (IntKind.wrap .i64 (IntKind.wrap .i64 (2 * IntKind.wrap .i64 (IntKind.wrap .i64 (beats * IntKind.wrap .i64 (IntKind.wrap .i64 (IntKind.wrap .i64 (2 * c.round) + c.maxSplit) + c.cost)) + c.caps)) + IntKind.wrap .i64 (2 * c.slot)) + 10) else 0
def Wrr.back (w : Wrr) (c : Conf) (who : Int) : Wrr := if w.ok c && decide (who = w.pos) then { w with credit := min (IntKind.wrap .i64 (w.credit + 1)) (c.turn who) } else w
def Post.small (x : Post) : Prop := x.req.small
def Post.sz (x : Post) : Nat := x.req.sz
theorem Post.small_of {x : Post} (h : x.sz ≤ 1048576) : x.small := Req.small_of (by unfold Post.sz at h; omega)
def Script.small (x : Script) : Prop := x.posts.length ≤ 1048576 ∧ (∀ y, y ∈ x.posts → Post.small y) ∧ x.waits.length ≤ 1048576 ∧ x.says.length ≤ 1048576
def Script.sz (x : Script) : Nat := x.posts.length + sumL Post.sz x.posts + x.waits.length + x.says.length
theorem Script.small_of {x : Script} (h : x.sz ≤ 1048576) : x.small := ⟨by unfold Script.sz at h; omega, fun y hy => Post.small_of (by have := sumL_mem Post.sz hy; unfold Script.sz at h; omega), by unfold Script.sz at h; omega, by unfold Script.sz at h; omega⟩
def Dev.small (x : Dev) : Prop := x.regs.length ≤ 1048576 ∧ x.fifo.length ≤ 1048576
def Dev.sz (x : Dev) : Nat := x.regs.length + x.fifo.length
theorem Dev.small_of {x : Dev} (h : x.sz ≤ 1048576) : x.small := ⟨by unfold Dev.sz at h; omega, by unfold Dev.sz at h; omega⟩
def Model.small (x : Model) : Prop := x.ram.length ≤ 1048576 ∧ x.dev.small
def Model.sz (x : Model) : Nat := x.ram.length + x.dev.sz
theorem Model.small_of {x : Model} (h : x.sz ≤ 1048576) : x.small := ⟨by unfold Model.sz at h; omega, Dev.small_of (by unfold Model.sz at h; omega)⟩
def Bus.small (x : Bus) : Prop := x.conf.small ∧ x.ms.length ≤ 1048576 ∧ (∀ y, y ∈ x.ms → Mst.small y) ∧ x.buckets.length ≤ 1048576 ∧ x.splits.length ≤ 1048576 ∧ x.model.small ∧ x.log.length ≤ 1048576
def Bus.sz (x : Bus) : Nat := x.conf.sz + x.ms.length + sumL Mst.sz x.ms + x.buckets.length + x.splits.length + x.model.sz + x.log.length
theorem Bus.small_of {x : Bus} (h : x.sz ≤ 1048576) : x.small := ⟨Conf.small_of (by unfold Bus.sz at h; omega), by unfold Bus.sz at h; omega, fun y hy => Mst.small_of (by have := sumL_mem Mst.sz hy; unfold Bus.sz at h; omega), by unfold Bus.sz at h; omega, by unfold Bus.sz at h; omega, Model.small_of (by unfold Bus.sz at h; omega), by unfold Bus.sz at h; omega⟩
def MConf.beq (x y : MConf) : Bool := ((x.weight == y.weight) && ((x.prio == y.prio) && ((x.every == y.every) && ((x.cap == y.cap) && true))))
theorem MConf.of_beq {x y : MConf} (h : MConf.beq x y = true) : x = y := by
 cases x; cases y; simp_all [MConf.beq]
theorem MConf.no_beq {x y : MConf} (h : MConf.beq x y = false) : x ≠ y := by
 rintro rfl; simp [MConf.beq] at h
theorem MConf.beq_dec (x y : MConf) : MConf.beq x y = decide (x = y) := by
 cases h : MConf.beq x y
 · exact (decide_eq_false (MConf.no_beq h)).symm
 · exact (decide_eq_true (MConf.of_beq h)).symm
def Bucket.beq (x y : Bucket) : Bool := ((x.tokens == y.tokens) && ((x.count == y.count) && true))
theorem Bucket.of_beq {x y : Bucket} (h : Bucket.beq x y = true) : x = y := by
 cases x; cases y; simp_all [Bucket.beq]
theorem Bucket.no_beq {x y : Bucket} (h : Bucket.beq x y = false) : x ≠ y := by
 rintro rfl; simp [Bucket.beq] at h
theorem Bucket.beq_dec (x y : Bucket) : Bucket.beq x y = decide (x = y) := by
 cases h : Bucket.beq x y
 · exact (decide_eq_false (Bucket.no_beq h)).symm
 · exact (decide_eq_true (Bucket.of_beq h)).symm
def Beat.beq (x y : Beat) : Bool := ((x.live == y.live) && ((x.who == y.who) && ((x.num == y.num) && ((x.first == y.first) && ((x.via == y.via) && ((x.left == y.left) && ((x.resp == y.resp) && ((x.second == y.second) && true))))))))
theorem Beat.of_beq {x y : Beat} (h : Beat.beq x y = true) : x = y := by
 cases x; cases y; simp_all [Beat.beq]
theorem Beat.no_beq {x y : Beat} (h : Beat.beq x y = false) : x ≠ y := by
 rintro rfl; simp [Beat.beq] at h
theorem Beat.beq_dec (x y : Beat) : Beat.beq x y = decide (x = y) := by
 cases h : Beat.beq x y
 · exact (decide_eq_false (Beat.no_beq h)).symm
 · exact (decide_eq_true (Beat.of_beq h)).symm
def Wrr.beq (x y : Wrr) : Bool := ((x.pos == y.pos) && ((x.credit == y.credit) && true))
theorem Wrr.of_beq {x y : Wrr} (h : Wrr.beq x y = true) : x = y := by
 cases x; cases y; simp_all [Wrr.beq]
theorem Wrr.no_beq {x y : Wrr} (h : Wrr.beq x y = false) : x ≠ y := by
 rintro rfl; simp [Wrr.beq] at h
theorem Wrr.beq_dec (x y : Wrr) : Wrr.beq x y = decide (x = y) := by
 cases h : Wrr.beq x y
 · exact (decide_eq_false (Wrr.no_beq h)).symm
 · exact (decide_eq_true (Wrr.of_beq h)).symm
structure Bus.parts (x y : Bus) : Prop where
 conf : x.conf = y.conf
 now : x.now = y.now
 ms : x.ms = y.ms
 arb : x.arb = y.arb
 buckets : x.buckets = y.buckets
 splits : x.splits = y.splits
 holder : x.holder = y.holder
 kept : x.kept = y.kept
 last : x.last = y.last
 addr : x.addr = y.addr
 data : x.data = y.data
 model : x.model = y.model
 picks : x.picks = y.picks
 log : x.log = y.log
def bytes (size : Int) : Int := if inB size 0 2 then (if size = 0 then 1 else if size = 1 then 2 else 4) else 0
def limit (size : Int) : Int := if inB size 0 2 then (if size = 0 then 256 else if size = 1 then 65536 else 4294967296) else 0
def beatsN (b : Int) : Int := if b = 0 then 1 else if b = 3 then 8 else 4
def beats (b : Int) : Int := if inB b 0 3 then beatsN b else 0
def aligned (a size : Int) : Bool := inB size 0 2 && decide (0 ≤ a) && decide (a.tmod (bytes size) = 0)
def nextA (a size burst : Int) : Int :=
 if aligned a size && decide (a < 512) && decide (beats burst ≠ 0) then
  (if burst = 2 ∧ (a + bytes size).tmod (4 * bytes size) = 0 then a + bytes size - 4 * bytes size else a + bytes size)
 else -1
def bl (s b : Int) : Nat → Int → Option (List Int)
 | 0, _ => some []
 | n + 1, a => if nextA a s b < 0 then none else (bl s b n (nextA a s b)).map (a :: ·)
def burstL (a s b : Int) : List Int := (bl s b (beats b).toNat a).getD []
def onPage (l : List Int) (x : Int) : Bool := decide (IntKind.wrap .i64 (x.tdiv 64) = IntKind.wrap .i64 (((l[0]?).getD 0).tdiv 64))
def burstOk (a s b : Int) : Bool := (burstL a s b).all (onPage (burstL a s b)) && decide (0 < (burstL a s b).length)
def Req.ok (x : Req) : Bool := burstOk x.addr x.size x.burst && decide ((x.data.length : Int) = if x.write then beats x.burst else 0) && x.data.all fun v => inB v 0 (limit x.size - 1)
def Mst.beats (m : Mst) : Int := match m.queue[0]? with | some r => AL.beats r.burst | none => 0
def Mst.right (m : Mst) : Bool := decide (m.queue.length ≤ 4) && decide (0 ≤ m.tries) && m.queue.all Req.ok &&
 (if m.queue.length = 0 then decide (m.beat = 0) && decide (m.done = 0) && decide (m.tries = 0) && !m.parted && !m.broken else inB m.done 0 (m.beats - 1) && inB m.beat m.done (min (m.done + 2) m.beats))
def okAt (c : Conf) (s : Script) (i : Nat) : Bool := match s.posts[i]? with
 | some p => inB p.moment 0 4000 && inB p.who 0 (c.masters.length - 1) && p.req.ok && (match i with
   | 0 => true
   | j + 1 => match s.posts[j]? with
     | some q => decide (q.moment ≤ p.moment)
     | none => true)
 | none => true
def Script.ok (s : Script) (c : Conf) : Bool := c.ok && decide (s.posts.length ≤ 20) && decide (s.waits.length ≤ 20) && decide (s.says.length ≤ 20) && (List.range s.posts.length).all (okAt c s)
def Wrr.hit (w : Wrr) (req : List Bool) (i : Nat) : Bool := (req[((w.pos + ((i : Int) + 1)).tmod req.length).toNat]?).getD false
def Wrr.pick (w : Wrr) (c : Conf) (req : List Bool) : Wrr × Int := if w.ok c && decide (req.length = c.masters.length) then
    (if decide (0 < w.credit) && (req[w.pos.toNat]?).getD false then (⟨w.pos, IntKind.wrap .i64 (w.credit - 1)⟩, w.pos)
     else match (List.range req.length).find? (w.hit req) with
      | some i => (⟨(w.pos + ((i : Int) + 1)).tmod req.length, IntKind.wrap .i64 (c.turn ((w.pos + ((i : Int) + 1)).tmod req.length) - 1)⟩, (w.pos + ((i : Int) + 1)).tmod req.length)
      | none => (⟨w.pos, 0⟩, -1))
 else (w, -1)
def band (a b : Int) : Int := IntKind.wrap .i64 ((BitVec.ofInt 64 a &&& BitVec.ofInt 64 b).toNat : Nat)
def bxor (a b : Int) : Int := IntKind.wrap .i64 ((BitVec.ofInt 64 a ^^^ BitVec.ofInt 64 b).toNat : Nat)
theorem o_band {G : Prg} {q : Bool} {tl : Tl} {L : List LB} {x y a b} (hx : evE tl x = some (.w (.int .i64 a))) (hy : evE tl y = some (.w (.int .i64 b))) : OpV G q (.bin .and x y) tl L (some (.w (.int .i64 (band a b)))) L :=
 o_bin hx hy rfl rfl
theorem o_bxor {G : Prg} {q : Bool} {tl : Tl} {L : List LB} {x y a b} (hx : evE tl x = some (.w (.int .i64 a))) (hy : evE tl y = some (.w (.int .i64 b))) : OpV G q (.bin .xor x y) tl L (some (.w (.int .i64 (bxor a b)))) L :=
 o_bin hx hy rfl rfl
theorem band_bd (a : Int) : 0 ≤ band a 255 ∧ band a 255 ≤ 255 := by
 have h : (BitVec.ofInt 64 a &&& BitVec.ofInt 64 255).toNat ≤ 255 := by
  rw [BitVec.toNat_and]
  exact Nat.le_trans Nat.and_le_right (by decide)
 unfold band
 rw [wrap_in _ (by omega)]
 omega
def cur (code : List Int) (i h : Int) : LB := .cell [.sl 1 (code.map uR), .w (.int .i64 i), .w (.int .i64 h)]
theorem tmod_bd {x n : Int} (hx : 0 ≤ x) (hn : 0 < n) : 0 ≤ x.tmod n ∧ x.tmod n < n := ⟨Int.tmod_nonneg _ hx, Int.tmod_lt_of_pos _ hn⟩
def unI : List (List V) → Option (List Int)
 | [] => some []
 | [.w (.int .i64 x)] :: l => match unI l with
   | some r => some (x :: r)
   | none => none
 | _ => none
theorem unI_inv : ∀ {l : List (List V)} {r : List Int}, unI l = some r → l = r.map iR
 | [], r, h => by simp [unI] at h; subst h; rfl
 | a :: l, r, h => by
   unfold unI at h
   split at h
   · rename_i h1; cases h1
   · rename_i x l' e
     injection e with e1 e2
     subst e1 e2
     split at h
     · rename_i r' h1; cases h; rw [unI_inv h1]; rfl
     · cases h
   · cases h
theorem c_123 (code : List Int) (hw : code.length ≤ 140737488355328) : CV prg 123 [.sl 1 (code.map uR)] (fun res => res = .w (.bool (decide (1048576 < (code.length : Int))))) := by
 refine cv_in g123 (Ed [0] rfl (Ei (Eo (Ea (Eb rfl) (Eg (Ee (Ed [0] rfl (Ei (Eo (Ea (Eb rfl) ?_))))))))))
 first | refine Ea (o_lenM rfl) ?_ | refine Ea (o_len rfl) ?_
 refine Ea (Ez rfl rfl) (Ea (Eb rfl) (Eg (Ee (Ed [2] rfl (Eu (Eq rfl rfl ?_))))))
 rotate_left
 all_goals
  rfl
def Bucket.ok (b : Bucket) (m : MConf) : Bool := if m.prio then inB b.tokens 0 m.cap && decide (0 ≤ b.count) && decide (b.count < m.every) else decide (b.tokens = 0) && decide (b.count = 0)
def Bucket.take (b : Bucket) (m : MConf) : Bucket × Bool := if m.prio && b.ok m && decide (b.tokens ≠ 0) then (⟨b.tokens - 1, b.count⟩, true) else (b, false)
def Bucket.back (b : Bucket) (m : MConf) : Bucket := if m.prio && b.ok m && decide (b.tokens < m.cap) then ⟨b.tokens + 1, b.count⟩ else b
def MConf.most (m : MConf) (n : Int) : Int := if m.prio = true ∧ 1 ≤ m.every ∧ 0 ≤ m.cap ∧ inB n 0 4000 = true then m.cap + n.tdiv m.every + 1 else 0
def Script.fit (s : Script) : Prop := s.posts.length ≤ 6 ∧ (∀ p, p ∈ s.posts → p.req.data.length ≤ 16) ∧ (s.waits.length ≤ 6 ∧ ∀ y, y ∈ s.waits → 0 ≤ y ∧ y ≤ 16) ∧ s.says.length ≤ 6 ∧ ∀ y, y ∈ s.says → 0 ≤ y ∧ y ≤ 16
def byteB (v : Int) : Bool := inB v 0 255
def wordB (v : Int) : Bool := inB v 0 (limit 2 - 1)
def Dev.ok (d : Dev) : Bool := decide ((d.regs.length : Int) = 4) && decide ((d.fifo.length : Int) ≤ 4) && d.regs.all wordB && d.fifo.all wordB && wordB d.timer
def Model.ok (m : Model) : Bool := decide ((m.ram.length : Int) = 192) && m.ram.all byteB && m.dev.ok
def liveL (b : Bus) : List Beat := [b.addr, b.data].filter (fun x => x.live)
def Beat.none : Beat := ⟨false, 0, 0, false, 0, 0, 0, false⟩
def cntW (l : List Beat) (i : Nat) : Int := ((l.filter (fun x : Beat => decide (x.who = (i : Int)))).length : Int)
def fl (b : Bus) (j : Nat) : List (List V) := (List.range b.ms.length).map (fun i => iR (cntW ((liveL b).take j) i))
def Mst.backC (m : Mst) : Bool := m.right && decide (m.beat ≠ m.done)
def Mst.back (m : Mst) : Mst × Bool := if m.backC then (⟨m.queue, m.beat - 1, m.done, m.tries, m.parted, m.broken⟩, true) else (m, false)
def Mst.finC (m : Mst) : Bool := m.right && decide (m.beat ≠ m.done)
def Mst.fin (m : Mst) : Mst × Bool := if m.finC then (if m.done + 1 = m.beats then (⟨m.queue.drop 1, 0, 0, 0, false, false⟩, true) else (⟨m.queue, m.beat, m.done + 1, 0, false, m.broken⟩, true)) else (m, false)
def Mst.postC (m : Mst) (x : Req) : Bool := m.right && x.ok && decide (¬ (m.queue.length : Int) = 4)
def Mst.post (m : Mst) (x : Req) : Mst × Bool := if m.postC x then (⟨m.queue ++ [x], m.beat, m.done, m.tries, m.parted, m.broken⟩, true) else (m, false)
def Mst.fit (m : Mst) : Prop := m.queue.length ≤ 4 ∧ ∀ x, x ∈ m.queue → x.data.length ≤ 16
def Mst.fit5 (m : Mst) : Prop := m.queue.length ≤ 5 ∧ ∀ x, x ∈ m.queue → x.data.length ≤ 16
theorem Mst.fit.to5 {m : Mst} (h : m.fit) : m.fit5 := ⟨Nat.le_trans h.1 (by decide), h.2⟩
theorem Mst.fit5.small {m : Mst} (h : m.fit5) : m.small := ⟨Nat.le_trans h.1 (by decide), fun x hx => Nat.le_trans (h.2 x hx) (by decide)⟩
theorem Mst.fit.small {m : Mst} (h : m.fit) : m.small := h.to5.small
theorem Mst.fit.back {m : Mst} (h : m.fit) : m.back.1.fit := by
 unfold Mst.back
 split
 · exact h
 · exact h
theorem Mst.fit.fin {m : Mst} (h : m.fit) : m.fin.1.fit := by
 unfold Mst.fin
 split
 · split
   · exact ⟨by simp only [List.length_drop]; have := h.1; omega, fun x hx => h.2 x (List.mem_of_mem_drop hx)⟩
   · exact h
 · exact h
theorem Mst.fit.post {m : Mst} (h : m.fit) {x : Req} (hx : x.data.length ≤ 16) : (m.post x).1.fit := by
 unfold Mst.post
 split
 · rename_i hc
   unfold Mst.postC at hc
   simp only [Bool.and_eq_true, decide_eq_true_eq] at hc
   refine ⟨by simp only [List.length_append, List.length_cons, List.length_nil]; have := h.1; omega, fun y hy => ?_⟩
   rcases List.mem_append.1 hy with hy | hy
   · exact h.2 y hy
   · rw [List.mem_singleton.1 hy]; exact hx
 · exact h
def Mst.n (x : Mst) : List V := [.w (.slice none 0 0), .w (.int .i64 x.beat), .w (.int .i64 x.done), .w (.int .i64 x.tries), .w (.bool x.parted), .w (.bool x.broken)]
def Bus.mid (b : Bus) : List V := [.w (.int .i64 b.holder), .w (.int .i64 b.kept), .w (.int .i64 b.last), .w (.bool b.addr.live), .w (.int .i64 b.addr.who), .w (.int .i64 b.addr.num), .w (.bool b.addr.first), .w (.int .i64 b.addr.via), .w (.int .i64 b.addr.left), .w (.int .i64 b.addr.resp), .w (.bool b.addr.second), .w (.bool b.data.live), .w (.int .i64 b.data.who), .w (.int .i64 b.data.num), .w (.bool b.data.first), .w (.int .i64 b.data.via), .w (.int .i64 b.data.left), .w (.int .i64 b.data.resp), .w (.bool b.data.second)]
def Bus.o (b : Bus) : List V := [.ls 0 b.conf.masters.length, .w (.int .i64 b.conf.quantum), .w (.int .i64 b.conf.maxWait), .w (.int .i64 b.conf.maxRetry), .w (.int .i64 b.conf.maxSplit), .w (.int .i64 b.conf.lockMost), .w (.int .i64 b.now), .ls 1 b.ms.length, .w (.int .i64 b.arb.pos), .w (.int .i64 b.arb.credit), .ls 2 b.buckets.length, .ls 3 b.splits.length] ++ b.mid ++ [.ls 4 b.model.ram.length, .ls 5 b.model.dev.regs.length, .w (.int .i64 b.model.dev.timer), .ls 6 b.model.dev.fifo.length, .w (.int .i64 b.picks), .ls 7 b.log.length]
def Bus.n (b : Bus) : List V := [.sl 4 (b.conf.masters.map MConf.r), .w (.int .i64 b.conf.quantum), .w (.int .i64 b.conf.maxWait), .w (.int .i64 b.conf.maxRetry), .w (.int .i64 b.conf.maxSplit), .w (.int .i64 b.conf.lockMost), .w (.int .i64 b.now), .sl 6 (b.ms.map Mst.n), .w (.int .i64 b.arb.pos), .w (.int .i64 b.arb.credit), .sl 2 (b.buckets.map Bucket.r), .sl 1 (b.splits.map iR)] ++ b.mid ++ [.sl 1 (b.model.ram.map iR), .sl 1 (b.model.dev.regs.map iR), .w (.int .i64 b.model.dev.timer), .sl 1 (b.model.dev.fifo.map iR), .w (.int .i64 b.picks), .sl 7 (b.log.map Done.r)]
def Bus.rows (b : Bus) : List LB := [.arr 4 (b.conf.masters.map MConf.r), .arr 6 (b.ms.map Mst.n), .arr 2 (b.buckets.map Bucket.r), .arr 1 (b.splits.map iR), .arr 1 (b.model.ram.map iR), .arr 1 (b.model.dev.regs.map iR), .arr 1 (b.model.dev.fifo.map iR), .arr 7 (b.log.map Done.r)]
def Req.w (r : Req) (x : Value) : List V := [.w (.bool r.write), .w (.int .i64 r.addr), .w (.int .i64 r.size), .w (.int .i64 r.burst), .w (.bool r.lock), .raw x]
def one (a : Option Nat) (xs : List Int) : Mem := match a with
 | some ad => upd M0 ad (some ⟨xs.map (Value.int .i64), true, 1⟩)
 | none => M0
def sumQ : List Req → Int
 | [] => 0
 | r :: q => r.data.length + sumQ q
theorem sumQ_le (q : List Req) : sumQ q = (sumL Req.sz q : Nat) := by
 induction q with
 | nil => rfl
 | cons r q ih => rw [sumQ, sumL, ih]; simp [Req.sz]
def MB (k : Int) (m : Mst) : Prop := m.small ∧ m.queue.length ≤ 1048576 ∧ sumQ m.queue ≤ k
theorem MB.of {m : Mst} (h : m.sz ≤ 1048576) : MB (m.sz : Nat) m := ⟨Mst.small_of h, by unfold Mst.sz at h; omega, by rw [sumQ_le]; unfold Mst.sz; omega⟩
theorem MB.le {m : Mst} {k l : Int} (h : MB k m) (hk : k ≤ l) : MB l m := ⟨h.1, h.2.1, Int.le_trans h.2.2 hk⟩
theorem MB.q {m y : Mst} {k} (h : MB k m) (e : y.queue = m.queue) : MB k y := ⟨⟨by rw [e]; exact h.1.1, by rw [e]; exact h.1.2⟩, by rw [e]; exact h.2⟩
theorem sumQ_drop (q : List Req) : sumQ (q.drop 1) ≤ sumQ q := by
 cases q with
 | nil => exact Int.le_refl _
 | cons r q => simp only [List.drop_succ_cons, List.drop_zero, sumQ]; omega
theorem MB.drop {m y : Mst} {k} (h : MB k m) (e : y.queue = m.queue.drop 1) : MB k y :=
 ⟨⟨by rw [e, List.length_drop]; exact Nat.le_trans (Nat.sub_le _ _) h.1.1, by rw [e]; exact fun x hx => h.1.2 x (List.mem_of_mem_drop hx)⟩, by rw [e, List.length_drop]; exact Nat.le_trans (Nat.sub_le _ _) h.2.1, by rw [e]; exact Int.le_trans (sumQ_drop _) h.2.2⟩
theorem Vew.two {OL : Ob} {u u' w : V} (h : ∀ M', (∀ (i : Nat) D, OL[i]? = some D → sub D M') → ∀ x, RF M' u x → RF M' u' x) : Vew OL [u, w] [u', w] := fun M' hM' args hp => by
 obtain ⟨x, r, rfl, g1, g2⟩ := hp.uncons
 exact Pt.cons (h M' hM' x g1) g2
theorem c_63 (s : List UInt8) (hs : s.length ≤ 140737488355328) : CV prg 63 [.w (.string ⟨(s).toArray⟩)] (fun res => res = .tup [.w (.int .i64 (numN s 9).1), .w (.bool (numN s 9).2)]) := by
 refine cv_in g63 (Ed [0] rfl (Ei (Eo (Ea (Eb rfl) (Ea (Eb rfl) (Eg (Ee (Ed [0] rfl (Ei (Eo (Ea (Eb rfl) ?_)))))))))))
 refine Eh rfl rfl (cn_408 s 9 hs) (Ea (Ep rfl rfl) (Ea (Ep rfl rfl) (Ea (Eb rfl) (Ea (Eb rfl) (Eg (Ee (Ed [2, 3] rfl (Eu (ret_leafR rfl rfl ?_)))))))))
 rotate_left
 all_goals
  rfl
theorem c_38 (n : Int) (hn : -9223372036854775808 ≤ n ∧ n ≤ 9223372036854775807) : CV prg 38 [.w (.int .i64 n)] (fun res => res = .w (.string ⟨(Lib.itoa n).toArray⟩)) := by
 refine cv_in g38 (Ed [0] rfl (Ei (Eo (Ea (Eb rfl) (Eg (Ee (Ed [0] rfl (Ei (Eo (Ea (Eb rfl) (Eh rfl rfl (cn_272 n hn) ?_)))))))))))
 refine Ea (Eb rfl) (Eg (Ee (Ed [2] rfl (Eu (ret_leafR rfl rfl ?_)))))
 rotate_left
 all_goals
  rfl
def nxH (h : Int) : Int := IntKind.wrap .i64 (IntKind.wrap .i64 (h * 6364136223846793005) + 1442695040888963407)
def byX (h : Int) : Int := band (bxor (h.fdiv (2 ^ (min (Int.toNat 33) (IntKind.bits .i64)))) (h.fdiv (2 ^ (min (Int.toNat 45) (IntKind.bits .i64))))) 255
def byF (code : List Int) (i h : Int) : Int × Int × Int :=
 if i < (code.length : Int) then (band (IntKind.wrap .i64 (byX (nxH h) + IntKind.wrap .i64 ((code[i.toNat]?).getD 0))) 255, IntKind.wrap .i64 (i + 1), nxH h) else (byX (nxH h), i, nxH h)
theorem by_1 {code : List Int} {i h y : Int} (h1 : i < (code.length : Int)) (e : code[i.toNat]? = some y) : byF code i h = (band (IntKind.wrap .i64 (byX (nxH h) + IntKind.wrap .i64 y)) 255, IntKind.wrap .i64 (i + 1), nxH h) := by
 rw [byF, if_pos h1, e]; rfl
theorem by_2 {code : List Int} {i h : Int} (h1 : ¬ i < (code.length : Int)) : byF code i h = (byX (nxH h), i, nxH h) := by rw [byF, if_neg h1]
theorem by_i {code : List Int} {i : Int} (hi : 0 ≤ i ∧ i ≤ code.length) (hc : code.length ≤ 1048576) (h1 : i < (code.length : Int)) : 0 ≤ IntKind.wrap .i64 (i + 1) ∧ IntKind.wrap .i64 (i + 1) ≤ code.length := by
 rw [wrap_in _ (by omega)]; omega
def bwF (code : List Int) (i h n : Int) : Int × Int × Int :=
 if n ≤ 0 then (0, i, h) else if n ≤ 256 then ((byF code i h).1.tmod n, (byF code i h).2) else
  let a := byF code i h
  let b := byF code a.2.1 a.2.2
  let c := byF code b.2.1 b.2.2
  let d := byF code c.2.1 c.2.2
  ((a.1 * 16777216 + b.1 * 65536 + c.1 * 256 + d.1).tmod n, d.2)
theorem bw_1 {code : List Int} {i h n : Int} (h1 : n ≤ 0) : bwF code i h n = (0, i, h) := by rw [bwF, if_pos h1]
theorem bw_2 {code : List Int} {i h n a i1 g1 : Int} (h1 : ¬ n ≤ 0) (h2 : n ≤ 256) (ha : byF code i h = (a, i1, g1)) : bwF code i h n = (a.tmod n, i1, g1) := by rw [bwF, if_neg h1, if_pos h2, ha]
theorem bw_3 {code : List Int} {i h n a i1 g1 b i2 g2 c i3 g3 d i4 g4 : Int} (h1 : ¬ n ≤ 0) (h2 : ¬ n ≤ 256) (ha : byF code i h = (a, i1, g1)) (hb : byF code i1 g1 = (b, i2, g2)) (hc : byF code i2 g2 = (c, i3, g3)) (hd : byF code i3 g3 = (d, i4, g4)) :
 bwF code i h n = ((a * 16777216 + b * 65536 + c * 256 + d).tmod n, i4, g4) := by
 rw [bwF, if_neg h1, if_neg h2]; simp only [ha, hb, hc, hd]
def onF (code : List Int) (i h n : Int) : Bool × Int × Int := (decide ((bwF code i h n).1 = 0), (bwF code i h n).2)
theorem on_1 {code : List Int} {i h n a i1 g1 : Int} (ha : bwF code i h n = (a, i1, g1)) : onF code i h n = (decide (a = 0), i1, g1) := by rw [onF, ha]
def pkF (code : List Int) (i h : Int) (xs : List Int) : Int × Int × Int := (((xs[(bwF code i h xs.length).1.toNat]?).getD 0), (bwF code i h xs.length).2)
theorem pk_1 {code : List Int} {i h : Int} {xs : List Int} {a i1 g1 y : Int} (ha : bwF code i h xs.length = (a, i1, g1)) (hy : xs[a.toNat]? = some y) : pkF code i h xs = (y, i1, g1) := by rw [pkF, ha]; simp [hy]
def num17 : List Int := [-1, 0, 127, 128, 255, 256, 16383, 16384, 65535, 65536, 562949953421311, 562949953421312, 999999999, 1000000000, -999999999, 9223372036854775807, -9223372036854775808]
def nuF (code : List Int) (i h : Int) : Int × Int × Int :=
 let r := bwF code i h 8
 if r.1 = 0 then pkF code r.2.1 r.2.2 num17 else if r.1 = 1 then
  let a := bwF code r.2.1 r.2.2 1000000000
  let b := bwF code a.2.1 a.2.2 1000000000
  (a.1 * b.1, b.2)
 else if r.1 = 2 then
  let a := bwF code r.2.1 r.2.2 100000
  (IntKind.wrap .i64 (0 - a.1), a.2)
 else bwF code r.2.1 r.2.2 70000
theorem cgf_229 (code : List Int) (hc : code.length ≤ 1048576) (i h : Int) (hi : 0 ≤ i ∧ i ≤ code.length) : GV prg 229 [cur code i h] [.cp 0 0] (fun u L1 => ∃ (x : Int) (i2 h2 : Int), byF code i h = (x, i2, h2) ∧ u = .w (.int .i64 x) ∧ (0 ≤ x ∧ x ≤ 255) ∧ (0 ≤ i2 ∧ i2 ≤ code.length) ∧ L1 = [cur code i2 h2]) := by
 refine gv_in g229 (Ed [0] rfl (Ei (Eo (Ea (Eb rfl) (Eg (Ee (Ed [0] rfl (Ei (Eo (Ea (Eb rfl) (Ea (Eb rfl) ?_)))))))))))
 refine Ea (o_nilc rfl) (Ea (o_faC rfl) (Ea (o_ldC rfl rfl rfl) (Ea (o_mul rfl rfl) (Ea (o_add rfl rfl) (Ea (o_nilc rfl) (Ea (o_faC rfl) (s_opN (o_stC rfl rfl rfl rfl rfl rfl) (Eg (Ee (Ed [0] rfl (Ei ?_)))))))))))
 refine Eo (Ea (Eb rfl) (Ea (o_nilc rfl) (Ea (o_faC rfl) (Ea (o_ldC rfl rfl rfl) (Ea (o_shr rfl rfl (by omega)) (Ea (Eb rfl) (Ea (o_nilc rfl) (Ea (o_faC rfl) (Ea (o_ldC rfl rfl rfl) (Ea (o_shr rfl rfl (by omega)) (Ea (o_bxor rfl rfl) ?_)))))))))))
 refine Ea (o_band rfl rfl) (Ea (Eb rfl) (Eg (Ee (Ed [0, 3] rfl (Ei (Ei (Eo (Ea (Eb rfl) (Ea (o_nilc rfl) (Ea (o_faC rfl) (Ea (o_ldC rfl rfl rfl) ?_)))))))))))
 refine Ea (Eb rfl) (Ea (o_nilc rfl) (Ea (o_faC rfl) (Ea (o_ldC rfl rfl rfl) ?_)))
 first | refine Ea (o_lenM rfl) ?_ | refine Ea (o_len rfl) ?_ | refine Ea (o_lenL rfl rfl rfl) ?_ | refine Ea (o_lenN rfl) ?_
 refine Ea (o_lss rfl rfl) (Eg (Ee (Ed [0, 3, 34] rfl ?_)))
 first | refine s_condD rfl ?_ ?_ | refine s_condB rfl ?_ ?_
 intro h1
 try rw [nnp] at h1
 refine Ei (Eo (Ea (Eb rfl) (Ea (Eb rfl) (Ea (o_nilc rfl) (Ea (o_faC rfl) (Ea (o_ldC rfl rfl rfl) (Ea (Eb rfl) (Ea (o_nilc rfl) (Ea (o_faC rfl) (Ea (o_ldC rfl rfl rfl) (s_iaM rfl rfl (by omega) ?_)))))))))))
 intro y2 e2
 try simp only [Int.toNat_natCast, Int.toNat_zero] at e2
 refine Ea (o_ld rfl rfl) (Ea (o_cvi rfl) (Ea (o_add rfl rfl) (Ea (o_band rfl rfl) (Ea (Eb rfl) (Eg (Ee (Ed [0, 3] rfl (Eo (Ea (Eb rfl) (Ea (Eb rfl) (Ea (o_nilc rfl) ?_)))))))))))
 refine Ea (o_faC rfl) (Ea (o_ldC rfl rfl rfl) (Ea (o_add rfl rfl) (Ea (o_nilc rfl) (Ea (o_faC rfl) (s_opN (o_stC rfl rfl rfl rfl rfl rfl) (Eg (Ee (Ed [3] rfl (Ei (Eo (Ea (Eb rfl) ?_)))))))))))
 refine Ea (Eb rfl) (Eg (Ee (Ed [2] rfl (Eu ?_))))
 · refine retG_leaf [] (.inr rfl) rfl rfl rfl rfl (show (List.range 1 ++ []).Nodup by decide) ?_
   first | exact ⟨_, _, _, by_1 h1 (by assumption), rfl, band_bd _, by_i hi hc h1, rfl⟩ | exact ⟨_, _, _, by_2 h1, rfl, band_bd _, hi, rfl⟩
 intro h1
 try rw [nnp] at h1
 refine Ew (Ee (Ed [3] rfl (Ei (Eo (Ea (Eb rfl) (Ea (Eb rfl) (Eg (Ee (Ed [2] rfl (Eu ?_))))))))))
 · refine retG_leaf [] (.inr rfl) rfl rfl rfl rfl (show (List.range 1 ++ []).Nodup by decide) ?_
   first | exact ⟨_, _, _, by_1 h1 (by assumption), rfl, band_bd _, by_i hi hc h1, rfl⟩ | exact ⟨_, _, _, by_2 h1, rfl, band_bd _, hi, rfl⟩
theorem cgf_228 (code : List Int) (hc : code.length ≤ 1048576) (i h : Int) (hi : 0 ≤ i ∧ i ≤ code.length) (n : Int) : GV prg 228 [cur code i h] [.cp 0 0, .w (.int .i64 n)] (fun u L1 => ∃ (x : Int) (i2 h2 : Int), bwF code i h n = (x, i2, h2) ∧ u = .w (.int .i64 x) ∧ ((0 < n → 0 ≤ x ∧ x < n) ∧ (n ≤ 0 → x = 0)) ∧ (0 ≤ i2 ∧ i2 ≤ code.length) ∧ L1 = [cur code i2 h2]) := by
 refine gv_in g228 (Ed [0, 1] rfl (Ei (Eo (Ea (Eb rfl) (Eg (Ee (Ed [0, 1] rfl (Ei (Ei (Eo (Ea (Eb rfl) ?_)))))))))))
 refine Ea (o_leq rfl rfl) (Eg (Ee (Ed [0, 1, 10] rfl ?_)))
 first | refine s_condD rfl ?_ ?_ | refine s_condB rfl ?_ ?_
 intro h1
 try rw [nnp] at h1
 refine Ei (Eo (Ea (Eb rfl) (Eg (Ee (Ed [4] rfl (Eu (q_seqR ?_)))))))
 · refine retG_leaf [] (.inr rfl) rfl rfl rfl rfl (show (List.range 1 ++ []).Nodup by decide) ?_
   first | exact ⟨_, _, _, bw_1 (by assumption), rfl, ⟨fun _ => by omega, fun _ => rfl⟩, hi, rfl⟩ | exact ⟨_, _, _, bw_2 (by assumption) (by assumption) hFb0, rfl, ⟨fun _ => tmod_bd (by omega) (by omega), fun _ => by omega⟩, hi, rfl⟩ | exact ⟨_, _, _, bw_3 (by assumption) (by assumption) hFb0 hFb1 hFb2 hFb3, rfl, ⟨fun _ => tmod_bd (by omega) (by omega), fun _ => by omega⟩, hi, rfl⟩
 intro h1
 try rw [nnp] at h1
 refine Ew (Ee (Ed [0, 1] rfl (Ei (Ei (Eo (Ea (Eb rfl) (Ea (o_leq rfl rfl) (Eg (Ee (Ed [0, 1, 12] rfl ?_))))))))))
 first | refine s_condD rfl ?_ ?_ | refine s_condB rfl ?_ ?_
 intro h2
 try rw [nnp] at h2
 refine Ei (Eo (Ea (Eb rfl) (s_callG [0] rfl rfl rfl rfl (by simp) (.inl rfl) (cgf_229 _ hc _ _ hi) ?_)))
 rintro u L1 ⟨b0, i, h, hFb0, rfl, hb0, hi, rfl⟩
 refine ⟨_, _, rfl, rfl, ?_⟩
 refine Ea (Eb rfl) ?_
 first | refine Ea (o_rem rfl rfl (by decide)) ?_ | refine Ea (o_rem rfl rfl (by omega)) ?_
 refine Ea (Eb rfl) (Eg (Ee (Ed [4] rfl (Eu (q_seqR ?_)))))
 · refine retG_leaf [] (.inr rfl) rfl rfl rfl rfl (show (List.range 1 ++ []).Nodup by decide) ?_
   first | exact ⟨_, _, _, bw_1 (by assumption), rfl, ⟨fun _ => by omega, fun _ => rfl⟩, hi, rfl⟩ | exact ⟨_, _, _, bw_2 (by assumption) (by assumption) hFb0, rfl, ⟨fun _ => tmod_bd (by omega) (by omega), fun _ => by omega⟩, hi, rfl⟩ | exact ⟨_, _, _, bw_3 (by assumption) (by assumption) hFb0 hFb1 hFb2 hFb3, rfl, ⟨fun _ => tmod_bd (by omega) (by omega), fun _ => by omega⟩, hi, rfl⟩
 intro h2
 try rw [nnp] at h2
 refine Ew (Ee (Ed [0, 1] rfl (Ei (Eo (Ea (Eb rfl) (s_callG [0] rfl rfl rfl rfl (by simp) (.inl rfl) (cgf_229 _ hc _ _ hi) ?_))))))
 rintro u L1 ⟨b0, i, h, hFb0, rfl, hb0, hi, rfl⟩
 refine ⟨_, _, rfl, rfl, ?_⟩
 refine Ea (Eb rfl) (Eg (Ee (Ed [0, 1, 5] rfl (Ei (Eo (Ea (Eb rfl) (s_callG [0] rfl rfl rfl rfl (by simp) (.inl rfl) (cgf_229 _ hc _ _ hi) ?_)))))))
 rintro u L1 ⟨b1, i, h, hFb1, rfl, hb1, hi, rfl⟩
 refine ⟨_, _, rfl, rfl, ?_⟩
 refine Ea (Eb rfl) (Eg (Ee (Ed [0, 1, 5, 6] rfl (Ei (Eo (Ea (Eb rfl) (s_callG [0] rfl rfl rfl rfl (by simp) (.inl rfl) (cgf_229 _ hc _ _ hi) ?_)))))))
 rintro u L1 ⟨b2, i, h, hFb2, rfl, hb2, hi, rfl⟩
 refine ⟨_, _, rfl, rfl, ?_⟩
 refine Ea (Eb rfl) (Eg (Ee (Ed [0, 1, 5, 6, 7] rfl (Ei (Eo (Ea (Eb rfl) (s_callG [0] rfl rfl rfl rfl (by simp) (.inl rfl) (cgf_229 _ hc _ _ hi) ?_)))))))
 rintro u L1 ⟨b3, i, h, hFb3, rfl, hb3, hi, rfl⟩
 refine ⟨_, _, rfl, rfl, ?_⟩
 refine Ea (Eb rfl) (Eg (Ee (Ed [1, 5, 6, 7, 8] rfl (Ei (Eo (Ea (Eb rfl) ?_))))))
 first | refine Ea (o_muln rfl rfl (by omega)) ?_ | refine Ea (o_mul rfl rfl) ?_
 refine Ea (Eb rfl) ?_
 first | refine Ea (o_muln rfl rfl (by omega)) ?_ | refine Ea (o_mul rfl rfl) ?_
 first | refine Ea (o_addn rfl rfl (by omega)) ?_ | refine Ea (o_add rfl rfl) ?_
 refine Ea (Eb rfl) ?_
 first | refine Ea (o_muln rfl rfl (by omega)) ?_ | refine Ea (o_mul rfl rfl) ?_
 first | refine Ea (o_addn rfl rfl (by omega)) ?_ | refine Ea (o_add rfl rfl) ?_
 refine Ea (Eb rfl) ?_
 first | refine Ea (o_addn rfl rfl (by omega)) ?_ | refine Ea (o_add rfl rfl) ?_
 refine Ea (Eb rfl) ?_
 first | refine Ea (o_rem rfl rfl (by decide)) ?_ | refine Ea (o_rem rfl rfl (by omega)) ?_
 refine Ea (Eb rfl) (Eg (Ee (Ed [4] rfl (Eu ?_))))
 · refine retG_leaf [] (.inr rfl) rfl rfl rfl rfl (show (List.range 1 ++ []).Nodup by decide) ?_
   first | exact ⟨_, _, _, bw_1 (by assumption), rfl, ⟨fun _ => by omega, fun _ => rfl⟩, hi, rfl⟩ | exact ⟨_, _, _, bw_2 (by assumption) (by assumption) hFb0, rfl, ⟨fun _ => tmod_bd (by omega) (by omega), fun _ => by omega⟩, hi, rfl⟩ | exact ⟨_, _, _, bw_3 (by assumption) (by assumption) hFb0 hFb1 hFb2 hFb3, rfl, ⟨fun _ => tmod_bd (by omega) (by omega), fun _ => by omega⟩, hi, rfl⟩
theorem cgf_233 (code : List Int) (hc : code.length ≤ 1048576) (i h : Int) (hi : 0 ≤ i ∧ i ≤ code.length) (n : Int) : GV prg 233 [cur code i h] [.cp 0 0, .w (.int .i64 n)] (fun u L1 => ∃ (x : Bool) (i2 h2 : Int), onF code i h n = (x, i2, h2) ∧ u = .w (.bool x) ∧ (True) ∧ (0 ≤ i2 ∧ i2 ≤ code.length) ∧ L1 = [cur code i2 h2]) := by
 refine gv_in g233 (Ed [0, 1] rfl (Ei (Eo (Ea (Eb rfl) (Eg (Ee (Ed [0, 1] rfl (Ei (Eo (Ea (Eb rfl) (Ea (Eb rfl) ?_)))))))))))
 refine s_callG [0] rfl rfl rfl rfl (by simp) (.inl rfl) (cgf_228 _ hc _ _ hi _) ?_
 rintro u L1 ⟨x, i, h, hF, rfl, hx, hi, rfl⟩
 refine ⟨_, _, rfl, rfl, ?_⟩
 refine Ea (o_eql rfl rfl) (Ea (Eb rfl) (Eg (Ee (Ed [4] rfl (Eu ?_)))))
 · refine retG_leaf [] (.inr rfl) rfl rfl rfl rfl (show (List.range 1 ++ []).Nodup by decide) ?_
   exact ⟨_, _, _, on_1 hF, rfl, trivial, hi, rfl⟩
theorem cgf_234 (code : List Int) (hc : code.length ≤ 1048576) (i h : Int) (hi : 0 ≤ i ∧ i ≤ code.length) (rows : List (List V)) (xs : List Int) (hx : unI rows = some xs) (hx0 : 0 < xs.length) (hx1 : xs.length ≤ 1048576) : GV prg 234 [cur code i h, .arr 1 rows] [.cp 0 0, .ls 1 rows.length] (fun u L1 => ∃ (x : Int) (i2 h2 : Int), pkF code i h xs = (x, i2, h2) ∧ u = .w (.int .i64 x) ∧ (x ∈ xs) ∧ (0 ≤ i2 ∧ i2 ≤ code.length) ∧ L1 = [cur code i2 h2, .arr 1 rows]) := by
 have hxr := unI_inv hx
 subst hxr
 clear hx
 refine gv_in g234 (Ed [0, 1] rfl (Ei (Eo (Ea (Eb rfl) (Eg (Ee (Ed [0, 1] rfl (Ei (Eo (Ea (Eb rfl) (Ea (Eb rfl) ?_)))))))))))
 refine Ea (Eb rfl) (Ea (o_lenL rfl rfl (by simp)) (s_callG [0] rfl rfl rfl rfl (by simp) (.inl rfl) (cgf_228 _ hc _ _ hi _) ?_))
 rintro u L1 ⟨x, i, h, hF, rfl, hx, hi, rfl⟩
 refine ⟨_, _, rfl, rfl, ?_⟩
 have hx2 := hx.1 (by simp; omega)
 rw [List.length_map] at hx2 hF
 obtain ⟨y, hy⟩ : ∃ y, xs[x.toNat]? = some y := ⟨_, List.getElem?_eq_getElem (by omega)⟩
 refine Ea (o_iaL rfl rfl (by simp) rfl (by rw [List.length_map]; omega)) ?_
 refine Ea (o_ldA rfl rfl (by simp) (by rw [List.getElem?_map, hy]; rfl) rfl) ?_
 refine Ea (Eb rfl) (Eg (Ee (Ed [4] rfl (Eu ?_))))
 · refine retG_leaf [] (.inr rfl) rfl rfl rfl rfl (show (List.range 2 ++ []).Nodup by decide) ?_
   exact ⟨_, _, _, pk_1 hF hy, rfl, List.mem_of_getElem? hy, hi, rfl⟩
theorem nu_0 {code : List Int} {i h z i1 g1 p i2 g2 : Int} (hz : bwF code i h 8 = (z, i1, g1)) (h0 : z = 0) (hp : pkF code i1 g1 num17 = (p, i2, g2)) : nuF code i h = (p, i2, g2) := by
 rw [nuF, hz]; simp only; rw [if_pos h0, hp]
theorem nu_1 {code : List Int} {i h z i1 g1 a i2 g2 b i3 g3 : Int} (hz : bwF code i h 8 = (z, i1, g1)) (h0 : ¬ z = 0) (h1 : z = 1) (ha : bwF code i1 g1 1000000000 = (a, i2, g2)) (hb : bwF code i2 g2 1000000000 = (b, i3, g3)) : nuF code i h = (a * b, i3, g3) := by
 rw [nuF, hz]; simp only; rw [if_neg h0, if_pos h1, ha]; simp only; rw [hb]
theorem nu_2 {code : List Int} {i h z i1 g1 a i2 g2 : Int} (hz : bwF code i h 8 = (z, i1, g1)) (h0 : ¬ z = 0) (h1 : ¬ z = 1) (h2 : z = 2) (ha : bwF code i1 g1 100000 = (a, i2, g2)) : nuF code i h = (IntKind.wrap .i64 (0 - a), i2, g2) := by
 rw [nuF, hz]; simp only; rw [if_neg h0, if_neg h1, if_pos h2, ha]
theorem nu_3 {code : List Int} {i h z i1 g1 a i2 g2 : Int} (hz : bwF code i h 8 = (z, i1, g1)) (h0 : ¬ z = 0) (h1 : ¬ z = 1) (h2 : ¬ z = 2) (ha : bwF code i1 g1 70000 = (a, i2, g2)) : nuF code i h = (a, i2, g2) := by
 rw [nuF, hz]; simp only; rw [if_neg h0, if_neg h1, if_neg h2, ha]
theorem num_mul {a b : Int} (ha : 0 ≤ a ∧ a < 1000000000) (hb : 0 ≤ b ∧ b < 1000000000) : 0 ≤ a * b ∧ a * b ≤ 1000000000000000000 := by
 have h1 : 0 ≤ a * b := Int.mul_nonneg ha.1 hb.1
 have h2 : a * b ≤ 1000000000 * 1000000000 := Int.mul_le_mul (by omega) (by omega) hb.1 (by omega)
 omega
theorem num_neg {a : Int} (ha : 0 ≤ a ∧ a < 100000) : i64 (IntKind.wrap .i64 (0 - a)) := by
 unfold i64; rw [wrap_in _ (by omega)]; omega
theorem num17_i64 {p : Int} (h : p = -1 ∨ p = 0 ∨ p = 127 ∨ p = 128 ∨ p = 255 ∨ p = 256 ∨ p = 16383 ∨ p = 16384 ∨ p = 65535 ∨ p = 65536 ∨ p = 562949953421311 ∨ p = 562949953421312 ∨ p = 999999999 ∨ p = 1000000000 ∨ p = -999999999 ∨ p = 9223372036854775807 ∨ p = -9223372036854775808) : i64 p := by
 unfold i64; omega
def newH (code : List Int) : Nat → Int
 | 0 => 10101 + code.length
 | k + 1 => band (IntKind.wrap .i64 (IntKind.wrap .i64 (IntKind.wrap .i64 (newH code k * 131) + IntKind.wrap .i64 ((code[k]?).getD 0)) + 7)) 1073741823
theorem newH_next {code : List Int} {k : Nat} {y : Int} (h : code[k]? = some y) : newH code (k + 1) = band (IntKind.wrap .i64 (IntKind.wrap .i64 (IntKind.wrap .i64 (newH code k * 131) + IntKind.wrap .i64 y) + 7)) 1073741823 := by rw [newH, h]; rfl
def newF (code : List Int) : Int := newH code (min code.length 4000)
theorem newF_at {code : List Int} {i : Nat} (hi : i ≤ code.length ∧ i ≤ 4000) (h : ¬ (i : Int) < code.length ∨ ¬ (i : Int) < 4000) : newH code i = newF code := by
 rw [newF]; congr 1; omega
theorem cgf_232 (code : List Int) (hc : code.length ≤ 1048576) (i h : Int) (hi : 0 ≤ i ∧ i ≤ code.length) : GV prg 232 [cur code i h] [.cp 0 0] (fun u L1 => ∃ (x : Int) (i2 h2 : Int), nuF code i h = (x, i2, h2) ∧ u = .w (.int .i64 x) ∧ (i64 x) ∧ (0 ≤ i2 ∧ i2 ≤ code.length) ∧ L1 = [cur code i2 h2]) := by
 refine gv_in g232 (Ed [0] rfl (Ei (Eo (Ea (Eb rfl) (Eg (Ee (Ed [0] rfl (Ei (Ei (Eo (Ea (Eb rfl) ?_)))))))))))
 refine s_callG [0] rfl rfl rfl rfl (by simp) (.inl rfl) (cgf_228 _ hc _ _ hi _) ?_
 rintro u L1 ⟨z, i, h, hFz, rfl, hz, hi, rfl⟩
 refine ⟨_, _, rfl, rfl, ?_⟩
 refine Eg (Ee (Ed [0, 4] rfl (S_block (Ei (Eo (Ea (o_eql rfl rfl) (Ea (Eb rfl) (Eg (Ee (Ed [0, 4, 5] rfl ?_))))))))))
 first | refine s_condD rfl ?_ ?_ | refine s_condB rfl ?_ ?_
 intro h1
 try rw [nnp] at h1
 refine Ei (Eo (Ea (Eb rfl) (Ea (o_bs rfl rfl rfl rfl) (s_callG [0, 1] rfl rfl rfl rfl (by simp) (.inl rfl) (cgf_234 _ hc _ _ hi _ _ rfl (by simp) (by simp)) ?_))))
 rintro u L1 ⟨p, i, h, hFp, rfl, hp, hi, rfl⟩
 refine ⟨_, _, rfl, rfl, ?_⟩
 try simp only [List.mem_cons, List.not_mem_nil, or_false] at hp
 refine Ea (Eb rfl) (Eg (Ee (Ed [2] rfl (Eu (q_blkR (q_seqR ?_))))))
 · refine retG_leaf [] (.inr rfl) rfl rfl rfl rfl (show (List.range 1 ++ []).Nodup by decide) ?_
   first | exact ⟨_, _, _, nu_0 hFz (by assumption) hFp, rfl, num17_i64 hp, hi, rfl⟩ | exact ⟨_, _, _, nu_1 hFz (by assumption) (by assumption) hFa0 hFa1, rfl, (by have := num_mul (ha0.1 (by omega)) (ha1.1 (by omega)); unfold i64; omega), hi, rfl⟩ | exact ⟨_, _, _, nu_2 hFz (by assumption) (by assumption) (by assumption) hFa2, rfl, num_neg (ha2.1 (by omega)), hi, rfl⟩ | exact ⟨_, _, _, nu_3 hFz (by assumption) (by assumption) (by assumption) hFa3, rfl, (by unfold i64; omega), hi, rfl⟩
 intro h1
 try rw [nnp] at h1
 refine Ei (Eo (Ea (o_eql rfl rfl) (Ea (Eb rfl) (Eg (Ee (Ed [0, 4, 10] rfl ?_))))))
 first | refine s_condD rfl ?_ ?_ | refine s_condB rfl ?_ ?_
 intro h2
 try rw [nnp] at h2
 refine Ei (Eo (Ea (Eb rfl) (s_callG [0] rfl rfl rfl rfl (by simp) (.inl rfl) (cgf_228 _ hc _ _ hi _) ?_)))
 rintro u L1 ⟨a0, i, h, hFa0, rfl, ha0, hi, rfl⟩
 refine ⟨_, _, rfl, rfl, ?_⟩
 refine Ea (Eb rfl) (s_callG [0] rfl rfl rfl rfl (by simp) (.inl rfl) (cgf_228 _ hc _ _ hi _) ?_)
 rintro u L1 ⟨a1, i, h, hFa1, rfl, ha1, hi, rfl⟩
 refine ⟨_, _, rfl, rfl, ?_⟩
 have hmm := num_mul (ha0.1 (by omega)) (ha1.1 (by omega))
 first | refine Ea (o_muln rfl rfl (by omega)) ?_ | refine Ea (o_mul rfl rfl) ?_
 refine Ea (Eb rfl) (Eg (Ee (Ed [2] rfl (Eu (q_blkR (q_seqR ?_))))))
 · refine retG_leaf [] (.inr rfl) rfl rfl rfl rfl (show (List.range 1 ++ []).Nodup by decide) ?_
   first | exact ⟨_, _, _, nu_0 hFz (by assumption) hFp, rfl, num17_i64 hp, hi, rfl⟩ | exact ⟨_, _, _, nu_1 hFz (by assumption) (by assumption) hFa0 hFa1, rfl, (by have := num_mul (ha0.1 (by omega)) (ha1.1 (by omega)); unfold i64; omega), hi, rfl⟩ | exact ⟨_, _, _, nu_2 hFz (by assumption) (by assumption) (by assumption) hFa2, rfl, num_neg (ha2.1 (by omega)), hi, rfl⟩ | exact ⟨_, _, _, nu_3 hFz (by assumption) (by assumption) (by assumption) hFa3, rfl, (by unfold i64; omega), hi, rfl⟩
 intro h2
 try rw [nnp] at h2
 refine Ei (Eo (Ea (o_eql rfl rfl) (Ea (Eb rfl) (Eg (Ee (Ed [0, 17] rfl ?_))))))
 first | refine s_condD rfl ?_ ?_ | refine s_condB rfl ?_ ?_
 intro h3
 try rw [nnp] at h3
 refine Ei (Eo (Ea (Eb rfl) (s_callG [0] rfl rfl rfl rfl (by simp) (.inl rfl) (cgf_228 _ hc _ _ hi _) ?_)))
 rintro u L1 ⟨a2, i, h, hFa2, rfl, ha2, hi, rfl⟩
 refine ⟨_, _, rfl, rfl, ?_⟩
 refine Ea (o_neg rfl) (Ea (Eb rfl) (Eg (Ee (Ed [2] rfl (Eu (q_blkR (q_seqR ?_)))))))
 · refine retG_leaf [] (.inr rfl) rfl rfl rfl rfl (show (List.range 1 ++ []).Nodup by decide) ?_
   first | exact ⟨_, _, _, nu_0 hFz (by assumption) hFp, rfl, num17_i64 hp, hi, rfl⟩ | exact ⟨_, _, _, nu_1 hFz (by assumption) (by assumption) hFa0 hFa1, rfl, (by have := num_mul (ha0.1 (by omega)) (ha1.1 (by omega)); unfold i64; omega), hi, rfl⟩ | exact ⟨_, _, _, nu_2 hFz (by assumption) (by assumption) (by assumption) hFa2, rfl, num_neg (ha2.1 (by omega)), hi, rfl⟩ | exact ⟨_, _, _, nu_3 hFz (by assumption) (by assumption) (by assumption) hFa3, rfl, (by unfold i64; omega), hi, rfl⟩
 intro h3
 try rw [nnp] at h3
 refine Ew (q_blkN (Ee (Ed [0] rfl (Ei (Eo (Ea (Eb rfl) (s_callG [0] rfl rfl rfl rfl (by simp) (.inl rfl) (cgf_228 _ hc _ _ hi _) ?_)))))))
 rintro u L1 ⟨a3, i, h, hFa3, rfl, ha3, hi, rfl⟩
 refine ⟨_, _, rfl, rfl, ?_⟩
 refine Ea (Eb rfl) (Eg (Ee (Ed [2] rfl (Eu ?_))))
 · refine retG_leaf [] (.inr rfl) rfl rfl rfl rfl (show (List.range 1 ++ []).Nodup by decide) ?_
   first | exact ⟨_, _, _, nu_0 hFz (by assumption) hFp, rfl, num17_i64 hp, hi, rfl⟩ | exact ⟨_, _, _, nu_1 hFz (by assumption) (by assumption) hFa0 hFa1, rfl, (by have := num_mul (ha0.1 (by omega)) (ha1.1 (by omega)); unfold i64; omega), hi, rfl⟩ | exact ⟨_, _, _, nu_2 hFz (by assumption) (by assumption) (by assumption) hFa2, rfl, num_neg (ha2.1 (by omega)), hi, rfl⟩ | exact ⟨_, _, _, nu_3 hFz (by assumption) (by assumption) (by assumption) hFa3, rfl, (by unfold i64; omega), hi, rfl⟩
theorem cgf_231 (code : List Int) (hc : code.length ≤ 1048576) : GV prg 231 [] [.sl 1 (code.map uR)] (fun u L1 => u = .cp 0 0 ∧ L1 = [cur code 0 (newF code)]) := by
 refine gv_in g231 (Ed [0] rfl (Ei (Eo (Ea (Eb rfl) (Eg (Ee (Ed [0] rfl (Ei (Eo (Ea (Eb rfl) ?_))))))))))
 first | refine Ea (o_lenM rfl) ?_ | refine Ea (o_len rfl) ?_
 first | refine Ea (o_addn rfl rfl (by omega)) ?_ | refine Ea (o_add rfl rfl) ?_
 refine Ea (Eb rfl) (Eg (Ee (Ed [0, 3] rfl (Ei (Ei (Eo (Ea (Eb rfl) (Eg (Ee (Ed [0, 3, 4] rfl (S_block ?_)))))))))))
 refine S_loop (ι := Nat) (fun i => i ≤ code.length ∧ i ≤ 4000) (fun i => [(3, .w (.int .i64 (newH code i))), (4, .w (.int .i64 (i : Int)))]) (fun i => []) (fun i => code.length - i) 0 0 ⟨Nat.zero_le _, Nat.zero_le _⟩ rfl (hasOf ⟨rfl, rfl, trivial⟩ rfl) rfl (fun _ _ => rfl) (fun _ _ => ⟨rfl, rfl⟩) ?_
 intro i hi
 refine Ed [0, 3, 4] rfl (Ei (Ei (Eo (Ea (Eb rfl) (Ea (Eb rfl) ?_)))))
 first | refine Ea (o_lenM rfl) ?_ | refine Ea (o_len rfl) ?_
 refine Ea (o_lss rfl rfl) (Ea (Eb rfl) ?_)
 first | refine s_gDT rfl ?_ ?_ | refine s_gB rfl ?_ ?_
 intro h1
 try rw [nnp] at h1
 refine Ea (Eb rfl) (Ec rfl (Ea (o_lss rfl rfl) (Ea (Ef rfl rfl) (Eg (Ee (Ed [0, 3, 4, 13, 14, 15] rfl ?_))))))
 first | refine s_condD rfl ?_ ?_ | refine s_condB rfl ?_ ?_
 intro h2
 try rw [nnp] at h2
 refine Ew (Ee (Ed [0, 3, 4, 13, 14] rfl (Ei (S_block (Eo (Ea (Eb rfl) ?_))))))
 first | refine Ea (o_muln rfl rfl (by omega)) ?_ | refine Ea (o_mul rfl rfl) ?_
 refine Ea (Eb rfl) (Ea (Eb rfl) (s_iaM rfl rfl (by omega) ?_))
 intro y3 e3
 try simp only [Int.toNat_natCast, Int.toNat_zero] at e3
 refine Ea (o_ld rfl rfl) (Ea (o_cvi rfl) ?_)
 first | refine Ea (o_addn rfl rfl (by omega)) ?_ | refine Ea (o_add rfl rfl) ?_
 first | refine Ea (o_addn rfl rfl (by omega)) ?_ | refine Ea (o_add rfl rfl) ?_
 refine Ea (o_band rfl rfl) (Ea (Eb rfl) (Eg (q_blkN (Ee (Ed [0, 3, 4, 13, 14] rfl (Eo (Ea (Eb rfl) ?_)))))))
 first | refine Ea (o_addn rfl rfl (by omega)) ?_ | refine Ea (o_add rfl rfl) ?_
 refine Ea (Eb rfl) (Eg (q_loopN ?_))
 · refine ⟨i + 1, ⟨by omega, by omega⟩, by omega, hasOf ⟨?_, rfl, trivial⟩ rfl⟩
   rw [newH_next (by assumption)]; rfl
 intro h2
 try rw [nnp] at h2
 refine s_exit (q_seqX (q_loopX (q_blkH (Ee (Ed [0, 3] rfl (Ei (Eo (Ea (Eb rfl) (Ea (Eb rfl) (Ea (o_bd rfl rfl) (Ea (o_box rfl rfl rfl) ?_)))))))))))
 refine Ea (Eb rfl) (Eg (Ee (Ed [2] rfl (Eu ?_))))
 · refine retG_leaf [0] (.inr rfl) rfl rfl rfl rfl (show (List.range 0 ++ [0]).Nodup by decide) ?_
   rw [newF_at hi (by omega)]; exact ⟨rfl, rfl⟩
 intro h1
 try rw [nnp] at h1
 refine Ej rfl (Ej rfl (Ea (En rfl rfl) (Eg (Ee (Ed [0, 3, 4, 13, 14, 15] rfl (s_condF rfl (s_exit (q_seqX (q_loopX (q_blkH (Ee ?_)))))))))))
 refine Ed [0, 3] rfl (Ei (Eo (Ea (Eb rfl) (Ea (Eb rfl) (Ea (o_bd rfl rfl) (Ea (o_box rfl rfl rfl) (Ea (Eb rfl) (Eg (Ee (Ed [2] rfl (Eu ?_)))))))))))
 · refine retG_leaf [0] (.inr rfl) rfl rfl rfl rfl (show (List.range 0 ++ [0]).Nodup by decide) ?_
   rw [newF_at hi (by omega)]; exact ⟨rfl, rfl⟩
def tbV (st b : Int) : Int := if st = 1 then b.tmod 2 else if st = 2 then IntKind.wrap .i64 (97 + b.tmod 4) else b
def tb (st b : Int) : UInt8 := UInt8.ofNat (IntKind.wrap .u8 (tbV st b)).toNat
theorem tv_0 {st b : Int} (h : ¬ st = 1) (k : ¬ st = 2) : tbV st b = b := by rw [tbV, if_neg h, if_neg k]
theorem tv_1 {st b : Int} (h : st = 1) : tbV st b = b.tmod 2 := by rw [tbV, if_pos h]
theorem tv_2 {st b : Int} (h : ¬ st = 1) (k : st = 2) : tbV st b = IntKind.wrap .i64 (97 + b.tmod 4) := by rw [tbV, if_neg h, if_pos k]
theorem tb_snoc {out : List UInt8} {st b v : Int} (e : tbV st b = v) : (out ++ [tb st b]).map byR = out.map byR ++ [[.w (.int .u8 (IntKind.wrap .u8 v))]] := by
 rw [tb, e, byR_snoc]
def textL (code : List Int) (st : Int) : Nat → List UInt8 → Int → Int → List UInt8 × Int × Int
 | 0, out, i, h => (out, i, h)
 | k + 1, out, i, h => textL code st k (out ++ [tb st (byF code i h).1]) (byF code i h).2.1 (byF code i h).2.2
theorem textL_next {code : List Int} {st n : Int} {out : List UInt8} {i h b i1 g1 : Int} (hn : 0 < n) (hb : byF code i h = (b, i1, g1)) : textL code st (n - 1).toNat (out ++ [tb st b]) i1 g1 = textL code st n.toNat out i h := by
 have e : n.toNat = (n - 1).toNat + 1 := by omega
 rw [e, textL, hb]
def textF (code : List Int) (i h most : Int) : List UInt8 × Int × Int :=
 let s := bwF code i h 4
 let n := bwF code s.2.1 s.2.2 (most + 1)
 textL code s.1 n.1.toNat [] n.2.1 n.2.2
theorem text_end {code : List Int} {i0 h0 most st i1 g1 n0 i2 g2 n i h : Int} {out : List UInt8} (hs : bwF code i0 h0 4 = (st, i1, g1)) (hn : bwF code i1 g1 (most + 1) = (n0, i2, g2)) (hT : textL code st n.toNat out i h = textL code st n0.toNat [] i2 g2) (h0' : ¬ 0 < n) : textF code i0 h0 most = (out, i, h) := by
 have e : n.toNat = 0 := by omega
 rw [e] at hT
 rw [textF, hs]
 simp only
 rw [hn]
 simp only
 rw [← hT]; rfl
theorem cgf_236 (code : List Int) (hc : code.length ≤ 1048576) (i h : Int) (hi : 0 ≤ i ∧ i ≤ code.length) (most : Int) (hmost : 0 ≤ most ∧ most ≤ 1000) : GV prg 236 [cur code i h] [.cp 0 0, .w (.int .i64 most)] (fun u L1 => ∃ (x : List UInt8) (i2 h2 : Int), textF code i h most = (x, i2, h2) ∧ u = .w (.string ⟨(x).toArray⟩) ∧ ((x.length : Int) ≤ most) ∧ (0 ≤ i2 ∧ i2 ≤ code.length) ∧ L1 = [cur code i2 h2]) := by
 refine gv_in g236 (Ed [0, 1] rfl (Ei (Eo (Ea (Eb rfl) (Eg (Ee (Ed [0, 1] rfl (Ei (Eo (Ea (o_bs rfl rfl rfl rfl) (Ea (Eb rfl) ?_)))))))))))
 refine Eg (Ee (Ed [0, 1, 5] rfl (Ei (Eo (Ea (Eb rfl) (s_callG [0] rfl rfl rfl rfl (by simp) (.inl rfl) (cgf_228 _ hc _ _ hi _) ?_))))))
 rintro u L1 ⟨st, i, h, hFst, rfl, hst, hi, rfl⟩
 refine ⟨_, _, rfl, rfl, ?_⟩
 refine Ea (Eb rfl) (Eg (Ee (Ed [0, 1, 5, 6] rfl (Ei (Ei (Eo (Ea (Eb rfl) (Ea (Eb rfl) ?_))))))))
 first | refine Ea (o_addn rfl rfl (by omega)) ?_ | refine Ea (o_add rfl rfl) ?_
 refine s_callG [0] rfl rfl rfl rfl (by simp) (.inl rfl) (cgf_228 _ hc _ _ hi _) ?_
 rintro u L1 ⟨n0, i, h, hFn0, rfl, hn0, hi, rfl⟩
 refine ⟨_, _, rfl, rfl, ?_⟩
 refine Ea (Eb rfl) (Eg (Ee (Ed [0, 5, 6, 7] rfl (S_block (S_loop (ι := Int × List UInt8 × Int × Int) (fun p => (0 ≤ p.1 ∧ (p.2.1.length : Int) + p.1 ≤ most) ∧ (0 ≤ p.2.2.1 ∧ p.2.2.1 ≤ code.length) ∧ textL code st p.1.toNat p.2.1 p.2.2.1 p.2.2.2 = textL code st n0.toNat [] i h) (fun p => [(5, .ls 1 (p.2.1.map byR).length), (7, .w (.int .i64 p.1))]) (fun p => [cur code p.2.2.1 p.2.2.2, .arr 1 (p.2.1.map byR)]) (fun p => p.1.toNat) 2 (n0, [], i, h) ⟨⟨by simp only; omega, by simp only [List.length_nil]; omega⟩, hi, rfl⟩ rfl (hasOf ⟨rfl, rfl, trivial⟩ rfl) rfl (fun _ _ => rfl) (fun _ _ => ⟨rfl, rfl⟩) ?_)))))
 rintro ⟨n, out, i, h⟩ hp
 obtain ⟨hn1, hi, hT⟩ := hp
 simp only at hn1 hi hT
 have hml : (out.map byR).length = out.length := List.length_map ..
 refine Ed [0, 5, 6, 7] rfl ?_
 dsimp only
 refine Ei (Ei (Eo (Ea (Eb rfl) (Ea (Ez rfl rfl) (Eg (Ee (Ed [0, 5, 6, 7, 17] rfl ?_)))))))
 first | refine s_condD rfl ?_ ?_ | refine s_condB rfl ?_ ?_
 intro h1
 try rw [nnp] at h1
 refine Ew (Ee (Ed [0, 5, 6, 7] rfl (Ei (S_block (Ei (Eo (Ea (Eb rfl) (s_callG [0] rfl rfl rfl rfl (by simp) (.inl rfl) (cgf_229 _ hc _ _ hi) ?_))))))))
 rintro u L1 ⟨b, i, h, hFb, rfl, hb, hi, rfl⟩
 refine ⟨_, _, rfl, rfl, ?_⟩
 refine Ea (Eb rfl) (Eg (Ee (Ed [0, 5, 6, 7, 8] rfl (Ei (Ei (Eo (Ea (Eb rfl) (Ea (o_eql rfl rfl) (Eg (Ee (Ed [0, 5, 6, 7, 8, 23] rfl ?_)))))))))))
 first | refine s_condD rfl ?_ ?_ | refine s_condB rfl ?_ ?_
 intro h2
 try rw [nnp] at h2
 refine Eo (Ea (Eb rfl) ?_)
 first | refine Ea (o_rem rfl rfl (by decide)) ?_ | refine Ea (o_rem rfl rfl (by omega)) ?_
 refine Ea (Eb rfl) (Eg (Ee (Ed [0, 5, 6, 7, 8] rfl (Ei (Ei (Eo (Ea (Eb rfl) (Ea (o_eql rfl rfl) (Eg (Ee (Ed [0, 5, 6, 7, 8, 27] rfl ?_)))))))))))
 first | refine s_condD rfl ?_ ?_ | refine s_condB rfl ?_ ?_
 intro h3
 try rw [nnp] at h3
 refine Eo (Ea (Eb rfl) ?_)
 first | refine Ea (o_rem rfl rfl (by decide)) ?_ | refine Ea (o_rem rfl rfl (by omega)) ?_
 first | refine Ea (o_addn rfl rfl (by omega)) ?_ | refine Ea (o_add rfl rfl) ?_
 refine Ea (Eb rfl) (Eg (Ee (Ed [0, 5, 6, 7, 8] rfl (Eo (Ea (Eb rfl) (Ea (Eb rfl) (Ea (o_cvi rfl) (Ea (o_bs rfl rfl rfl rfl) ?_))))))))
 first | refine Ea (o_appL rfl rfl rfl rfl rfl rfl rfl (by simp [roomy]; omega)) ?_ | refine Ea (o_app rfl rfl rfl rfl rfl (by simp [roomy]; omega)) ?_
 refine Ea (Eb rfl) (Eg (q_blkN (Ee (Ed [0, 5, 6, 7] rfl (Eo (Ea (Eb rfl) ?_))))))
 first | refine Ea (o_subn rfl rfl (by omega)) ?_ | refine Ea (o_sub rfl rfl) ?_
 refine Ea (Eb rfl) (Eg (q_loopN ?_))
 · have hnp : 0 < n := by omega
   have hTn := (textL_next (st := st) (out := out) hnp hFb).trans hT
   have ho : (out ++ [tb st b]).length = out.length + 1 := by simp
   first | (exfalso; omega) | skip
   all_goals first | have hv := tv_1 (b := b) (by assumption) | have hv := tv_2 (b := b) (by assumption) (by assumption) | have hv := tv_0 (b := b) (by assumption) (by assumption)
   all_goals (refine ⟨(n - 1, out ++ [tb st b], i, h), ⟨⟨by simp only; omega, by simp only [ho]; omega⟩, hi, hTn⟩, by simp only; omega, hasOf ⟨?_, rfl, trivial⟩ ?_⟩ <;> simp only [tb_snoc hv] <;> rfl)
 intro h3
 try rw [nnp] at h3
 refine Ew (Ee (Ed [0, 5, 6, 7, 8] rfl (Eo (Ea (Eb rfl) (Ea (Eb rfl) (Ea (o_cvi rfl) (Ea (o_bs rfl rfl rfl rfl) ?_)))))))
 first | refine Ea (o_appL rfl rfl rfl rfl rfl rfl rfl (by simp [roomy]; omega)) ?_ | refine Ea (o_app rfl rfl rfl rfl rfl (by simp [roomy]; omega)) ?_
 refine Ea (Eb rfl) (Eg (q_blkN (Ee (Ed [0, 5, 6, 7] rfl (Eo (Ea (Eb rfl) ?_))))))
 first | refine Ea (o_subn rfl rfl (by omega)) ?_ | refine Ea (o_sub rfl rfl) ?_
 refine Ea (Eb rfl) (Eg (q_loopN ?_))
 · have hnp : 0 < n := by omega
   have hTn := (textL_next (st := st) (out := out) hnp hFb).trans hT
   have ho : (out ++ [tb st b]).length = out.length + 1 := by simp
   first | (exfalso; omega) | skip
   all_goals first | have hv := tv_1 (b := b) (by assumption) | have hv := tv_2 (b := b) (by assumption) (by assumption) | have hv := tv_0 (b := b) (by assumption) (by assumption)
   all_goals (refine ⟨(n - 1, out ++ [tb st b], i, h), ⟨⟨by simp only; omega, by simp only [ho]; omega⟩, hi, hTn⟩, by simp only; omega, hasOf ⟨?_, rfl, trivial⟩ ?_⟩ <;> simp only [tb_snoc hv] <;> rfl)
 intro h2
 try rw [nnp] at h2
 refine Ew (Ee (Ed [0, 5, 6, 7, 8] rfl (Ei (Ei (Eo (Ea (Eb rfl) (Ea (o_eql rfl rfl) (Eg (Ee (Ed [0, 5, 6, 7, 8, 27] rfl ?_))))))))))
 first | refine s_condD rfl ?_ ?_ | refine s_condB rfl ?_ ?_
 intro h4
 try rw [nnp] at h4
 refine Eo (Ea (Eb rfl) ?_)
 first | refine Ea (o_rem rfl rfl (by decide)) ?_ | refine Ea (o_rem rfl rfl (by omega)) ?_
 first | refine Ea (o_addn rfl rfl (by omega)) ?_ | refine Ea (o_add rfl rfl) ?_
 refine Ea (Eb rfl) (Eg (Ee (Ed [0, 5, 6, 7, 8] rfl (Eo (Ea (Eb rfl) (Ea (Eb rfl) (Ea (o_cvi rfl) (Ea (o_bs rfl rfl rfl rfl) ?_))))))))
 first | refine Ea (o_appL rfl rfl rfl rfl rfl rfl rfl (by simp [roomy]; omega)) ?_ | refine Ea (o_app rfl rfl rfl rfl rfl (by simp [roomy]; omega)) ?_
 refine Ea (Eb rfl) (Eg (q_blkN (Ee (Ed [0, 5, 6, 7] rfl (Eo (Ea (Eb rfl) ?_))))))
 first | refine Ea (o_subn rfl rfl (by omega)) ?_ | refine Ea (o_sub rfl rfl) ?_
 refine Ea (Eb rfl) (Eg (q_loopN ?_))
 · have hnp : 0 < n := by omega
   have hTn := (textL_next (st := st) (out := out) hnp hFb).trans hT
   have ho : (out ++ [tb st b]).length = out.length + 1 := by simp
   first | (exfalso; omega) | skip
   all_goals first | have hv := tv_1 (b := b) (by assumption) | have hv := tv_2 (b := b) (by assumption) (by assumption) | have hv := tv_0 (b := b) (by assumption) (by assumption)
   all_goals (refine ⟨(n - 1, out ++ [tb st b], i, h), ⟨⟨by simp only; omega, by simp only [ho]; omega⟩, hi, hTn⟩, by simp only; omega, hasOf ⟨?_, rfl, trivial⟩ ?_⟩ <;> simp only [tb_snoc hv] <;> rfl)
 intro h4
 try rw [nnp] at h4
 refine Ew (Ee (Ed [0, 5, 6, 7, 8] rfl (Eo (Ea (Eb rfl) (Ea (Eb rfl) (Ea (o_cvi rfl) (Ea (o_bs rfl rfl rfl rfl) ?_)))))))
 first | refine Ea (o_appL rfl rfl rfl rfl rfl rfl rfl (by simp [roomy]; omega)) ?_ | refine Ea (o_app rfl rfl rfl rfl rfl (by simp [roomy]; omega)) ?_
 refine Ea (Eb rfl) (Eg (q_blkN (Ee (Ed [0, 5, 6, 7] rfl (Eo (Ea (Eb rfl) ?_))))))
 first | refine Ea (o_subn rfl rfl (by omega)) ?_ | refine Ea (o_sub rfl rfl) ?_
 refine Ea (Eb rfl) (Eg (q_loopN ?_))
 · have hnp : 0 < n := by omega
   have hTn := (textL_next (st := st) (out := out) hnp hFb).trans hT
   have ho : (out ++ [tb st b]).length = out.length + 1 := by simp
   first | (exfalso; omega) | skip
   all_goals first | have hv := tv_1 (b := b) (by assumption) | have hv := tv_2 (b := b) (by assumption) (by assumption) | have hv := tv_0 (b := b) (by assumption) (by assumption)
   all_goals (refine ⟨(n - 1, out ++ [tb st b], i, h), ⟨⟨by simp only; omega, by simp only [ho]; omega⟩, hi, hTn⟩, by simp only; omega, hasOf ⟨?_, rfl, trivial⟩ ?_⟩ <;> simp only [tb_snoc hv] <;> rfl)
 intro h1
 try rw [nnp] at h1
 refine s_exit (q_seqX (q_loopX (q_blkH (Ee (Ed [5] rfl (Ei (Eo (Ea (Eb rfl) (Ea (o_cvbsb rfl rfl rfl) (Ea (Eb rfl) (Eg ?_)))))))))))
 refine Ee (Ed [4] rfl (Eu ?_))
 · refine retG_leaf [] (.inr rfl) rfl rfl rfl rfl (show (List.range 1 ++ []).Nodup by decide) ?_
   exact ⟨_, _, _, text_end hFst hFn0 hT (by assumption), rfl, by omega, hi, rfl⟩
theorem o_bor1 {G : Prg} {q : Bool} {tl : Tl} {L : List LB} {x y a b} (hx : evE tl x = some (.w (.int .i64 a))) (hy : evE tl y = some (.w (.int .i64 b))) : OpV G q (.bin .or x y) tl L (some (.w (.int .i64 (bor1 a b)))) L :=
 o_bin hx hy rfl rfl
theorem o_band1 {G : Prg} {q : Bool} {tl : Tl} {L : List LB} {x y a b} (hx : evE tl x = some (.w (.int .i64 a))) (hy : evE tl y = some (.w (.int .i64 b))) : OpV G q (.bin .and x y) tl L (some (.w (.int .i64 (band1 a b)))) L :=
 o_bin hx hy rfl rfl
theorem c_216 (n : Int) : CV prg 216 [.w (.int .i64 n)] (fun res => res = .w (.string ⟨(varS n).toArray⟩)) := by
 refine cv_in g216 (Ed [0] rfl (Ei (Eo (Ea (Eb rfl) (Eg (Ee (Ed [0] rfl (Ei (Ei (Eo (Ea (Eb rfl) ?_)))))))))))
 refine Eh rfl rfl (c_230 ..) (Ea (o_not rfl) (Eg (Ee (Ed [0, 6] rfl ?_))))
 first | refine s_condD rfl ?_ ?_ | refine s_condN rfl ?_ ?_ | refine s_condNB rfl ?_ ?_ | refine s_condB rfl ?_ ?_
 intro h1
 try rw [nnp] at h1
 refine Ei (Eo (Ea (Eb rfl) (Eg (Ee (Ed [2] rfl (Eu (q_seqR (ret_leafR rfl rfl ?_))))))))
 rotate_left
 intro h1
 try rw [nnp] at h1
 refine Ew (Ee (Ed [0] rfl (Ei (Eo (Ea (o_bs rfl rfl rfl rfl) (Ea (Eb rfl) (Eg (Ee (Ed [0, 3] rfl (Ei (S_block ?_)))))))))))
 have hin := inB_t (by assumption)
 refine S_loop (ι := Int × List UInt8) (fun p => (0 ≤ p.1 ∧ p.1 ≤ 562949953421311) ∧ p.2 ++ vb p.1.toNat = vb n.toNat) (fun p => [(0, .w (.int .i64 p.1)), (3, .ls 0 (p.2.map byR).length)]) (fun p => [.arr 1 (p.2.map byR)]) (fun p => p.1.toNat) 1 (n, []) ⟨hin, rfl⟩ rfl (hasOf ⟨rfl, rfl, trivial⟩ rfl) rfl (fun _ _ => rfl) (fun _ _ => ⟨rfl, rfl⟩) ?_
 rintro ⟨m, out⟩ hp
 obtain ⟨hm, hr⟩ := hp
 simp only at hm hr
 have hol := var_short hin.2 hr
 have hml : (out.map byR).length = out.length := List.length_map ..
 refine Ed [0, 3] rfl ?_
 dsimp only
 refine Ei (Ei (Eo (Ea (Eb rfl) (Ea (o_geq rfl rfl) (Eg (Ee (Ed [0, 3, 9] rfl ?_)))))))
 first | refine s_condD rfl ?_ ?_ | refine s_condB rfl ?_ ?_
 intro h2
 try rw [nnp] at h2
 refine Ew (Ee (Ed [0, 3] rfl (S_block (Ei (Eo (Ea (Eb rfl) (Ea (Eb rfl) ?_)))))))
 first | refine Ea (o_rem rfl rfl (by decide)) ?_ | refine Ea (o_rem rfl rfl (by omega)) ?_
 refine Ea (o_add rfl rfl) (Ea (o_cvi rfl) (Ea (o_bs rfl rfl rfl rfl) ?_))
 first | refine Ea (o_appL rfl rfl rfl rfl rfl rfl rfl (by simp [roomy]; omega)) ?_ | refine Ea (o_app rfl rfl rfl rfl rfl (by simp [roomy]; omega)) ?_
 refine Ea (Eb rfl) (Eg (Ee (Ed [0, 3] rfl (Eo (Ea (Eb rfl) ?_)))))
 first | refine Ea (o_quo rfl rfl (by decide)) ?_ | refine Ea (o_quo rfl rfl (by omega)) ?_
 refine Ea (Eb rfl) (Eg (q_blkN (q_loopN ?_)))
 · obtain ⟨h8, h9⟩ := vb_step1 (n := m) (by assumption) hm.2
   refine ⟨(IntKind.wrap .i64 (m.tdiv 128), out ++ [UInt8.ofNat (IntKind.wrap .u8 (IntKind.wrap .i64 (128 + m.tmod 128))).toNat]), ⟨⟨h9.1, by simp only; omega⟩, ?_⟩, by simp only; omega, hasOf ⟨rfl, ?_, trivial⟩ ?_⟩
   · simp only [List.append_assoc, List.singleton_append]; rw [← h8]; exact hr
   · simp only [byR_snoc]; rfl
   · simp only [byR_snoc]; rfl
 intro h2
 try rw [nnp] at h2
 refine s_exit (q_seqX (q_loopX (q_blkH (Ee (Ed [0, 3] rfl (Ei (Eo (Ea (Eb rfl) (Ea (Eb rfl) (Ea (o_cvi rfl) (Ea (o_bs rfl rfl rfl rfl) ?_)))))))))))
 first | refine Ea (o_appL rfl rfl rfl rfl rfl rfl rfl (by simp [roomy]; omega)) ?_ | refine Ea (o_app rfl rfl rfl rfl rfl (by simp [roomy]; omega)) ?_
 refine Ea (o_cvbsb (l := out ++ [UInt8.ofNat (IntKind.wrap .u8 m).toNat]) rfl (by rw [byR_snoc]; rfl) (by rw [byR_snoc]; rfl)) (Ea (Eb rfl) (Eg (Ee (Ed [2] rfl (Eu (ret_leafR rfl rfl ?_))))))
 rotate_left
 all_goals
  first | exact var_none (by assumption) | exact var_end hin hr hm.1 (by omega)
theorem c_79 (n : Int) : CV prg 79 [.w (.int .i64 n)] (fun res => res = .w (.string ⟨(varS n).toArray⟩)) := by
 refine cv_in g79 (Ed [0] rfl (Ei (Eo (Ea (Eb rfl) (Eg (Ee (Ed [0] rfl (Ei (Ei (Eo (Ea (Eb rfl) ?_)))))))))))
 refine Eh rfl rfl (c_103 ..) (Ea (o_not rfl) (Eg (Ee (Ed [0, 6] rfl ?_))))
 first | refine s_condD rfl ?_ ?_ | refine s_condN rfl ?_ ?_ | refine s_condNB rfl ?_ ?_ | refine s_condB rfl ?_ ?_
 intro h1
 try rw [nnp] at h1
 refine Ei (Eo (Ea (Eb rfl) (Eg (Ee (Ed [2] rfl (Eu (q_seqR (ret_leafR rfl rfl ?_))))))))
 rotate_left
 intro h1
 try rw [nnp] at h1
 refine Ew (Ee (Ed [0] rfl (Ei (Eo (Ea (o_bs rfl rfl rfl rfl) (Ea (Eb rfl) (Eg (Ee (Ed [0, 3] rfl (Ei (S_block ?_)))))))))))
 have hin := inB_t (by assumption)
 refine S_loop (ι := Int × List UInt8) (fun p => (0 ≤ p.1 ∧ p.1 ≤ 562949953421311) ∧ p.2 ++ vb p.1.toNat = vb n.toNat) (fun p => [(0, .w (.int .i64 p.1)), (3, .ls 0 (p.2.map byR).length)]) (fun p => [.arr 1 (p.2.map byR)]) (fun p => p.1.toNat) 1 (n, []) ⟨hin, rfl⟩ rfl (hasOf ⟨rfl, rfl, trivial⟩ rfl) rfl (fun _ _ => rfl) (fun _ _ => ⟨rfl, rfl⟩) ?_
 rintro ⟨m, out⟩ hp
 obtain ⟨hm, hr⟩ := hp
 simp only at hm hr
 have hol := var_short hin.2 hr
 have hml : (out.map byR).length = out.length := List.length_map ..
 refine Ed [0, 3] rfl ?_
 dsimp only
 refine Ei (Ei (Eo (Ea (Eb rfl) (Ea (Ez rfl rfl) (Eg (Ee (Ed [0, 3, 9] rfl ?_)))))))
 first | refine s_condD rfl ?_ ?_ | refine s_condB rfl ?_ ?_
 intro h2
 try rw [nnp] at h2
 refine Ew (Ee (Ed [0, 3] rfl (S_block (Ei (Eo (Ea (Eb rfl) (Ea (Eb rfl) (Ea (o_band1 rfl rfl) (Ea (o_bor1 rfl rfl) (Ea (o_cvi rfl) (Ea (o_bs rfl rfl rfl rfl) ?_)))))))))))
 first | refine Ea (o_appL rfl rfl rfl rfl rfl rfl rfl (by simp [roomy]; omega)) ?_ | refine Ea (o_app rfl rfl rfl rfl rfl (by simp [roomy]; omega)) ?_
 refine Ea (Eb rfl) (Eg (Ee (Ed [0, 3] rfl (Eo (Ea (Eb rfl) (Ea (o_shr rfl rfl (by omega)) (Ea (Eb rfl) (Eg (q_blkN (q_loopN ?_))))))))))
 · obtain ⟨h8, h9⟩ := vb_step2 (n := m) (by assumption) hm.2
   refine ⟨(m.fdiv (2 ^ (min (Int.toNat 7) (IntKind.bits .i64))), out ++ [UInt8.ofNat (IntKind.wrap .u8 (bor1 (band1 m 127) 128)).toNat]), ⟨⟨h9.1, by simp only; omega⟩, ?_⟩, by simp only; omega, hasOf ⟨rfl, ?_, trivial⟩ ?_⟩
   · simp only [List.append_assoc, List.singleton_append]; rw [← h8]; exact hr
   · simp only [byR_snoc]; rfl
   · simp only [byR_snoc]; rfl
 intro h2
 try rw [nnp] at h2
 refine s_exit (q_seqX (q_loopX (q_blkH (Ee (Ed [0, 3] rfl (Ei (Eo (Ea (Eb rfl) (Ea (Eb rfl) (Ea (o_cvi rfl) (Ea (o_bs rfl rfl rfl rfl) ?_)))))))))))
 first | refine Ea (o_appL rfl rfl rfl rfl rfl rfl rfl (by simp [roomy]; omega)) ?_ | refine Ea (o_app rfl rfl rfl rfl rfl (by simp [roomy]; omega)) ?_
 refine Ea (o_cvbsb (l := out ++ [UInt8.ofNat (IntKind.wrap .u8 m).toNat]) rfl (by rw [byR_snoc]; rfl) (by rw [byR_snoc]; rfl)) (Ea (Eb rfl) (Eg (Ee (Ed [2] rfl (Eu (ret_leafR rfl rfl ?_))))))
 rotate_left
 all_goals
  first | exact var_none (by assumption) | exact var_end hin hr hm.1 (by omega)
theorem and_u8 (b : UInt8) : IntKind.wrap .u8 ((BitVec.ofInt 8 (b.toNat : Int) &&& BitVec.ofInt 8 127).toNat : Nat) = ((b.toNat % 128 : Nat) : Int) ∧ IntKind.wrap .u8 ((BitVec.ofInt 8 (b.toNat : Int) &&& BitVec.ofInt 8 15).toNat : Nat) = ((b.toNat % 16 : Nat) : Int) := by
 have hb := b.toNat_lt
 have e : (BitVec.ofInt 8 (b.toNat : Int)).toNat = b.toNat := by rw [BitVec.ofInt_natCast, BitVec.toNat_ofNat]; exact Nat.mod_eq_of_lt hb
 have e1 : (BitVec.ofInt 8 (b.toNat : Int) &&& BitVec.ofInt 8 127).toNat = b.toNat % 128 := by
  rw [BitVec.toNat_and, e, show (BitVec.ofInt 8 127).toNat = 2 ^ 7 - 1 from rfl, Nat.and_two_pow_sub_one_eq_mod]
 have e2 : (BitVec.ofInt 8 (b.toNat : Int) &&& BitVec.ofInt 8 15).toNat = b.toNat % 16 := by
  rw [BitVec.toNat_and, e, show (BitVec.ofInt 8 15).toNat = 2 ^ 4 - 1 from rfl, Nat.and_two_pow_sub_one_eq_mod]
 rw [e1, e2, wrap_u8_in (by omega), wrap_u8_in (by omega)]; exact ⟨rfl, rfl⟩
theorem o_and127 {G : Prg} {q : Bool} {tl : Tl} {L : List LB} {x y} {b : UInt8} (hx : evE tl x = some (.w (.int .u8 (b.toNat : Int)))) (hy : evE tl y = some (.w (.int .u8 127))) : OpV G q (.bin .and x y) tl L (some (.w (.int .u8 ((b.toNat % 128 : Nat) : Int)))) L :=
 o_bin hx hy (congrArg (fun z => some (Value.int .u8 z)) (and_u8 b).1) rfl
theorem o_and15 {G : Prg} {q : Bool} {tl : Tl} {L : List LB} {x y} {b : UInt8} (hx : evE tl x = some (.w (.int .u8 (b.toNat : Int)))) (hy : evE tl y = some (.w (.int .u8 15))) : OpV G q (.bin .and x y) tl L (some (.w (.int .u8 ((b.toNat % 16 : Nat) : Int)))) L :=
 o_bin hx hy (congrArg (fun z => some (Value.int .u8 z)) (and_u8 b).2) rfl
theorem o_shr4 {G : Prg} {q : Bool} {tl : Tl} {L : List LB} {x y} {b : UInt8} (hx : evE tl x = some (.w (.int .u8 (b.toNat : Int)))) (hy : evE tl y = some (.w (.int .u64 4))) : OpV G q (.bin .shr x y) tl L (some (.w (.int .u8 ((b.toNat / 16 : Nat) : Int)))) L :=
 o_bin hx hy (by
  have e : (2 : Int) ^ (min (Int.toNat 4) (IntKind.bits .u8)) = 16 := by decide
  simp only [binv, show (0 : Int) ≤ 4 by decide, if_true, e]
  rw [Int.fdiv_eq_ediv_of_nonneg _ (by omega)]; rfl) rfl
theorem c_103t : CV prg 103 [.w (.int .i64 7), .w (.int .i64 1), .w (.int .i64 7)] (fun v => v = .w (.bool true)) := (c_103 7 1 7).mono fun u h => by rw [h]; rfl
theorem c_45 (n : Int) : CV prg 45 [.w (.int .i64 n), .w (.int .i64 7)] (fun res => res = .w (.string ⟨(fixS n).toArray⟩)) := by
 refine cv_in g45 (Ed [0, 1] rfl (Ei (Eo (Ea (Eb rfl) (Eg (Ee (Ed [0, 1] rfl (Ei (Ei (Eo (Ea (Eb rfl) ?_)))))))))))
 refine Eh rfl rfl c_103t (Ea (o_not rfl) (Ea (Eb rfl) (Ec rfl (Ea (Eb rfl) (Ec rfl (Ea (Eb rfl) (Ec rfl ?_)))))))
 first | refine Ea (o_muln rfl rfl (by omega)) ?_ | refine Ea (o_mul rfl rfl) ?_
 refine Ec rfl (Ea (o_shl rfl rfl (by omega)) (Ec rfl ?_))
 first | refine Ea (o_subn rfl rfl (by omega)) ?_ | refine Ea (o_sub rfl rfl) ?_
 refine Ec rfl (Eh rfl rfl (c_103 ..) (Ec rfl (Ea (o_not rfl) (Ea (En rfl rfl) (Eg (Ee (Ed [0, 1, 18] rfl ?_)))))))
 first | refine s_condD rfl ?_ ?_ | refine s_condN rfl ?_ ?_ | refine s_condNB rfl ?_ ?_ | refine s_condB rfl ?_ ?_
 intro h1
 try rw [nnp] at h1
 try rw [e56] at h1
 refine Ei (Eo (Ea (Eb rfl) (Eg (Ee (Ed [4] rfl (Eu (q_seqR (ret_leafR rfl rfl ?_))))))))
 rotate_left
 intro h1
 try rw [nnp] at h1
 try rw [e56] at h1
 refine Ew (Ee (Ed [0, 1] rfl (Ei (Eo (Ea (o_bs rfl rfl rfl rfl) (Ea (Eb rfl) (Eg (Ee (Ed [0, 1, 5] rfl (Ei (Ei ?_)))))))))))
 refine Eo (Ea (Eb rfl) ?_)
 first | refine Ea (o_subn rfl rfl (by omega)) ?_ | refine Ea (o_sub rfl rfl) ?_
 refine Ea (Eb rfl) (Eg (Ee (Ed [0, 5, 6] rfl (S_block ?_))))
 have hin := inB_t (by assumption)
 refine S_loop (ι := Nat) (fun i => i ≤ 7) (fun i => [(5, .ls 0 ((fx n.toNat i).map byR).length), (6, .w (.int .i64 (6 - (i : Int))))]) (fun i => [.arr 1 ((fx n.toNat i).map byR)]) (fun i => 7 - i) 1 0 (by simp) rfl (hasOf ⟨rfl, rfl, trivial⟩ rfl) rfl (fun _ _ => rfl) (fun _ _ => ⟨rfl, rfl⟩) ?_
 intro i hi
 have hfl := fx_len n.toNat i
 have hml : ((fx n.toNat i).map byR).length = i := by rw [List.length_map, fx_len]
 refine Ed [0, 5, 6] rfl (Ei (Ei (Eo (Ea (Eb rfl) (Ea (o_geq rfl rfl) (Eg (Ee (Ed [0, 5, 6, 23] rfl ?_))))))))
 first | refine s_condD rfl ?_ ?_ | refine s_condB rfl ?_ ?_
 intro h2
 try rw [nnp] at h2
 try rw [e56] at h2
 refine Ew (Ee (Ed [0, 5, 6] rfl (Ei (S_block (Eo (Ea (Eb rfl) (Ea (Eb rfl) (Ea (Eb rfl) ?_))))))))
 first | refine Ea (o_muln rfl rfl (by omega)) ?_ | refine Ea (o_mul rfl rfl) ?_
 refine Ea (o_shr rfl rfl (by omega)) (Ea (o_cvi rfl) (Ea (o_bs rfl rfl rfl rfl) ?_))
 first | refine Ea (o_appL rfl rfl rfl rfl rfl rfl rfl (by simp [roomy]; omega)) ?_ | refine Ea (o_app rfl rfl rfl rfl rfl (by simp [roomy]; omega)) ?_
 refine Ea (Eb rfl) (Eg (q_blkN (Ee (Ed [0, 5, 6] rfl (Eo (Ea (Eb rfl) ?_))))))
 first | refine Ea (o_subn rfl rfl (by omega)) ?_ | refine Ea (o_sub rfl rfl) ?_
 refine Ea (Eb rfl) (Eg (q_loopN ?_))
 · refine ⟨i + 1, by omega, by omega, hasOf ⟨?_, ?_, trivial⟩ ?_⟩
   · rw [fx_snoc hin.1 (by omega)]; rfl
   · exact congrArg (fun b => some (V.w (.int .i64 b))) (by omega)
   · rw [fx_snoc hin.1 (by omega)]; rfl
 intro h2
 try rw [nnp] at h2
 try rw [e56] at h2
 refine s_exit (q_seqX (q_loopX (q_blkH (Ee (Ed [5] rfl (Ei (Eo (Ea (Eb rfl) (Ea (o_cvbsb rfl rfl rfl) (Ea (Eb rfl) (Eg ?_)))))))))))
 refine Ee (Ed [4] rfl (Eu (ret_leafR rfl rfl ?_)))
 rotate_left
 all_goals
  first | exact fix_none (by assumption) | exact fix_end (by assumption) (by omega)
theorem c_64 (s : List UInt8) : CV prg 64 [.w (.string ⟨(s).toArray⟩), .w (.int .i64 7)] (fun res => res = .tup [.w (.int .i64 (readFx s).1), .w (.bool (readFx s).2)]) := by
 refine cv_in g64 (Ed [0, 1] rfl (Ei (Eo (Ea (Eb rfl) (Ea (Eb rfl) (Eg (Ee (Ed [0, 1] rfl (Ei (Ei (Eo ?_)))))))))))
 refine Ea (Eb rfl) (Eh rfl rfl c_103t (Ea (o_not rfl) (Ea (Eb rfl) (Ec rfl (Ea (Eb rfl) (Ec rfl (Ea (Ev rfl) (Ec rfl (Ea (Eb rfl) (Ec rfl (Ea (o_lss rfl rfl) ?_)))))))))))
 refine Ea (En rfl rfl) (Eg (Ee (Ed [0, 1, 16] rfl ?_)))
 first | refine s_condD rfl ?_ ?_ | refine s_condB rfl ?_ ?_
 intro h1
 try rw [nnp] at h1
 refine Ei (Eo (Ea (Eb rfl) (Ea (Eb rfl) (Eg (Ee (Ed [4, 5] rfl (Eu (q_seqR (ret_leafR rfl rfl ?_)))))))))
 rotate_left
 intro h1
 try rw [nnp] at h1
 refine Ew (Ee (Ed [0, 1] rfl (Ei (Eo (Ea (Eb rfl) (Eg (Ee (Ed [0, 1, 6] rfl (Ei (Ei (Eo ?_)))))))))))
 refine Ea (Eb rfl) (Ea (Eb rfl) (Eg (Ee (Ed [0, 6, 17, 18] rfl (S_block (S_loop0 (ι := Nat) (fun i => i ≤ 7) (fun i => [(6, .w (.int .i64 ((rf (s.take i) : Nat) : Int))), (18, .w (.int .i64 (i : Int)))]) (fun i => 7 - i) 0 (by simp) rfl ⟨rfl, rfl, trivial⟩ (fun _ _ => rfl) rfl ?_))))))
 intro i hi
 obtain ⟨x0, hx0⟩ : ∃ x, i < s.length → s[i]? = some x := by
  by_cases h : i < s.length
  · exact ⟨s[i], fun _ => List.getElem?_eq_getElem h⟩
  · exact ⟨0, fun h2 => absurd h2 h⟩
 refine Ed [0, 6, 17, 18] rfl (Ei (Eo (Ea (o_lss rfl rfl) (Eg (Ee (Ed [0, 6, 17, 18, 19] rfl (Ei ?_)))))))
 first | refine s_condD rfl ?_ ?_ | refine s_condB rfl ?_ ?_
 intro h2
 try rw [nnp] at h2
 refine Ew (Ee (Ed [0, 6, 17, 18] rfl (Ei (S_block (Ei (Eo (Ea (Eb rfl) (Ea (Eb rfl) (Eg (Ee (Ed [0, 6, 7, 17, 18] rfl ?_)))))))))))
 refine Eo (Ea (Eb rfl) (Ea (o_shl rfl rfl (by omega)) (Ea (Eb rfl) (Ea (Eb rfl) (s_ixM rfl rfl (by omega) ?_)))))
 intro y3 e3
 first | (simp only [Int.toNat_natCast] at e3; obtain rfl := Option.some.inj ((hx0 (by omega)).symm.trans e3)) | skip
 refine Ea (o_cvi rfl) (Ea (o_bor1 rfl rfl) ?_)
 rw [rf_or (by omega) (hx0 (by omega))]
 refine Ea (Eb rfl) (Eg (q_blkN (Ee (Ed [0, 6, 17, 18] rfl (Eo ?_)))))
 first | refine Ea (o_addn rfl rfl (by omega)) ?_ | refine Ea (o_add rfl rfl) ?_
 refine Ea (Eb rfl) (Eg (q_loopN ?_))
 · exact ⟨i + 1, by omega, by omega, hasOf ⟨rfl, rfl, trivial⟩ rfl⟩
 intro h2
 try rw [nnp] at h2
 refine s_exit (q_seqX (q_loopX (q_blkH (Ee (Ed [6] rfl (Ei (Eo (Ea (Eb rfl) (Ea (Eb rfl) (Ea (Eb rfl) (Eg ?_)))))))))))
 refine Ee (Ed [4, 5] rfl (Eu (ret_leafR rfl rfl ?_)))
 rotate_left
 all_goals
  first | exact rfx_no (by assumption) | exact rfx_yes (by assumption) (by omega)
theorem c_65 (s : List UInt8) : CV prg 65 [.w (.string ⟨(s).toArray⟩)] (fun res => res = .tup [.w (.int .i64 (readV s).1), .w (.int .i64 (readV s).2)]) := by
 refine cv_in g65 (Ed [0] rfl (Ei (Eo (Ea (Eb rfl) (Ea (Eb rfl) (Eg (Ee (Ed [0] rfl (Ei (Eo (Ea (Eb rfl) ?_)))))))))))
 refine Eg (Ee (Ed [0, 4] rfl (Ei (Ei (Eo (Ea (Eb rfl) (Ea (Ev rfl) (Ea (o_mn rfl) ?_))))))))
 rw [min7]
 refine Ea (Eb rfl) (Eg (Ee (Ed [0, 4, 8, 9] rfl (S_block (S_loop0 (ι := Nat) (fun i => (i ≤ s.length ∧ i ≤ 7) ∧ rvG s i = readV s) (fun i => [(4, .w (.int .i64 ((vl (s.take i) : Nat) : Int))), (9, .w (.int .i64 (i : Int)))]) (fun i => 7 - i) 0 ⟨⟨Nat.zero_le _, Nat.zero_le _⟩, rfl⟩ rfl ⟨rfl, rfl, trivial⟩ (fun _ _ => rfl) rfl ?_)))))
 intro i hi
 obtain ⟨hi, hR⟩ := hi
 obtain ⟨x0, hx0⟩ : ∃ x, i < s.length → s[i]? = some x := by
  by_cases h : i < s.length
  · exact ⟨s[i], fun _ => List.getElem?_eq_getElem h⟩
  · exact ⟨0, fun h2 => absurd h2 h⟩
 refine Ed [0, 4, 8, 9] rfl (Ei (Eo (Ea (o_lss rfl rfl) (Eg (Ee (Ed [0, 4, 8, 9, 10] rfl (Ei ?_)))))))
 first | refine s_condD rfl ?_ ?_ | refine s_condB rfl ?_ ?_
 intro h1
 try rw [nnp] at h1
 refine Ew (Ee (Ed [0, 4, 8, 9] rfl (Ei (S_block (Ei (Eo (Ea (Eb rfl) (Ea (Eb rfl) (Eg (Ee (Ed [0, 4, 5, 8, 9] rfl ?_)))))))))))
 refine Ei (Eo (Ea (Eb rfl) (Ea (Eb rfl) (Ea (Eb rfl) (s_ixM rfl rfl (by omega) ?_)))))
 intro y2 e2
 first | (simp only [Int.toNat_natCast] at e2; obtain rfl := Option.some.inj ((hx0 (by omega)).symm.trans e2)) | skip
 refine Ea (o_and127 rfl rfl) (Ea (o_cvi rfl) (Ea (Eb rfl) ?_))
 first | refine Ea (o_muln rfl rfl (by omega)) ?_ | refine Ea (o_mul rfl rfl) ?_
 refine Ea (o_shl rfl rfl (by omega)) (Ea (o_bor1 rfl rfl) ?_)
 rw [rv_or (by omega) (hx0 (by omega))]
 refine Ea (Eb rfl) (Eg (Ee (Ed [0, 4, 5, 8, 9] rfl (Ei (Eo (Ea (Eb rfl) (Ea (Eb rfl) (s_ixM rfl rfl (by omega) ?_))))))))
 intro y3 e3
 first | (simp only [Int.toNat_natCast] at e3; obtain rfl := Option.some.inj ((hx0 (by omega)).symm.trans e3)) | skip
 refine Ea (o_lss rfl rfl) (Eg (Ee (Ed [0, 4, 5, 8, 9, 25] rfl ?_)))
 first | refine s_condD rfl ?_ ?_ | refine s_condB rfl ?_ ?_
 intro h4
 try rw [nnp] at h4
 refine Ei (Ei (Eo (Ea (Eb rfl) (Ea (Eb rfl) (s_ixM rfl rfl (by omega) ?_)))))
 intro y5 e5
 first | (simp only [Int.toNat_natCast] at e5; obtain rfl := Option.some.inj ((hx0 (by omega)).symm.trans e5)) | skip
 refine Ea (o_eql rfl rfl) (Ea (Eb rfl) ?_)
 first | refine s_gDT rfl ?_ ?_ | refine s_gB rfl ?_ ?_
 intro h6
 try rw [nnp] at h6
 refine Ea (Eb rfl) (Ec rfl (Ea (Ez rfl rfl) (Ea (Ef rfl rfl) (Eg (Ee (Ed [4, 5, 33] rfl ?_))))))
 first | refine s_condD rfl ?_ ?_ | refine s_condB rfl ?_ ?_
 intro h7
 try rw [nnp] at h7
 refine s_exit (q_seqX (q_blkM rfl (q_seqX (q_loopX (q_blkH (Ee (Ed [] rfl (Ei (Eo (Ea (Eb rfl) (Ea (Eb rfl) ?_)))))))))))
 refine Eg (Ee (Ed [2, 3] rfl (Eu (ret_leafR rfl rfl ?_))))
 rotate_left
 intro h7
 try rw [nnp] at h7
 refine Ew (Ee (Ed [4, 5] rfl (Ei (Eo (Ea (Eb rfl) (Ea (Eb rfl) ?_))))))
 first | refine Ea (o_addn rfl rfl (by omega)) ?_ | refine Ea (o_add rfl rfl) ?_
 refine Ea (Eb rfl) (Ea (Eb rfl) (Eg (Ee (Ed [2, 3] rfl (Eu (q_blkR (q_seqR (q_loopR (q_blkR (q_seqR (ret_leafR rfl rfl ?_)))))))))))
 rotate_left
 intro h6
 try rw [nnp] at h6
 refine Ej rfl (Ej rfl (Ea (En rfl rfl) (Eg (Ee (Ed [4, 5, 33] rfl (s_condF rfl (Ew (Ee (Ed [4, 5] rfl (Ei (Eo ?_)))))))))))
 refine Ea (Eb rfl) (Ea (Eb rfl) ?_)
 first | refine Ea (o_addn rfl rfl (by omega)) ?_ | refine Ea (o_add rfl rfl) ?_
 refine Ea (Eb rfl) (Ea (Eb rfl) (Eg (Ee (Ed [2, 3] rfl (Eu (q_blkR (q_seqR (q_loopR (q_blkR (q_seqR (ret_leafR rfl rfl ?_)))))))))))
 rotate_left
 intro h4
 try rw [nnp] at h4
 refine Ew (q_blkN (Ee (Ed [0, 4, 8, 9] rfl (Eo ?_))))
 first | refine Ea (o_addn rfl rfl (by omega)) ?_ | refine Ea (o_add rfl rfl) ?_
 refine Ea (Eb rfl) (Eg (q_loopN ?_))
 · exact ⟨i + 1, ⟨by omega, (rvG_next (by omega) (hx0 (by omega)) (by assumption)).symm.trans hR⟩, by omega, hasOf ⟨rfl, rfl, trivial⟩ rfl⟩
 intro h1
 try rw [nnp] at h1
 refine s_exit (q_seqX (q_loopX (q_blkH (Ee (Ed [] rfl (Ei (Eo (Ea (Eb rfl) (Ea (Eb rfl) (Eg (Ee ?_)))))))))))
 refine Ed [2, 3] rfl (Eu (ret_leafR rfl rfl ?_))
 rotate_left
 all_goals
  first | exact rv_leaf hR (rvG_end (by omega)) | exact rv_leaf hR (rvG_zero (by omega) (hx0 (by omega)) (by assumption) (by assumption)) | exact rv_leaf hR (rvG_got (by omega) (hx0 (by omega)) (by assumption) (by omega))
theorem c_273h {k : Nat} (h : k < 16) : CV prg 273 [.w (.string ⟨hexL.toArray⟩), .w (.int .u8 ((hxd k).toNat : Int))] (fun v => v = .w (.int .i64 ((k : Nat) : Int))) := by
 have := cn_273 (G := prg) hexL (hxd k)
 rwa [hd_ix h] at this
end Go.Proofs.YtoppcdecolponaaDoor.AL
