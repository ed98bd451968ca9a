/- What functions do with plain data, each by the form of its code. Printed by program. -/
import Derived.Test.YtoppcdecolponaaDoorSpec0
import Derived.Test.YtoppcdecolponaaDoorIrReadDec
import Derived.Test.YtoppcdecolponaaDoorVI
import Derived.Test.YtoppcdecolponaaDoorVS
import Derived.Test.YtoppcdecolponaaDoorWa0
import Derived.Test.YtoppcdecolponaaDoorWa1
namespace Go.Proofs.YtoppcdecolponaaDoor.AL
open Go
set_option linter.unusedVariables false
set_option linter.unusedSimpArgs false
set_option maxRecDepth 4096
def Conf.small (x : Conf) : Prop := x.masters.length ≤ 1048576
def Conf.sz (x : Conf) : Nat := x.masters.length
theorem Conf.small_of {x : Conf} (h : x.sz ≤ 1048576) : x.small := by unfold Conf.small; unfold Conf.sz at h; omega
def Done.beq (x y : Done) : Bool := ((x.cycle == y.cycle) && ((x.who == y.who) && ((x.write == y.write) && ((x.addr == y.addr) && ((x.size == y.size) && ((x.value == y.value) && ((x.resp == y.resp) && true)))))))
theorem Done.of_beq {x y : Done} (h : Done.beq x y = true) : x = y := by
 cases x; cases y; simp_all [Done.beq]
theorem Done.no_beq {x y : Done} (h : Done.beq x y = false) : x ≠ y := by
 rintro rfl; simp [Done.beq] at h
theorem Done.beq_dec (x y : Done) : Done.beq x y = decide (x = y) := by
 cases h : Done.beq x y
 · exact (decide_eq_false (Done.no_beq h)).symm
 · exact (decide_eq_true (Done.of_beq h)).symm
def folOk (p : Done × Done) : Bool := (p.1.write == p.2.write) && decide (p.1.addr = p.2.addr) && decide (p.1.size = p.2.size) && !(p.1.write && decide (p.1.resp = 0) && decide (p.1.value ≠ p.2.value))
def follows (l w : List Done) : Bool := decide (l.length ≤ w.length) && (l.zip w).all folOk
def Req.small (x : Req) : Prop := x.data.length ≤ 1048576
def Req.sz (x : Req) : Nat := x.data.length
theorem Req.small_of {x : Req} (h : x.sz ≤ 1048576) : x.small := by unfold Req.small; unfold Req.sz at h; omega
def Mst.small (x : Mst) : Prop := x.queue.length ≤ 1048576 ∧ (∀ y, y ∈ x.queue → Req.small y)
def Mst.sz (x : Mst) : Nat := x.queue.length + sumL Req.sz x.queue
theorem Mst.small_of {x : Mst} (h : x.sz ≤ 1048576) : x.small := ⟨by unfold Mst.sz at h; omega, fun y hy => Req.small_of (by have := sumL_mem Req.sz hy; unfold Mst.sz at h; omega)⟩
def roundStep (c : Conf) (s : Int) (i : Nat) : Int := IntKind.wrap .i64 (s + IntKind.wrap .i64 (c.turn i * c.slot))
def Conf.round (c : Conf) : Int := if c.ok then (List.range c.masters.length).foldl (roundStep c) (IntKind.wrap .i64 (c.cost * c.masters.length)) else 0
def Conf.bound (c : Conf) (beats : Int) : Int := if c.ok && inB beats 1 8 then
 IntKind.wrap .i64 (IntKind.wrap .i64 (IntKind.wrap .i64 (2 * IntKind.wrap .i64 (IntKind.wrap .i64 (beats * IntKind.wrap .i64 (IntKind.wrap .i64 (IntKind.wrap .i64 (2 * c.round) + c.maxSplit) + c.cost)) + c.caps)) + IntKind.wrap .i64 (2 * c.slot)) + 10) else 0
def Wrr.back (w : Wrr) (c : Conf) (who : Int) : Wrr := if w.ok c && decide (who = w.pos) then { w with credit := min (IntKind.wrap .i64 (w.credit + 1)) (c.turn who) } else w
def Post.small (x : Post) : Prop := x.req.small
def Post.sz (x : Post) : Nat := x.req.sz
theorem Post.small_of {x : Post} (h : x.sz ≤ 1048576) : x.small := Req.small_of (by unfold Post.sz at h; omega)
def Script.small (x : Script) : Prop := x.posts.length ≤ 1048576 ∧ (∀ y, y ∈ x.posts → Post.small y) ∧ x.waits.length ≤ 1048576 ∧ x.says.length ≤ 1048576
def Script.sz (x : Script) : Nat := x.posts.length + sumL Post.sz x.posts + x.waits.length + x.says.length
theorem Script.small_of {x : Script} (h : x.sz ≤ 1048576) : x.small := ⟨by unfold Script.sz at h; omega, fun y hy => Post.small_of (by have := sumL_mem Post.sz hy; unfold Script.sz at h; omega), by unfold Script.sz at h; omega, by unfold Script.sz at h; omega⟩
def Dev.small (x : Dev) : Prop := x.regs.length ≤ 1048576 ∧ x.fifo.length ≤ 1048576
def Dev.sz (x : Dev) : Nat := x.regs.length + x.fifo.length
theorem Dev.small_of {x : Dev} (h : x.sz ≤ 1048576) : x.small := ⟨by unfold Dev.sz at h; omega, by unfold Dev.sz at h; omega⟩
def Model.small (x : Model) : Prop := x.ram.length ≤ 1048576 ∧ x.dev.small
def Model.sz (x : Model) : Nat := x.ram.length + x.dev.sz
theorem Model.small_of {x : Model} (h : x.sz ≤ 1048576) : x.small := ⟨by unfold Model.sz at h; omega, Dev.small_of (by unfold Model.sz at h; omega)⟩
def Bus.small (x : Bus) : Prop := x.conf.small ∧ x.ms.length ≤ 1048576 ∧ (∀ y, y ∈ x.ms → Mst.small y) ∧ x.buckets.length ≤ 1048576 ∧ x.splits.length ≤ 1048576 ∧ x.model.small ∧ x.log.length ≤ 1048576
def Bus.sz (x : Bus) : Nat := x.conf.sz + x.ms.length + sumL Mst.sz x.ms + x.buckets.length + x.splits.length + x.model.sz + x.log.length
theorem Bus.small_of {x : Bus} (h : x.sz ≤ 1048576) : x.small := ⟨Conf.small_of (by unfold Bus.sz at h; omega), by unfold Bus.sz at h; omega, fun y hy => Mst.small_of (by have := sumL_mem Mst.sz hy; unfold Bus.sz at h; omega), by unfold Bus.sz at h; omega, by unfold Bus.sz at h; omega, Model.small_of (by unfold Bus.sz at h; omega), by unfold Bus.sz at h; omega⟩
def MConf.beq (x y : MConf) : Bool := ((x.weight == y.weight) && ((x.prio == y.prio) && ((x.every == y.every) && ((x.cap == y.cap) && true))))
theorem MConf.of_beq {x y : MConf} (h : MConf.beq x y = true) : x = y := by
 cases x; cases y; simp_all [MConf.beq]
theorem MConf.no_beq {x y : MConf} (h : MConf.beq x y = false) : x ≠ y := by
 rintro rfl; simp [MConf.beq] at h
theorem MConf.beq_dec (x y : MConf) : MConf.beq x y = decide (x = y) := by
 cases h : MConf.beq x y
 · exact (decide_eq_false (MConf.no_beq h)).symm
 · exact (decide_eq_true (MConf.of_beq h)).symm
def Bucket.beq (x y : Bucket) : Bool := ((x.tokens == y.tokens) && ((x.count == y.count) && true))
theorem Bucket.of_beq {x y : Bucket} (h : Bucket.beq x y = true) : x = y := by
 cases x; cases y; simp_all [Bucket.beq]
theorem Bucket.no_beq {x y : Bucket} (h : Bucket.beq x y = false) : x ≠ y := by
 rintro rfl; simp [Bucket.beq] at h
theorem Bucket.beq_dec (x y : Bucket) : Bucket.beq x y = decide (x = y) := by
 cases h : Bucket.beq x y
 · exact (decide_eq_false (Bucket.no_beq h)).symm
 · exact (decide_eq_true (Bucket.of_beq h)).symm
def Beat.beq (x y : Beat) : Bool := ((x.live == y.live) && ((x.who == y.who) && ((x.num == y.num) && ((x.first == y.first) && ((x.via == y.via) && ((x.left == y.left) && ((x.resp == y.resp) && ((x.second == y.second) && true))))))))
theorem Beat.of_beq {x y : Beat} (h : Beat.beq x y = true) : x = y := by
 cases x; cases y; simp_all [Beat.beq]
theorem Beat.no_beq {x y : Beat} (h : Beat.beq x y = false) : x ≠ y := by
 rintro rfl; simp [Beat.beq] at h
theorem Beat.beq_dec (x y : Beat) : Beat.beq x y = decide (x = y) := by
 cases h : Beat.beq x y
 · exact (decide_eq_false (Beat.no_beq h)).symm
 · exact (decide_eq_true (Beat.of_beq h)).symm
def Wrr.beq (x y : Wrr) : Bool := ((x.pos == y.pos) && ((x.credit == y.credit) && true))
theorem Wrr.of_beq {x y : Wrr} (h : Wrr.beq x y = true) : x = y := by
 cases x; cases y; simp_all [Wrr.beq]
theorem Wrr.no_beq {x y : Wrr} (h : Wrr.beq x y = false) : x ≠ y := by
 rintro rfl; simp [Wrr.beq] at h
theorem Wrr.beq_dec (x y : Wrr) : Wrr.beq x y = decide (x = y) := by
 cases h : Wrr.beq x y
 · exact (decide_eq_false (Wrr.no_beq h)).symm
 · exact (decide_eq_true (Wrr.of_beq h)).symm
structure Bus.parts (x y : Bus) : Prop where
 conf : x.conf = y.conf
 now : x.now = y.now
 ms : x.ms = y.ms
 arb : x.arb = y.arb
 buckets : x.buckets = y.buckets
 splits : x.splits = y.splits
 holder : x.holder = y.holder
 kept : x.kept = y.kept
 last : x.last = y.last
 addr : x.addr = y.addr
 data : x.data = y.data
 model : x.model = y.model
 picks : x.picks = y.picks
 log : x.log = y.log
def bytes (size : Int) : Int := if inB size 0 2 then (if size = 0 then 1 else if size = 1 then 2 else 4) else 0
def limit (size : Int) : Int := if inB size 0 2 then (if size = 0 then 256 else if size = 1 then 65536 else 4294967296) else 0
def beatsN (b : Int) : Int := if b = 0 then 1 else if b = 3 then 8 else 4
def beats (b : Int) : Int := if inB b 0 3 then beatsN b else 0
def aligned (a size : Int) : Bool := inB size 0 2 && decide (0 ≤ a) && decide (a.tmod (bytes size) = 0)
def nextA (a size burst : Int) : Int :=
 if aligned a size && decide (a < 512) && decide (beats burst ≠ 0) then
  (if burst = 2 ∧ (a + bytes size).tmod (4 * bytes size) = 0 then a + bytes size - 4 * bytes size else a + bytes size)
 else -1
def bl (s b : Int) : Nat → Int → Option (List Int)
 | 0, _ => some []
 | n + 1, a => if nextA a s b < 0 then none else (bl s b n (nextA a s b)).map (a :: ·)
def burstL (a s b : Int) : List Int := (bl s b (beats b).toNat a).getD []
def onPage (l : List Int) (x : Int) : Bool := decide (IntKind.wrap .i64 (x.tdiv 64) = IntKind.wrap .i64 (((l[0]?).getD 0).tdiv 64))
def burstOk (a s b : Int) : Bool := (burstL a s b).all (onPage (burstL a s b)) && decide (0 < (burstL a s b).length)
def Req.ok (x : Req) : Bool := burstOk x.addr x.size x.burst && decide ((x.data.length : Int) = if x.write then beats x.burst else 0) && x.data.all fun v => inB v 0 (limit x.size - 1)
def Mst.beats (m : Mst) : Int := match m.queue[0]? with | some r => AL.beats r.burst | none => 0
def Mst.right (m : Mst) : Bool := decide (m.queue.length ≤ 4) && decide (0 ≤ m.tries) && m.queue.all Req.ok &&
 (if m.queue.length = 0 then decide (m.beat = 0) && decide (m.done = 0) && decide (m.tries = 0) && !m.parted && !m.broken else inB m.done 0 (m.beats - 1) && inB m.beat m.done (min (m.done + 2) m.beats))
def okAt (c : Conf) (s : Script) (i : Nat) : Bool := match s.posts[i]? with
 | some p => inB p.moment 0 4000 && inB p.who 0 (c.masters.length - 1) && p.req.ok && (match i with
   | 0 => true
   | j + 1 => match s.posts[j]? with
     | some q => decide (q.moment ≤ p.moment)
     | none => true)
 | none => true
def Script.ok (s : Script) (c : Conf) : Bool := c.ok && decide (s.posts.length ≤ 20) && decide (s.waits.length ≤ 20) && decide (s.says.length ≤ 20) && (List.range s.posts.length).all (okAt c s)
def Wrr.hit (w : Wrr) (req : List Bool) (i : Nat) : Bool := (req[((w.pos + ((i : Int) + 1)).tmod req.length).toNat]?).getD false
def Wrr.pick (w : Wrr) (c : Conf) (req : List Bool) : Wrr × Int := if w.ok c && decide (req.length = c.masters.length) then
    (if decide (0 < w.credit) && (req[w.pos.toNat]?).getD false then (⟨w.pos, IntKind.wrap .i64 (w.credit - 1)⟩, w.pos)
     else match (List.range req.length).find? (w.hit req) with
      | some i => (⟨(w.pos + ((i : Int) + 1)).tmod req.length, IntKind.wrap .i64 (c.turn ((w.pos + ((i : Int) + 1)).tmod req.length) - 1)⟩, (w.pos + ((i : Int) + 1)).tmod req.length)
      | none => (⟨w.pos, 0⟩, -1))
 else (w, -1)
def cur (code : List Int) (i h : Int) : LB := .cell [.sl 1 (code.map uR), .w (.int .i64 i), .w (.int .i64 h)]
def Bucket.ok (b : Bucket) (m : MConf) : Bool := if m.prio then inB b.tokens 0 m.cap && decide (0 ≤ b.count) && decide (b.count < m.every) else decide (b.tokens = 0) && decide (b.count = 0)
def Bucket.take (b : Bucket) (m : MConf) : Bucket × Bool := if m.prio && b.ok m && decide (b.tokens ≠ 0) then (⟨b.tokens - 1, b.count⟩, true) else (b, false)
def Bucket.back (b : Bucket) (m : MConf) : Bucket := if m.prio && b.ok m && decide (b.tokens < m.cap) then ⟨b.tokens + 1, b.count⟩ else b
def MConf.most (m : MConf) (n : Int) : Int := if m.prio = true ∧ 1 ≤ m.every ∧ 0 ≤ m.cap ∧ inB n 0 4000 = true then m.cap + n.tdiv m.every + 1 else 0
def Script.fit (s : Script) : Prop := s.posts.length ≤ 6 ∧ (∀ p, p ∈ s.posts → p.req.data.length ≤ 16) ∧ (s.waits.length ≤ 6 ∧ ∀ y, y ∈ s.waits → 0 ≤ y ∧ y ≤ 16) ∧ s.says.length ≤ 6 ∧ ∀ y, y ∈ s.says → 0 ≤ y ∧ y ≤ 16
def byteB (v : Int) : Bool := inB v 0 255
def wordB (v : Int) : Bool := inB v 0 (limit 2 - 1)
def Dev.ok (d : Dev) : Bool := decide ((d.regs.length : Int) = 4) && decide ((d.fifo.length : Int) ≤ 4) && d.regs.all wordB && d.fifo.all wordB && wordB d.timer
def Model.ok (m : Model) : Bool := decide ((m.ram.length : Int) = 192) && m.ram.all byteB && m.dev.ok
def liveL (b : Bus) : List Beat := [b.addr, b.data].filter (fun x => x.live)
def Beat.none : Beat := ⟨false, 0, 0, false, 0, 0, 0, false⟩
def cntW (l : List Beat) (i : Nat) : Int := ((l.filter (fun x : Beat => decide (x.who = (i : Int)))).length : Int)
def fl (b : Bus) (j : Nat) : List (List V) := (List.range b.ms.length).map (fun i => iR (cntW ((liveL b).take j) i))
def Mst.backC (m : Mst) : Bool := m.right && decide (m.beat ≠ m.done)
def Mst.back (m : Mst) : Mst × Bool := if m.backC then (⟨m.queue, m.beat - 1, m.done, m.tries, m.parted, m.broken⟩, true) else (m, false)
def Mst.finC (m : Mst) : Bool := m.right && decide (m.beat ≠ m.done)
def Mst.fin (m : Mst) : Mst × Bool := if m.finC then (if m.done + 1 = m.beats then (⟨m.queue.drop 1, 0, 0, 0, false, false⟩, true) else (⟨m.queue, m.beat, m.done + 1, 0, false, m.broken⟩, true)) else (m, false)
def Mst.postC (m : Mst) (x : Req) : Bool := m.right && x.ok && decide (¬ (m.queue.length : Int) = 4)
def Mst.post (m : Mst) (x : Req) : Mst × Bool := if m.postC x then (⟨m.queue ++ [x], m.beat, m.done, m.tries, m.parted, m.broken⟩, true) else (m, false)
def Mst.fit (m : Mst) : Prop := m.queue.length ≤ 4 ∧ ∀ x, x ∈ m.queue → x.data.length ≤ 16
def Mst.fit5 (m : Mst) : Prop := m.queue.length ≤ 5 ∧ ∀ x, x ∈ m.queue → x.data.length ≤ 16
theorem Mst.fit.to5 {m : Mst} (h : m.fit) : m.fit5 := ⟨Nat.le_trans h.1 (by decide), h.2⟩
theorem Mst.fit5.small {m : Mst} (h : m.fit5) : m.small := ⟨Nat.le_trans h.1 (by decide), fun x hx => Nat.le_trans (h.2 x hx) (by decide)⟩
theorem Mst.fit.small {m : Mst} (h : m.fit) : m.small := h.to5.small
theorem Mst.fit.back {m : Mst} (h : m.fit) : m.back.1.fit := by
 unfold Mst.back
 split
 · exact h
 · exact h
theorem Mst.fit.fin {m : Mst} (h : m.fit) : m.fin.1.fit := by
 unfold Mst.fin
 split
 · split
   · exact ⟨by simp only [List.length_drop]; have := h.1; omega, fun x hx => h.2 x (List.mem_of_mem_drop hx)⟩
   · exact h
 · exact h
theorem Mst.fit.post {m : Mst} (h : m.fit) {x : Req} (hx : x.data.length ≤ 16) : (m.post x).1.fit := by
 unfold Mst.post
 split
 · rename_i hc
   unfold Mst.postC at hc
   simp only [Bool.and_eq_true, decide_eq_true_eq] at hc
   refine ⟨by simp only [List.length_append, List.length_cons, List.length_nil]; have := h.1; omega, fun y hy => ?_⟩
   rcases List.mem_append.1 hy with hy | hy
   · exact h.2 y hy
   · rw [List.mem_singleton.1 hy]; exact hx
 · exact h
def Mst.n (x : Mst) : List V := [.w (.slice none 0 0), .w (.int .i64 x.beat), .w (.int .i64 x.done), .w (.int .i64 x.tries), .w (.bool x.parted), .w (.bool x.broken)]
def Bus.mid (b : Bus) : List V := [.w (.int .i64 b.holder), .w (.int .i64 b.kept), .w (.int .i64 b.last), .w (.bool b.addr.live), .w (.int .i64 b.addr.who), .w (.int .i64 b.addr.num), .w (.bool b.addr.first), .w (.int .i64 b.addr.via), .w (.int .i64 b.addr.left), .w (.int .i64 b.addr.resp), .w (.bool b.addr.second), .w (.bool b.data.live), .w (.int .i64 b.data.who), .w (.int .i64 b.data.num), .w (.bool b.data.first), .w (.int .i64 b.data.via), .w (.int .i64 b.data.left), .w (.int .i64 b.data.resp), .w (.bool b.data.second)]
def Bus.o (b : Bus) : List V := [.ls 0 b.conf.masters.length, .w (.int .i64 b.conf.quantum), .w (.int .i64 b.conf.maxWait), .w (.int .i64 b.conf.maxRetry), .w (.int .i64 b.conf.maxSplit), .w (.int .i64 b.conf.lockMost), .w (.int .i64 b.now), .ls 1 b.ms.length, .w (.int .i64 b.arb.pos), .w (.int .i64 b.arb.credit), .ls 2 b.buckets.length, .ls 3 b.splits.length] ++ b.mid ++ [.ls 4 b.model.ram.length, .ls 5 b.model.dev.regs.length, .w (.int .i64 b.model.dev.timer), .ls 6 b.model.dev.fifo.length, .w (.int .i64 b.picks), .ls 7 b.log.length]
def Bus.n (b : Bus) : List V := [.sl 4 (b.conf.masters.map MConf.r), .w (.int .i64 b.conf.quantum), .w (.int .i64 b.conf.maxWait), .w (.int .i64 b.conf.maxRetry), .w (.int .i64 b.conf.maxSplit), .w (.int .i64 b.conf.lockMost), .w (.int .i64 b.now), .sl 6 (b.ms.map Mst.n), .w (.int .i64 b.arb.pos), .w (.int .i64 b.arb.credit), .sl 2 (b.buckets.map Bucket.r), .sl 1 (b.splits.map iR)] ++ b.mid ++ [.sl 1 (b.model.ram.map iR), .sl 1 (b.model.dev.regs.map iR), .w (.int .i64 b.model.dev.timer), .sl 1 (b.model.dev.fifo.map iR), .w (.int .i64 b.picks), .sl 7 (b.log.map Done.r)]
def Bus.rows (b : Bus) : List LB := [.arr 4 (b.conf.masters.map MConf.r), .arr 6 (b.ms.map Mst.n), .arr 2 (b.buckets.map Bucket.r), .arr 1 (b.splits.map iR), .arr 1 (b.model.ram.map iR), .arr 1 (b.model.dev.regs.map iR), .arr 1 (b.model.dev.fifo.map iR), .arr 7 (b.log.map Done.r)]
def Req.w (r : Req) (x : Value) : List V := [.w (.bool r.write), .w (.int .i64 r.addr), .w (.int .i64 r.size), .w (.int .i64 r.burst), .w (.bool r.lock), .raw x]
def one (a : Option Nat) (xs : List Int) : Mem := match a with
 | some ad => upd M0 ad (some ⟨xs.map (Value.int .i64), true, 1⟩)
 | none => M0
def sumQ : List Req → Int
 | [] => 0
 | r :: q => r.data.length + sumQ q
theorem sumQ_le (q : List Req) : sumQ q = (sumL Req.sz q : Nat) := by
 induction q with
 | nil => rfl
 | cons r q ih => rw [sumQ, sumL, ih]; simp [Req.sz]
def MB (k : Int) (m : Mst) : Prop := m.small ∧ m.queue.length ≤ 1048576 ∧ sumQ m.queue ≤ k
theorem MB.of {m : Mst} (h : m.sz ≤ 1048576) : MB (m.sz : Nat) m := ⟨Mst.small_of h, by unfold Mst.sz at h; omega, by rw [sumQ_le]; unfold Mst.sz; omega⟩
theorem MB.le {m : Mst} {k l : Int} (h : MB k m) (hk : k ≤ l) : MB l m := ⟨h.1, h.2.1, Int.le_trans h.2.2 hk⟩
theorem MB.q {m y : Mst} {k} (h : MB k m) (e : y.queue = m.queue) : MB k y := ⟨⟨by rw [e]; exact h.1.1, by rw [e]; exact h.1.2⟩, by rw [e]; exact h.2⟩
theorem sumQ_drop (q : List Req) : sumQ (q.drop 1) ≤ sumQ q := by
 cases q with
 | nil => exact Int.le_refl _
 | cons r q => simp only [List.drop_succ_cons, List.drop_zero, sumQ]; omega
theorem MB.drop {m y : Mst} {k} (h : MB k m) (e : y.queue = m.queue.drop 1) : MB k y :=
 ⟨⟨by rw [e, List.length_drop]; exact Nat.le_trans (Nat.sub_le _ _) h.1.1, by rw [e]; exact fun x hx => h.1.2 x (List.mem_of_mem_drop hx)⟩, by rw [e, List.length_drop]; exact Nat.le_trans (Nat.sub_le _ _) h.2.1, by rw [e]; exact Int.le_trans (sumQ_drop _) h.2.2⟩
theorem Vew.two {OL : Ob} {u u' w : V} (h : ∀ M', (∀ (i : Nat) D, OL[i]? = some D → sub D M') → ∀ x, RF M' u x → RF M' u' x) : Vew OL [u, w] [u', w] := fun M' hM' args hp => by
 obtain ⟨x, r, rfl, g1, g2⟩ := hp.uncons
 exact Pt.cons (h M' hM' x g1) g2
theorem c_187 (n : Int) (hn : -9223372036854775808 ≤ n ∧ n ≤ 9223372036854775807) : CV prg 187 [.w (.int .i64 n)] (fun res => res = .w (.string ⟨(Lib.itoa n).toArray⟩)) := by
 refine cv_in g187 (Eb [0] rfl (S_seq (s_rg (Ea (Ed rfl) (Ee (Ec (Eb [0] rfl (S_seq (S_seq (s_rg (Ea (Ed rfl) ?_)))))))))))
 refine Ea (o_eql rfl rfl) (Ee (Ec (Eb [0, 7] rfl ?_)))
 first | refine s_condD rfl ?_ ?_ | refine s_condB rfl ?_ ?_
 intro h1
 try rw [nnp] at h1
 refine S_seq (s_rg (Ea (Ed rfl) (Ee (Ec (Eb [2] rfl (s_ret (q_seqR (ret_leafR rfl rfl ?_))))))))
 rotate_left
 intro h1
 try rw [nnp] at h1
 refine s_skip (Ec (Eb [0] rfl (S_seq (s_rg (Ea (Ed rfl) (Ee (Ec (Eb [0, 3] rfl (S_seq (s_rg (Ea (Ed rfl) ?_)))))))))))
 refine Ea (o_lss rfl rfl) (Ea (Ed rfl) (Ee (Ec (Eb [0, 3, 4] rfl (S_seq (S_block (S_loop0 (ι := Int × List UInt8) (fun p => (-9223372036854775808 ≤ p.1 ∧ p.1 ≤ 9223372036854775807) ∧ restD p.1 ++ p.2 = Lib.decDigits n.natAbs) (fun p => [(0, .w (.int .i64 p.1)), (3, .w (.string ⟨(p.2).toArray⟩))]) (fun p => p.1.natAbs) (n, []) ⟨hn, dec_start (by assumption)⟩ rfl ⟨rfl, rfl, trivial⟩ (fun _ _ => rfl) rfl ?_)))))))
 rintro ⟨m, out⟩ hp
 obtain ⟨hm, hr⟩ := hp
 simp only at hm hr
 refine Eb [0, 3, 4] rfl ?_
 dsimp only
 refine S_seq (S_seq (s_rg (Ea (Ed rfl) (Ea (o_neq rfl rfl) (Ee (Ec (Eb [0, 3, 4, 11] rfl ?_)))))))
 first | refine s_condD rfl ?_ ?_ | refine s_condB rfl ?_ ?_
 intro h2
 try rw [nnp] at h2
 refine s_skip (Ec (Eb [0, 3, 4] rfl (S_block (S_seq (s_rg (Ea (Ed rfl) ?_))))))
 first | refine Ea (o_rem rfl rfl (by decide)) ?_ | refine Ea (o_rem rfl rfl (by omega)) ?_
 refine Ea (Ed rfl) (Ee (Ec (Eb [0, 3, 4, 5] rfl (S_seq (S_seq (s_rg (Ea (Ed rfl) (Ea (o_lss rfl rfl) (Ee (Ec (Eb [0, 3, 4, 5, 15] rfl ?_)))))))))))
 first | refine s_condD rfl ?_ ?_ | refine s_condB rfl ?_ ?_
 intro h3
 try rw [nnp] at h3
 refine s_rg (Ea (Ed rfl) (Ea (o_neg rfl) (Ea (Ed rfl) (Ee (Ec (Eb [0, 3, 4, 5] rfl (S_seq (s_rg (Ea (Ed rfl) (Ea (o_add rfl rfl) (Ea (o_cvi rfl) ?_)))))))))))
 refine Ea (o_bs rfl rfl rfl rfl) (Ea (o_cvbs1 rfl rfl (wrap_u8 _)) (Ea (Ed rfl) (Ea (o_adds rfl rfl (by have := dec_short hn hr; simp only [List.length_cons, List.length_nil]; omega)) (Ea (Ed rfl) (Ee (Ec (Eb [0, 3, 4] rfl (s_rg (Ea (Ed rfl) ?_)))))))))
 first | refine Ea (o_quo rfl rfl (by decide)) ?_ | refine Ea (o_quo rfl rfl (by omega)) ?_
 refine Ea (Ed rfl) (Ee (q_blkN (q_loopN ?_)))
 · have hm0 : ¬ m = 0 := by assumption
   first | (have hd := dig_neg hm (by assumption); have h9 := dec_round hm0 hm hr hd; exact ⟨(_, _), h9, natAbs_next hm0 hm, hasOf ⟨rfl, rfl, trivial⟩ rfl⟩) | (have hd := dig_pos (n := m) (by assumption); have h9 := dec_round hm0 hm hr hd; exact ⟨(_, _), h9, natAbs_next hm0 hm, hasOf ⟨rfl, rfl, trivial⟩ rfl⟩)
 intro h3
 try rw [nnp] at h3
 refine s_skip (Ec (Eb [0, 3, 4, 5] rfl (S_seq (s_rg (Ea (Ed rfl) (Ea (o_add rfl rfl) (Ea (o_cvi rfl) (Ea (o_bs rfl rfl rfl rfl) (Ea (o_cvbs1 rfl rfl (wrap_u8 _)) (Ea (Ed rfl) (Ea (o_adds rfl rfl (by have := dec_short hn hr; simp only [List.length_cons, List.length_nil]; omega)) ?_)))))))))))
 refine Ea (Ed rfl) (Ee (Ec (Eb [0, 3, 4] rfl (s_rg (Ea (Ed rfl) ?_)))))
 first | refine Ea (o_quo rfl rfl (by decide)) ?_ | refine Ea (o_quo rfl rfl (by omega)) ?_
 refine Ea (Ed rfl) (Ee (q_blkN (q_loopN ?_)))
 · have hm0 : ¬ m = 0 := by assumption
   first | (have hd := dig_neg hm (by assumption); have h9 := dec_round hm0 hm hr hd; exact ⟨(_, _), h9, natAbs_next hm0 hm, hasOf ⟨rfl, rfl, trivial⟩ rfl⟩) | (have hd := dig_pos (n := m) (by assumption); have h9 := dec_round hm0 hm hr hd; exact ⟨(_, _), h9, natAbs_next hm0 hm, hasOf ⟨rfl, rfl, trivial⟩ rfl⟩)
 intro h2
 try rw [nnp] at h2
 refine s_exit (q_seqX (q_loopX (q_blkH (Ec (Eb [3, 4] rfl (S_seq (S_seq (s_rg (Ea (Ed rfl) (Ee (Ec ?_)))))))))))
 refine Eb [3, 27] rfl ?_
 first | refine s_condD rfl ?_ ?_ | refine s_condB rfl ?_ ?_
 intro h4
 try rw [nnp] at h4
 refine S_seq (s_rg (Ea (Ed rfl) (Ea (o_adds rfl rfl (by have := dec_short hn hr; simp only [List.length_cons, List.length_nil]; omega)) (Ea (Ed rfl) (Ee (Ec (Eb [2] rfl (s_ret (q_seqR (ret_leafR rfl rfl ?_))))))))))
 rotate_left
 intro h4
 try rw [nnp] at h4
 refine s_skip (Ec (Eb [3] rfl (S_seq (s_rg (Ea (Ed rfl) (Ea (Ed rfl) (Ee (Ec (Eb [2] rfl (s_ret (ret_leafR rfl rfl ?_)))))))))))
 rotate_left
 all_goals
  first | exact dec_leaf2 hr (by assumption) (by assumption) | exact dec_leaf3 hr (by assumption) (by assumption) | exact dec_leaf1 (by assumption)
theorem c_206 (s : List UInt8) : CV prg 206 [.w (.string ⟨(s).toArray⟩)] (fun res => res = .tup [.w (.int .i64 (readD s).1), .w (.bool (readD s).2)]) := by
 have hk0 := scan_take (l := s) (i := 11) (by omega)
 refine cv_in g206 (Eb [0] rfl (S_seq (s_rg (Ea (Ed rfl) (Ea (Ed rfl) (Ee (Ec (Eb [0] rfl (S_seq (s_rg (Ea (Ed rfl) ?_)))))))))))
 refine Ee (Ec (Eb [0, 4] rfl (S_seq (s_rg (Ea (Ed rfl) (Ee (Ec (Eb [0, 4, 5] rfl (S_seq (S_seq (s_rg ?_)))))))))))
 refine Ea (Ed rfl) (Ee (Ec (Eb [0, 4, 5, 6] rfl (S_block (S_loop0 (ι := Nat) (fun i => i ≤ s.length ∧ i ≤ 11) (fun i => [(4, .w (.int .i64 (scanN (s.take i)))), (5, .w (.int .i64 (scanK (s.take i)))), (6, .w (.int .i64 (i : Int)))]) (fun i => 11 - i) 0 ⟨Nat.zero_le _, by decide⟩ rfl ⟨rfl, rfl, rfl, trivial⟩ (fun _ _ => rfl) rfl ?_)))))
 intro i hi
 have hk1 := scan_take (l := s) hi.2
 have hk2 := scanK_take (l := s) hi.2
 obtain ⟨x0, hx0⟩ : ∃ x, i < s.length → s[i]? = some x := by
  by_cases h : i < s.length
  · exact ⟨s[i], fun _ => List.getElem?_eq_getElem h⟩
  · exact ⟨0, fun h2 => absurd h2 h⟩
 refine Eb [0, 4, 5, 6] rfl (S_seq (S_seq (s_rg (Ea (Ed rfl) (Ea (Ed rfl) (Ea (o_lenb rfl) (Ea (o_lss rfl rfl) (Ea (Ed rfl) ?_))))))))
 first | refine s_gDT rfl ?_ ?_ | refine s_gB rfl ?_ ?_
 intro h1
 try rw [nnp] at h1
 refine Ea (Ed rfl) (s_gT rfl (Ea (o_lss rfl rfl) (Ea (o_pickT rfl rfl) (Ee (Ec (Eb [0, 4, 5, 6, 12, 13, 14] rfl ?_))))))
 first | refine s_condD rfl ?_ ?_ | refine s_condB rfl ?_ ?_
 intro h2
 try rw [nnp] at h2
 refine s_skip (Ec (Eb [0, 4, 5, 6, 12, 13] rfl (S_seq (S_block (S_seq (s_rg (Ea (Ed rfl) (Ea (Ed rfl) (s_ixM rfl rfl (by omega) ?_)))))))))
 intro y3 e3
 first | (simp only [Int.toNat_natCast] at e3; obtain rfl := Option.some.inj ((hx0 (by omega)).symm.trans e3)) | skip
 refine Ea (o_geq rfl rfl) (Ea (Ed rfl) ?_)
 first | refine s_gDT rfl ?_ ?_ | refine s_gB rfl ?_ ?_
 intro h4
 try rw [nnp] at h4
 refine Ea (Ed rfl) (s_gT rfl (Ea (Ed rfl) (s_gT rfl (s_ixM rfl rfl (by omega) ?_))))
 intro y5 e5
 first | (simp only [Int.toNat_natCast] at e5; obtain rfl := Option.some.inj ((hx0 (by omega)).symm.trans e5)) | skip
 refine s_gT rfl (Ea (o_leq rfl rfl) (Ea (o_pickT rfl rfl) (Ee (Ec (Eb [0, 4, 5, 6, 12, 13, 22, 23, 24, 25, 26] rfl ?_)))))
 first | refine s_condD rfl ?_ ?_ | refine s_condB rfl ?_ ?_
 intro h6
 try rw [nnp] at h6
 refine S_seq (s_rg (Ea (Ed rfl) (Ea (o_mul rfl rfl) (Ea (Ed rfl) (Ea (Ed rfl) (s_ixM rfl rfl (by omega) ?_))))))
 intro y7 e7
 first | (simp only [Int.toNat_natCast] at e7; obtain rfl := Option.some.inj ((hx0 (by omega)).symm.trans e7)) | skip
 refine Ea (o_sub rfl rfl) (Ea (o_cvi rfl) (Ea (o_add rfl rfl) (Ea (Ed rfl) (Ee (Ec (Eb [0, 4, 5, 6, 12, 13, 22, 23, 24, 25] rfl (s_rg (Ea (Ed rfl) (Ea (o_add rfl rfl) (Ea (Ed rfl) (Ee ?_)))))))))))
 refine q_blkN (Ec (Eb [0, 4, 5, 6, 12, 13, 22, 23, 24, 25] rfl (s_rg (Ea (Ed rfl) (Ea (o_add rfl rfl) (Ea (Ed rfl) (Ee (q_loopN ?_))))))))
 · have hi2 : i < s.length := by omega
   obtain ⟨q1, q2⟩ := scan_next (hx0 hi2)
   refine ⟨i + 1, ⟨by omega, by omega⟩, by omega, hasOf ⟨?_, ?_, ?_, trivial⟩ rfl⟩
   · rw [q1]
     first | (refine congrArg (fun b => some (V.w (.int .i64 b))) (scan_yes hk1 ?_ ?_) <;> assumption) | (refine congrArg (fun b => some (V.w (.int .i64 b))) (scan_no ?_); omega)
   · rw [q2]
     first | (refine congrArg (fun b => some (V.w (.int .i64 b))) (scanK_yes hk2 ?_ ?_) <;> assumption) | (refine congrArg (fun b => some (V.w (.int .i64 b))) (scanK_no ?_); omega)
   · exact congrArg (fun b => some (V.w (.int .i64 b))) (wrap_in _ (by omega))
 intro h6
 try rw [nnp] at h6
 refine s_skip (q_blkN (Ec (Eb [0, 4, 5, 6, 12, 13, 22, 23, 24, 25] rfl (s_rg (Ea (Ed rfl) (Ea (o_add rfl rfl) (Ea (Ed rfl) (Ee (q_loopN ?_)))))))))
 · have hi2 : i < s.length := by omega
   obtain ⟨q1, q2⟩ := scan_next (hx0 hi2)
   refine ⟨i + 1, ⟨by omega, by omega⟩, by omega, hasOf ⟨?_, ?_, ?_, trivial⟩ rfl⟩
   · rw [q1]
     first | (refine congrArg (fun b => some (V.w (.int .i64 b))) (scan_yes hk1 ?_ ?_) <;> assumption) | (refine congrArg (fun b => some (V.w (.int .i64 b))) (scan_no ?_); omega)
   · rw [q2]
     first | (refine congrArg (fun b => some (V.w (.int .i64 b))) (scanK_yes hk2 ?_ ?_) <;> assumption) | (refine congrArg (fun b => some (V.w (.int .i64 b))) (scanK_no ?_); omega)
   · exact congrArg (fun b => some (V.w (.int .i64 b))) (wrap_in _ (by omega))
 intro h4
 try rw [nnp] at h4
 refine s_gF rfl (s_gF rfl (s_gF rfl (s_gF rfl (Ea (o_pickF rfl rfl) (Ee (Ec (Eb [0, 4, 5, 6, 12, 13, 22, 23, 24, 25, 26] rfl (s_condF rfl (s_skip (q_blkN (Ec ?_)))))))))))
 refine Eb [0, 4, 5, 6, 12, 13, 22, 23, 24, 25] rfl (s_rg (Ea (Ed rfl) (Ea (o_add rfl rfl) (Ea (Ed rfl) (Ee (q_loopN ?_))))))
 · have hi2 : i < s.length := by omega
   obtain ⟨q1, q2⟩ := scan_next (hx0 hi2)
   refine ⟨i + 1, ⟨by omega, by omega⟩, by omega, hasOf ⟨?_, ?_, ?_, trivial⟩ rfl⟩
   · rw [q1]
     first | (refine congrArg (fun b => some (V.w (.int .i64 b))) (scan_yes hk1 ?_ ?_) <;> assumption) | (refine congrArg (fun b => some (V.w (.int .i64 b))) (scan_no ?_); omega)
   · rw [q2]
     first | (refine congrArg (fun b => some (V.w (.int .i64 b))) (scanK_yes hk2 ?_ ?_) <;> assumption) | (refine congrArg (fun b => some (V.w (.int .i64 b))) (scanK_no ?_); omega)
   · exact congrArg (fun b => some (V.w (.int .i64 b))) (wrap_in _ (by omega))
 intro h2
 try rw [nnp] at h2
 refine s_exit (q_seqX (q_loopX (q_blkH (Ec (Eb [0, 4, 5] rfl (S_seq (S_seq (s_rg ?_))))))))
 have ht := rd_take hi (by omega)
 rw [ht]
 refine Ea (Ed rfl) (Ea (o_lenb rfl) (Ea (o_gtr rfl rfl) (Ea (Ed rfl) ?_)))
 first | refine s_gDT rfl ?_ ?_ | refine s_gB rfl ?_ ?_
 intro h8
 try rw [nnp] at h8
 refine Ea (Ed rfl) (s_gT rfl (s_ixM rfl rfl (by omega) ?_))
 intro y9 e9
 first | (simp only [Int.toNat_natCast] at e9; obtain rfl := Option.some.inj ((hx0 (by omega)).symm.trans e9)) | skip
 refine s_gT rfl (Ea (o_eql rfl rfl) (Ea (o_pickT rfl rfl) (Ee (Ec (Eb [0, 4, 5, 44] rfl ?_)))))
 first | refine s_condD rfl ?_ ?_ | refine s_condB rfl ?_ ?_
 intro h10
 try rw [nnp] at h10
 refine s_rg (Ea (Ed rfl) (Ea (o_neg rfl) ?_))
 rw [rd_neg s]
 refine Ea (Ed rfl) (Ee (Ec (Eb [0, 4, 5] rfl (S_seq (S_seq (s_rg (Ea (Ed rfl) (Ea (o_gtr rfl rfl) (Ea (Ed rfl) ?_)))))))))
 first | refine s_gDF rfl ?_ ?_ | refine s_gB rfl ?_ ?_
 intro h11
 try rw [nnp] at h11
 refine Ea (Ed rfl) (s_gT rfl (Ea (o_lenb rfl) (s_gT rfl (Ea (o_gtr rfl rfl) (Ea (o_pickF rfl rfl) (Ea (Ed rfl) ?_))))))
 first | refine s_gDF rfl ?_ ?_ | refine s_gB rfl ?_ ?_
 intro h12
 try rw [nnp] at h12
 refine Ea (Ed rfl) (s_gT rfl (s_call rfl rfl (c_187 _ (by omega)) (s_gT rfl (Ea (Ed rfl) (s_gT rfl (Ea (o_neqs rfl rfl) (Ea (o_pickF rfl rfl) (Ee (Ec (Eb [4, 59] rfl ?_))))))))))
 first | refine s_condD rfl ?_ ?_ | refine s_condB rfl ?_ ?_
 intro h13
 try rw [nnp] at h13
 refine S_seq (s_rg (Ea (Ed rfl) (Ea (Ed rfl) (Ee (Ec (Eb [2, 3] rfl (s_ret (q_seqR (ret_leafR rfl rfl ?_)))))))))
 rotate_left
 intro h13
 try rw [nnp] at h13
 refine s_skip (Ec (Eb [4] rfl (S_seq (s_rg (Ea (Ed rfl) (Ea (Ed rfl) (Ea (Ed rfl) (Ee (Ec (Eb [2, 3] rfl (s_ret ?_)))))))))))
 refine ret_leafR rfl rfl ?_
 rotate_left
 intro h12
 try rw [nnp] at h12
 refine s_gF rfl (s_gF rfl (s_gF rfl (s_gF rfl (Ea (o_pickT rfl rfl) (Ee (Ec (Eb [4, 59] rfl (s_condT rfl (S_seq (s_rg (Ea (Ed rfl) ?_)))))))))))
 refine Ea (Ed rfl) (Ee (Ec (Eb [2, 3] rfl (s_ret (q_seqR (ret_leafR rfl rfl ?_))))))
 rotate_left
 intro h11
 try rw [nnp] at h11
 refine s_gF rfl (s_gF rfl (s_gF rfl (Ea (o_pickT rfl rfl) (Ea (Ed rfl) (s_gF rfl (s_gF rfl (s_gF rfl (s_gF rfl (Ea (o_pickT rfl rfl) (Ee (Ec ?_)))))))))))
 refine Eb [4, 59] rfl (s_condT rfl (S_seq (s_rg (Ea (Ed rfl) (Ea (Ed rfl) (Ee (Ec (Eb [2, 3] rfl (s_ret (q_seqR (ret_leafR rfl rfl ?_)))))))))))
 rotate_left
 intro h10
 try rw [nnp] at h10
 refine s_skip (Ec (Eb [0, 4, 5] rfl (S_seq (S_seq (s_rg (Ea (Ed rfl) (Ea (o_gtr rfl rfl) (Ea (Ed rfl) ?_))))))))
 first | refine s_gDF rfl ?_ ?_ | refine s_gB rfl ?_ ?_
 intro h14
 try rw [nnp] at h14
 refine Ea (Ed rfl) (s_gT rfl (Ea (o_lenb rfl) (s_gT rfl (Ea (o_gtr rfl rfl) (Ea (o_pickF rfl rfl) (Ea (Ed rfl) ?_))))))
 first | refine s_gDF rfl ?_ ?_ | refine s_gB rfl ?_ ?_
 intro h15
 try rw [nnp] at h15
 refine Ea (Ed rfl) (s_gT rfl (s_call rfl rfl (c_187 _ (by omega)) (s_gT rfl (Ea (Ed rfl) (s_gT rfl (Ea (o_neqs rfl rfl) (Ea (o_pickF rfl rfl) (Ee (Ec (Eb [4, 59] rfl ?_))))))))))
 first | refine s_condD rfl ?_ ?_ | refine s_condB rfl ?_ ?_
 intro h16
 try rw [nnp] at h16
 refine S_seq (s_rg (Ea (Ed rfl) (Ea (Ed rfl) (Ee (Ec (Eb [2, 3] rfl (s_ret (q_seqR (ret_leafR rfl rfl ?_)))))))))
 rotate_left
 intro h16
 try rw [nnp] at h16
 refine s_skip (Ec (Eb [4] rfl (S_seq (s_rg (Ea (Ed rfl) (Ea (Ed rfl) (Ea (Ed rfl) (Ee (Ec (Eb [2, 3] rfl (s_ret ?_)))))))))))
 refine ret_leafR rfl rfl ?_
 rotate_left
 intro h15
 try rw [nnp] at h15
 refine s_gF rfl (s_gF rfl (s_gF rfl (s_gF rfl (Ea (o_pickT rfl rfl) (Ee (Ec (Eb [4, 59] rfl (s_condT rfl (S_seq (s_rg (Ea (Ed rfl) ?_)))))))))))
 refine Ea (Ed rfl) (Ee (Ec (Eb [2, 3] rfl (s_ret (q_seqR (ret_leafR rfl rfl ?_))))))
 rotate_left
 intro h14
 try rw [nnp] at h14
 refine s_gF rfl (s_gF rfl (s_gF rfl (Ea (o_pickT rfl rfl) (Ea (Ed rfl) (s_gF rfl (s_gF rfl (s_gF rfl (s_gF rfl (Ea (o_pickT rfl rfl) (Ee (Ec ?_)))))))))))
 refine Eb [4, 59] rfl (s_condT rfl (S_seq (s_rg (Ea (Ed rfl) (Ea (Ed rfl) (Ee (Ec (Eb [2, 3] rfl (s_ret (q_seqR (ret_leafR rfl rfl ?_)))))))))))
 rotate_left
 intro h8
 try rw [nnp] at h8
 refine s_gF rfl (s_gF rfl (s_gF rfl (Ea (o_pickF rfl rfl) (Ee (Ec (Eb [0, 4, 5, 44] rfl (s_condF rfl (s_skip (Ec (Eb [0, 4, 5] rfl (S_seq ?_)))))))))))
 refine S_seq (s_rg (Ea (Ed rfl) (Ea (o_gtr rfl rfl) (Ea (Ed rfl) ?_))))
 first | refine s_gDF rfl ?_ ?_ | refine s_gB rfl ?_ ?_
 intro h17
 try rw [nnp] at h17
 refine Ea (Ed rfl) (s_gT rfl (Ea (o_lenb rfl) (s_gT rfl (Ea (o_gtr rfl rfl) (Ea (o_pickF rfl rfl) (Ea (Ed rfl) ?_))))))
 first | refine s_gDF rfl ?_ ?_ | refine s_gB rfl ?_ ?_
 intro h18
 try rw [nnp] at h18
 refine Ea (Ed rfl) (s_gT rfl (s_call rfl rfl (c_187 _ (by omega)) (s_gT rfl (Ea (Ed rfl) (s_gT rfl (Ea (o_neqs rfl rfl) (Ea (o_pickF rfl rfl) (Ee (Ec (Eb [4, 59] rfl ?_))))))))))
 first | refine s_condD rfl ?_ ?_ | refine s_condB rfl ?_ ?_
 intro h19
 try rw [nnp] at h19
 refine S_seq (s_rg (Ea (Ed rfl) (Ea (Ed rfl) (Ee (Ec (Eb [2, 3] rfl (s_ret (q_seqR (ret_leafR rfl rfl ?_)))))))))
 rotate_left
 intro h19
 try rw [nnp] at h19
 refine s_skip (Ec (Eb [4] rfl (S_seq (s_rg (Ea (Ed rfl) (Ea (Ed rfl) (Ea (Ed rfl) (Ee (Ec (Eb [2, 3] rfl (s_ret ?_)))))))))))
 refine ret_leafR rfl rfl ?_
 rotate_left
 intro h18
 try rw [nnp] at h18
 refine s_gF rfl (s_gF rfl (s_gF rfl (s_gF rfl (Ea (o_pickT rfl rfl) (Ee (Ec (Eb [4, 59] rfl (s_condT rfl (S_seq (s_rg (Ea (Ed rfl) ?_)))))))))))
 refine Ea (Ed rfl) (Ee (Ec (Eb [2, 3] rfl (s_ret (q_seqR (ret_leafR rfl rfl ?_))))))
 rotate_left
 intro h17
 try rw [nnp] at h17
 refine s_gF rfl (s_gF rfl (s_gF rfl (Ea (o_pickT rfl rfl) (Ea (Ed rfl) (s_gF rfl (s_gF rfl (s_gF rfl (s_gF rfl (Ea (o_pickT rfl rfl) (Ee (Ec ?_)))))))))))
 refine Eb [4, 59] rfl (s_condT rfl (S_seq (s_rg (Ea (Ed rfl) (Ea (Ed rfl) (Ee (Ec (Eb [2, 3] rfl (s_ret (q_seqR (ret_leafR rfl rfl ?_)))))))))))
 rotate_left
 intro h1
 try rw [nnp] at h1
 refine s_gF rfl (s_gF rfl (Ea (o_pickF rfl rfl) (Ee (Ec (Eb [0, 4, 5, 6, 12, 13, 14] rfl (s_condF rfl (s_exit (q_seqX (q_loopX (q_blkH (Ec ?_)))))))))))
 refine Eb [0, 4, 5] rfl (S_seq (S_seq (s_rg ?_)))
 have ht := rd_take hi (by omega)
 rw [ht]
 refine Ea (Ed rfl) (Ea (o_lenb rfl) (Ea (o_gtr rfl rfl) (Ea (Ed rfl) ?_)))
 first | refine s_gDT rfl ?_ ?_ | refine s_gB rfl ?_ ?_
 intro h20
 try rw [nnp] at h20
 refine Ea (Ed rfl) (s_gT rfl (s_ixM rfl rfl (by omega) ?_))
 intro y21 e21
 first | (simp only [Int.toNat_natCast] at e21; obtain rfl := Option.some.inj ((hx0 (by omega)).symm.trans e21)) | skip
 refine s_gT rfl (Ea (o_eql rfl rfl) (Ea (o_pickT rfl rfl) (Ee (Ec (Eb [0, 4, 5, 44] rfl ?_)))))
 first | refine s_condD rfl ?_ ?_ | refine s_condB rfl ?_ ?_
 intro h22
 try rw [nnp] at h22
 refine s_rg (Ea (Ed rfl) (Ea (o_neg rfl) ?_))
 rw [rd_neg s]
 refine Ea (Ed rfl) (Ee (Ec (Eb [0, 4, 5] rfl (S_seq (S_seq (s_rg (Ea (Ed rfl) (Ea (o_gtr rfl rfl) (Ea (Ed rfl) ?_)))))))))
 first | refine s_gDF rfl ?_ ?_ | refine s_gB rfl ?_ ?_
 intro h23
 try rw [nnp] at h23
 refine Ea (Ed rfl) (s_gT rfl (Ea (o_lenb rfl) (s_gT rfl (Ea (o_gtr rfl rfl) (Ea (o_pickF rfl rfl) (Ea (Ed rfl) ?_))))))
 first | refine s_gDF rfl ?_ ?_ | refine s_gB rfl ?_ ?_
 intro h24
 try rw [nnp] at h24
 refine Ea (Ed rfl) (s_gT rfl (s_call rfl rfl (c_187 _ (by omega)) (s_gT rfl (Ea (Ed rfl) (s_gT rfl (Ea (o_neqs rfl rfl) (Ea (o_pickF rfl rfl) (Ee (Ec (Eb [4, 59] rfl ?_))))))))))
 first | refine s_condD rfl ?_ ?_ | refine s_condB rfl ?_ ?_
 intro h25
 try rw [nnp] at h25
 refine S_seq (s_rg (Ea (Ed rfl) (Ea (Ed rfl) (Ee (Ec (Eb [2, 3] rfl (s_ret (q_seqR (ret_leafR rfl rfl ?_)))))))))
 rotate_left
 intro h25
 try rw [nnp] at h25
 refine s_skip (Ec (Eb [4] rfl (S_seq (s_rg (Ea (Ed rfl) (Ea (Ed rfl) (Ea (Ed rfl) (Ee (Ec (Eb [2, 3] rfl (s_ret ?_)))))))))))
 refine ret_leafR rfl rfl ?_
 rotate_left
 intro h24
 try rw [nnp] at h24
 refine s_gF rfl (s_gF rfl (s_gF rfl (s_gF rfl (Ea (o_pickT rfl rfl) (Ee (Ec (Eb [4, 59] rfl (s_condT rfl (S_seq (s_rg (Ea (Ed rfl) ?_)))))))))))
 refine Ea (Ed rfl) (Ee (Ec (Eb [2, 3] rfl (s_ret (q_seqR (ret_leafR rfl rfl ?_))))))
 rotate_left
 intro h23
 try rw [nnp] at h23
 refine s_gF rfl (s_gF rfl (s_gF rfl (Ea (o_pickT rfl rfl) (Ea (Ed rfl) (s_gF rfl (s_gF rfl (s_gF rfl (s_gF rfl (Ea (o_pickT rfl rfl) (Ee (Ec ?_)))))))))))
 refine Eb [4, 59] rfl (s_condT rfl (S_seq (s_rg (Ea (Ed rfl) (Ea (Ed rfl) (Ee (Ec (Eb [2, 3] rfl (s_ret (q_seqR (ret_leafR rfl rfl ?_)))))))))))
 rotate_left
 intro h22
 try rw [nnp] at h22
 refine s_skip (Ec (Eb [0, 4, 5] rfl (S_seq (S_seq (s_rg (Ea (Ed rfl) (Ea (o_gtr rfl rfl) (Ea (Ed rfl) ?_))))))))
 first | refine s_gDF rfl ?_ ?_ | refine s_gB rfl ?_ ?_
 intro h26
 try rw [nnp] at h26
 refine Ea (Ed rfl) (s_gT rfl (Ea (o_lenb rfl) (s_gT rfl (Ea (o_gtr rfl rfl) (Ea (o_pickF rfl rfl) (Ea (Ed rfl) ?_))))))
 first | refine s_gDF rfl ?_ ?_ | refine s_gB rfl ?_ ?_
 intro h27
 try rw [nnp] at h27
 refine Ea (Ed rfl) (s_gT rfl (s_call rfl rfl (c_187 _ (by omega)) (s_gT rfl (Ea (Ed rfl) (s_gT rfl (Ea (o_neqs rfl rfl) (Ea (o_pickF rfl rfl) (Ee (Ec (Eb [4, 59] rfl ?_))))))))))
 first | refine s_condD rfl ?_ ?_ | refine s_condB rfl ?_ ?_
 intro h28
 try rw [nnp] at h28
 refine S_seq (s_rg (Ea (Ed rfl) (Ea (Ed rfl) (Ee (Ec (Eb [2, 3] rfl (s_ret (q_seqR (ret_leafR rfl rfl ?_)))))))))
 rotate_left
 intro h28
 try rw [nnp] at h28
 refine s_skip (Ec (Eb [4] rfl (S_seq (s_rg (Ea (Ed rfl) (Ea (Ed rfl) (Ea (Ed rfl) (Ee (Ec (Eb [2, 3] rfl (s_ret ?_)))))))))))
 refine ret_leafR rfl rfl ?_
 rotate_left
 intro h27
 try rw [nnp] at h27
 refine s_gF rfl (s_gF rfl (s_gF rfl (s_gF rfl (Ea (o_pickT rfl rfl) (Ee (Ec (Eb [4, 59] rfl (s_condT rfl (S_seq (s_rg (Ea (Ed rfl) ?_)))))))))))
 refine Ea (Ed rfl) (Ee (Ec (Eb [2, 3] rfl (s_ret (q_seqR (ret_leafR rfl rfl ?_))))))
 rotate_left
 intro h26
 try rw [nnp] at h26
 refine s_gF rfl (s_gF rfl (s_gF rfl (Ea (o_pickT rfl rfl) (Ea (Ed rfl) (s_gF rfl (s_gF rfl (s_gF rfl (s_gF rfl (Ea (o_pickT rfl rfl) (Ee (Ec ?_)))))))))))
 refine Eb [4, 59] rfl (s_condT rfl (S_seq (s_rg (Ea (Ed rfl) (Ea (Ed rfl) (Ee (Ec (Eb [2, 3] rfl (s_ret (q_seqR (ret_leafR rfl rfl ?_)))))))))))
 rotate_left
 intro h20
 try rw [nnp] at h20
 refine s_gF rfl (s_gF rfl (s_gF rfl (Ea (o_pickF rfl rfl) (Ee (Ec (Eb [0, 4, 5, 44] rfl (s_condF rfl (s_skip (Ec (Eb [0, 4, 5] rfl (S_seq ?_)))))))))))
 refine S_seq (s_rg (Ea (Ed rfl) (Ea (o_gtr rfl rfl) (Ea (Ed rfl) ?_))))
 first | refine s_gDF rfl ?_ ?_ | refine s_gB rfl ?_ ?_
 intro h29
 try rw [nnp] at h29
 refine Ea (Ed rfl) (s_gT rfl (Ea (o_lenb rfl) (s_gT rfl (Ea (o_gtr rfl rfl) (Ea (o_pickF rfl rfl) (Ea (Ed rfl) ?_))))))
 first | refine s_gDF rfl ?_ ?_ | refine s_gB rfl ?_ ?_
 intro h30
 try rw [nnp] at h30
 refine Ea (Ed rfl) (s_gT rfl (s_call rfl rfl (c_187 _ (by omega)) (s_gT rfl (Ea (Ed rfl) (s_gT rfl (Ea (o_neqs rfl rfl) (Ea (o_pickF rfl rfl) (Ee (Ec (Eb [4, 59] rfl ?_))))))))))
 first | refine s_condD rfl ?_ ?_ | refine s_condB rfl ?_ ?_
 intro h31
 try rw [nnp] at h31
 refine S_seq (s_rg (Ea (Ed rfl) (Ea (Ed rfl) (Ee (Ec (Eb [2, 3] rfl (s_ret (q_seqR (ret_leafR rfl rfl ?_)))))))))
 rotate_left
 intro h31
 try rw [nnp] at h31
 refine s_skip (Ec (Eb [4] rfl (S_seq (s_rg (Ea (Ed rfl) (Ea (Ed rfl) (Ea (Ed rfl) (Ee (Ec (Eb [2, 3] rfl (s_ret ?_)))))))))))
 refine ret_leafR rfl rfl ?_
 rotate_left
 intro h30
 try rw [nnp] at h30
 refine s_gF rfl (s_gF rfl (s_gF rfl (s_gF rfl (Ea (o_pickT rfl rfl) (Ee (Ec (Eb [4, 59] rfl (s_condT rfl (S_seq (s_rg (Ea (Ed rfl) ?_)))))))))))
 refine Ea (Ed rfl) (Ee (Ec (Eb [2, 3] rfl (s_ret (q_seqR (ret_leafR rfl rfl ?_))))))
 rotate_left
 intro h29
 try rw [nnp] at h29
 refine s_gF rfl (s_gF rfl (s_gF rfl (Ea (o_pickT rfl rfl) (Ea (Ed rfl) (s_gF rfl (s_gF rfl (s_gF rfl (s_gF rfl (Ea (o_pickT rfl rfl) (Ee (Ec ?_)))))))))))
 refine Eb [4, 59] rfl (s_condT rfl (S_seq (s_rg (Ea (Ed rfl) (Ea (Ed rfl) (Ee (Ec (Eb [2, 3] rfl (s_ret (q_seqR (ret_leafR rfl rfl ?_)))))))))))
 rotate_left
 all_goals
  first | (refine rd_k ?_; assumption) | (refine rd_l ?_; assumption) | (apply rd_g; apply rd_A; assumption; assumption; assumption) | (apply rd_g; apply rd_B; assumption; assumption; assumption) | (apply rd_g; apply rd_C; assumption; assumption) | (apply rd_t; apply rd_A; assumption; assumption; assumption; assumption; assumption) | (apply rd_t; apply rd_B; assumption; assumption; assumption; assumption; assumption) | (apply rd_t; apply rd_C; assumption; assumption; assumption; assumption)
theorem c_206n (s : List UInt8) : CV prg 206 [.w (.string ⟨s.toArray⟩)] (fun res => res = .tup [.w (.int .i64 (numN s 9).1), .w (.bool (numN s 9).2)]) := by
 rw [← readD_eq]; exact c_206 s
theorem c_63 (s : List UInt8) (hs : s.length ≤ 140737488355328) : CV prg 63 [.w (.string ⟨(s).toArray⟩)] (fun res => res = .tup [.w (.int .i64 (numN s 9).1), .w (.bool (numN s 9).2)]) := by
 refine cv_in g63 (Eb [0] rfl (S_seq (s_rg (Ea (Ed rfl) (Ea (Ed rfl) (Ee (Ec (Eb [0] rfl (S_seq (s_rg (Ea (Ed rfl) ?_)))))))))))
 refine s_call rfl rfl (cn_408 s 9 hs) (Ea (o_ext rfl rfl) (Ea (o_ext rfl rfl) (Ea (Ed rfl) (Ea (Ed rfl) (Ee (Ec (Eb [2, 3] rfl (s_ret (ret_leafR rfl rfl ?_)))))))))
 rotate_left
 all_goals
  rfl
theorem c_114 (s : List UInt8) : CV prg 114 [.w (.string ⟨(s).toArray⟩)] (fun res => res = .w (.bool true)) := by
 refine cv_in g114 (Eb [0] rfl (S_seq (s_rg (Ea (Ed rfl) (Ee (Ec (Eb [0] rfl (S_seq (S_seq (s_rg (Ea (Ed rfl) ?_)))))))))))
 refine Ea (o_lenb rfl) (Ea (o_gtr rfl rfl) (Ee (Ec (Eb [0, 9] rfl ?_))))
 first | refine s_condD rfl ?_ ?_ | refine s_condB rfl ?_ ?_
 intro h1
 try rw [nnp] at h1
 refine S_seq (s_rg (Ea (Ed rfl) (Ee (Ec (Eb [2] rfl (s_ret (q_seqR (ret_leafBR rfl rfl ?_))))))))
 rotate_left
 intro h1
 try rw [nnp] at h1
 refine s_skip (Ec (Eb [0] rfl (S_seq (s_rg (Ea (Ed rfl) (s_call rfl rfl (c_206n s) (Ea (Ed rfl) (Ea (o_ext rfl rfl) (Ea (o_ext rfl rfl) (Ea (Ed rfl) (Ea (Ed rfl) ?_)))))))))))
 refine Ee (Ec (Eb [0, 3, 4] rfl (S_seq (s_rg (Ea (Ed rfl) (s_call rfl rfl (c_63 s (by omega)) (Ea (Ed rfl) (Ea (o_ext rfl rfl) (Ea (o_ext rfl rfl) (Ea (Ed rfl) (Ea (Ed rfl) ?_)))))))))))
 refine Ee (Ec (Eb [3, 4, 5, 6] rfl (S_seq (S_seq (s_rg (Ea (Ed rfl) (Ea (Ed rfl) (Ea (o_neq rfl rfl) (Ea (Ed rfl) ?_)))))))))
 first | refine s_gDF rfl ?_ ?_ | refine s_gB rfl ?_ ?_
 intro h2
 try rw [nnp] at h2
 refine Ea (Ed rfl) (s_gT rfl (Ea (Ed rfl) (s_gT rfl (Ea (o_eqb rfl rfl) (Ea (o_pickF rfl rfl) (Ee (Ec (Eb [27] rfl ?_))))))))
 first | refine s_condNB rfl ?_ ?_ | refine s_condB rfl ?_ ?_
 intro h3
 try rw [nnp] at h3
 refine S_seq (s_rg (Ea (Ed rfl) (Ee (Ec (Eb [2] rfl (s_ret (q_seqR (ret_leafBR rfl rfl ?_))))))))
 rotate_left
 intro h3
 try rw [nnp] at h3
 refine s_skip (Ec (Eb [] rfl (S_seq (s_rg (Ea (Ed rfl) (Ee (Ec (Eb [2] rfl (s_ret (ret_leafBR rfl rfl ?_))))))))))
 rotate_left
 intro h2
 try rw [nnp] at h2
 refine s_gF rfl (s_gF rfl (s_gF rfl (Ea (o_pickT rfl rfl) (Ee (Ec (Eb [27] rfl (s_condT rfl (S_seq (s_rg (Ea (Ed rfl) (Ee ?_)))))))))))
 refine Ec (Eb [2] rfl (s_ret (q_seqR (ret_leafBR rfl rfl ?_))))
 rotate_left
 all_goals
  simp_all
end Go.Proofs.YtoppcdecolponaaDoor.AL
