/- The plain meaning of the program's functions: configurations. -/
import Derived.Test.YtoppcdecolponaaDoorVh
namespace Go.Proofs.YtoppcdecolponaaDoor.AL
open Go
def Conf.cost (c : Conf) : Int := if inB c.maxRetry 0 3 && inB c.maxWait 0 3 then (c.maxRetry + 2) * (c.maxWait + 6) else 0
def Conf.slot (c : Conf) : Int := if c.cost = 0 ∨ inB c.lockMost 1 40 = false then 0 else 2 * c.cost + c.lockMost
def priosOf (l : List MConf) : Nat := l.countP (·.prio)
def Conf.least (c : Conf) : Int := 2 * c.slot * (priosOf c.masters : Int)
def MConf.ok (l : Int) (m : MConf) : Bool :=
 inB m.weight 1 4 && (if m.prio then inB m.every l 1000 && inB m.cap 1 8 else decide (m.every = 0) && decide (m.cap = 0))
def Conf.ok (c : Conf) : Bool :=
 inB c.masters.length 1 4 && inB c.quantum 1 4 && inB c.maxSplit 1 12 && decide (c.slot ≠ 0) && c.masters.all (MConf.ok c.least)
def Conf.turn (c : Conf) (who : Int) : Int := if c.ok && inB who 0 (c.masters.length - 1) then IntKind.wrap .i64 ((match c.masters[who.toNat]? with | some m => m.weight | none => 0) * c.quantum) else 0
def caps1 (slot : Int) (s : Int) (m : MConf) : Int := if m.prio then IntKind.wrap .i64 (s + IntKind.wrap .i64 (IntKind.wrap .i64 (m.cap + 1) * slot)) else s
def Conf.caps (c : Conf) : Int := c.masters.foldl (caps1 c.slot) 0
def Conf.first (c : Conf) : Int := if c.ok then IntKind.wrap .i64 (IntKind.wrap .i64 (2 * IntKind.wrap .i64 (c.caps + c.slot)) + 10) else 0
def Wrr.ok (w : Wrr) (c : Conf) : Bool := c.ok && inB w.pos 0 (c.masters.length - 1) && inB w.credit 0 (c.turn w.pos)
end Go.Proofs.YtoppcdecolponaaDoor.AL
