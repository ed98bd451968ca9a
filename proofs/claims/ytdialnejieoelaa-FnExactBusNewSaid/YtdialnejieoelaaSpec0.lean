/- The plain meaning of the program's functions: configurations. -/
import Derived.Test.YtdialnejieoelaaVh
namespace Go.Proofs.Ytdialnejieoelaa.AL
open Go
def Conf.cost (c : Conf) : Int := if inB c.maxRetry 0 3 && inB c.maxWait 0 3 then (c.maxRetry + 2) * (c.maxWait + 6) else 0
def Conf.slot (c : Conf) : Int := if c.cost = 0 ∨ inB c.lockMost 1 40 = false then 0 else 2 * c.cost + c.lockMost
def priosOf (l : List MConf) : Nat := l.countP (·.prio)
def Conf.least (c : Conf) : Int := 2 * c.slot * (priosOf c.masters : Int)
def MConf.ok (l : Int) (m : MConf) : Bool :=
 inB m.weight 1 4 && (if m.prio then inB m.every l 1000 && inB m.cap 1 8 else decide (m.every = 0) && decide (m.cap = 0))
def Conf.ok (c : Conf) : Bool :=
 inB c.masters.length 1 4 && inB c.quantum 1 4 && inB c.maxSplit 1 12 && decide (c.slot ≠ 0) && c.masters.all (MConf.ok c.least)
theorem Conf.cost_bd (c : Conf) : 0 ≤ c.cost ∧ c.cost ≤ 45 := by
 unfold Conf.cost inB
 split
 · rename_i h
   simp only [Bool.and_eq_true, decide_eq_true_eq] at h
   obtain ⟨⟨h1, h2⟩, h3, h4⟩ := h
   have hr : c.maxRetry = 0 ∨ c.maxRetry = 1 ∨ c.maxRetry = 2 ∨ c.maxRetry = 3 := by omega
   rcases hr with h | h | h | h <;> rw [h] <;> omega
 · omega
theorem Conf.slot_bd (c : Conf) : 0 ≤ c.slot ∧ c.slot ≤ 130 := by
 have := c.cost_bd
 unfold Conf.slot inB
 split
 · omega
 · rename_i h
   simp only [not_or, Bool.not_eq_false, Bool.and_eq_true, decide_eq_true_eq] at h
   omega
theorem slot_ne (x : Conf) : decide (x.slot ≠ 0) = (decide (0 < x.cost) && inB x.lockMost 1 40) := by
 have h := x.cost_bd
 unfold Conf.slot
 by_cases h1 : x.cost = 0
 · rw [if_pos (.inl h1)]; simp [h1]
 · cases h2 : inB x.lockMost 1 40 with
   | false => rw [if_pos (.inr rfl)]; simp
   | true =>
     have := inB_t h2
     rw [if_neg (by simp [h1])]
     have h3 : 0 < x.cost := by omega
     have h4 : 2 * x.cost + x.lockMost ≠ 0 := by omega
     simp [h3, h4]
theorem ok_no {x : Conf} {i : Nat} {y : MConf} (h : x.masters[i]? = some y) (h2 : MConf.ok x.least y = false) : false = x.ok := by
 unfold Conf.ok; rw [all_no h h2]; simp
theorem ok_is {x : Conf} (h : x.masters.all (MConf.ok x.least) = true) : x.ok = (inB x.masters.length 1 4 && (inB x.quantum 1 4 && decide (0 < x.cost) && inB x.maxSplit 1 12 && inB x.lockMost 1 40)) := by
 unfold Conf.ok; rw [h, slot_ne]; cases inB x.masters.length 1 4 <;> cases inB x.quantum 1 4 <;> cases inB x.maxSplit 1 12 <;> simp
theorem priosOf_le (l : List MConf) : priosOf l ≤ l.length := List.countP_le_length
def Conf.turn (c : Conf) (who : Int) : Int := if c.ok && inB who 0 (c.masters.length - 1) then IntKind.wrap .i64 ((match c.masters[who.toNat]? with | some m => m.weight | none => 0) * c.quantum) else 0
def caps1 (slot : Int) (s : Int) (m : MConf) : Int := if m.prio then IntKind.wrap .i64 (s + IntKind.wrap .i64 (IntKind.wrap .i64 (m.cap + 1) * slot)) else s
def Conf.caps (c : Conf) : Int := c.masters.foldl (caps1 c.slot) 0
def Conf.first (c : Conf) : Int := if c.ok then IntKind.wrap .i64 (IntKind.wrap .i64 (2 * IntKind.wrap .i64 (c.caps + c.slot)) + 10) else 0
def Wrr.ok (w : Wrr) (c : Conf) : Bool := c.ok && inB w.pos 0 (c.masters.length - 1) && inB w.credit 0 (c.turn w.pos)
end Go.Proofs.Ytdialnejieoelaa.AL
