/- What kinds of packets bear: plain. No program here. -/
import Derived.PlainAid
namespace Go.Proofs.Ytnhfhnphmjhamaa.Head
set_option linter.unusedVariables false
set_option linter.unusedSimpArgs false

def known (k : Int) : Bool := decide (0 ≤ k ∧ k ≤ 9)
def acks (k : Int) : Bool := decide (k = 1 ∨ (3 ≤ k ∧ k ≤ 9))
def bears (k : Int) : Bool := decide (k = 0 ∨ k = 1 ∨ k = 2 ∨ k = 4)
def more (k : Int) : Bool := decide (k = 0 ∨ k = 1 ∨ k = 7)
def brief (k : Int) : Bool := decide (k = 2 ∨ k = 3 ∨ k = 4)
def size (k : Int) (long : Bool) : Int :=
  if known k = false ∨ (long = false ∧ brief k = false) then 0
  else (if long then 16 else 12) + (if acks k then (if long then 8 else 4) else 0) + (if more k then 4 else 0)
def of5 (k : Int) : Bool × Bool × Bool × Bool × Bool :=
  if (k == 1) = true then (true, true, true, true, false) else if (k == 0) = true then (true, false, true, true, false) else if (k == 4) = true then (true, true, true, false, true)
  else if (k == 2) = true then (true, false, true, false, true) else if (k == 3) = true then (true, true, false, false, true) else if (k == 7) = true then (true, true, false, true, false)
  else if (k == 5) = true then (true, true, false, false, false) else if (k == 6) = true then (true, true, false, false, false) else if (k == 8) = true then (true, true, false, false, false)
  else if (k == 9) = true then (true, true, false, false, false) else (false, false, false, false, false)
theorem of5_eq (k : Int) : of5 k = (known k, acks k, bears k, more k, brief k) := by
  unfold of5 known acks bears more brief
  simp only [beq_iff_eq]
  repeat' split
  all_goals (try subst k)
  all_goals (first | decide | (simp only [Prod.mk.injEq, Bool.false_eq, decide_eq_false_iff_not]; omega))
end Go.Proofs.Ytnhfhnphmjhamaa.Head
