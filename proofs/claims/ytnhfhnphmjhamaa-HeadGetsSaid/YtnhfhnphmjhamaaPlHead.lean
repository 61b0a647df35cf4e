/- What kinds of packets bear: plain. No program here. -/
import Derived.PlainAid
import Derived.Test.YtnhfhnphmjhamaaPlOct
namespace Go.Proofs.Ytnhfhnphmjhamaa.Head
set_option linter.unusedVariables false
set_option linter.unusedSimpArgs false

def known (k : Int) : Bool := decide (0 ≤ k ∧ k ≤ 9)
def acks (k : Int) : Bool := decide (k = 1 ∨ (3 ≤ k ∧ k ≤ 9))
def bears (k : Int) : Bool := decide (k = 0 ∨ k = 1 ∨ k = 2 ∨ k = 4)
def more (k : Int) : Bool := decide (k = 0 ∨ k = 1 ∨ k = 7)
def brief (k : Int) : Bool := decide (k = 2 ∨ k = 3 ∨ k = 4)
def size (k : Int) (long : Bool) : Int :=
  if known k = false ∨ (long = false ∧ brief k = false) then 0
  else (if long then 16 else 12) + (if acks k then (if long then 8 else 4) else 0) + (if more k then 4 else 0)
def of5 (k : Int) : Bool × Bool × Bool × Bool × Bool :=
  if (k == 1) = true then (true, true, true, true, false) else if (k == 0) = true then (true, false, true, true, false) else if (k == 4) = true then (true, true, true, false, true)
  else if (k == 2) = true then (true, false, true, false, true) else if (k == 3) = true then (true, true, false, false, true) else if (k == 7) = true then (true, true, false, true, false)
  else if (k == 5) = true then (true, true, false, false, false) else if (k == 6) = true then (true, true, false, false, false) else if (k == 8) = true then (true, true, false, false, false)
  else if (k == 9) = true then (true, true, false, false, false) else (false, false, false, false, false)
theorem of5_eq (k : Int) : of5 k = (known k, acks k, bears k, more k, brief k) := by
  unfold of5 known acks bears more brief
  simp only [beq_iff_eq]
  repeat' split
  all_goals (try subst k)
  all_goals (first | decide | (simp only [Prod.mk.injEq, Bool.false_eq, decide_eq_false_iff_not]; omega))
structure H where
  src : Int
  dst : Int
  words : Int
  ccval : Int
  cover : Int
  sum : Int
  kind : Int
  long : Bool
  seq : Int
  deriving DecidableEq
abbrev H.v (h : H) : Value := .agg #[.int .i64 h.src, .int .i64 h.dst, .int .i64 h.words, .int .i64 h.ccval, .int .i64 h.cover, .int .i64 h.sum, .int .i64 h.kind, .bool h.long, .int .i64 h.seq]
def wi (n m : Int) : Bool := decide (0 ≤ n ∧ n ≤ m)
def most (long : Bool) : Int := if long = true then 281474976710656 else 16777216
/-- what is wrong with a beginning -/
def check (h : H) : Int :=
  if known h.kind = false then 7 else if h.long = false ∧ brief h.kind = false then 4
  else if wi h.src 65535 = false ∨ wi h.dst 65535 = false ∨ wi h.sum 65535 = false ∨ wi h.ccval 15 = false ∨ wi h.cover 15 = false then 3
  else if wi h.seq (most h.long - 1) = false ∨ wi h.words 255 = false then 3
  else if 4 * h.words < size h.kind h.long then 1 else 0
/-- a beginning as bytes -/
def put (h : H) : List UInt8 :=
  Oct.be (Oct.u64 h.src) 2 ++ Oct.be (Oct.u64 h.dst) 2 ++ Oct.be (Oct.u64 h.words) 1 ++ Oct.be (Oct.u64 (16 * h.ccval + h.cover)) 1 ++ Oct.be (Oct.u64 h.sum) 2 ++
    (if h.long = true then Oct.be (Oct.u64 (2 * h.kind + 1)) 1 ++ [0] ++ Oct.be (Oct.u64 h.seq) 6 else Oct.be (Oct.u64 (2 * h.kind)) 1 ++ Oct.be (Oct.u64 h.seq) 3)
end Go.Proofs.Ytnhfhnphmjhamaa.Head
