/- Words, numbers and bytes in writing, plainly; small functions. No conditions. -/
import Derived.Test.YtdhdkfnmbdejbaaDoorBase
import Derived.Test.YtdhdkfnmbdejbaaDoorSfE
import Derived.Deep.AppendLies
import Derived.WalkLawsBesides
import Derived.WalkSpells
namespace Go.Proofs.YtdhdkfnmbdejbaaDoor
set_option linter.unusedVariables false
set_option linter.unusedSimpArgs false
open Go.RowKit

/-- a text of bytes -/
def tx (l : List UInt8) : ByteArray := ⟨l.toArray⟩
theorem tx_list (s : ByteArray) : tx s.data.toList = s := by cases s; rfl
theorem tx_data (l : List UInt8) : (tx l).data.toList = l := rfl
theorem tx_size (l : List UInt8) : (tx l).size = l.length := rfl
theorem tx_append (a b : List UInt8) : tx a ++ tx b = tx (a ++ b) := by
  apply ByteArray.ext
  simp [tx]
theorem tx_inj {a b : List UInt8} (h : tx a = tx b) : a = b := by
  have := congrArg (fun s : ByteArray => s.data.toList) h
  exact this
def isDig (c : UInt8) : Bool := decide (48 ≤ c.toNat) && decide (c.toNat ≤ 57)
def valL (l : List UInt8) : Nat := l.foldl (fun n c => 10 * n + (c.toNat - 48)) 0
/-- the number that is written -/
def numL (l : List UInt8) : Int × Bool := if l = [] ∨ 15 < l.length ∨ (l.head? = some 48 ∧ 1 < l.length) ∨ l.all isDig = false then (0, false) else ((valL l : Nat), true)
def sideL (s : ByteArray) : Int × Bool := if s = tx [97] then (0, true) else if s = tx [98] then (1, true) else (0, false)
def nameL (n : Int) : ByteArray := if n = 0 then tx [97] else if n = 1 then tx [98] else tx [63]
def digL (n : Nat) : UInt8 := if n < 10 then UInt8.ofNat (48 + n) else UInt8.ofNat (87 + n)
def halfL (c : UInt8) : Option Nat := if 48 ≤ c.toNat ∧ c.toNat ≤ 57 then some (c.toNat - 48) else if 97 ≤ c.toNat ∧ c.toNat ≤ 102 then some (c.toNat - 87) else none
theorem halfL_lt {c : UInt8} {n : Nat} (h : halfL c = some n) : n < 16 := by
  unfold halfL at h
  split at h
  · simp at h; omega
  · split at h
    · simp at h; omega
    · cases h
def hexD (l : List UInt8) : List UInt8 := l.flatMap fun b => [digL (b.toNat / 16), digL (b.toNat % 16)]
def hexL (l : List UInt8) : List UInt8 := if l = [] then [45] else hexD l
def unhex : List UInt8 → Option (List UInt8)
  | [] => some []
  | a :: b :: r => (halfL a).bind fun x => (halfL b).bind fun y => (unhex r).map fun t => UInt8.ofNat (16 * x + y) :: t
  | [_] => none
def bytesL (l : List UInt8) : Option (List UInt8) := if l = [45] then some [] else if l = [] then none else unhex l
def fstep (q : List (List UInt8) × List UInt8) (c : UInt8) : List (List UInt8) × List UInt8 := if c = 32 then (if q.2 = [] then q else (q.1 ++ [q.2], [])) else (q.1, q.2 ++ [c])
def fstate (l : List UInt8) : List (List UInt8) × List UInt8 := l.foldl fstep ([], [])
/-- the words of a line -/
def fieldsL (l : List UInt8) : List (List UInt8) := if (fstate l).2 = [] then (fstate l).1 else (fstate l).1 ++ [(fstate l).2]

theorem seq_dec (s : ByteArray) (l : List UInt8) : (s.toList == l) = decide (s = tx l) := by
  rw [ByteArray.toList_eq, Bool.eq_iff_iff, beq_iff_eq, decide_eq_true_eq]
  constructor
  · intro h; rw [← h]; exact (tx_list s).symm
  · intro h; rw [h]; rfl
theorem seq_true {s : ByteArray} {l : List UInt8} (h : s = tx l) : (s.toList == l) = true := by rw [seq_dec, decide_eq_true h]
theorem seq_false {s : ByteArray} {l : List UInt8} (h : ¬ s = tx l) : (s.toList == l) = false := by rw [seq_dec, decide_eq_false h]
theorem side_any (s : ByteArray) (w : World) : Calls Tryd.prog 45 #[.string s] w fun e w' => e = .returned (.tuple #[.int .i64 (sideL s).1, .bool (sideL s).2]) ∧ w = w' := by
  unfold sideL
  by_cases h1 : s = tx [97]
  · have e1 := seq_true h1
    rw [if_pos h1]
    clear h1
    go_enter Tryd.func45, Tryd.ntmps45
    go_wp2
    go_ret2
    exact ⟨rfl, rfl⟩
  · have e1 := seq_false h1
    rw [if_neg h1]
    clear h1
    by_cases h2 : s = tx [98]
    · have e2 := seq_true h2
      rw [if_pos h2]
      clear h2
      go_enter Tryd.func45, Tryd.ntmps45
      go_wp2
      go_ret2
      exact ⟨rfl, rfl⟩
    · have e2 := seq_false h2
      rw [if_neg h2]
      clear h2
      go_enter Tryd.func45, Tryd.ntmps45
      go_wp2
      go_ret2
      exact ⟨rfl, rfl⟩
theorem name_any (n : Int) (w : World) : Calls Tryd.prog 26 #[.int .i64 n] w fun e w' => e = .returned (.string (nameL n)) ∧ w = w' := by
  unfold nameL
  by_cases h1 : n = 0
  · subst h1
    go_enter Tryd.func26, Tryd.ntmps26
    go_wp2
    go_ret
    exact ⟨rfl, rfl⟩
  · by_cases h2 : n = 1
    · subst h2
      go_enter Tryd.func26, Tryd.ntmps26
      go_wp2
      go_ret
      exact ⟨rfl, rfl⟩
    · rw [if_neg h1, if_neg h2]
      go_enter Tryd.func26, Tryd.ntmps26
      go_wp2
      go_ret
      exact ⟨rfl, rfl⟩
theorem rname_any (n : Int) (w : World) : Calls Tryd.prog 31 #[.int .i64 n] w fun e w' => e = .returned (.string (nameL n)) ∧ w = w' := by
  unfold nameL
  by_cases h1 : n = 0
  · subst h1
    go_enter Tryd.func31, Tryd.ntmps31
    go_wp2
    go_ret
    exact ⟨rfl, rfl⟩
  · by_cases h2 : n = 1
    · subst h2
      go_enter Tryd.func31, Tryd.ntmps31
      go_wp2
      go_ret
      exact ⟨rfl, rfl⟩
    · rw [if_neg h1, if_neg h2]
      go_enter Tryd.func31, Tryd.ntmps31
      go_wp2
      go_ret
      exact ⟨rfl, rfl⟩
theorem digL_lo {n : Nat} (h : n < 10) : ((digL n).toNat : Int) = 48 + (n : Int) := by
  unfold digL; rw [if_pos h]; simp; omega
theorem digL_hi {n : Nat} (h : ¬ n < 10) (h2 : n < 16) : ((digL n).toNat : Int) = 97 + (n : Int) - 10 := by
  unfold digL; rw [if_neg h]; simp; omega
theorem digit_any (n : Nat) (hn : n < 16) (w : World) : Calls Tryd.prog 41 #[.int .u8 n] w fun e w' => e = .returned (.int .u8 ((digL n).toNat : Int)) ∧ w = w' := by
  by_cases h1 : n < 10
  · rw [digL_lo h1]
    have hi : (n : Int) < 10 := by omega
    go_enter Tryd.func41, Tryd.ntmps41
    go_wp2
    go_ret
    exact ⟨rfl, rfl⟩
  · rw [digL_hi h1 hn]
    have hi : ¬ (n : Int) < 10 := by omega
    go_enter Tryd.func41, Tryd.ntmps41
    go_wp2
    go_ret
    exact ⟨rfl, rfl⟩
theorem half_any (c : UInt8) (w : World) : Calls Tryd.prog 54 #[.int .u8 (c.toNat : Int)] w fun e w' => e = .returned (.tuple #[.int .u8 (((halfL c).getD 0 : Nat) : Int), .bool (halfL c).isSome]) ∧ w = w' := by
  have hc := c.toNat_lt
  unfold halfL
  by_cases h1 : 48 ≤ c.toNat ∧ c.toNat ≤ 57
  · have i1 : (48 : Int) ≤ (c.toNat : Int) := by omega
    have i2 : (c.toNat : Int) ≤ 57 := by omega
    rw [if_pos h1, Option.getD_some, Option.isSome_some, show ((c.toNat - 48 : Nat) : Int) = (c.toNat : Int) - 48 by omega]
    clear h1
    go_enter Tryd.func54, Tryd.ntmps54
    go_wp2
    go_ret2
    exact ⟨rfl, rfl⟩
  · rw [if_neg h1]
    by_cases h2 : 97 ≤ c.toNat ∧ c.toNat ≤ 102
    · have i1 : (97 : Int) ≤ (c.toNat : Int) := by omega
      have i2 : (c.toNat : Int) ≤ 102 := by omega
      have i3 : (48 : Int) ≤ (c.toNat : Int) := by omega
      have i4 : ¬ (c.toNat : Int) ≤ 57 := by omega
      rw [if_pos h2, Option.getD_some, Option.isSome_some, show ((c.toNat - 87 : Nat) : Int) = (c.toNat : Int) - 97 + 10 by omega]
      clear h1 h2
      go_enter Tryd.func54, Tryd.ntmps54
      go_wp2
      go_ret2
      exact ⟨rfl, rfl⟩
    · rw [if_neg h2, Option.getD_none, Option.isSome_none]
      by_cases i1 : (48 : Int) ≤ (c.toNat : Int)
      · have i2 : ¬ (c.toNat : Int) ≤ 57 := by omega
        by_cases i3 : (97 : Int) ≤ (c.toNat : Int)
        · have i4 : ¬ (c.toNat : Int) ≤ 102 := by omega
          clear h1 h2
          go_enter Tryd.func54, Tryd.ntmps54
          go_wp2
          go_ret2
          exact ⟨rfl, rfl⟩
        · clear h1 h2
          go_enter Tryd.func54, Tryd.ntmps54
          go_wp2
          go_ret2
          exact ⟨rfl, rfl⟩
      · have i3 : ¬ (97 : Int) ≤ (c.toNat : Int) := by omega
        clear h1 h2
        go_enter Tryd.func54, Tryd.ntmps54
        go_wp2
        go_ret2
        exact ⟨rfl, rfl⟩
end Go.Proofs.YtdhdkfnmbdejbaaDoor
