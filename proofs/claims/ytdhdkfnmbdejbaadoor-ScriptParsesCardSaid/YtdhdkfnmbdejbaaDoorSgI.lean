/- Acts in writing, plainly; a command's form, its kind, one word. No conditions. -/
import Derived.Test.YtdhdkfnmbdejbaaDoorSgH
import Derived.Test.YtdhdkfnmbdejbaaDoorSgF
namespace Go.Proofs.YtdhdkfnmbdejbaaDoor
set_option linter.unusedVariables false
set_option linter.unusedSimpArgs false
open Go.RowKit

def cmds : List (List UInt8) := [[111, 112, 101, 110], [115, 101, 110, 100], [114, 101, 99, 118], [97, 100, 100], [100, 114, 111, 112], [112, 114, 105, 111], [109, 111, 100, 101], [99, 108, 111, 115, 101], [116, 105, 99, 107], [100, 101, 108, 105, 118, 101, 114], [108, 111, 115, 101], [100, 111, 117, 98, 108, 101], [102, 108, 105, 112], [105, 110, 106, 101, 99, 116], [99, 97, 108, 109]]
def flds : List (List UInt8) := [[115, 120, 121], [115, 100], [115], [115, 120], [115, 120], [115, 120, 121, 122], [115, 120, 121], [115], [], [120], [120], [120], [120, 121], [115, 120, 121, 100], [120]]
def cmdZ (n : Int) : List UInt8 := if 1 ≤ n ∧ n ≤ 15 then cmds.getD (n.toNat - 1) [] else []
def fldZ (n : Int) : List UInt8 := if 1 ≤ n ∧ n ≤ 15 then flds.getD (n.toNat - 1) [] else []
/-- an act -/
structure ActP where
  k : Int
  s : Int
  x : Int
  y : Int
  z : Int
  d : ByteArray
def ActP.zero : ActP := ⟨0, 0, 0, 0, 0, ⟨#[]⟩⟩
def ActP.of (kind : Int) : ActP := ⟨kind, 0, 0, 0, 0, ⟨#[]⟩⟩
def ActP.cs (a : ActP) : Array Value := #[.int .i64 a.k, .int .i64 a.s, .int .i64 a.x, .int .i64 a.y, .int .i64 a.z, .string a.d]
def ActP.v (a : ActP) : Value := .agg a.cs
/-- what one word does -/
def stepA (c : UInt8) (w : ByteArray) (a : ActP) : Option ActP :=
  if c = 115 then (if (sideL w).2 then some { a with s := (sideL w).1 } else none)
  else if c = 100 then (bytesL w.data.toList).map fun b => { a with d := tx b }
  else if (numL w.data.toList).2 then some (if c = 120 then { a with x := (numL w.data.toList).1 } else if c = 121 then { a with y := (numL w.data.toList).1 } else { a with z := (numL w.data.toList).1 }) else none
def readAll : List UInt8 → List ByteArray → ActP → Option ActP
  | c :: cs, w :: ws, a => (stepA c w a).bind (readAll cs ws)
  | _, _, a => some a
theorem readAll_append : ∀ (cs : List UInt8) (ws : List ByteArray) (cs' : List UInt8) (ws' : List ByteArray) (a : ActP), cs.length = ws.length → readAll (cs ++ cs') (ws ++ ws') a = (readAll cs ws a).bind (readAll cs' ws')
  | [], [], cs', ws', a, _ => rfl
  | c :: cs, w :: ws, cs', ws', a, h => by
    simp only [List.cons_append, readAll]
    cases hq : stepA c w a with
    | none => rfl
    | some b => simp only [Option.bind_some]; exact readAll_append cs ws cs' ws' b (by simpa using h)
  | [], _ :: _, _, _, _, h => by simp at h
  | _ :: _, [], _, _, _, h => by simp at h
def fillE : Option ActP → ActP × Int
  | none => (ActP.zero, 4)
  | some a => (a, 0)
def fillP (kind : Int) (fs : List UInt8) (ws : List ByteArray) : ActP × Int :=
  if ws.length < fs.length then (ActP.zero, 1) else if fs.length < ws.length then (ActP.zero, 2) else
  fillE (readAll fs ws (ActP.of kind))
/-- the kind of a command -/
def kindP (s : ByteArray) : Int := match (List.range 15).find? (fun j : Nat => decide (tx (cmdZ ((j : Int) + 1)) = s)) with
  | some j => (j : Int) + 1
  | none => 0
def parseP (line : ByteArray) : ActP × Int :=
  if 1600 < line.size then (ActP.zero, 11) else
  match (fieldsL line.data.toList).map tx with
  | [] => (ActP.zero, 8)
  | c :: ws => if kindP c = 0 then (ActP.zero, 70) else fillP (kindP c) (fldZ (kindP c)) ws
def wordOf (a : ActP) (c : UInt8) : List UInt8 := if c = 115 then (nameL a.s).data.toList else if c = 100 then hexL a.d.data.toList else if c = 120 then ofL a.x else if c = 121 then ofL a.y else ofL a.z
def writeP (a : ActP) : ByteArray := tx (joinL (cmdZ a.k :: (fldZ a.k).map (wordOf a)))

theorem form_1 (w : World) : Calls Tryd.prog 21 #[.int .i64 1] w fun e w' => e = .returned (.tuple #[.string (tx [111, 112, 101, 110]), .string (tx [115, 120, 121])]) ∧ w = w' := by
  go_enter Tryd.func21, Tryd.ntmps21
  go_wp2
  go_ret2
  exact ⟨rfl, rfl⟩
theorem form_2 (w : World) : Calls Tryd.prog 21 #[.int .i64 2] w fun e w' => e = .returned (.tuple #[.string (tx [115, 101, 110, 100]), .string (tx [115, 100])]) ∧ w = w' := by
  go_enter Tryd.func21, Tryd.ntmps21
  go_wp2
  go_ret2
  exact ⟨rfl, rfl⟩
theorem form_3 (w : World) : Calls Tryd.prog 21 #[.int .i64 3] w fun e w' => e = .returned (.tuple #[.string (tx [114, 101, 99, 118]), .string (tx [115])]) ∧ w = w' := by
  go_enter Tryd.func21, Tryd.ntmps21
  go_wp2
  go_ret2
  exact ⟨rfl, rfl⟩
theorem form_4 (w : World) : Calls Tryd.prog 21 #[.int .i64 4] w fun e w' => e = .returned (.tuple #[.string (tx [97, 100, 100]), .string (tx [115, 120])]) ∧ w = w' := by
  go_enter Tryd.func21, Tryd.ntmps21
  go_wp2
  go_ret2
  exact ⟨rfl, rfl⟩
theorem form_5 (w : World) : Calls Tryd.prog 21 #[.int .i64 5] w fun e w' => e = .returned (.tuple #[.string (tx [100, 114, 111, 112]), .string (tx [115, 120])]) ∧ w = w' := by
  go_enter Tryd.func21, Tryd.ntmps21
  go_wp2
  go_ret2
  exact ⟨rfl, rfl⟩
theorem form_6 (w : World) : Calls Tryd.prog 21 #[.int .i64 6] w fun e w' => e = .returned (.tuple #[.string (tx [112, 114, 105, 111]), .string (tx [115, 120, 121, 122])]) ∧ w = w' := by
  go_enter Tryd.func21, Tryd.ntmps21
  go_wp2
  go_ret2
  exact ⟨rfl, rfl⟩
theorem form_7 (w : World) : Calls Tryd.prog 21 #[.int .i64 7] w fun e w' => e = .returned (.tuple #[.string (tx [109, 111, 100, 101]), .string (tx [115, 120, 121])]) ∧ w = w' := by
  go_enter Tryd.func21, Tryd.ntmps21
  go_wp2
  go_ret2
  exact ⟨rfl, rfl⟩
theorem form_8 (w : World) : Calls Tryd.prog 21 #[.int .i64 8] w fun e w' => e = .returned (.tuple #[.string (tx [99, 108, 111, 115, 101]), .string (tx [115])]) ∧ w = w' := by
  go_enter Tryd.func21, Tryd.ntmps21
  go_wp2
  go_ret2
  exact ⟨rfl, rfl⟩
theorem form_9 (w : World) : Calls Tryd.prog 21 #[.int .i64 9] w fun e w' => e = .returned (.tuple #[.string (tx [116, 105, 99, 107]), .string (tx [])]) ∧ w = w' := by
  go_enter Tryd.func21, Tryd.ntmps21
  go_wp2
  go_ret2
  exact ⟨rfl, rfl⟩
theorem form_10 (w : World) : Calls Tryd.prog 21 #[.int .i64 10] w fun e w' => e = .returned (.tuple #[.string (tx [100, 101, 108, 105, 118, 101, 114]), .string (tx [120])]) ∧ w = w' := by
  go_enter Tryd.func21, Tryd.ntmps21
  go_wp2
  go_ret2
  exact ⟨rfl, rfl⟩
theorem form_11 (w : World) : Calls Tryd.prog 21 #[.int .i64 11] w fun e w' => e = .returned (.tuple #[.string (tx [108, 111, 115, 101]), .string (tx [120])]) ∧ w = w' := by
  go_enter Tryd.func21, Tryd.ntmps21
  go_wp2
  go_ret2
  exact ⟨rfl, rfl⟩
theorem form_12 (w : World) : Calls Tryd.prog 21 #[.int .i64 12] w fun e w' => e = .returned (.tuple #[.string (tx [100, 111, 117, 98, 108, 101]), .string (tx [120])]) ∧ w = w' := by
  go_enter Tryd.func21, Tryd.ntmps21
  go_wp2
  go_ret2
  exact ⟨rfl, rfl⟩
theorem form_13 (w : World) : Calls Tryd.prog 21 #[.int .i64 13] w fun e w' => e = .returned (.tuple #[.string (tx [102, 108, 105, 112]), .string (tx [120, 121])]) ∧ w = w' := by
  go_enter Tryd.func21, Tryd.ntmps21
  go_wp2
  go_ret2
  exact ⟨rfl, rfl⟩
theorem form_14 (w : World) : Calls Tryd.prog 21 #[.int .i64 14] w fun e w' => e = .returned (.tuple #[.string (tx [105, 110, 106, 101, 99, 116]), .string (tx [115, 120, 121, 100])]) ∧ w = w' := by
  go_enter Tryd.func21, Tryd.ntmps21
  go_wp2
  go_ret2
  exact ⟨rfl, rfl⟩
theorem form_15 (w : World) : Calls Tryd.prog 21 #[.int .i64 15] w fun e w' => e = .returned (.tuple #[.string (tx [99, 97, 108, 109]), .string (tx [120])]) ∧ w = w' := by
  go_enter Tryd.func21, Tryd.ntmps21
  go_wp2
  go_ret2
  exact ⟨rfl, rfl⟩
theorem form_other (n : Int) (h : ¬ (1 ≤ n ∧ n ≤ 15)) (w : World) : Calls Tryd.prog 21 #[.int .i64 n] w fun e w' => e = .returned (.tuple #[.string (tx []), .string (tx [])]) ∧ w = w' := by
  have n1 : (n == 1) = false := by rw [beq_eq_false_iff_ne]; omega
  have n2 : (n == 2) = false := by rw [beq_eq_false_iff_ne]; omega
  have n3 : (n == 3) = false := by rw [beq_eq_false_iff_ne]; omega
  have n4 : (n == 4) = false := by rw [beq_eq_false_iff_ne]; omega
  have n5 : (n == 5) = false := by rw [beq_eq_false_iff_ne]; omega
  have n6 : (n == 6) = false := by rw [beq_eq_false_iff_ne]; omega
  have n7 : (n == 7) = false := by rw [beq_eq_false_iff_ne]; omega
  have n8 : (n == 8) = false := by rw [beq_eq_false_iff_ne]; omega
  have n9 : (n == 9) = false := by rw [beq_eq_false_iff_ne]; omega
  have n10 : (n == 10) = false := by rw [beq_eq_false_iff_ne]; omega
  have n11 : (n == 11) = false := by rw [beq_eq_false_iff_ne]; omega
  have n12 : (n == 12) = false := by rw [beq_eq_false_iff_ne]; omega
  have n13 : (n == 13) = false := by rw [beq_eq_false_iff_ne]; omega
  have n14 : (n == 14) = false := by rw [beq_eq_false_iff_ne]; omega
  have n15 : (n == 15) = false := by rw [beq_eq_false_iff_ne]; omega
  go_enter Tryd.func21, Tryd.ntmps21
  go_wp2
  go_ret2
  exact ⟨rfl, rfl⟩
theorem form_any (n : Int) (w : World) : Calls Tryd.prog 21 #[.int .i64 n] w fun e w' => e = .returned (.tuple #[.string (tx (cmdZ n)), .string (tx (fldZ n))]) ∧ w = w' := by
  by_cases h : 1 ≤ n ∧ n ≤ 15
  · have : n = 1 ∨ n = 2 ∨ n = 3 ∨ n = 4 ∨ n = 5 ∨ n = 6 ∨ n = 7 ∨ n = 8 ∨ n = 9 ∨ n = 10 ∨ n = 11 ∨ n = 12 ∨ n = 13 ∨ n = 14 ∨ n = 15 := by omega
    rcases this with rfl | rfl | rfl | rfl | rfl | rfl | rfl | rfl | rfl | rfl | rfl | rfl | rfl | rfl | rfl
    · exact form_1 w
    · exact form_2 w
    · exact form_3 w
    · exact form_4 w
    · exact form_5 w
    · exact form_6 w
    · exact form_7 w
    · exact form_8 w
    · exact form_9 w
    · exact form_10 w
    · exact form_11 w
    · exact form_12 w
    · exact form_13 w
    · exact form_14 w
    · exact form_15 w
  · have e1 : cmdZ n = [] := by unfold cmdZ; rw [if_neg h]
    have e2 : fldZ n = [] := by unfold fldZ; rw [if_neg h]
    rw [e1, e2]
    exact form_other n h w
theorem kind_some {s : ByteArray} {i : Nat} (hi : i < 15) (h : ∀ j : Nat, j < i → tx (cmdZ ((j : Int) + 1)) ≠ s) (he : tx (cmdZ ((i : Int) + 1)) = s) : kindP s = (i : Int) + 1 := by
  have : (List.range 15).find? (fun j : Nat => decide (tx (cmdZ ((j : Int) + 1)) = s)) = some i := by
    rw [List.find?_range_eq_some]
    refine ⟨by simpa using he, by simpa using hi, fun j hj => by simpa using h j hj⟩
  unfold kindP
  rw [this]
theorem kind_none {s : ByteArray} (h : ∀ j : Nat, j < 15 → tx (cmdZ ((j : Int) + 1)) ≠ s) : kindP s = 0 := by
  have : (List.range 15).find? (fun j : Nat => decide (tx (cmdZ ((j : Int) + 1)) = s)) = none := by
    rw [List.find?_eq_none]
    intro j hj
    simpa using h j (List.mem_range.1 hj)
  unfold kindP
  rw [this]
theorem teq_dec (a b : ByteArray) : (a.toList == b.toList) = decide (a = b) := by
  rw [ByteArray.toList_eq, ByteArray.toList_eq, Bool.eq_iff_iff, beq_iff_eq, decide_eq_true_eq]
  constructor
  · intro h; rw [← tx_list a, h, tx_list]
  · intro h; rw [h]
set_option maxRecDepth 100000 in
theorem kindOf_any (s : ByteArray) (w : World) : Calls Tryd.prog 20 #[.string s] w fun e w' => e = .returned (.int .i64 (kindP s)) ∧ w = w' := by
  obtain ⟨r, hr⟩ : ∃ r, kindP s = r := ⟨_, rfl⟩
  rw [hr]
  go_enter Tryd.func20, Tryd.ntmps20
  go_wp2
  go_loopg [3] 15 (fun gf u3 wx => ∃ i : Nat, u3 = .int .i64 ((i : Int) + 1) ∧ i ≤ 15 ∧ 15 ≤ i + gf ∧ (∀ j : Nat, j < i → tx (cmdZ ((j : Int) + 1)) ≠ s) ∧ w = wx)
  case atStart => exact ⟨0, rfl, by omega, by omega, (fun j h => by omega), rfl⟩
  case round =>
    obtain ⟨i, rfl, hi, hfu, hne, rfl⟩ := hrel
    by_cases hlt : i < 15
    · obtain ⟨g', rfl⟩ : ∃ g', gk = g' + 1 := ⟨gk - 1, by omega⟩
      have hi15 : (i : Int) + 1 ≤ 15 := by omega
      have hf := fun W => form_any ((i : Int) + 1) W
      have hw1 : wrap64 ((i : Int) + 1 + 1) = (i : Int) + 1 + 1 := IntWalk.wrap64_in _ (by omega)
      by_cases hc : tx (cmdZ ((i : Int) + 1)) = s
      · have hk := kind_some hlt hne hc
        have he := teq_dec (tx (cmdZ ((i : Int) + 1))) s
        rw [decide_eq_true hc] at he
        clear hne hc
        generalize tx (cmdZ ((i : Int) + 1)) = c at *
        go_wp2_with (go_at_call 21; with_reducible refine (hf _).mono ?_; rintro e w1 ⟨rfl, hw⟩; obtain rfl := hw)
        go_ret
        rw [← hr, hk]
        exact ⟨rfl, rfl⟩
      · have he := teq_dec (tx (cmdZ ((i : Int) + 1))) s
        rw [decide_eq_false hc] at he
        have hne2 : ∀ j : Nat, j < i + 1 → tx (cmdZ ((j : Int) + 1)) ≠ s := fun j h => by
          by_cases hj : j = i
          · subst hj; exact hc
          · exact hne j (by omega)
        clear hne hc
        generalize tx (cmdZ ((i : Int) + 1)) = c at he hf
        go_wp2_with (go_at_call 21; with_reducible refine (hf _).mono ?_; rintro e w1 ⟨rfl, hw⟩; obtain rfl := hw)
        go_roundg g'
        case measure => omega
        case rel => exact ⟨i + 1, by first | rfl | rw [hw1]; rfl, by omega, by omega, hne2, rfl⟩
    · obtain rfl : i = 15 := by omega
      have hk := kind_none hne
      clear hne
      go_wp2
      go_ret
      rw [← hr, hk]
      exact ⟨rfl, rfl⟩
end Go.Proofs.YtdhdkfnmbdejbaaDoor
