/- A feed's functions that do not select. No conditions. -/
import Derived.Test.YtdhdkfnmbdejbaaDoorSfB
import Derived.Test.YtdhdkfnmbdejbaaDoorBase
import Derived.Conc.LoneSelectN
namespace Go.Proofs.YtdhdkfnmbdejbaaDoor
set_option linter.unusedVariables false
set_option linter.unusedSimpArgs false
open Go.RowKit Go.Conc

/-- a line without its mark, and whether it had one -/
def cutV (l : ByteArray) : ByteArray × Bool := if 1 ≤ (l.size : Int) ∧ ((l.extract 0 1).toList == [33]) = true then (l.extract 1 l.size, true) else (l, false)
theorem cutV_short {l : ByteArray} (h : ¬ 1 ≤ (l.size : Int)) : cutV l = (l, false) := by unfold cutV; rw [if_neg fun e => h e.1]
theorem cutV_yes {l : ByteArray} (h0 : 1 ≤ (l.size : Int)) (h : ((l.extract 0 1).toList == [33]) = true) : cutV l = (l.extract 1 l.size, true) := by unfold cutV; rw [if_pos ⟨h0, h⟩]
theorem cutV_no {l : ByteArray} (h : ((l.extract 0 1).toList == [33]) = false) : cutV l = (l, false) := by unfold cutV; rw [if_neg fun e => by rw [h] at e; cases e.2]
theorem cut_any (l : ByteArray) (w : World) : Calls Tryd.prog 35 #[.string l, .string ⟨#[33]⟩] w fun e w' => e = .returned (.tuple #[.string (cutV l).1, .bool (cutV l).2]) ∧ w = w' := by
  by_cases h1 : 1 ≤ (l.size : Int)
  · cases hc : (l.extract 0 1).toList == [33]
    · rw [cutV_no hc]
      go_enter Tryd.func35, Tryd.ntmps35
      go_wp2
      go_ret2
      exact ⟨rfl, rfl⟩
    · rw [cutV_yes h1 hc]
      go_enter Tryd.func35, Tryd.ntmps35
      go_wp2
      go_ret2
      exact ⟨rfl, rfl⟩
  · rw [cutV_short h1]
    go_enter Tryd.func35, Tryd.ntmps35
    go_wp2
    go_ret2
    exact ⟨rfl, rfl⟩
theorem put_nil (l : ByteArray) (w : World) : Calls Tryd.prog 15 #[.pointer none, .string l] w fun e w' => e = .returned (.bool false) ∧ w = w' := by
  go_enter Tryd.func15, Tryd.ntmps15
  go_wp2
  go_ret
  exact ⟨rfl, rfl⟩
theorem next_nil (w : World) : Calls Tryd.prog 17 #[.pointer none] w fun e w' => e = .returned (.tuple #[.string ⟨#[]⟩, .bool false]) ∧ w = w' := by
  go_enter Tryd.func17, Tryd.ntmps17
  go_wp2
  go_ret2
  exact ⟨rfl, rfl⟩
theorem left_nil (w : World) : Calls Tryd.prog 16 #[.pointer none] w fun e w' => e = .returned (.int .i64 0) ∧ w = w' := by
  go_enter Tryd.func16, Tryd.ntmps16
  go_wp2
  go_ret
  exact ⟨rfl, rfl⟩
theorem put_shut {w : World} {k cc cap s r : Nat} {l : ByteArray} (h2 : w.cell? ⟨k, 2, none⟩ = some (.chan (some cc))) (hc : w.heap[cc]? = some (.chan cap #[] true s r false)) : Calls Tryd.prog 15 #[.pointer (some ⟨k, 0, none⟩), .string l] w fun e w' => e = .returned (.bool false) ∧ w = w' := by
  go_enter Tryd.func15, Tryd.ntmps15
  go_wp2_with (first
    | (go_at_call 34; refine (over_shut h2 hc).mono ?_; rintro e w1 ⟨rfl, hw⟩; obtain rfl : w = w1 := hw.symm))
  go_ret
  exact ⟨rfl, rfl⟩
theorem drewN_heap (w : World) : ∀ n, (w.drewN n).heap = w.heap := by
  intro n
  induction n with
  | zero => rfl
  | succ n ih => first | exact ih | (simp [World.drewN, World.drew, ih])
theorem left_any {w : World} {k cu cp a1 s1 r1 a2 s2 r2 : Nat} {b1 b2 : Array Value} (h0 : w.cell? ⟨k, 0, none⟩ = some (.chan (some cu))) (h1 : w.cell? ⟨k, 1, none⟩ = some (.chan (some cp))) (hu : w.heap[cu]? = some (.chan a1 b1 false s1 r1 false)) (hp : w.heap[cp]? = some (.chan a2 b2 false s2 r2 false)) : Calls Tryd.prog 16 #[.pointer (some ⟨k, 0, none⟩)] w fun e w' => e = .returned (.int .i64 (wrap64 (b1.size + b2.size))) ∧ ∃ q, w' = w.drewN q := by
  have hU : ∀ n, (w.drewN n).heap[cu]? = some (.chan a1 b1 false s1 r1 false) := fun n => by rw [drewN_heap]; exact hu
  have hP : ∀ n, (w.drewN n).heap[cp]? = some (.chan a2 b2 false s2 r2 false) := fun n => by rw [drewN_heap]; exact hp
  have hl1 : ∀ (n : Nat) ty, (Builtin.len_ #[57] ty #[.chan (some cu)]).run Tryd.prog (w.drewN n) = .ok (goInt b1.size) (w.drewN n) := fun n ty => run_len_chan _ ty Tryd.underlying57 (hU n)
  have hl2 : ∀ (n : Nat) ty, (Builtin.len_ #[57] ty #[.chan (some cp)]).run Tryd.prog (w.drewN n) = .ok (goInt b2.size) (w.drewN n) := fun n ty => run_len_chan _ ty Tryd.underlying57 (hP n)
  go_enter Tryd.func16, Tryd.ntmps16
  go_wp2
  go_quiet (fail)
  go_wp2
  go_ret
  exact ⟨rfl, nq, rfl⟩
theorem close_nil (w : World) : Calls Tryd.prog 14 #[.pointer none] w fun e w' => e = .returned (.tuple #[]) ∧ w = w' := by
  go_enter Tryd.func14, Tryd.ntmps14
  go_wp2
  go_end0
  exact ⟨rfl, rfl⟩
theorem close_open {w : World} {k cc cap s r : Nat} (h2 : w.cell? ⟨k, 2, none⟩ = some (.chan (some cc))) (hc : w.heap[cc]? = some (.chan cap #[] false s r false)) : Calls Tryd.prog 14 #[.pointer (some ⟨k, 0, none⟩)] w fun e w' => e = .returned (.tuple #[]) ∧ w' = w.setChan cc cap #[] true s r false := by
  have hcl := fun ats ty => run_close_open (P := Tryd.prog) (w := w) ats ty hc
  go_enter Tryd.func14, Tryd.ntmps14
  go_wp2_with (first
    | (go_at_call 34; refine (over_open h2 hc).mono ?_; rintro e w1 ⟨rfl, hw⟩; obtain rfl : w = w1 := hw.symm))
  go_end0
  exact ⟨rfl, rfl⟩
theorem close_shut {w : World} {k cc cap s r : Nat} (h2 : w.cell? ⟨k, 2, none⟩ = some (.chan (some cc))) (hc : w.heap[cc]? = some (.chan cap #[] true s r false)) : Calls Tryd.prog 14 #[.pointer (some ⟨k, 0, none⟩)] w fun e w' => e = .returned (.tuple #[]) ∧ w = w' := by
  go_enter Tryd.func14, Tryd.ntmps14
  go_wp2_with (first
    | (go_at_call 34; refine (over_shut h2 hc).mono ?_; rintro e w1 ⟨rfl, hw⟩; obtain rfl : w = w1 := hw.symm))
  go_end0
  exact ⟨rfl, rfl⟩
end Go.Proofs.YtdhdkfnmbdejbaaDoor
