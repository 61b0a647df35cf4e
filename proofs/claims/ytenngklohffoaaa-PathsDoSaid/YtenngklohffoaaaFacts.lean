/- Closed facts of the whole program. No conditions. -/
import Derived.Test.YtenngklohffoaaaRows
import Derived.JoinedOf
import Derived.KernelRfl
namespace Go.Proofs.Ytenngklohffoaaa.Facts
set_option linter.unusedVariables false
set_option linter.unusedSimpArgs false
open Go
def codes : List Nat := [104, 97, 114, 110, 101, 115, 115, 32, 100, 97, 99, 56, 51, 102, 99, 97, 98, 50, 56, 99, 57, 52, 52, 48, 97, 57, 53, 55, 48, 54, 49, 102, 51, 49, 48, 53, 56, 100, 54, 57, 50, 99, 102, 99, 51, 49, 51, 101, 98, 51, 52, 48, 50, 56, 51, 49, 51, 102, 102, 102, 102, 48, 102, 102, 48, 53, 100, 102, 50, 57, 56, 53, 32, 99, 117, 116, 32, 97, 116, 32, 97, 110, 97, 98, 114, 97, 110, 99, 104, 47, 97, 110, 97, 98, 114, 97, 110, 99, 104, 108, 97, 119, 51, 48, 46, 80, 97, 116, 104, 115, 78, 117, 109, 98, 101, 114, 115, 32, 97, 110, 97, 98, 114, 97, 110, 99, 104, 47, 97, 110, 97, 98, 114, 97, 110, 99, 104, 108, 97, 119, 51, 48, 46, 80, 97, 116, 104, 115, 68, 111]
set_option maxRecDepth 100000 in
theorem initOf : Try.prog.initOrder = String.ofList (codes.map Char.ofNat) := by kernel_rfl
theorem initList : Try.prog.initOrder.toList = codes.map Char.ofNat := by rw [initOf, String.toList_ofList]
theorem lays : Try.prog.laysLater = false := by kernel_rfl
theorem reflects : Try.prog.bearsReflect = false := by kernel_rfl
def chunks : List (List Char) := [[99, 117, 116], [97, 116], [97, 110, 97, 98, 114, 97, 110, 99, 104, 47, 97, 110, 97, 98, 114, 97, 110, 99, 104, 108, 97, 119, 51, 48, 46, 80, 97, 116, 104, 115, 78, 117, 109, 98, 101, 114, 115], [97, 110, 97, 98, 114, 97, 110, 99, 104, 47, 97, 110, 97, 98, 114, 97, 110, 99, 104, 108, 97, 119, 51, 48, 46, 80, 97, 116, 104, 115, 68, 111]].map (List.map Char.ofNat)
theorem ws : behindMainWord (wordsSigns Try.prog.initOrder.toList) = chunks := by rw [initList]; kernel_rfl
theorem wsC : behindMainWord (wordsSigns Try.prog.initOrder.toList) = ['c', 'u', 't'] :: chunks.tail := by rw [ws]; kernel_rfl
theorem cutL : "cut".toList = ['c', 'u', 't'] := by
  rw [show "cut" = String.ofList ['c', 'u', 't'] from rfl, String.toList_ofList]
theorem lit_ne {s : String} (h : s ≠ "cut") : ¬ (['c', 'u', 't'] = s.toList) := by
  intro e
  exact h (String.toList_inj.mp (e.symm.trans cutL.symm))
theorem strip_none : ∀ (os : List String) (ws : List (List Char)), (∀ o ∈ os, o ≠ "cut") → stripLifts os (['c', 'u', 't'] :: ws) = ([], ['c', 'u', 't'] :: ws)
  | [], _, _ => rfl
  | o :: os, ws, h => by
    rw [stripLifts, if_neg, strip_none os ws (fun o ho => h o (List.mem_cons_of_mem _ ho))]
    rw [beq_iff_eq]
    exact lit_ne (h o (List.mem_cons_self ..))
theorem strip_cut (ws : List (List Char)) : stripLifts liftWords (['c', 'u', 't'] :: ws) = ([], ['c', 'u', 't'] :: ws) :=
  strip_none _ _ (by unfold liftWords; decide)
theorem beq_no {s : String} (h : s ≠ "cut") : (['c', 'u', 't'] == s.toList) = false := by
  cases e : (['c', 'u', 't'] == s.toList) with
  | false => rfl
  | true => exact absurd (beq_iff_eq.mp e) (lit_ne h)
theorem make_of (P : Program) (ws : List (List Char)) (h : behindMainWord (wordsSigns P.initOrder.toList) = ['c', 'u', 't'] :: ws) : P.make = some .cut := by
  unfold Program.make
  rw [h]
  simp only [beq_no (show "gc" ≠ "cut" by decide), beq_no (show "spec" ≠ "cut" by decide), cutL]
  simp
theorem lifts_of (P : Program) (ws : List (List Char)) (h : behindMainWord (wordsSigns P.initOrder.toList) = ['c', 'u', 't'] :: ws) : P.headLifts = [] := by
  unfold Program.headLifts
  simp only [h, strip_cut, cutL, List.head?_cons, beq_self_eq_true, if_true]
theorem final_of (P : Program) (ws : List (List Char)) (h : behindMainWord (wordsSigns P.initOrder.toList) = ['c', 'u', 't'] :: ws) : P.liftsFinal = false := by
  unfold Program.liftsFinal
  rw [lifts_of P ws h]
  simp [h]
theorem enter_of (P : Program) (ws : List (List Char)) (h : behindMainWord (wordsSigns P.initOrder.toList) = ['c', 'u', 't'] :: ws)
    (lays : P.laysLater = false) (rfls : P.bearsReflect = false) (door : P.doorFits [] = true) : P.mayEnter = true := by
  unfold Program.mayEnter
  rw [h]
  simp only [strip_cut, cutL, lays, rfls, door]
  simp
theorem door : Try.prog.doorFits [] = true := by kernel_rfl
theorem enter : Try.prog.mayEnter = true := enter_of _ _ wsC lays reflects door
theorem lifts : Try.prog.liftsFinal = false := final_of _ _ wsC
theorem make : Try.prog.make = some .cut := make_of _ _ wsC
theorem laid : laidOutB Try.prog = true := by kernel_rfl
theorem rowed : mapsRowed Try.prog = true := by kernel_rfl
theorem heard : Try.prog.stopsHeard = true := by kernel_rfl
theorem stops : Try.prog.stops = [] := by kernel_rfl
theorem knobs : Try.prog.stopKnobs = [] := by kernel_rfl
end Go.Proofs.Ytenngklohffoaaa.Facts
