/- Closed facts of the whole program. No conditions. -/
import Derived.Test.YtodfcalaggfldaaRows
import Derived.JoinedOf
import Derived.KernelRfl
namespace Go.Proofs.Ytodfcalaggfldaa.Facts
set_option linter.unusedVariables false
set_option linter.unusedSimpArgs false
open Go
def codes : List Nat := [104, 97, 114, 110, 101, 115, 115, 32, 57, 53, 99, 102, 98, 97, 101, 56, 57, 57, 98, 101, 56, 56, 97, 57, 57, 50, 51, 100, 52, 49, 53, 53, 49, 51, 99, 98, 100, 49, 100, 54, 97, 51, 57, 52, 56, 55, 98, 50, 56, 51, 57, 101, 101, 102, 49, 53, 99, 54, 52, 53, 101, 57, 52, 100, 48, 56, 51, 98, 48, 100, 100, 55, 32, 99, 117, 116, 32, 97, 116, 32, 97, 110, 97, 98, 114, 97, 110, 99, 104, 47, 97, 110, 97, 98, 114, 97, 110, 99, 104, 108, 97, 119, 50, 52, 46, 67, 111, 110, 110, 80, 97, 105, 114, 32, 97, 110, 97, 98, 114, 97, 110, 99, 104, 47, 97, 110, 97, 98, 114, 97, 110, 99, 104, 108, 97, 119, 49, 48, 46, 80, 97, 99, 107, 101, 116, 80, 117, 116, 115]
set_option maxRecDepth 100000 in
theorem initOf : Try.prog.initOrder = String.ofList (codes.map Char.ofNat) := by kernel_rfl
theorem initList : Try.prog.initOrder.toList = codes.map Char.ofNat := by rw [initOf, String.toList_ofList]
theorem lays : Try.prog.laysLater = false := by kernel_rfl
theorem reflects : Try.prog.bearsReflect = false := by kernel_rfl
def chunks : List (List Char) := [[99, 117, 116], [97, 116], [97, 110, 97, 98, 114, 97, 110, 99, 104, 47, 97, 110, 97, 98, 114, 97, 110, 99, 104, 108, 97, 119, 50, 52, 46, 67, 111, 110, 110, 80, 97, 105, 114], [97, 110, 97, 98, 114, 97, 110, 99, 104, 47, 97, 110, 97, 98, 114, 97, 110, 99, 104, 108, 97, 119, 49, 48, 46, 80, 97, 99, 107, 101, 116, 80, 117, 116, 115]].map (List.map Char.ofNat)
theorem ws : behindMainWord (wordsSigns Try.prog.initOrder.toList) = chunks := by rw [initList]; kernel_rfl
theorem wsC : behindMainWord (wordsSigns Try.prog.initOrder.toList) = ['c', 'u', 't'] :: chunks.tail := by rw [ws]; kernel_rfl
theorem cutL : "cut".toList = ['c', 'u', 't'] := by
  rw [show "cut" = String.ofList ['c', 'u', 't'] from rfl, String.toList_ofList]
theorem lit_ne {s : String} (h : s ≠ "cut") : ¬ (['c', 'u', 't'] = s.toList) := by
  intro e
  exact h (String.toList_inj.mp (e.symm.trans cutL.symm))
theorem strip_none : ∀ (os : List String) (ws : List (List Char)), (∀ o ∈ os, o ≠ "cut") → stripLifts os (['c', 'u', 't'] :: ws) = ([], ['c', 'u', 't'] :: ws)
  | [], _, _ => rfl
  | o :: os, ws, h => by
    rw [stripLifts, if_neg, strip_none os ws (fun o ho => h o (List.mem_cons_of_mem _ ho))]
    rw [beq_iff_eq]
    exact lit_ne (h o (List.mem_cons_self ..))
theorem strip_cut (ws : List (List Char)) : stripLifts liftWords (['c', 'u', 't'] :: ws) = ([], ['c', 'u', 't'] :: ws) :=
  strip_none _ _ (by unfold liftWords; decide)
theorem beq_no {s : String} (h : s ≠ "cut") : (['c', 'u', 't'] == s.toList) = false := by
  cases e : (['c', 'u', 't'] == s.toList) with
  | false => rfl
  | true => exact absurd (beq_iff_eq.mp e) (lit_ne h)
theorem make_of (P : Program) (ws : List (List Char)) (h : behindMainWord (wordsSigns P.initOrder.toList) = ['c', 'u', 't'] :: ws) : P.make = some .cut := by
  unfold Program.make
  rw [h]
  simp only [beq_no (show "gc" ≠ "cut" by decide), beq_no (show "spec" ≠ "cut" by decide), cutL]
  simp
theorem lifts_of (P : Program) (ws : List (List Char)) (h : behindMainWord (wordsSigns P.initOrder.toList) = ['c', 'u', 't'] :: ws) : P.headLifts = [] := by
  unfold Program.headLifts
  simp only [h, strip_cut, cutL, List.head?_cons, beq_self_eq_true, if_true]
theorem final_of (P : Program) (ws : List (List Char)) (h : behindMainWord (wordsSigns P.initOrder.toList) = ['c', 'u', 't'] :: ws) : P.liftsFinal = false := by
  unfold Program.liftsFinal
  rw [lifts_of P ws h]
  simp [h]
theorem enter_of (P : Program) (ws : List (List Char)) (h : behindMainWord (wordsSigns P.initOrder.toList) = ['c', 'u', 't'] :: ws)
    (lays : P.laysLater = false) (rfls : P.bearsReflect = false) (door : P.doorFits [] = true) : P.mayEnter = true := by
  unfold Program.mayEnter
  rw [h]
  simp only [strip_cut, cutL, lays, rfls, door]
  simp
theorem door : Try.prog.doorFits [] = true := by kernel_rfl
theorem enter : Try.prog.mayEnter = true := enter_of _ _ wsC lays reflects door
theorem lifts : Try.prog.liftsFinal = false := final_of _ _ wsC
theorem make : Try.prog.make = some .cut := make_of _ _ wsC
theorem laid : laidOutB Try.prog = true := by kernel_rfl
theorem rowed : mapsRowed Try.prog = true := by kernel_rfl
theorem heard : Try.prog.stopsHeard = true := by kernel_rfl
theorem stops : Try.prog.stops = [] := by kernel_rfl
theorem knobs : Try.prog.stopKnobs = [] := by kernel_rfl
end Go.Proofs.Ytodfcalaggfldaa.Facts
