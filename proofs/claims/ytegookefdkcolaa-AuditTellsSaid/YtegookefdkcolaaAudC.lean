/- Audit: what is wrong with a path. No conditions. -/
import Derived.Test.YtegookefdkcolaaAudB
namespace Go.Proofs.Ytegookefdkcolaa
set_option linter.unusedVariables false
set_option linter.unusedSimpArgs false
open Go.RowKit Sym Go.ChangeShapes Go.WideShapes Go.ChangeMaps

def limP (p : Pt) : Prop := inB p.id 255 = true ∧ inB p.prio 255 = true ∧ inB p.window 16 = true ∧ inB p.pipe 16 = true ∧ inB p.trip 64 = true ∧ inB p.told 65535 = true ∧ inB p.rest 32 = true
def kindA (p : Pt) : Prop := p.st = 0 ∨ p.st = 1 ∨ p.st = 2 ∨ p.st = 3 ∨ p.st = 5
def formP (p : Pt) : Prop := (p.st = 0 ∧ p.conn = 1 ∧ p.window = 0) ∨ (p.st = 1 ∧ p.conn = 2 ∧ ¬ p.window = 0) ∨ (p.st = 2 ∧ p.conn = 3 ∧ ¬ p.window = 0) ∨ (p.st = 3 ∧ p.conn = 3 ∧ ¬ p.window = 0 ∧ ¬ p.rest = 0) ∨ (p.st = 5 ∧ p.conn = 4 ∧ ¬ p.window = 0)
instance (p : Pt) : Decidable (limP p) := by unfold limP; infer_instance
instance (p : Pt) : Decidable (kindA p) := by unfold kindA; infer_instance
instance (p : Pt) : Decidable (formP p) := by unfold formP; infer_instance
def pathE (p : Pt) : Int := if limP p then (if kindA p then (if formP p then 0 else 4) else 7) else 3
theorem pathE_3 {p : Pt} (h : ¬ limP p) : Value.int .i64 3 = Value.int .i64 (pathE p) := by unfold pathE; rw [if_neg h]
theorem pathE_7 {p : Pt} (h : limP p) (k : ¬ kindA p) : Value.int .i64 7 = Value.int .i64 (pathE p) := by unfold pathE; rw [if_pos h, if_neg k]
theorem pathE_4 {p : Pt} (h : limP p) (k : kindA p) (f : ¬ formP p) : Value.int .i64 4 = Value.int .i64 (pathE p) := by unfold pathE; rw [if_pos h, if_pos k, if_neg f]
theorem pathE_0 {p : Pt} (h : limP p) (k : kindA p) (f : formP p) : Value.int .i64 0 = Value.int .i64 (pathE p) := by unfold pathE; rw [if_pos h, if_pos k, if_pos f]
theorem inB_not {n m : Int} (h : (!inB n m) = true) : ¬ inB n m = true := by cases e : inB n m <;> simp_all
theorem inB_yes {n m : Int} (h : (!inB n m) = false) : inB n m = true := by cases e : inB n m <;> simp_all
theorem path_forms (p : Pt) (h : limP p) : (p.st = 0 → pathE p = if p.conn = 1 ∧ p.window = 0 then 0 else 4) ∧ (p.st = 1 → pathE p = if p.conn = 2 ∧ ¬ p.window = 0 then 0 else 4) ∧ (p.st = 2 → pathE p = if p.conn = 3 ∧ ¬ p.window = 0 then 0 else 4) ∧
    (p.st = 3 → pathE p = if p.conn = 3 ∧ ¬ p.window = 0 ∧ ¬ p.rest = 0 then 0 else 4) ∧ (p.st = 5 → pathE p = if p.conn = 4 ∧ ¬ p.window = 0 then 0 else 4) ∧ (¬ kindA p → pathE p = 7) := by
  unfold pathE
  rw [if_pos h]
  refine ⟨fun e => ?_, fun e => ?_, fun e => ?_, fun e => ?_, fun e => ?_, fun e => if_neg e⟩
  all_goals
    rw [if_pos (show kindA p by unfold kindA; omega)]
    by_cases c : formP p
    · rw [if_pos c, if_pos (by unfold formP at c; omega)]
    · rw [if_neg c, if_neg (by unfold formP at c; omega)]
theorem six_kinds (p : Pt) : p.st = 0 ∨ p.st = 1 ∨ p.st = 2 ∨ p.st = 3 ∨ p.st = 5 ∨ (¬ kindA p ∧ ¬ p.st = 0 ∧ ¬ p.st = 1 ∧ ¬ p.st = 2 ∧ ¬ p.st = 3 ∧ ¬ p.st = 5) := by unfold kindA; omega
set_option maxRecDepth 100000 in
set_option maxHeartbeats 2000000 in
theorem ref44_path (p : Pt) (w : World) : Calls Try.prog 21 #[p.v] w fun e w' => e = .returned (.int .i64 (pathE p)) ∧ Below w.heap.size w w' := by
  refine calls_runO CBr_ok follows Try.func21 (by kernel_rfl) (lexAllF_ok (by kernel_rfl)) (noloops (by kernel_rfl)) (rpath_run p) ?_ (mem_nilP w) rfl
  refine t_ite (fun h => t_leaf (pathE_3 fun g => inB_not h g.1)) fun h1 => t_ite (fun h => t_leaf (pathE_3 fun g => inB_not h g.2.1)) fun h2 => t_ite (fun h => t_leaf (pathE_3 fun g => inB_not h g.2.2.1)) fun h3 => t_ite (fun h => t_leaf (pathE_3 fun g => inB_not h g.2.2.2.1)) fun h4 => t_ite (fun h => t_leaf (pathE_3 fun g => inB_not h g.2.2.2.2.1)) fun h5 => t_ite (fun h => t_leaf (pathE_3 fun g => inB_not h g.2.2.2.2.2.1)) fun h6 => t_ite (fun h => t_leaf (pathE_3 fun g => inB_not h g.2.2.2.2.2.2)) fun h7 => ?_
  have lim : limP p := ⟨inB_yes h1, inB_yes h2, inB_yes h3, inB_yes h4, inB_yes h5, inB_yes h6, inB_yes h7⟩
  obtain ⟨f0, f1, f2, f3, f5, f7⟩ := path_forms p lim
  clear h1 h2 h3 h4 h5 h6 h7 lim
  generalize pathE p = E at *
  rcases six_kinds p with s | s | s | s | s | ⟨s7, s0, s1, s2, s3, s5⟩
  · rw [f0 s]; simp [T.ok, s]; try grind
  · rw [f1 s]; simp [T.ok, s]; try grind
  · rw [f2 s]; simp [T.ok, s]; try grind
  · rw [f3 s]; simp [T.ok, s]; try grind
  · rw [f5 s]; simp [T.ok, s]; try grind
  · rw [f7 s7]; simp [T.ok, s0, s1, s2, s3, s5]
set_option maxRecDepth 100000 in
set_option maxHeartbeats 2000000 in
theorem audit_path (p : Pt) (w : World) : Calls Try.prog 17 #[p.v] w fun e w' => e = .returned (.int .i64 (pathE p)) ∧ Below w.heap.size w w' := by
  refine calls_runO CBr_ok follows Try.func17 (by kernel_rfl) (lexAllF_ok (by kernel_rfl)) (noloops (by kernel_rfl)) (path_run p) ?_ (mem_nilP w) rfl
  refine t_need ⟨by decide, by decide⟩ <| t_ite (fun h => t_leaf (pathE_3 fun g => inB_not h g.1)) fun h1 => t_need ⟨by decide, by decide⟩ <| t_ite (fun h => t_leaf (pathE_3 fun g => inB_not h g.2.1)) fun h2 => t_need ⟨by decide, by decide⟩ <| t_ite (fun h => t_leaf (pathE_3 fun g => inB_not h g.2.2.1)) fun h3 => t_need ⟨by decide, by decide⟩ <| t_ite (fun h => t_leaf (pathE_3 fun g => inB_not h g.2.2.2.1)) fun h4 => t_need ⟨by decide, by decide⟩ <| t_ite (fun h => t_leaf (pathE_3 fun g => inB_not h g.2.2.2.2.1)) fun h5 => t_need ⟨by decide, by decide⟩ <| t_ite (fun h => t_leaf (pathE_3 fun g => inB_not h g.2.2.2.2.2.1)) fun h6 => t_need ⟨by decide, by decide⟩ <| t_ite (fun h => t_leaf (pathE_3 fun g => inB_not h g.2.2.2.2.2.2)) fun h7 => ?_
  have lim : limP p := ⟨inB_yes h1, inB_yes h2, inB_yes h3, inB_yes h4, inB_yes h5, inB_yes h6, inB_yes h7⟩
  obtain ⟨f0, f1, f2, f3, f5, f7⟩ := path_forms p lim
  clear h1 h2 h3 h4 h5 h6 h7 lim
  generalize pathE p = E at *
  rcases six_kinds p with s | s | s | s | s | ⟨s7, s0, s1, s2, s3, s5⟩
  · rw [f0 s]; simp [T.ok, s]; try grind
  · rw [f1 s]; simp [T.ok, s]; try grind
  · rw [f2 s]; simp [T.ok, s]; try grind
  · rw [f3 s]; simp [T.ok, s]; try grind
  · rw [f5 s]; simp [T.ok, s]; try grind
  · rw [f7 s7]; simp [T.ok, s0, s1, s2, s3, s5]
end Go.Proofs.Ytegookefdkcolaa
