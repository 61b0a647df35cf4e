/- Functions with one loop of few rounds, in their callers' places. No conditions. -/
import Derived.Test.YtodfcalaggfldaaTabOct
import Derived.Test.YtodfcalaggfldaaSymG
namespace Go.Proofs.Ytodfcalaggfldaa
set_option linter.unusedVariables false
set_option linter.unusedSimpArgs false
open Go.RowKit Sym

/-- one way with slices that are listed, another one with those that are not -/
def orVec (h1 h2 : List SV → List Blk → Option (T (SV × List Blk))) : List SV → List Blk → Option (T (SV × List Blk)) := fun ss H => match H with
  | [] => h1 ss H
  | .vec _ _ _ _ _ :: _ => h1 ss H
  | _ => h2 ss H
theorem orVec_ok {P : Program} {k : FuncId} {h1 h2 : List SV → List Blk → Option (T (SV × List Blk))} (e1 : EntryOk P k h1) (e2 : EntryOk P k h2) : EntryOk P k (orVec h1 h2) := by
  intro ss H t h
  unfold orVec at h
  split at h
  · exact e1 ss _ t h
  · exact e1 ss _ t h
  · exact e2 ss _ t h
def LUn (P : Program) (C : Cfg) (fn : Func) (n : Nat) : Nat → St → Option (T (Ex × St)) := addL 0 (unrollB (runC P C noL fn.ntmps (loopAt fn 0)) 0 n) noL
/-- a function's text with its one loop, whose rounds are few -/
def inlU (P : Program) (C : Cfg) (fn : Func) (n : Nat) : List SV → List Blk → Option (T (SV × List Blk)) := trimE (inl P C (LUn P C fn n) fn)
theorem inlU_ok {C : Cfg} (hC : CfgOk Try.prog C) {f : FuncId} {fn : Func} (n : Nat) (hf : Try.prog.funcs[f]? = some fn) (hb : fn.body.isSome = true) (hlex : lexAll C (fn.body.getD .skip) = true) (hl : loopsOf (fn.body.getD .skip) = [(0, loopAt fn 0)]) (hll : lexAll C (loopAt fn 0) = true) (hn : loopsOf (loopAt fn 0) = []) : EntryOk Try.prog f (inlU Try.prog C fn n) :=
  trimE_ok (inl_ok hC follows hf hb hlex (one_loop hl fun st t h => by
    rw [addL_same h]; exact unroll_ok hC follows hll (fun _ _ h => by rw [hn] at h; simp at h) n st))
end Go.Proofs.Ytodfcalaggfldaa
