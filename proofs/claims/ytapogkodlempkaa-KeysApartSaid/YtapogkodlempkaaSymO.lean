/- The symbolic evaluator: functions that read memory and hand back what is plain. No conditions. -/
import Derived.Test.YtapogkodlempkaaSymL
namespace Go.Proofs.Ytapogkodlempkaa.Sym
set_option linter.unusedVariables false
set_option linter.unusedSimpArgs false
open Go.RowKit
section
variable {P : Program} {C : Cfg}
/-- new letters are left behind -/
def trimT (m : Nat) (t : T (SV × List Blk)) : T (SV × List Blk) := t.bind (goTrim m)
theorem trimT_ok (hC : CfgOk P C) (hP : P.follows .mixedOrders = true) {L : Nat → St → Option (T (Ex × St))} {f : FuncId} {fn : Func} (hf : P.funcs[f]? = some fn) (hb : fn.body.isSome = true) (hlex : lexAll C.E (fn.body.getD .skip) = true)
    (hL : ∀ id body, (id, body) ∈ loopsOf (fn.body.getD .skip) → ∀ st t, L id st = some t → RunOk P fn.ntmps (.block id (.loop body)) st t)
    {ss : List SV} {H : List Blk} {t' : T (SV × List Blk)} (ht : trimT H.length (runF P C L fn (fn.body.getD .skip) ss H) = t') {bs : List Nat} {B : List Value} {w : World} {vs : List Value} (hm : Mem w bs H B w) (hvs : SV.tos B ss = some vs) {Qs : SV × List Blk → Prop} (hq : t'.ok Qs) :
    Calls P f vs.toArray w fun e w' => ∃ s H' B' x, Qs (s, H') ∧ B <+: B' ∧ e = .returned x ∧ s.to B' = some x ∧ Mem w bs H' B' w' :=
  trimE_ok (inl_ok hC hP hf hb hlex hL) ss H t' (by simp only [trimE, inl, Option.map_some]; rw [← ht]; rfl) bs B w vs hm hvs Qs hq
/-- what a function hands back, whatever becomes of its memory -/
def runO (P : Program) (C : Cfg) (L : Nat → St → Option (T (Ex × St))) (fn : Func) (ss : List SV) (H : List Blk) : T Value := (runF P C L fn (fn.body.getD .skip) ss H).bind onlyV
theorem calls_runO (hC : CfgOk P C) (hP : P.follows .mixedOrders = true) {L : Nat → St → Option (T (Ex × St))} {f : FuncId} {fn : Func} (hf : P.funcs[f]? = some fn) (hb : fn.body.isSome = true) (hlex : lexAll C.E (fn.body.getD .skip) = true)
    (hL : ∀ id body, (id, body) ∈ loopsOf (fn.body.getD .skip) → ∀ st t, L id st = some t → RunOk P fn.ntmps (.block id (.loop body)) st t)
    {ss : List SV} {H : List Blk} {t : T Value} (ht : runO P C L fn ss H = t) {v : Value} (hq : t.ok fun x => x = v) {B vs : List Value} {w : World} (hm : Mem w [] H B w) (hv : SV.tos B ss = some vs) :
    Calls P f vs.toArray w fun e w' => e = .returned v ∧ Below w.heap.size w w' := by
  obtain ⟨c, hc⟩ := Option.isSome_iff_exists.1 hb
  rw [hc, Option.getD_some] at hlex hL
  subst ht
  unfold runO at hq
  rw [hc, Option.getD_some] at hq
  refine (calls_of_runF hC hP hf hc hlex hL hv hm (T.ok_bind hq)).mono ?_
  rintro e w' ⟨s, H', B', x, h1, _, h3, rfl, hm'⟩
  refine ⟨?_, hm'.keeps.below⟩
  unfold onlyV at h1
  simp only at h1
  split at h1
  · rename_i y hy
    have h1 : y = v := h1
    have := SV.plain_to hy B'
    rw [h3] at this
    simp only [Option.some.injEq] at this
    rw [this, h1]
  · exact h1.elim
end
end Go.Proofs.Ytapogkodlempkaa.Sym
