/- Trees whose new letters are put in order, and of which none is kept that is not handed back. No conditions. -/
import Derived.Test.YtodfcalaggfldaaSymG
namespace Go.Proofs.Ytodfcalaggfldaa.Sym
set_option linter.unusedVariables false
set_option linter.unusedSimpArgs false
open Go.RowKit
def canSt (r : SV × List Blk) : St := ⟨[(0, some r.1)], r.2⟩
def goCan (n0 : Nat) (r : SV × List Blk) : T (SV × List Blk) := match look ((canSt r).ordC n0 [0]).fr 0 with
  | some s => .leaf (s, ((canSt r).ordC n0 [0]).H)
  | none => .stuck 132
def canT (n0 : Nat) (t : T (SV × List Blk)) : T (SV × List Blk) := t.bind (goCan n0)
/-- a contract out of a tree whose letters are put in order -/
theorem canT_ok {P : Program} {C : Cfg} (hC : CfgOk P C) (hP : P.follows .mixedOrders = true) {L : Nat → St → Option (T (Ex × St))} {f : FuncId} {fn : Func} (hf : P.funcs[f]? = some fn) (hb : fn.body.isSome = true) (hlex : lexAll C (fn.body.getD .skip) = true)
    (hL : ∀ id body, (id, body) ∈ loopsOf (fn.body.getD .skip) → ∀ st t, L id st = some t → RunOk P fn.ntmps (.block id (.loop body)) st t)
    {ss : List SV} {H : List Blk} {t' : T (SV × List Blk)} (ht : canT H.length (runF P C L fn (fn.body.getD .skip) ss H) = t') {bs : List Nat} {B : List Value} {w : World} {vs : List Value} (hm : Mem w bs H B w) (hvs : SV.tos B ss = some vs) {Qs : SV × List Blk → Prop} (hq : t'.ok Qs) :
    Calls P f vs.toArray w fun e w' => ∃ s H' B' x, Qs (s, H') ∧ B <+: B' ∧ e = .returned x ∧ s.to B' = some x ∧ Mem w bs H' B' w' := by
  subst ht
  refine (inl_ok hC hP hf hb hlex hL ss H _ rfl bs B w vs hm hvs _ (T.ok_bind hq)).mono ?_
  rintro e w' ⟨s0, H0, B0, x, hQ, hp, rfl, hx, hm'⟩
  have hsl : Slots 1 (canSt (s0, H0)).fr B0 ⟨#[x], []⟩ := by
    refine ⟨rfl, rfl, fun t s e => ?_⟩
    simp only [canSt, look] at e
    cases hb : Nat.beq 0 t
    · rw [hb] at e; cases e
    · rw [hb, cond_true, Option.some.injEq] at e
      have := Nat.eq_of_beq_eq_true hb
      subst this
      subst e
      exact hx
  have hl : H.length = B.length := hm.sat.len.symm
  have hle : H.length ≤ B0.length := by rw [hl]; exact hp.length_le
  obtain ⟨B', h1, h2, h3⟩ := ordC_ok (n0 := H.length) (M := [0]) hsl hm' hle
  have ht : B0.take H.length = B := by rw [hl]; exact (List.prefix_iff_eq_take.1 hp).symm
  rw [ht] at h1
  unfold goCan at hQ
  split at hQ
  · rename_i s hs
    exact ⟨s, _, B', x, hQ, h1, rfl, h2.slot 0 s hs, h3⟩
  · exact hQ.elim
end Go.Proofs.Ytodfcalaggfldaa.Sym
