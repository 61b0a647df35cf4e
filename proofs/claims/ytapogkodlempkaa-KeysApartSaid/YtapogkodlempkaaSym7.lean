/- The symbolic evaluator: functions and loops. No conditions. -/
import Derived.Test.YtapogkodlempkaaSym6
namespace Go.Proofs.Ytapogkodlempkaa.Sym
set_option linter.unusedVariables false
set_option linter.unusedSimpArgs false
open Go.RowKit

section
variable {P : Program} {C : Cfg} {N : Nat} {w0 : World} {bs : List Nat}
def resSem (tmps : Array Value) : ResultVar → Sem Value
  | .tmp t => pure (tmps.getD t undef)
  | .cell a t => do loadVar t (← asAddr (tmps.getD a undef))
theorem resV_ok {st : St} {B : List Value} {a : Act} {w : World} (h : Slots N st.fr B a) (hm : Mem w0 bs st.H B w) {r : ResultVar} {Qs : SV → Prop} (hq : (resV P st r).ok Qs) : ∃ s x, Qs s ∧ s.to B = some x ∧ (resSem a.tmps r).run P w = .ok x w := by
  cases r with
  | tmp t =>
    obtain ⟨s, hs, hqs⟩ := leafO_ok hq
    exact ⟨s, _, hqs, h.slot t s hs, rfl⟩
  | cell c t =>
    obtain ⟨s, hqs, x, hx, hr⟩ := evalLoad_ok (P := P) (w0 := w0) (bs := bs) (V := ⟨st.val, fun k => st.H[k]?, 0⟩) ⟨fun _ _ e => h.val e, fun _ _ e => e⟩ hm (o := ⟨none, .load t (.tmp c), 0, "", #[], none⟩) rfl hq
    refine ⟨s, x, hqs, hx, ?_⟩
    have h1 := hr w hm
    have hp : ∃ p, a.tmps.getD c undef = .pointer (some p) := by
      simp only [resV] at hq
      unfold evalLoad at hq
      split at hq
      · split at hq
        · rename_i k off hk
          have := h.val (st := st) (x := .tmp c) hk
          simp only [SV.to] at this
          split at this
          · simp only [Option.some.injEq] at this; exact ⟨_, this.symm⟩
          · cases this
        · rename_i k sz i off hk
          have := h.val (st := st) (x := .tmp c) hk
          simp only [SV.to] at this
          split at this
          · simp only [Option.some.injEq] at this; exact ⟨_, this.symm⟩
          · cases this
        · exact hq.elim
      · exact hq.elim
    obtain ⟨p, hp⟩ := hp
    have hex : execOp a.eval ⟨none, .load t (.tmp c), 0, "", #[], none⟩ = (do pure (Next.value (← Instr.loadAt t (.pointer (some p)))) : Sem Next) := by
      unfold execOp; simp only [Act.eval, hp]
    unfold Oper.quietAt at h1
    rw [hex] at h1
    have h2 := Sem.run_bind' P (Instr.loadAt t (.pointer (some p))) (fun x => Sem.pure (Next.value x)) w
    replace h1 : Oper.quietUpon P (Mem w0 bs st.H B) w x (((Instr.loadAt t (.pointer (some p))).run P w).andThen fun a w' => (Sem.pure (Next.value a)).run P w') := by rw [← h2]; exact h1
    simp only [resSem, hp]
    show (loadVar t p).run P w = _
    have e : (Instr.loadAt t (.pointer (some p))).run P w = (loadVar t p).run P w := rfl
    rw [e] at h1
    cases hl : (loadVar t p).run P w with
    | ok y w' =>
      rw [hl] at h1
      obtain ⟨rfl, rfl⟩ := h1
      rfl
    | halt y w' => rw [hl] at h1; exact h1.elim
theorem resL_ok {st : St} {B : List Value} {a : Act} {w : World} (h : Slots N st.fr B a) (hm : Mem w0 bs st.H B w) : ∀ {l : List ResultVar} {Qs : List SV → Prop}, (resL P st l).ok Qs → ∃ ss xs, Qs ss ∧ SV.tos B ss = some xs ∧ (l.mapM (resSem a.tmps)).run P w = .ok xs w
  | [], _, hq => ⟨[], [], hq, rfl, rfl⟩
  | r :: l, _, hq => by
    obtain ⟨s, x, hq2, hx, hr⟩ := resV_ok h hm (T.ok_bind hq)
    obtain ⟨ss, xs, hq3, hxs, hrs⟩ := resL_ok h hm (T.ok_bind hq2)
    refine ⟨s :: ss, x :: xs, hq3, by simp [SV.tos, hx, hxs], ?_⟩
    rw [List.mapM_cons, run_bind_ok hr, run_bind_ok hrs]
    rfl
theorem oneOr_to {B : List Value} {ss : List SV} {xs : List Value} (h : SV.tos B ss = some xs) : (oneOr ss).to B = some (if hh : xs.toArray.size = 1 then xs.toArray[0] else .tuple xs.toArray) := by
  have hl := tos_length h
  unfold oneOr
  split
  · rename_i s
    simp only [List.length_cons, List.length_nil] at hl
    obtain ⟨x, rfl⟩ := list1 xs hl
    simp only [SV.tos] at h
    split at h
    · rename_i y ys h1 h2
      simp only [Option.some.injEq, List.cons.injEq] at h
      simp [h1, h.1]
    · cases h
  · rename_i hne
    have : ¬ xs.toArray.size = 1 := by
      intro e
      have e1 : ss.length = 1 := by simpa [hl] using e
      match ss, e1 with
      | [s], _ => exact hne s rfl
    rw [dif_neg this]
    exact mkTup_to h
theorem resT_ok {fn : Func} {st : St} {B : List Value} {a : Act} {w : World} (h : Slots N st.fr B a) (hm : Mem w0 bs st.H B w) {Qs : SV → Prop} (hq : (resT P fn st).ok Qs) : ∃ s x, Qs s ∧ s.to B = some x ∧ (results fn a.tmps).run P w = .ok x w := by
  obtain ⟨ss, xs, hq2, hxs, hr⟩ := resL_ok h hm (T.ok_bind hq)
  refine ⟨_, _, hq2, oneOr_to hxs, ?_⟩
  unfold results
  have e : (fn.results.mapM fun
      | .tmp t => (pure (a.tmps.getD t undef) : Sem Value)
      | .cell c t => do loadVar t (← asAddr (a.tmps.getD c undef))) = List.toArray <$> fn.results.toList.mapM (resSem a.tmps) := by
    rw [Array.mapM_eq_mapM_toList]
    rfl
  have hr2 : (List.toArray <$> fn.results.toList.mapM (resSem a.tmps)).run P w = .ok xs.toArray w := by
    rw [map_eq_pure_bind, run_bind_ok hr]
    rfl
  rw [← e] at hr2
  exact run_bind_ok hr2 _
theorem look_args {B : List Value} : ∀ (args : List SV) (vs : List Value) (n : Nat), SV.tos B args = some vs → ∀ t s, look ((args.zipIdx n).map fun p => (p.2, some p.1)) t = some s → n ≤ t ∧ ∃ x, vs[t - n]? = some x ∧ s.to B = some x
  | [], _, _, _, _, _, h => by simp [look] at h
  | u :: args, vs, n, hv, t, s, h => by
    simp only [SV.tos] at hv
    split at hv
    · rename_i x xs h1 h2
      simp only [Option.some.injEq] at hv
      subst hv
      simp only [List.zipIdx_cons, List.map_cons, look] at h
      by_cases e : n = t
      · subst e
        simp only [Nat.beq_refl, cond_true, Option.some.injEq] at h
        subst h
        exact ⟨Nat.le_refl _, x, by simp, h1⟩
      · have hb : Nat.beq n t = false := by
          cases hb : Nat.beq n t
          · rfl
          · exact absurd (Nat.eq_of_beq_eq_true hb) e
        rw [hb, cond_false] at h
        obtain ⟨g1, y, g2, g3⟩ := look_args args xs (n + 1) h2 t s h
        refine ⟨by omega, y, ?_, g3⟩
        rw [show t - n = (t - (n + 1)) + 1 by omega, List.getElem?_cons_succ]
        exact g2
    · cases hv
/-- **what the evaluator says of a function is right** -/
theorem calls_of_runF (hC : CfgOk P C) (hP : P.follows .mixedOrders = true) {L : Nat → St → Option (T (Ex × St))} {f : FuncId} {fn : Func} {c : Code} (hf : P.funcs[f]? = some fn) (hb : fn.body = some c) (hlex : lexAll C.E c = true)
    (hL : ∀ id body, (id, body) ∈ loopsOf c → ∀ st t, L id st = some t → RunOk P fn.ntmps (.block id (.loop body)) st t)
    {args : List SV} {vs : List Value} {H : List Blk} {B : List Value} {w : World} (hv : SV.tos B args = some vs) (hm : Mem w bs H B w) {Qs : SV × List Blk → Prop} (hq : (runF P C L fn c args H).ok Qs) :
    Calls P f vs.toArray w fun e w' => ∃ s H' B' x, Qs (s, H') ∧ B <+: B' ∧ s.to B' = some x ∧ e = .returned x ∧ Mem w bs H' B' w' := by
  unfold runF at hq
  cases hn : Nat.ble args.length fn.ntmps
  · rw [hn] at hq; exact hq.elim
  · rw [hn, cond_true] at hq
    have hle := Nat.le_of_ble_eq_true hn
    have hlen := tos_length hv
    refine calls_of_wp hf hb ?_
    have hsl : Slots fn.ntmps ((args.zipIdx).map fun p => (p.2, some p.1)) B { tmps := vs.toArray ++ Array.replicate (fn.ntmps - vs.toArray.size) undef, defers := [] } := by
      refine ⟨by simp; omega, rfl, fun t s h => ?_⟩
      obtain ⟨-, x, g1, g2⟩ := look_args args vs 0 hv t s h
      rw [g2]
      have hlt : t < vs.length := (List.getElem?_eq_some_iff.1 g1).1
      rw [Array.getD_eq_getD_getElem?, Array.getElem?_append_left (by simpa using hlt)]
      simp only [Nat.sub_zero] at g1
      simp [g1]
    refine runC_ok hC hP c hlex hL _ w bs B B _ w _ _ (List.prefix_refl _) hsl hm (T.ok_bind hq) fun r B' a' w' hq' hp' h' hm' => ?_
    obtain ⟨e, st'⟩ := r
    cases e with
    | exit id => exact hq'.elim
    | normal =>
      obtain ⟨s, x, hq2, hx, hr⟩ := resT_ok h' hm' (T.ok_bind hq')
      exact ⟨h'.defers, x, hr, s, st'.H, B', x, hq2, hp', hx, rfl, hm'⟩
    | ret =>
      obtain ⟨s, x, hq2, hx, hr⟩ := resT_ok h' hm' (T.ok_bind hq')
      exact ⟨h'.defers, x, hr, s, st'.H, B', x, hq2, hp', hx, rfl, hm'⟩
/-- a function that only computes -/
theorem calls_pure (hC : CfgOk P C) (hP : P.follows .mixedOrders = true) {L : Nat → St → Option (T (Ex × St))} {f : FuncId} {fn : Func} {c : Code} (hf : P.funcs[f]? = some fn) (hb : fn.body = some c) (hlex : lexAll C.E c = true)
    (hL : ∀ id body, (id, body) ∈ loopsOf c → ∀ st t, L id st = some t → RunOk P fn.ntmps (.block id (.loop body)) st t)
    {vs : List Value} {v : Value} (hq : (runF P C L fn c (vs.map .v) []).ok fun r => r.1.to [] = some v) (w : World) :
    Calls P f vs.toArray w fun e w' => e = .returned v ∧ Below w.heap.size w w' := by
  refine (calls_of_runF (bs := []) (B := []) (w := w) hC hP hf hb hlex hL (tos_plain [] vs) ⟨⟨rfl, by simp, by simp [ExBlk], by simp [ExBlk]⟩, .refl _ _, by simp [ExBlk]⟩ hq).mono ?_
  rintro e w' ⟨s, H', B', x, hs, hp, hx, rfl, hm⟩
  have := SV.to_mono hp hs
  rw [hx] at this
  simp only [Option.some.injEq] at this
  subst this
  exact ⟨rfl, hm.keeps.below⟩
def onlyV : SV × List Blk → T Value
  | (s, _) => match s.plain with
    | some x => .leaf x
    | none => .stuck 53
/-- what a function hands back that only computes -/
def runV (P : Program) (C : Cfg) (L : Nat → St → Option (T (Ex × St))) (fn : Func) (vs : List Value) : T Value := (runF P C L fn (fn.body.getD .skip) (vs.map .v) []).bind onlyV
theorem calls_runV (hC : CfgOk P C) (hP : P.follows .mixedOrders = true) {L : Nat → St → Option (T (Ex × St))} {f : FuncId} {fn : Func} (hf : P.funcs[f]? = some fn) (hb : fn.body.isSome = true) (hlex : lexAll C.E (fn.body.getD .skip) = true)
    (hL : ∀ id body, (id, body) ∈ loopsOf (fn.body.getD .skip) → ∀ st t, L id st = some t → RunOk P fn.ntmps (.block id (.loop body)) st t)
    {vs : List Value} {t : T Value} (ht : runV P C L fn vs = t) {v : Value} (hq : t.ok fun x => x = v) (w : World) :
    Calls P f vs.toArray w fun e w' => e = .returned v ∧ Below w.heap.size w w' := by
  subst ht
  have hb' : fn.body = some (fn.body.getD .skip) := by
    cases h : fn.body with
    | none => rw [h] at hb; cases hb
    | some c => rfl
  refine calls_pure hC hP hf hb' hlex hL (T.ok_mono (fun r h => ?_) (T.ok_bind hq)) w
  obtain ⟨s, H⟩ := r
  simp only [onlyV] at h
  split at h
  · rename_i x hx
    have h : x = v := h
    subst h
    exact SV.plain_to hx []
  · exact (h : False).elim
def noL : Nat → St → Option (T (Ex × St)) := fun _ _ => none
theorem noL_ok {c : Code} : ∀ id body, (id, body) ∈ loopsOf c → ∀ st t, noL id st = some t → RunOk P N (.block id (.loop body)) st t := fun _ _ _ _ _ h => by cases h
def noG : GTab := fun _ _ _ _ => none
theorem noG_ok : GOk P noG := fun _ _ _ _ _ h => by cases h
/-- functions that only compute alone are called -/
def onlyS (P : Program) (S : Tab) : Cfg := ⟨S, noG, effE P []⟩
theorem onlyS_ok {S : Tab} (h : TabOk P S) : CfgOk P (onlyS P S) := ⟨h, noG_ok⟩
def noS : Tab := fun _ _ => none
theorem noS_ok : TabOk P noS := fun _ _ _ h => by cases h
/-- a contract as a tree -/
def cTree : Option (List Prop × Value) → Option (T Value)
  | some (p, v) => some (needs p (.leaf v))
  | none => none
def addS (k : FuncId) (h : List Value → Option (List Prop × Value)) (S : Tab) : Tab := fun f xs => bif Nat.beq f k then cTree (h xs) else S f xs
theorem addS_ok {P : Program} {k : FuncId} {h : List Value → Option (List Prop × Value)} {S : Tab} (hS : TabOk P S) (hg : isGo P k = true) (hh : ∀ xs p v, h xs = some (p, v) → (∀ q ∈ p, q) → ∀ w, Calls P k xs.toArray w fun e w' => e = .returned v ∧ Below w.heap.size w w') : TabOk P (addS k h S) := by
  intro f xs t hf
  unfold addS at hf
  cases hb : Nat.beq f k
  · rw [hb] at hf; exact hS f xs t hf
  · rw [hb, cond_true] at hf
    obtain rfl : f = k := Nat.eq_of_beq_eq_true hb
    unfold cTree at hf
    split at hf
    · rename_i p v hp
      simp only [Option.some.injEq] at hf
      subst hf
      refine ⟨hg, fun v' hv => ?_⟩
      obtain ⟨h1, h2⟩ := needs_ok hv
      have h2 : v = v' := h2
      subst h2
      exact hh xs p v hp h1
    · cases hf
end
end Go.Proofs.Ytapogkodlempkaa.Sym
