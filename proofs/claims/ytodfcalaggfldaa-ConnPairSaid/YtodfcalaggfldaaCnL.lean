/- Loops whose memory stays as it is told: what a round has made is let go, what is known of the letters kept stays known. No conditions. -/
import Derived.Test.YtodfcalaggfldaaCan
namespace Go.Proofs.Ytodfcalaggfldaa.Sym
set_option linter.unusedVariables false
set_option linter.unusedSimpArgs false
open Go.RowKit
def dropAll : List Nat → List Blk → List Blk
  | [], H => H
  | j :: js, H => dropAll js (H.set j .gone)
theorem drops_mem {w0 : World} {bs : List Nat} {B : List Value} {w : World} : ∀ (js : List Nat) {H : List Blk}, Mem w0 bs H B w → Mem w0 bs (dropAll js H) B w
  | [], _, h => h
  | j :: js, _, h => drops_mem js (h.drop j)
/-- a round's state: these slots, the first n letters but for those of js -/
def St.onlyD (keep : List Nat) (n : Nat) (js : List Nat) (st : St) : St := ⟨keep.map fun t => (t, openO (cutS n (look st.fr t))), dropAll js ((st.H.take n).map (cutBlk n))⟩
theorem onlyD_ok {N n0 : Nat} (keep js : List Nat) : TidyOk N n0 (fun st => st.onlyD keep n0 js) := by
  intro w0 bs st B a w h hm hn
  have hp : B.take n0 <+: B := List.take_prefix n0 B
  have hl : (B.take n0).length = n0 := by simp; omega
  refine ⟨B.take n0, List.prefix_refl _, ?_, ?_⟩
  · have hs := only_slots h hp keep
    rw [hl] at hs
    refine ⟨hs.size, hs.defers, fun t s e0 => ?_⟩
    have e := look_only (g := fun t => openO (cutS n0 (look st.fr t))) e0
    cases hc : cutS n0 (look st.fr t) with
    | none => simp only [hc] at e; cases e
    | some s0 =>
      simp only [hc, openO, Option.some.injEq] at e
      subst e
      rw [openS_to]
      have h0 : ∀ {l : List Nat}, t ∈ l → look (l.map fun t => (t, cutS n0 (look st.fr t))) t = some s0 := by
        intro l hl
        induction l with
        | nil => cases hl
        | cons u l ih =>
          simp only [List.map_cons, look]
          cases hb : Nat.beq u t
          · rw [cond_false]
            rcases List.mem_cons.1 hl with rfl | hl
            · rw [Nat.beq_refl] at hb; cases hb
            · exact ih hl
          · rw [cond_true, Nat.eq_of_beq_eq_true hb]; exact hc
      have hin : ∀ {l : List Nat} {s : SV}, look (l.map fun t => (t, openO (cutS n0 (look st.fr t)))) t = some s → t ∈ l := by
        intro l s hl
        induction l with
        | nil => cases hl
        | cons u l ih =>
          simp only [List.map_cons, look] at hl
          cases hb : Nat.beq u t
          · rw [hb, cond_false] at hl; exact List.mem_cons_of_mem _ (ih hl)
          · rw [Nat.eq_of_beq_eq_true hb]; exact List.mem_cons_self ..
      have hmem : t ∈ keep := hin e0
      exact hs.slot t s0 (h0 hmem)
  · have := only_mem hm hp
    rw [hl] at this
    exact drops_mem js this
/-- a loop within another one's body -/
def inAt (b : Code) (k : Nat) : Code := ((loopsOf b).getD k (0, .skip)).2
/-- a function's text in its caller's place; of what it makes there stays what is handed back or hangs on what was there -/
def inlC (P : Program) (C : Cfg) (L : Nat → St → Option (T (Ex × St))) (fn : Func) : List SV → List Blk → Option (T (SV × List Blk)) := fun ss H => some (canT H.length (runF P C L fn (fn.body.getD .skip) ss H))
theorem inlC_ok {P : Program} {C : Cfg} (hC : CfgOk P C) (hP : P.follows .mixedOrders = true) {L : Nat → St → Option (T (Ex × St))} {f : FuncId} {fn : Func} (hf : P.funcs[f]? = some fn) (hb : fn.body.isSome = true) (hlex : lexAll C (fn.body.getD .skip) = true)
    (hL : ∀ id body, (id, body) ∈ loopsOf (fn.body.getD .skip) → ∀ st t, L id st = some t → RunOk P fn.ntmps (.block id (.loop body)) st t) : EntryOk P f (inlC P C L fn) := by
  intro ss H t h bs B w vs hm hvs Qs hq
  simp only [inlC, Option.some.injEq] at h
  exact canT_ok hC hP hf hb hlex hL h hm hvs hq
end Go.Proofs.Ytodfcalaggfldaa.Sym
