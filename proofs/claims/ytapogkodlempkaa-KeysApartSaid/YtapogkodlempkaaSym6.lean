/- The symbolic evaluator: code. No conditions. -/
import Derived.Test.YtapogkodlempkaaSym6b
namespace Go.Proofs.Ytapogkodlempkaa.Sym
set_option linter.unusedVariables false
set_option linter.unusedSimpArgs false
open Go.RowKit

/-- the tables, and which operations change memory -/
structure Cfg where
  S : Tab
  G : GTab
  E : Oper → Bool
structure CfgOk (P : Program) (C : Cfg) : Prop where
  S : TabOk P C.S
  G : GOk P C.G
/-- which operations change memory; fs: the functions that do -/
def effE (P : Program) (fs : List Nat) (o : Oper) : Bool :=
  match o.op with
  | .box .. | .alloc _ | .store .. | .buildSlice .. | .makeSlice .. => true
  | .slice t .. => match P.underlying t with | some .string => false | _ => true
  | .call c => match c.callee with
    | .builtin .append => true
    | .value (.func f) => fs.any (Nat.beq f)
    | .builtin _ => false
    | _ => true
  | .convert src dst _ => match P.underlying src, P.underlying dst with
    | some .string, some (.slice _) => true
    | some (.slice _), some .string => true
    | _, _ => false
  | _ => false
def T.gather {α β : Type} (f : α → List β) : T α → List β
  | .leaf a => f a
  | .ite _ t e => t.gather f ++ e.gather f
  | .need _ t => t.gather f
  | .stuck _ => []
section
variable {P : Program} {C : Cfg} {N : Nat}
/-! ### Code -/
def isLoop : Code → Bool
  | .loop _ => true
  | _ => false
def loopBody : Code → Code
  | .loop b => b
  | c => c
theorem isLoop_eq {c : Code} (h : isLoop c = true) : c = .loop (loopBody c) := by
  cases c <;> first | rfl | cases h
inductive Ex where
  | normal
  | exit (id : Nat)
  | ret
def Ex.to : Ex → Exit
  | .normal => .normal
  | .exit id => .exit id
  | .ret => .ret
section
variable (P : Program) (C : Cfg) (L : Nat → St → Option (T (Ex × St))) (N : Nat)
/-- which letters a region touches, and by which operation, as far as one sees -/
def scanOps (ops : Array Oper) : List Oper → Nat → St → List (Nat × Nat)
  | [], _, _ => []
  | o :: rest, i, st => match wantedS ops st o with
    | some true => T.gather (fun p => (p.2.touch st.H.length).map (fun q => (i, q)) ++ T.gather (scanOps ops rest (i + 1)) (putR N (isGuard ops i) o.dst st p)) (evalE P C.S C.G (st.view o) o)
    | some false => scanOps ops rest (i + 1) (st.put o.dst (.v undef))
    | none => []
/-- which letters an operation may see: each that touches them comes for sure ahead of it or behind it -/
def visOf (ops : Array Oper) (W : List (Nat × Nat)) (j q : Nat) : Bool :=
  W.all fun p => !Nat.beq p.2 q || Nat.beq p.1 j || depB .any ops p.1 ops.size j || depB .any ops j ops.size p.1
def runRegion (ops : Array Oper) (draw : Bool) (st : St) : T St :=
  bif draw then runOpsD P C.S C.G N .any C.E (visOf ops (scanOps P C N ops ops.toList 0 st)) ops ops.toList 0 st else runOps P C.S C.G N ops ops.toList 0 st
def runC : Code → St → T (Ex × St)
  | .skip, st => .leaf (.normal, st)
  | .region _ ops draw, st => (runRegion P C N ops draw st).bind fun st => .leaf (.normal, st)
  | .seq a b, st => (runC a st).bind fun r => match r.1 with
    | .normal => runC b r.2
    | _ => .leaf r
  | .cond c a b, st => match st.val c with
    | some .tt => runC a st
    | some .ff => runC b st
    | some (.v (.bool x)) => .ite x (runC a (st.knows c .tt)) (runC b (st.knows c .ff))
    | _ => .stuck 36
  | .block id c, st => bif isLoop c then (match L id st with | some t => t | none => .stuck (3000 + id)) else
    (runC c st).bind fun r => match r.1 with
      | .exit j => bif Nat.beq j id then .leaf (.normal, r.2) else .leaf r
      | _ => .leaf r
  | .exit id, st => .leaf (.exit id, st)
  | .ret, st => .leaf (.ret, st)
  | _, _ => .stuck 37
end
/-- each region that draws its order may be walked in the order of the text -/
def lexAll (E : Oper → Bool) : Code → Bool
  | .region _ ops draw => bif draw then lexD .any E ops ops.size 0 (Array.replicate ops.size false) else true
  | .seq a b => lexAll E a && lexAll E b
  | .cond _ a b => lexAll E a && lexAll E b
  | .block _ c => bif isLoop c then true else lexAll E c
  | _ => true
def loopsOf : Code → List (Nat × Code)
  | .seq a b => loopsOf a ++ loopsOf b
  | .cond _ a b => loopsOf a ++ loopsOf b
  | .block id c => bif isLoop c then [(id, loopBody c)] else loopsOf c
  | _ => []
/-- what the evaluator says of c from st is right -/
def RunOk (P : Program) (N : Nat) (c : Code) (st : St) (t : T (Ex × St)) : Prop :=
  ∀ (w0 : World) (bs : List Nat) (pre B : List Value) (a : Act) (w : World) (Qs : Ex × St → Prop) (Q : Exit → Act → World → Prop), pre <+: B → Slots N st.fr B a → Mem w0 bs st.H B w → t.ok Qs →
    (∀ r B' a' w', Qs r → pre <+: B' → Slots N r.2.fr B' a' → Mem w0 bs r.2.H B' w' → Q r.1.to a' w') → c.wp P Q a w
theorem region_ok (hC : CfgOk P C) (hP : P.follows .mixedOrders = true) (id : Nat) (ops : Array Oper) (draw : Bool) (st : St) (hlex : lexAll C.E (.region id ops draw) = true) : RunOk P N (.region id ops draw) st ((runRegion P C N ops draw st).bind fun st => .leaf (.normal, st)) := by
  intro w0 bs pre B a w Qs Q hp h hm hq hQ
  have hq := T.ok_bind hq
  unfold runRegion at hq
  cases draw
  · rw [cond_false] at hq
    exact wp_region_list (runOps_ok hC.S hC.G (fun st B a w hqs hp h hm => hQ (.normal, st) B a w hqs hp h hm) ops.toList 0 st B a w hp h hm hq)
  · rw [cond_true] at hq
    simp only [lexAll, cond_true] at hlex
    have hsz : ops.toList.length = ops.size := by simp
    have hA := AG_lex (P := P) (S := C.S) (G := C.G) (N := N) (E := C.E) (V := visOf ops (scanOps P C N ops ops.toList 0 st)) (md := .any) (QQ := fun st' => ∃ st2, SEq st2 st' ∧ Qs (.normal, st2)) (fun a b hab ⟨c, h1, h2⟩ => ⟨c, ⟨fun t => (h1.1 t).trans (hab.1 t), h1.2.trans hab.2⟩, h2⟩)
      ops.toList 0 (Array.replicate ops.size false) st (by simp) (by rw [hsz]; exact hlex) (fun j o _ hl => by
        rw [Array.getD_eq_getD_getElem?, Array.getElem?_replicate] at hl
        split at hl <;> cases hl) (T.ok_mono (fun a ha => ⟨a, SEq.refl a, ha⟩) hq)
    rw [hsz] at hA
    refine wp_region_any hP (AG_sound hC.S hC.G (pre := pre) (fun st' B' a' w' ⟨st2, he, hqs⟩ hp' h' hm' => ?_) _ _ st B a _ hp h hm.drew hA)
    exact hQ (.normal, st2) B' a' w' hqs hp' ⟨h'.size, h'.defers, fun t s e => h'.slot t s (by rw [← he.1 t]; exact e)⟩ (by rw [show (Ex.normal, st2).2.H = st'.H from he.2]; exact hm')
theorem runC_ok (hC : CfgOk P C) (hP : P.follows .mixedOrders = true) {L : Nat → St → Option (T (Ex × St))} : ∀ (c : Code), lexAll C.E c = true → (∀ id body, (id, body) ∈ loopsOf c → ∀ st t, L id st = some t → RunOk P N (.block id (.loop body)) st t) → ∀ st, RunOk P N c st (runC P C L N c st)
  | .skip, _, _, st => fun w0 bs pre B a w Qs Q hp h hm hq hQ => wp_skip (hQ (.normal, st) B a w hq hp h hm)
  | .region id ops draw, hlex, _, st => by simp only [runC]; exact region_ok hC hP id ops draw st hlex
  | .seq x y, hlex, hL, st => fun w0 bs pre B a w Qs Q hp h hm hq hQ => by
    simp only [runC] at hq
    refine wp_seq (runC_ok hC hP x (by simp only [lexAll, Bool.and_eq_true] at hlex; exact hlex.1) (fun id body hm => hL id body (by simp only [loopsOf]; exact List.mem_append_left _ hm)) st w0 bs pre B a w _ _ hp h hm (T.ok_bind hq) fun r B' a' w' hq' hp' h' hm' => ?_)
    obtain ⟨e, st'⟩ := r
    cases e with
    | normal => exact runC_ok hC hP y (by simp only [lexAll, Bool.and_eq_true] at hlex; exact hlex.2) (fun id body hm => hL id body (by simp only [loopsOf]; exact List.mem_append_right _ hm)) st' w0 bs pre B' a' w' Qs Q hp' h' hm' hq' hQ
    | exit id => exact hQ _ B' a' w' hq' hp' h' hm'
    | ret => exact hQ _ B' a' w' hq' hp' h' hm'
  | .cond c x y, hlex, hL, st => fun w0 bs pre B a w Qs Q hp h hm hq hQ => by
    simp only [runC] at hq
    split at hq
    · rename_i hc
      have hv := h.val hc
      simp only [SV.to, Option.some.injEq] at hv
      exact wp_cond_true hv.symm (runC_ok hC hP x (by simp only [lexAll, Bool.and_eq_true] at hlex; exact hlex.1) (fun id body hm => hL id body (by simp only [loopsOf]; exact List.mem_append_left _ hm)) st w0 bs pre B a w Qs Q hp h hm hq hQ)
    · rename_i hc
      have hv := h.val hc
      simp only [SV.to, Option.some.injEq] at hv
      exact wp_cond_false hv.symm (runC_ok hC hP y (by simp only [lexAll, Bool.and_eq_true] at hlex; exact hlex.2) (fun id body hm => hL id body (by simp only [loopsOf]; exact List.mem_append_right _ hm)) st w0 bs pre B a w Qs Q hp h hm hq hQ)
    · rename_i b hc
      have hv := h.val hc
      simp only [SV.to, Option.some.injEq] at hv
      refine wp_cond_split hv.symm (fun hb => ?_) (fun hb => ?_)
      · exact runC_ok hC hP x (by simp only [lexAll, Bool.and_eq_true] at hlex; exact hlex.1) (fun id body hm => hL id body (by simp only [loopsOf]; exact List.mem_append_left _ hm)) (st.knows c .tt) w0 bs pre B a w Qs Q hp (h.knows (s := .tt) hc (by rw [hb]; rfl)) (by rw [St.knows_H]; exact hm) (hq.1 hb) hQ
      · exact runC_ok hC hP y (by simp only [lexAll, Bool.and_eq_true] at hlex; exact hlex.2) (fun id body hm => hL id body (by simp only [loopsOf]; exact List.mem_append_right _ hm)) (st.knows c .ff) w0 bs pre B a w Qs Q hp (h.knows (s := .ff) hc (by rw [hb]; rfl)) (by rw [St.knows_H]; exact hm) (hq.2 hb) hQ
    · exact hq.elim
  | .block id c, hlex, hL, st => fun w0 bs pre B a w Qs Q hp h hm hq hQ => by
    simp only [runC] at hq
    cases hb : isLoop c
    · rw [hb, cond_false] at hq
      refine wp_block (runC_ok hC hP c (by simpa only [lexAll, hb, cond_false] using hlex) (fun id' body hm => hL id' body (by simp only [loopsOf, hb, cond_false]; exact hm)) st w0 bs pre B a w _ _ hp h hm (T.ok_bind hq) fun r B' a' w' hq' hp' h' hm' => ?_)
      obtain ⟨e, st'⟩ := r
      cases e with
      | normal => exact hQ _ B' a' w' hq' hp' h' hm'
      | ret => exact hQ _ B' a' w' hq' hp' h' hm'
      | exit j =>
        simp only [Ex.to, Exit.inBlock]
        simp only at hq'
        by_cases e : j = id
        · subst e
          simp only [Nat.beq_refl, cond_true] at hq'
          rw [if_pos rfl]
          exact hQ _ B' a' w' hq' hp' h' hm'
        · have hbe : Nat.beq j id = false := by
            cases hbe : Nat.beq j id
            · rfl
            · exact absurd (Nat.eq_of_beq_eq_true hbe) e
          rw [hbe, cond_false] at hq'
          rw [if_neg e]
          exact hQ _ B' a' w' hq' hp' h' hm'
    · rw [hb, cond_true] at hq
      have hc := isLoop_eq hb
      split at hq
      · rename_i t ht
        rw [hc]
        exact hL id (loopBody c) (by simp [loopsOf, hb]) st t ht w0 bs pre B a w Qs Q hp h hm hq hQ
      · exact hq.elim
  | .exit id, _, _, st => fun w0 bs pre B a w Qs Q hp h hm hq hQ => wp_exit (hQ (.exit id, st) B a w hq hp h hm)
  | .ret, _, _, st => fun w0 bs pre B a w Qs Q hp h hm hq hQ => wp_ret (hQ (.ret, st) B a w hq hp h hm)
  | .loop _, _, _, _ => fun _ _ _ _ _ _ _ _ _ _ _ hq _ => hq.elim
  | .rangeFunc .., _, _, _ => fun _ _ _ _ _ _ _ _ _ _ _ hq _ => hq.elim
  | .scope _, _, _, _ => fun _ _ _ _ _ _ _ _ _ _ _ hq _ => hq.elim
  | .label _, _, _, _ => fun _ _ _ _ _ _ _ _ _ _ _ hq _ => hq.elim
  | .goto _, _, _, _ => fun _ _ _ _ _ _ _ _ _ _ _ hq _ => hq.elim
  | .refuse _, _, _, _ => fun _ _ _ _ _ _ _ _ _ _ _ hq _ => hq.elim

/-! ### Functions -/
def mkTup (l : List SV) : SV := match plains l with | some xs => .v (.tuple xs.toArray) | none => .tup l
theorem mkTup_to {B : List Value} {l : List SV} {xs : List Value} (h : SV.tos B l = some xs) : (mkTup l).to B = some (.tuple xs.toArray) := by
  unfold mkTup
  split
  · rename_i ys hy
    rw [plains_to hy] at h
    simp only [Option.some.injEq] at h; subst h; rfl
  · simp [SV.to, h]
def resV (P : Program) (st : St) : ResultVar → T SV
  | .tmp t => leafO 50 (look st.fr t)
  | .cell a t => evalLoad P ⟨st.val, fun k => st.H[k]?, 0⟩ t (.tmp a)
def resL (P : Program) (st : St) : List ResultVar → T (List SV)
  | [] => .leaf []
  | r :: l => (resV P st r).bind fun s => (resL P st l).bind fun ss => .leaf (s :: ss)
def oneOr (l : List SV) : SV := match l with | [s] => s | l => mkTup l
def resT (P : Program) (fn : Func) (st : St) : T SV := (resL P st fn.results.toList).bind fun l => .leaf (oneOr l)
/-- the whole of a function -/
def runF (P : Program) (C : Cfg) (L : Nat → St → Option (T (Ex × St))) (fn : Func) (c : Code) (args : List SV) (H : List Blk) : T (SV × List Blk) :=
  bif Nat.ble args.length fn.ntmps then
    (runC P C L fn.ntmps c ⟨(args.zipIdx).map fun p => (p.2, some p.1), H⟩).bind fun r => match r.1 with
      | .exit _ => .stuck 51
      | _ => (resT P fn r.2).bind fun s => .leaf (s, r.2.H)
  else .stuck 52
end
end Go.Proofs.Ytapogkodlempkaa.Sym
