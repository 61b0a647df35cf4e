/- Audit: the law. No conditions. -/
import Derived.Test.YtegookefdkcolaaAudQ
namespace Go.Proofs.Ytegookefdkcolaa
set_option linter.unusedVariables false
set_option linter.unusedSimpArgs false
open Go.RowKit Sym Go.ChangeShapes Go.WideShapes Go.ChangeMaps

/-! what works shows of the anchor -/
def VV (st : Int) (n : Nat) (f : Nat → Nat → Value) (k : Nat) (g : Nat → Nat → Value) : VwR := ⟨st, false, 0, 0, 0, 0, 0, 0, 0, 0, 0, 0, 0, n, f, k, g, 0, fun _ _ => undef⟩
def f44 : Nat → Nat → Value := fun i j => cellAt [.int .i64 17, .int .i64 2, .int .i64 0, .int .i64 3, .int .i64 3, .int .i64 1, .int .i64 8, .int .i64 0, .int .i64 0] (i * 9 + j)
def g44 : Nat → Nat → Value := fun i j => cellAt [.int .i64 1] (i * 1 + j)
def v44a : VwR := VV 1 0 (fun _ _ => undef) 1 g44
def v44b : VwR := VV 3 1 f44 1 g44
def v44c : VwR := VV 0 0 (fun _ _ => undef) 0 (fun _ _ => undef)
theorem c44a : chkE v44a.clip = 0 := by decide +kernel
theorem c44b : chkE v44b.clip = 0 := by decide +kernel
theorem c44c : chkE v44c.clip = 8 := by decide +kernel
theorem a44b : agreeE v44b.clip v44b.clip = 0 := by decide +kernel
theorem a44a : agreeE v44a.clip v44b.clip = 10 := by decide +kernel
theorem r44b : roomN (ptF v44b.clip.f) v44b.n = 2 := by decide +kernel
theorem pt44 : PtP 1 f44 := ⟨by decide, fun i j hi hj => by
  obtain rfl : i = 0 := by omega
  match j, hj with
  | 0, _ => rfl
  | 1, _ => rfl
  | 2, _ => rfl
  | 3, _ => rfl
  | 4, _ => rfl
  | 5, _ => rfl
  | 6, _ => rfl
  | 7, _ => rfl
  | 8, _ => rfl⟩
theorem pt0 (f : Nat → Nat → Value) : PtP 0 f := ⟨by decide, fun i j hi => absurd hi (Nat.not_lt_zero _)⟩
theorem i44 : AllI 1 g44 := fun i hi => by
  obtain rfl : i = 0 := by omega
  rfl
theorem i0 (f : Nat → Nat → Value) : AllI 0 f := fun i hi => absurd hi (Nat.not_lt_zero _)
theorem k44a : CkP v44a := ⟨pt0 _, i44, i0 _, by decide, by decide, by decide, by decide, by decide⟩
theorem k44b : CkP v44b := ⟨pt44, i44, i0 _, by decide, by decide, by decide, by decide, by decide⟩
theorem k44c : CkP v44c := ⟨pt0 _, i0 _, i0 _, by decide, by decide, by decide, by decide, by decide⟩
theorem CLa0_ok : CfgOk Try.prog (CLa0 Try.prog Try.f5 auF) := both_ok noS_ok FLa_ok
set_option maxRecDepth 100000 in
theorem works44 (w : World) : Calls Try.prog 4 #[] w fun e w' => e = .returned (.bool true) ∧ Below w.heap.size w w' := by
  refine calls_runO CLa0_ok follows Try.func4 (by kernel_rfl) (lexAllF_ok (by kernel_rfl)) (noloops (by kernel_rfl)) (works44_run auF) ?_ (mem_nilP w) rfl
  refine t_need k44a (t_ite (fun _ => t_need k44b (t_ite (fun _ => t_need k44c (t_ite (fun _ => t_need ⟨pt44, pt44⟩ (t_ite (fun _ => t_need ⟨pt0 _, pt44⟩ (t_ite (fun _ => t_need pt44 (t_leaf ?_)) fun e => absurd a44a (of_decide_eq_false e))) fun e => absurd a44b (of_decide_eq_false e))) fun e => absurd c44c (of_decide_eq_false e))) fun e => absurd c44b (of_decide_eq_false e))) fun e => absurd c44a (of_decide_eq_false e))
  show Value.bool (decide (roomN (ptF v44b.clip.f) v44b.n = 2)) = _
  rw [decide_eq_true r44b]
theorem SLa_ok : TabOk Try.prog SLa := addS_ok noS_ok (by kernel_rfl) (by (intro xs p v h hp w; unfold tTrue44 at h; (split at h) <;> first | (cases h; done) | (simp only [Option.some.injEq, Prod.mk.injEq] at h; obtain ⟨rfl, rfl⟩ := h; exact works44 w)))
theorem CLa_ok : CfgOk Try.prog (CLa Try.prog Try.f5 auF) := both_ok SLa_ok FLa_ok
/-! cutting a text -/
theorem bind_assocT {α β γ : Type} {f : α → T β} {g : β → T γ} : ∀ t : T α, (t.bind f).bind g = t.bind fun a => (f a).bind g
  | .leaf _ => rfl
  | .ite b t e => by simp only [T.bind, bind_assocT t, bind_assocT e]
  | .need p t => by simp only [T.bind, bind_assocT t]
  | .stuck _ => rfl
def thenC (P : Program) (C : Cfg) (L : Nat → St → Option (T (Ex × St))) (N : Nat) (r : Code) (x : Ex × St) : T (Ex × St) := match x.1 with
  | .normal => runC P C L N r x.2
  | _ => .leaf x
theorem runC_seq (P : Program) (C : Cfg) (L : Nat → St → Option (T (Ex × St))) (N : Nat) (a b : Code) (st : St) : runC P C L N (.seq a b) st = (runC P C L N a st).bind (thenC P C L N b) := by
  rw [runC]
  congr 1
theorem runC_join (P : Program) (C : Cfg) (L : Nat → St → Option (T (Ex × St))) (N : Nat) (r : Code) : ∀ (c : Code) (st : St), runC P C L N (joinC c r) st = (runC P C L N c st).bind (thenC P C L N r)
  | .seq a b, st => by
    rw [joinC, runC_seq, runC_seq, bind_assocT]
    congr 1
    funext x
    obtain ⟨e, s⟩ := x
    cases e
    · exact runC_join P C L N r b s
    all_goals rfl
  | .skip, st => runC_seq ..
  | .region .., st => runC_seq ..
  | .cond .., st => runC_seq ..
  | .block .., st => runC_seq ..
  | .exit _, st => runC_seq ..
  | .ret, st => runC_seq ..
  | .loop _, st => runC_seq ..
  | .rangeFunc .., st => runC_seq ..
  | .scope _, st => runC_seq ..
  | .label _, st => runC_seq ..
  | .goto _, st => runC_seq ..
  | .refuse _, st => runC_seq ..
/-! seen -/
def seenF (v : VwR) : Nat → Nat → Value := fun i j => cellAt (seenC (ptF v.f) v.n) (i * 9 + j)
def sn (v : VwR) : VwR := { v with f := seenF v }
theorem sn_same {v : VwR} (h : AllPt v.n v.f) : v.Same (sn v) := ⟨rfl, fun i j hi hj => by
  show cellAt (seenC (ptF v.f) v.n) (i * 9 + j) = _
  rw [seenC_at _ _ _ _ hi hj, h i j hi hj], fun _ _ _ _ => rfl, fun _ _ _ _ => rfl⟩
theorem joinN_congr {P Q : Nat → Pt} : ∀ n : Nat, (∀ i, i < n → P i = Q i) → joinN P n = joinN Q n
  | 0, _ => rfl
  | n + 1, h => by
    show joinN P n ++ _ = joinN Q n ++ _
    rw [joinN_congr n fun i hi => h i (by omega), h n (by omega)]
theorem ptF_same {n : Nat} {f f' : Nat → Nat → Value} (e : ∀ i j, i < n → j < 9 → f' i j = f i j) (i : Nat) (hi : i < n) : ptF f' i = ptF f i := by
  unfold ptF
  rw [e i 0 hi (by omega), e i 1 hi (by omega), e i 2 hi (by omega), e i 3 hi (by omega), e i 4 hi (by omega), e i 5 hi (by omega), e i 6 hi (by omega), e i 7 hi (by omega), e i 8 hi (by omega)]
theorem jl_sn {v : VwR} (h : AllPt v.n v.f) : jl (sn v) = jl v := joinN_congr _ fun i hi => ptF_same (sn_same h).f i hi
theorem jl_clip (v : VwR) : jl v.clip = jl v := joinN_congr _ fun i hi => ptF_same v.clip_same.f i hi
theorem agree_clip (v u : VwR) : agreeE v.clip u.clip = agreeE v u := by
  unfold agreeE
  rw [jl_clip, jl_clip]; rfl
theorem ck_eq {v : VwR} (h : AllPt v.n v.f) : auF.ck v.clip = auF.ck (sn v) := by
  show chkE v.clip.clip = chkE (sn v).clip
  rw [v.clip_same.clip, (sn_same h).clip]
theorem ag_eq (v u : VwR) : auF.ag v.clip u.clip = agreeE v u := by
  show agreeE v.clip.clip u.clip.clip = _
  rw [v.clip_same.clip, u.clip_same.clip, agree_clip]
theorem rm_eq {v : VwR} (h : AllPt v.n v.f) : auF.rm v.clip = auF.rm (sn v) := by
  show roomN (ptF v.clip.clip.f) v.n = roomN (ptF (sn v).clip.f) v.n
  rw [v.clip_same.clip, (sn_same h).clip]
set_option maxRecDepth 100000 in
theorem lawB1_ok (v u : VwR) (hv : CkP v) (hu : CkP u) (hw : agreeE v u = 10) : (((runC Try.prog (CLa Try.prog Try.f5 auF) noL Try.f3.ntmps (dropC 4 (body44 Try.f3)) (sB1 v u)).bind (finC Try.prog Try.f3)).bind onlyV).ok fun x => x = .bool true := by
  rw [lawB1_run]
  refine t_need hv (t_need (v.clip_same.ck hv) (t_need hv.1 (t_need ((sn_same hv.1.2).ck hv) (t_ite (fun _ => t_need hu (t_need (u.clip_same.ck hu) (t_need hu.1 (t_need ((sn_same hu.1.2).ck hu) (t_ite (fun _ => t_need hv (t_need hu (t_need ⟨clip_pt hv.1, clip_pt hu.1⟩ (t_ite (fun _ => t_need hv (t_need (clip_pt hv.1) (t_need hv.1 (t_need ((sn_same hv.1.2).ck hv).1 (t_leaf ?_))))) fun e => absurd ((ag_eq v u).trans hw) (of_decide_eq_false e))))) fun e => absurd (ck_eq hu.1.2) (of_decide_eq_false e)))))) fun e => absurd (ck_eq hv.1.2) (of_decide_eq_false e)))))
  show Value.bool (decide (auF.rm v.clip = auF.rm (sn v))) = _
  rw [decide_eq_true (rm_eq hv.1.2)]
set_option maxRecDepth 100000 in
theorem lawB2_ok (v u : VwR) (hv : CkP v) (hu : CkP u) (hw : agreeE v u = 10) : (((runC Try.prog (CLa Try.prog Try.f5 auF) noL Try.f3.ntmps (dropC 4 (body44 Try.f3)) (sB2 v u)).bind (finC Try.prog Try.f3)).bind onlyV).ok fun x => x = .bool true := by
  rw [lawB2_run]
  refine t_need hv (t_need (v.clip_same.ck hv) (t_need hv.1 (t_need ((sn_same hv.1.2).ck hv) (t_ite (fun _ => t_need hu (t_need (u.clip_same.ck hu) (t_need hu.1 (t_need ((sn_same hu.1.2).ck hu) (t_ite (fun _ => t_need hv (t_need hu (t_need ⟨clip_pt hv.1, clip_pt hu.1⟩ (t_ite (fun _ => t_need hv (t_need (clip_pt hv.1) (t_need hv.1 (t_need ((sn_same hv.1.2).ck hv).1 (t_leaf ?_))))) fun e => absurd ((ag_eq v u).trans hw) (of_decide_eq_false e))))) fun e => absurd (ck_eq hu.1.2) (of_decide_eq_false e)))))) fun e => absurd (ck_eq hv.1.2) (of_decide_eq_false e)))))
  show Value.bool (decide (auF.rm v.clip = auF.rm (sn v))) = _
  rw [decide_eq_true (rm_eq hv.1.2)]
set_option maxRecDepth 100000 in
theorem lawB3_ok (v u : VwR) (hv : CkP v) (hu : CkP u) (hw : agreeE v u = 7) : (((runC Try.prog (CLa Try.prog Try.f5 auF) noL Try.f3.ntmps (dropC 4 (body44 Try.f3)) (sB3 v u)).bind (finC Try.prog Try.f3)).bind onlyV).ok fun x => x = .bool true := by
  rw [lawB3_run]
  refine t_need hv (t_need (v.clip_same.ck hv) (t_need hv.1 (t_need ((sn_same hv.1.2).ck hv) (t_ite (fun _ => t_need hu (t_need (u.clip_same.ck hu) (t_need hu.1 (t_need ((sn_same hu.1.2).ck hu) (t_ite (fun _ => t_need hv (t_need hu (t_need ⟨clip_pt hv.1, clip_pt hu.1⟩ (t_ite (fun _ => t_need hv (t_need (clip_pt hv.1) (t_need hv.1 (t_need ((sn_same hv.1.2).ck hv).1 (t_leaf ?_))))) fun e => absurd ((ag_eq v u).trans hw) (of_decide_eq_false e))))) fun e => absurd (ck_eq hu.1.2) (of_decide_eq_false e)))))) fun e => absurd (ck_eq hv.1.2) (of_decide_eq_false e)))))
  show Value.bool (decide (auF.rm v.clip = auF.rm (sn v))) = _
  rw [decide_eq_true (rm_eq hv.1.2)]
set_option maxRecDepth 100000 in
theorem lawB4_ok (v u : VwR) (hv : CkP v) (hu : CkP u) (hw : agreeE v u = 8) : (((runC Try.prog (CLa Try.prog Try.f5 auF) noL Try.f3.ntmps (dropC 4 (body44 Try.f3)) (sB4 v u)).bind (finC Try.prog Try.f3)).bind onlyV).ok fun x => x = .bool true := by
  rw [lawB4_run]
  refine t_need hv (t_need (v.clip_same.ck hv) (t_need hv.1 (t_need ((sn_same hv.1.2).ck hv) (t_ite (fun _ => t_need hu (t_need (u.clip_same.ck hu) (t_need hu.1 (t_need ((sn_same hu.1.2).ck hu) (t_ite (fun _ => t_need hv (t_need hu (t_need ⟨clip_pt hv.1, clip_pt hu.1⟩ (t_ite (fun _ => t_need hv (t_need (clip_pt hv.1) (t_need hv.1 (t_need ((sn_same hv.1.2).ck hv).1 (t_leaf ?_))))) fun e => absurd ((ag_eq v u).trans hw) (of_decide_eq_false e))))) fun e => absurd (ck_eq hu.1.2) (of_decide_eq_false e)))))) fun e => absurd (ck_eq hv.1.2) (of_decide_eq_false e)))))
  show Value.bool (decide (auF.rm v.clip = auF.rm (sn v))) = _
  rw [decide_eq_true (rm_eq hv.1.2)]
set_option maxRecDepth 100000 in
theorem lawB5_ok (v u : VwR) (hv : CkP v) (hu : CkP u) (hw : agreeE v u = 0) : (((runC Try.prog (CLa Try.prog Try.f5 auF) noL Try.f3.ntmps (dropC 4 (body44 Try.f3)) (sB5 v u)).bind (finC Try.prog Try.f3)).bind onlyV).ok fun x => x = .bool true := by
  rw [lawB5_run]
  refine t_need hv (t_need (v.clip_same.ck hv) (t_need hv.1 (t_need ((sn_same hv.1.2).ck hv) (t_ite (fun _ => t_need hu (t_need (u.clip_same.ck hu) (t_need hu.1 (t_need ((sn_same hu.1.2).ck hu) (t_ite (fun _ => t_need hv (t_need hu (t_need ⟨clip_pt hv.1, clip_pt hu.1⟩ (t_ite (fun _ => t_need hv (t_need (clip_pt hv.1) (t_need hv.1 (t_need ((sn_same hv.1.2).ck hv).1 (t_leaf ?_))))) fun e => absurd ((ag_eq v u).trans hw) (of_decide_eq_false e))))) fun e => absurd (ck_eq hu.1.2) (of_decide_eq_false e)))))) fun e => absurd (ck_eq hv.1.2) (of_decide_eq_false e)))))
  show Value.bool (decide (auF.rm v.clip = auF.rm (sn v))) = _
  rw [decide_eq_true (rm_eq hv.1.2)]
end Go.Proofs.Ytegookefdkcolaa
