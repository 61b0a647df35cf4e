/- Two sides of a connection: the law, whatever is said. No conditions. -/
import Derived.Test.YtodfcalaggfldaaCnV
import Derived.Test.YtodfcalaggfldaaCnW
namespace Go.Proofs.Ytodfcalaggfldaa
set_option linter.unusedVariables false
set_option linter.unusedSimpArgs false
open Go.RowKit Sym Go.ChangeShapes Go.WideShapes Go.ChangeMaps

def stepA (m : M6) : M6 := ⟨Circ.add m.gA 1, m.rA, m.qA, m.gB, Circ.later m.rB (longN m.rB (shortN (Circ.add m.gA 1))), garOf 4 (longN m.gB (shortN m.rA)) m.qB⟩
def stepB (m : M6) : M6 := ⟨m.gA, Circ.later m.rA (longN m.rA (shortN (Circ.add m.gB 1))), garOf 4 (longN m.gA (shortN m.rB)) m.qA, Circ.add m.gB 1, m.rB, m.qB⟩
def mS (s : Nat → Bool) (m0 : M6) : Nat → M6
  | 0 => m0
  | k + 1 => if s k = true then stepB (mS s m0 k) else stepA (mS s m0 k)
/-- what holds of both sides behind k packets -/
structure Jn (A R : Int) (k : Nat) (m : M6) : Prop where
  ra : m.rA = m.gB
  rb : m.rB = m.gA
  a0 : 0 ≤ m.gA
  a1 : m.gA < 281474976710656
  b0 : 0 ≤ m.gB
  b1 : m.gB < 281474976710656
  da : Circ.up R m.gB ≤ 1 + k
  db : Circ.up A m.gA ≤ 1 + k
theorem up_sent24 (g s : Int) (h : Circ.up g s ≤ 1000) : Circ.up g (Circ.add s 1) = Circ.up g s + 1 := by
  unfold Circ.up Circ.add Circ.of at *; omega
theorem Jn.stepA {A R : Int} {k : Nat} {m : M6} (h : Jn A R k m) (hk : k ≤ 200) : Jn A R (k + 1) (stepA m) := by
  obtain ⟨h1, h2, h3, h4, h5, h6, h7, h8⟩ := h
  refine ⟨h1, ?_, Circ.add_lo _ _, Circ.add_hi _ _, h5, h6, by show Circ.up R m.gB ≤ _; omega, ?_⟩
  · show Circ.later m.rB (longN m.rB (shortN (Circ.add m.gA 1))) = Circ.add m.gA 1
    rw [h2, long_next _ h3 h4, later_next _ h3 h4]
  · show Circ.up A (Circ.add m.gA 1) ≤ _
    rw [up_sent24 _ _ (by omega)]; omega
theorem Jn.stepB {A R : Int} {k : Nat} {m : M6} (h : Jn A R k m) (hk : k ≤ 200) : Jn A R (k + 1) (stepB m) := by
  obtain ⟨h1, h2, h3, h4, h5, h6, h7, h8⟩ := h
  refine ⟨?_, h2, h3, h4, Circ.add_lo _ _, Circ.add_hi _ _, ?_, by show Circ.up A m.gA ≤ _; omega⟩
  · show Circ.later m.rA (longN m.rA (shortN (Circ.add m.gB 1))) = Circ.add m.gB 1
    rw [h1, long_next _ h5 h6, later_next _ h5 h6]
  · show Circ.up R (Circ.add m.gB 1) ≤ _
    rw [up_sent24 _ _ (by omega)]; omega
theorem jn_at {A R : Int} {m0 : M6} (s : Nat → Bool) (h0 : Jn A R 0 m0) : ∀ k : Nat, k ≤ 200 → Jn A R k (mS s m0 k)
  | 0, _ => h0
  | k + 1, hk => by
    have ih := jn_at s h0 k (by omega)
    unfold mS
    split
    · exact ih.stepB (by omega)
    · exact ih.stepA (by omega)
theorem ckPL_x (p : Pk) (h : p.data = ⟨⟨[120]⟩⟩) : CkPL p 0 (fun _ _ => undef) := ckPL_nil p (by rw [h]; decide)
theorem ckPL_e (p : Pk) (h : p.data = ⟨⟨[]⟩⟩) : CkPL p 0 (fun _ _ => undef) := ckPL_nil p (by rw [h]; decide)
set_option maxHeartbeats 4000000 in
set_option maxRecDepth 100000 in
theorem pr_ok (A R : Int) (hA : 0 ≤ A ∧ A < 281474976710656) (hR : 0 ≤ R ∧ R < 281474976710656) (s : Nat → Bool) (n : Nat) (hn : n ≤ 100) (cl : Bool) (m0 : M6) (h0 : Jn A R 0 m0) (i : Nat) (hi : i ≤ n) (hne : i ≠ n) :
    (roundG Try.prog (CK6 Try.prog (CnFn.mk Try.f79 Try.f81 Try.f14 Try.f41 Try.f32 Try.f29 Try.f43 Try.f39 Try.f37 Try.f30 Try.f36 Try.f40 Try.f44 Try.f33 Try.f35 Try.f31 Try.f11 Try.f13 Try.f15 Try.f9 Try.f16 Try.f6 Try.f7) Try.f12) noL Try.f3.ntmps 0 (loopAt Try.f3 0) prT (pr_st A R R A s n cl (mS s m0 i) i)).ok
      fun r => r.1 = .normal ∧ ∃ j : Nat, j ≤ n ∧ n - j < n - i ∧ r.2 = pr_st A R R A s n cl (mS s m0 j) j := by
  have hj := jn_at s h0 i (by omega)
  have hm : mS s m0 (i + 1) = if s i = true then stepB (mS s m0 i) else stepA (mS s m0 i) := rfl
  generalize mS s m0 i = m at hj hm ⊢
  rw [pr_round]
  obtain ⟨h1, h2, h3, h4, h5, h6, h7, h8⟩ := hj
  have hw : IntKind.i64.wrap ((i : Int) + 1) = ((i + 1 : Nat) : Int) := by rw [w64 _ (by omega) (by omega)]; omega
  have hit : ((i : Int)).toNat = i := by omega
  have e1 := long_next m.gB h5 h6
  have e2 := long_next m.gA h3 h4
  have e3 := long_same m.gB h5 h6
  have e4 := long_same m.gA h3 h4
  have s1 := fun x => And.intro (short_lo x) (short_hi x)
  repeat' (first | (with_reducible refine t_need ?_ ?_) | (with_reducible refine t_ite ?_ ?_; all_goals intro h) | (with_reducible refine t_leaf ?_))
  all_goals first
    | (exact opP_nil) | (exact ckPL_x _ rfl) | rfl | (exact ⟨by decide, by decide⟩) | ((repeat (refine allOne_cons rfl ?_)); exact allOne_nil) | (cases h; done)
    | (exact absurd h (by decide))
    | (simp only [decide_eq_true_eq, decide_eq_false_iff_not] at h; omega)
    | omega
    | (refine congrArg (Value.int IntKind.i64) ?_; exact chk_four _ _ (s1 _) (s1 _) _)
    | (refine congrArg (Value.int IntKind.i64) ?_; rw [h1, h2, e1, e4]; exact valid_fwd _ _ _ _ _ _ (by decide) h3 h4 h5 h6 hR.1 hR.2 (by omega))
    | (refine congrArg (Value.int IntKind.i64) ?_; rw [h1, h2, e2, e3]; exact valid_fwd _ _ _ _ _ _ (by decide) h5 h6 h3 h4 hA.1 hA.2 (by omega))
    | (exfalso; rw [h1, e1] at h; simp at h; done)
    | (exfalso; rw [h2, e2] at h; simp at h; done)
    | (refine ⟨rfl, i + 1, by omega, by omega, ?_⟩
       rw [hm, if_pos (show s i = true from ‹s ((i : Int)).toNat = true›), hw]
       rfl)
    | (refine ⟨rfl, i + 1, by omega, by omega, ?_⟩
       rw [hm, if_neg (show ¬ s i = true by rw [show s i = false from ‹s ((i : Int)).toNat = false›]; decide), hw]
       rfl)
    | trace_state
theorem beg_of (x : Int) : Circ.add (Circ.of (Circ.add x (-1))) 1 = Circ.of x := by unfold Circ.add Circ.of; omega
theorem within_same (a : Int) : Circ.within a a a = true := by unfold Circ.within; simp
def LNo : Nat → St → Option (T (Ex × St)) := addL 0 (fun _ => .stuck 39) noL
/-- where both stand when they say their first word -/
def m0P (A R : Int) : M6 := ⟨Circ.add A 1, Circ.later R (longN R (shortN (Circ.add R 1))), garOf 3 (longN (Circ.add A 1) (shortN (Circ.later A (Circ.add A 1)))) A, Circ.add R 1, Circ.later A (Circ.add A 1), garOf 3 R R⟩
theorem jn_0 (A R : Int) (hA : 0 ≤ A ∧ A < 281474976710656) (hR : 0 ≤ R ∧ R < 281474976710656) : Jn A R 0 (m0P A R) := by
  have u : ∀ x : Int, Circ.up x x = 0 := Span.up_self
  refine ⟨?_, later_next _ hA.1 hA.2, Circ.add_lo _ _, Circ.add_hi _ _, Circ.add_lo _ _, Circ.add_hi _ _, ?_, ?_⟩
  · show Circ.later R (longN R (shortN (Circ.add R 1))) = Circ.add R 1
    rw [long_next _ hR.1 hR.2, later_next _ hR.1 hR.2]
  · show Circ.up R (Circ.add R 1) ≤ _
    rw [up_sent24 _ _ (by rw [u]; decide), u]; decide
  · show Circ.up A (Circ.add A 1) ≤ _
    rw [up_sent24 _ _ (by rw [u]; decide), u]; decide
theorem CK6_ok : CfgOk Try.prog (CK6 Try.prog (CnFn.mk Try.f79 Try.f81 Try.f14 Try.f41 Try.f32 Try.f29 Try.f43 Try.f39 Try.f37 Try.f30 Try.f36 Try.f40 Try.f44 Try.f33 Try.f35 Try.f31 Try.f11 Try.f13 Try.f15 Try.f9 Try.f16 Try.f6 Try.f7) Try.f12) := by
  refine both_ok SCn6_ok (addT_ok (addT_ok FK5_ok (by kernel_rfl) (fTrue_ok (rdV_ok fun xs p v h hp w => ?_))) (by kernel_rfl) EK_link)
  unfold tWorks24 at h
  split at h
  · simp only [Option.some.injEq, Prod.mk.injEq] at h; obtain ⟨rfl, rfl⟩ := h; exact works24_any w
  · cases h
set_option maxHeartbeats 4000000 in
set_option maxRecDepth 100000 in
theorem pair_tree (iss isr A R : Int) (eA : Circ.of iss = A) (eR : Circ.of isr = R) (hA : 0 ≤ A ∧ A < 281474976710656) (hR : 0 ≤ R ∧ R < 281474976710656) (s : Nat → Bool) (n : Nat) (hn : n ≤ 100) (cl : Bool) (m : M6) (hm : Jn A R n m) :
    (runO Try.prog (CK6 Try.prog (CnFn.mk Try.f79 Try.f81 Try.f14 Try.f41 Try.f32 Try.f29 Try.f43 Try.f39 Try.f37 Try.f30 Try.f36 Try.f40 Try.f44 Try.f33 Try.f35 Try.f31 Try.f11 Try.f13 Try.f15 Try.f9 Try.f16 Try.f6 Try.f7) Try.f12) (LPr Try.prog (CK6 Try.prog (CnFn.mk Try.f79 Try.f81 Try.f14 Try.f41 Try.f32 Try.f29 Try.f43 Try.f39 Try.f37 Try.f30 Try.f36 Try.f40 Try.f44 Try.f33 Try.f35 Try.f31 Try.f11 Try.f13 Try.f15 Try.f9 Try.f16 Try.f6 Try.f7) Try.f12) Try.f3 A R R A s n cl (m0P A R) m) Try.f3 [.v (.int .i64 iss), .v (.int .i64 isr), .ref 0, .v (.bool cl)] [.row n 1 fun i _ => .bool (s i)]).ok fun x => x = .bool true := by
  rw [pair_run]
  have oA : Circ.of A = A := Circ.of_in hA.1 hA.2
  have oR : Circ.of R = R := Circ.of_in hR.1 hR.2
  obtain ⟨h1, h2, h3, h4, h5, h6, h7, h8⟩ := hm
  have e1 := long_next m.gB h5 h6
  have e2 := long_next m.gA h3 h4
  have e3 := long_same m.gB h5 h6
  have e4 := long_same m.gA h3 h4
  have f1 := long_next R hR.1 hR.2
  have f2 := later_next A hA.1 hA.2
  have f3 := long_same (Circ.add A 1) (Circ.add_lo _ _) (Circ.add_hi _ _)
  have l1 := later_next m.gB h5 h6
  have l2 := later_next m.gA h3 h4
  have s1 := fun x => And.intro (short_lo x) (short_hi x)
  have a1 := fun x y => And.intro (Circ.add_lo x y) (Circ.add_hi x y)
  simp only [beg_of, eA, eR, oA, oR]
  repeat' (first | (with_reducible refine t_need ?_ ?_) | (with_reducible refine t_ite ?_ ?_; all_goals intro h; all_goals (try (first | (cases h; done) | (exfalso; simp only [decide_eq_true_eq, decide_eq_false_iff_not] at h; omega)))) | (with_reducible refine t_leaf ?_))
  all_goals first
    | (exact opP_nil) | (with_reducible rfl) | (exact ⟨by decide, by decide⟩) | (exact ckPL_e _ rfl) | (exact ckPL_x _ rfl) | (exact congrArg Value.bool (within_same A))
    | (refine congrArg (Value.int IntKind.i64) ?_
       try simp only [h1, h2, e1, e2, e3, e4, f1, f2, f3, l1, l2]
       with_reducible first
         | (exact chk_resp _ _ hR hA _) | (exact chk_long3 _ _ (a1 _ _) hR _) | (exact chk_three _ _ (s1 _) (s1 _) _) | (exact chk_four _ _ (s1 _) (s1 _) _)
         | (exact chk_long6 _ _ (a1 _ _) ⟨h5, h6⟩ _) | (exact chk_long5 _ _ (a1 _ _) ⟨h3, h4⟩ _) | (exact chk_long6 _ _ (a1 _ _) (a1 _ _) _) | (exact chk_long7 _ _ (a1 _ _) (a1 _ _) _)
         | (refine valid_fwd _ _ _ _ _ _ ?_ hR.1 hR.2 hA.1 hA.2 hA.1 hA.2 ?_)
         | (refine valid_fwd _ _ _ _ _ _ ?_ (Circ.add_lo _ _) (Circ.add_hi _ _) hR.1 hR.2 hR.1 hR.2 ?_)
         | (refine valid_end _ _ _ _ _ _ ?_ h3 h4 h5 h6) | (refine valid_end _ _ _ _ _ _ ?_ h5 h6 h3 h4)
         | (refine valid_end _ _ _ _ _ _ ?_ (Circ.add_lo _ _) (Circ.add_hi _ _) h3 h4) | (refine valid_end _ _ _ _ _ _ ?_ (Circ.add_lo _ _) (Circ.add_hi _ _) h5 h6) | (refine valid_end _ _ _ _ _ _ ?_ (Circ.add_lo _ _) (Circ.add_hi _ _) (Circ.add_lo _ _) (Circ.add_hi _ _))
       all_goals first | decide | (rw [Span.up_self]; decide))
    | ((repeat (refine allOne_cons rfl ?_)); exact allOne_nil)
    | (simp only [pr_st, m0P]; done)
    | (exact absurd ‹false = true› (by decide))
    | trace_state
end Go.Proofs.Ytodfcalaggfldaa
