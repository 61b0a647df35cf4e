/- Packets as bytes: trees. No conditions. -/
import Derived.Test.YtikiieclbeiicaaPaC
namespace Go.Proofs.Ytikiieclbeiicaa
set_option linter.unusedVariables false
set_option linter.unusedSimpArgs false
open Go.RowKit Sym Go.ChangeShapes Go.WideShapes Go.ChangeMaps Inet

def SPk2 : Tab := addS 37 tSumP <| addS 38 tSumP SPk1
theorem SPk2_ok : TabOk Try.prog SPk2 := by
  refine addS_ok (addS_ok SPk1_ok (by kernel_rfl) ?_) (by kernel_rfl) ?_
  · (intro xs p v h hp w; unfold tSumP at h; (split at h) <;> first | (cases h; done) | (simp only [Option.some.injEq, Prod.mk.injEq] at h; obtain ⟨rfl, rfl⟩ := h; exact ref10_sum _ _ _ _ _ (hp _ (List.mem_cons_self ..)) w))
  · (intro xs p v h hp w; unfold tSumP at h; (split at h) <;> first | (cases h; done) | (simp only [Option.some.injEq, Prod.mk.injEq] at h; obtain ⟨rfl, rfl⟩ := h; exact packet_sum _ _ _ _ _ (hp _ (List.mem_cons_self ..)) w))
def putV (n : Nat) (f : Nat → Nat → Value) : Value := .tuple #[.string (putS n (opF f)), .int .i64 (chkO n (opF f))]
def ChkP (p : Pk) (n : Nat) (f : Nat → Nat → Value) : Prop := OpP n f ∧ p.data.size ≤ 1000000
def FPk2 : LTab := addR 33 (rd1 2 OpP putV) <| addR 99 (rd1 2 OpP putV) <| addR 36 (rdP (fun _ _ _ => True) fun p _ _ => .string (fieldsB p)) <|
  addR 11 (rdP ChkP fun p n f => .int .i64 (chkP p n (opF f))) <| addR 12 (rdP ChkP fun p n f => .int .i64 (chkP p n (opF f))) FPk1
theorem FPk2_ok : LOk Try.prog FPk2 :=
  addR_ok (addR_ok (addR_ok (addR_ok (addR_ok FPk1_ok
    (by kernel_rfl) (rdP_ok fun p n fr o w hv hp => ref10_Check p n fr hp o w hv))
    (by kernel_rfl) (rdP_ok fun p n fr o w hv hp => packet_Check p n fr hp o w hv))
    (by kernel_rfl) (rdP_ok fun p n fr o w hv _ => packet_fields p n fr o w hv))
    (by kernel_rfl) (rd1_ok fun n f v w hv hp => ref07_Put n (opF f) hp.2 v w (op_row hv hp.1)))
    (by kernel_rfl) (rd1_ok fun n f v w hv hp => opts_Put n (opF f) hp.2 v w (op_row hv hp.1))
abbrev fsPk2 : List Nat := 33 :: 99 :: 36 :: 11 :: 12 :: fsPk1
abbrev CP2 (P : Program) : Cfg := both P SPk2 FPk2 fsPk2
theorem CP2_ok : CfgOk Try.prog (CP2 Try.prog) := both_ok SPk2_ok FPk2_ok
def FPut (P : Program) (fW : Func) : LTab := addT 34 (inl P (CP2 P) noL fW) FPk2
theorem FPut_ok : LOk Try.prog (FPut Try.prog Try.f34) := addT_ok FPk2_ok (by kernel_rfl) (inl_ok CP2_ok follows Try.func34 (by kernel_rfl) (by kernel_rfl) (noloops (by kernel_rfl)))
abbrev CPut (P : Program) (fW : Func) : Cfg := both P SPk2 (FPut P fW) (34 :: fsPk2)
set_option maxRecDepth 100000 in
theorem pput_run (p : Pk) (n : Nat) (f : Nat → Nat → Value) (x y : Int) : runO Try.prog (CPut Try.prog Try.f34) noL Try.f9 [p.s (.ref 0), .v (.agg #[.int .i64 x, .int .i64 y])] [.row n 2 f] = T.need (ChkP p n f) (T.ite (!decide (chkP p n (opF f) = (0 : Int))) (T.leaf (Value.tuple (Array.mk [Value.string (ByteArray.mk (Array.mk [])), Value.int IntKind.i64 (chkP p n (opF f))]))) (T.need (OpP n f) (T.need (OpP n f) (T.ite (!decide (chkO n (opF f) = (0 : Int))) (T.leaf (Value.tuple (Array.mk [Value.string (ByteArray.mk (Array.mk [])), Value.int IntKind.i64 (chkO n (opF f))]))) (T.need True (T.need ((putB (Head.H.mk p.3 p.4 (wordsP p n (opF f)) p.5 p.6 (0 : Int) p.1 p.2 p.7)).size + (fieldsB p).size ≤ (9223372036854775807 : Nat)) (T.need ((putB (Head.H.mk p.3 p.4 (wordsP p n (opF f)) p.5 p.6 (0 : Int) p.1 p.2 p.7) ++ fieldsB p).size + (putS n (opF f)).size ≤ (9223372036854775807 : Nat)) (T.ite (!decide (Head.check (Head.H.mk p.3 p.4 (wordsP p n (opF f)) p.5 p.6 (0 : Int) p.1 p.2 p.7) = (0 : Int))) (T.leaf (Value.tuple (Array.mk [Value.string (ByteArray.mk (Array.mk [])), Value.int IntKind.i64 (Head.check (Head.H.mk p.3 p.4 (wordsP p n (opF f)) p.5 p.6 (0 : Int) p.1 p.2 p.7))]))) (T.need ((putB (Head.H.mk p.3 p.4 (wordsP p n (opF f)) p.5 p.6 (0 : Int) p.1 p.2 p.7) ++ fieldsB p ++ putS n (opF f)).size ≤ (5000 : Nat) ∧ p.12.size ≤ (5000 : Nat)) (T.need True (T.need ((putB (Head.H.mk p.3 p.4 (wordsP p n (opF f)) p.5 p.6 (sumP (putB (Head.H.mk p.3 p.4 (wordsP p n (opF f)) p.5 p.6 (0 : Int) p.1 p.2 p.7) ++ fieldsB p ++ putS n (opF f)) p.12 p.6 x y) p.1 p.2 p.7)).size + (fieldsB p).size ≤ (9223372036854775807 : Nat)) (T.need ((putB (Head.H.mk p.3 p.4 (wordsP p n (opF f)) p.5 p.6 (sumP (putB (Head.H.mk p.3 p.4 (wordsP p n (opF f)) p.5 p.6 (0 : Int) p.1 p.2 p.7) ++ fieldsB p ++ putS n (opF f)) p.12 p.6 x y) p.1 p.2 p.7) ++ fieldsB p).size + (putS n (opF f)).size ≤ (9223372036854775807 : Nat)) (T.need ((putB (Head.H.mk p.3 p.4 (wordsP p n (opF f)) p.5 p.6 (sumP (putB (Head.H.mk p.3 p.4 (wordsP p n (opF f)) p.5 p.6 (0 : Int) p.1 p.2 p.7) ++ fieldsB p ++ putS n (opF f)) p.12 p.6 x y) p.1 p.2 p.7) ++ fieldsB p ++ putS n (opF f)).size + p.12.size ≤ (9223372036854775807 : Nat)) (T.leaf (Value.tuple (Array.mk [Value.string (putB (Head.H.mk p.3 p.4 (wordsP p n (opF f)) p.5 p.6 (sumP (putB (Head.H.mk p.3 p.4 (wordsP p n (opF f)) p.5 p.6 (0 : Int) p.1 p.2 p.7) ++ fieldsB p ++ putS n (opF f)) p.12 p.6 x y) p.1 p.2 p.7) ++ fieldsB p ++ putS n (opF f) ++ p.12), Value.int IntKind.i64 (Head.check (Head.H.mk p.3 p.4 (wordsP p n (opF f)) p.5 p.6 (sumP (putB (Head.H.mk p.3 p.4 (wordsP p n (opF f)) p.5 p.6 (0 : Int) p.1 p.2 p.7) ++ fieldsB p ++ putS n (opF f)) p.12 p.6 x y) p.1 p.2 p.7))])))))))))))))))) := by kernel_rfl
set_option maxRecDepth 100000 in
theorem rahead_run (p : Pk) (n : Nat) (f : Nat → Nat → Value) (x : Int) : runO Try.prog (CP2 Try.prog) noL Try.f39 [p.s (.ref 0), .v (.int .i64 x)] [.row n 2 f] = T.need (OpP n f) (T.ite (Head.acks p.1) (T.ite p.2 (T.need ((0 : Int) ≤ IntKind.u64.wrap p.8 ∧ IntKind.u64.wrap p.8 < (18446744073709551616 : Int) ∧ (0 : Int) ≤ (8 : Int) ∧ (8 : Int) ≤ (8 : Int) ∧ (putB (Head.H.mk p.3 p.4 (wordsP p n (opF f)) p.5 p.6 x p.1 p.2 p.7)).size ≤ (1099511627776 : Nat)) (T.ite (Head.acks p.1) (T.ite (!p.2) (T.need ((0 : Int) ≤ IntKind.u64.wrap p.8 ∧ IntKind.u64.wrap p.8 < (18446744073709551616 : Int) ∧ (0 : Int) ≤ (4 : Int) ∧ (4 : Int) ≤ (8 : Int) ∧ (ByteArray.mk (Array.mk ((putB (Head.H.mk p.3 p.4 (wordsP p n (opF f)) p.5 p.6 x p.1 p.2 p.7)).1.toList ++ Oct.be (IntKind.u64.wrap p.8 % (18446744073709551616 : Int)).toNat (8 : Nat)))).size ≤ (1099511627776 : Nat)) (T.ite (decide (p.1 < (2 : Int))) (T.need ((0 : Int) ≤ IntKind.u64.wrap p.9 ∧ IntKind.u64.wrap p.9 < (18446744073709551616 : Int) ∧ (0 : Int) ≤ (4 : Int) ∧ (4 : Int) ≤ (8 : Int) ∧ (ByteArray.mk (Array.mk ((Array.mk ((putB (Head.H.mk p.3 p.4 (wordsP p n (opF f)) p.5 p.6 x p.1 p.2 p.7)).1.toList ++ Oct.be (IntKind.u64.wrap p.8 % (18446744073709551616 : Int)).toNat (8 : Nat))).toList ++ Oct.be (IntKind.u64.wrap p.8 % (18446744073709551616 : Int)).toNat (4 : Nat)))).size ≤ (1099511627776 : Nat)) (T.ite (decide (p.1 = (7 : Int))) (T.need ((0 : Int) ≤ IntKind.u64.wrap (IntKind.i64.wrap (IntKind.i64.wrap (p.10 * (16777216 : Int)) + p.11)) ∧ IntKind.u64.wrap (IntKind.i64.wrap (IntKind.i64.wrap (p.10 * (16777216 : Int)) + p.11)) < (18446744073709551616 : Int) ∧ (0 : Int) ≤ (4 : Int) ∧ (4 : Int) ≤ (8 : Int) ∧ (ByteArray.mk (Array.mk ((Array.mk ((Array.mk ((putB (Head.H.mk p.3 p.4 (wordsP p n (opF f)) p.5 p.6 x p.1 p.2 p.7)).1.toList ++ Oct.be (IntKind.u64.wrap p.8 % (18446744073709551616 : Int)).toNat (8 : Nat))).toList ++ Oct.be (IntKind.u64.wrap p.8 % (18446744073709551616 : Int)).toNat (4 : Nat))).toList ++ Oct.be (IntKind.u64.wrap p.9 % (18446744073709551616 : Int)).toNat (4 : Nat)))).size ≤ (1099511627776 : Nat)) (T.need (OpP n f) (T.need ((ByteArray.mk (Array.mk ((Array.mk ((Array.mk ((Array.mk ((putB (Head.H.mk p.3 p.4 (wordsP p n (opF f)) p.5 p.6 x p.1 p.2 p.7)).1.toList ++ Oct.be (IntKind.u64.wrap p.8 % (18446744073709551616 : Int)).toNat (8 : Nat))).toList ++ Oct.be (IntKind.u64.wrap p.8 % (18446744073709551616 : Int)).toNat (4 : Nat))).toList ++ Oct.be (IntKind.u64.wrap p.9 % (18446744073709551616 : Int)).toNat (4 : Nat))).toList ++ Oct.be (IntKind.u64.wrap (IntKind.i64.wrap (IntKind.i64.wrap (p.10 * (16777216 : Int)) + p.11)) % (18446744073709551616 : Int)).toNat (4 : Nat)))).size + (putS n (opF f)).size ≤ (9223372036854775807 : Nat)) (T.leaf (Value.string (ByteArray.mk (Array.mk ((Array.mk ((Array.mk ((Array.mk ((putB (Head.H.mk p.3 p.4 (wordsP p n (opF f)) p.5 p.6 x p.1 p.2 p.7)).1.toList ++ Oct.be (IntKind.u64.wrap p.8 % (18446744073709551616 : Int)).toNat (8 : Nat))).toList ++ Oct.be (IntKind.u64.wrap p.8 % (18446744073709551616 : Int)).toNat (4 : Nat))).toList ++ Oct.be (IntKind.u64.wrap p.9 % (18446744073709551616 : Int)).toNat (4 : Nat))).toList ++ Oct.be (IntKind.u64.wrap (IntKind.i64.wrap (IntKind.i64.wrap (p.10 * (16777216 : Int)) + p.11)) % (18446744073709551616 : Int)).toNat (4 : Nat))) ++ putS n (opF f))))))) (T.need (OpP n f) (T.need ((ByteArray.mk (Array.mk ((Array.mk ((Array.mk ((putB (Head.H.mk p.3 p.4 (wordsP p n (opF f)) p.5 p.6 x p.1 p.2 p.7)).1.toList ++ Oct.be (IntKind.u64.wrap p.8 % (18446744073709551616 : Int)).toNat (8 : Nat))).toList ++ Oct.be (IntKind.u64.wrap p.8 % (18446744073709551616 : Int)).toNat (4 : Nat))).toList ++ Oct.be (IntKind.u64.wrap p.9 % (18446744073709551616 : Int)).toNat (4 : Nat)))).size + (putS n (opF f)).size ≤ (9223372036854775807 : Nat)) (T.leaf (Value.string (ByteArray.mk (Array.mk ((Array.mk ((Array.mk ((putB (Head.H.mk p.3 p.4 (wordsP p n (opF f)) p.5 p.6 x p.1 p.2 p.7)).1.toList ++ Oct.be (IntKind.u64.wrap p.8 % (18446744073709551616 : Int)).toNat (8 : Nat))).toList ++ Oct.be (IntKind.u64.wrap p.8 % (18446744073709551616 : Int)).toNat (4 : Nat))).toList ++ Oct.be (IntKind.u64.wrap p.9 % (18446744073709551616 : Int)).toNat (4 : Nat))) ++ putS n (opF f)))))))) (T.ite (decide (p.1 = (7 : Int))) (T.need ((0 : Int) ≤ IntKind.u64.wrap (IntKind.i64.wrap (IntKind.i64.wrap (p.10 * (16777216 : Int)) + p.11)) ∧ IntKind.u64.wrap (IntKind.i64.wrap (IntKind.i64.wrap (p.10 * (16777216 : Int)) + p.11)) < (18446744073709551616 : Int) ∧ (0 : Int) ≤ (4 : Int) ∧ (4 : Int) ≤ (8 : Int) ∧ (ByteArray.mk (Array.mk ((Array.mk ((putB (Head.H.mk p.3 p.4 (wordsP p n (opF f)) p.5 p.6 x p.1 p.2 p.7)).1.toList ++ Oct.be (IntKind.u64.wrap p.8 % (18446744073709551616 : Int)).toNat (8 : Nat))).toList ++ Oct.be (IntKind.u64.wrap p.8 % (18446744073709551616 : Int)).toNat (4 : Nat)))).size ≤ (1099511627776 : Nat)) (T.need (OpP n f) (T.need ((ByteArray.mk (Array.mk ((Array.mk ((Array.mk ((putB (Head.H.mk p.3 p.4 (wordsP p n (opF f)) p.5 p.6 x p.1 p.2 p.7)).1.toList ++ Oct.be (IntKind.u64.wrap p.8 % (18446744073709551616 : Int)).toNat (8 : Nat))).toList ++ Oct.be (IntKind.u64.wrap p.8 % (18446744073709551616 : Int)).toNat (4 : Nat))).toList ++ Oct.be (IntKind.u64.wrap (IntKind.i64.wrap (IntKind.i64.wrap (p.10 * (16777216 : Int)) + p.11)) % (18446744073709551616 : Int)).toNat (4 : Nat)))).size + (putS n (opF f)).size ≤ (9223372036854775807 : Nat)) (T.leaf (Value.string (ByteArray.mk (Array.mk ((Array.mk ((Array.mk ((putB (Head.H.mk p.3 p.4 (wordsP p n (opF f)) p.5 p.6 x p.1 p.2 p.7)).1.toList ++ Oct.be (IntKind.u64.wrap p.8 % (18446744073709551616 : Int)).toNat (8 : Nat))).toList ++ Oct.be (IntKind.u64.wrap p.8 % (18446744073709551616 : Int)).toNat (4 : Nat))).toList ++ Oct.be (IntKind.u64.wrap (IntKind.i64.wrap (IntKind.i64.wrap (p.10 * (16777216 : Int)) + p.11)) % (18446744073709551616 : Int)).toNat (4 : Nat))) ++ putS n (opF f))))))) (T.need (OpP n f) (T.need ((ByteArray.mk (Array.mk ((Array.mk ((putB (Head.H.mk p.3 p.4 (wordsP p n (opF f)) p.5 p.6 x p.1 p.2 p.7)).1.toList ++ Oct.be (IntKind.u64.wrap p.8 % (18446744073709551616 : Int)).toNat (8 : Nat))).toList ++ Oct.be (IntKind.u64.wrap p.8 % (18446744073709551616 : Int)).toNat (4 : Nat)))).size + (putS n (opF f)).size ≤ (9223372036854775807 : Nat)) (T.leaf (Value.string (ByteArray.mk (Array.mk ((Array.mk ((putB (Head.H.mk p.3 p.4 (wordsP p n (opF f)) p.5 p.6 x p.1 p.2 p.7)).1.toList ++ Oct.be (IntKind.u64.wrap p.8 % (18446744073709551616 : Int)).toNat (8 : Nat))).toList ++ Oct.be (IntKind.u64.wrap p.8 % (18446744073709551616 : Int)).toNat (4 : Nat))) ++ putS n (opF f))))))))) (T.ite (decide (p.1 < (2 : Int))) (T.need ((0 : Int) ≤ IntKind.u64.wrap p.9 ∧ IntKind.u64.wrap p.9 < (18446744073709551616 : Int) ∧ (0 : Int) ≤ (4 : Int) ∧ (4 : Int) ≤ (8 : Int) ∧ (ByteArray.mk (Array.mk ((putB (Head.H.mk p.3 p.4 (wordsP p n (opF f)) p.5 p.6 x p.1 p.2 p.7)).1.toList ++ Oct.be (IntKind.u64.wrap p.8 % (18446744073709551616 : Int)).toNat (8 : Nat)))).size ≤ (1099511627776 : Nat)) (T.ite (decide (p.1 = (7 : Int))) (T.need ((0 : Int) ≤ IntKind.u64.wrap (IntKind.i64.wrap (IntKind.i64.wrap (p.10 * (16777216 : Int)) + p.11)) ∧ IntKind.u64.wrap (IntKind.i64.wrap (IntKind.i64.wrap (p.10 * (16777216 : Int)) + p.11)) < (18446744073709551616 : Int) ∧ (0 : Int) ≤ (4 : Int) ∧ (4 : Int) ≤ (8 : Int) ∧ (ByteArray.mk (Array.mk ((Array.mk ((putB (Head.H.mk p.3 p.4 (wordsP p n (opF f)) p.5 p.6 x p.1 p.2 p.7)).1.toList ++ Oct.be (IntKind.u64.wrap p.8 % (18446744073709551616 : Int)).toNat (8 : Nat))).toList ++ Oct.be (IntKind.u64.wrap p.9 % (18446744073709551616 : Int)).toNat (4 : Nat)))).size ≤ (1099511627776 : Nat)) (T.need (OpP n f) (T.need ((ByteArray.mk (Array.mk ((Array.mk ((Array.mk ((putB (Head.H.mk p.3 p.4 (wordsP p n (opF f)) p.5 p.6 x p.1 p.2 p.7)).1.toList ++ Oct.be (IntKind.u64.wrap p.8 % (18446744073709551616 : Int)).toNat (8 : Nat))).toList ++ Oct.be (IntKind.u64.wrap p.9 % (18446744073709551616 : Int)).toNat (4 : Nat))).toList ++ Oct.be (IntKind.u64.wrap (IntKind.i64.wrap (IntKind.i64.wrap (p.10 * (16777216 : Int)) + p.11)) % (18446744073709551616 : Int)).toNat (4 : Nat)))).size + (putS n (opF f)).size ≤ (9223372036854775807 : Nat)) (T.leaf (Value.string (ByteArray.mk (Array.mk ((Array.mk ((Array.mk ((putB (Head.H.mk p.3 p.4 (wordsP p n (opF f)) p.5 p.6 x p.1 p.2 p.7)).1.toList ++ Oct.be (IntKind.u64.wrap p.8 % (18446744073709551616 : Int)).toNat (8 : Nat))).toList ++ Oct.be (IntKind.u64.wrap p.9 % (18446744073709551616 : Int)).toNat (4 : Nat))).toList ++ Oct.be (IntKind.u64.wrap (IntKind.i64.wrap (IntKind.i64.wrap (p.10 * (16777216 : Int)) + p.11)) % (18446744073709551616 : Int)).toNat (4 : Nat))) ++ putS n (opF f))))))) (T.need (OpP n f) (T.need ((ByteArray.mk (Array.mk ((Array.mk ((putB (Head.H.mk p.3 p.4 (wordsP p n (opF f)) p.5 p.6 x p.1 p.2 p.7)).1.toList ++ Oct.be (IntKind.u64.wrap p.8 % (18446744073709551616 : Int)).toNat (8 : Nat))).toList ++ Oct.be (IntKind.u64.wrap p.9 % (18446744073709551616 : Int)).toNat (4 : Nat)))).size + (putS n (opF f)).size ≤ (9223372036854775807 : Nat)) (T.leaf (Value.string (ByteArray.mk (Array.mk ((Array.mk ((putB (Head.H.mk p.3 p.4 (wordsP p n (opF f)) p.5 p.6 x p.1 p.2 p.7)).1.toList ++ Oct.be (IntKind.u64.wrap p.8 % (18446744073709551616 : Int)).toNat (8 : Nat))).toList ++ Oct.be (IntKind.u64.wrap p.9 % (18446744073709551616 : Int)).toNat (4 : Nat))) ++ putS n (opF f)))))))) (T.ite (decide (p.1 = (7 : Int))) (T.need ((0 : Int) ≤ IntKind.u64.wrap (IntKind.i64.wrap (IntKind.i64.wrap (p.10 * (16777216 : Int)) + p.11)) ∧ IntKind.u64.wrap (IntKind.i64.wrap (IntKind.i64.wrap (p.10 * (16777216 : Int)) + p.11)) < (18446744073709551616 : Int) ∧ (0 : Int) ≤ (4 : Int) ∧ (4 : Int) ≤ (8 : Int) ∧ (ByteArray.mk (Array.mk ((putB (Head.H.mk p.3 p.4 (wordsP p n (opF f)) p.5 p.6 x p.1 p.2 p.7)).1.toList ++ Oct.be (IntKind.u64.wrap p.8 % (18446744073709551616 : Int)).toNat (8 : Nat)))).size ≤ (1099511627776 : Nat)) (T.need (OpP n f) (T.need ((ByteArray.mk (Array.mk ((Array.mk ((putB (Head.H.mk p.3 p.4 (wordsP p n (opF f)) p.5 p.6 x p.1 p.2 p.7)).1.toList ++ Oct.be (IntKind.u64.wrap p.8 % (18446744073709551616 : Int)).toNat (8 : Nat))).toList ++ Oct.be (IntKind.u64.wrap (IntKind.i64.wrap (IntKind.i64.wrap (p.10 * (16777216 : Int)) + p.11)) % (18446744073709551616 : Int)).toNat (4 : Nat)))).size + (putS n (opF f)).size ≤ (9223372036854775807 : Nat)) (T.leaf (Value.string (ByteArray.mk (Array.mk ((Array.mk ((putB (Head.H.mk p.3 p.4 (wordsP p n (opF f)) p.5 p.6 x p.1 p.2 p.7)).1.toList ++ Oct.be (IntKind.u64.wrap p.8 % (18446744073709551616 : Int)).toNat (8 : Nat))).toList ++ Oct.be (IntKind.u64.wrap (IntKind.i64.wrap (IntKind.i64.wrap (p.10 * (16777216 : Int)) + p.11)) % (18446744073709551616 : Int)).toNat (4 : Nat))) ++ putS n (opF f))))))) (T.need (OpP n f) (T.need ((ByteArray.mk (Array.mk ((putB (Head.H.mk p.3 p.4 (wordsP p n (opF f)) p.5 p.6 x p.1 p.2 p.7)).1.toList ++ Oct.be (IntKind.u64.wrap p.8 % (18446744073709551616 : Int)).toNat (8 : Nat)))).size + (putS n (opF f)).size ≤ (9223372036854775807 : Nat)) (T.leaf (Value.string (ByteArray.mk (Array.mk ((putB (Head.H.mk p.3 p.4 (wordsP p n (opF f)) p.5 p.6 x p.1 p.2 p.7)).1.toList ++ Oct.be (IntKind.u64.wrap p.8 % (18446744073709551616 : Int)).toNat (8 : Nat))) ++ putS n (opF f))))))))) (T.ite (decide (p.1 < (2 : Int))) (T.need ((0 : Int) ≤ IntKind.u64.wrap p.9 ∧ IntKind.u64.wrap p.9 < (18446744073709551616 : Int) ∧ (0 : Int) ≤ (4 : Int) ∧ (4 : Int) ≤ (8 : Int) ∧ (ByteArray.mk (Array.mk ((putB (Head.H.mk p.3 p.4 (wordsP p n (opF f)) p.5 p.6 x p.1 p.2 p.7)).1.toList ++ Oct.be (IntKind.u64.wrap p.8 % (18446744073709551616 : Int)).toNat (8 : Nat)))).size ≤ (1099511627776 : Nat)) (T.ite (decide (p.1 = (7 : Int))) (T.need ((0 : Int) ≤ IntKind.u64.wrap (IntKind.i64.wrap (IntKind.i64.wrap (p.10 * (16777216 : Int)) + p.11)) ∧ IntKind.u64.wrap (IntKind.i64.wrap (IntKind.i64.wrap (p.10 * (16777216 : Int)) + p.11)) < (18446744073709551616 : Int) ∧ (0 : Int) ≤ (4 : Int) ∧ (4 : Int) ≤ (8 : Int) ∧ (ByteArray.mk (Array.mk ((Array.mk ((putB (Head.H.mk p.3 p.4 (wordsP p n (opF f)) p.5 p.6 x p.1 p.2 p.7)).1.toList ++ Oct.be (IntKind.u64.wrap p.8 % (18446744073709551616 : Int)).toNat (8 : Nat))).toList ++ Oct.be (IntKind.u64.wrap p.9 % (18446744073709551616 : Int)).toNat (4 : Nat)))).size ≤ (1099511627776 : Nat)) (T.need (OpP n f) (T.need ((ByteArray.mk (Array.mk ((Array.mk ((Array.mk ((putB (Head.H.mk p.3 p.4 (wordsP p n (opF f)) p.5 p.6 x p.1 p.2 p.7)).1.toList ++ Oct.be (IntKind.u64.wrap p.8 % (18446744073709551616 : Int)).toNat (8 : Nat))).toList ++ Oct.be (IntKind.u64.wrap p.9 % (18446744073709551616 : Int)).toNat (4 : Nat))).toList ++ Oct.be (IntKind.u64.wrap (IntKind.i64.wrap (IntKind.i64.wrap (p.10 * (16777216 : Int)) + p.11)) % (18446744073709551616 : Int)).toNat (4 : Nat)))).size + (putS n (opF f)).size ≤ (9223372036854775807 : Nat)) (T.leaf (Value.string (ByteArray.mk (Array.mk ((Array.mk ((Array.mk ((putB (Head.H.mk p.3 p.4 (wordsP p n (opF f)) p.5 p.6 x p.1 p.2 p.7)).1.toList ++ Oct.be (IntKind.u64.wrap p.8 % (18446744073709551616 : Int)).toNat (8 : Nat))).toList ++ Oct.be (IntKind.u64.wrap p.9 % (18446744073709551616 : Int)).toNat (4 : Nat))).toList ++ Oct.be (IntKind.u64.wrap (IntKind.i64.wrap (IntKind.i64.wrap (p.10 * (16777216 : Int)) + p.11)) % (18446744073709551616 : Int)).toNat (4 : Nat))) ++ putS n (opF f))))))) (T.need (OpP n f) (T.need ((ByteArray.mk (Array.mk ((Array.mk ((putB (Head.H.mk p.3 p.4 (wordsP p n (opF f)) p.5 p.6 x p.1 p.2 p.7)).1.toList ++ Oct.be (IntKind.u64.wrap p.8 % (18446744073709551616 : Int)).toNat (8 : Nat))).toList ++ Oct.be (IntKind.u64.wrap p.9 % (18446744073709551616 : Int)).toNat (4 : Nat)))).size + (putS n (opF f)).size ≤ (9223372036854775807 : Nat)) (T.leaf (Value.string (ByteArray.mk (Array.mk ((Array.mk ((putB (Head.H.mk p.3 p.4 (wordsP p n (opF f)) p.5 p.6 x p.1 p.2 p.7)).1.toList ++ Oct.be (IntKind.u64.wrap p.8 % (18446744073709551616 : Int)).toNat (8 : Nat))).toList ++ Oct.be (IntKind.u64.wrap p.9 % (18446744073709551616 : Int)).toNat (4 : Nat))) ++ putS n (opF f)))))))) (T.ite (decide (p.1 = (7 : Int))) (T.need ((0 : Int) ≤ IntKind.u64.wrap (IntKind.i64.wrap (IntKind.i64.wrap (p.10 * (16777216 : Int)) + p.11)) ∧ IntKind.u64.wrap (IntKind.i64.wrap (IntKind.i64.wrap (p.10 * (16777216 : Int)) + p.11)) < (18446744073709551616 : Int) ∧ (0 : Int) ≤ (4 : Int) ∧ (4 : Int) ≤ (8 : Int) ∧ (ByteArray.mk (Array.mk ((putB (Head.H.mk p.3 p.4 (wordsP p n (opF f)) p.5 p.6 x p.1 p.2 p.7)).1.toList ++ Oct.be (IntKind.u64.wrap p.8 % (18446744073709551616 : Int)).toNat (8 : Nat)))).size ≤ (1099511627776 : Nat)) (T.need (OpP n f) (T.need ((ByteArray.mk (Array.mk ((Array.mk ((putB (Head.H.mk p.3 p.4 (wordsP p n (opF f)) p.5 p.6 x p.1 p.2 p.7)).1.toList ++ Oct.be (IntKind.u64.wrap p.8 % (18446744073709551616 : Int)).toNat (8 : Nat))).toList ++ Oct.be (IntKind.u64.wrap (IntKind.i64.wrap (IntKind.i64.wrap (p.10 * (16777216 : Int)) + p.11)) % (18446744073709551616 : Int)).toNat (4 : Nat)))).size + (putS n (opF f)).size ≤ (9223372036854775807 : Nat)) (T.leaf (Value.string (ByteArray.mk (Array.mk ((Array.mk ((putB (Head.H.mk p.3 p.4 (wordsP p n (opF f)) p.5 p.6 x p.1 p.2 p.7)).1.toList ++ Oct.be (IntKind.u64.wrap p.8 % (18446744073709551616 : Int)).toNat (8 : Nat))).toList ++ Oct.be (IntKind.u64.wrap (IntKind.i64.wrap (IntKind.i64.wrap (p.10 * (16777216 : Int)) + p.11)) % (18446744073709551616 : Int)).toNat (4 : Nat))) ++ putS n (opF f))))))) (T.need (OpP n f) (T.need ((ByteArray.mk (Array.mk ((putB (Head.H.mk p.3 p.4 (wordsP p n (opF f)) p.5 p.6 x p.1 p.2 p.7)).1.toList ++ Oct.be (IntKind.u64.wrap p.8 % (18446744073709551616 : Int)).toNat (8 : Nat)))).size + (putS n (opF f)).size ≤ (9223372036854775807 : Nat)) (T.leaf (Value.string (ByteArray.mk (Array.mk ((putB (Head.H.mk p.3 p.4 (wordsP p n (opF f)) p.5 p.6 x p.1 p.2 p.7)).1.toList ++ Oct.be (IntKind.u64.wrap p.8 % (18446744073709551616 : Int)).toNat (8 : Nat))) ++ putS n (opF f)))))))))) (T.ite (Head.acks p.1) (T.ite (!p.2) (T.need ((0 : Int) ≤ IntKind.u64.wrap p.8 ∧ IntKind.u64.wrap p.8 < (18446744073709551616 : Int) ∧ (0 : Int) ≤ (4 : Int) ∧ (4 : Int) ≤ (8 : Int) ∧ (putB (Head.H.mk p.3 p.4 (wordsP p n (opF f)) p.5 p.6 x p.1 p.2 p.7)).size ≤ (1099511627776 : Nat)) (T.ite (decide (p.1 < (2 : Int))) (T.need ((0 : Int) ≤ IntKind.u64.wrap p.9 ∧ IntKind.u64.wrap p.9 < (18446744073709551616 : Int) ∧ (0 : Int) ≤ (4 : Int) ∧ (4 : Int) ≤ (8 : Int) ∧ (ByteArray.mk (Array.mk ((putB (Head.H.mk p.3 p.4 (wordsP p n (opF f)) p.5 p.6 x p.1 p.2 p.7)).1.toList ++ Oct.be (IntKind.u64.wrap p.8 % (18446744073709551616 : Int)).toNat (4 : Nat)))).size ≤ (1099511627776 : Nat)) (T.ite (decide (p.1 = (7 : Int))) (T.need ((0 : Int) ≤ IntKind.u64.wrap (IntKind.i64.wrap (IntKind.i64.wrap (p.10 * (16777216 : Int)) + p.11)) ∧ IntKind.u64.wrap (IntKind.i64.wrap (IntKind.i64.wrap (p.10 * (16777216 : Int)) + p.11)) < (18446744073709551616 : Int) ∧ (0 : Int) ≤ (4 : Int) ∧ (4 : Int) ≤ (8 : Int) ∧ (ByteArray.mk (Array.mk ((Array.mk ((putB (Head.H.mk p.3 p.4 (wordsP p n (opF f)) p.5 p.6 x p.1 p.2 p.7)).1.toList ++ Oct.be (IntKind.u64.wrap p.8 % (18446744073709551616 : Int)).toNat (4 : Nat))).toList ++ Oct.be (IntKind.u64.wrap p.9 % (18446744073709551616 : Int)).toNat (4 : Nat)))).size ≤ (1099511627776 : Nat)) (T.need (OpP n f) (T.need ((ByteArray.mk (Array.mk ((Array.mk ((Array.mk ((putB (Head.H.mk p.3 p.4 (wordsP p n (opF f)) p.5 p.6 x p.1 p.2 p.7)).1.toList ++ Oct.be (IntKind.u64.wrap p.8 % (18446744073709551616 : Int)).toNat (4 : Nat))).toList ++ Oct.be (IntKind.u64.wrap p.9 % (18446744073709551616 : Int)).toNat (4 : Nat))).toList ++ Oct.be (IntKind.u64.wrap (IntKind.i64.wrap (IntKind.i64.wrap (p.10 * (16777216 : Int)) + p.11)) % (18446744073709551616 : Int)).toNat (4 : Nat)))).size + (putS n (opF f)).size ≤ (9223372036854775807 : Nat)) (T.leaf (Value.string (ByteArray.mk (Array.mk ((Array.mk ((Array.mk ((putB (Head.H.mk p.3 p.4 (wordsP p n (opF f)) p.5 p.6 x p.1 p.2 p.7)).1.toList ++ Oct.be (IntKind.u64.wrap p.8 % (18446744073709551616 : Int)).toNat (4 : Nat))).toList ++ Oct.be (IntKind.u64.wrap p.9 % (18446744073709551616 : Int)).toNat (4 : Nat))).toList ++ Oct.be (IntKind.u64.wrap (IntKind.i64.wrap (IntKind.i64.wrap (p.10 * (16777216 : Int)) + p.11)) % (18446744073709551616 : Int)).toNat (4 : Nat))) ++ putS n (opF f))))))) (T.need (OpP n f) (T.need ((ByteArray.mk (Array.mk ((Array.mk ((putB (Head.H.mk p.3 p.4 (wordsP p n (opF f)) p.5 p.6 x p.1 p.2 p.7)).1.toList ++ Oct.be (IntKind.u64.wrap p.8 % (18446744073709551616 : Int)).toNat (4 : Nat))).toList ++ Oct.be (IntKind.u64.wrap p.9 % (18446744073709551616 : Int)).toNat (4 : Nat)))).size + (putS n (opF f)).size ≤ (9223372036854775807 : Nat)) (T.leaf (Value.string (ByteArray.mk (Array.mk ((Array.mk ((putB (Head.H.mk p.3 p.4 (wordsP p n (opF f)) p.5 p.6 x p.1 p.2 p.7)).1.toList ++ Oct.be (IntKind.u64.wrap p.8 % (18446744073709551616 : Int)).toNat (4 : Nat))).toList ++ Oct.be (IntKind.u64.wrap p.9 % (18446744073709551616 : Int)).toNat (4 : Nat))) ++ putS n (opF f)))))))) (T.ite (decide (p.1 = (7 : Int))) (T.need ((0 : Int) ≤ IntKind.u64.wrap (IntKind.i64.wrap (IntKind.i64.wrap (p.10 * (16777216 : Int)) + p.11)) ∧ IntKind.u64.wrap (IntKind.i64.wrap (IntKind.i64.wrap (p.10 * (16777216 : Int)) + p.11)) < (18446744073709551616 : Int) ∧ (0 : Int) ≤ (4 : Int) ∧ (4 : Int) ≤ (8 : Int) ∧ (ByteArray.mk (Array.mk ((putB (Head.H.mk p.3 p.4 (wordsP p n (opF f)) p.5 p.6 x p.1 p.2 p.7)).1.toList ++ Oct.be (IntKind.u64.wrap p.8 % (18446744073709551616 : Int)).toNat (4 : Nat)))).size ≤ (1099511627776 : Nat)) (T.need (OpP n f) (T.need ((ByteArray.mk (Array.mk ((Array.mk ((putB (Head.H.mk p.3 p.4 (wordsP p n (opF f)) p.5 p.6 x p.1 p.2 p.7)).1.toList ++ Oct.be (IntKind.u64.wrap p.8 % (18446744073709551616 : Int)).toNat (4 : Nat))).toList ++ Oct.be (IntKind.u64.wrap (IntKind.i64.wrap (IntKind.i64.wrap (p.10 * (16777216 : Int)) + p.11)) % (18446744073709551616 : Int)).toNat (4 : Nat)))).size + (putS n (opF f)).size ≤ (9223372036854775807 : Nat)) (T.leaf (Value.string (ByteArray.mk (Array.mk ((Array.mk ((putB (Head.H.mk p.3 p.4 (wordsP p n (opF f)) p.5 p.6 x p.1 p.2 p.7)).1.toList ++ Oct.be (IntKind.u64.wrap p.8 % (18446744073709551616 : Int)).toNat (4 : Nat))).toList ++ Oct.be (IntKind.u64.wrap (IntKind.i64.wrap (IntKind.i64.wrap (p.10 * (16777216 : Int)) + p.11)) % (18446744073709551616 : Int)).toNat (4 : Nat))) ++ putS n (opF f))))))) (T.need (OpP n f) (T.need ((ByteArray.mk (Array.mk ((putB (Head.H.mk p.3 p.4 (wordsP p n (opF f)) p.5 p.6 x p.1 p.2 p.7)).1.toList ++ Oct.be (IntKind.u64.wrap p.8 % (18446744073709551616 : Int)).toNat (4 : Nat)))).size + (putS n (opF f)).size ≤ (9223372036854775807 : Nat)) (T.leaf (Value.string (ByteArray.mk (Array.mk ((putB (Head.H.mk p.3 p.4 (wordsP p n (opF f)) p.5 p.6 x p.1 p.2 p.7)).1.toList ++ Oct.be (IntKind.u64.wrap p.8 % (18446744073709551616 : Int)).toNat (4 : Nat))) ++ putS n (opF f))))))))) (T.ite (decide (p.1 < (2 : Int))) (T.need ((0 : Int) ≤ IntKind.u64.wrap p.9 ∧ IntKind.u64.wrap p.9 < (18446744073709551616 : Int) ∧ (0 : Int) ≤ (4 : Int) ∧ (4 : Int) ≤ (8 : Int) ∧ (putB (Head.H.mk p.3 p.4 (wordsP p n (opF f)) p.5 p.6 x p.1 p.2 p.7)).size ≤ (1099511627776 : Nat)) (T.ite (decide (p.1 = (7 : Int))) (T.need ((0 : Int) ≤ IntKind.u64.wrap (IntKind.i64.wrap (IntKind.i64.wrap (p.10 * (16777216 : Int)) + p.11)) ∧ IntKind.u64.wrap (IntKind.i64.wrap (IntKind.i64.wrap (p.10 * (16777216 : Int)) + p.11)) < (18446744073709551616 : Int) ∧ (0 : Int) ≤ (4 : Int) ∧ (4 : Int) ≤ (8 : Int) ∧ (ByteArray.mk (Array.mk ((putB (Head.H.mk p.3 p.4 (wordsP p n (opF f)) p.5 p.6 x p.1 p.2 p.7)).1.toList ++ Oct.be (IntKind.u64.wrap p.9 % (18446744073709551616 : Int)).toNat (4 : Nat)))).size ≤ (1099511627776 : Nat)) (T.need (OpP n f) (T.need ((ByteArray.mk (Array.mk ((Array.mk ((putB (Head.H.mk p.3 p.4 (wordsP p n (opF f)) p.5 p.6 x p.1 p.2 p.7)).1.toList ++ Oct.be (IntKind.u64.wrap p.9 % (18446744073709551616 : Int)).toNat (4 : Nat))).toList ++ Oct.be (IntKind.u64.wrap (IntKind.i64.wrap (IntKind.i64.wrap (p.10 * (16777216 : Int)) + p.11)) % (18446744073709551616 : Int)).toNat (4 : Nat)))).size + (putS n (opF f)).size ≤ (9223372036854775807 : Nat)) (T.leaf (Value.string (ByteArray.mk (Array.mk ((Array.mk ((putB (Head.H.mk p.3 p.4 (wordsP p n (opF f)) p.5 p.6 x p.1 p.2 p.7)).1.toList ++ Oct.be (IntKind.u64.wrap p.9 % (18446744073709551616 : Int)).toNat (4 : Nat))).toList ++ Oct.be (IntKind.u64.wrap (IntKind.i64.wrap (IntKind.i64.wrap (p.10 * (16777216 : Int)) + p.11)) % (18446744073709551616 : Int)).toNat (4 : Nat))) ++ putS n (opF f))))))) (T.need (OpP n f) (T.need ((ByteArray.mk (Array.mk ((putB (Head.H.mk p.3 p.4 (wordsP p n (opF f)) p.5 p.6 x p.1 p.2 p.7)).1.toList ++ Oct.be (IntKind.u64.wrap p.9 % (18446744073709551616 : Int)).toNat (4 : Nat)))).size + (putS n (opF f)).size ≤ (9223372036854775807 : Nat)) (T.leaf (Value.string (ByteArray.mk (Array.mk ((putB (Head.H.mk p.3 p.4 (wordsP p n (opF f)) p.5 p.6 x p.1 p.2 p.7)).1.toList ++ Oct.be (IntKind.u64.wrap p.9 % (18446744073709551616 : Int)).toNat (4 : Nat))) ++ putS n (opF f)))))))) (T.ite (decide (p.1 = (7 : Int))) (T.need ((0 : Int) ≤ IntKind.u64.wrap (IntKind.i64.wrap (IntKind.i64.wrap (p.10 * (16777216 : Int)) + p.11)) ∧ IntKind.u64.wrap (IntKind.i64.wrap (IntKind.i64.wrap (p.10 * (16777216 : Int)) + p.11)) < (18446744073709551616 : Int) ∧ (0 : Int) ≤ (4 : Int) ∧ (4 : Int) ≤ (8 : Int) ∧ (putB (Head.H.mk p.3 p.4 (wordsP p n (opF f)) p.5 p.6 x p.1 p.2 p.7)).size ≤ (1099511627776 : Nat)) (T.need (OpP n f) (T.need ((ByteArray.mk (Array.mk ((putB (Head.H.mk p.3 p.4 (wordsP p n (opF f)) p.5 p.6 x p.1 p.2 p.7)).1.toList ++ Oct.be (IntKind.u64.wrap (IntKind.i64.wrap (IntKind.i64.wrap (p.10 * (16777216 : Int)) + p.11)) % (18446744073709551616 : Int)).toNat (4 : Nat)))).size + (putS n (opF f)).size ≤ (9223372036854775807 : Nat)) (T.leaf (Value.string (ByteArray.mk (Array.mk ((putB (Head.H.mk p.3 p.4 (wordsP p n (opF f)) p.5 p.6 x p.1 p.2 p.7)).1.toList ++ Oct.be (IntKind.u64.wrap (IntKind.i64.wrap (IntKind.i64.wrap (p.10 * (16777216 : Int)) + p.11)) % (18446744073709551616 : Int)).toNat (4 : Nat))) ++ putS n (opF f))))))) (T.need (OpP n f) (T.need ((putB (Head.H.mk p.3 p.4 (wordsP p n (opF f)) p.5 p.6 x p.1 p.2 p.7)).size + (putS n (opF f)).size ≤ (9223372036854775807 : Nat)) (T.leaf (Value.string (putB (Head.H.mk p.3 p.4 (wordsP p n (opF f)) p.5 p.6 x p.1 p.2 p.7) ++ putS n (opF f))))))))) (T.ite (decide (p.1 < (2 : Int))) (T.need ((0 : Int) ≤ IntKind.u64.wrap p.9 ∧ IntKind.u64.wrap p.9 < (18446744073709551616 : Int) ∧ (0 : Int) ≤ (4 : Int) ∧ (4 : Int) ≤ (8 : Int) ∧ (putB (Head.H.mk p.3 p.4 (wordsP p n (opF f)) p.5 p.6 x p.1 p.2 p.7)).size ≤ (1099511627776 : Nat)) (T.ite (decide (p.1 = (7 : Int))) (T.need ((0 : Int) ≤ IntKind.u64.wrap (IntKind.i64.wrap (IntKind.i64.wrap (p.10 * (16777216 : Int)) + p.11)) ∧ IntKind.u64.wrap (IntKind.i64.wrap (IntKind.i64.wrap (p.10 * (16777216 : Int)) + p.11)) < (18446744073709551616 : Int) ∧ (0 : Int) ≤ (4 : Int) ∧ (4 : Int) ≤ (8 : Int) ∧ (ByteArray.mk (Array.mk ((putB (Head.H.mk p.3 p.4 (wordsP p n (opF f)) p.5 p.6 x p.1 p.2 p.7)).1.toList ++ Oct.be (IntKind.u64.wrap p.9 % (18446744073709551616 : Int)).toNat (4 : Nat)))).size ≤ (1099511627776 : Nat)) (T.need (OpP n f) (T.need ((ByteArray.mk (Array.mk ((Array.mk ((putB (Head.H.mk p.3 p.4 (wordsP p n (opF f)) p.5 p.6 x p.1 p.2 p.7)).1.toList ++ Oct.be (IntKind.u64.wrap p.9 % (18446744073709551616 : Int)).toNat (4 : Nat))).toList ++ Oct.be (IntKind.u64.wrap (IntKind.i64.wrap (IntKind.i64.wrap (p.10 * (16777216 : Int)) + p.11)) % (18446744073709551616 : Int)).toNat (4 : Nat)))).size + (putS n (opF f)).size ≤ (9223372036854775807 : Nat)) (T.leaf (Value.string (ByteArray.mk (Array.mk ((Array.mk ((putB (Head.H.mk p.3 p.4 (wordsP p n (opF f)) p.5 p.6 x p.1 p.2 p.7)).1.toList ++ Oct.be (IntKind.u64.wrap p.9 % (18446744073709551616 : Int)).toNat (4 : Nat))).toList ++ Oct.be (IntKind.u64.wrap (IntKind.i64.wrap (IntKind.i64.wrap (p.10 * (16777216 : Int)) + p.11)) % (18446744073709551616 : Int)).toNat (4 : Nat))) ++ putS n (opF f))))))) (T.need (OpP n f) (T.need ((ByteArray.mk (Array.mk ((putB (Head.H.mk p.3 p.4 (wordsP p n (opF f)) p.5 p.6 x p.1 p.2 p.7)).1.toList ++ Oct.be (IntKind.u64.wrap p.9 % (18446744073709551616 : Int)).toNat (4 : Nat)))).size + (putS n (opF f)).size ≤ (9223372036854775807 : Nat)) (T.leaf (Value.string (ByteArray.mk (Array.mk ((putB (Head.H.mk p.3 p.4 (wordsP p n (opF f)) p.5 p.6 x p.1 p.2 p.7)).1.toList ++ Oct.be (IntKind.u64.wrap p.9 % (18446744073709551616 : Int)).toNat (4 : Nat))) ++ putS n (opF f)))))))) (T.ite (decide (p.1 = (7 : Int))) (T.need ((0 : Int) ≤ IntKind.u64.wrap (IntKind.i64.wrap (IntKind.i64.wrap (p.10 * (16777216 : Int)) + p.11)) ∧ IntKind.u64.wrap (IntKind.i64.wrap (IntKind.i64.wrap (p.10 * (16777216 : Int)) + p.11)) < (18446744073709551616 : Int) ∧ (0 : Int) ≤ (4 : Int) ∧ (4 : Int) ≤ (8 : Int) ∧ (putB (Head.H.mk p.3 p.4 (wordsP p n (opF f)) p.5 p.6 x p.1 p.2 p.7)).size ≤ (1099511627776 : Nat)) (T.need (OpP n f) (T.need ((ByteArray.mk (Array.mk ((putB (Head.H.mk p.3 p.4 (wordsP p n (opF f)) p.5 p.6 x p.1 p.2 p.7)).1.toList ++ Oct.be (IntKind.u64.wrap (IntKind.i64.wrap (IntKind.i64.wrap (p.10 * (16777216 : Int)) + p.11)) % (18446744073709551616 : Int)).toNat (4 : Nat)))).size + (putS n (opF f)).size ≤ (9223372036854775807 : Nat)) (T.leaf (Value.string (ByteArray.mk (Array.mk ((putB (Head.H.mk p.3 p.4 (wordsP p n (opF f)) p.5 p.6 x p.1 p.2 p.7)).1.toList ++ Oct.be (IntKind.u64.wrap (IntKind.i64.wrap (IntKind.i64.wrap (p.10 * (16777216 : Int)) + p.11)) % (18446744073709551616 : Int)).toNat (4 : Nat))) ++ putS n (opF f))))))) (T.need (OpP n f) (T.need ((putB (Head.H.mk p.3 p.4 (wordsP p n (opF f)) p.5 p.6 x p.1 p.2 p.7)).size + (putS n (opF f)).size ≤ (9223372036854775807 : Nat)) (T.leaf (Value.string (putB (Head.H.mk p.3 p.4 (wordsP p n (opF f)) p.5 p.6 x p.1 p.2 p.7) ++ putS n (opF f)))))))))) (T.ite (Head.acks p.1) (T.ite (!p.2) (T.need ((0 : Int) ≤ IntKind.u64.wrap p.8 ∧ IntKind.u64.wrap p.8 < (18446744073709551616 : Int) ∧ (0 : Int) ≤ (4 : Int) ∧ (4 : Int) ≤ (8 : Int) ∧ (putB (Head.H.mk p.3 p.4 (wordsP p n (opF f)) p.5 p.6 x p.1 p.2 p.7)).size ≤ (1099511627776 : Nat)) (T.ite (decide (p.1 < (2 : Int))) (T.need ((0 : Int) ≤ IntKind.u64.wrap p.9 ∧ IntKind.u64.wrap p.9 < (18446744073709551616 : Int) ∧ (0 : Int) ≤ (4 : Int) ∧ (4 : Int) ≤ (8 : Int) ∧ (ByteArray.mk (Array.mk ((putB (Head.H.mk p.3 p.4 (wordsP p n (opF f)) p.5 p.6 x p.1 p.2 p.7)).1.toList ++ Oct.be (IntKind.u64.wrap p.8 % (18446744073709551616 : Int)).toNat (4 : Nat)))).size ≤ (1099511627776 : Nat)) (T.ite (decide (p.1 = (7 : Int))) (T.need ((0 : Int) ≤ IntKind.u64.wrap (IntKind.i64.wrap (IntKind.i64.wrap (p.10 * (16777216 : Int)) + p.11)) ∧ IntKind.u64.wrap (IntKind.i64.wrap (IntKind.i64.wrap (p.10 * (16777216 : Int)) + p.11)) < (18446744073709551616 : Int) ∧ (0 : Int) ≤ (4 : Int) ∧ (4 : Int) ≤ (8 : Int) ∧ (ByteArray.mk (Array.mk ((Array.mk ((putB (Head.H.mk p.3 p.4 (wordsP p n (opF f)) p.5 p.6 x p.1 p.2 p.7)).1.toList ++ Oct.be (IntKind.u64.wrap p.8 % (18446744073709551616 : Int)).toNat (4 : Nat))).toList ++ Oct.be (IntKind.u64.wrap p.9 % (18446744073709551616 : Int)).toNat (4 : Nat)))).size ≤ (1099511627776 : Nat)) (T.need (OpP n f) (T.need ((ByteArray.mk (Array.mk ((Array.mk ((Array.mk ((putB (Head.H.mk p.3 p.4 (wordsP p n (opF f)) p.5 p.6 x p.1 p.2 p.7)).1.toList ++ Oct.be (IntKind.u64.wrap p.8 % (18446744073709551616 : Int)).toNat (4 : Nat))).toList ++ Oct.be (IntKind.u64.wrap p.9 % (18446744073709551616 : Int)).toNat (4 : Nat))).toList ++ Oct.be (IntKind.u64.wrap (IntKind.i64.wrap (IntKind.i64.wrap (p.10 * (16777216 : Int)) + p.11)) % (18446744073709551616 : Int)).toNat (4 : Nat)))).size + (putS n (opF f)).size ≤ (9223372036854775807 : Nat)) (T.leaf (Value.string (ByteArray.mk (Array.mk ((Array.mk ((Array.mk ((putB (Head.H.mk p.3 p.4 (wordsP p n (opF f)) p.5 p.6 x p.1 p.2 p.7)).1.toList ++ Oct.be (IntKind.u64.wrap p.8 % (18446744073709551616 : Int)).toNat (4 : Nat))).toList ++ Oct.be (IntKind.u64.wrap p.9 % (18446744073709551616 : Int)).toNat (4 : Nat))).toList ++ Oct.be (IntKind.u64.wrap (IntKind.i64.wrap (IntKind.i64.wrap (p.10 * (16777216 : Int)) + p.11)) % (18446744073709551616 : Int)).toNat (4 : Nat))) ++ putS n (opF f))))))) (T.need (OpP n f) (T.need ((ByteArray.mk (Array.mk ((Array.mk ((putB (Head.H.mk p.3 p.4 (wordsP p n (opF f)) p.5 p.6 x p.1 p.2 p.7)).1.toList ++ Oct.be (IntKind.u64.wrap p.8 % (18446744073709551616 : Int)).toNat (4 : Nat))).toList ++ Oct.be (IntKind.u64.wrap p.9 % (18446744073709551616 : Int)).toNat (4 : Nat)))).size + (putS n (opF f)).size ≤ (9223372036854775807 : Nat)) (T.leaf (Value.string (ByteArray.mk (Array.mk ((Array.mk ((putB (Head.H.mk p.3 p.4 (wordsP p n (opF f)) p.5 p.6 x p.1 p.2 p.7)).1.toList ++ Oct.be (IntKind.u64.wrap p.8 % (18446744073709551616 : Int)).toNat (4 : Nat))).toList ++ Oct.be (IntKind.u64.wrap p.9 % (18446744073709551616 : Int)).toNat (4 : Nat))) ++ putS n (opF f)))))))) (T.ite (decide (p.1 = (7 : Int))) (T.need ((0 : Int) ≤ IntKind.u64.wrap (IntKind.i64.wrap (IntKind.i64.wrap (p.10 * (16777216 : Int)) + p.11)) ∧ IntKind.u64.wrap (IntKind.i64.wrap (IntKind.i64.wrap (p.10 * (16777216 : Int)) + p.11)) < (18446744073709551616 : Int) ∧ (0 : Int) ≤ (4 : Int) ∧ (4 : Int) ≤ (8 : Int) ∧ (ByteArray.mk (Array.mk ((putB (Head.H.mk p.3 p.4 (wordsP p n (opF f)) p.5 p.6 x p.1 p.2 p.7)).1.toList ++ Oct.be (IntKind.u64.wrap p.8 % (18446744073709551616 : Int)).toNat (4 : Nat)))).size ≤ (1099511627776 : Nat)) (T.need (OpP n f) (T.need ((ByteArray.mk (Array.mk ((Array.mk ((putB (Head.H.mk p.3 p.4 (wordsP p n (opF f)) p.5 p.6 x p.1 p.2 p.7)).1.toList ++ Oct.be (IntKind.u64.wrap p.8 % (18446744073709551616 : Int)).toNat (4 : Nat))).toList ++ Oct.be (IntKind.u64.wrap (IntKind.i64.wrap (IntKind.i64.wrap (p.10 * (16777216 : Int)) + p.11)) % (18446744073709551616 : Int)).toNat (4 : Nat)))).size + (putS n (opF f)).size ≤ (9223372036854775807 : Nat)) (T.leaf (Value.string (ByteArray.mk (Array.mk ((Array.mk ((putB (Head.H.mk p.3 p.4 (wordsP p n (opF f)) p.5 p.6 x p.1 p.2 p.7)).1.toList ++ Oct.be (IntKind.u64.wrap p.8 % (18446744073709551616 : Int)).toNat (4 : Nat))).toList ++ Oct.be (IntKind.u64.wrap (IntKind.i64.wrap (IntKind.i64.wrap (p.10 * (16777216 : Int)) + p.11)) % (18446744073709551616 : Int)).toNat (4 : Nat))) ++ putS n (opF f))))))) (T.need (OpP n f) (T.need ((ByteArray.mk (Array.mk ((putB (Head.H.mk p.3 p.4 (wordsP p n (opF f)) p.5 p.6 x p.1 p.2 p.7)).1.toList ++ Oct.be (IntKind.u64.wrap p.8 % (18446744073709551616 : Int)).toNat (4 : Nat)))).size + (putS n (opF f)).size ≤ (9223372036854775807 : Nat)) (T.leaf (Value.string (ByteArray.mk (Array.mk ((putB (Head.H.mk p.3 p.4 (wordsP p n (opF f)) p.5 p.6 x p.1 p.2 p.7)).1.toList ++ Oct.be (IntKind.u64.wrap p.8 % (18446744073709551616 : Int)).toNat (4 : Nat))) ++ putS n (opF f))))))))) (T.ite (decide (p.1 < (2 : Int))) (T.need ((0 : Int) ≤ IntKind.u64.wrap p.9 ∧ IntKind.u64.wrap p.9 < (18446744073709551616 : Int) ∧ (0 : Int) ≤ (4 : Int) ∧ (4 : Int) ≤ (8 : Int) ∧ (putB (Head.H.mk p.3 p.4 (wordsP p n (opF f)) p.5 p.6 x p.1 p.2 p.7)).size ≤ (1099511627776 : Nat)) (T.ite (decide (p.1 = (7 : Int))) (T.need ((0 : Int) ≤ IntKind.u64.wrap (IntKind.i64.wrap (IntKind.i64.wrap (p.10 * (16777216 : Int)) + p.11)) ∧ IntKind.u64.wrap (IntKind.i64.wrap (IntKind.i64.wrap (p.10 * (16777216 : Int)) + p.11)) < (18446744073709551616 : Int) ∧ (0 : Int) ≤ (4 : Int) ∧ (4 : Int) ≤ (8 : Int) ∧ (ByteArray.mk (Array.mk ((putB (Head.H.mk p.3 p.4 (wordsP p n (opF f)) p.5 p.6 x p.1 p.2 p.7)).1.toList ++ Oct.be (IntKind.u64.wrap p.9 % (18446744073709551616 : Int)).toNat (4 : Nat)))).size ≤ (1099511627776 : Nat)) (T.need (OpP n f) (T.need ((ByteArray.mk (Array.mk ((Array.mk ((putB (Head.H.mk p.3 p.4 (wordsP p n (opF f)) p.5 p.6 x p.1 p.2 p.7)).1.toList ++ Oct.be (IntKind.u64.wrap p.9 % (18446744073709551616 : Int)).toNat (4 : Nat))).toList ++ Oct.be (IntKind.u64.wrap (IntKind.i64.wrap (IntKind.i64.wrap (p.10 * (16777216 : Int)) + p.11)) % (18446744073709551616 : Int)).toNat (4 : Nat)))).size + (putS n (opF f)).size ≤ (9223372036854775807 : Nat)) (T.leaf (Value.string (ByteArray.mk (Array.mk ((Array.mk ((putB (Head.H.mk p.3 p.4 (wordsP p n (opF f)) p.5 p.6 x p.1 p.2 p.7)).1.toList ++ Oct.be (IntKind.u64.wrap p.9 % (18446744073709551616 : Int)).toNat (4 : Nat))).toList ++ Oct.be (IntKind.u64.wrap (IntKind.i64.wrap (IntKind.i64.wrap (p.10 * (16777216 : Int)) + p.11)) % (18446744073709551616 : Int)).toNat (4 : Nat))) ++ putS n (opF f))))))) (T.need (OpP n f) (T.need ((ByteArray.mk (Array.mk ((putB (Head.H.mk p.3 p.4 (wordsP p n (opF f)) p.5 p.6 x p.1 p.2 p.7)).1.toList ++ Oct.be (IntKind.u64.wrap p.9 % (18446744073709551616 : Int)).toNat (4 : Nat)))).size + (putS n (opF f)).size ≤ (9223372036854775807 : Nat)) (T.leaf (Value.string (ByteArray.mk (Array.mk ((putB (Head.H.mk p.3 p.4 (wordsP p n (opF f)) p.5 p.6 x p.1 p.2 p.7)).1.toList ++ Oct.be (IntKind.u64.wrap p.9 % (18446744073709551616 : Int)).toNat (4 : Nat))) ++ putS n (opF f)))))))) (T.ite (decide (p.1 = (7 : Int))) (T.need ((0 : Int) ≤ IntKind.u64.wrap (IntKind.i64.wrap (IntKind.i64.wrap (p.10 * (16777216 : Int)) + p.11)) ∧ IntKind.u64.wrap (IntKind.i64.wrap (IntKind.i64.wrap (p.10 * (16777216 : Int)) + p.11)) < (18446744073709551616 : Int) ∧ (0 : Int) ≤ (4 : Int) ∧ (4 : Int) ≤ (8 : Int) ∧ (putB (Head.H.mk p.3 p.4 (wordsP p n (opF f)) p.5 p.6 x p.1 p.2 p.7)).size ≤ (1099511627776 : Nat)) (T.need (OpP n f) (T.need ((ByteArray.mk (Array.mk ((putB (Head.H.mk p.3 p.4 (wordsP p n (opF f)) p.5 p.6 x p.1 p.2 p.7)).1.toList ++ Oct.be (IntKind.u64.wrap (IntKind.i64.wrap (IntKind.i64.wrap (p.10 * (16777216 : Int)) + p.11)) % (18446744073709551616 : Int)).toNat (4 : Nat)))).size + (putS n (opF f)).size ≤ (9223372036854775807 : Nat)) (T.leaf (Value.string (ByteArray.mk (Array.mk ((putB (Head.H.mk p.3 p.4 (wordsP p n (opF f)) p.5 p.6 x p.1 p.2 p.7)).1.toList ++ Oct.be (IntKind.u64.wrap (IntKind.i64.wrap (IntKind.i64.wrap (p.10 * (16777216 : Int)) + p.11)) % (18446744073709551616 : Int)).toNat (4 : Nat))) ++ putS n (opF f))))))) (T.need (OpP n f) (T.need ((putB (Head.H.mk p.3 p.4 (wordsP p n (opF f)) p.5 p.6 x p.1 p.2 p.7)).size + (putS n (opF f)).size ≤ (9223372036854775807 : Nat)) (T.leaf (Value.string (putB (Head.H.mk p.3 p.4 (wordsP p n (opF f)) p.5 p.6 x p.1 p.2 p.7) ++ putS n (opF f))))))))) (T.ite (decide (p.1 < (2 : Int))) (T.need ((0 : Int) ≤ IntKind.u64.wrap p.9 ∧ IntKind.u64.wrap p.9 < (18446744073709551616 : Int) ∧ (0 : Int) ≤ (4 : Int) ∧ (4 : Int) ≤ (8 : Int) ∧ (putB (Head.H.mk p.3 p.4 (wordsP p n (opF f)) p.5 p.6 x p.1 p.2 p.7)).size ≤ (1099511627776 : Nat)) (T.ite (decide (p.1 = (7 : Int))) (T.need ((0 : Int) ≤ IntKind.u64.wrap (IntKind.i64.wrap (IntKind.i64.wrap (p.10 * (16777216 : Int)) + p.11)) ∧ IntKind.u64.wrap (IntKind.i64.wrap (IntKind.i64.wrap (p.10 * (16777216 : Int)) + p.11)) < (18446744073709551616 : Int) ∧ (0 : Int) ≤ (4 : Int) ∧ (4 : Int) ≤ (8 : Int) ∧ (ByteArray.mk (Array.mk ((putB (Head.H.mk p.3 p.4 (wordsP p n (opF f)) p.5 p.6 x p.1 p.2 p.7)).1.toList ++ Oct.be (IntKind.u64.wrap p.9 % (18446744073709551616 : Int)).toNat (4 : Nat)))).size ≤ (1099511627776 : Nat)) (T.need (OpP n f) (T.need ((ByteArray.mk (Array.mk ((Array.mk ((putB (Head.H.mk p.3 p.4 (wordsP p n (opF f)) p.5 p.6 x p.1 p.2 p.7)).1.toList ++ Oct.be (IntKind.u64.wrap p.9 % (18446744073709551616 : Int)).toNat (4 : Nat))).toList ++ Oct.be (IntKind.u64.wrap (IntKind.i64.wrap (IntKind.i64.wrap (p.10 * (16777216 : Int)) + p.11)) % (18446744073709551616 : Int)).toNat (4 : Nat)))).size + (putS n (opF f)).size ≤ (9223372036854775807 : Nat)) (T.leaf (Value.string (ByteArray.mk (Array.mk ((Array.mk ((putB (Head.H.mk p.3 p.4 (wordsP p n (opF f)) p.5 p.6 x p.1 p.2 p.7)).1.toList ++ Oct.be (IntKind.u64.wrap p.9 % (18446744073709551616 : Int)).toNat (4 : Nat))).toList ++ Oct.be (IntKind.u64.wrap (IntKind.i64.wrap (IntKind.i64.wrap (p.10 * (16777216 : Int)) + p.11)) % (18446744073709551616 : Int)).toNat (4 : Nat))) ++ putS n (opF f))))))) (T.need (OpP n f) (T.need ((ByteArray.mk (Array.mk ((putB (Head.H.mk p.3 p.4 (wordsP p n (opF f)) p.5 p.6 x p.1 p.2 p.7)).1.toList ++ Oct.be (IntKind.u64.wrap p.9 % (18446744073709551616 : Int)).toNat (4 : Nat)))).size + (putS n (opF f)).size ≤ (9223372036854775807 : Nat)) (T.leaf (Value.string (ByteArray.mk (Array.mk ((putB (Head.H.mk p.3 p.4 (wordsP p n (opF f)) p.5 p.6 x p.1 p.2 p.7)).1.toList ++ Oct.be (IntKind.u64.wrap p.9 % (18446744073709551616 : Int)).toNat (4 : Nat))) ++ putS n (opF f)))))))) (T.ite (decide (p.1 = (7 : Int))) (T.need ((0 : Int) ≤ IntKind.u64.wrap (IntKind.i64.wrap (IntKind.i64.wrap (p.10 * (16777216 : Int)) + p.11)) ∧ IntKind.u64.wrap (IntKind.i64.wrap (IntKind.i64.wrap (p.10 * (16777216 : Int)) + p.11)) < (18446744073709551616 : Int) ∧ (0 : Int) ≤ (4 : Int) ∧ (4 : Int) ≤ (8 : Int) ∧ (putB (Head.H.mk p.3 p.4 (wordsP p n (opF f)) p.5 p.6 x p.1 p.2 p.7)).size ≤ (1099511627776 : Nat)) (T.need (OpP n f) (T.need ((ByteArray.mk (Array.mk ((putB (Head.H.mk p.3 p.4 (wordsP p n (opF f)) p.5 p.6 x p.1 p.2 p.7)).1.toList ++ Oct.be (IntKind.u64.wrap (IntKind.i64.wrap (IntKind.i64.wrap (p.10 * (16777216 : Int)) + p.11)) % (18446744073709551616 : Int)).toNat (4 : Nat)))).size + (putS n (opF f)).size ≤ (9223372036854775807 : Nat)) (T.leaf (Value.string (ByteArray.mk (Array.mk ((putB (Head.H.mk p.3 p.4 (wordsP p n (opF f)) p.5 p.6 x p.1 p.2 p.7)).1.toList ++ Oct.be (IntKind.u64.wrap (IntKind.i64.wrap (IntKind.i64.wrap (p.10 * (16777216 : Int)) + p.11)) % (18446744073709551616 : Int)).toNat (4 : Nat))) ++ putS n (opF f))))))) (T.need (OpP n f) (T.need ((putB (Head.H.mk p.3 p.4 (wordsP p n (opF f)) p.5 p.6 x p.1 p.2 p.7)).size + (putS n (opF f)).size ≤ (9223372036854775807 : Nat)) (T.leaf (Value.string (putB (Head.H.mk p.3 p.4 (wordsP p n (opF f)) p.5 p.6 x p.1 p.2 p.7) ++ putS n (opF f)))))))))) := by kernel_rfl
end Go.Proofs.Ytikiieclbeiicaa
namespace Go.Proofs.Ytikiieclbeiicaa
set_option linter.unusedVariables false
set_option linter.unusedSimpArgs false
open Go.RowKit Sym Go.ChangeShapes Go.WideShapes Go.ChangeMaps Inet

theorem sumXY_bd (x y : ByteArray) : 0 ≤ sumXY x y ∧ sumXY x y ≤ 65535 := by
  unfold sumXY
  have := fold_bd (n := ((tot16 x.data.toList + tot16 y.data.toList : Nat) : Int)) (by omega)
  omega
theorem sumP_bd (a d : ByteArray) (c f t : Int) : 0 ≤ sumP a d c f t ∧ sumP a d c f t ≤ 65535 := sumXY_bd _ _
theorem check_sum {s : Int} (h : 0 ≤ s ∧ s ≤ 65535) (p : Pk) (n : Nat) (g : Nat → Op) : Head.check (begH p n g s) = Head.check (begH p n g 0) := by
  have e1 : Head.wi s 65535 = true := decide_eq_true h
  have e0 : Head.wi 0 65535 = true := rfl
  unfold Head.check begH
  simp only [e1, e0]
theorem putB_le (h : Head.H) : (putB h).size ≤ 16 := by
  unfold putB
  split
  · show (Head.put h).length ≤ 16
    unfold Head.put
    split <;> simp [Oct.be_length]
  · exact Nat.zero_le _
theorem putS_size {n : Nat} {g : Nat → Op} : (putS n g).size ≤ 404 := by
  unfold putS
  split
  · rename_i hc
    obtain ⟨h1, h2⟩ := chkO_ok hc
    have h3 := optL_len (n := n) h1
    show (optP n g).length ≤ 404
    unfold optP padN
    rw [List.length_append, List.length_replicate]
    omega
  · exact Nat.zero_le _
def aheadP (p : Pk) (n : Nat) (g : Nat → Op) (s : Int) : ByteArray := putB (begH p n g s) ++ fieldsB p ++ putS n g
theorem aheadP_size (p : Pk) (n : Nat) (g : Nat → Op) (s : Int) : (aheadP p n g s).size ≤ 436 := by
  have h1 := putB_le (begH p n g s)
  have h2 := fieldsB_size p
  have h3 := putS_size (n := n) (g := g)
  unfold aheadP
  rw [ByteArray.size_append, ByteArray.size_append]; omega
def sumOf (p : Pk) (n : Nat) (g : Nat → Op) (x y : Int) : Int := sumP (aheadP p n g 0) p.data p.cover x y
def putP (p : Pk) (n : Nat) (g : Nat → Op) (x y : Int) : ByteArray := if chkP p n g = 0 then aheadP p n g (sumOf p n g x y) ++ p.data else ⟨⟨[]⟩⟩
theorem chkP_ok {p : Pk} {n : Nat} {g : Nat → Op} (h : chkP p n g = 0) : Head.check (begH p n g 0) = 0 ∧ numP p = true ∧ chkO n g = 0 ∧ p.data.size ≤ 200 ∧ spareP p = false ∧ covOk p.data p.cover = true := by
  unfold chkP at h
  split at h
  · rename_i h1
    split at h
    · rename_i h2
      split at h
      · rename_i h3
        split at h
        · cases h
        · rename_i h4
          split at h
          · cases h
          · rename_i h5
            split at h
            · rename_i h6
              exact ⟨h1, h2, h3, by omega, by simpa using h5, h6⟩
            · cases h
      · rename_i h3; exact absurd h h3
    · cases h
  · rename_i h1; exact absurd h h1
set_option maxRecDepth 100000 in
theorem packet_Put (p : Pk) (n : Nat) (f : Nat → Nat → Value) (x y : Int) (ho : ChkP p n f) (o : Value) (w : World) (hv : ∀ B, BlkSat B w o (.row n 2 f)) : Calls Try.prog 9 #[p.v o, .agg #[.int .i64 x, .int .i64 y]] w fun e w' => e = .returned (.tuple #[.string (putP p n (opF f) x y), .int .i64 (chkP p n (opF f))]) ∧ Below w.heap.size w w' := by
  refine calls_runO (both_ok SPk2_ok FPut_ok) follows Try.func9 (by kernel_rfl) (by kernel_rfl) (noloops (by kernel_rfl)) (pput_run p n f x y) ?_ (mem_row (hv [o])) rfl
  obtain ⟨h1, h2⟩ := ho
  by_cases hc : chkP p n (opF f) = 0
  · have eP : putP p n (opF f) x y = aheadP p n (opF f) (sumOf p n (opF f) x y) ++ p.data := if_pos hc
    obtain ⟨c1, -, c3, c4, -, -⟩ := chkP_ok hc
    have e2 : Head.check (begH p n (opF f) (sumOf p n (opF f) x y)) = 0 := (check_sum (sumP_bd _ _ _ _ _) p n (opF f)).trans c1
    have z1 : ∀ s, (putB (begH p n (opF f) s)).size + (fieldsB p).size ≤ 9223372036854775807 := fun s => by
      have := putB_le (begH p n (opF f) s)
      have := fieldsB_size p
      omega
    have z2 : ∀ s, (putB (begH p n (opF f) s) ++ fieldsB p).size + (putS n (opF f)).size ≤ 9223372036854775807 := fun s => by
      have := putB_le (begH p n (opF f) s)
      have := fieldsB_size p
      have := putS_size (n := n) (g := opF f)
      rw [ByteArray.size_append]; omega
    have z3 : ∀ s, (aheadP p n (opF f) s).size + p.data.size ≤ 9223372036854775807 := fun s => by
      have := aheadP_size p n (opF f) s
      omega
    refine t_need ⟨h1, h2⟩ (t_ite (fun h => ?_) fun _ => t_need h1 (t_need h1 (t_ite (fun h => ?_) fun _ => t_need trivial (t_need (z1 0) (t_need (z2 0) (t_ite (fun h => ?_) fun _ => t_need ⟨Nat.le_trans (aheadP_size p n (opF f) 0) (by decide), by omega⟩ (t_need trivial (t_need (z1 (sumOf p n (opF f) x y)) (t_need (z2 (sumOf p n (opF f) x y)) (t_need (z3 (sumOf p n (opF f) x y)) (t_leaf ?_)))))))))))
    · have h : (!decide (chkP p n (opF f) = 0)) = true := h
      rw [decide_eq_true hc] at h; cases h
    · rw [decide_eq_true c3] at h; cases h
    · have h : (!decide (Head.check (begH p n (opF f) 0) = 0)) = true := h
      rw [decide_eq_true c1] at h; cases h
    · show Value.tuple #[.string (aheadP p n (opF f) (sumOf p n (opF f) x y) ++ p.data), .int .i64 (Head.check (begH p n (opF f) (sumOf p n (opF f) x y)))] = _
      rw [e2, eP, hc]
  · have eP : putP p n (opF f) x y = ⟨⟨[]⟩⟩ := if_neg hc
    refine t_need ⟨h1, h2⟩ (t_ite (fun _ => t_leaf ?_) fun h => ?_)
    · show Value.tuple #[.string ⟨⟨[]⟩⟩, .int .i64 (chkP p n (opF f))] = _
      rw [eP]
    · have h : (!decide (chkP p n (opF f) = 0)) = false := h
      rw [decide_eq_false hc] at h; cases h
end Go.Proofs.Ytikiieclbeiicaa
namespace Go.Proofs.Ytikiieclbeiicaa
set_option linter.unusedVariables false
set_option linter.unusedSimpArgs false
open Go.RowKit Sym Go.ChangeShapes Go.WideShapes Go.ChangeMaps Inet

theorem wrap64_small {z : Int} (h0 : 0 ≤ z) (h1 : z < 18446744073709551616) : (IntKind.u64.wrap z % 18446744073709551616).toNat = Oct.u64 z := by
  rw [IntKind.wrap_u64]; unfold Oct.u64; omega
theorem be_up (u : Nat) (k j : Nat) (h : u < 256 ^ k) : Oct.be u (k + j) = List.replicate j 0 ++ Oct.be u k := by
  induction j with
  | zero => rfl
  | succ j ih =>
    show UInt8.ofNat (u / 256 ^ (k + j)) :: Oct.be u (k + j) = _
    rw [ih, Nat.div_eq_of_lt (Nat.lt_of_lt_of_le h (Nat.pow_le_pow_right (by decide) (by omega)))]
    rfl
theorem be8 {z : Int} (h0 : 0 ≤ z) (h1 : z < 281474976710656) : Oct.be (IntKind.u64.wrap z % 18446744073709551616).toNat 8 = Oct.be (Oct.u64 0) 2 ++ Oct.be (Oct.u64 z) 6 := by
  rw [wrap64_small h0 (by omega)]
  exact be_up _ 6 2 (by unfold Oct.u64; omega)
theorem be4 {z : Int} (h0 : 0 ≤ z) (h1 : z < 16777216) : Oct.be (IntKind.u64.wrap z % 18446744073709551616).toNat 4 = Oct.be (Oct.u64 0) 1 ++ Oct.be (Oct.u64 z) 3 := by
  rw [wrap64_small h0 (by omega)]
  exact be_up _ 3 1 (by unfold Oct.u64; omega)
theorem be4s {z : Int} (h0 : 0 ≤ z) (h1 : z < 4294967296) : Oct.be (IntKind.u64.wrap z % 18446744073709551616).toNat 4 = Oct.be (Oct.u64 z) 4 := by
  rw [wrap64_small h0 (by omega)]
theorem be4r {c d : Int} (h0 : 0 ≤ c) (h1 : c < 256) (h2 : 0 ≤ d) (h3 : d < 16777216) : Oct.be (IntKind.u64.wrap (IntKind.i64.wrap (IntKind.i64.wrap (c * 16777216) + d)) % 18446744073709551616).toNat 4 = Oct.be (Oct.u64 c) 1 ++ Oct.be (Oct.u64 d) 3 := by
  rw [w64 (c * 16777216) (by omega) (by omega), w64 _ (by omega) (by omega), wrap64_small (by omega) (by omega)]
  obtain ⟨c, rfl⟩ := Int.eq_ofNat_of_zero_le h0
  obtain ⟨d, rfl⟩ := Int.eq_ofNat_of_zero_le h2
  have e : Oct.u64 ((c : Int) * 16777216 + d) = c * 16777216 + d := by unfold Oct.u64; omega
  have ec : Oct.u64 (c : Int) = c := by unfold Oct.u64; omega
  have ed : Oct.u64 (d : Int) = d := by unfold Oct.u64; omega
  have hd : d < 16777216 := by omega
  have hc : c < 256 := by omega
  rw [e, ec, ed]
  have b : ∀ u v : Nat, u % 256 = v % 256 → UInt8.ofNat u = UInt8.ofNat v := fun u v h => by
    apply UInt8.toNat.inj
    rw [UInt8.toNat_ofNat', UInt8.toNat_ofNat']
    exact h
  show [UInt8.ofNat _, UInt8.ofNat _, UInt8.ofNat _, UInt8.ofNat _] = [UInt8.ofNat _, UInt8.ofNat _, UInt8.ofNat _, UInt8.ofNat _]
  rw [b ((c * 16777216 + d) / 256 ^ 3) (c / 256 ^ 0) (by omega), b ((c * 16777216 + d) / 256 ^ 2) (d / 256 ^ 2) (by omega), b ((c * 16777216 + d) / 256 ^ 1) (d / 256 ^ 1) (by omega), b ((c * 16777216 + d) / 256 ^ 0) (d / 256 ^ 0) (by omega)]
theorem numP_ok {p : Pk} (h : numP p = true) : (Head.acks p.kind = true → 0 ≤ p.ack ∧ p.ack < (if p.long = true then 281474976710656 else 16777216)) ∧ (served p.kind = true → 0 ≤ p.service ∧ p.service < 4294967296) ∧ (p.kind = 7 → (0 ≤ p.code ∧ p.code < 256) ∧ (0 ≤ p.detail ∧ p.detail < 16777216)) := by
  unfold numP at h
  simp only [Bool.and_eq_true, Bool.or_eq_true, Bool.not_eq_true', Bool.or_eq_false_iff, Bool.and_eq_false_iff, wn, decide_eq_true_eq, decide_eq_false_iff_not, Head.most] at h
  refine ⟨fun a => ?_, fun a => ?_, fun a => ?_⟩
  · simp [a] at h; grind
  · simp [a] at h; grind
  · simp [a] at h; grind
def AhP (p : Pk) (n : Nat) (f : Nat → Nat → Value) (x : Int) : Prop := OpP n f ∧ chkP p n (opF f) = 0
set_option maxRecDepth 100000 in
theorem ref10_ahead (p : Pk) (n : Nat) (f : Nat → Nat → Value) (x : Int) (ho : AhP p n f x) (o : Value) (w : World) (hv : ∀ B, BlkSat B w o (.row n 2 f)) : Calls Try.prog 39 #[p.v o, .int .i64 x] w fun e w' => e = .returned (.string (aheadP p n (opF f) x)) ∧ Below w.heap.size w w' := by
  refine calls_runO CP2_ok follows Try.func39 (by kernel_rfl) (by kernel_rfl) (noloops (by kernel_rfl)) (rahead_run p n f x) ?_ (mem_row (hv [o])) rfl
  obtain ⟨h1, hc⟩ := ho
  obtain ⟨c1, c2, c3, -, -, -⟩ := chkP_ok hc
  obtain ⟨n1, n2, n3⟩ := numP_ok c2
  have hk := (Head.check_ok c1).1
  have hk : 0 ≤ p.kind ∧ p.kind ≤ 9 := hk
  have e2 : decide (p.kind < 2) = served p.kind := by
    unfold served
    by_cases h : p.kind < 2
    · simp [h]; omega
    · simp [h]; omega
  have hB := putB_le (begH p n (opF f) x)
  have hS := putS_size (n := n) (g := opF f)
  have r := fun z => u64_range z
  have hsz : ∀ l : List UInt8, (ByteArray.mk (Array.mk l)).size = l.length := fun _ => rfl
  have A8 : Head.acks p.kind = true → p.long = true → Oct.be (IntKind.u64.wrap p.ack % 18446744073709551616).toNat 8 = Oct.be (Oct.u64 0) 2 ++ Oct.be (Oct.u64 p.ack) 6 := fun h1 h2 => by
    have := n1 h1; rw [if_pos h2] at this; exact be8 this.1 this.2
  have A4 : Head.acks p.kind = true → p.long = false → Oct.be (IntKind.u64.wrap p.ack % 18446744073709551616).toNat 4 = Oct.be (Oct.u64 0) 1 ++ Oct.be (Oct.u64 p.ack) 3 := fun h1 h2 => by
    have := n1 h1; rw [if_neg (by rw [h2]; decide)] at this; exact be4 this.1 this.2
  have S4 : served p.kind = true → Oct.be (IntKind.u64.wrap p.service % 18446744073709551616).toNat 4 = Oct.be (Oct.u64 p.service) 4 := fun h1 => be4s (n2 h1).1 (n2 h1).2
  have R4 : p.kind = 7 → Oct.be (IntKind.u64.wrap (IntKind.i64.wrap (IntKind.i64.wrap (p.code * 16777216) + p.detail)) % 18446744073709551616).toNat 4 = Oct.be (Oct.u64 p.code) 1 ++ Oct.be (Oct.u64 p.detail) 3 := fun h1 => be4r (n3 h1).1.1 (n3 h1).1.2 (n3 h1).2.1 (n3 h1).2.2
  have hH' : putB (Head.H.mk p.src p.dst (wordsP p n (opF f)) p.ccval p.cover x p.kind p.long p.seq) = putB (begH p n (opF f) x) := rfl
  unfold aheadP fieldsB fieldsS fieldsA
  rw [e2]
  dsimp only
  rw [hH']
  generalize putB (begH p n (opF f) x) = H at *
  have hl : H.data.toList.length = H.size := by simp
  generalize putS n (opF f) = S at *
  clear n1 n2 n3 c1 c2 c3 hc e2 hH'
  generalize Head.acks p.kind = a at *
  generalize served p.kind = s at *
  generalize p.long = l at *
  have b8 := Oct.be_length (IntKind.u64.wrap p.ack % 18446744073709551616).toNat 8
  have b4 := Oct.be_length (IntKind.u64.wrap p.ack % 18446744073709551616).toNat 4
  have s4 := Oct.be_length (IntKind.u64.wrap p.service % 18446744073709551616).toNat 4
  have r4 := Oct.be_length (IntKind.u64.wrap (IntKind.i64.wrap (IntKind.i64.wrap (p.code * 16777216) + p.detail)) % 18446744073709551616).toNat 4
  generalize Oct.be (IntKind.u64.wrap p.ack % 18446744073709551616).toNat 8 = L8 at *
  generalize Oct.be (IntKind.u64.wrap p.ack % 18446744073709551616).toNat 4 = L4 at *
  generalize Oct.be (IntKind.u64.wrap p.service % 18446744073709551616).toNat 4 = LS at *
  generalize Oct.be (IntKind.u64.wrap (IntKind.i64.wrap (IntKind.i64.wrap (p.code * 16777216) + p.detail)) % 18446744073709551616).toNat 4 = LR at *
  have sz : ∀ l : List UInt8, l.length ≤ 40 → (ByteArray.mk (Array.mk l)).size ≤ 1099511627776 := fun l h => by rw [hsz]; omega
  have sz2 : ∀ l : List UInt8, l.length ≤ 40 → (ByteArray.mk (Array.mk l)).size + S.size ≤ 9223372036854775807 := fun l h => by rw [hsz]; omega
  have fin : ∀ (l : List UInt8) (F : ByteArray), l = H.data.toList ++ F.data.toList → Value.string (⟨⟨l⟩⟩ ++ S) = Value.string (H ++ F ++ S) := fun l F e => by
    have : (⟨⟨l⟩⟩ : ByteArray) = H ++ F := by
      apply ByteArray.ext
      apply Array.ext'
      rw [e]
      simp
    rw [this]
  have fin0 : Value.string (H ++ S) = Value.string (H ++ ⟨⟨[]⟩⟩ ++ S) := by
    have : H ++ ⟨⟨[]⟩⟩ = H := by
      apply ByteArray.ext
      simp
    rw [this]
  by_cases h7 : p.kind = 7
  · rw [if_pos h7, decide_eq_true h7]
    have R4 := R4 h7
    cases a <;> cases s <;> cases l <;>
      (repeat' (first | (with_reducible refine t_need ?_ ?_) | (with_reducible refine t_ite ?_ ?_; all_goals intro h; all_goals (first | (simp only [Bool.false_eq_true, Bool.true_eq_false, Bool.not_true, Bool.not_false] at h; done) | skip)) | (with_reducible refine t_leaf ?_))) <;>
      first | exact h1 | exact ⟨(r _).1, (r _).2, by decide, by decide, by first | omega | (refine sz _ ?_; simp [b8, b4, s4, r4, hl]; omega) | (simp [Oct.put_size]; omega)⟩ | (refine sz2 _ ?_; simp [b8, b4, s4, r4, hl]; omega) | omega | exact fin0 | (refine fin _ _ ?_; simp only [A8, A4, S4, R4, Oct.put, if_true, if_false, Bool.false_eq_true]; simp) | skip
  · rw [if_neg h7, decide_eq_false h7]
    cases a <;> cases s <;> cases l <;>
      (repeat' (first | (with_reducible refine t_need ?_ ?_) | (with_reducible refine t_ite ?_ ?_; all_goals intro h; all_goals (first | (simp only [Bool.false_eq_true, Bool.true_eq_false, Bool.not_true, Bool.not_false] at h; done) | skip)) | (with_reducible refine t_leaf ?_))) <;>
      first | exact h1 | exact ⟨(r _).1, (r _).2, by decide, by decide, by first | omega | (refine sz _ ?_; simp [b8, b4, s4, r4, hl]; omega) | (simp [Oct.put_size]; omega)⟩ | (refine sz2 _ ?_; simp [b8, b4, s4, r4, hl]; omega) | omega | exact fin0 | (refine fin _ _ ?_; simp only [A8, A4, S4, R4, Oct.put, if_true, if_false, Bool.false_eq_true]; simp) | skip
end Go.Proofs.Ytikiieclbeiicaa
namespace Go.Proofs.Ytikiieclbeiicaa
set_option linter.unusedVariables false
set_option linter.unusedSimpArgs false
open Go.RowKit Sym Go.ChangeShapes Go.WideShapes Go.ChangeMaps Inet

/-- a function of a packet and a number -/
def rdPI (pp : Pk → Nat → (Nat → Nat → Value) → Int → Prop) (r : Pk → Nat → (Nat → Nat → Value) → Int → Value) : List SV → List Blk → Option (List Prop × Value)
  | [s, .v (.int .i64 z)], H => (pkIn H s).bind fun q => some ([pp q.1 q.2.1 q.2.2 z], r q.1 q.2.1 q.2.2 z)
  | _, _ => none
theorem rdPI_ok {P : Program} {k : FuncId} {pp : Pk → Nat → (Nat → Nat → Value) → Int → Prop} {r : Pk → Nat → (Nat → Nat → Value) → Int → Value} (hc : ∀ (p : Pk) (n : Nat) (fr : Nat → Nat → Value) (z : Int) (o : Value) (w : World), (∀ B, BlkSat B w o (.row n 2 fr)) → pp p n fr z → Calls P k #[p.v o, .int .i64 z] w fun e w' => e = .returned (r p n fr z) ∧ Below w.heap.size w w') : ReadOk P k (rdPI pp r) := by
  intro ss H q v h bs B w vs hm hv hp
  unfold rdPI at h
  split at h
  · simp only [Option.bind_eq_some_iff, Option.some.injEq, Prod.mk.injEq] at h
    obtain ⟨⟨p, n, f⟩, hr, rfl, rfl⟩ := h
    obtain ⟨x0, r0, e0, v0, rfl⟩ := tos_cons hv
    obtain ⟨x1, r1, e1, v1, rfl⟩ := tos_cons v0
    obtain rfl := tos_nil v1
    simp only [SV.to, Option.some.injEq] at e1
    subst e1
    obtain ⟨o, rfl, hb⟩ := pkIn_ok hm e0 hr
    exact hc p n f _ o w hb (hp _ (List.mem_cons_self ..))
  · cases h
def FAh : LTab := addR 39 (rdPI AhP fun p n f x => .string (aheadP p n (opF f) x)) FPk2
theorem FAh_ok : LOk Try.prog FAh := addR_ok FPk2_ok (by kernel_rfl) (rdPI_ok fun p n fr z o w hv hp => ref10_ahead p n fr z hp o w hv)
abbrev CAh (P : Program) : Cfg := both P SPk2 FAh (39 :: fsPk2)
theorem CAh_ok : CfgOk Try.prog (CAh Try.prog) := both_ok SPk2_ok FAh_ok
set_option maxRecDepth 100000 in
theorem rput_run (p : Pk) (n : Nat) (f : Nat → Nat → Value) (x y : Int) : runO Try.prog (CAh Try.prog) noL Try.f10 [p.s (.ref 0), .v (.agg #[.int .i64 x, .int .i64 y])] [.row n 2 f] = T.need (ChkP p n ((Pk.mk p.kind p.long p.src p.dst p.ccval p.cover p.seq p.ack p.service p.code p.detail p.data, openS (SV.ref (0 : Nat))).fst, (n, f).fst, (n, f).snd).snd.snd) (T.ite (!decide (chkP p n (opF ((Pk.mk p.kind p.long p.src p.dst p.ccval p.cover p.seq p.ack p.service p.code p.detail p.data, openS (SV.ref (0 : Nat))).fst, (n, f).fst, (n, f).snd).snd.snd) = (0 : Int))) (T.leaf (Value.tuple (Array.mk [Value.string (ByteArray.mk (Array.mk [])), Value.int IntKind.i64 (chkP p n (opF ((Pk.mk p.kind p.long p.src p.dst p.ccval p.cover p.seq p.ack p.service p.code p.detail p.data, openS (SV.ref (0 : Nat))).fst, (n, f).fst, (n, f).snd).snd.snd))]))) (T.need (AhP p n ((Pk.mk p.kind p.long p.src p.dst p.ccval p.cover p.seq p.ack p.service p.code p.detail p.data, openS (SV.ref (0 : Nat))).fst, (n, f).fst, (n, f).snd).snd.snd (0 : Int)) (T.need ((aheadP ((Pk.mk p.kind p.long p.src p.dst p.ccval p.cover p.seq p.ack p.service p.code p.detail p.data, openS (SV.ref (0 : Nat))).fst, (n, f).fst, (n, f).snd).fst ((Pk.mk p.kind p.long p.src p.dst p.ccval p.cover p.seq p.ack p.service p.code p.detail p.data, openS (SV.ref (0 : Nat))).fst, (n, f).fst, (n, f).snd).snd.fst (opF ((Pk.mk p.kind p.long p.src p.dst p.ccval p.cover p.seq p.ack p.service p.code p.detail p.data, openS (SV.ref (0 : Nat))).fst, (n, f).fst, (n, f).snd).snd.snd) (0 : Int)).size ≤ (5000 : Nat) ∧ p.data.size ≤ (5000 : Nat)) (T.need (AhP p n ((Pk.mk p.kind p.long p.src p.dst p.ccval p.cover p.seq p.ack p.service p.code p.detail p.data, openS (SV.ref (0 : Nat))).fst, (n, f).fst, (n, f).snd).snd.snd (sumP (aheadP p n (opF ((Pk.mk p.kind p.long p.src p.dst p.ccval p.cover p.seq p.ack p.service p.code p.detail p.data, openS (SV.ref (0 : Nat))).fst, (n, f).fst, (n, f).snd).snd.snd) (0 : Int)) p.12 p.6 x y)) (T.need ((aheadP p n (opF ((Pk.mk p.kind p.long p.src p.dst p.ccval p.cover p.seq p.ack p.service p.code p.detail p.data, openS (SV.ref (0 : Nat))).fst, (n, f).fst, (n, f).snd).snd.snd) (sumP (aheadP p n (opF ((Pk.mk p.kind p.long p.src p.dst p.ccval p.cover p.seq p.ack p.service p.code p.detail p.data, openS (SV.ref (0 : Nat))).fst, (n, f).fst, (n, f).snd).snd.snd) (0 : Int)) p.12 p.6 x y)).size + p.12.size ≤ (9223372036854775807 : Nat)) (T.leaf (Value.tuple (Array.mk [Value.string (aheadP p n (opF ((Pk.mk p.kind p.long p.src p.dst p.ccval p.cover p.seq p.ack p.service p.code p.detail p.data, openS (SV.ref (0 : Nat))).fst, (n, f).fst, (n, f).snd).snd.snd) (sumP (aheadP p n (opF ((Pk.mk p.kind p.long p.src p.dst p.ccval p.cover p.seq p.ack p.service p.code p.detail p.data, openS (SV.ref (0 : Nat))).fst, (n, f).fst, (n, f).snd).snd.snd) (0 : Int)) p.12 p.6 x y) ++ p.12), Value.int IntKind.i64 (0 : Int)])))))))) := by kernel_rfl
def SPk3 : Tab := addS 60 tHeadGet SPk2
theorem SPk3_ok : TabOk Try.prog SPk3 := addS_ok SPk2_ok (by kernel_rfl) (by (intro xs p v h hp w; unfold tHeadGet at h; (split at h) <;> first | (cases h; done) | (simp only [Option.some.injEq, Prod.mk.injEq] at h; obtain ⟨rfl, rfl⟩ := h; exact ref09_get _ (hp _ (List.mem_cons_self ..)) w)))
def SParts (P : Program) (fn : Func) : Tab := addI 54 P (onlyS P SPk3) noL fn SPk3
theorem SParts_ok : TabOk Try.prog (SParts Try.prog Try.f54) := addI_ok SPk3_ok (onlyS_ok SPk3_ok) follows Try.func54 (by kernel_rfl) (by kernel_rfl) (by kernel_rfl) (noloops (by kernel_rfl))
set_option maxRecDepth 100000 in
theorem pright_run (s : ByteArray) (x y : Int) : runV Try.prog (onlyS Try.prog (SParts Try.prog Try.f54)) noL Try.f17 [.string s, .agg #[.int .i64 x, .int .i64 y]] = T.need (s.size ≤ (9223372036854775807 : Nat)) (T.ite (!decide ((get s).snd.2 = (0 : Int))) (T.ite (!decide ((get s).snd.2 = (0 : Int))) (T.leaf (Value.bool false)) (T.need ((ByteArray.mk #[]).size ≤ (5000 : Nat) ∧ (ByteArray.mk #[]).size ≤ (5000 : Nat)) (T.ite (covOk (ByteArray.mk (Array.mk [])) (get s).fst.5) (T.leaf (Value.bool (decide (sumP (ByteArray.mk (Array.mk [])) (ByteArray.mk (Array.mk [])) (get s).fst.5 x y = (0 : Int))))) (T.leaf (Value.bool false))))) (T.ite (decide (IntKind.i64.wrap ((4 : Int) * (get s).fst.3) > (↑s.size : Int))) (T.ite true (T.leaf (Value.bool false)) (T.need ((ByteArray.mk #[]).size ≤ (5000 : Nat) ∧ (ByteArray.mk #[]).size ≤ (5000 : Nat)) (T.ite (covOk (ByteArray.mk (Array.mk [])) (get s).fst.5) (T.leaf (Value.bool (decide (sumP (ByteArray.mk (Array.mk [])) (ByteArray.mk (Array.mk [])) (get s).fst.5 x y = (0 : Int))))) (T.leaf (Value.bool false))))) (T.need ((0 : Int) ≤ (0 : Int) ∧ (0 : Int) ≤ IntKind.i64.wrap ((4 : Int) * (get s).fst.words) ∧ IntKind.i64.wrap ((4 : Int) * (get s).fst.words) ≤ (↑s.size : Int)) (T.need ((0 : Int) ≤ IntKind.i64.wrap ((4 : Int) * (get s).fst.words) ∧ IntKind.i64.wrap ((4 : Int) * (get s).fst.words) ≤ (↑s.size : Int) ∧ (↑s.size : Int) ≤ (↑s.size : Int)) (T.ite false (T.leaf (Value.bool false)) (T.need ((s.extract (Int.toNat (0 : Int)) (IntKind.i64.wrap ((4 : Int) * (get s).fst.words)).toNat).size ≤ (5000 : Nat) ∧ (s.extract (IntKind.i64.wrap ((4 : Int) * (get s).fst.words)).toNat (↑s.size : Int).toNat).size ≤ (5000 : Nat)) (T.ite (covOk (s.extract (IntKind.i64.wrap ((4 : Int) * (get s).fst.3)).toNat (↑s.size : Int).toNat) (get s).fst.5) (T.leaf (Value.bool (decide (sumP (s.extract (0 : Nat) (IntKind.i64.wrap ((4 : Int) * (get s).fst.3)).toNat) (s.extract (IntKind.i64.wrap ((4 : Int) * (get s).fst.3)).toNat (↑s.size : Int).toNat) (get s).fst.5 x y = (0 : Int))))) (T.leaf (Value.bool false))))))))) := by kernel_rfl
set_option maxRecDepth 100000 in
theorem rright_run (s : ByteArray) (x y : Int) : runV Try.prog (onlyS Try.prog SPk3) noL Try.f18 [.string s, .agg #[.int .i64 x, .int .i64 y]] = T.need (s.size ≤ (9223372036854775807 : Nat)) (T.ite (!decide ((get s).snd.2 = (0 : Int))) (T.leaf (Value.bool false)) (T.ite (decide (IntKind.i64.wrap ((4 : Int) * (get s).fst.3) > (↑s.size : Int))) (T.leaf (Value.bool false)) (T.need ((0 : Int) ≤ (0 : Int) ∧ (0 : Int) ≤ IntKind.i64.wrap ((4 : Int) * (get s).fst.words) ∧ IntKind.i64.wrap ((4 : Int) * (get s).fst.words) ≤ (↑s.size : Int)) (T.need ((0 : Int) ≤ IntKind.i64.wrap ((4 : Int) * (get s).fst.words) ∧ IntKind.i64.wrap ((4 : Int) * (get s).fst.words) ≤ (↑s.size : Int) ∧ (↑s.size : Int) ≤ (↑s.size : Int)) (T.need ((s.extract (Int.toNat (0 : Int)) (IntKind.i64.wrap ((4 : Int) * (get s).fst.words)).toNat).size ≤ (5000 : Nat) ∧ (s.extract (IntKind.i64.wrap ((4 : Int) * (get s).fst.words)).toNat (↑s.size : Int).toNat).size ≤ (5000 : Nat)) (T.ite (covOk (s.extract (IntKind.i64.wrap ((4 : Int) * (get s).fst.3)).toNat (↑s.size : Int).toNat) (get s).fst.5) (T.leaf (Value.bool (decide (sumP (s.extract (0 : Nat) (IntKind.i64.wrap ((4 : Int) * (get s).fst.3)).toNat) (s.extract (IntKind.i64.wrap ((4 : Int) * (get s).fst.3)).toNat (↑s.size : Int).toNat) (get s).fst.5 x y = (0 : Int))))) (T.leaf (Value.bool false)))))))) := by kernel_rfl
/-! the reference's Put -/
theorem ref10_Put (p : Pk) (n : Nat) (f : Nat → Nat → Value) (x y : Int) (ho : ChkP p n f) (o : Value) (w : World) (hv : ∀ B, BlkSat B w o (.row n 2 f)) : Calls Try.prog 10 #[p.v o, .agg #[.int .i64 x, .int .i64 y]] w fun e w' => e = .returned (.tuple #[.string (putP p n (opF f) x y), .int .i64 (chkP p n (opF f))]) ∧ Below w.heap.size w w' := by
  refine calls_runO CAh_ok follows Try.func10 (by kernel_rfl) (by kernel_rfl) (noloops (by kernel_rfl)) (rput_run p n f x y) ?_ (mem_row (hv [o])) rfl
  obtain ⟨h1, h2⟩ := ho
  by_cases hc : chkP p n (opF f) = 0
  · have eP : putP p n (opF f) x y = aheadP p n (opF f) (sumOf p n (opF f) x y) ++ p.data := if_pos hc
    obtain ⟨-, -, -, c4, -, -⟩ := chkP_ok hc
    have z3 : ∀ s, (aheadP p n (opF f) s).size + p.data.size ≤ 9223372036854775807 := fun s => by
      have := aheadP_size p n (opF f) s
      omega
    refine t_need ⟨h1, h2⟩ (t_ite (fun h => ?_) fun _ => t_need ⟨h1, hc⟩ (t_need ⟨Nat.le_trans (aheadP_size p n (opF f) 0) (by decide), by omega⟩ (t_need ⟨h1, hc⟩ (t_need (z3 (sumOf p n (opF f) x y)) (t_leaf ?_)))))
    · have h : (!decide (chkP p n (opF f) = 0)) = true := h
      rw [decide_eq_true hc] at h; cases h
    · show Value.tuple #[.string (aheadP p n (opF f) (sumOf p n (opF f) x y) ++ p.data), .int .i64 0] = _
      rw [eP, hc]
  · have eP : putP p n (opF f) x y = ⟨⟨[]⟩⟩ := if_neg hc
    refine t_need ⟨h1, h2⟩ (t_ite (fun _ => t_leaf ?_) fun h => ?_)
    · show Value.tuple #[.string ⟨⟨[]⟩⟩, .int .i64 (chkP p n (opF f))] = _
      rw [eP]
    · have h : (!decide (chkP p n (opF f) = 0)) = false := h
      rw [decide_eq_false hc] at h; cases h
end Go.Proofs.Ytikiieclbeiicaa
namespace Go.Proofs.Ytikiieclbeiicaa
set_option linter.unusedVariables false
set_option linter.unusedSimpArgs false
open Go.RowKit Sym Go.ChangeShapes Go.WideShapes Go.ChangeMaps Inet

def lenB (l : Bool) : Nat := if l = true then 16 else 12
theorem getB_ok {s : ByteArray} (h : (get s).2.2 = 0) : ∃ l, get s = (hd s l, s.extract (lenB l) s.size, 0) ∧ Head.check (hd s l) = 0 ∧ lenB l ≤ s.size ∧ (hd s l).long = l := by
  unfold get at h
  by_cases a : s.size < 12
  · rw [if_pos a] at h; cases h
  · rw [if_neg a] at h
    by_cases b : nu s 8 9 % 2 = 1
    · rw [if_pos b] at h
      by_cases c : s.size < 16
      · rw [if_pos c] at h; cases h
      · rw [if_neg c] at h
        by_cases d : nu s 8 9 / 32 = 0 ∧ nu s 9 10 = 0
        · rw [if_pos d] at h
          by_cases e : Head.check (hd s true) = 0
          · refine ⟨true, ?_, e, by show 16 ≤ _; omega, rfl⟩
            unfold get
            rw [if_neg a, if_pos b, if_neg c, if_pos d, if_pos e]
            rfl
          · rw [if_neg e] at h; exact absurd h e
        · rw [if_neg d] at h; cases h
    · rw [if_neg b] at h
      by_cases d : nu s 8 9 / 32 = 0
      · rw [if_pos d] at h
        by_cases e : Head.check (hd s false) = 0
        · refine ⟨false, ?_, e, by show 12 ≤ _; omega, rfl⟩
          unfold get
          rw [if_neg a, if_neg b, if_pos d, if_pos e]
          rfl
        · rw [if_neg e] at h; exact absurd h e
      · rw [if_neg d] at h; cases h
theorem get_words {s : ByteArray} (h : (get s).2.2 = 0) : 0 ≤ (get s).1.words ∧ (get s).1.words ≤ 255 := by
  obtain ⟨l, e, hc, -⟩ := getB_ok h
  rw [e]
  exact (Head.check_ok hc).2.2.2.2.2.2.2.2.1
def restW (s : ByteArray) : Nat := (4 * (get s).1.words).toNat
def rightB (s : ByteArray) (x y : Int) : Bool :=
  if (get s).2.2 = 0 then
    if (s.size : Int) < 4 * (get s).1.words then false
    else covOk (s.extract (restW s) s.size) (get s).1.cover && decide (sumP (s.extract 0 (restW s)) (s.extract (restW s) s.size) (get s).1.cover x y = 0)
  else false
theorem right_leaf (a b : Bool) : (a = true → Value.bool b = Value.bool (a && b)) ∧ (a = false → Value.bool false = Value.bool (a && b)) := by cases a <;> cases b <;> simp
set_option maxRecDepth 100000 in
theorem packet_Right (s : ByteArray) (x y : Int) (hs : s.size ≤ 4000) (w : World) : Calls Try.prog 17 #[.string s, .agg #[.int .i64 x, .int .i64 y]] w fun e w' => e = .returned (.bool (rightB s x y)) ∧ Below w.heap.size w w' := by
  refine calls_runV (onlyS_ok SParts_ok) follows Try.func17 (by kernel_rfl) (by kernel_rfl) noL_ok (pright_run s x y) ?_ w
  unfold rightB
  refine t_need (by omega) (t_ite (fun h => ?_) fun h => ?_)
  · have e : ¬ (get s).2.2 = 0 := fun e => by rw [decide_eq_true e] at h; cases h
    rw [if_neg e]
    refine t_ite (fun _ => t_leaf rfl) fun h2 => ?_
    rw [h] at h2; cases h2
  · have e : (get s).2.2 = 0 := by
      by_cases e : (get s).2.2 = 0
      · exact e
      · rw [decide_eq_false e] at h; cases h
    obtain ⟨w0, w1⟩ := get_words e
    have hw : IntKind.i64.wrap (4 * (get s).1.words) = 4 * (get s).1.words := w64 _ (by omega) (by omega)
    have hr : (4 * (get s).1.words).toNat = restW s := rfl
    have hn : ((s.size : Nat) : Int).toNat = s.size := Int.toNat_natCast _
    rw [if_pos e, hw, hr, hn]
    refine t_ite (fun h => ?_) fun h => ?_
    · have h := of_decide_eq_true h
      rw [if_pos h]
      exact t_ite (fun _ => t_leaf rfl) fun h2 => by cases h2
    · have h := of_decide_eq_false h
      rw [if_neg (by omega)]
      refine t_need ⟨by omega, by omega, by omega⟩ (t_need ⟨by omega, by omega, by omega⟩ (t_ite (fun h2 => by cases h2) fun _ => t_need ⟨?_, ?_⟩ (t_ite (fun h2 => t_leaf ((right_leaf _ _).1 h2)) fun h2 => t_leaf ((right_leaf _ _).2 h2))))
      · rw [ByteArray.size_extract]; omega
      · rw [ByteArray.size_extract]; omega
set_option maxRecDepth 100000 in
theorem ref10_Right (s : ByteArray) (x y : Int) (hs : s.size ≤ 4000) (w : World) : Calls Try.prog 18 #[.string s, .agg #[.int .i64 x, .int .i64 y]] w fun e w' => e = .returned (.bool (rightB s x y)) ∧ Below w.heap.size w w' := by
  refine calls_runV (onlyS_ok SPk3_ok) follows Try.func18 (by kernel_rfl) (by kernel_rfl) noL_ok (rright_run s x y) ?_ w
  unfold rightB
  refine t_need (by omega) (t_ite (fun h => ?_) fun h => ?_)
  · have e : ¬ (get s).2.2 = 0 := fun e => by rw [decide_eq_true e] at h; cases h
    rw [if_neg e]
    exact t_leaf rfl
  · have e : (get s).2.2 = 0 := by
      by_cases e : (get s).2.2 = 0
      · exact e
      · rw [decide_eq_false e] at h; cases h
    obtain ⟨w0, w1⟩ := get_words e
    have hw : IntKind.i64.wrap (4 * (get s).1.words) = 4 * (get s).1.words := w64 _ (by omega) (by omega)
    have hr : (4 * (get s).1.words).toNat = restW s := rfl
    have hn : ((s.size : Nat) : Int).toNat = s.size := Int.toNat_natCast _
    rw [if_pos e, hw, hr, hn]
    refine t_ite (fun h => ?_) fun h => ?_
    · have h := of_decide_eq_true h
      rw [if_pos h]
      exact t_leaf rfl
    · have h := of_decide_eq_false h
      rw [if_neg (by omega)]
      refine t_need ⟨by omega, by omega, by omega⟩ (t_need ⟨by omega, by omega, by omega⟩ (t_need ⟨?_, ?_⟩ (t_ite (fun h2 => t_leaf ((right_leaf _ _).1 h2)) fun h2 => t_leaf ((right_leaf _ _).2 h2))))
      · rw [ByteArray.size_extract]; omega
      · rw [ByteArray.size_extract]; omega
def tRight : List Value → Option (List Prop × Value) | [.string s, .agg ⟨[.int .i64 x, .int .i64 y]⟩] => some ([s.size ≤ 4000], .bool (rightB s x y)) | _ => none
end Go.Proofs.Ytikiieclbeiicaa
