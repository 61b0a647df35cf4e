/- Cookies: the laws. No conditions. -/
import Derived.Test.YtapogkodlempkaaCookE
namespace Go.Proofs.Ytapogkodlempkaa
set_option linter.unusedVariables false
set_option linter.unusedSimpArgs false
open Go.RowKit Sym Sha Go.ChangeShapes Go.WideShapes Go.ChangeMaps

def tSeal : List Value → Option (List Prop × Value) | [.string k, .agg ⟨[.int .i64 f, .int .i64 t]⟩, .agg ⟨[.int .i64 a, .int .i64 b, .int .i64 c, .int .i64 d, .string x]⟩] => some ([k.size ≤ 1000000000000], .tuple #[.string (sealS k f t ⟨a, b, c, d, x⟩), .int .i64 (sealE ⟨a, b, c, d, x⟩)]) | _ => none
def tOpen : List Value → Option (List Prop × Value) | [.string k, .agg ⟨[.int .i64 f, .int .i64 t]⟩, .string s] => some ([k.size ≤ 1000000000000 ∧ s.size ≤ 1000000], .tuple #[.agg #[.int .i64 (openN k f t s).a, .int .i64 (openN k f t s).b, .int .i64 (openN k f t s).c, .int .i64 (openN k f t s).d, .string (openN k f t s).x], .int .i64 (openE k f t s)]) | _ => none
def SCook3 (P : Program) (fOurs fFresh : Func) : Tab := addI 53 P (onlyS P noS) noL fFresh <| addI 49 P (onlyS P noS) noL fOurs <| addS 48 tSeal <| addS 50 tSeal <| addS 51 tOpen <| addS 52 tOpen SCook2
theorem SCook3_ok : TabOk Try.prog (SCook3 Try.prog Try.f49 Try.f53) := by
  refine addI_ok (addI_ok (addS_ok (addS_ok (addS_ok (addS_ok SCook2_ok (by kernel_rfl) ?_) (by kernel_rfl) ?_) (by kernel_rfl) ?_) (by kernel_rfl) ?_) (onlyS_ok noS_ok) follows Try.func49 (by kernel_rfl) (by kernel_rfl) (by kernel_rfl) (noloops (by kernel_rfl)))
    (onlyS_ok noS_ok) follows Try.func53 (by kernel_rfl) (by kernel_rfl) (by kernel_rfl) (noloops (by kernel_rfl))
  · (intro xs p v h hp w; unfold tOpen at h; (split at h) <;> first | (cases h; done) | (simp only [Option.some.injEq, Prod.mk.injEq] at h; obtain ⟨rfl, rfl⟩ := h; exact ref16_Open _ _ _ _ (hp _ (List.mem_cons_self ..)).1 (hp _ (List.mem_cons_self ..)).2 w))
  · (intro xs p v h hp w; unfold tOpen at h; (split at h) <;> first | (cases h; done) | (simp only [Option.some.injEq, Prod.mk.injEq] at h; obtain ⟨rfl, rfl⟩ := h; exact cookie_Open _ _ _ _ (hp _ (List.mem_cons_self ..)).1 (hp _ (List.mem_cons_self ..)).2 w))
  · (intro xs p v h hp w; unfold tSeal at h; (split at h) <;> first | (cases h; done) | (simp only [Option.some.injEq, Prod.mk.injEq] at h; obtain ⟨rfl, rfl⟩ := h; exact ref16_Seal _ _ _ ⟨_, _, _, _, _⟩ (hp _ (List.mem_cons_self ..)) w))
  · (intro xs p v h hp w; unfold tSeal at h; (split at h) <;> first | (cases h; done) | (simp only [Option.some.injEq, Prod.mk.injEq] at h; obtain ⟨rfl, rfl⟩ := h; exact cookie_Seal _ _ _ ⟨_, _, _, _, _⟩ (hp _ (List.mem_cons_self ..)) w))
set_option maxRecDepth 100000 in
theorem works16_run  : runV Try.prog (onlyS Try.prog (SCook3 Try.prog Try.f49 Try.f53)) noL Try.f47 [] = T.need ((1 : Nat) ≤ (1000000000000 : Nat)) (T.need ((ByteArray.mk #[(107 : UInt8)]).size ≤ (1000000000000 : Nat) ∧ (sealS (ByteArray.mk #[(107 : UInt8)]) (1 : Int) (2 : Int) (Nt.mk (5 : Int) (6 : Int) (7 : Int) (8 : Int) (ByteArray.mk #[]))).size ≤ (1000000 : Nat)) (T.need ((ByteArray.mk #[(108 : UInt8)]).size ≤ (1000000000000 : Nat) ∧ (sealS (ByteArray.mk #[(107 : UInt8)]) (1 : Int) (2 : Int) (Nt.mk (5 : Int) (6 : Int) (7 : Int) (8 : Int) (ByteArray.mk #[]))).size ≤ (1000000 : Nat)) (T.ite true (T.ite true (T.ite true (T.ite true (T.leaf (Value.bool true)) (T.leaf (Value.bool false))) (T.leaf (Value.bool false))) (T.leaf (Value.bool false))) (T.leaf (Value.bool false))))) := by kernel_rfl
end Go.Proofs.Ytapogkodlempkaa
