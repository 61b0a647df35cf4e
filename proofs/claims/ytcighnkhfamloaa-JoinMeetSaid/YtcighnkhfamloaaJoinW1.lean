/- Joining: tags and tokens as any functions. No conditions. -/
import Derived.Test.YtcighnkhfamloaaJoinF
namespace Go.Proofs.Ytcighnkhfamloaa
set_option linter.unusedVariables false
set_option linter.unusedSimpArgs false
open Go.RowKit Sym Sha Go.ChangeShapes Go.WideShapes Go.ChangeMaps

/-! tags and tokens as any functions: so nobody reckons them -/
def tJTagV (tg : ByteArray → ByteArray → ByteArray → ByteArray) : List Value → Option (List Prop × Value) | [.int .i64 side, .agg ⟨[.int .i64 _, .string _, .int .i64 _, .int .i64 x, .int .i64 y]⟩, .agg ⟨[.string a, .string b]⟩, .agg ⟨[.int .i64 f, .int .i64 t]⟩] => some ([a.size ≤ 1000 ∧ b.size ≤ 1000], .agg #[.int .i64 5, .int .i64 0, .int .i64 0, .int .i64 0, .int .i64 0, .int .i64 0, .string (tg a b (joinText side f t x y))]) | _ => none
def tokP (a b : ByteArray) : Int := if a = nilB ∧ b = nilB then 0 else tokenOf b
def tTokV (tk : ByteArray → ByteArray → Int) : List Value → Option (List Prop × Value) | [.agg ⟨[.string a, .string b]⟩] => some ([a.size ≤ 1000 ∧ b.size ≤ 1000], .int .i64 (tk a b)) | _ => none
def tOurs : List Value → Option (List Prop × Value) | [.agg ⟨[.int .i64 w, .string k, .int .i64 t, .int .i64 x, .int .i64 y]⟩] => some ([], .agg #[.int .i64 w, .string k, .int .i64 t, .int .i64 x, .int .i64 y]) | _ => none
set_option maxRecDepth 100000 in
theorem tok_run (a b : ByteArray) : runV Try.prog (onlyS Try.prog (SKey2 Try.prog Try.f31)) noL Try.f26 [.agg #[.string a, .string b]] = T.ite (!!(decide (a = ByteArray.mk (Array.mk [])) && (decide (b = ByteArray.mk (Array.mk [])) && true))) (T.leaf (Value.int IntKind.i64 (0 : Int))) (T.need (b.size ≤ (1000000000000 : Nat)) (T.leaf (Value.int IntKind.i64 (tokenOf b)))) := by kernel_rfl
theorem keys_Token (a b : ByteArray) (h : a.size ≤ 1000 ∧ b.size ≤ 1000) (w : World) : Calls Try.prog 26 #[.agg #[.string a, .string b]] w fun e w' => e = .returned (.int .i64 (tokP a b)) ∧ Below w.heap.size w w' := by
  refine calls_runV (onlyS_ok SKey2_ok) follows Try.func26 (by kernel_rfl) (by kernel_rfl) noL_ok (tok_run a b) ?_ w
  unfold tokP
  refine ⟨fun hk => ?_, fun hk => ⟨by omega, ?_⟩⟩
  · have hk : a = nilB ∧ b = nilB := by simpa [nilB] using hk
    show Value.int .i64 0 = _
    rw [if_pos hk]
  · have hk : ¬ (a = nilB ∧ b = nilB) := by simpa [nilB] using hk
    show Value.int .i64 (tokenOf b) = _
    rw [if_neg hk]
set_option maxRecDepth 100000 in
theorem ours_run (w : Int) (k : ByteArray) (t x y : Int) : runV Try.prog (onlyS Try.prog noS) noL Try.f18 [.agg #[.int .i64 w, .string k, .int .i64 t, .int .i64 x, .int .i64 y]] = T.leaf (Value.agg (Array.mk [Value.int IntKind.i64 w, Value.string k, Value.int IntKind.i64 t, Value.int IntKind.i64 x, Value.int IntKind.i64 y])) := by kernel_rfl
theorem law29_ours (o : Int) (k : ByteArray) (t x y : Int) (w : World) : Calls Try.prog 18 #[.agg #[.int .i64 o, .string k, .int .i64 t, .int .i64 x, .int .i64 y]] w fun e w' => e = .returned (.agg #[.int .i64 o, .string k, .int .i64 t, .int .i64 x, .int .i64 y]) ∧ Below w.heap.size w w' := by
  refine calls_runV (onlyS_ok noS_ok) follows Try.func18 (by kernel_rfl) (by kernel_rfl) noL_ok (ours_run o k t x y) ?_ w
  rfl
def SJoinV (P : Program) (fKnown fExtra : Func) (xe : List (Nat × Spot × List Int)) (tg : ByteArray → ByteArray → ByteArray → ByteArray) (tk : ByteArray → ByteArray → Int) : Tab := addI 17 P (bothX P SOct noF [] xe) noL fExtra <| addS 26 (tTokV tk) <| addI 31 P (onlyS P noS) noL fKnown <| addS 18 tOurs <| addS 25 tPair29 <| addS 91 (tJTagV tg) <| addS 78 tNew noS
theorem SJoinV_ok (xe : List (Nat × Spot × List Int)) : TabOk Try.prog (SJoinV Try.prog Try.f31 Try.f17 xe tagP tokP) := by
  refine addI_ok (addS_ok (addI_ok (addS_ok (addS_ok (addS_ok (addS_ok noS_ok (by kernel_rfl) ?_) (by kernel_rfl) ?_) (by kernel_rfl) ?_) (by kernel_rfl) ?_) (onlyS_ok noS_ok) follows Try.func31 (by kernel_rfl) (by kernel_rfl) (by kernel_rfl) (noloops (by kernel_rfl))) (by kernel_rfl) ?_) (bothX_ok SOct_ok noF_ok) follows Try.func17 (by kernel_rfl) (by kernel_rfl) (by kernel_rfl) (noloops (by kernel_rfl))
  · (intro xs p v h hp w; unfold tNew at h; (split at h) <;> first | (cases h; done) | (simp only [Option.some.injEq, Prod.mk.injEq] at h; obtain ⟨rfl, rfl⟩ := h; exact keys_New _ _ w))
  · (intro xs p v h hp w; unfold tJTagV at h; (split at h) <;> first | (cases h; done) | (simp only [Option.some.injEq, Prod.mk.injEq] at h; obtain ⟨rfl, rfl⟩ := h; exact join_tag _ _ _ _ _ _ _ _ _ _ (hp _ (List.mem_cons_self ..)) w))
  · (intro xs p v h hp w; unfold tPair29 at h; (split at h) <;> first | (cases h; done) | (simp only [Option.some.injEq, Prod.mk.injEq] at h; obtain ⟨rfl, rfl⟩ := h; exact law29_pair _ _ (hp _ (List.mem_cons_self ..)) w))
  · (intro xs p v h hp w; unfold tOurs at h; (split at h) <;> first | (cases h; done) | (simp only [Option.some.injEq, Prod.mk.injEq] at h; obtain ⟨rfl, rfl⟩ := h; exact law29_ours _ _ _ _ _ w))
  · (intro xs p v h hp w; unfold tTokV at h; (split at h) <;> first | (cases h; done) | (simp only [Option.some.injEq, Prod.mk.injEq] at h; obtain ⟨rfl, rfl⟩ := h; exact keys_Token _ _ (hp _ (List.mem_cons_self ..)) w))
end Go.Proofs.Ytcighnkhfamloaa
