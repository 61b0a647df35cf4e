/- Keys: the laws. No conditions. -/
import Derived.Test.YtcighnkhfamloaaKeysB
namespace Go.Proofs.Ytcighnkhfamloaa
set_option linter.unusedVariables false
set_option linter.unusedSimpArgs false
open Go.RowKit Sym Sha Go.ChangeShapes Go.WideShapes Go.ChangeMaps

def tDataText : List Value → Option (List Prop × Value) | [.int .i64 a, .int .i64 b, .int .i64 c, .string d] => some ([d.size ≤ 1000000], .string (dataText a b c d)) | _ => none
def tCtlText : List Value → Option (List Prop × Value) | [.int .i64 a, .agg ⟨[.int .i64 b, .int .i64 c, .int .i64 d, .int .i64 e]⟩] => some ([], .string (ctlText a b c d e)) | _ => none
def tCfmText : List Value → Option (List Prop × Value) | [.int .i64 a, .int .i64 b] => some ([], .string (cfmText a b)) | _ => none
def tJoinText : List Value → Option (List Prop × Value) | [.int .i64 a, .agg ⟨[.int .i64 b, .int .i64 c]⟩, .int .i64 d, .int .i64 e] => some ([], .string (joinText a b c d e)) | _ => none
def tTagR : List Value → Option (List Prop × Value) | [.string a, .string b, .string x] => some ([a.size ≤ 1000 ∧ b.size ≤ 1000 ∧ x.size ≤ 1000000000], .string (tagR a b x)) | _ => none
def tData : List Value → Option (List Prop × Value) | [.agg ⟨[.string a, .string b]⟩, .int .i64 x, .int .i64 y, .int .i64 z, .string d] => some ([a.size ≤ 1000 ∧ b.size ≤ 1000 ∧ d.size ≤ 1000000], .string (tagP a b (dataText x y z d))) | _ => none
def tCtl : List Value → Option (List Prop × Value) | [.agg ⟨[.string a, .string b]⟩, .int .i64 x, .agg ⟨[.int .i64 b1, .int .i64 c, .int .i64 d, .int .i64 e]⟩] => some ([a.size ≤ 1000 ∧ b.size ≤ 1000], .string (tagP a b (ctlText x b1 c d e))) | _ => none
def tCfm : List Value → Option (List Prop × Value) | [.agg ⟨[.string a, .string b]⟩, .int .i64 x, .int .i64 y] => some ([a.size ≤ 1000 ∧ b.size ≤ 1000], .string (tagP a b (cfmText x y))) | _ => none
def tJoin : List Value → Option (List Prop × Value) | [.agg ⟨[.string a, .string b]⟩, .int .i64 x, .agg ⟨[.int .i64 f, .int .i64 t]⟩, .int .i64 y, .int .i64 z] => some ([a.size ≤ 1000 ∧ b.size ≤ 1000], .string (tagP a b (joinText x f t y z))) | _ => none
def SKey3 (P : Program) (fKnown : Func) : Tab := addS 152 tJoin <| SKey2 P fKnown
theorem SKey3_ok : TabOk Try.prog (SKey3 Try.prog Try.f31) := by
  refine addS_ok (SKey2_ok) (by kernel_rfl) ?_
  · (intro xs p v h hp w; unfold tJoin at h; (split at h) <;> first | (cases h; done) | (simp only [Option.some.injEq, Prod.mk.injEq] at h; obtain ⟨rfl, rfl⟩ := h; exact keys_Join _ _ _ _ _ _ _ (hp _ (List.mem_cons_self ..)) w))
/-! new keys -/
def okK (a b : ByteArray) : Bool := Nat.beq a.size 8 && Nat.beq b.size 8
def kA (a b : ByteArray) : ByteArray := if okK a b = true then a else nilB
def kB (a b : ByteArray) : ByteArray := if okK a b = true then b else nilB
def kE (a b : ByteArray) : Int := if okK a b = true then 0 else 11
theorem okK_iff (a b : ByteArray) : okK a b = true ↔ a.size = 8 ∧ b.size = 8 := by unfold okK; rw [Bool.and_eq_true, Nat.beq_eq, Nat.beq_eq]
set_option maxRecDepth 100000 in
theorem new_run (a b : ByteArray) : runV Try.prog (onlyS Try.prog noS) noL Try.f78 [.string a, .string b] = T.ite (!decide ((↑a.size : Int) = (8 : Int))) (T.leaf (Value.tuple (Array.mk [Value.agg (Array.mk [Value.string (ByteArray.mk (Array.mk [])), Value.string (ByteArray.mk (Array.mk []))]), Value.int IntKind.i64 (11 : Int)]))) (T.ite (!decide ((↑b.size : Int) = (8 : Int))) (T.leaf (Value.tuple (Array.mk [Value.agg (Array.mk [Value.string (ByteArray.mk (Array.mk [])), Value.string (ByteArray.mk (Array.mk []))]), Value.int IntKind.i64 (11 : Int)]))) (T.leaf (Value.tuple (Array.mk [Value.agg (Array.mk [Value.string a, Value.string b]), Value.int IntKind.i64 (0 : Int)])))) := by kernel_rfl
theorem keys_New (a b : ByteArray) (w : World) : Calls Try.prog 78 #[.string a, .string b] w fun e w' => e = .returned (.tuple #[.agg #[.string (kA a b), .string (kB a b)], .int .i64 (kE a b)]) ∧ Below w.heap.size w w' := by
  refine calls_runV (onlyS_ok noS_ok) follows Try.func78 (by kernel_rfl) (by kernel_rfl) noL_ok (new_run a b) ?_ w
  have hk := okK_iff a b
  unfold kA kB kE
  cases ho : okK a b
  · have hn : ¬ (a.size = 8 ∧ b.size = 8) := fun h => by rw [ho] at hk; exact absurd (hk.2 h) (by decide)
    refine ⟨fun _ => rfl, fun h1 => ⟨fun _ => rfl, fun h2 => ?_⟩⟩
    have := ndf h1
    have := ndf h2
    exact (hn ⟨by omega, by omega⟩).elim
  · have hy := hk.1 ho
    refine ⟨fun h => (ndt h (by omega)).elim, fun h1 => ⟨fun h => (ndt h (by omega)).elim, fun _ => rfl⟩⟩
def dash : ByteArray := ba [45, 45, 45, 45, 45, 45, 45, 45]
def p8 (a : ByteArray) : ByteArray := (a ++ dash).extract 0 8
theorem p8_size (a : ByteArray) : (p8 a).size = 8 := by
  unfold p8
  have : dash.size = 8 := rfl
  rw [ByteArray.size_extract, ByteArray.size_append]; omega
theorem p8_ne (a : ByteArray) : ¬ p8 a = nilB := fun h => by
  have := p8_size a
  rw [h] at this
  exact absurd this (by decide)
def tNew : List Value → Option (List Prop × Value) | [.string a, .string b] => some ([], .tuple #[.agg #[.string (kA a b), .string (kB a b)], .int .i64 (kE a b)]) | _ => none
def tPair : List Value → Option (List Prop × Value) | [.string a, .string b] => some ([a.size ≤ 1000000 ∧ b.size ≤ 1000000], .tuple #[.string (p8 a), .string (p8 b), .agg #[.string (p8 a), .string (p8 b)]]) | _ => none
def SNew : Tab := addS 78 tNew noS
theorem SNew_ok : TabOk Try.prog SNew := addS_ok noS_ok (by kernel_rfl) (by (intro xs p v h hp w; unfold tNew at h; (split at h) <;> first | (cases h; done) | (simp only [Option.some.injEq, Prod.mk.injEq] at h; obtain ⟨rfl, rfl⟩ := h; exact keys_New _ _ w)))

theorem kAB {a b : ByteArray} (ha : a.size = 8) (hb : b.size = 8) : kA a b = a ∧ kB a b = b ∧ kE a b = 0 := by
  have := (okK_iff a b).2 ⟨ha, hb⟩
  unfold kA kB kE
  rw [if_pos this, if_pos this, if_pos this]
  exact ⟨rfl, rfl, rfl⟩
end Go.Proofs.Ytcighnkhfamloaa
