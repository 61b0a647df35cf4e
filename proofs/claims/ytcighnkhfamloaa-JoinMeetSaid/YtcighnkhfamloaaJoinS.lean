/- Joining: what options asked. No conditions. -/
import Derived.Test.YtcighnkhfamloaaJoinR
namespace Go.Proofs.Ytcighnkhfamloaa
set_option linter.unusedVariables false
set_option linter.unusedSimpArgs false
open Go.RowKit Sym Sha Go.ChangeShapes Go.WideShapes Go.ChangeMaps

def askW (n : Nat) (g : Nat → Mu) : Int := if findB n g 1 = true then 2 else if capB n g = true then 1 else 0
def askT (n : Nat) (g : Nat → Mu) : Int := if findB n g 1 = true then (g (findE n g 1)).token else 0
def askA (n : Nat) (g : Nat → Mu) : Int := if findB n g 1 = true then (g (findE n g 1)).nonce else 0
def FAsk : LTab := addR 89 fCap <| addR 88 fPlace <| addR 87 fCap (addF 86 fFind noF)
theorem FAsk_ok : LOk Try.prog FAsk := addR_ok (addR_ok (addR_ok (addF_ok noF_ok (by kernel_rfl) fFind_ok) (by kernel_rfl) fCap_ok) (by kernel_rfl) fPlace_ok) (by kernel_rfl) fCapR_ok
abbrev CAsk (P : Program) : Cfg := both P noS FAsk [86, 87, 88, 89]
set_option maxRecDepth 100000 in
theorem asked_run (n : Nat) (g : Nat → Mu) : runO Try.prog (CAsk Try.prog) noL Try.f23 [.ref 0] [.row n 7 fun i j => (g i).c j] = T.need (n ≤ maxLen ∧ AllMu n fun i j => (g i).c j) (T.ite (findB n (muF fun i j => (g i).c j) (1 : Int)) (T.leaf (Value.agg (Array.mk [Value.int IntKind.i64 (2 : Int), Value.string (ByteArray.mk (Array.mk [])), Value.int IntKind.i64 (findM n (muF fun i j => (g i).c j) (1 : Int)).5, Value.int IntKind.i64 (findM n (muF fun i j => (g i).c j) (1 : Int)).6, Value.int IntKind.i64 (0 : Int)]))) (T.need (n ≤ maxLen ∧ AllMu n fun i j => (g i).c j) (T.ite (capB n (muF fun i j => (g i).c j)) (T.leaf (Value.agg (Array.mk [Value.int IntKind.i64 (1 : Int), Value.string (ByteArray.mk (Array.mk [])), Value.int IntKind.i64 (0 : Int), Value.int IntKind.i64 (0 : Int), Value.int IntKind.i64 (0 : Int)]))) (T.leaf (Value.agg (Array.mk [Value.int IntKind.i64 (0 : Int), Value.string (ByteArray.mk (Array.mk [])), Value.int IntKind.i64 (0 : Int), Value.int IntKind.i64 (0 : Int), Value.int IntKind.i64 (0 : Int)])))))) := by kernel_rfl
set_option maxRecDepth 100000 in
theorem askedR_run (n : Nat) (g : Nat → Mu) : runO Try.prog (CAsk Try.prog) noL Try.f24 [.ref 0] [.row n 7 fun i j => (g i).c j] = T.need (n ≤ maxLen ∧ AllMu n fun i j => (g i).c j) (T.ite (decide (placeI n (muF fun i j => (g i).c j) (1 : Int) ≥ (0 : Int))) (T.need ((0 : Int) ≤ placeI n (muF fun i j => (g i).c j) (1 : Int) ∧ placeI n (muF fun i j => (g i).c j) (1 : Int) < (↑n : Int)) (T.need ((placeI n (muF fun i j => (g i).c j) (1 : Int)).toNat < n) (T.need ((0 : Int) ≤ placeI n (muF fun i j => (g i).c j) (1 : Int) ∧ placeI n (muF fun i j => (g i).c j) (1 : Int) < (↑n : Int)) (T.need ((placeI n (muF fun i j => (g i).c j) (1 : Int)).toNat < n) (T.leaf (Value.agg (Array.mk [Value.int IntKind.i64 (2 : Int), Value.string (ByteArray.mk (Array.mk [])), Value.int IntKind.i64 (g (placeI n (muF fun i j => (g i).c j) (1 : Int)).toNat).5, Value.int IntKind.i64 (g (placeI n (muF fun i j => (g i).c j) (1 : Int)).toNat).6, Value.int IntKind.i64 (0 : Int)]))))))) (T.need (n ≤ maxLen ∧ AllMu n fun i j => (g i).c j) (T.ite (capB n (muF fun i j => (g i).c j)) (T.leaf (Value.agg (Array.mk [Value.int IntKind.i64 (1 : Int), Value.string (ByteArray.mk (Array.mk [])), Value.int IntKind.i64 (0 : Int), Value.int IntKind.i64 (0 : Int), Value.int IntKind.i64 (0 : Int)]))) (T.leaf (Value.agg (Array.mk [Value.int IntKind.i64 (0 : Int), Value.string (ByteArray.mk (Array.mk [])), Value.int IntKind.i64 (0 : Int), Value.int IntKind.i64 (0 : Int), Value.int IntKind.i64 (0 : Int)])))))) := by kernel_rfl
def askV (n : Nat) (g : Nat → Mu) : Value := .agg #[.int .i64 (askW n g), .string ⟨⟨[]⟩⟩, .int .i64 (askT n g), .int .i64 (askA n g), .int .i64 0]
theorem join_asked (n : Nat) (g : Nat → Mu) (hn : n ≤ maxLen) (v : Value) (w : World) (hv : ∀ B, BlkSat B w v (.row n 7 fun i j => (g i).c j)) : Calls Try.prog 23 #[v] w fun e w' => e = .returned (askV n g) ∧ Below w.heap.size w w' := by
  refine calls_runO (both_ok noS_ok FAsk_ok) follows Try.func23 (by kernel_rfl) (by kernel_rfl) (noloops (by kernel_rfl)) (asked_run n g) ?_ (mem_row (hv [v])) rfl
  have hmu : (muF fun i j => (g i).c j) = g := rfl
  have hall := allMu_c n g
  rw [hmu]
  unfold askV askW askT askA
  cases hf : findB n g 1
  · cases hc : capB n g
    · simp [T.ok, hn, hall]
    · simp [T.ok, hn, hall]
  · have hM : findM n g 1 = g (findE n g 1) := by unfold findM; rw [if_pos hf]
    simp [T.ok, hn, hall, hM]
theorem ref29_asked (n : Nat) (g : Nat → Mu) (hn : n ≤ maxLen) (v : Value) (w : World) (hv : ∀ B, BlkSat B w v (.row n 7 fun i j => (g i).c j)) : Calls Try.prog 24 #[v] w fun e w' => e = .returned (askV n g) ∧ Below w.heap.size w w' := by
  refine calls_runO (both_ok noS_ok FAsk_ok) follows Try.func24 (by kernel_rfl) (by kernel_rfl) (noloops (by kernel_rfl)) (askedR_run n g) ?_ (mem_row (hv [v])) rfl
  have hmu : (muF fun i j => (g i).c j) = g := rfl
  have hall := allMu_c n g
  rw [hmu]
  unfold askV askW askT askA placeI
  cases hf : findB n g 1
  · cases hc : capB n g
    · simp [T.ok, hn, hall]
    · simp [T.ok, hn, hall]
  · have hlt := (findB_iff n g 1).1 hf
    have : (0 : Int) ≤ (findE n g 1 : Int) := by omega
    have h2 : (findE n g 1 : Int) < (n : Int) := by omega
    simp [T.ok, hn, hall, this, h2, hlt]
def rdA (p : Nat → (Nat → Nat → Value) → Prop) (r : Nat → (Nat → Nat → Value) → Value) : List SV → List Blk → Option (List Prop × Value)
  | [s], H => match rowIn 7 H s with
    | some (n, fr) => some ([p n fr], r n fr)
    | none => none
  | _, _ => none
theorem rdA_ok {P : Program} {f : FuncId} {p : Nat → (Nat → Nat → Value) → Prop} {r : Nat → (Nat → Nat → Value) → Value} (hc : ∀ (n : Nat) (fr : Nat → Nat → Value) (v : Value) (w : World), (∀ B, BlkSat B w v (.row n 7 fr)) → p n fr → Calls P f #[v] w fun e w' => e = .returned (r n fr) ∧ Below w.heap.size w w') : ReadOk P f (rdA p r) := by
  intro ss H q v h bs B w vs hm hv hp
  unfold rdA at h
  split at h
  · split at h
    · rename_i n fr hr
      simp only [Option.some.injEq, Prod.mk.injEq] at h
      obtain ⟨rfl, rfl⟩ := h
      obtain ⟨x0, r0, e0, v0, rfl⟩ := tos_cons hv
      obtain rfl := tos_nil v0
      exact hc n fr x0 w (fun B' => rowIn_ok hm e0 hr B') (hp _ (List.mem_cons_self ..))
    · cases h
  · cases h
end Go.Proofs.Ytcighnkhfamloaa
