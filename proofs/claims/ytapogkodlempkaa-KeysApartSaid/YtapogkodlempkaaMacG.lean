/- Sums with a key: names of keys, what they give, the laws. No conditions. -/
import Derived.Test.YtapogkodlempkaaMacF
namespace Go.Proofs.Ytapogkodlempkaa
set_option linter.unusedVariables false
set_option linter.unusedSimpArgs false
open Go.RowKit Sym Sha Go.ChangeShapes Go.WideShapes Go.ChangeMaps

def FMac : LTab := addF 26 fMacV noF
theorem FMac_ok : LOk Try.prog FMac := addF_ok noF_ok (by kernel_rfl) fMacV_ok
abbrev CL (P : Program) (S : Tab) : Cfg := both P S FMac [26]
theorem CL_ok {S : Tab} (h : TabOk Try.prog S) : CfgOk Try.prog (CL Try.prog S) := both_ok h FMac_ok
set_option maxRecDepth 100000 in
theorem token_run (k : ByteArray) : runV Try.prog (onlyS Try.prog SMac2) noL Try.f29 [.string k] = T.need (k.size ≤ (1000000000000 : Nat)) (T.need ((0 : Int) ≤ (0 : Int) ∧ (0 : Int) ≤ (4 : Int) ∧ (4 : Int) ≤ (↑(shaOf k).size : Int)) (T.need (((shaOf k).extract (0 : Nat) (4 : Nat)).size ≤ (9223372036854775807 : Nat)) (T.leaf (Value.int IntKind.i64 (wrap64 (valU ((shaOf k).extract (0 : Nat) (4 : Nat)))))))) := by kernel_rfl
set_option maxRecDepth 100000 in
theorem token06_run (k : ByteArray) : runV Try.prog (onlyS Try.prog SMac2) noL Try.f30 [.string k] = T.need (k.size ≤ (1000000000000 : Nat)) (T.need ((0 : Int) ≤ (0 : Int) ∧ (0 : Int) ≤ (4 : Int) ∧ (4 : Int) ≤ (↑(shaOf k).size : Int)) (T.need (((shaOf k).extract (0 : Nat) (4 : Nat)).size ≤ (9223372036854775807 : Nat)) (T.leaf (Value.int IntKind.i64 (IntKind.i64.wrap (valU ((shaOf k).extract (0 : Nat) (4 : Nat)))))))) := by kernel_rfl
set_option maxRecDepth 100000 in
theorem draw_run (k : ByteArray) (at_ size : Int) : runV Try.prog (CL Try.prog SMac2) noL Try.f31 [.string k, .int .i64 at_, .int .i64 size] = T.need ((0 : Int) ≤ (8 : Int) ∧ (8 : Int) ≤ (8 : Int) ∧ (ByteArray.mk #[]).size ≤ (1099511627776 : Nat)) (T.need ((1 : Nat) ≤ maxLen ∧ k.size ≤ (1000000000000 : Nat) ∧ (catL [Oct.put (ByteArray.mk #[]) at_ (8 : Int)]).size ≤ (100000000000 : Nat)) (T.need ((0 : Int) ≤ (0 : Int) ∧ ((0 : Int) ≤ if (7 : Int) < if (1 : Int) > size then (1 : Int) else size then (7 : Int) else if (1 : Int) > size then (1 : Int) else size) ∧ (if (7 : Int) < if (1 : Int) > size then (1 : Int) else size then (7 : Int) else if (1 : Int) > size then (1 : Int) else size) ≤ (↑(macOf k (catL [Oct.put (ByteArray.mk #[]) at_ (8 : Int)])).size : Int)) (T.need (((macOf k (Oct.put (ByteArray.mk (Array.mk [])) at_ (8 : Int))).extract (0 : Nat) (if (7 : Int) < if (1 : Int) > size then (1 : Int) else size then (7 : Int) else if (1 : Int) > size then (1 : Int) else size).toNat).size ≤ (9223372036854775807 : Nat)) (T.leaf (Value.int IntKind.i64 (wrap64 (valU ((macOf k (Oct.put (ByteArray.mk (Array.mk [])) at_ (8 : Int))).extract (0 : Nat) (if (7 : Int) < if (1 : Int) > size then (1 : Int) else size then (7 : Int) else if (1 : Int) > size then (1 : Int) else size).toNat)))))))) := by kernel_rfl
set_option maxRecDepth 100000 in
theorem draw06_run (k : ByteArray) (at_ size : Int) : runV Try.prog (CL Try.prog SMac2) noL Try.f32 [.string k, .int .i64 at_, .int .i64 size] = T.need ((0 : Int) ≤ IntKind.u64.wrap at_ ∧ IntKind.u64.wrap at_ < (18446744073709551616 : Int) ∧ (0 : Int) ≤ (8 : Int) ∧ (8 : Int) ≤ (8 : Int) ∧ (ByteArray.mk #[]).size ≤ (1099511627776 : Nat)) (T.need (k.size ≤ (1000000000000 : Nat) ∧ (Oct.put (ByteArray.mk #[]) (IntKind.u64.wrap at_) (8 : Int)).size ≤ (100000000000 : Nat)) (T.need ((0 : Int) ≤ (0 : Int) ∧ ((0 : Int) ≤ if (7 : Int) < if (1 : Int) > size then (1 : Int) else size then (7 : Int) else if (1 : Int) > size then (1 : Int) else size) ∧ (if (7 : Int) < if (1 : Int) > size then (1 : Int) else size then (7 : Int) else if (1 : Int) > size then (1 : Int) else size) ≤ (↑(macOf k (Oct.put (ByteArray.mk #[]) (IntKind.u64.wrap at_) (8 : Int))).size : Int)) (T.need (((macOf k (Oct.put (ByteArray.mk (Array.mk [])) (IntKind.u64.wrap at_) (8 : Int))).extract (0 : Nat) (if (7 : Int) < if (1 : Int) > size then (1 : Int) else size then (7 : Int) else if (1 : Int) > size then (1 : Int) else size).toNat).size ≤ (9223372036854775807 : Nat)) (T.leaf (Value.int IntKind.i64 (IntKind.i64.wrap (valU ((macOf k (Oct.put (ByteArray.mk (Array.mk [])) (IntKind.u64.wrap at_) (8 : Int))).extract (0 : Nat) (if (7 : Int) < if (1 : Int) > size then (1 : Int) else size then (7 : Int) else if (1 : Int) > size then (1 : Int) else size).toNat)))))))) := by kernel_rfl
set_option maxRecDepth 100000 in
theorem works06_run  : runV Try.prog (CL Try.prog SMac2) noL Try.f25 [] = T.need ((2 : Nat) ≤ maxLen ∧ (ByteArray.mk #[(74 : UInt8), (101 : UInt8), (102 : UInt8), (101 : UInt8)]).size ≤ (1000000000000 : Nat) ∧ (catL [ByteArray.mk #[(119 : UInt8), (104 : UInt8), (97 : UInt8), (116 : UInt8), (32 : UInt8), (100 : UInt8), (111 : UInt8), (32 : UInt8), (121 : UInt8), (97 : UInt8), (32 : UInt8), (119 : UInt8), (97 : UInt8), (110 : UInt8), (116 : UInt8), (32 : UInt8)], ByteArray.mk #[(102 : UInt8), (111 : UInt8), (114 : UInt8), (32 : UInt8), (110 : UInt8), (111 : UInt8), (116 : UInt8), (104 : UInt8), (105 : UInt8), (110 : UInt8), (103 : UInt8), (63 : UInt8)]]).size ≤ (100000000000 : Nat)) (T.ite true (T.need ((0 : Int) ≤ (0 : Int) ∧ (0 : Int) ≤ (4 : Int) ∧ (4 : Int) ≤ (↑(macOf (ByteArray.mk #[(74 : UInt8), (101 : UInt8), (102 : UInt8), (101 : UInt8)]) (catL [ByteArray.mk #[(119 : UInt8), (104 : UInt8), (97 : UInt8), (116 : UInt8), (32 : UInt8), (100 : UInt8), (111 : UInt8), (32 : UInt8), (121 : UInt8), (97 : UInt8), (32 : UInt8), (119 : UInt8), (97 : UInt8), (110 : UInt8), (116 : UInt8), (32 : UInt8)], ByteArray.mk #[(102 : UInt8), (111 : UInt8), (114 : UInt8), (32 : UInt8), (110 : UInt8), (111 : UInt8), (116 : UInt8), (104 : UInt8), (105 : UInt8), (110 : UInt8), (103 : UInt8), (63 : UInt8)]])).size : Int)) (T.ite true (T.need ((1 : Nat) ≤ (9223372036854775807 : Nat)) (T.ite true (T.need ((1 : Nat) ≤ (9223372036854775807 : Nat)) (T.leaf (Value.bool true))) (T.leaf (Value.bool false)))) (T.leaf (Value.bool false)))) (T.leaf (Value.bool false))) := by kernel_rfl
def tokenOf (k : ByteArray) : Int := valU ((shaOf k).extract 0 4)
def span (size : Int) : Int := if 7 < if 1 > size then 1 else size then 7 else if 1 > size then 1 else size
def drawOf (k : ByteArray) (a size : Int) : Int := valU ((macOf k (Oct.put ⟨⟨[]⟩⟩ a 8)).extract 0 (span size).toNat)
theorem span_in (size : Int) : 1 ≤ span size ∧ span size ≤ 7 := by unfold span; split <;> split <;> (try split at *) <;> omega
theorem valU_lt (s : ByteArray) (n : Nat) (h : s.size ≤ n) (hn : n ≤ 7) : 0 ≤ valU s ∧ valU s < 72057594037927936 := by
  unfold valU
  have h1 := Oct.val_lt s.data.toList
  have h2 : s.data.toList.length ≤ 7 := by rw [show s.data.toList.length = s.size by simp]; omega
  have h3 : (256 : Nat) ^ s.data.toList.length ≤ 256 ^ 7 := Nat.pow_le_pow_right (by omega) h2
  have h4 : (256 : Nat) ^ 7 = 72057594037927936 := by decide
  omega
theorem wrap_valU (s : ByteArray) (n : Nat) (h : s.size ≤ n) (hn : n ≤ 7) : wrap64 (valU s) = valU s ∧ IntKind.i64.wrap (valU s) = valU s := by
  have := valU_lt s n h hn
  refine ⟨?_, w64 _ (by omega) (by omega)⟩
  unfold wrap64; omega
theorem mac_Token (k : ByteArray) (hk : k.size ≤ 1000000000000) (w : World) : Calls Try.prog 29 #[.string k] w fun e w' => e = .returned (.int .i64 (tokenOf k)) ∧ Below w.heap.size w w' := by
  refine calls_runV (onlyS_ok SMac2_ok) follows Try.func29 (by kernel_rfl) (by kernel_rfl) noL_ok (token_run k) ?_ w
  have hs := shaOf_size k
  have he : ((shaOf k).extract 0 4).size = 4 := by rw [ByteArray.size_extract, hs]; omega
  refine ⟨hk, by omega, by omega, ?_⟩
  rw [(wrap_valU _ 4 (by omega) (by omega)).1]; rfl
theorem ref06_Token (k : ByteArray) (hk : k.size ≤ 1000000000000) (w : World) : Calls Try.prog 30 #[.string k] w fun e w' => e = .returned (.int .i64 (tokenOf k)) ∧ Below w.heap.size w w' := by
  refine calls_runV (onlyS_ok SMac2_ok) follows Try.func30 (by kernel_rfl) (by kernel_rfl) noL_ok (token06_run k) ?_ w
  have hs := shaOf_size k
  have he : ((shaOf k).extract 0 4).size = 4 := by rw [ByteArray.size_extract, hs]; omega
  refine ⟨hk, by omega, by omega, ?_⟩
  rw [(wrap_valU _ 4 (by omega) (by omega)).2]; rfl
theorem put_u64 (s : ByteArray) (z k : Int) : Oct.put s (IntKind.u64.wrap z) k = Oct.put s z k := by unfold Oct.put; rw [u64_wrap]
theorem put_size (s : ByteArray) (z : Int) (k : Nat) : (Oct.put s z (k : Nat)).size = s.size + k := by rw [Oct.put_size]; omega
theorem mac_Draw (k : ByteArray) (a size : Int) (hk : k.size ≤ 1000000000000) (w : World) : Calls Try.prog 31 #[.string k, .int .i64 a, .int .i64 size] w fun e w' => e = .returned (.int .i64 (drawOf k a size)) ∧ Below w.heap.size w w' := by
  refine calls_runV (CL_ok SMac2_ok) follows Try.func31 (by kernel_rfl) (by kernel_rfl) (noloops (by kernel_rfl)) (draw_run k a size) ?_ w
  have hs := macOf_size k (Oct.put ⟨⟨[]⟩⟩ a 8)
  have hp := span_in size
  have hz := put_size ⟨⟨[]⟩⟩ a 8
  have z0 : (ByteArray.mk ⟨[]⟩).size = 0 := rfl
  have he : ((macOf k (Oct.put ⟨⟨[]⟩⟩ a 8)).extract 0 (span size).toNat).size ≤ 7 := by rw [ByteArray.size_extract, hs]; omega
  refine ⟨⟨by omega, by omega, by decide⟩, ⟨by decide, hk, ?_⟩, ⟨by omega, ?_, ?_⟩, ?_, ?_⟩
  · show (Oct.put ⟨⟨[]⟩⟩ a (8 : Nat)).size ≤ _
    rw [hz, z0]; omega
  · show 0 ≤ span size
    omega
  · show span size ≤ ((macOf k (Oct.put ⟨⟨[]⟩⟩ a 8)).size : Int)
    rw [hs]; omega
  · exact Nat.le_trans he (by omega)
  · show Value.int .i64 (wrap64 (valU ((macOf k (Oct.put ⟨⟨[]⟩⟩ a 8)).extract 0 (span size).toNat))) = _
    rw [(wrap_valU _ 7 he (by omega)).1]; rfl
theorem ref06_Draw (k : ByteArray) (a size : Int) (hk : k.size ≤ 1000000000000) (w : World) : Calls Try.prog 32 #[.string k, .int .i64 a, .int .i64 size] w fun e w' => e = .returned (.int .i64 (drawOf k a size)) ∧ Below w.heap.size w w' := by
  refine calls_runV (CL_ok SMac2_ok) follows Try.func32 (by kernel_rfl) (by kernel_rfl) (noloops (by kernel_rfl)) (draw06_run k a size) ?_ w
  have hs := macOf_size k (Oct.put ⟨⟨[]⟩⟩ a 8)
  have hp := span_in size
  have hz := put_size ⟨⟨[]⟩⟩ a 8
  have z0 : (ByteArray.mk ⟨[]⟩).size = 0 := rfl
  have he : ((macOf k (Oct.put ⟨⟨[]⟩⟩ a 8)).extract 0 (span size).toNat).size ≤ 7 := by rw [ByteArray.size_extract, hs]; omega
  have hu := u64_range a
  simp only [put_u64]
  refine ⟨⟨hu.1, hu.2, by omega, by omega, by decide⟩, ⟨hk, ?_⟩, ⟨by omega, ?_, ?_⟩, ?_, ?_⟩
  · show (Oct.put ⟨⟨[]⟩⟩ a (8 : Nat)).size ≤ _
    rw [hz, z0]; omega
  · show 0 ≤ span size
    omega
  · show span size ≤ ((macOf k (Oct.put ⟨⟨[]⟩⟩ a 8)).size : Int)
    rw [hs]; omega
  · exact Nat.le_trans he (by omega)
  · show Value.int .i64 (IntKind.i64.wrap (valU ((macOf k (Oct.put ⟨⟨[]⟩⟩ a 8)).extract 0 (span size).toNat))) = _
    rw [(wrap_valU _ 7 he (by omega)).2]; rfl
theorem works06 (w : World) : Calls Try.prog 25 #[] w fun e w' => e = .returned (.bool true) ∧ Below w.heap.size w w' := by
  refine calls_runV (CL_ok SMac2_ok) follows Try.func25 (by kernel_rfl) (by kernel_rfl) (noloops (by kernel_rfl)) works06_run ?_ w
  refine ⟨⟨by decide, by decide, by decide⟩, fun _ => ⟨⟨by decide, by decide, ?_⟩, fun _ => ⟨by decide, fun _ => ⟨by decide, rfl⟩, (fun h => by cases h)⟩, (fun h => by cases h)⟩, (fun h => by cases h)⟩
  rw [macOf_size]; decide
def tToken : List Value → Option (List Prop × Value) | [.string k] => some ([k.size ≤ 1000000000000], .int .i64 (tokenOf k)) | _ => none
def tDraw : List Value → Option (List Prop × Value) | [.string k, .int .i64 a, .int .i64 z] => some ([k.size ≤ 1000000000000], .int .i64 (drawOf k a z)) | _ => none
def SMac3 : Tab := addS 29 tToken <| addS 30 tToken <| addS 31 tDraw <| addS 32 tDraw <| addS 25 tTrue SMac2
theorem SMac3_ok : TabOk Try.prog SMac3 := by
  refine addS_ok (addS_ok (addS_ok (addS_ok (addS_ok SMac2_ok (by kernel_rfl) ?_) (by kernel_rfl) ?_) (by kernel_rfl) ?_) (by kernel_rfl) ?_) (by kernel_rfl) ?_
  · (intro xs p v h hp w; unfold tTrue at h; (split at h) <;> first | (cases h; done) | (simp only [Option.some.injEq, Prod.mk.injEq] at h; obtain ⟨rfl, rfl⟩ := h; exact works06 w))
  · (intro xs p v h hp w; unfold tDraw at h; (split at h) <;> first | (cases h; done) | (simp only [Option.some.injEq, Prod.mk.injEq] at h; obtain ⟨rfl, rfl⟩ := h; exact ref06_Draw _ _ _ (hp _ (List.mem_cons_self ..)) w))
  · (intro xs p v h hp w; unfold tDraw at h; (split at h) <;> first | (cases h; done) | (simp only [Option.some.injEq, Prod.mk.injEq] at h; obtain ⟨rfl, rfl⟩ := h; exact mac_Draw _ _ _ (hp _ (List.mem_cons_self ..)) w))
  · (intro xs p v h hp w; unfold tToken at h; (split at h) <;> first | (cases h; done) | (simp only [Option.some.injEq, Prod.mk.injEq] at h; obtain ⟨rfl, rfl⟩ := h; exact ref06_Token _ (hp _ (List.mem_cons_self ..)) w))
  · (intro xs p v h hp w; unfold tToken at h; (split at h) <;> first | (cases h; done) | (simp only [Option.some.injEq, Prod.mk.injEq] at h; obtain ⟨rfl, rfl⟩ := h; exact mac_Token _ (hp _ (List.mem_cons_self ..)) w))
end Go.Proofs.Ytapogkodlempkaa
