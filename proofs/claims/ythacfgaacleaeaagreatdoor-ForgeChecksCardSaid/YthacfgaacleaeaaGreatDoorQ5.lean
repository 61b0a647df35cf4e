/- Parts of a proof: ShaQ, MacA, MacB, MacC, MacD, KeysA, KeysC, HdA, HdC, Ref09, PlNu, HdB, InA, PaA, FgR, FgS, FgT, FgU, FgV, FgW, PaB, Tl, InC, OpC, OpB, PaC, FgX, FgY, FgZ, FhA. No conditions. -/
import Derived.Test.YthacfgaacleaeaaGreatDoorQ4
import Derived.PlainAid
import Derived.Deep.RegionHeld3
import Derived.Deep.QuietTactic
import Derived.BigQuiet
import Derived.Test.YthacfgaacleaeaaGreatDoorShelfB
import Derived.Lib.FrozenHead2
import Derived.Lib.OthersKept
set_option linter.unusedVariables false
set_option linter.unusedSimpArgs false
namespace Go.Proofs.YthacfgaacleaeaaGreatDoor
open Go.RowKit Sym Sha
def padI (s : ByteArray) (i : Nat) : ByteArray := ba (s.data.toList ++ 128 :: List.replicate i 0)
theorem wrap_u64 (n : Int) (h0 : 0 ≤ n) (h1 : n < 18446744073709551616) : IntKind.u64.wrap n = n := by simp only [IntKind.wrap, IntKind.bits, IntKind.signed]; simp; omega
theorem padI_size (s : ByteArray) (i : Nat) : (padI s i).size = s.size + 1 + i := by unfold padI; rw [ba_len]; simp; omega
def nought (n : Nat) : Nat := (119 - n % 64) % 64
theorem stPad_step (s : ByteArray) (hs : s.size ≤ 1000000000000) : ∀ i : Nat, i ≤ nought s.size → i ≠ nought s.size → (roundM Tryz.prog (onlyS Tryz.prog SSha7) noL 18 0 (loopAt Tryz.f160 0) 0 [0, 3] [] [] (stPad s (padI s i))).ok fun r => r.1 = .normal ∧ ∃ j, j ≤ nought s.size ∧ nought s.size - j < nought s.size - i ∧ r.2 = stPad s (padI s j) := by
  intro i hi hne
  have hlt : i < nought s.size := by omega
  rw [stPad_round]
  have e : ((padI s i).size : Int).tmod 64 ≠ 56 := by
    rw [padI_size, Int.tmod_eq_emod_of_nonneg (by omega)]
    unfold nought at hlt
    omega
  refine ⟨fun _ => ⟨by rw [padI_size]; unfold nought at hlt; omega, rfl, i + 1, by omega, by omega, ?_⟩, fun h => by simp [e] at h⟩
  have : padI s i ++ ByteArray.mk (Array.mk [0]) = padI s (i + 1) := by
    unfold padI
    rw [show ByteArray.mk (Array.mk [0]) = ba [0] from rfl, ba_append]
    rw [List.append_assoc, List.cons_append, List.replicate_succ', ]
  rw [← this]
  rfl
def LPad (P : Program) (S : Tab) (fn : Func) : Nat → St → Option (T (Ex × St)) :=
  addL 0 (fun st => withStr st 0 fun s => .need (s.size ≤ 1000000000000) (.need (st.H.length = 0) (.need (st.tidy 0 [0, 3] [] [] = stPad s (padI s 0)) ((roundM P (onlyS P S) noL 18 0 (loopAt fn 0) 0 [0, 3] [] [] (closeAt [] (stPad s (padI s (nought s.size))))).bind (lastX 0))))) noL
set_option maxRecDepth 100000 in
theorem pad_run (s : ByteArray) : runV Tryz.prog (onlyS Tryz.prog SSha7) (LPad Tryz.prog SSha7 Tryz.f160) Tryz.f160 [.string s] = .need (s.size + 1 ≤ 9223372036854775807) (.need (s.size ≤ 1000000000000) (.need (0 = 0) (.need (St.mk [(0, some (.v (.string s))), (3, some (.v (.string (s ++ ByteArray.mk (Array.mk [UInt8.ofBitVec (BitVec.ofFin (Fin.mk 128 (Nat.mod_lt 128 (BitVec.ofNat._proof_1 8))))])))))] [] = stPad s (padI s 0)) (.ite (!decide ((↑(padI s (nought s.size)).size : Int).tmod (64 : Int) = (56 : Int))) (.need ((padI s (nought s.size)).size + 1 ≤ 9223372036854775807) (T.stuck 39)) (.need ((0 : Int) ≤ IntKind.u64.wrap ((8 : Int) * IntKind.u64.wrap (↑s.size : Int)) ∧ IntKind.u64.wrap ((8 : Int) * IntKind.u64.wrap (↑s.size : Int)) < (18446744073709551616 : Int) ∧ (0 : Int) ≤ (8 : Int) ∧ (8 : Int) ≤ (8 : Int) ∧ (padI s (nought s.size)).size ≤ 1099511627776) (.leaf (Value.string (Oct.put (padI s (nought s.size)) (IntKind.u64.wrap ((8 : Int) * IntKind.u64.wrap (↑s.size : Int))) (8 : Int))))))))) := by kernel_rfl
theorem ref05_pad (s : ByteArray) (hs : s.size ≤ 1000000000000) (w : World) : Calls Tryz.prog 160 #[.string s] w fun e w' => e = .returned (.string (ba (s.data.toList ++ tail s.size s.size))) ∧ Below w.heap.size w w' := by
  refine calls_runV (onlyS_ok SSha7_ok) follows Tryz.func160 (by kernel_rfl) (by kernel_rfl) (one_loop (b := loopAt Tryz.f160 0) (id := 0) (by kernel_rfl) fun st t h => ?_) (pad_run s) ?_ w
  · rw [addL_same h]
    exact .str fun s => .need fun hs => loop_cnt (onlyS_ok SSha7_ok) follows (by kernel_rfl) (noloops (by kernel_rfl)) (fun i : Nat => i ≤ nought s.size) (fun i => stPad s (padI s i)) (fun i => nought s.size - i) 0 [0, 3] [] [] (nought s.size) [] (stPad_step s hs) (Nat.zero_le _)
  · have hn : nought s.size < 64 := by unfold nought; omega
    have e : ((padI s (nought s.size)).size : Int).tmod 64 = 56 := by
      rw [padI_size, Int.tmod_eq_emod_of_nonneg (by omega)]
      unfold nought
      omega
    have e1 : IntKind.u64.wrap (s.size : Int) = s.size := wrap_u64 _ (by omega) (by omega)
    have e2 : IntKind.u64.wrap (8 * (s.size : Int)) = ((8 * s.size : Nat) : Int) := by rw [wrap_u64 _ (by omega) (by omega)]; omega
    refine ⟨by omega, hs, rfl, ?_, (fun h => by simp [e] at h), fun _ => ⟨?_, ?_⟩⟩
    · unfold stPad padI
      rw [List.replicate_zero, ← ba_append, ba_of]
      rfl
    · rw [e1, e2, padI_size]
      omega
    · rw [e1, e2]
      have e3 : Oct.u64 ((8 * s.size : Nat) : Int) = 8 * s.size % 18446744073709551616 := by unfold Oct.u64; omega
      show Value.string (Oct.put _ _ _) = _
      unfold Oct.put tail padI
      rw [e3]
      simp [ba, nought]
def LOf (P : Program) (S : Tab) (fn : Func) : Nat → St → Option (T (Ex × St)) :=
  addL 0 (fun st => withStr st 4 fun p => .need (p.size % 64 = 0 ∧ p.size ≤ 2199023255552) (.need (st.H.length = 1) (.need (st.tidy 1 [3, 4, 5] [] [0] = stR p (foldB 0 H0 p.data.toList) ((64 * 0 : Nat) : Int)) (.leaf (.normal, stR p (foldB (p.size / 64) H0 p.data.toList) ((64 * (p.size / 64) : Nat) : Int))))))
  (addL 8 (unrollB (runC P (onlyS P S) noL 217 (loopAt fn 1)) 8 9) noL)
def tPad : List Value → Option (List Prop × Value) | [.string s] => some ([s.size ≤ 1000000000000], .string (ba (s.data.toList ++ tail s.size s.size))) | _ => none
def SSha8  : Tab := addS 160 tPad <| SSha7
theorem SSha8_ok : TabOk Tryz.prog (SSha8) := by
  refine addS_ok (SSha7_ok) (by kernel_rfl) ?_
  · (intro xs p v h hp w; unfold tPad at h; (split at h) <;> first | (cases h; done) | (simp only [Option.some.injEq, Prod.mk.injEq] at h; obtain ⟨rfl, rfl⟩ := h; exact ref05_pad _ (hp _ (List.mem_cons_self ..)) w))
set_option maxRecDepth 100000 in
theorem of05_run (s : ByteArray) : runV Tryz.prog (onlyS Tryz.prog SSha8) (LOf Tryz.prog SSha7 Tryz.f124) Tryz.f124 [.string s] = .need (s.size ≤ 1000000000000) (.need ((ba (s.data.toList ++ tail s.size s.size)).size % 64 = 0 ∧ (ba (s.data.toList ++ tail s.size s.size)).size ≤ 2199023255552) (.need (1 = 1) (.need (St.mk [(3, some (SV.ref 0)), (4, some (.v (.string (ba (s.1.toList ++ tail s.size s.size))))), (5, some (.v (.int .i64 0)))] [Blk.vec true 54 1 8 [Value.int IntKind.u32 1779033703, Value.int IntKind.u32 3144134277, Value.int IntKind.u32 1013904242, Value.int IntKind.u32 2773480762, Value.int IntKind.u32 1359893119, Value.int IntKind.u32 2600822924, Value.int IntKind.u32 528734635, Value.int IntKind.u32 1541459225]] = stR (ba (s.1.toList ++ tail s.size s.size)) (foldB 0 (H8.mk (1779033703 : Int) (3144134277 : Int) (1013904242 : Int) (2773480762 : Int) (1359893119 : Int) (2600822924 : Int) (528734635 : Int) (1541459225 : Int)) (ba (s.data.toList ++ tail s.size s.size)).1.toList) (0 : Int)) (.need ((0 : Int) ≤ (0 : Int) ∧ (0 : Int) < (↑8 : Int)) (.need (0 < 8) (.need (List.take 1 (List.drop 0 [Value.int IntKind.u32 (foldB ((ba (s.data.toList ++ tail s.size s.size)).size / 64) H0 (ba (s.data.toList ++ tail s.size s.size)).data.toList).1, Value.int IntKind.u32 (foldB ((ba (s.data.toList ++ tail s.size s.size)).size / 64) H0 (ba (s.data.toList ++ tail s.size s.size)).data.toList).2, Value.int IntKind.u32 (foldB ((ba (s.data.toList ++ tail s.size s.size)).size / 64) H0 (ba (s.data.toList ++ tail s.size s.size)).data.toList).3, Value.int IntKind.u32 (foldB ((ba (s.data.toList ++ tail s.size s.size)).size / 64) H0 (ba (s.data.toList ++ tail s.size s.size)).data.toList).4, Value.int IntKind.u32 (foldB ((ba (s.data.toList ++ tail s.size s.size)).size / 64) H0 (ba (s.data.toList ++ tail s.size s.size)).data.toList).5, Value.int IntKind.u32 (foldB ((ba (s.data.toList ++ tail s.size s.size)).size / 64) H0 (ba (s.data.toList ++ tail s.size s.size)).data.toList).6, Value.int IntKind.u32 (foldB ((ba (s.data.toList ++ tail s.size s.size)).size / 64) H0 (ba (s.data.toList ++ tail s.size s.size)).data.toList).7, Value.int IntKind.u32 (foldB ((ba (s.data.toList ++ tail s.size s.size)).size / 64) H0 (ba (s.data.toList ++ tail s.size s.size)).data.toList).8]) = [Value.int IntKind.u32 (foldB ((ba (s.data.toList ++ tail s.size s.size)).size / 64) H0 (ba (s.data.toList ++ tail s.size s.size)).data.toList).1]) (.need ((0 : Int) ≤ IntKind.u64.wrap (intV (cellAt (hvs (foldB ((ba (s.data.toList ++ tail s.size s.size)).size / 64) H0 (ba (s.data.toList ++ tail s.size s.size)).data.toList)) (Int.toNat (0 : Int) * 1 + 0))) ∧ IntKind.u64.wrap (intV (cellAt (hvs (foldB ((ba (s.data.toList ++ tail s.size s.size)).size / 64) H0 (ba (s.data.toList ++ tail s.size s.size)).data.toList)) (Int.toNat (0 : Int) * 1 + 0))) < (18446744073709551616 : Int) ∧ (0 : Int) ≤ (4 : Int) ∧ (4 : Int) ≤ (8 : Int) ∧ (ByteArray.mk #[]).size ≤ 1099511627776) (.need ((0 : Int) ≤ IntKind.i64.wrap ((0 : Int) + (1 : Int)) ∧ IntKind.i64.wrap ((0 : Int) + (1 : Int)) < (↑8 : Int)) (.need (1 < 8) (.need (List.take 1 (List.drop 1 [Value.int IntKind.u32 (foldB ((ba (s.data.toList ++ tail s.size s.size)).size / 64) H0 (ba (s.data.toList ++ tail s.size s.size)).data.toList).1, Value.int IntKind.u32 (foldB ((ba (s.data.toList ++ tail s.size s.size)).size / 64) H0 (ba (s.data.toList ++ tail s.size s.size)).data.toList).2, Value.int IntKind.u32 (foldB ((ba (s.data.toList ++ tail s.size s.size)).size / 64) H0 (ba (s.data.toList ++ tail s.size s.size)).data.toList).3, Value.int IntKind.u32 (foldB ((ba (s.data.toList ++ tail s.size s.size)).size / 64) H0 (ba (s.data.toList ++ tail s.size s.size)).data.toList).4, Value.int IntKind.u32 (foldB ((ba (s.data.toList ++ tail s.size s.size)).size / 64) H0 (ba (s.data.toList ++ tail s.size s.size)).data.toList).5, Value.int IntKind.u32 (foldB ((ba (s.data.toList ++ tail s.size s.size)).size / 64) H0 (ba (s.data.toList ++ tail s.size s.size)).data.toList).6, Value.int IntKind.u32 (foldB ((ba (s.data.toList ++ tail s.size s.size)).size / 64) H0 (ba (s.data.toList ++ tail s.size s.size)).data.toList).7, Value.int IntKind.u32 (foldB ((ba (s.data.toList ++ tail s.size s.size)).size / 64) H0 (ba (s.data.toList ++ tail s.size s.size)).data.toList).8]) = [Value.int IntKind.u32 (foldB ((ba (s.data.toList ++ tail s.size s.size)).size / 64) H0 (ba (s.data.toList ++ tail s.size s.size)).data.toList).2]) (.need ((0 : Int) ≤ IntKind.u64.wrap (intV (cellAt (hvs (foldB ((ba (s.data.toList ++ tail s.size s.size)).size / 64) H0 (ba (s.data.toList ++ tail s.size s.size)).data.toList)) ((IntKind.i64.wrap ((0 : Int) + (1 : Int))).toNat * 1 + 0))) ∧ IntKind.u64.wrap (intV (cellAt (hvs (foldB ((ba (s.data.toList ++ tail s.size s.size)).size / 64) H0 (ba (s.data.toList ++ tail s.size s.size)).data.toList)) ((IntKind.i64.wrap ((0 : Int) + (1 : Int))).toNat * 1 + 0))) < (18446744073709551616 : Int) ∧ (0 : Int) ≤ (4 : Int) ∧ (4 : Int) ≤ (8 : Int) ∧ (Oct.put (ByteArray.mk #[]) (IntKind.u64.wrap (intV (cellAt (hvs (foldB ((ba (s.data.toList ++ tail s.size s.size)).size / 64) H0 (ba (s.data.toList ++ tail s.size s.size)).data.toList)) (Int.toNat (0 : Int) * 1 + 0)))) (4 : Int)).size ≤ 1099511627776) (.need ((0 : Int) ≤ IntKind.i64.wrap (IntKind.i64.wrap ((0 : Int) + (1 : Int)) + (1 : Int)) ∧ IntKind.i64.wrap (IntKind.i64.wrap ((0 : Int) + (1 : Int)) + (1 : Int)) < (↑8 : Int)) (.need (2 < 8) (.need (List.take 1 (List.drop 2 [Value.int IntKind.u32 (foldB ((ba (s.data.toList ++ tail s.size s.size)).size / 64) H0 (ba (s.data.toList ++ tail s.size s.size)).data.toList).1, Value.int IntKind.u32 (foldB ((ba (s.data.toList ++ tail s.size s.size)).size / 64) H0 (ba (s.data.toList ++ tail s.size s.size)).data.toList).2, Value.int IntKind.u32 (foldB ((ba (s.data.toList ++ tail s.size s.size)).size / 64) H0 (ba (s.data.toList ++ tail s.size s.size)).data.toList).3, Value.int IntKind.u32 (foldB ((ba (s.data.toList ++ tail s.size s.size)).size / 64) H0 (ba (s.data.toList ++ tail s.size s.size)).data.toList).4, Value.int IntKind.u32 (foldB ((ba (s.data.toList ++ tail s.size s.size)).size / 64) H0 (ba (s.data.toList ++ tail s.size s.size)).data.toList).5, Value.int IntKind.u32 (foldB ((ba (s.data.toList ++ tail s.size s.size)).size / 64) H0 (ba (s.data.toList ++ tail s.size s.size)).data.toList).6, Value.int IntKind.u32 (foldB ((ba (s.data.toList ++ tail s.size s.size)).size / 64) H0 (ba (s.data.toList ++ tail s.size s.size)).data.toList).7, Value.int IntKind.u32 (foldB ((ba (s.data.toList ++ tail s.size s.size)).size / 64) H0 (ba (s.data.toList ++ tail s.size s.size)).data.toList).8]) = [Value.int IntKind.u32 (foldB ((ba (s.data.toList ++ tail s.size s.size)).size / 64) H0 (ba (s.data.toList ++ tail s.size s.size)).data.toList).3]) (.need ((0 : Int) ≤ IntKind.u64.wrap (intV (cellAt (hvs (foldB ((ba (s.data.toList ++ tail s.size s.size)).size / 64) H0 (ba (s.data.toList ++ tail s.size s.size)).data.toList)) ((IntKind.i64.wrap (IntKind.i64.wrap ((0 : Int) + (1 : Int)) + (1 : Int))).toNat * 1 + 0))) ∧ IntKind.u64.wrap (intV (cellAt (hvs (foldB ((ba (s.data.toList ++ tail s.size s.size)).size / 64) H0 (ba (s.data.toList ++ tail s.size s.size)).data.toList)) ((IntKind.i64.wrap (IntKind.i64.wrap ((0 : Int) + (1 : Int)) + (1 : Int))).toNat * 1 + 0))) < (18446744073709551616 : Int) ∧ (0 : Int) ≤ (4 : Int) ∧ (4 : Int) ≤ (8 : Int) ∧ (Oct.put (Oct.put (ByteArray.mk #[]) (IntKind.u64.wrap (intV (cellAt (hvs (foldB ((ba (s.data.toList ++ tail s.size s.size)).size / 64) H0 (ba (s.data.toList ++ tail s.size s.size)).data.toList)) (Int.toNat (0 : Int) * 1 + 0)))) (4 : Int)) (IntKind.u64.wrap (intV (cellAt (hvs (foldB ((ba (s.data.toList ++ tail s.size s.size)).size / 64) H0 (ba (s.data.toList ++ tail s.size s.size)).data.toList)) ((IntKind.i64.wrap ((0 : Int) + (1 : Int))).toNat * 1 + 0)))) (4 : Int)).size ≤ 1099511627776) (.need ((0 : Int) ≤ IntKind.i64.wrap (IntKind.i64.wrap (IntKind.i64.wrap ((0 : Int) + (1 : Int)) + (1 : Int)) + (1 : Int)) ∧ IntKind.i64.wrap (IntKind.i64.wrap (IntKind.i64.wrap ((0 : Int) + (1 : Int)) + (1 : Int)) + (1 : Int)) < (↑8 : Int)) (.need (3 < 8) (.need (List.take 1 (List.drop 3 [Value.int IntKind.u32 (foldB ((ba (s.data.toList ++ tail s.size s.size)).size / 64) H0 (ba (s.data.toList ++ tail s.size s.size)).data.toList).1, Value.int IntKind.u32 (foldB ((ba (s.data.toList ++ tail s.size s.size)).size / 64) H0 (ba (s.data.toList ++ tail s.size s.size)).data.toList).2, Value.int IntKind.u32 (foldB ((ba (s.data.toList ++ tail s.size s.size)).size / 64) H0 (ba (s.data.toList ++ tail s.size s.size)).data.toList).3, Value.int IntKind.u32 (foldB ((ba (s.data.toList ++ tail s.size s.size)).size / 64) H0 (ba (s.data.toList ++ tail s.size s.size)).data.toList).4, Value.int IntKind.u32 (foldB ((ba (s.data.toList ++ tail s.size s.size)).size / 64) H0 (ba (s.data.toList ++ tail s.size s.size)).data.toList).5, Value.int IntKind.u32 (foldB ((ba (s.data.toList ++ tail s.size s.size)).size / 64) H0 (ba (s.data.toList ++ tail s.size s.size)).data.toList).6, Value.int IntKind.u32 (foldB ((ba (s.data.toList ++ tail s.size s.size)).size / 64) H0 (ba (s.data.toList ++ tail s.size s.size)).data.toList).7, Value.int IntKind.u32 (foldB ((ba (s.data.toList ++ tail s.size s.size)).size / 64) H0 (ba (s.data.toList ++ tail s.size s.size)).data.toList).8]) = [Value.int IntKind.u32 (foldB ((ba (s.data.toList ++ tail s.size s.size)).size / 64) H0 (ba (s.data.toList ++ tail s.size s.size)).data.toList).4]) (.need ((0 : Int) ≤ IntKind.u64.wrap (intV (cellAt (hvs (foldB ((ba (s.data.toList ++ tail s.size s.size)).size / 64) H0 (ba (s.data.toList ++ tail s.size s.size)).data.toList)) ((IntKind.i64.wrap (IntKind.i64.wrap (IntKind.i64.wrap ((0 : Int) + (1 : Int)) + (1 : Int)) + (1 : Int))).toNat * 1 + 0))) ∧ IntKind.u64.wrap (intV (cellAt (hvs (foldB ((ba (s.data.toList ++ tail s.size s.size)).size / 64) H0 (ba (s.data.toList ++ tail s.size s.size)).data.toList)) ((IntKind.i64.wrap (IntKind.i64.wrap (IntKind.i64.wrap ((0 : Int) + (1 : Int)) + (1 : Int)) + (1 : Int))).toNat * 1 + 0))) < (18446744073709551616 : Int) ∧ (0 : Int) ≤ (4 : Int) ∧ (4 : Int) ≤ (8 : Int) ∧ (Oct.put (Oct.put (Oct.put (ByteArray.mk #[]) (IntKind.u64.wrap (intV (cellAt (hvs (foldB ((ba (s.data.toList ++ tail s.size s.size)).size / 64) H0 (ba (s.data.toList ++ tail s.size s.size)).data.toList)) (Int.toNat (0 : Int) * 1 + 0)))) (4 : Int)) (IntKind.u64.wrap (intV (cellAt (hvs (foldB ((ba (s.data.toList ++ tail s.size s.size)).size / 64) H0 (ba (s.data.toList ++ tail s.size s.size)).data.toList)) ((IntKind.i64.wrap ((0 : Int) + (1 : Int))).toNat * 1 + 0)))) (4 : Int)) (IntKind.u64.wrap (intV (cellAt (hvs (foldB ((ba (s.data.toList ++ tail s.size s.size)).size / 64) H0 (ba (s.data.toList ++ tail s.size s.size)).data.toList)) ((IntKind.i64.wrap (IntKind.i64.wrap ((0 : Int) + (1 : Int)) + (1 : Int))).toNat * 1 + 0)))) (4 : Int)).size ≤ 1099511627776) (.need ((0 : Int) ≤ IntKind.i64.wrap (IntKind.i64.wrap (IntKind.i64.wrap (IntKind.i64.wrap ((0 : Int) + (1 : Int)) + (1 : Int)) + (1 : Int)) + (1 : Int)) ∧ IntKind.i64.wrap (IntKind.i64.wrap (IntKind.i64.wrap (IntKind.i64.wrap ((0 : Int) + (1 : Int)) + (1 : Int)) + (1 : Int)) + (1 : Int)) < (↑8 : Int)) (.need (4 < 8) (.need (List.take 1 (List.drop 4 [Value.int IntKind.u32 (foldB ((ba (s.data.toList ++ tail s.size s.size)).size / 64) H0 (ba (s.data.toList ++ tail s.size s.size)).data.toList).1, Value.int IntKind.u32 (foldB ((ba (s.data.toList ++ tail s.size s.size)).size / 64) H0 (ba (s.data.toList ++ tail s.size s.size)).data.toList).2, Value.int IntKind.u32 (foldB ((ba (s.data.toList ++ tail s.size s.size)).size / 64) H0 (ba (s.data.toList ++ tail s.size s.size)).data.toList).3, Value.int IntKind.u32 (foldB ((ba (s.data.toList ++ tail s.size s.size)).size / 64) H0 (ba (s.data.toList ++ tail s.size s.size)).data.toList).4, Value.int IntKind.u32 (foldB ((ba (s.data.toList ++ tail s.size s.size)).size / 64) H0 (ba (s.data.toList ++ tail s.size s.size)).data.toList).5, Value.int IntKind.u32 (foldB ((ba (s.data.toList ++ tail s.size s.size)).size / 64) H0 (ba (s.data.toList ++ tail s.size s.size)).data.toList).6, Value.int IntKind.u32 (foldB ((ba (s.data.toList ++ tail s.size s.size)).size / 64) H0 (ba (s.data.toList ++ tail s.size s.size)).data.toList).7, Value.int IntKind.u32 (foldB ((ba (s.data.toList ++ tail s.size s.size)).size / 64) H0 (ba (s.data.toList ++ tail s.size s.size)).data.toList).8]) = [Value.int IntKind.u32 (foldB ((ba (s.data.toList ++ tail s.size s.size)).size / 64) H0 (ba (s.data.toList ++ tail s.size s.size)).data.toList).5]) (.need ((0 : Int) ≤ IntKind.u64.wrap (intV (cellAt (hvs (foldB ((ba (s.data.toList ++ tail s.size s.size)).size / 64) H0 (ba (s.data.toList ++ tail s.size s.size)).data.toList)) ((IntKind.i64.wrap (IntKind.i64.wrap (IntKind.i64.wrap (IntKind.i64.wrap ((0 : Int) + (1 : Int)) + (1 : Int)) + (1 : Int)) + (1 : Int))).toNat * 1 + 0))) ∧ IntKind.u64.wrap (intV (cellAt (hvs (foldB ((ba (s.data.toList ++ tail s.size s.size)).size / 64) H0 (ba (s.data.toList ++ tail s.size s.size)).data.toList)) ((IntKind.i64.wrap (IntKind.i64.wrap (IntKind.i64.wrap (IntKind.i64.wrap ((0 : Int) + (1 : Int)) + (1 : Int)) + (1 : Int)) + (1 : Int))).toNat * 1 + 0))) < (18446744073709551616 : Int) ∧ (0 : Int) ≤ (4 : Int) ∧ (4 : Int) ≤ (8 : Int) ∧ (Oct.put (Oct.put (Oct.put (Oct.put (ByteArray.mk #[]) (IntKind.u64.wrap (intV (cellAt (hvs (foldB ((ba (s.data.toList ++ tail s.size s.size)).size / 64) H0 (ba (s.data.toList ++ tail s.size s.size)).data.toList)) (Int.toNat (0 : Int) * 1 + 0)))) (4 : Int)) (IntKind.u64.wrap (intV (cellAt (hvs (foldB ((ba (s.data.toList ++ tail s.size s.size)).size / 64) H0 (ba (s.data.toList ++ tail s.size s.size)).data.toList)) ((IntKind.i64.wrap ((0 : Int) + (1 : Int))).toNat * 1 + 0)))) (4 : Int)) (IntKind.u64.wrap (intV (cellAt (hvs (foldB ((ba (s.data.toList ++ tail s.size s.size)).size / 64) H0 (ba (s.data.toList ++ tail s.size s.size)).data.toList)) ((IntKind.i64.wrap (IntKind.i64.wrap ((0 : Int) + (1 : Int)) + (1 : Int))).toNat * 1 + 0)))) (4 : Int)) (IntKind.u64.wrap (intV (cellAt (hvs (foldB ((ba (s.data.toList ++ tail s.size s.size)).size / 64) H0 (ba (s.data.toList ++ tail s.size s.size)).data.toList)) ((IntKind.i64.wrap (IntKind.i64.wrap (IntKind.i64.wrap ((0 : Int) + (1 : Int)) + (1 : Int)) + (1 : Int))).toNat * 1 + 0)))) (4 : Int)).size ≤ 1099511627776) (.need ((0 : Int) ≤ IntKind.i64.wrap (IntKind.i64.wrap (IntKind.i64.wrap (IntKind.i64.wrap (IntKind.i64.wrap ((0 : Int) + (1 : Int)) + (1 : Int)) + (1 : Int)) + (1 : Int)) + (1 : Int)) ∧ IntKind.i64.wrap (IntKind.i64.wrap (IntKind.i64.wrap (IntKind.i64.wrap (IntKind.i64.wrap ((0 : Int) + (1 : Int)) + (1 : Int)) + (1 : Int)) + (1 : Int)) + (1 : Int)) < (↑8 : Int)) (.need (5 < 8) (.need (List.take 1 (List.drop 5 [Value.int IntKind.u32 (foldB ((ba (s.data.toList ++ tail s.size s.size)).size / 64) H0 (ba (s.data.toList ++ tail s.size s.size)).data.toList).1, Value.int IntKind.u32 (foldB ((ba (s.data.toList ++ tail s.size s.size)).size / 64) H0 (ba (s.data.toList ++ tail s.size s.size)).data.toList).2, Value.int IntKind.u32 (foldB ((ba (s.data.toList ++ tail s.size s.size)).size / 64) H0 (ba (s.data.toList ++ tail s.size s.size)).data.toList).3, Value.int IntKind.u32 (foldB ((ba (s.data.toList ++ tail s.size s.size)).size / 64) H0 (ba (s.data.toList ++ tail s.size s.size)).data.toList).4, Value.int IntKind.u32 (foldB ((ba (s.data.toList ++ tail s.size s.size)).size / 64) H0 (ba (s.data.toList ++ tail s.size s.size)).data.toList).5, Value.int IntKind.u32 (foldB ((ba (s.data.toList ++ tail s.size s.size)).size / 64) H0 (ba (s.data.toList ++ tail s.size s.size)).data.toList).6, Value.int IntKind.u32 (foldB ((ba (s.data.toList ++ tail s.size s.size)).size / 64) H0 (ba (s.data.toList ++ tail s.size s.size)).data.toList).7, Value.int IntKind.u32 (foldB ((ba (s.data.toList ++ tail s.size s.size)).size / 64) H0 (ba (s.data.toList ++ tail s.size s.size)).data.toList).8]) = [Value.int IntKind.u32 (foldB ((ba (s.data.toList ++ tail s.size s.size)).size / 64) H0 (ba (s.data.toList ++ tail s.size s.size)).data.toList).6]) (.need ((0 : Int) ≤ IntKind.u64.wrap (intV (cellAt (hvs (foldB ((ba (s.data.toList ++ tail s.size s.size)).size / 64) H0 (ba (s.data.toList ++ tail s.size s.size)).data.toList)) ((IntKind.i64.wrap (IntKind.i64.wrap (IntKind.i64.wrap (IntKind.i64.wrap (IntKind.i64.wrap ((0 : Int) + (1 : Int)) + (1 : Int)) + (1 : Int)) + (1 : Int)) + (1 : Int))).toNat * 1 + 0))) ∧ IntKind.u64.wrap (intV (cellAt (hvs (foldB ((ba (s.data.toList ++ tail s.size s.size)).size / 64) H0 (ba (s.data.toList ++ tail s.size s.size)).data.toList)) ((IntKind.i64.wrap (IntKind.i64.wrap (IntKind.i64.wrap (IntKind.i64.wrap (IntKind.i64.wrap ((0 : Int) + (1 : Int)) + (1 : Int)) + (1 : Int)) + (1 : Int)) + (1 : Int))).toNat * 1 + 0))) < (18446744073709551616 : Int) ∧ (0 : Int) ≤ (4 : Int) ∧ (4 : Int) ≤ (8 : Int) ∧ (Oct.put (Oct.put (Oct.put (Oct.put (Oct.put (ByteArray.mk #[]) (IntKind.u64.wrap (intV (cellAt (hvs (foldB ((ba (s.data.toList ++ tail s.size s.size)).size / 64) H0 (ba (s.data.toList ++ tail s.size s.size)).data.toList)) (Int.toNat (0 : Int) * 1 + 0)))) (4 : Int)) (IntKind.u64.wrap (intV (cellAt (hvs (foldB ((ba (s.data.toList ++ tail s.size s.size)).size / 64) H0 (ba (s.data.toList ++ tail s.size s.size)).data.toList)) ((IntKind.i64.wrap ((0 : Int) + (1 : Int))).toNat * 1 + 0)))) (4 : Int)) (IntKind.u64.wrap (intV (cellAt (hvs (foldB ((ba (s.data.toList ++ tail s.size s.size)).size / 64) H0 (ba (s.data.toList ++ tail s.size s.size)).data.toList)) ((IntKind.i64.wrap (IntKind.i64.wrap ((0 : Int) + (1 : Int)) + (1 : Int))).toNat * 1 + 0)))) (4 : Int)) (IntKind.u64.wrap (intV (cellAt (hvs (foldB ((ba (s.data.toList ++ tail s.size s.size)).size / 64) H0 (ba (s.data.toList ++ tail s.size s.size)).data.toList)) ((IntKind.i64.wrap (IntKind.i64.wrap (IntKind.i64.wrap ((0 : Int) + (1 : Int)) + (1 : Int)) + (1 : Int))).toNat * 1 + 0)))) (4 : Int)) (IntKind.u64.wrap (intV (cellAt (hvs (foldB ((ba (s.data.toList ++ tail s.size s.size)).size / 64) H0 (ba (s.data.toList ++ tail s.size s.size)).data.toList)) ((IntKind.i64.wrap (IntKind.i64.wrap (IntKind.i64.wrap (IntKind.i64.wrap ((0 : Int) + (1 : Int)) + (1 : Int)) + (1 : Int)) + (1 : Int))).toNat * 1 + 0)))) (4 : Int)).size ≤ 1099511627776) (.need ((0 : Int) ≤ IntKind.i64.wrap (IntKind.i64.wrap (IntKind.i64.wrap (IntKind.i64.wrap (IntKind.i64.wrap (IntKind.i64.wrap ((0 : Int) + (1 : Int)) + (1 : Int)) + (1 : Int)) + (1 : Int)) + (1 : Int)) + (1 : Int)) ∧ IntKind.i64.wrap (IntKind.i64.wrap (IntKind.i64.wrap (IntKind.i64.wrap (IntKind.i64.wrap (IntKind.i64.wrap ((0 : Int) + (1 : Int)) + (1 : Int)) + (1 : Int)) + (1 : Int)) + (1 : Int)) + (1 : Int)) < (↑8 : Int)) (.need (6 < 8) (.need (List.take 1 (List.drop 6 [Value.int IntKind.u32 (foldB ((ba (s.data.toList ++ tail s.size s.size)).size / 64) H0 (ba (s.data.toList ++ tail s.size s.size)).data.toList).1, Value.int IntKind.u32 (foldB ((ba (s.data.toList ++ tail s.size s.size)).size / 64) H0 (ba (s.data.toList ++ tail s.size s.size)).data.toList).2, Value.int IntKind.u32 (foldB ((ba (s.data.toList ++ tail s.size s.size)).size / 64) H0 (ba (s.data.toList ++ tail s.size s.size)).data.toList).3, Value.int IntKind.u32 (foldB ((ba (s.data.toList ++ tail s.size s.size)).size / 64) H0 (ba (s.data.toList ++ tail s.size s.size)).data.toList).4, Value.int IntKind.u32 (foldB ((ba (s.data.toList ++ tail s.size s.size)).size / 64) H0 (ba (s.data.toList ++ tail s.size s.size)).data.toList).5, Value.int IntKind.u32 (foldB ((ba (s.data.toList ++ tail s.size s.size)).size / 64) H0 (ba (s.data.toList ++ tail s.size s.size)).data.toList).6, Value.int IntKind.u32 (foldB ((ba (s.data.toList ++ tail s.size s.size)).size / 64) H0 (ba (s.data.toList ++ tail s.size s.size)).data.toList).7, Value.int IntKind.u32 (foldB ((ba (s.data.toList ++ tail s.size s.size)).size / 64) H0 (ba (s.data.toList ++ tail s.size s.size)).data.toList).8]) = [Value.int IntKind.u32 (foldB ((ba (s.data.toList ++ tail s.size s.size)).size / 64) H0 (ba (s.data.toList ++ tail s.size s.size)).data.toList).7]) (.need ((0 : Int) ≤ IntKind.u64.wrap (intV (cellAt (hvs (foldB ((ba (s.data.toList ++ tail s.size s.size)).size / 64) H0 (ba (s.data.toList ++ tail s.size s.size)).data.toList)) ((IntKind.i64.wrap (IntKind.i64.wrap (IntKind.i64.wrap (IntKind.i64.wrap (IntKind.i64.wrap (IntKind.i64.wrap ((0 : Int) + (1 : Int)) + (1 : Int)) + (1 : Int)) + (1 : Int)) + (1 : Int)) + (1 : Int))).toNat * 1 + 0))) ∧ IntKind.u64.wrap (intV (cellAt (hvs (foldB ((ba (s.data.toList ++ tail s.size s.size)).size / 64) H0 (ba (s.data.toList ++ tail s.size s.size)).data.toList)) ((IntKind.i64.wrap (IntKind.i64.wrap (IntKind.i64.wrap (IntKind.i64.wrap (IntKind.i64.wrap (IntKind.i64.wrap ((0 : Int) + (1 : Int)) + (1 : Int)) + (1 : Int)) + (1 : Int)) + (1 : Int)) + (1 : Int))).toNat * 1 + 0))) < (18446744073709551616 : Int) ∧ (0 : Int) ≤ (4 : Int) ∧ (4 : Int) ≤ (8 : Int) ∧ (Oct.put (Oct.put (Oct.put (Oct.put (Oct.put (Oct.put (ByteArray.mk #[]) (IntKind.u64.wrap (intV (cellAt (hvs (foldB ((ba (s.data.toList ++ tail s.size s.size)).size / 64) H0 (ba (s.data.toList ++ tail s.size s.size)).data.toList)) (Int.toNat (0 : Int) * 1 + 0)))) (4 : Int)) (IntKind.u64.wrap (intV (cellAt (hvs (foldB ((ba (s.data.toList ++ tail s.size s.size)).size / 64) H0 (ba (s.data.toList ++ tail s.size s.size)).data.toList)) ((IntKind.i64.wrap ((0 : Int) + (1 : Int))).toNat * 1 + 0)))) (4 : Int)) (IntKind.u64.wrap (intV (cellAt (hvs (foldB ((ba (s.data.toList ++ tail s.size s.size)).size / 64) H0 (ba (s.data.toList ++ tail s.size s.size)).data.toList)) ((IntKind.i64.wrap (IntKind.i64.wrap ((0 : Int) + (1 : Int)) + (1 : Int))).toNat * 1 + 0)))) (4 : Int)) (IntKind.u64.wrap (intV (cellAt (hvs (foldB ((ba (s.data.toList ++ tail s.size s.size)).size / 64) H0 (ba (s.data.toList ++ tail s.size s.size)).data.toList)) ((IntKind.i64.wrap (IntKind.i64.wrap (IntKind.i64.wrap ((0 : Int) + (1 : Int)) + (1 : Int)) + (1 : Int))).toNat * 1 + 0)))) (4 : Int)) (IntKind.u64.wrap (intV (cellAt (hvs (foldB ((ba (s.data.toList ++ tail s.size s.size)).size / 64) H0 (ba (s.data.toList ++ tail s.size s.size)).data.toList)) ((IntKind.i64.wrap (IntKind.i64.wrap (IntKind.i64.wrap (IntKind.i64.wrap ((0 : Int) + (1 : Int)) + (1 : Int)) + (1 : Int)) + (1 : Int))).toNat * 1 + 0)))) (4 : Int)) (IntKind.u64.wrap (intV (cellAt (hvs (foldB ((ba (s.data.toList ++ tail s.size s.size)).size / 64) H0 (ba (s.data.toList ++ tail s.size s.size)).data.toList)) ((IntKind.i64.wrap (IntKind.i64.wrap (IntKind.i64.wrap (IntKind.i64.wrap (IntKind.i64.wrap ((0 : Int) + (1 : Int)) + (1 : Int)) + (1 : Int)) + (1 : Int)) + (1 : Int))).toNat * 1 + 0)))) (4 : Int)).size ≤ 1099511627776) (.need ((0 : Int) ≤ IntKind.i64.wrap (IntKind.i64.wrap (IntKind.i64.wrap (IntKind.i64.wrap (IntKind.i64.wrap (IntKind.i64.wrap (IntKind.i64.wrap ((0 : Int) + (1 : Int)) + (1 : Int)) + (1 : Int)) + (1 : Int)) + (1 : Int)) + (1 : Int)) + (1 : Int)) ∧ IntKind.i64.wrap (IntKind.i64.wrap (IntKind.i64.wrap (IntKind.i64.wrap (IntKind.i64.wrap (IntKind.i64.wrap (IntKind.i64.wrap ((0 : Int) + (1 : Int)) + (1 : Int)) + (1 : Int)) + (1 : Int)) + (1 : Int)) + (1 : Int)) + (1 : Int)) < (↑8 : Int)) (.need (7 < 8) (.need (List.take 1 (List.drop 7 [Value.int IntKind.u32 (foldB ((ba (s.data.toList ++ tail s.size s.size)).size / 64) H0 (ba (s.data.toList ++ tail s.size s.size)).data.toList).1, Value.int IntKind.u32 (foldB ((ba (s.data.toList ++ tail s.size s.size)).size / 64) H0 (ba (s.data.toList ++ tail s.size s.size)).data.toList).2, Value.int IntKind.u32 (foldB ((ba (s.data.toList ++ tail s.size s.size)).size / 64) H0 (ba (s.data.toList ++ tail s.size s.size)).data.toList).3, Value.int IntKind.u32 (foldB ((ba (s.data.toList ++ tail s.size s.size)).size / 64) H0 (ba (s.data.toList ++ tail s.size s.size)).data.toList).4, Value.int IntKind.u32 (foldB ((ba (s.data.toList ++ tail s.size s.size)).size / 64) H0 (ba (s.data.toList ++ tail s.size s.size)).data.toList).5, Value.int IntKind.u32 (foldB ((ba (s.data.toList ++ tail s.size s.size)).size / 64) H0 (ba (s.data.toList ++ tail s.size s.size)).data.toList).6, Value.int IntKind.u32 (foldB ((ba (s.data.toList ++ tail s.size s.size)).size / 64) H0 (ba (s.data.toList ++ tail s.size s.size)).data.toList).7, Value.int IntKind.u32 (foldB ((ba (s.data.toList ++ tail s.size s.size)).size / 64) H0 (ba (s.data.toList ++ tail s.size s.size)).data.toList).8]) = [Value.int IntKind.u32 (foldB ((ba (s.data.toList ++ tail s.size s.size)).size / 64) H0 (ba (s.data.toList ++ tail s.size s.size)).data.toList).8]) (.need ((0 : Int) ≤ IntKind.u64.wrap (intV (cellAt (hvs (foldB ((ba (s.data.toList ++ tail s.size s.size)).size / 64) H0 (ba (s.data.toList ++ tail s.size s.size)).data.toList)) ((IntKind.i64.wrap (IntKind.i64.wrap (IntKind.i64.wrap (IntKind.i64.wrap (IntKind.i64.wrap (IntKind.i64.wrap (IntKind.i64.wrap ((0 : Int) + (1 : Int)) + (1 : Int)) + (1 : Int)) + (1 : Int)) + (1 : Int)) + (1 : Int)) + (1 : Int))).toNat * 1 + 0))) ∧ IntKind.u64.wrap (intV (cellAt (hvs (foldB ((ba (s.data.toList ++ tail s.size s.size)).size / 64) H0 (ba (s.data.toList ++ tail s.size s.size)).data.toList)) ((IntKind.i64.wrap (IntKind.i64.wrap (IntKind.i64.wrap (IntKind.i64.wrap (IntKind.i64.wrap (IntKind.i64.wrap (IntKind.i64.wrap ((0 : Int) + (1 : Int)) + (1 : Int)) + (1 : Int)) + (1 : Int)) + (1 : Int)) + (1 : Int)) + (1 : Int))).toNat * 1 + 0))) < (18446744073709551616 : Int) ∧ (0 : Int) ≤ (4 : Int) ∧ (4 : Int) ≤ (8 : Int) ∧ (Oct.put (Oct.put (Oct.put (Oct.put (Oct.put (Oct.put (Oct.put (ByteArray.mk #[]) (IntKind.u64.wrap (intV (cellAt (hvs (foldB ((ba (s.data.toList ++ tail s.size s.size)).size / 64) H0 (ba (s.data.toList ++ tail s.size s.size)).data.toList)) (Int.toNat (0 : Int) * 1 + 0)))) (4 : Int)) (IntKind.u64.wrap (intV (cellAt (hvs (foldB ((ba (s.data.toList ++ tail s.size s.size)).size / 64) H0 (ba (s.data.toList ++ tail s.size s.size)).data.toList)) ((IntKind.i64.wrap ((0 : Int) + (1 : Int))).toNat * 1 + 0)))) (4 : Int)) (IntKind.u64.wrap (intV (cellAt (hvs (foldB ((ba (s.data.toList ++ tail s.size s.size)).size / 64) H0 (ba (s.data.toList ++ tail s.size s.size)).data.toList)) ((IntKind.i64.wrap (IntKind.i64.wrap ((0 : Int) + (1 : Int)) + (1 : Int))).toNat * 1 + 0)))) (4 : Int)) (IntKind.u64.wrap (intV (cellAt (hvs (foldB ((ba (s.data.toList ++ tail s.size s.size)).size / 64) H0 (ba (s.data.toList ++ tail s.size s.size)).data.toList)) ((IntKind.i64.wrap (IntKind.i64.wrap (IntKind.i64.wrap ((0 : Int) + (1 : Int)) + (1 : Int)) + (1 : Int))).toNat * 1 + 0)))) (4 : Int)) (IntKind.u64.wrap (intV (cellAt (hvs (foldB ((ba (s.data.toList ++ tail s.size s.size)).size / 64) H0 (ba (s.data.toList ++ tail s.size s.size)).data.toList)) ((IntKind.i64.wrap (IntKind.i64.wrap (IntKind.i64.wrap (IntKind.i64.wrap ((0 : Int) + (1 : Int)) + (1 : Int)) + (1 : Int)) + (1 : Int))).toNat * 1 + 0)))) (4 : Int)) (IntKind.u64.wrap (intV (cellAt (hvs (foldB ((ba (s.data.toList ++ tail s.size s.size)).size / 64) H0 (ba (s.data.toList ++ tail s.size s.size)).data.toList)) ((IntKind.i64.wrap (IntKind.i64.wrap (IntKind.i64.wrap (IntKind.i64.wrap (IntKind.i64.wrap ((0 : Int) + (1 : Int)) + (1 : Int)) + (1 : Int)) + (1 : Int)) + (1 : Int))).toNat * 1 + 0)))) (4 : Int)) (IntKind.u64.wrap (intV (cellAt (hvs (foldB ((ba (s.data.toList ++ tail s.size s.size)).size / 64) H0 (ba (s.data.toList ++ tail s.size s.size)).data.toList)) ((IntKind.i64.wrap (IntKind.i64.wrap (IntKind.i64.wrap (IntKind.i64.wrap (IntKind.i64.wrap (IntKind.i64.wrap ((0 : Int) + (1 : Int)) + (1 : Int)) + (1 : Int)) + (1 : Int)) + (1 : Int)) + (1 : Int))).toNat * 1 + 0)))) (4 : Int)).size ≤ 1099511627776) (.leaf (Value.string (Oct.put (Oct.put (Oct.put (Oct.put (Oct.put (Oct.put (Oct.put (Oct.put (ByteArray.mk (Array.mk [])) (IntKind.u64.wrap (foldB ((ba (s.data.toList ++ tail s.size s.size)).size / 64) H0 (ba (s.data.toList ++ tail s.size s.size)).data.toList).1) (4 : Int)) (IntKind.u64.wrap (foldB ((ba (s.data.toList ++ tail s.size s.size)).size / 64) H0 (ba (s.data.toList ++ tail s.size s.size)).data.toList).2) (4 : Int)) (IntKind.u64.wrap (foldB ((ba (s.data.toList ++ tail s.size s.size)).size / 64) H0 (ba (s.data.toList ++ tail s.size s.size)).data.toList).3) (4 : Int)) (IntKind.u64.wrap (foldB ((ba (s.data.toList ++ tail s.size s.size)).size / 64) H0 (ba (s.data.toList ++ tail s.size s.size)).data.toList).4) (4 : Int)) (IntKind.u64.wrap (foldB ((ba (s.data.toList ++ tail s.size s.size)).size / 64) H0 (ba (s.data.toList ++ tail s.size s.size)).data.toList).5) (4 : Int)) (IntKind.u64.wrap (foldB ((ba (s.data.toList ++ tail s.size s.size)).size / 64) H0 (ba (s.data.toList ++ tail s.size s.size)).data.toList).6) (4 : Int)) (IntKind.u64.wrap (foldB ((ba (s.data.toList ++ tail s.size s.size)).size / 64) H0 (ba (s.data.toList ++ tail s.size s.size)).data.toList).7) (4 : Int)) (IntKind.u64.wrap (foldB ((ba (s.data.toList ++ tail s.size s.size)).size / 64) H0 (ba (s.data.toList ++ tail s.size s.size)).data.toList).8) (4 : Int))))))))))))))))))))))))))))))))))))))) := by kernel_rfl
theorem stR_end (p : ByteArray) (h : H8) (a : Nat) (ha : p.size ≤ a) : (roundM Tryz.prog (onlyS Tryz.prog SSha7) (LBlk Tryz.prog SSha7 Tryz.f124 WS RS) 217 0 (loopAt Tryz.f124 0) 1 [3, 4, 5] [] [0] (stR p h (a : Int))).ok fun r => r = (.exit 0, stR p h (a : Int)) := by
  rw [stR_round]
  refine ⟨fun h => ?_, fun _ => rfl⟩
  have := of_decide_eq_true h
  omega
theorem tail_length (r n : Nat) : (tail r n).length = 9 + (119 - r % 64) % 64 := by simp [tail, Oct.be_length]; omega
theorem padded (s : ByteArray) : (ba (s.data.toList ++ tail s.size s.size)).size = s.size + 9 + (119 - s.size % 64) % 64 := by rw [ba_len, List.length_append, tail_length]; simp; omega
set_option maxRecDepth 100000 in
theorem ref05_Of (s : ByteArray) (hs : s.size ≤ 1000000000000) (w : World) : Calls Tryz.prog 124 #[.string s] w fun e w' => e = .returned (.string (shaOf s)) ∧ Below w.heap.size w w' := by
  refine calls_runV (onlyS_ok SSha8_ok) follows Tryz.func124 (by kernel_rfl) (by kernel_rfl) (two_loops (b1 := loopAt Tryz.f124 0) (b2 := loopAt Tryz.f124 1) (id1 := 0) (id2 := 8) (by kernel_rfl) (fun st t h => ?_) (fun st t h => ?_)) (of05_run s) ?_ w
  · rw [addL_same h]
    exact .str fun p => .need fun ⟨h1, h2⟩ => loop_fin (onlyS_ok SSha7_ok) follows (by kernel_rfl) LBlk_ok (fun k : Nat => k ≤ p.size / 64) (fun k => stR p (foldB k H0 p.data.toList) ((64 * k : Nat) : Int)) (fun k => p.size / 64 - k) 1 [3, 4, 5] [] [0] (p.size / 64) _ (stR_step p (p.size / 64) (by omega) h2) (stR_end p _ _ (by omega)) (Nat.zero_le _)
  · rw [addL_same (addL_other (by decide) h)]
    exact unroll_ok (onlyS_ok SSha7_ok) follows (by kernel_rfl) (noloops (by kernel_rfl)) 9 st
  · have hp := padded s
    have e0 : shaOf s = ba (txt (foldB ((ba (s.data.toList ++ tail s.size s.size)).size / 64) H0 (ba (s.data.toList ++ tail s.size s.size)).data.toList)) := by
      unfold shaOf shaL foldA
      rw [ba_len, ba_data]
      rw [show s.data.toList.length = s.size by simp]
      rfl
    rw [e0]
    refine ⟨hs, ⟨by omega, by omega⟩, rfl, rfl, ?_⟩
    generalize foldB ((ba (s.data.toList ++ tail s.size s.size)).size / 64) H0 (ba (s.data.toList ++ tail s.size s.size)).data.toList = h
    have z0 : (ByteArray.mk #[]).size = 0 := rfl
    repeat' refine And.intro ?_ ?_
    all_goals first | omega | rfl | exact (u64_range _).1 | exact (u64_range _).2 | decide | (simp only [Oct.put_size, z0]; decide) | skip
    show Value.string (Oct.put _ _ _) = _
    simp only [Oct.put, u64_wrap, ba, txt]
    simp
end Go.Proofs.YthacfgaacleaeaaGreatDoor
namespace Go.Proofs.YthacfgaacleaeaaGreatDoor
open Go.RowKit Sym Sha Go.ChangeShapes Go.WideShapes Go.ChangeMaps
def tShaOf : List Value → Option (List Prop × Value) | [.string s] => some ([s.size ≤ 1000000000000], .string (shaOf s)) | _ => none
def SSha9  : Tab := addS 141 tShaOf <| addS 124 tShaOf <| SSha8
theorem SSha9_ok : TabOk Tryz.prog (SSha9) := by
  refine addS_ok (addS_ok (SSha8_ok) (by kernel_rfl) ?_) (by kernel_rfl) ?_
  · (intro xs p v h hp w; unfold tShaOf at h; (split at h) <;> first | (cases h; done) | (simp only [Option.some.injEq, Prod.mk.injEq] at h; obtain ⟨rfl, rfl⟩ := h; exact ref05_Of _ (hp _ (List.mem_cons_self ..)) w))
  · (intro xs p v h hp w; unfold tShaOf at h; (split at h) <;> first | (cases h; done) | (simp only [Option.some.injEq, Prod.mk.injEq] at h; obtain ⟨rfl, rfl⟩ := h; exact sha_Of _ (Nat.le_trans (hp _ (List.mem_cons_self ..)) (by decide)) w))
end Go.Proofs.YthacfgaacleaeaaGreatDoor
namespace Go.Proofs.YthacfgaacleaeaaGreatDoor
open Go.RowKit Sym Sha Go.ChangeShapes Go.WideShapes Go.ChangeMaps
theorem ndt {p : Prop} [Decidable p] (h : (!decide p) = true) (k : p) : False := by simp [k] at h
theorem ndf {p : Prop} [Decidable p] (h : (!decide p) = false) : p := by simpa using h
theorem cat_data (g : Nat → ByteArray) (i : Nat) : (catR g (i + 1)).data.toList = (catR g i).data.toList ++ (g i).data.toList := by
  show (catR g i ++ g i).data.toList = _
  rw [ByteArray.data_append]; simp
end Go.Proofs.YthacfgaacleaeaaGreatDoor
namespace Go.Proofs.YthacfgaacleaeaaGreatDoor
open Go.RowKit Sym Sha Go.ChangeShapes Go.WideShapes Go.ChangeMaps
def FMac1 (P : Program) (fw f1 fAdd fNew : Func) : LTab := addT 146 (inl P (onlyS P noS) noL fw) (addT 176 (inl P (onlyS P noS) noL f1) (FSha2 P fAdd fNew))
theorem FMac1_ok : LOk Tryz.prog (FMac1 Tryz.prog Tryz.f146 Tryz.f176 Tryz.f144 Tryz.f143) :=
  addT_ok (addT_ok FSha2_ok (by kernel_rfl) (inl_ok (onlyS_ok noS_ok) follows Tryz.func176 (by kernel_rfl) (by kernel_rfl) (noloops (by kernel_rfl)))) (by kernel_rfl) (inl_ok (onlyS_ok noS_ok) follows Tryz.func146 (by kernel_rfl) (by kernel_rfl) (noloops (by kernel_rfl)))
abbrev CM (P : Program) (S : Tab) (fw f1 fAdd fNew : Func) : Cfg := both P S (FMac1 P fw f1 fAdd fNew) [175, 144, 147, 143, 146, 176]
theorem CM_ok {S : Tab} (h : TabOk Tryz.prog S) : CfgOk Tryz.prog (CM Tryz.prog S Tryz.f146 Tryz.f176 Tryz.f144 Tryz.f143) := both_ok h FMac1_ok
def stT (n : Int) (m : Nat) (xs : List Value) (i : Int) : St := ⟨[(1, some (.clo (.func 176) [] [.ptr 0 0])), (5, some (.ref 1)), (10, some (.ref 1)), (11, some (.v (.int .i64 m))), (12, some (.v (.int .i64 i)))], [.own [.v (.int .u8 n)], .vec true noGrow 1 m xs]⟩
set_option maxRecDepth 100000 in
theorem stT_round (n : Int) (m : Nat) (xs : List Value) (i : Int) : roundM Tryz.prog (CM Tryz.prog noS Tryz.f146 Tryz.f176 Tryz.f144 Tryz.f143) noL 26 0 (loopAt Tryz.f145 0) 2 [1, 5, 10, 11, 12] [] [] (stT n m xs i) = .ite (decide (i < (↑m : Int))) (.need ((0 : Int) ≤ i ∧ i < (↑m : Int)) (.need (i.toNat < m) (.need (List.take 1 (List.drop (i.toNat * 1 + 0) xs) = [Value.int IntKind.u8 (intV (cellAt xs (i.toNat * 1 + 0)))]) (.need ((0 : Int) ≤ i ∧ i < (↑m : Int)) (.need (i.toNat < m) (.leaf (Ex.normal, St.mk [(1, some (SV.clo (Fn.func 176) [] [.ptr 0 0])), (5, some (SV.ref 1)), (10, some (SV.ref 1)), (11, some (.v (.int .i64 (↑m : Int)))), (12, some (.v (.int .i64 (IntKind.i64.wrap (i + (1 : Int))))))] [.own [.v (.int .u8 n)], Blk.vec true 1000000007 1 m (List.take (i.toNat * 1 + 0) xs ++ [Value.int IntKind.u8 (IntKind.u8.wrap (↑(Nat.bitwise bne (intV (cellAt xs (i.toNat * 1 + 0)) % (256 : Int)).toNat (n % (256 : Int)).toNat) : Int))] ++ List.drop (i.toNat * 1 + 0 + 1) xs)]))))))) (.leaf (Ex.exit 0, St.mk [(1, some (SV.clo (Fn.func 176) [] [.ptr 0 0])), (5, some (SV.ref 1)), (10, some (SV.ref 1)), (11, some (.v (.int .i64 (↑m : Int)))), (12, some (.v (.int .i64 i)))] [.own [.v (.int .u8 n)], Blk.vec true 1000000007 1 m xs])) := by kernel_rfl
def stS (a b : ByteArray) (z : Int) (i : Int) : St := ⟨[(0, some (.v (.string a))), (1, some (.v (.string b))), (5, some (.v (.int .u8 z))), (13, some (.v (.int .i64 a.size))), (14, some (.v (.int .i64 i)))], []⟩
set_option maxRecDepth 100000 in
theorem stS_round (a b : ByteArray) (z : Int) (i : Int) : roundM Tryz.prog (onlyS Tryz.prog noS) noL 29 0 (loopAt Tryz.f91 0) 0 [0, 1, 5, 13, 14] [] [] (stS a b z i) = .ite (decide (i < (↑a.size : Int))) (.need ((0 : Int) ≤ i ∧ i < (↑a.size : Int)) (.need ((0 : Int) ≤ i ∧ i < (↑b.size : Int)) (.leaf (Ex.normal, St.mk [(0, some (.v (.string a))), (1, some (.v (.string b))), (5, some (.v (.int .u8 (IntKind.u8.wrap (↑(Nat.bitwise or (z % (256 : Int)).toNat (IntKind.u8.wrap (↑(Nat.bitwise bne (byteAt a i % (256 : Int)).toNat (byteAt b i % (256 : Int)).toNat) : Int) % (256 : Int)).toNat) : Int))))), (13, some (.v (.int .i64 (↑a.size : Int)))), (14, some (.v (.int .i64 (IntKind.i64.wrap (i + (1 : Int))))))] [])))) (.leaf (Ex.exit 0, St.mk [(0, some (.v (.string a))), (1, some (.v (.string b))), (5, some (.v (.int .u8 z))), (13, some (.v (.int .i64 (↑a.size : Int)))), (14, some (.v (.int .i64 i)))] [])) := by kernel_rfl
def stU (s : ByteArray) (n : Int) (t : ByteArray) (i : Int) : St := ⟨[(0, some (.v (.string s))), (1, some (.v (.int .u8 n))), (5, some (.v (.string t))), (6, some (.v (.int .i64 i)))], []⟩
set_option maxRecDepth 100000 in
theorem stU_round (s : ByteArray) (n : Int) (t : ByteArray) (i : Int) : roundM Tryz.prog (onlyS Tryz.prog noS) noL 23 0 (loopAt Tryz.f125 0) 0 [0, 1, 5, 6] [] [] (stU s n t i) = .ite (decide (i < (↑s.size : Int))) (.need ((0 : Int) ≤ i ∧ i < (↑s.size : Int)) (.need ([Value.int IntKind.u8 (IntKind.u8.wrap (↑(Nat.bitwise bne (byteAt s i % (256 : Int)).toNat (n % (256 : Int)).toNat) : Int))] = [Value.int IntKind.u8 (↑(UInt8.ofBitVec (BitVec.ofFin (Fin.mk ((IntKind.u8.wrap (↑(Nat.bitwise bne (byteAt s i % (256 : Int)).toNat (n % (256 : Int)).toNat) : Int)).toNat.mod 256) (Nat.mod_lt (IntKind.u8.wrap (↑(Nat.bitwise bne (byteAt s i % (256 : Int)).toNat (n % (256 : Int)).toNat) : Int)).toNat (BitVec.ofNat._proof_1 8))))).toNat : Int)]) (.need (t.size + (ByteArray.mk (Array.mk (Sym.strOf [Value.int IntKind.u8 (IntKind.u8.wrap (↑(Nat.bitwise bne (byteAt s i % (256 : Int)).toNat (n % (256 : Int)).toNat) : Int))]))).size ≤ 9223372036854775807) (.leaf (Ex.normal, St.mk [(0, some (.v (.string s))), (1, some (.v (.int .u8 n))), (5, some (.v (.string (t ++ ByteArray.mk (Array.mk (Sym.strOf [Value.int IntKind.u8 (IntKind.u8.wrap (↑(Nat.bitwise bne (byteAt s i % (256 : Int)).toNat (n % (256 : Int)).toNat) : Int))])))))), (6, some (.v (.int .i64 (IntKind.i64.wrap (i + (1 : Int))))))] []))))) (.leaf (Ex.exit 0, St.mk [(0, some (.v (.string s))), (1, some (.v (.int .u8 n))), (5, some (.v (.string t))), (6, some (.v (.int .i64 i)))] [])) := by kernel_rfl
def stK (k all : ByteArray) : St := ⟨[(0, some (.v (.string k))), (1, some (.v (.string all)))], []⟩
set_option maxRecDepth 100000 in
theorem stK_round (k all : ByteArray) : roundM Tryz.prog (onlyS Tryz.prog noS) noL 24 0 (loopAt Tryz.f69 0) 0 [0, 1] [] [] (stK k all) = .ite (decide ((↑k.size : Int) < (64 : Int))) (.need (k.size + 1 ≤ 9223372036854775807) (.leaf (Ex.normal, St.mk [(0, some (.v (.string (k ++ ByteArray.mk (Array.mk [UInt8.ofBitVec (BitVec.ofFin (Fin.mk 0 (Nat.mod_lt 0 (BitVec.ofNat._proof_1 8))))]))))), (1, some (.v (.string all)))] []))) (.leaf (Ex.exit 0, St.mk [(0, some (.v (.string k))), (1, some (.v (.string all)))] [])) := by kernel_rfl
theorem u8_wrap (n : Nat) (h : n < 256) : IntKind.u8.wrap (n : Int) = n := by simp only [IntKind.wrap, IntKind.bits, IntKind.signed]; simp; omega
theorem xor8 (x n : UInt8) : IntKind.u8.wrap ((Nat.bitwise bne (((x.toNat : Nat) : Int) % 256).toNat (((n.toNat : Nat) : Int) % 256).toNat : Nat) : Int) = (((x ^^^ n).toNat : Nat) : Int) := by
  have hx := x.toNat_lt
  have hn := n.toNat_lt
  rw [show (((x.toNat : Nat) : Int) % 256).toNat = x.toNat by omega, show (((n.toNat : Nat) : Int) % 256).toNat = n.toNat by omega]
  show IntKind.u8.wrap ((x.toNat ^^^ n.toNat : Nat) : Int) = _
  rw [← UInt8.toNat_xor]
  exact u8_wrap _ (UInt8.toNat_lt _)
theorem or8 (x n : UInt8) : IntKind.u8.wrap ((Nat.bitwise or (((x.toNat : Nat) : Int) % 256).toNat (((n.toNat : Nat) : Int) % 256).toNat : Nat) : Int) = (((x ||| n).toNat : Nat) : Int) := by
  have hx := x.toNat_lt
  have hn := n.toNat_lt
  rw [show (((x.toNat : Nat) : Int) % 256).toNat = x.toNat by omega, show (((n.toNat : Nat) : Int) % 256).toNat = n.toNat by omega]
  show IntKind.u8.wrap ((x.toNat ||| n.toNat : Nat) : Int) = _
  rw [← UInt8.toNat_or]
  exact u8_wrap _ (UInt8.toNat_lt _)
theorem bytesV_map (l : List UInt8) : bytesV l = (l.map fun b => (b.toNat : Int)).map (Value.int .u8) := by unfold bytesV; rw [List.map_map]; rfl
theorem bytes_at (l : List UInt8) (j : Nat) (h : j < l.length) : ((bytesV l).drop j).take 1 = [.int .u8 (intV (cellAt (bytesV l) j))] ∧ intV (cellAt (bytesV l) j) = ((l.getD j 0).toNat : Int) := by
  rw [bytesV_map]
  have := nums_at .u8 (l.map fun b => (b.toNat : Int)) j (by simpa using h)
  refine ⟨this.1, this.2.trans ?_⟩
  simp [nth, List.getD_eq_getElem?_getD, h]
theorem strOf_bytesV (l : List UInt8) : Sym.strOf (bytesV l) = l := by
  unfold Sym.strOf bytesV
  rw [List.map_map]
  conv => rhs; rw [← List.map_id l]
  apply List.map_congr_left
  intro b _
  show UInt8.ofNat ((b.toNat : Int)).toNat = b
  rw [Int.toNat_natCast]; exact UInt8.ofNat_toNat
def turnI (n : UInt8) (l : List UInt8) (i : Nat) : List UInt8 := Mac.turn n (l.take i) ++ l.drop i
theorem turnI_length (n : UInt8) (l : List UInt8) (i : Nat) : (turnI n l i).length = l.length := by simp [turnI, Mac.turn]; omega
theorem turnI_get (n : UInt8) (l : List UInt8) (i : Nat) (h : i < l.length) : (turnI n l i).getD i 0 = l[i] := by
  unfold turnI
  have : (Mac.turn n (l.take i)).length = i := by simp only [Mac.turn, List.length_map, List.length_take]; omega
  rw [List.getD_eq_getElem?_getD, List.getElem?_append_right (by omega)]
  rw [this]; simp [h]
theorem turnI_succ (n : UInt8) (l : List UInt8) (i : Nat) (h : i < l.length) : (bytesV (turnI n l i)).take i ++ [Value.int .u8 (((l[i] ^^^ n).toNat : Nat) : Int)] ++ (bytesV (turnI n l i)).drop (i + 1) = bytesV (turnI n l (i + 1)) := by
  have e1 : (Mac.turn n (l.take i)).length = i := by simp [Mac.turn]; omega
  have e2 : (turnI n l i).take i = Mac.turn n (l.take i) := by unfold turnI; rw [List.take_left' e1]
  have e3 : (turnI n l i).drop (i + 1) = l.drop (i + 1) := by
    unfold turnI
    rw [List.drop_append, List.drop_of_length_le (by omega), e1, List.drop_drop, List.nil_append]
    congr 1; omega
  unfold bytesV
  rw [← List.map_take, ← List.map_drop, e2, e3]
  unfold turnI
  rw [List.take_succ_eq_append_getElem h]
  simp only [Mac.turn, List.map_append, List.map_cons, List.map_nil, List.append_assoc]
theorem stT_step (n : UInt8) (l : List UInt8) (hl : l.length ≤ 9223372036854775807) : ∀ i : Nat, i ≤ l.length → i ≠ l.length → (roundM Tryz.prog (CM Tryz.prog noS Tryz.f146 Tryz.f176 Tryz.f144 Tryz.f143) noL 26 0 (loopAt Tryz.f145 0) 2 [1, 5, 10, 11, 12] [] [] (stT n.toNat l.length (bytesV (turnI n l i)) (i : Nat))).ok fun r => r.1 = .normal ∧ ∃ j, j ≤ l.length ∧ l.length - j < l.length - i ∧ r.2 = stT n.toNat l.length (bytesV (turnI n l j)) (j : Nat) := by
  intro i hi hne
  have hlt : i < l.length := by omega
  rw [stT_round]
  simp only [Int.toNat_natCast, Nat.mul_one, Nat.add_zero]
  have hb := bytes_at (turnI n l i) i (by rw [turnI_length]; omega)
  rw [turnI_get n l i hlt] at hb
  refine ⟨fun _ => ⟨by omega, by omega, hb.1, by omega, by omega, rfl, i + 1, by omega, by omega, ?_⟩, fun h => by simp at h; omega⟩
  rw [hb.2, xor8, turnI_succ n l i hlt, w64 ((i : Int) + 1) (by omega) (by omega)]
  rfl
def LTurned (P : Program) (C : Cfg) (fn : Func) (n : UInt8) (l : List UInt8) : Nat → St → Option (T (Ex × St)) :=
  addL 0 (fun st => .need (st.H.length = 2) (.need (st.tidy 2 [1, 5, 10, 11, 12] [] [] = stT n.toNat l.length (bytesV (turnI n l 0)) (0 : Nat)) ((roundM P C noL 26 0 (loopAt fn 0) 2 [1, 5, 10, 11, 12] [] [] (closeAt [] (stT n.toNat l.length (bytesV (turnI n l l.length)) (l.length : Nat)))).bind (lastX 0)))) noL
set_option maxRecDepth 100000 in
theorem turned_run (z : Int) (n : UInt8) (s : ByteArray) : runF Tryz.prog (CM Tryz.prog noS Tryz.f146 Tryz.f176 Tryz.f144 Tryz.f143) (LTurned Tryz.prog (CM Tryz.prog noS Tryz.f146 Tryz.f176 Tryz.f144 Tryz.f143) Tryz.f145 n s.data.toList) Tryz.f145 (Tryz.f145.body.getD .skip) [.v (.string s), .clo (.func 176) [] [.ptr 0 0]] [.own [.v (.int .u8 z)]] = .need (s.size ≤ 9223372036854775807) (.need (2 = 2) (.need (St.mk [(1, some (SV.clo (Fn.func 176) [] [.ptr 0 0])), (5, some (SV.ref 1)), (10, some (SV.ref 1)), (11, some (.v (.int .i64 (↑s.size : Int)))), (12, some (.v (.int .i64 0)))] [.own [.v (.int .u8 z)], Blk.vec true 1000000007 1 s.size (bytesV s.1.toList)] = stT (↑n.toNat : Int) s.1.toList.length (bytesV (turnI n s.1.toList 0)) (0 : Int)) (.ite (decide ((↑s.1.toList.length : Int) < (↑s.1.toList.length : Int))) (.need ((0 : Int) ≤ (↑s.data.toList.length : Int) ∧ (↑s.data.toList.length : Int) < (↑s.data.toList.length : Int)) (.need ((↑s.1.toList.length : Int).toNat < s.1.toList.length) (.need (List.take 1 (List.drop ((↑s.1.toList.length : Int).toNat * 1 + 0) (bytesV (turnI n s.1.toList s.1.toList.length))) = [Value.int IntKind.u8 (intV (cellAt (bytesV (turnI n s.1.toList s.1.toList.length)) ((↑s.1.toList.length : Int).toNat * 1 + 0)))]) (.need ((0 : Int) ≤ (↑s.data.toList.length : Int) ∧ (↑s.data.toList.length : Int) < (↑s.data.toList.length : Int)) (.need ((↑s.1.toList.length : Int).toNat < s.1.toList.length) (T.stuck 39)))))) (.need (bytesV (turnI n s.1.toList s.1.toList.length) = bytesV (Sym.strOf (bytesV (turnI n s.1.toList s.1.toList.length)))) (.leaf (.v (.string (ByteArray.mk (Array.mk (Sym.strOf (bytesV (turnI n s.1.toList s.1.toList.length)))))), [.own [.v (.int .u8 (↑n.toNat : Int))], Blk.vec true 1000000007 1 s.1.toList.length (bytesV (turnI n s.1.toList s.1.toList.length))])))))) := by kernel_rfl
def fTurned : List SV → List Blk → Option (T (SV × List Blk))
  | [.v (.string s), .clo (.func f) [] [.ptr 0 0]], [.own [.v (.int .u8 z)]] => bif Nat.beq f 176 then
    some (.need (s.size ≤ 9223372036854775807 ∧ 0 ≤ z ∧ z < 256) (.leaf (.v (.string (ba (Mac.turn (UInt8.ofNat z.toNat) s.data.toList))), [.own [.v (.int .u8 z)]]))) else none
  | _, _ => none
set_option maxRecDepth 100000 in
theorem fTurned_ok : EntryOk Tryz.prog 145 fTurned := by
  intro ss H t ht bs B w vs hm hv Qs hq
  unfold fTurned at ht
  split at ht
  · rename_i s f z
    cases hf : Nat.beq f 176
    · rw [hf] at ht; cases ht
    · rw [hf, cond_true, Option.some.injEq] at ht
      have hf := Nat.eq_of_beq_eq_true hf
      subst hf
      subst ht
      obtain ⟨⟨p1, p2, p3⟩, hq⟩ := hq
      have hz : z = ((UInt8.ofNat z.toNat).toNat : Int) := by rw [UInt8.toNat_ofNat']; omega
      generalize UInt8.ofNat z.toNat = n at hq hz
      have hsz : s.data.toList.length ≤ 9223372036854775807 := by rw [show s.data.toList.length = s.size by simp]; exact p1
      refine treeT_ok (CM_ok noS_ok) follows Tryz.func145 (by kernel_rfl) (by kernel_rfl) (one_loop (b := loopAt Tryz.f145 0) (id := 0) (by kernel_rfl) fun st t h => ?_) (turned_run z n s) (fun Qs h => ?_) hm hv hq
      · rw [addL_same h]
        exact loop_cnt (CM_ok noS_ok) follows (by kernel_rfl) (noloops (by kernel_rfl)) (fun i : Nat => i ≤ s.data.toList.length) (fun i => stT n.toNat s.data.toList.length (bytesV (turnI n s.data.toList i)) (i : Nat)) (fun i => s.data.toList.length - i) 2 [1, 5, 10, 11, 12] [] [] s.data.toList.length [] (stT_step n s.data.toList hsz) (Nat.zero_le _)
      · have e : turnI n s.data.toList s.data.toList.length = Mac.turn n s.data.toList := by unfold turnI; rw [List.take_length, List.drop_length, List.append_nil]
        refine ⟨p1, rfl, ?_, (fun e => ?_), fun _ => ?_⟩
        · subst hz; rfl
        · have := of_decide_eq_true e; omega
        · refine ⟨by rw [strOf_bytesV], ?_⟩
          rw [e, strOf_bytesV, ← hz]
          exact h
  · cases ht
def apart (a b : ByteArray) : Nat → UInt8
  | 0 => 0
  | i + 1 => apart a b i ||| (a.data.toList.getD i 0 ^^^ b.data.toList.getD i 0)
theorem apart_zero (a b : ByteArray) : ∀ i, apart a b i = 0 ↔ ∀ j, j < i → a.data.toList.getD j 0 = b.data.toList.getD j 0
  | 0 => ⟨fun _ j h => absurd h (Nat.not_lt_zero _), fun _ => rfl⟩
  | i + 1 => by
    show (apart a b i ||| _) = 0 ↔ _
    rw [UInt8.or_eq_zero_iff, UInt8.xor_eq_zero_iff, apart_zero a b i]
    constructor
    · rintro ⟨h1, h2⟩ j hj
      by_cases e : j = i
      · subst e; exact h2
      · exact h1 j (by omega)
    · intro h
      exact ⟨fun j hj => h j (by omega), h i (by omega)⟩
theorem apart_eq (a b : ByteArray) (h : a.size = b.size) : apart a b a.size = 0 ↔ a = b := by
  rw [apart_zero]
  constructor
  · intro hh
    apply ByteArray.ext
    apply Array.toList_inj.1
    apply List.ext_getElem
    · simpa using h
    · intro i h1 h2
      have := hh i (by simpa using h1)
      rw [List.getD_eq_getElem?_getD, List.getD_eq_getElem?_getD, List.getElem?_eq_getElem h1, List.getElem?_eq_getElem h2] at this
      exact this
  · rintro rfl j _; rfl
theorem stS_step (a b : ByteArray) (hs : a.size ≤ maxLen) (hab : a.size = b.size) : ∀ i : Nat, i ≤ a.size → i ≠ a.size → (roundM Tryz.prog (onlyS Tryz.prog noS) noL 29 0 (loopAt Tryz.f91 0) 0 [0, 1, 5, 13, 14] [] [] (stS a b (apart a b i).toNat (i : Nat))).ok fun r => r.1 = .normal ∧ ∃ j, j ≤ a.size ∧ a.size - j < a.size - i ∧ r.2 = stS a b (apart a b j).toNat (j : Nat) := by
  intro i hi hne
  unfold maxLen at hs
  have hlt : i < a.size := by omega
  rw [stS_round]
  refine ⟨fun _ => ⟨by omega, by omega, rfl, i + 1, by omega, by omega, ?_⟩, fun h => by simp at h; omega⟩
  have e : ∀ s : ByteArray, byteAt s (i : Nat) = (((s.data.toList.getD i 0).toNat : Nat) : Int) := fun s => by unfold byteAt; rw [Int.toNat_natCast]
  rw [e a, e b, xor8, or8, w64 ((i : Int) + 1) (by omega) (by omega)]
  rfl
def LSame (P : Program) (S : Tab) (fn : Func) (a b : ByteArray) : Nat → St → Option (T (Ex × St)) :=
  addL 0 (fun st => .need (a.size ≤ maxLen ∧ a.size = b.size) (.need (st.H.length = 0) (.need (st.tidy 0 [0, 1, 5, 13, 14] [] [] = stS a b (apart a b 0).toNat (0 : Nat)) ((roundM P (onlyS P S) noL 29 0 (loopAt fn 0) 0 [0, 1, 5, 13, 14] [] [] (closeAt [] (stS a b (apart a b a.size).toNat (a.size : Nat)))).bind (lastX 0))))) noL
set_option maxRecDepth 100000 in
theorem same_run (a b : ByteArray) : runV Tryz.prog (onlyS Tryz.prog noS) (LSame Tryz.prog noS Tryz.f91 a b) Tryz.f91 [.string a, .string b] = .ite (!decide ((↑a.size : Int) = (↑b.size : Int))) (.leaf (Value.bool false)) (.need (a.size ≤ maxLen ∧ a.size = b.size) (.need (0 = 0) (.need (St.mk [(0, some (.v (.string a))), (1, some (.v (.string b))), (5, some (.v (.int .u8 0))), (13, some (.v (.int .i64 (↑a.size : Int)))), (14, some (.v (.int .i64 0)))] [] = stS a b (↑(apart a b 0).toNat : Int) (0 : Int)) (.ite (decide ((↑a.size : Int) < (↑a.size : Int))) (.need ((0 : Int) ≤ (↑a.size : Int) ∧ (↑a.size : Int) < (↑a.size : Int)) (.need ((0 : Int) ≤ (↑a.size : Int) ∧ (↑a.size : Int) < (↑b.size : Int)) (T.stuck 39))) (.leaf (Value.bool (decide ((↑(apart a b a.size).toNat : Int) = (0 : Int))))))))) := by kernel_rfl
theorem mac_Same (a b : ByteArray) (hs : a.size ≤ maxLen) (w : World) : Calls Tryz.prog 91 #[.string a, .string b] w fun e w' => e = .returned (.bool (decide (a = b))) ∧ Below w.heap.size w w' := by
  refine calls_runV (onlyS_ok noS_ok) follows Tryz.func91 (by kernel_rfl) (by kernel_rfl) (one_loop (b := loopAt Tryz.f91 0) (id := 0) (by kernel_rfl) fun st t h => ?_) (same_run a b) ?_ w
  · rw [addL_same h]
    exact .need fun ⟨h1, h2⟩ => loop_cnt (onlyS_ok noS_ok) follows (by kernel_rfl) (noloops (by kernel_rfl)) (fun i : Nat => i ≤ a.size) (fun i => stS a b (apart a b i).toNat (i : Nat)) (fun i => a.size - i) 0 [0, 1, 5, 13, 14] [] [] a.size [] (stS_step a b h1 h2) (Nat.zero_le _)
  · have hz : (((apart a b a.size).toNat : Nat) : Int) = 0 ↔ apart a b a.size = 0 := by
      rw [Int.natCast_eq_zero, ← UInt8.toNat_inj]; rfl
    refine ⟨fun h => ?_, fun h => ⟨⟨hs, ?_⟩, rfl, rfl, (fun h => ?_), fun _ => ?_⟩⟩
    · have hn : ¬ a = b := fun e => ndt h (by rw [e])
      show Value.bool false = _
      rw [decide_eq_false hn]
    · have := ndf h; omega
    · have := of_decide_eq_true h; omega
    · have hab : a.size = b.size := by have := ndf h; omega
      show Value.bool _ = _
      congr 1
      rw [decide_eq_decide, hz, apart_eq a b hab]
def turned (n : UInt8) (s : ByteArray) (i : Nat) : ByteArray := ba (Mac.turn n (s.data.toList.take i))
theorem stU_step (s : ByteArray) (n : UInt8) (hs : s.size ≤ maxLen) : ∀ i : Nat, i ≤ s.size → i ≠ s.size → (roundM Tryz.prog (onlyS Tryz.prog noS) noL 23 0 (loopAt Tryz.f125 0) 0 [0, 1, 5, 6] [] [] (stU s n.toNat (turned n s i) (i : Nat))).ok fun r => r.1 = .normal ∧ ∃ j, j ≤ s.size ∧ s.size - j < s.size - i ∧ r.2 = stU s n.toNat (turned n s j) (j : Nat) := by
  intro i hi hne
  unfold maxLen at hs
  have hlt : i < s.size := by omega
  have hl : i < s.data.toList.length := by simpa using hlt
  rw [stU_round]
  have e : ∀ s : ByteArray, byteAt s (i : Nat) = (((s.data.toList.getD i 0).toNat : Nat) : Int) := fun s => by unfold byteAt; rw [Int.toNat_natCast]
  have e1 : (turned n s i).size = i := by unfold turned; rw [ba_len]; simp only [Mac.turn, List.length_map, List.length_take]; omega
  have e2 : Sym.strOf [Value.int .u8 (((s.data.toList.getD i 0 ^^^ n).toNat : Nat) : Int)] = [s.data.toList.getD i 0 ^^^ n] := strOf_bytesV [_]
  simp only [e, xor8, e2]
  refine ⟨fun _ => ⟨by omega, ?_, ?_, rfl, i + 1, by omega, by omega, ?_⟩, fun h => by simp at h; omega⟩
  · show [Value.int .u8 (((s.data.toList.getD i 0 ^^^ n).toNat : Nat) : Int)] = bytesV (Sym.strOf [Value.int .u8 (((s.data.toList.getD i 0 ^^^ n).toNat : Nat) : Int)])
    rw [e2]; rfl
  · rw [e1]; show i + 1 ≤ _; omega
  · rw [w64 ((i : Int) + 1) (by omega) (by omega)]
    have : turned n s i ++ ByteArray.mk (Array.mk [s.data.toList.getD i 0 ^^^ n]) = turned n s (i + 1) := by
      unfold turned
      show ba _ ++ ba [_] = _
      rw [ba_append, List.take_succ_eq_append_getElem hl, List.getD_eq_getElem?_getD, List.getElem?_eq_getElem hl]
      simp only [Mac.turn, List.map_append, List.map_cons, List.map_nil, Option.getD_some]
    rw [this]
    rfl
def LTurn (P : Program) (S : Tab) (fn : Func) (n : UInt8) : Nat → St → Option (T (Ex × St)) :=
  addL 0 (fun st => withStr st 0 fun s => .need (s.size ≤ maxLen) (.need (st.H.length = 0) (.need (st.tidy 0 [0, 1, 5, 6] [] [] = stU s n.toNat (turned n s 0) (0 : Nat)) ((roundM P (onlyS P S) noL 23 0 (loopAt fn 0) 0 [0, 1, 5, 6] [] [] (closeAt [] (stU s n.toNat (turned n s s.size) (s.size : Nat)))).bind (lastX 0))))) noL
set_option maxRecDepth 100000 in
theorem turn06_run (s : ByteArray) (n : UInt8) : runV Tryz.prog (onlyS Tryz.prog noS) (LTurn Tryz.prog noS Tryz.f125 n) Tryz.f125 [.string s, .int .u8 n.toNat] = .need (s.size ≤ 9223372036854775807) (.need (0 = 0) (.need (St.mk [(0, some (.v (.string s))), (1, some (.v (.int .u8 (↑n.toNat : Int)))), (5, some (.v (.string (ByteArray.mk (Array.mk []))))), (6, some (.v (.int .i64 0)))] [] = stU s (↑n.toNat : Int) (turned n s 0) (0 : Int)) (.ite (decide ((↑s.size : Int) < (↑s.size : Int))) (.need ((0 : Int) ≤ (↑s.size : Int) ∧ (↑s.size : Int) < (↑s.size : Int)) (.need ([Value.int IntKind.u8 (IntKind.u8.wrap (↑(Nat.bitwise bne (byteAt s (↑s.size : Int) % (256 : Int)).toNat ((↑n.toNat : Int) % (256 : Int)).toNat) : Int))] = [Value.int IntKind.u8 (↑(UInt8.ofBitVec (BitVec.ofFin (Fin.mk ((IntKind.u8.wrap (↑(Nat.bitwise bne (byteAt s (↑s.size : Int) % (256 : Int)).toNat ((↑n.toNat : Int) % (256 : Int)).toNat) : Int)).toNat.mod 256) (Nat.mod_lt (IntKind.u8.wrap (↑(Nat.bitwise bne (byteAt s (↑s.size : Int) % (256 : Int)).toNat ((↑n.toNat : Int) % (256 : Int)).toNat) : Int)).toNat (BitVec.ofNat._proof_1 8))))).toNat : Int)]) (.need ((turned n s s.size).size + (ByteArray.mk (Array.mk (Sym.strOf [Value.int IntKind.u8 (IntKind.u8.wrap (↑(Nat.bitwise bne (byteAt s (↑s.size : Int) % (256 : Int)).toNat ((↑n.toNat : Int) % (256 : Int)).toNat) : Int))]))).size ≤ 9223372036854775807) (T.stuck 39)))) (.leaf (Value.string (turned n s s.size)))))) := by kernel_rfl
theorem ref06_turned (s : ByteArray) (n : UInt8) (hs : s.size ≤ maxLen) (w : World) : Calls Tryz.prog 125 #[.string s, .int .u8 n.toNat] w fun e w' => e = .returned (.string (ba (Mac.turn n s.data.toList))) ∧ Below w.heap.size w w' := by
  refine calls_runV (onlyS_ok noS_ok) follows Tryz.func125 (by kernel_rfl) (by kernel_rfl) (one_loop (b := loopAt Tryz.f125 0) (id := 0) (by kernel_rfl) fun st t h => ?_) (turn06_run s n) ?_ w
  · rw [addL_same h]
    exact .str fun s => .need fun h1 => loop_cnt (onlyS_ok noS_ok) follows (by kernel_rfl) (noloops (by kernel_rfl)) (fun i : Nat => i ≤ s.size) (fun i => stU s n.toNat (turned n s i) (i : Nat)) (fun i => s.size - i) 0 [0, 1, 5, 6] [] [] s.size [] (stU_step s n h1) (Nat.zero_le _)
  · refine ⟨hs, rfl, rfl, (fun h => ?_), fun _ => ?_⟩
    · have := of_decide_eq_true h; omega
    · show Value.string (turned n s s.size) = _
      unfold turned
      rw [List.take_of_length_le (by simp)]
def tTurned06 : List Value → Option (List Prop × Value) | [.string s, .int .u8 z] => some ([s.size ≤ maxLen ∧ 0 ≤ z ∧ z < 256], .string (ba (Mac.turn (UInt8.ofNat z.toNat) s.data.toList))) | _ => none
theorem turned06_tab (s : ByteArray) (z : Int) (h : s.size ≤ maxLen ∧ 0 ≤ z ∧ z < 256) (w : World) : Calls Tryz.prog 125 #[.string s, .int .u8 z] w fun e w' => e = .returned (.string (ba (Mac.turn (UInt8.ofNat z.toNat) s.data.toList))) ∧ Below w.heap.size w w' := by
  have hz : z = ((UInt8.ofNat z.toNat).toNat : Int) := by rw [UInt8.toNat_ofNat']; omega
  generalize UInt8.ofNat z.toNat = n at hz
  subst hz
  exact ref06_turned s n h.1 w
def tSame : List Value → Option (List Prop × Value) | [.string a, .string b] => some ([a.size ≤ maxLen], .bool (decide (a = b))) | _ => none
def SMac1  : Tab := addS 91 tSame <| addS 125 tTurned06 <| SSha9
theorem SMac1_ok : TabOk Tryz.prog (SMac1) := by
  refine addS_ok (addS_ok (SSha9_ok) (by kernel_rfl) ?_) (by kernel_rfl) ?_
  · (intro xs p v h hp w; unfold tTurned06 at h; (split at h) <;> first | (cases h; done) | (simp only [Option.some.injEq, Prod.mk.injEq] at h; obtain ⟨rfl, rfl⟩ := h; exact turned06_tab _ _ (hp _ (List.mem_cons_self ..)) w))
  · (intro xs p v h hp w; unfold tSame at h; (split at h) <;> first | (cases h; done) | (simp only [Option.some.injEq, Prod.mk.injEq] at h; obtain ⟨rfl, rfl⟩ := h; exact mac_Same _ _ (hp _ (List.mem_cons_self ..)) w))
def stKI (k all : ByteArray) (i : Nat) : St := stK (k ++ ba (List.replicate i 0)) all
theorem stKI_step (k all : ByteArray) (hk : k.size ≤ 64) : ∀ i : Nat, i ≤ 64 - k.size → i ≠ 64 - k.size → (roundM Tryz.prog (onlyS Tryz.prog noS) noL 24 0 (loopAt Tryz.f69 0) 0 [0, 1] [] [] (stKI k all i)).ok fun r => r.1 = .normal ∧ ∃ j, j ≤ 64 - k.size ∧ 64 - k.size - j < 64 - k.size - i ∧ r.2 = stKI k all j := by
  intro i hi hne
  have e : (k ++ ba (List.replicate i 0)).size = k.size + i := by rw [ByteArray.size_append, ba_len, List.length_replicate]
  unfold stKI
  rw [stK_round]
  refine ⟨fun _ => ⟨by omega, rfl, i + 1, by omega, by omega, ?_⟩, fun h => ?_⟩
  · show stK (k ++ ba (List.replicate i 0) ++ ba [0]) all = _
    rw [List.replicate_succ', ← ba_append, ByteArray.append_assoc]
  · have := of_decide_eq_false h; omega
def LKey (P : Program) (S : Tab) (fn : Func) : Nat → St → Option (T (Ex × St)) :=
  addL 0 (fun st => withStr st 0 fun k => withStr st 1 fun all => .need (k.size ≤ 64) (.need (st.H.length = 0) (.need (st.tidy 0 [0, 1] [] [] = stKI k all 0) ((roundM P (onlyS P S) noL 24 0 (loopAt fn 0) 0 [0, 1] [] [] (closeAt [] (stKI k all (64 - k.size)))).bind (lastX 0))))) noL
set_option maxRecDepth 100000 in
theorem of06_run (key all : ByteArray) : runV Tryz.prog (onlyS Tryz.prog SMac1) (LKey Tryz.prog noS Tryz.f69) Tryz.f69 [.string key, .string all] = .ite (decide ((↑key.size : Int) > (64 : Int))) (.need (key.size ≤ 1000000000000) (.need ((shaOf key).size ≤ 64) (.need (0 = 0) (.need (St.mk [(0, some (.v (.string (shaOf key)))), (1, some (.v (.string all)))] [] = stKI (shaOf key) all 0) (.ite (decide ((↑(shaOf key ++ ba (List.replicate (64 - (shaOf key).size) (UInt8.ofBitVec (BitVec.ofFin (Fin.mk 0 (Nat.mod_lt 0 (BitVec.ofNat._proof_1 8))))))).size : Int) < (64 : Int))) (.need ((shaOf key ++ ba (List.replicate (64 - (shaOf key).size) (UInt8.ofBitVec (BitVec.ofFin (Fin.mk 0 (Nat.mod_lt 0 (BitVec.ofNat._proof_1 8))))))).size + 1 ≤ 9223372036854775807) (T.stuck 39)) (.need ((shaOf key ++ ba (List.replicate (64 - (shaOf key).size) (0 : UInt8))).size ≤ maxLen ∧ (0 : Int) ≤ (92 : Int) ∧ (92 : Int) < (256 : Int)) (.need ((shaOf key ++ ba (List.replicate (64 - (shaOf key).size) (0 : UInt8))).size ≤ maxLen ∧ (0 : Int) ≤ (54 : Int) ∧ (54 : Int) < (256 : Int)) (.need ((ba (Mac.turn (UInt8.ofBitVec (BitVec.ofFin (Fin.mk 54 (Nat.mod_lt 54 (BitVec.ofNat._proof_1 8))))) (Array.mk ((shaOf key).1.toList ++ (ba (List.replicate (64 - (shaOf key).size) (0 : UInt8))).1.toList)).toList)).size + all.size ≤ 9223372036854775807) (.need ((ba (Mac.turn (UInt8.ofBitVec (BitVec.ofFin (Fin.mk 54 (Nat.mod_lt 54 (BitVec.ofNat._proof_1 8))))) (Array.mk ((shaOf key).1.toList ++ (ba (List.replicate (64 - (shaOf key).size) (0 : UInt8))).1.toList)).toList) ++ all).size ≤ 1000000000000) (.need ((ba (Mac.turn (UInt8.ofBitVec (BitVec.ofFin (Fin.mk 92 (Nat.mod_lt 92 (BitVec.ofNat._proof_1 8))))) (Array.mk ((shaOf key).1.toList ++ (ba (List.replicate (64 - (shaOf key).size) (0 : UInt8))).1.toList)).toList)).size + (shaOf (ba (Mac.turn (UInt8.ofBitVec (BitVec.ofFin (Fin.mk 54 (Nat.mod_lt 54 (BitVec.ofNat._proof_1 8))))) (Array.mk ((shaOf key).1.toList ++ (ba (List.replicate (64 - (shaOf key).size) (0 : UInt8))).1.toList)).toList) ++ all)).size ≤ 9223372036854775807) (.need ((ba (Mac.turn (UInt8.ofBitVec (BitVec.ofFin (Fin.mk 92 (Nat.mod_lt 92 (BitVec.ofNat._proof_1 8))))) (Array.mk ((shaOf key).1.toList ++ (ba (List.replicate (64 - (shaOf key).size) (0 : UInt8))).1.toList)).toList) ++ shaOf (ba (Mac.turn (UInt8.ofBitVec (BitVec.ofFin (Fin.mk 54 (Nat.mod_lt 54 (BitVec.ofNat._proof_1 8))))) (Array.mk ((shaOf key).1.toList ++ (ba (List.replicate (64 - (shaOf key).size) (0 : UInt8))).1.toList)).toList) ++ all)).size ≤ 1000000000000) (.leaf (Value.string (shaOf (ba (Mac.turn (UInt8.ofBitVec (BitVec.ofFin (Fin.mk 92 (Nat.mod_lt 92 (BitVec.ofNat._proof_1 8))))) (Array.mk ((shaOf key).1.toList ++ (ba (List.replicate (64 - (shaOf key).size) (0 : UInt8))).1.toList)).toList) ++ shaOf (ba (Mac.turn (UInt8.ofBitVec (BitVec.ofFin (Fin.mk 54 (Nat.mod_lt 54 (BitVec.ofNat._proof_1 8))))) (Array.mk ((shaOf key).1.toList ++ (ba (List.replicate (64 - (shaOf key).size) (0 : UInt8))).1.toList)).toList) ++ all)))))))))))))))) (.need (key.size ≤ 64) (.need (0 = 0) (.need (St.mk [(0, some (.v (.string key))), (1, some (.v (.string all)))] [] = stKI key all 0) (.ite (decide ((↑(key ++ ba (List.replicate (64 - key.size) (UInt8.ofBitVec (BitVec.ofFin (Fin.mk 0 (Nat.mod_lt 0 (BitVec.ofNat._proof_1 8))))))).size : Int) < (64 : Int))) (.need ((key ++ ba (List.replicate (64 - key.size) (UInt8.ofBitVec (BitVec.ofFin (Fin.mk 0 (Nat.mod_lt 0 (BitVec.ofNat._proof_1 8))))))).size + 1 ≤ 9223372036854775807) (T.stuck 39)) (.need ((key ++ ba (List.replicate (64 - key.size) (0 : UInt8))).size ≤ maxLen ∧ (0 : Int) ≤ (92 : Int) ∧ (92 : Int) < (256 : Int)) (.need ((key ++ ba (List.replicate (64 - key.size) (0 : UInt8))).size ≤ maxLen ∧ (0 : Int) ≤ (54 : Int) ∧ (54 : Int) < (256 : Int)) (.need ((ba (Mac.turn (UInt8.ofBitVec (BitVec.ofFin (Fin.mk 54 (Nat.mod_lt 54 (BitVec.ofNat._proof_1 8))))) (Array.mk (key.1.toList ++ (ba (List.replicate (64 - key.size) (0 : UInt8))).1.toList)).toList)).size + all.size ≤ 9223372036854775807) (.need ((ba (Mac.turn (UInt8.ofBitVec (BitVec.ofFin (Fin.mk 54 (Nat.mod_lt 54 (BitVec.ofNat._proof_1 8))))) (Array.mk (key.1.toList ++ (ba (List.replicate (64 - key.size) (0 : UInt8))).1.toList)).toList) ++ all).size ≤ 1000000000000) (.need ((ba (Mac.turn (UInt8.ofBitVec (BitVec.ofFin (Fin.mk 92 (Nat.mod_lt 92 (BitVec.ofNat._proof_1 8))))) (Array.mk (key.1.toList ++ (ba (List.replicate (64 - key.size) (0 : UInt8))).1.toList)).toList)).size + (shaOf (ba (Mac.turn (UInt8.ofBitVec (BitVec.ofFin (Fin.mk 54 (Nat.mod_lt 54 (BitVec.ofNat._proof_1 8))))) (Array.mk (key.1.toList ++ (ba (List.replicate (64 - key.size) (0 : UInt8))).1.toList)).toList) ++ all)).size ≤ 9223372036854775807) (.need ((ba (Mac.turn (UInt8.ofBitVec (BitVec.ofFin (Fin.mk 92 (Nat.mod_lt 92 (BitVec.ofNat._proof_1 8))))) (Array.mk (key.1.toList ++ (ba (List.replicate (64 - key.size) (0 : UInt8))).1.toList)).toList) ++ shaOf (ba (Mac.turn (UInt8.ofBitVec (BitVec.ofFin (Fin.mk 54 (Nat.mod_lt 54 (BitVec.ofNat._proof_1 8))))) (Array.mk (key.1.toList ++ (ba (List.replicate (64 - key.size) (0 : UInt8))).1.toList)).toList) ++ all)).size ≤ 1000000000000) (.leaf (Value.string (shaOf (ba (Mac.turn (UInt8.ofBitVec (BitVec.ofFin (Fin.mk 92 (Nat.mod_lt 92 (BitVec.ofNat._proof_1 8))))) (Array.mk (key.1.toList ++ (ba (List.replicate (64 - key.size) (0 : UInt8))).1.toList)).toList) ++ shaOf (ba (Mac.turn (UInt8.ofBitVec (BitVec.ofFin (Fin.mk 54 (Nat.mod_lt 54 (BitVec.ofNat._proof_1 8))))) (Array.mk (key.1.toList ++ (ba (List.replicate (64 - key.size) (0 : UInt8))).1.toList)).toList) ++ all))))))))))))))) := by kernel_rfl
theorem ba_app (x : List UInt8) (y : ByteArray) : (ba x ++ y).data.toList = x ++ y.data.toList := by rw [ByteArray.data_append]; simp [ba]
theorem app_nil (k : ByteArray) : k ++ ba [] = k := by apply ByteArray.ext; rw [ByteArray.data_append]; simp [ba]
theorem nil_app (k : ByteArray) : ba [] ++ k = k := by apply ByteArray.ext; rw [ByteArray.data_append]; simp [ba]
def padK (k : ByteArray) : ByteArray := k ++ ba (List.replicate (64 - k.size) 0)
theorem padK_size (k : ByteArray) (h : k.size ≤ 64) : (padK k).size = 64 := by unfold padK; rw [ByteArray.size_append, ba_len, List.length_replicate]; omega
def keyB (key : ByteArray) : ByteArray := if 64 < key.size then shaOf key else key
theorem keyB_size (key : ByteArray) : (keyB key).size ≤ 64 := by
  unfold keyB
  by_cases h : 64 < key.size
  · simp only [if_pos h, shaOf_size]; omega
  · simp only [if_neg h]; omega
theorem padK_key (key : ByteArray) : (padK (keyB key)).data.toList = Mac.key64 key.data.toList := by
  unfold padK keyB Mac.key64
  have hs : key.data.toList.length = key.size := by simp
  by_cases h : 64 < key.size
  · have hz := shaOf_size key
    have hl := Sha.shaL_length key.data.toList
    simp only [hs, if_pos h, hz, hl]
    rw [ByteArray.data_append]; simp [ba, shaOf]
  · simp only [hs, if_neg h]
    rw [ByteArray.data_append]; simp [ba]
theorem turn_length (n : UInt8) (l : List UInt8) : (Mac.turn n l).length = l.length := by simp [Mac.turn]
theorem mac_val (key all : ByteArray) {K : List UInt8} (hK : K = Mac.key64 key.data.toList) : shaOf (ba (Mac.turn 92 K) ++ shaOf (ba (Mac.turn 54 K) ++ all)) = macOf key all := by
  subst hK
  unfold macOf Mac.macL
  show ba (shaL (ba _ ++ shaOf _).data.toList) = _
  rw [ba_app]
  show ba (shaL (_ ++ shaL (ba _ ++ all).data.toList)) = _
  rw [ba_app]
  rfl
set_option maxRecDepth 100000 in
theorem ref06_Of (key all : ByteArray) (hk : key.size ≤ 1000000000000) (ha : all.size ≤ 100000000000) (w : World) : Calls Tryz.prog 69 #[.string key, .string all] w fun e w' => e = .returned (.string (macOf key all)) ∧ Below w.heap.size w w' := by
  refine calls_runV (onlyS_ok SMac1_ok) follows Tryz.func69 (by kernel_rfl) (by kernel_rfl) (one_loop (b := loopAt Tryz.f69 0) (id := 0) (by kernel_rfl) fun st t h => ?_) (of06_run key all) ?_ w
  · rw [addL_same h]
    exact .str fun k => .str fun all => .need fun h1 => loop_cnt (onlyS_ok noS_ok) follows (by kernel_rfl) (noloops (by kernel_rfl)) (fun i : Nat => i ≤ 64 - k.size) (fun i => stKI k all i) (fun i => 64 - k.size - i) 0 [0, 1] [] [] (64 - k.size) [] (stKI_step k all h1) (Nat.zero_le _)
  · have h0 : ∀ k : ByteArray, stK k all = stKI k all 0 := fun k => by unfold stKI; rw [List.replicate_zero, app_nil]
    have hz := padK_size _ (keyB_size key)
    have hK := padK_key key
    have t1 : ∀ n, (ba (Mac.turn n (padK (keyB key)).data.toList)).size = 64 := fun n => by rw [ba_len, turn_length]; show (padK (keyB key)).data.toList.length = 64; rw [show (padK (keyB key)).data.toList.length = (padK (keyB key)).size by simp, hz]
    have hv := mac_val key all hK
    have s1 := keyB_size key
    by_cases hb : 64 < key.size
    · have e : keyB key = shaOf key := by unfold keyB; rw [if_pos hb]
      rw [e] at hz t1 hv s1
      refine ⟨fun _ => ⟨hk, s1, rfl, h0 _, (fun h => ?_), fun _ => ⟨?_, ?_, ?_, ?_, ?_, ?_, ?_⟩⟩, fun h => ?_⟩
      · have h := of_decide_eq_true h
        have h : ((padK (shaOf key)).size : Int) < 64 := h
        omega
      · exact ⟨by show (padK (shaOf key)).size ≤ maxLen; rw [hz]; unfold maxLen; omega, by omega, by omega⟩
      · exact ⟨by show (padK (shaOf key)).size ≤ maxLen; rw [hz]; unfold maxLen; omega, by omega, by omega⟩
      · show (ba (Mac.turn 54 (padK (shaOf key)).data.toList)).size + all.size ≤ _
        rw [t1]; omega
      · show (ba (Mac.turn 54 (padK (shaOf key)).data.toList) ++ all).size ≤ _
        rw [ByteArray.size_append, t1]; omega
      · show (ba (Mac.turn 92 (padK (shaOf key)).data.toList)).size + (shaOf _).size ≤ _
        rw [t1, shaOf_size]; omega
      · show (ba (Mac.turn 92 (padK (shaOf key)).data.toList) ++ shaOf _).size ≤ _
        rw [ByteArray.size_append, t1, shaOf_size]; omega
      · exact congrArg Value.string hv
      · have h := of_decide_eq_false h; omega
    · have e : keyB key = key := by unfold keyB; rw [if_neg hb]
      rw [e] at hz t1 hv s1
      refine ⟨fun h => ?_, fun _ => ⟨s1, rfl, h0 _, (fun h => ?_), fun _ => ⟨?_, ?_, ?_, ?_, ?_, ?_, ?_⟩⟩⟩
      · have h := of_decide_eq_true h; omega
      · have h := of_decide_eq_true h
        have h : ((padK key).size : Int) < 64 := h
        omega
      · exact ⟨by show (padK key).size ≤ maxLen; rw [hz]; unfold maxLen; omega, by omega, by omega⟩
      · exact ⟨by show (padK key).size ≤ maxLen; rw [hz]; unfold maxLen; omega, by omega, by omega⟩
      · show (ba (Mac.turn 54 (padK key).data.toList)).size + all.size ≤ _
        rw [t1]; omega
      · show (ba (Mac.turn 54 (padK key).data.toList) ++ all).size ≤ _
        rw [ByteArray.size_append, t1]; omega
      · show (ba (Mac.turn 92 (padK key).data.toList)).size + (shaOf _).size ≤ _
        rw [t1, shaOf_size]; omega
      · show (ba (Mac.turn 92 (padK key).data.toList) ++ shaOf _).size ≤ _
        rw [ByteArray.size_append, t1, shaOf_size]; omega
      · exact congrArg Value.string hv
def tMac06 : List Value → Option (List Prop × Value) | [.string k, .string a] => some ([k.size ≤ 1000000000000 ∧ a.size ≤ 100000000000], .string (macOf k a)) | _ => none
def SMac2  : Tab := addS 69 tMac06 <| SMac1
theorem SMac2_ok : TabOk Tryz.prog (SMac2) := by
  refine addS_ok (SMac1_ok) (by kernel_rfl) ?_
  · (intro xs p v h hp w; unfold tMac06 at h; (split at h) <;> first | (cases h; done) | (simp only [Option.some.injEq, Prod.mk.injEq] at h; obtain ⟨rfl, rfl⟩ := h; exact ref06_Of _ _ (hp _ (List.mem_cons_self ..)).1 (hp _ (List.mem_cons_self ..)).2 w))
def FMac2 (P : Program) (fw f1 fAdd fNew : Func) : LTab := addF 145 fTurned (FMac1 P fw f1 fAdd fNew)
theorem FMac2_ok : LOk Tryz.prog (FMac2 Tryz.prog Tryz.f146 Tryz.f176 Tryz.f144 Tryz.f143) := addF_ok FMac1_ok (by kernel_rfl) fTurned_ok
abbrev CN (P : Program) (S : Tab) (fw f1 fAdd fNew : Func) : Cfg := both P S (FMac2 P fw f1 fAdd fNew) [175, 144, 147, 143, 146, 176, 145]
theorem CN_ok {S : Tab} (h : TabOk Tryz.prog S) : CfgOk Tryz.prog (CN Tryz.prog S Tryz.f146 Tryz.f176 Tryz.f144 Tryz.f143) := both_ok h FMac2_ok
def stM (key : ByteArray) (n : Nat) (g : Nat → ByteArray) (h : H8) (r : ByteArray) (m : Int) (i : Int) : St := ⟨[(0, some (.v (.string key))), (5, some (.ptr 1 0)), (25, some (.ref 0)), (26, some (.v (.int .i64 n))), (27, some (.v (.int .i64 i)))], [.row n 1 (fun i _ => .string (g i)), .own (stC h r m), .own [.v (.int .u8 54)]]⟩
set_option maxRecDepth 100000 in
theorem stM_round (key : ByteArray) (n : Nat) (g : Nat → ByteArray) (h : H8) (r : ByteArray) (m : Int) (i : Int) : roundM Tryz.prog (CN Tryz.prog SMac2 Tryz.f146 Tryz.f176 Tryz.f144 Tryz.f143) noL 42 0 (loopAt Tryz.f98 0) 3 [0, 5, 25, 26, 27] [] [] (stM key n g h r m i) = .ite (decide (i < (↑n : Int))) (.need ((0 : Int) ≤ i ∧ i < (↑n : Int)) (.need (i.toNat < n) (.need (r.size + (g i.toNat).size ≤ 9223372036854775807) (.leaf (Ex.normal, St.mk [(0, some (.v (.string key))), (5, some (.ptr 1 0)), (25, some (SV.ref 0)), (26, some (.v (.int .i64 (↑n : Int)))), (27, some (.v (.int .i64 (IntKind.i64.wrap (i + (1 : Int))))))] [Blk.row n 1 fun i x => Value.string (g i), .own [.v (.int .u32 (foldA h (Array.mk (r.1.toList ++ (g i.toNat).1.toList)).toList).a), .v (.int .u32 (foldA h (Array.mk (r.1.toList ++ (g i.toNat).1.toList)).toList).b), .v (.int .u32 (foldA h (Array.mk (r.1.toList ++ (g i.toNat).1.toList)).toList).c), .v (.int .u32 (foldA h (Array.mk (r.1.toList ++ (g i.toNat).1.toList)).toList).d), .v (.int .u32 (foldA h (Array.mk (r.1.toList ++ (g i.toNat).1.toList)).toList).e), .v (.int .u32 (foldA h (Array.mk (r.1.toList ++ (g i.toNat).1.toList)).toList).f), .v (.int .u32 (foldA h (Array.mk (r.1.toList ++ (g i.toNat).1.toList)).toList).g), .v (.int .u32 (foldA h (Array.mk (r.1.toList ++ (g i.toNat).1.toList)).toList).h), .v (.string (ba (restA (Array.mk (r.1.toList ++ (g i.toNat).1.toList)).toList))), .v (.int .i64 (IntKind.i64.wrap (m + (↑(g i.toNat).size : Int))))], .own [.v (.int .u8 54)]]))))) (.leaf (Ex.exit 0, St.mk [(0, some (.v (.string key))), (5, some (.ptr 1 0)), (25, some (SV.ref 0)), (26, some (.v (.int .i64 (↑n : Int)))), (27, some (.v (.int .i64 i)))] [Blk.row n 1 fun i x => Value.string (g i), .own [.v (.int .u32 h.a), .v (.int .u32 h.b), .v (.int .u32 h.c), .v (.int .u32 h.d), .v (.int .u32 h.e), .v (.int .u32 h.f), .v (.int .u32 h.g), .v (.int .u32 h.h), .v (.string r), .v (.int .i64 m)], .own [.v (.int .u8 54)]])) := by kernel_rfl
end Go.Proofs.YthacfgaacleaeaaGreatDoor
namespace Go.Proofs.YthacfgaacleaeaaGreatDoor
open Go.RowKit Sym Sha Go.ChangeShapes Go.WideShapes Go.ChangeMaps
def stMI (key : ByteArray) (n : Nat) (g : Nat → ByteArray) (p : List UInt8) (i : Nat) : St := stM key n g (foldA H0 (p ++ (catR g i).data.toList)) (ba (restA (p ++ (catR g i).data.toList))) ((p.length : Int) + ((catR g i).size : Int)) (i : Int)
theorem stMI_step (key : ByteArray) (n : Nat) (g : Nat → ByteArray) (p : List UInt8) (hn : n ≤ maxLen) (hp : p.length ≤ 64) (hc : (catR g n).size ≤ 100000000000) : ∀ i : Nat, i ≤ n → i ≠ n → (roundM Tryz.prog (CN Tryz.prog SMac2 Tryz.f146 Tryz.f176 Tryz.f144 Tryz.f143) noL 42 0 (loopAt Tryz.f98 0) 3 [0, 5, 25, 26, 27] [] [] (stMI key n g p i)).ok fun r => r.1 = .normal ∧ ∃ j, j ≤ n ∧ n - j < n - i ∧ r.2 = stMI key n g p j := by
  intro i hi hne
  unfold maxLen at hn
  have hlt : i < n := by omega
  have hm := catR_mono g (show i + 1 ≤ n by omega)
  have hsz : (catR g (i + 1)).size = (catR g i).size + (g i).size := by show (catR g i ++ g i).size = _; rw [ByteArray.size_append]
  have hr := restA_length (p ++ (catR g i).data.toList)
  unfold stMI
  rw [stM_round]
  simp only [Int.toNat_natCast]
  have e : (p ++ (catR g i).data.toList) ++ (g i).data.toList = p ++ (catR g (i + 1)).data.toList := by rw [cat_data, List.append_assoc]
  have hw : IntKind.i64.wrap ((p.length : Int) + ((catR g i).size : Int) + ((g i).size : Int)) = (p.length : Int) + ((catR g (i + 1)).size : Int) := by rw [w64 _ (by omega) (by omega)]; omega
  have hw1 : IntKind.i64.wrap ((i : Int) + 1) = ((i + 1 : Nat) : Int) := by rw [w64 _ (by omega) (by omega)]; rfl
  refine ⟨fun _ => ⟨by omega, by omega, ?_, rfl, i + 1, by omega, by omega, ?_⟩, fun h => ?_⟩
  · rw [ba_len, hr]; omega
  · show stM key n g (foldA (foldA H0 (p ++ (catR g i).data.toList)) (restA (p ++ (catR g i).data.toList) ++ (g i).data.toList)) (ba (restA (restA (p ++ (catR g i).data.toList) ++ (g i).data.toList))) (IntKind.i64.wrap ((p.length : Int) + ((catR g i).size : Int) + ((g i).size : Int))) (IntKind.i64.wrap ((i : Int) + 1)) = _
    rw [foldA_append, restA_append, hw, hw1, e]
  · have h := of_decide_eq_false h; omega
def LMac (P : Program) (C : Cfg) (fn : Func) (n : Nat) (g : Nat → ByteArray) (p : List UInt8) : Nat → St → Option (T (Ex × St)) :=
  addL 0 (fun st => withStr st 0 fun key => .need (p.length = 64) (.need (st.H.length = 3) (.need (st.tidy 3 [0, 5, 25, 26, 27] [] [] = stMI key n g p 0) ((roundM P C noL 42 0 (loopAt fn 0) 3 [0, 5, 25, 26, 27] [] [] (closeAt [] (stMI key n g p n))).bind (lastX 0))))) noL
set_option maxRecDepth 100000 in
theorem macOf_run (key : ByteArray) (n : Nat) (g : Nat → ByteArray) (p : List UInt8) : trimT 1 (runF Tryz.prog (CN Tryz.prog SMac2 Tryz.f146 Tryz.f176 Tryz.f144 Tryz.f143) (LMac Tryz.prog (CN Tryz.prog SMac2 Tryz.f146 Tryz.f176 Tryz.f144 Tryz.f143) Tryz.f98 n g p) Tryz.f98 (Tryz.f98.body.getD .skip) [.v (.string key), .ref 0] [.row n 1 fun i _ => .string (g i)]) = .ite (decide ((↑key.size : Int) > (64 : Int))) (.need (key.size ≤ 1000000000000) (.need ((0 : Int) ≤ IntKind.i64.wrap ((64 : Int) - (↑(shaOf key).size : Int)) ∧ IntKind.i64.wrap ((64 : Int) - (↑(shaOf key).size : Int)) ≤ (9223372036854775807 : Int) ∧ (ByteArray.mk #[(0 : UInt8)]).size * (IntKind.i64.wrap ((64 : Int) - (↑(shaOf key).size : Int))).toNat ≤ 140737488355328) (.need ((shaOf key).size + (ba (Lib.repeatL (Array.mk [UInt8.ofBitVec (BitVec.ofFin (Fin.mk 0 (Nat.mod_lt 0 (BitVec.ofNat._proof_1 8))))]).toList (IntKind.i64.wrap ((64 : Int) - (↑(shaOf key).size : Int))).toNat)).size ≤ 9223372036854775807) (.need ((shaOf key ++ ba (Lib.repeatL (ByteArray.mk #[(0 : UInt8)]).data.toList (IntKind.i64.wrap ((64 : Int) - (↑(shaOf key).size : Int))).toNat)).size ≤ 9223372036854775807 ∧ (0 : Int) ≤ (54 : Int) ∧ (54 : Int) < (256 : Int)) (.need (0 + (ba (Mac.turn (UInt8.ofBitVec (BitVec.ofFin (Fin.mk 54 (Nat.mod_lt 54 (BitVec.ofNat._proof_1 8))))) (Array.mk ((shaOf key).1.toList ++ (ba (Lib.repeatL (ByteArray.mk #[(0 : UInt8)]).data.toList (IntKind.i64.wrap ((64 : Int) - (↑(shaOf key).size : Int))).toNat)).1.toList)).toList)).size ≤ 9223372036854775807) (.need (p.length = 64) (.need (3 = 3) (.need (St.mk [(0, some (.v (.string (shaOf key ++ ba (Lib.repeatL (Array.mk [UInt8.ofBitVec (BitVec.ofFin (Fin.mk 0 (Nat.mod_lt 0 (BitVec.ofNat._proof_1 8))))]).toList (IntKind.i64.wrap ((64 : Int) - (↑(shaOf key).size : Int))).toNat))))), (5, some (.ptr 1 0)), (25, some (SV.ref 0)), (26, some (.v (.int .i64 (↑n : Int)))), (27, some (.v (.int .i64 0)))] [Blk.row n 1 fun i x => Value.string (g i), .own [.v (.int .u32 (foldA (H8.mk (1779033703 : Int) (3144134277 : Int) (1013904242 : Int) (2773480762 : Int) (1359893119 : Int) (2600822924 : Int) (528734635 : Int) (1541459225 : Int)) (Array.mk ((Array.mk []).toList ++ (ba (Mac.turn (UInt8.ofNat (Int.toNat (54 : Int))) (shaOf key ++ ba (Lib.repeatL (ByteArray.mk #[(0 : UInt8)]).data.toList (IntKind.i64.wrap ((64 : Int) - (↑(shaOf key).size : Int))).toNat)).data.toList)).1.toList)).toList).a), .v (.int .u32 (foldA (H8.mk (1779033703 : Int) (3144134277 : Int) (1013904242 : Int) (2773480762 : Int) (1359893119 : Int) (2600822924 : Int) (528734635 : Int) (1541459225 : Int)) (Array.mk ((Array.mk []).toList ++ (ba (Mac.turn (UInt8.ofNat (Int.toNat (54 : Int))) (shaOf key ++ ba (Lib.repeatL (ByteArray.mk #[(0 : UInt8)]).data.toList (IntKind.i64.wrap ((64 : Int) - (↑(shaOf key).size : Int))).toNat)).data.toList)).1.toList)).toList).b), .v (.int .u32 (foldA (H8.mk (1779033703 : Int) (3144134277 : Int) (1013904242 : Int) (2773480762 : Int) (1359893119 : Int) (2600822924 : Int) (528734635 : Int) (1541459225 : Int)) (Array.mk ((Array.mk []).toList ++ (ba (Mac.turn (UInt8.ofNat (Int.toNat (54 : Int))) (shaOf key ++ ba (Lib.repeatL (ByteArray.mk #[(0 : UInt8)]).data.toList (IntKind.i64.wrap ((64 : Int) - (↑(shaOf key).size : Int))).toNat)).data.toList)).1.toList)).toList).c), .v (.int .u32 (foldA (H8.mk (1779033703 : Int) (3144134277 : Int) (1013904242 : Int) (2773480762 : Int) (1359893119 : Int) (2600822924 : Int) (528734635 : Int) (1541459225 : Int)) (Array.mk ((Array.mk []).toList ++ (ba (Mac.turn (UInt8.ofNat (Int.toNat (54 : Int))) (shaOf key ++ ba (Lib.repeatL (ByteArray.mk #[(0 : UInt8)]).data.toList (IntKind.i64.wrap ((64 : Int) - (↑(shaOf key).size : Int))).toNat)).data.toList)).1.toList)).toList).d), .v (.int .u32 (foldA (H8.mk (1779033703 : Int) (3144134277 : Int) (1013904242 : Int) (2773480762 : Int) (1359893119 : Int) (2600822924 : Int) (528734635 : Int) (1541459225 : Int)) (Array.mk ((Array.mk []).toList ++ (ba (Mac.turn (UInt8.ofNat (Int.toNat (54 : Int))) (shaOf key ++ ba (Lib.repeatL (ByteArray.mk #[(0 : UInt8)]).data.toList (IntKind.i64.wrap ((64 : Int) - (↑(shaOf key).size : Int))).toNat)).data.toList)).1.toList)).toList).e), .v (.int .u32 (foldA (H8.mk (1779033703 : Int) (3144134277 : Int) (1013904242 : Int) (2773480762 : Int) (1359893119 : Int) (2600822924 : Int) (528734635 : Int) (1541459225 : Int)) (Array.mk ((Array.mk []).toList ++ (ba (Mac.turn (UInt8.ofNat (Int.toNat (54 : Int))) (shaOf key ++ ba (Lib.repeatL (ByteArray.mk #[(0 : UInt8)]).data.toList (IntKind.i64.wrap ((64 : Int) - (↑(shaOf key).size : Int))).toNat)).data.toList)).1.toList)).toList).f), .v (.int .u32 (foldA (H8.mk (1779033703 : Int) (3144134277 : Int) (1013904242 : Int) (2773480762 : Int) (1359893119 : Int) (2600822924 : Int) (528734635 : Int) (1541459225 : Int)) (Array.mk ((Array.mk []).toList ++ (ba (Mac.turn (UInt8.ofNat (Int.toNat (54 : Int))) (shaOf key ++ ba (Lib.repeatL (ByteArray.mk #[(0 : UInt8)]).data.toList (IntKind.i64.wrap ((64 : Int) - (↑(shaOf key).size : Int))).toNat)).data.toList)).1.toList)).toList).g), .v (.int .u32 (foldA (H8.mk (1779033703 : Int) (3144134277 : Int) (1013904242 : Int) (2773480762 : Int) (1359893119 : Int) (2600822924 : Int) (528734635 : Int) (1541459225 : Int)) (Array.mk ((Array.mk []).toList ++ (ba (Mac.turn (UInt8.ofNat (Int.toNat (54 : Int))) (shaOf key ++ ba (Lib.repeatL (ByteArray.mk #[(0 : UInt8)]).data.toList (IntKind.i64.wrap ((64 : Int) - (↑(shaOf key).size : Int))).toNat)).data.toList)).1.toList)).toList).h), .v (.string (ba (restA (Array.mk ((Array.mk []).toList ++ (ba (Mac.turn (UInt8.ofNat (Int.toNat (54 : Int))) (shaOf key ++ ba (Lib.repeatL (ByteArray.mk #[(0 : UInt8)]).data.toList (IntKind.i64.wrap ((64 : Int) - (↑(shaOf key).size : Int))).toNat)).data.toList)).1.toList)).toList))), .v (.int .i64 (IntKind.i64.wrap ((0 : Int) + (↑(ba (Mac.turn (UInt8.ofBitVec (BitVec.ofFin (Fin.mk 54 (Nat.mod_lt 54 (BitVec.ofNat._proof_1 8))))) (Array.mk ((shaOf key).1.toList ++ (ba (Lib.repeatL (ByteArray.mk #[(0 : UInt8)]).data.toList (IntKind.i64.wrap ((64 : Int) - (↑(shaOf key).size : Int))).toNat)).1.toList)).toList)).size : Int))))], .own [.v (.int .u8 54)]] = stMI (shaOf key ++ ba (Lib.repeatL (Array.mk [UInt8.ofBitVec (BitVec.ofFin (Fin.mk 0 (Nat.mod_lt 0 (BitVec.ofNat._proof_1 8))))]).toList (IntKind.i64.wrap ((64 : Int) - (↑(shaOf key).size : Int))).toNat)) n g p 0) (.ite (decide ((↑n : Int) < (↑n : Int))) (.need ((0 : Int) ≤ (↑n : Int) ∧ (↑n : Int) < (↑n : Int)) (.need ((↑n : Int).toNat < n) (.need ((ba (restA (p ++ (catR g n).1.toList))).size + (g (↑n : Int).toNat).size ≤ 9223372036854775807) (T.stuck 39)))) (.need ((shaOf key ++ ba (Lib.repeatL (ByteArray.mk #[(0 : UInt8)]).data.toList (IntKind.i64.wrap ((64 : Int) - (↑(shaOf key).size : Int))).toNat)).size ≤ 9223372036854775807 ∧ (0 : Int) ≤ (92 : Int) ∧ (92 : Int) < (256 : Int)) (.need ((ba (restA (p ++ (catR g n).data.toList))).size < 64 ∧ (0 : Int) ≤ (↑p.length : Int) + (↑(catR g n).size : Int) ∧ (↑p.length : Int) + (↑(catR g n).size : Int) ≤ (1099511627776 : Int)) (.need ((ba (Mac.turn (UInt8.ofBitVec (BitVec.ofFin (Fin.mk 92 (Nat.mod_lt 92 (BitVec.ofNat._proof_1 8))))) (Array.mk ((shaOf key).1.toList ++ (ba (Lib.repeatL (ByteArray.mk #[(0 : UInt8)]).data.toList (IntKind.i64.wrap ((64 : Int) - (↑(shaOf key).size : Int))).toNat)).1.toList)).toList)).size + (ba (txt (foldA (foldA (H8.mk (1779033703 : Int) (3144134277 : Int) (1013904242 : Int) (2773480762 : Int) (1359893119 : Int) (2600822924 : Int) (528734635 : Int) (1541459225 : Int)) (p ++ (catR g n).1.toList)) ((ba (restA (p ++ (catR g n).data.toList))).1.toList ++ tail (ba (restA (p ++ (catR g n).1.toList))).size ((↑p.length : Int) + (↑(catR g n).size : Int)).toNat)))).size ≤ 9223372036854775807) (.need ((ba (Mac.turn (UInt8.ofBitVec (BitVec.ofFin (Fin.mk 92 (Nat.mod_lt 92 (BitVec.ofNat._proof_1 8))))) (Array.mk ((shaOf key).1.toList ++ (ba (Lib.repeatL (ByteArray.mk #[(0 : UInt8)]).data.toList (IntKind.i64.wrap ((64 : Int) - (↑(shaOf key).size : Int))).toNat)).1.toList)).toList) ++ ba (txt (foldA (foldA (H8.mk (1779033703 : Int) (3144134277 : Int) (1013904242 : Int) (2773480762 : Int) (1359893119 : Int) (2600822924 : Int) (528734635 : Int) (1541459225 : Int)) (p ++ (catR g n).1.toList)) ((ba (restA (p ++ (catR g n).data.toList))).1.toList ++ tail (ba (restA (p ++ (catR g n).1.toList))).size ((↑p.length : Int) + (↑(catR g n).size : Int)).toNat)))).size ≤ 1000000000000) (.leaf (.v (.string (shaOf (ba (Mac.turn (UInt8.ofBitVec (BitVec.ofFin (Fin.mk 92 (Nat.mod_lt 92 (BitVec.ofNat._proof_1 8))))) (Array.mk ((shaOf key).1.toList ++ (ba (Lib.repeatL (ByteArray.mk #[(0 : UInt8)]).data.toList (IntKind.i64.wrap ((64 : Int) - (↑(shaOf key).size : Int))).toNat)).1.toList)).toList) ++ ba (txt (foldA (foldA (H8.mk (1779033703 : Int) (3144134277 : Int) (1013904242 : Int) (2773480762 : Int) (1359893119 : Int) (2600822924 : Int) (528734635 : Int) (1541459225 : Int)) (p ++ (catR g n).1.toList)) ((ba (restA (p ++ (catR g n).data.toList))).1.toList ++ tail (ba (restA (p ++ (catR g n).1.toList))).size ((↑p.length : Int) + (↑(catR g n).size : Int)).toNat)))))), [Blk.row n 1 fun i x => Value.string (g i)]))))))))))))))) (.need ((0 : Int) ≤ IntKind.i64.wrap ((64 : Int) - (↑key.size : Int)) ∧ IntKind.i64.wrap ((64 : Int) - (↑key.size : Int)) ≤ (9223372036854775807 : Int) ∧ (ByteArray.mk #[(0 : UInt8)]).size * (IntKind.i64.wrap ((64 : Int) - (↑key.size : Int))).toNat ≤ 140737488355328) (.need (key.size + (ba (Lib.repeatL (Array.mk [UInt8.ofBitVec (BitVec.ofFin (Fin.mk 0 (Nat.mod_lt 0 (BitVec.ofNat._proof_1 8))))]).toList (IntKind.i64.wrap ((64 : Int) - (↑key.size : Int))).toNat)).size ≤ 9223372036854775807) (.need ((key ++ ba (Lib.repeatL (ByteArray.mk #[(0 : UInt8)]).data.toList (IntKind.i64.wrap ((64 : Int) - (↑key.size : Int))).toNat)).size ≤ 9223372036854775807 ∧ (0 : Int) ≤ (54 : Int) ∧ (54 : Int) < (256 : Int)) (.need (0 + (ba (Mac.turn (UInt8.ofBitVec (BitVec.ofFin (Fin.mk 54 (Nat.mod_lt 54 (BitVec.ofNat._proof_1 8))))) (Array.mk (key.1.toList ++ (ba (Lib.repeatL (ByteArray.mk #[(0 : UInt8)]).data.toList (IntKind.i64.wrap ((64 : Int) - (↑key.size : Int))).toNat)).1.toList)).toList)).size ≤ 9223372036854775807) (.need (p.length = 64) (.need (3 = 3) (.need (St.mk [(0, some (.v (.string (key ++ ba (Lib.repeatL (Array.mk [UInt8.ofBitVec (BitVec.ofFin (Fin.mk 0 (Nat.mod_lt 0 (BitVec.ofNat._proof_1 8))))]).toList (IntKind.i64.wrap ((64 : Int) - (↑key.size : Int))).toNat))))), (5, some (.ptr 1 0)), (25, some (SV.ref 0)), (26, some (.v (.int .i64 (↑n : Int)))), (27, some (.v (.int .i64 0)))] [Blk.row n 1 fun i x => Value.string (g i), .own [.v (.int .u32 (foldA (H8.mk (1779033703 : Int) (3144134277 : Int) (1013904242 : Int) (2773480762 : Int) (1359893119 : Int) (2600822924 : Int) (528734635 : Int) (1541459225 : Int)) (Array.mk ((Array.mk []).toList ++ (ba (Mac.turn (UInt8.ofNat (Int.toNat (54 : Int))) (key ++ ba (Lib.repeatL (ByteArray.mk #[(0 : UInt8)]).data.toList (IntKind.i64.wrap ((64 : Int) - (↑key.size : Int))).toNat)).data.toList)).1.toList)).toList).a), .v (.int .u32 (foldA (H8.mk (1779033703 : Int) (3144134277 : Int) (1013904242 : Int) (2773480762 : Int) (1359893119 : Int) (2600822924 : Int) (528734635 : Int) (1541459225 : Int)) (Array.mk ((Array.mk []).toList ++ (ba (Mac.turn (UInt8.ofNat (Int.toNat (54 : Int))) (key ++ ba (Lib.repeatL (ByteArray.mk #[(0 : UInt8)]).data.toList (IntKind.i64.wrap ((64 : Int) - (↑key.size : Int))).toNat)).data.toList)).1.toList)).toList).b), .v (.int .u32 (foldA (H8.mk (1779033703 : Int) (3144134277 : Int) (1013904242 : Int) (2773480762 : Int) (1359893119 : Int) (2600822924 : Int) (528734635 : Int) (1541459225 : Int)) (Array.mk ((Array.mk []).toList ++ (ba (Mac.turn (UInt8.ofNat (Int.toNat (54 : Int))) (key ++ ba (Lib.repeatL (ByteArray.mk #[(0 : UInt8)]).data.toList (IntKind.i64.wrap ((64 : Int) - (↑key.size : Int))).toNat)).data.toList)).1.toList)).toList).c), .v (.int .u32 (foldA (H8.mk (1779033703 : Int) (3144134277 : Int) (1013904242 : Int) (2773480762 : Int) (1359893119 : Int) (2600822924 : Int) (528734635 : Int) (1541459225 : Int)) (Array.mk ((Array.mk []).toList ++ (ba (Mac.turn (UInt8.ofNat (Int.toNat (54 : Int))) (key ++ ba (Lib.repeatL (ByteArray.mk #[(0 : UInt8)]).data.toList (IntKind.i64.wrap ((64 : Int) - (↑key.size : Int))).toNat)).data.toList)).1.toList)).toList).d), .v (.int .u32 (foldA (H8.mk (1779033703 : Int) (3144134277 : Int) (1013904242 : Int) (2773480762 : Int) (1359893119 : Int) (2600822924 : Int) (528734635 : Int) (1541459225 : Int)) (Array.mk ((Array.mk []).toList ++ (ba (Mac.turn (UInt8.ofNat (Int.toNat (54 : Int))) (key ++ ba (Lib.repeatL (ByteArray.mk #[(0 : UInt8)]).data.toList (IntKind.i64.wrap ((64 : Int) - (↑key.size : Int))).toNat)).data.toList)).1.toList)).toList).e), .v (.int .u32 (foldA (H8.mk (1779033703 : Int) (3144134277 : Int) (1013904242 : Int) (2773480762 : Int) (1359893119 : Int) (2600822924 : Int) (528734635 : Int) (1541459225 : Int)) (Array.mk ((Array.mk []).toList ++ (ba (Mac.turn (UInt8.ofNat (Int.toNat (54 : Int))) (key ++ ba (Lib.repeatL (ByteArray.mk #[(0 : UInt8)]).data.toList (IntKind.i64.wrap ((64 : Int) - (↑key.size : Int))).toNat)).data.toList)).1.toList)).toList).f), .v (.int .u32 (foldA (H8.mk (1779033703 : Int) (3144134277 : Int) (1013904242 : Int) (2773480762 : Int) (1359893119 : Int) (2600822924 : Int) (528734635 : Int) (1541459225 : Int)) (Array.mk ((Array.mk []).toList ++ (ba (Mac.turn (UInt8.ofNat (Int.toNat (54 : Int))) (key ++ ba (Lib.repeatL (ByteArray.mk #[(0 : UInt8)]).data.toList (IntKind.i64.wrap ((64 : Int) - (↑key.size : Int))).toNat)).data.toList)).1.toList)).toList).g), .v (.int .u32 (foldA (H8.mk (1779033703 : Int) (3144134277 : Int) (1013904242 : Int) (2773480762 : Int) (1359893119 : Int) (2600822924 : Int) (528734635 : Int) (1541459225 : Int)) (Array.mk ((Array.mk []).toList ++ (ba (Mac.turn (UInt8.ofNat (Int.toNat (54 : Int))) (key ++ ba (Lib.repeatL (ByteArray.mk #[(0 : UInt8)]).data.toList (IntKind.i64.wrap ((64 : Int) - (↑key.size : Int))).toNat)).data.toList)).1.toList)).toList).h), .v (.string (ba (restA (Array.mk ((Array.mk []).toList ++ (ba (Mac.turn (UInt8.ofNat (Int.toNat (54 : Int))) (key ++ ba (Lib.repeatL (ByteArray.mk #[(0 : UInt8)]).data.toList (IntKind.i64.wrap ((64 : Int) - (↑key.size : Int))).toNat)).data.toList)).1.toList)).toList))), .v (.int .i64 (IntKind.i64.wrap ((0 : Int) + (↑(ba (Mac.turn (UInt8.ofBitVec (BitVec.ofFin (Fin.mk 54 (Nat.mod_lt 54 (BitVec.ofNat._proof_1 8))))) (Array.mk (key.1.toList ++ (ba (Lib.repeatL (ByteArray.mk #[(0 : UInt8)]).data.toList (IntKind.i64.wrap ((64 : Int) - (↑key.size : Int))).toNat)).1.toList)).toList)).size : Int))))], .own [.v (.int .u8 54)]] = stMI (key ++ ba (Lib.repeatL (Array.mk [UInt8.ofBitVec (BitVec.ofFin (Fin.mk 0 (Nat.mod_lt 0 (BitVec.ofNat._proof_1 8))))]).toList (IntKind.i64.wrap ((64 : Int) - (↑key.size : Int))).toNat)) n g p 0) (.ite (decide ((↑n : Int) < (↑n : Int))) (.need ((0 : Int) ≤ (↑n : Int) ∧ (↑n : Int) < (↑n : Int)) (.need ((↑n : Int).toNat < n) (.need ((ba (restA (p ++ (catR g n).1.toList))).size + (g (↑n : Int).toNat).size ≤ 9223372036854775807) (T.stuck 39)))) (.need ((key ++ ba (Lib.repeatL (ByteArray.mk #[(0 : UInt8)]).data.toList (IntKind.i64.wrap ((64 : Int) - (↑key.size : Int))).toNat)).size ≤ 9223372036854775807 ∧ (0 : Int) ≤ (92 : Int) ∧ (92 : Int) < (256 : Int)) (.need ((ba (restA (p ++ (catR g n).data.toList))).size < 64 ∧ (0 : Int) ≤ (↑p.length : Int) + (↑(catR g n).size : Int) ∧ (↑p.length : Int) + (↑(catR g n).size : Int) ≤ (1099511627776 : Int)) (.need ((ba (Mac.turn (UInt8.ofBitVec (BitVec.ofFin (Fin.mk 92 (Nat.mod_lt 92 (BitVec.ofNat._proof_1 8))))) (Array.mk (key.1.toList ++ (ba (Lib.repeatL (ByteArray.mk #[(0 : UInt8)]).data.toList (IntKind.i64.wrap ((64 : Int) - (↑key.size : Int))).toNat)).1.toList)).toList)).size + (ba (txt (foldA (foldA (H8.mk (1779033703 : Int) (3144134277 : Int) (1013904242 : Int) (2773480762 : Int) (1359893119 : Int) (2600822924 : Int) (528734635 : Int) (1541459225 : Int)) (p ++ (catR g n).1.toList)) ((ba (restA (p ++ (catR g n).data.toList))).1.toList ++ tail (ba (restA (p ++ (catR g n).1.toList))).size ((↑p.length : Int) + (↑(catR g n).size : Int)).toNat)))).size ≤ 9223372036854775807) (.need ((ba (Mac.turn (UInt8.ofBitVec (BitVec.ofFin (Fin.mk 92 (Nat.mod_lt 92 (BitVec.ofNat._proof_1 8))))) (Array.mk (key.1.toList ++ (ba (Lib.repeatL (ByteArray.mk #[(0 : UInt8)]).data.toList (IntKind.i64.wrap ((64 : Int) - (↑key.size : Int))).toNat)).1.toList)).toList) ++ ba (txt (foldA (foldA (H8.mk (1779033703 : Int) (3144134277 : Int) (1013904242 : Int) (2773480762 : Int) (1359893119 : Int) (2600822924 : Int) (528734635 : Int) (1541459225 : Int)) (p ++ (catR g n).1.toList)) ((ba (restA (p ++ (catR g n).data.toList))).1.toList ++ tail (ba (restA (p ++ (catR g n).1.toList))).size ((↑p.length : Int) + (↑(catR g n).size : Int)).toNat)))).size ≤ 1000000000000) (.leaf (.v (.string (shaOf (ba (Mac.turn (UInt8.ofBitVec (BitVec.ofFin (Fin.mk 92 (Nat.mod_lt 92 (BitVec.ofNat._proof_1 8))))) (Array.mk (key.1.toList ++ (ba (Lib.repeatL (ByteArray.mk #[(0 : UInt8)]).data.toList (IntKind.i64.wrap ((64 : Int) - (↑key.size : Int))).toNat)).1.toList)).toList) ++ ba (txt (foldA (foldA (H8.mk (1779033703 : Int) (3144134277 : Int) (1013904242 : Int) (2773480762 : Int) (1359893119 : Int) (2600822924 : Int) (528734635 : Int) (1541459225 : Int)) (p ++ (catR g n).1.toList)) ((ba (restA (p ++ (catR g n).data.toList))).1.toList ++ tail (ba (restA (p ++ (catR g n).1.toList))).size ((↑p.length : Int) + (↑(catR g n).size : Int)).toNat)))))), [Blk.row n 1 fun i x => Value.string (g i)])))))))))))))) := by kernel_rfl
def strsF (f : Nat → Nat → Value) (i : Nat) : ByteArray := strV (f i 0)
def fMac : List SV → List Blk → Option (T (SV × List Blk))
  | [.v (.string key), .ref 0], [.row n 1 f] => some (.need (n ≤ maxLen ∧ key.size ≤ 1000000000000 ∧ (catR (strsF f) n).size ≤ 100000000000 ∧ ∀ i, i < n → f i 0 = .string (strsF f i)) (.leaf (.v (.string (macOf key (catR (strsF f) n))), [.row n 1 fun i _ => .string (strsF f i)])))
  | _, _ => none
theorem sum_at (p : List UInt8) (c : ByteArray) : ba (txt (foldA (foldA H0 (p ++ c.data.toList)) (restA (p ++ c.data.toList) ++ tail (ba (restA (p ++ c.data.toList))).size ((p.length : Int) + (c.size : Int)).toNat))) = shaOf (ba p ++ c) := by
  rw [ba_len, show ((p.length : Int) + (c.size : Int)).toNat = (p ++ c.data.toList).length by rw [List.length_append, show c.data.toList.length = c.size by simp]; omega, sum_pieces]
  unfold shaOf
  rw [ba_app]
  rfl
set_option maxRecDepth 100000 in
theorem fMac_ok : EntryOk Tryz.prog 98 fMac := by
  intro ss H t ht bs B w vs hm hv0 Qs hq
  unfold fMac at ht
  split at ht
  · rename_i key n f
    simp only [Option.some.injEq] at ht
    subst ht
    obtain ⟨⟨q1, q2, q3, q4⟩, hq⟩ := hq
    have hm := mem_row_congr hm (k := 0) (g := fun i _ => .string (strsF f i)) rfl (fun i j hi hj => by obtain rfl : j = 0 := (by omega); exact q4 i hi)
    generalize strsF f = g at hq hm q3
    have hm : Mem w bs [.row n 1 fun i _ => .string (g i)] B w := hm
    have s0 := keyB_size key
    generalize hp : Mac.turn 54 (padK (keyB key)).data.toList = p
    have hK := padK_key key
    have hpl : p.length = 64 := by rw [← hp, turn_length, show (padK (keyB key)).data.toList.length = (padK (keyB key)).size by simp, padK_size _ s0]
    have hsum := sum_at p (catR g n)
    have hv := mac_val key (catR g n) hK
    rw [hp] at hv
    have hrl := restA_length (p ++ (catR g n).data.toList)
    refine trimT_ok (CN_ok SMac2_ok) follows Tryz.func98 (by kernel_rfl) (by kernel_rfl) (one_loop (b := loopAt Tryz.f98 0) (id := 0) (by kernel_rfl) fun st t h => ?_) (macOf_run key n g p) hm hv0 ?_
    · rw [addL_same h]
      exact .str fun key => .need fun h1 => loop_cnt (CN_ok SMac2_ok) follows (by kernel_rfl) (noloops (by kernel_rfl)) (fun i : Nat => i ≤ n) (fun i => stMI key n g p i) (fun i => n - i) 3 [0, 5, 25, 26, 27] [] [] n [] (stMI_step key n g p q1 (by omega) q3) (Nat.zero_le _)
    clear hm hv0
    by_cases hb : 64 < key.size
    · have e : keyB key = shaOf key := by unfold keyB; rw [if_pos hb]
      rw [e] at hp hK hv
      have s1 : (shaOf key).size ≤ 64 := by rw [shaOf_size]; omega
      have hw : IntKind.i64.wrap (64 - ((shaOf key).size : Int)) = 64 - ((shaOf key).size : Int) := w64 _ (by omega) (by omega)
      have hr : Lib.repeatL [(0 : UInt8)] (IntKind.i64.wrap (64 - ((shaOf key).size : Int))).toNat = List.replicate (64 - (shaOf key).size) 0 := by rw [hw, repeatL_one, show (64 - ((shaOf key).size : Int)).toNat = 64 - (shaOf key).size by omega]
      have hKe : (shaOf key) ++ ba (Lib.repeatL [(0 : UInt8)] (IntKind.i64.wrap (64 - ((shaOf key).size : Int))).toNat) = padK (shaOf key) := by rw [hr]; rfl
      have hKz := padK_size (shaOf key) s1
      have hKl : (padK (shaOf key)).data.toList.length = 64 := by rw [show (padK (shaOf key)).data.toList.length = (padK (shaOf key)).size by simp, hKz]
      have m1 : (shaOf key).size + (ba (Lib.repeatL [(0 : UInt8)] (IntKind.i64.wrap (64 - ((shaOf key).size : Int))).toNat)).size ≤ 9223372036854775807 := by rw [hr, ba_len, List.length_replicate]; omega
      have m2 : ((shaOf key) ++ ba (Lib.repeatL [(0 : UInt8)] (IntKind.i64.wrap (64 - ((shaOf key).size : Int))).toNat)).size ≤ 9223372036854775807 := by rw [hKe, hKz]; omega
      have m3 : 0 + (ba (Mac.turn 54 ((shaOf key) ++ ba (Lib.repeatL [(0 : UInt8)] (IntKind.i64.wrap (64 - ((shaOf key).size : Int))).toNat)).data.toList)).size ≤ 9223372036854775807 := by rw [hKe, ba_len, turn_length, hKl]; omega
      have m4 : stM ((shaOf key) ++ ba (Lib.repeatL [(0 : UInt8)] (IntKind.i64.wrap (64 - ((shaOf key).size : Int))).toNat)) n g (foldA H0 ([] ++ Mac.turn 54 ((shaOf key) ++ ba (Lib.repeatL [(0 : UInt8)] (IntKind.i64.wrap (64 - ((shaOf key).size : Int))).toNat)).data.toList)) (ba (restA ([] ++ Mac.turn 54 ((shaOf key) ++ ba (Lib.repeatL [(0 : UInt8)] (IntKind.i64.wrap (64 - ((shaOf key).size : Int))).toNat)).data.toList))) (IntKind.i64.wrap (0 + ((ba (Mac.turn 54 ((shaOf key) ++ ba (Lib.repeatL [(0 : UInt8)] (IntKind.i64.wrap (64 - ((shaOf key).size : Int))).toNat)).data.toList)).size : Int))) 0 = stMI ((shaOf key) ++ ba (Lib.repeatL [(0 : UInt8)] (IntKind.i64.wrap (64 - ((shaOf key).size : Int))).toNat)) n g p 0 := by
        rw [hKe, ba_len, hp, hpl]
        unfold stMI
        rw [show (catR g 0).data.toList = [] from rfl, show (catR g 0).size = 0 from rfl, List.append_nil, List.nil_append, hpl]
        rfl
      have m5 : (ba (Mac.turn 92 ((shaOf key) ++ ba (Lib.repeatL [(0 : UInt8)] (IntKind.i64.wrap (64 - ((shaOf key).size : Int))).toNat)).data.toList)).size = 64 := by rw [hKe, ba_len, turn_length, hKl]
      have m6 : shaOf (ba (Mac.turn 92 ((shaOf key) ++ ba (Lib.repeatL [(0 : UInt8)] (IntKind.i64.wrap (64 - ((shaOf key).size : Int))).toNat)).data.toList) ++ ba (txt (foldA (foldA H0 (p ++ (catR g n).data.toList)) (restA (p ++ (catR g n).data.toList) ++ tail (ba (restA (p ++ (catR g n).data.toList))).size ((p.length : Int) + ((catR g n).size : Int)).toNat)))) = macOf key (catR g n) := by rw [hKe, hsum]; exact hv
      refine ⟨fun _ => ⟨q2, ⟨by omega, by omega, ?_⟩, m1, ⟨m2, by omega, by omega⟩, m3, hpl, rfl, m4, (fun h => ?_), fun _ => ⟨⟨m2, by omega, by omega⟩, ⟨?_, by omega, by omega⟩, ?_, ?_, ?_⟩⟩, fun h => ?_⟩
      · show 1 * _ ≤ _
        rw [hw]; omega
      · have h := of_decide_eq_true h; omega
      · rw [ba_len, hrl]; omega
      · refine Nat.le_trans (Nat.add_le_add (Nat.le_of_eq m5) (Nat.le_of_eq ?_)) (m := 64 + 32) (by omega)
        rw [ba_len, txt_length]
      · rw [ByteArray.size_append]
        refine Nat.le_trans (Nat.add_le_add (Nat.le_of_eq m5) (Nat.le_of_eq ?_)) (m := 64 + 32) (by omega)
        rw [ba_len, txt_length]
      · rw [← m6] at hq
        exact hq
      · have h := of_decide_eq_false h; omega
    · have e : keyB key = key := by unfold keyB; rw [if_neg hb]
      rw [e] at hp hK hv
      have s1 : key.size ≤ 64 := by omega
      have hw : IntKind.i64.wrap (64 - ((key).size : Int)) = 64 - ((key).size : Int) := w64 _ (by omega) (by omega)
      have hr : Lib.repeatL [(0 : UInt8)] (IntKind.i64.wrap (64 - ((key).size : Int))).toNat = List.replicate (64 - (key).size) 0 := by rw [hw, repeatL_one, show (64 - ((key).size : Int)).toNat = 64 - (key).size by omega]
      have hKe : (key) ++ ba (Lib.repeatL [(0 : UInt8)] (IntKind.i64.wrap (64 - ((key).size : Int))).toNat) = padK (key) := by rw [hr]; rfl
      have hKz := padK_size (key) s1
      have hKl : (padK (key)).data.toList.length = 64 := by rw [show (padK (key)).data.toList.length = (padK (key)).size by simp, hKz]
      have m1 : (key).size + (ba (Lib.repeatL [(0 : UInt8)] (IntKind.i64.wrap (64 - ((key).size : Int))).toNat)).size ≤ 9223372036854775807 := by rw [hr, ba_len, List.length_replicate]; omega
      have m2 : ((key) ++ ba (Lib.repeatL [(0 : UInt8)] (IntKind.i64.wrap (64 - ((key).size : Int))).toNat)).size ≤ 9223372036854775807 := by rw [hKe, hKz]; omega
      have m3 : 0 + (ba (Mac.turn 54 ((key) ++ ba (Lib.repeatL [(0 : UInt8)] (IntKind.i64.wrap (64 - ((key).size : Int))).toNat)).data.toList)).size ≤ 9223372036854775807 := by rw [hKe, ba_len, turn_length, hKl]; omega
      have m4 : stM ((key) ++ ba (Lib.repeatL [(0 : UInt8)] (IntKind.i64.wrap (64 - ((key).size : Int))).toNat)) n g (foldA H0 ([] ++ Mac.turn 54 ((key) ++ ba (Lib.repeatL [(0 : UInt8)] (IntKind.i64.wrap (64 - ((key).size : Int))).toNat)).data.toList)) (ba (restA ([] ++ Mac.turn 54 ((key) ++ ba (Lib.repeatL [(0 : UInt8)] (IntKind.i64.wrap (64 - ((key).size : Int))).toNat)).data.toList))) (IntKind.i64.wrap (0 + ((ba (Mac.turn 54 ((key) ++ ba (Lib.repeatL [(0 : UInt8)] (IntKind.i64.wrap (64 - ((key).size : Int))).toNat)).data.toList)).size : Int))) 0 = stMI ((key) ++ ba (Lib.repeatL [(0 : UInt8)] (IntKind.i64.wrap (64 - ((key).size : Int))).toNat)) n g p 0 := by
        rw [hKe, ba_len, hp, hpl]
        unfold stMI
        rw [show (catR g 0).data.toList = [] from rfl, show (catR g 0).size = 0 from rfl, List.append_nil, List.nil_append, hpl]
        rfl
      have m5 : (ba (Mac.turn 92 ((key) ++ ba (Lib.repeatL [(0 : UInt8)] (IntKind.i64.wrap (64 - ((key).size : Int))).toNat)).data.toList)).size = 64 := by rw [hKe, ba_len, turn_length, hKl]
      have m6 : shaOf (ba (Mac.turn 92 ((key) ++ ba (Lib.repeatL [(0 : UInt8)] (IntKind.i64.wrap (64 - ((key).size : Int))).toNat)).data.toList) ++ ba (txt (foldA (foldA H0 (p ++ (catR g n).data.toList)) (restA (p ++ (catR g n).data.toList) ++ tail (ba (restA (p ++ (catR g n).data.toList))).size ((p.length : Int) + ((catR g n).size : Int)).toNat)))) = macOf key (catR g n) := by rw [hKe, hsum]; exact hv
      refine ⟨fun h => ?_, fun _ => ⟨⟨by omega, by omega, ?_⟩, m1, ⟨m2, by omega, by omega⟩, m3, hpl, rfl, m4, (fun h => ?_), fun _ => ⟨⟨m2, by omega, by omega⟩, ⟨?_, by omega, by omega⟩, ?_, ?_, ?_⟩⟩⟩
      · have h := of_decide_eq_true h; omega
      · show 1 * _ ≤ _
        rw [hw]; omega
      · have h := of_decide_eq_true h; omega
      · rw [ba_len, hrl]; omega
      · refine Nat.le_trans (Nat.add_le_add (Nat.le_of_eq m5) (Nat.le_of_eq ?_)) (m := 64 + 32) (by omega)
        rw [ba_len, txt_length]
      · rw [ByteArray.size_append]
        refine Nat.le_trans (Nat.add_le_add (Nat.le_of_eq m5) (Nat.le_of_eq ?_)) (m := 64 + 32) (by omega)
        rw [ba_len, txt_length]
      · rw [← m6] at hq
        exact hq
  · cases ht
end Go.Proofs.YthacfgaacleaeaaGreatDoor
namespace Go.Proofs.YthacfgaacleaeaaGreatDoor
open Go.RowKit Sym Sha Go.ChangeShapes Go.WideShapes Go.ChangeMaps
def strsL : List Value → Option (List ByteArray)
  | [] => some []
  | .string s :: l => (match strsL l with | some m => some (s :: m) | none => none)
  | _ => none
theorem strsL_eq : ∀ {xs : List Value} {l : List ByteArray}, strsL xs = some l → xs = l.map .string
  | [], l, h => by simp only [strsL, Option.some.injEq] at h; subst h; rfl
  | x :: xs, l, h => by
    cases x with
    | string s =>
      simp only [strsL] at h
      split at h
      · rename_i m hm
        simp only [Option.some.injEq] at h
        subst h
        rw [strsL_eq hm]; rfl
      · cases h
    | _ => simp [strsL] at h
def catA : List ByteArray → ByteArray
  | [] => ⟨⟨[]⟩⟩
  | s :: l => s ++ catA l
def catL : List ByteArray → ByteArray
  | [] => ⟨⟨[]⟩⟩
  | [s] => s
  | s :: l => s ++ catL l
theorem catL_eq : ∀ l, catL l = catA l
  | [] => rfl
  | [s] => (app_nil s).symm
  | s :: t :: l => by
    show s ++ catL (t :: l) = s ++ catA (t :: l)
    rw [catL_eq (t :: l)]
theorem catA_snoc : ∀ (l : List ByteArray) (s : ByteArray), catA (l ++ [s]) = catA l ++ s
  | [], s => (app_nil s).trans (nil_app s).symm
  | t :: l, s => by
    show t ++ catA (l ++ [s]) = t ++ catA l ++ s
    rw [catA_snoc l s, ByteArray.append_assoc]
theorem catR_list (l : List ByteArray) (g : Nat → ByteArray) : ∀ n, n ≤ l.length → (∀ i (h : i < l.length), g i = l[i]) → catR g n = catA (l.take n)
  | 0, _, _ => rfl
  | n + 1, h, e => by
    show catR g n ++ g n = _
    rw [catR_list l g n (by omega) e, List.take_succ_eq_append_getElem (by omega), catA_snoc, e n (by omega)]
def fMacV : List SV → List Blk → Option (T (SV × List Blk))
  | [.v (.string key), .ref 0], [.vec o e 1 n xs] => (match strsL xs with
    | some l => bif Nat.beq l.length n then some (.need (n ≤ maxLen ∧ key.size ≤ 1000000000000 ∧ (catL l).size ≤ 100000000000) (.leaf (.v (.string (macOf key (catL l))), [.vec o e 1 n xs]))) else none
    | none => none)
  | ss, H => fMac ss H
theorem fMacV_ok : EntryOk Tryz.prog 98 fMacV := by
  intro ss H t ht bs B w vs hm hv Qs hq
  unfold fMacV at ht
  split at ht
  · rename_i key o e n xs
    split at ht
    · rename_i l hl
      cases hb : Nat.beq l.length n
      · rw [hb] at ht; cases ht
      · rw [hb, cond_true, Option.some.injEq] at ht
        have hn := Nat.eq_of_beq_eq_true hb
        subst ht
        obtain ⟨⟨q1, q2, q3⟩, hq⟩ := hq
        have hx := strsL_eq hl
        have hf : ∀ i (h : i < l.length), strsF (fun i j => cellAt xs (i * 1 + j)) i = l[i] ∧ cellAt xs (i * 1 + 0) = .string l[i] := by
          intro i h
          have : cellAt xs (i * 1 + 0) = .string l[i] := by
            rw [hx]; unfold cellAt; simp [List.getD_eq_getElem?_getD, h]
          refine ⟨?_, this⟩
          show strV (cellAt xs (i * 1 + 0)) = _
          rw [this]; rfl
        have hc : catR (strsF fun i j => cellAt xs (i * 1 + j)) n = catL l := by
          rw [catR_list l _ n (by omega) (fun i h => (hf i h).1), catL_eq, List.take_of_length_le (by omega)]
        have hF : LOk Tryz.prog (addF 98 fMac noF) := addF_ok noF_ok (by kernel_rfl) fMac_ok
        have key2 : liftG (addF 98 fMac noF) 98 [.v (.string key), .ref 0] (fun k => [Blk.vec o e 1 n xs][k]?) 1 = some (.need (n ≤ maxLen ∧ key.size ≤ 1000000000000 ∧ (catR (strsF fun i j => cellAt xs (i * 1 + j)) n).size ≤ 100000000000 ∧ ∀ i, i < n → (fun i j => cellAt xs (i * 1 + j)) i 0 = .string (strsF (fun i j => cellAt xs (i * 1 + j)) i)) (.leaf (.v (.string (macOf key (catR (strsF fun i j => cellAt xs (i * 1 + j)) n))), ⟨[], []⟩))) := by kernel_rfl
        refine ((liftG_ok hF _ _ _ _ _ key2).2 w bs _ B w vs hm (fun k x h => h) rfl hv (fun r => Qs (r.1, [.vec o e 1 n xs]) ∧ r.2 = ⟨[], []⟩) ?_).mono ?_
        · refine ⟨⟨q1, q2, by rw [hc]; exact q3, fun i hi => ?_⟩, ?_, rfl⟩
          · obtain ⟨h1, h2⟩ := hf i (by omega)
            rw [h1]; exact h2
          · rw [hc]; exact hq
        · rintro e' w' ⟨s, ef, B', x, ⟨h1, rfl⟩, h2, h3, h4, h5⟩
          exact ⟨s, _, B', x, h1, h2, h3, h4, h5⟩
    · cases ht
  · exact fMac_ok _ _ t ht bs B w vs hm hv Qs hq
end Go.Proofs.YthacfgaacleaeaaGreatDoor
namespace Go.Proofs.YthacfgaacleaeaaGreatDoor
open Go.RowKit Sym Sha Go.ChangeShapes Go.WideShapes Go.ChangeMaps
def FMac : LTab := addF 98 fMacV noF
theorem FMac_ok : LOk Tryz.prog FMac := addF_ok noF_ok (by kernel_rfl) fMacV_ok
abbrev CL (P : Program) (S : Tab) : Cfg := both P S FMac [98]
theorem CL_ok {S : Tab} (h : TabOk Tryz.prog S) : CfgOk Tryz.prog (CL Tryz.prog S) := both_ok h FMac_ok
def SMac3  : Tab := SMac2
theorem SMac3_ok : TabOk Tryz.prog (SMac3) := SMac2_ok
set_option maxRecDepth 100000 in
theorem put26_run (s : ByteArray) (n k : Int) : runV Tryz.prog (onlyS Tryz.prog SMac3) noL Tryz.f70 [.string s, .int .i64 n, .int .i64 k] = .need ((0 : Int) ≤ IntKind.u64.wrap n ∧ IntKind.u64.wrap n < (18446744073709551616 : Int) ∧ (0 : Int) ≤ k ∧ k ≤ (8 : Int) ∧ s.size ≤ 1099511627776) (.leaf (Value.string (Oct.put s (IntKind.u64.wrap n) k))) := by kernel_rfl
theorem put26 (s : ByteArray) (n k : Int) (h : 0 ≤ k ∧ k ≤ 8 ∧ s.size ≤ 1099511627776) (w : World) : Calls Tryz.prog 70 #[.string s, .int .i64 n, .int .i64 k] w fun e w' => e = .returned (.string (Oct.put s n k)) ∧ Below w.heap.size w w' := by
  refine calls_runV (onlyS_ok SMac3_ok) follows Tryz.func70 (by kernel_rfl) (by kernel_rfl) noL_ok (put26_run s n k) ?_ w
  have hu := u64_range n
  rw [put_u64]
  exact ⟨⟨hu.1, hu.2, h.1, h.2.1, h.2.2⟩, rfl⟩
def SKey1  : Tab := addS 70 tOctPut <| SMac3
theorem SKey1_ok : TabOk Tryz.prog (SKey1) := by
  refine addS_ok (SMac3_ok) (by kernel_rfl) ?_
  · (intro xs p v h hp w; unfold tOctPut at h; (split at h) <;> first | (cases h; done) | (simp only [Option.some.injEq, Prod.mk.injEq] at h; obtain ⟨rfl, rfl⟩ := h; exact put26 _ _ _ (hp _ (List.mem_cons_self ..)) w))
set_option maxRecDepth 100000 in
theorem dataText_run (side num trip : Int) (data : ByteArray) : runV Tryz.prog (onlyS Tryz.prog SKey1) noL Tryz.f31 [.int .i64 side, .int .i64 num, .int .i64 trip, .string data] = .need ((0 : Int) ≤ (1 : Int) ∧ (1 : Int) ≤ (8 : Int) ∧ (ByteArray.mk #[(1 : UInt8)]).size ≤ 1099511627776) (.need ((0 : Int) ≤ (6 : Int) ∧ (6 : Int) ≤ (8 : Int) ∧ (Oct.put (ByteArray.mk #[(1 : UInt8)]) side (1 : Int)).size ≤ 1099511627776) (.need ((0 : Int) ≤ (2 : Int) ∧ (2 : Int) ≤ (8 : Int) ∧ (Oct.put (Oct.put (ByteArray.mk #[(1 : UInt8)]) side (1 : Int)) num (6 : Int)).size ≤ 1099511627776) (.need ((Oct.put (Oct.put (Oct.put (ByteArray.mk (Array.mk [UInt8.ofBitVec (BitVec.ofFin (Fin.mk 1 (Nat.mod_lt 1 (BitVec.ofNat._proof_1 8))))])) side (1 : Int)) num (6 : Int)) trip (2 : Int)).size + data.size ≤ 9223372036854775807) (.leaf (Value.string (Oct.put (Oct.put (Oct.put (ByteArray.mk (Array.mk [UInt8.ofBitVec (BitVec.ofFin (Fin.mk 1 (Nat.mod_lt 1 (BitVec.ofNat._proof_1 8))))])) side (1 : Int)) num (6 : Int)) trip (2 : Int) ++ data)))))) := by kernel_rfl
set_option maxRecDepth 100000 in
theorem ctlText_run (side num kind addr prio : Int) : runV Tryz.prog (onlyS Tryz.prog SKey1) noL Tryz.f37 [.int .i64 side, .agg #[.int .i64 num, .int .i64 kind, .int .i64 addr, .int .i64 prio]] = .need ((0 : Int) ≤ (1 : Int) ∧ (1 : Int) ≤ (8 : Int) ∧ (ByteArray.mk #[(2 : UInt8)]).size ≤ 1099511627776) (.need ((0 : Int) ≤ (4 : Int) ∧ (4 : Int) ≤ (8 : Int) ∧ (Oct.put (ByteArray.mk #[(2 : UInt8)]) side (1 : Int)).size ≤ 1099511627776) (.need ((0 : Int) ≤ (1 : Int) ∧ (1 : Int) ≤ (8 : Int) ∧ (Oct.put (Oct.put (ByteArray.mk #[(2 : UInt8)]) side (1 : Int)) num (4 : Int)).size ≤ 1099511627776) (.need ((0 : Int) ≤ (1 : Int) ∧ (1 : Int) ≤ (8 : Int) ∧ (Oct.put (Oct.put (Oct.put (ByteArray.mk #[(2 : UInt8)]) side (1 : Int)) num (4 : Int)) kind (1 : Int)).size ≤ 1099511627776) (.need ((0 : Int) ≤ (1 : Int) ∧ (1 : Int) ≤ (8 : Int) ∧ (Oct.put (Oct.put (Oct.put (Oct.put (ByteArray.mk #[(2 : UInt8)]) side (1 : Int)) num (4 : Int)) kind (1 : Int)) addr (1 : Int)).size ≤ 1099511627776) (.leaf (Value.string (Oct.put (Oct.put (Oct.put (Oct.put (Oct.put (ByteArray.mk (Array.mk [UInt8.ofBitVec (BitVec.ofFin (Fin.mk 2 (Nat.mod_lt 2 (BitVec.ofNat._proof_1 8))))])) side (1 : Int)) num (4 : Int)) kind (1 : Int)) addr (1 : Int)) prio (1 : Int)))))))) := by kernel_rfl
set_option maxRecDepth 100000 in
theorem cfmText_run (side num : Int) : runV Tryz.prog (onlyS Tryz.prog SKey1) noL Tryz.f39 [.int .i64 side, .int .i64 num] = .need ((0 : Int) ≤ (1 : Int) ∧ (1 : Int) ≤ (8 : Int) ∧ (ByteArray.mk #[(3 : UInt8)]).size ≤ 1099511627776) (.need ((0 : Int) ≤ (4 : Int) ∧ (4 : Int) ≤ (8 : Int) ∧ (Oct.put (ByteArray.mk #[(3 : UInt8)]) side (1 : Int)).size ≤ 1099511627776) (.leaf (Value.string (Oct.put (Oct.put (ByteArray.mk (Array.mk [UInt8.ofBitVec (BitVec.ofFin (Fin.mk 3 (Nat.mod_lt 3 (BitVec.ofNat._proof_1 8))))])) side (1 : Int)) num (4 : Int))))) := by kernel_rfl
set_option maxRecDepth 100000 in
theorem joinText_run (side f t a b : Int) : runV Tryz.prog (onlyS Tryz.prog SKey1) noL Tryz.f50 [.int .i64 side, .agg #[.int .i64 f, .int .i64 t], .int .i64 a, .int .i64 b] = .need ((0 : Int) ≤ (1 : Int) ∧ (1 : Int) ≤ (8 : Int) ∧ (ByteArray.mk #[(4 : UInt8)]).size ≤ 1099511627776) (.need ((0 : Int) ≤ (4 : Int) ∧ (4 : Int) ≤ (8 : Int) ∧ (Oct.put (ByteArray.mk #[(4 : UInt8)]) side (1 : Int)).size ≤ 1099511627776) (.need ((0 : Int) ≤ (4 : Int) ∧ (4 : Int) ≤ (8 : Int) ∧ (Oct.put (Oct.put (ByteArray.mk #[(4 : UInt8)]) side (1 : Int)) f (4 : Int)).size ≤ 1099511627776) (.need ((0 : Int) ≤ (4 : Int) ∧ (4 : Int) ≤ (8 : Int) ∧ (Oct.put (Oct.put (Oct.put (ByteArray.mk #[(4 : UInt8)]) side (1 : Int)) f (4 : Int)) t (4 : Int)).size ≤ 1099511627776) (.need ((0 : Int) ≤ (4 : Int) ∧ (4 : Int) ≤ (8 : Int) ∧ (Oct.put (Oct.put (Oct.put (Oct.put (ByteArray.mk #[(4 : UInt8)]) side (1 : Int)) f (4 : Int)) t (4 : Int)) a (4 : Int)).size ≤ 1099511627776) (.leaf (Value.string (Oct.put (Oct.put (Oct.put (Oct.put (Oct.put (ByteArray.mk (Array.mk [UInt8.ofBitVec (BitVec.ofFin (Fin.mk 4 (Nat.mod_lt 4 (BitVec.ofNat._proof_1 8))))])) side (1 : Int)) f (4 : Int)) t (4 : Int)) a (4 : Int)) b (4 : Int)))))))) := by kernel_rfl
set_option maxRecDepth 100000 in
theorem tag26_run (a b x : ByteArray) : runV Tryz.prog (onlyS Tryz.prog SKey1) noL Tryz.f30 [.string a, .string b, .string x] = .ite (decide (a = ByteArray.mk (Array.mk []))) (.leaf (Value.string (ByteArray.mk (Array.mk [])))) (.need (a.size + b.size ≤ 9223372036854775807) (.need ((a ++ b).size ≤ 1000000000000 ∧ x.size ≤ 100000000000) (.leaf (Value.string (macOf (a ++ b) x))))) := by kernel_rfl
def LTag (P : Program) (C : Cfg) (fn : Func) : Nat → St → Option (T (Ex × St)) := addL 0 (unrollB (runC P C noL fn.ntmps (loopAt fn 0)) 0 6) noL
def SKey2 (P : Program) (fKnown : Func) : Tab := addI 35 P (onlyS P noS) noL fKnown SKey1
theorem SKey2_ok : TabOk Tryz.prog (SKey2 Tryz.prog Tryz.f35) := addI_ok SKey1_ok (onlyS_ok noS_ok) follows Tryz.func35 (by kernel_rfl) (by kernel_rfl) (by kernel_rfl) (noloops (by kernel_rfl))
def FKey (P : Program) (fKnown fTag : Func) : LTab := addT 51 (trimE (inl P (CL P (SKey2 P fKnown)) (LTag P (CL P (SKey2 P fKnown)) fTag) fTag)) FMac
theorem FKey_ok : LOk Tryz.prog (FKey Tryz.prog Tryz.f35 Tryz.f51) :=
  addT_ok FMac_ok (by kernel_rfl) (trimE_ok (inl_ok (CL_ok SKey2_ok) follows Tryz.func51 (by kernel_rfl) (by kernel_rfl) (one_loop (b := loopAt Tryz.f51 0) (id := 0) (by kernel_rfl) fun st t h => by
    rw [addL_same h]; exact unroll_ok (CL_ok SKey2_ok) follows (by kernel_rfl) (noloops (by kernel_rfl)) 6 st)))
abbrev CK (P : Program) (S : Tab) (fKnown fTag : Func) : Cfg := both P S (FKey P fKnown fTag) [98, 51]
theorem CK_ok {S : Tab} (h : TabOk Tryz.prog S) : CfgOk Tryz.prog (CK Tryz.prog S Tryz.f35 Tryz.f51) := both_ok h FKey_ok
set_option maxRecDepth 100000 in
theorem data_run (a b : ByteArray) (side num trip : Int) (data : ByteArray) : runV Tryz.prog (CK Tryz.prog (SKey2 Tryz.prog Tryz.f35) Tryz.f35 Tryz.f51) noL Tryz.f24 [.agg #[.string a, .string b], .int .i64 side, .int .i64 num, .int .i64 trip, .string data] = .need ((0 : Int) ≤ (6 : Int) ∧ (6 : Int) ≤ (8 : Int) ∧ (ByteArray.mk #[]).size ≤ 1099511627776) (.need ((0 : Int) ≤ (2 : Int) ∧ (2 : Int) ≤ (8 : Int) ∧ (ByteArray.mk #[]).size ≤ 1099511627776) (.ite (!!(decide (a = ByteArray.mk (Array.mk [])) && (decide (b = ByteArray.mk (Array.mk [])) && true))) (.leaf (Value.string (ByteArray.mk (Array.mk [])))) (.need ((0 : Int) ≤ (1 : Int) ∧ (1 : Int) ≤ (8 : Int) ∧ (ByteArray.mk #[]).size ≤ 1099511627776) (.need ((0 : Int) ≤ (1 : Int) ∧ (1 : Int) ≤ (8 : Int) ∧ (Oct.put (ByteArray.mk #[]) (1 : Int) (1 : Int)).size ≤ 1099511627776) (.ite true (.need ((0 : Int) ≤ (0 : Int) ∧ (0 : Int) < (↑3 : Int)) (.need (0 < 3) (.need ((Oct.put (ByteArray.mk (Array.mk ((Array.mk []).toList ++ Oct.be 1 1))) side (1 : Int)).size + (Oct.put (ByteArray.mk (Array.mk [])) num (6 : Int)).size ≤ 9223372036854775807) (.ite true (.need ((0 : Int) ≤ IntKind.i64.wrap ((0 : Int) + (1 : Int)) ∧ IntKind.i64.wrap ((0 : Int) + (1 : Int)) < (↑3 : Int)) (.need (1 < 3) (.need ((Oct.put (ByteArray.mk (Array.mk ((Array.mk []).toList ++ Oct.be 1 1))) side (1 : Int) ++ Oct.put (ByteArray.mk (Array.mk [])) num (6 : Int)).size + (Oct.put (ByteArray.mk (Array.mk [])) trip (2 : Int)).size ≤ 9223372036854775807) (.ite true (.need ((0 : Int) ≤ IntKind.i64.wrap (IntKind.i64.wrap ((0 : Int) + (1 : Int)) + (1 : Int)) ∧ IntKind.i64.wrap (IntKind.i64.wrap ((0 : Int) + (1 : Int)) + (1 : Int)) < (↑3 : Int)) (.need (2 < 3) (.need ((Oct.put (ByteArray.mk (Array.mk ((Array.mk []).toList ++ Oct.be 1 1))) side (1 : Int) ++ Oct.put (ByteArray.mk (Array.mk [])) num (6 : Int) ++ Oct.put (ByteArray.mk (Array.mk [])) trip (2 : Int)).size + data.size ≤ 9223372036854775807) (.ite false (.need ((0 : Int) ≤ IntKind.i64.wrap (IntKind.i64.wrap (IntKind.i64.wrap ((0 : Int) + (1 : Int)) + (1 : Int)) + (1 : Int)) ∧ IntKind.i64.wrap (IntKind.i64.wrap (IntKind.i64.wrap ((0 : Int) + (1 : Int)) + (1 : Int)) + (1 : Int)) < (↑3 : Int)) (.need (3 < 3) (T.stuck 61))) (.need (a.size + b.size ≤ 9223372036854775807) (.need (1 ≤ maxLen ∧ (a ++ b).size ≤ 1000000000000 ∧ (catL [Oct.put (Oct.put (ByteArray.mk #[]) (1 : Int) (1 : Int)) side (1 : Int) ++ Oct.put (ByteArray.mk #[]) num (6 : Int) ++ Oct.put (ByteArray.mk #[]) trip (2 : Int) ++ data]).size ≤ 100000000000) (.leaf (Value.string (macOf (a ++ b) (Oct.put (ByteArray.mk (Array.mk ((Array.mk []).toList ++ Oct.be 1 1))) side (1 : Int) ++ Oct.put (ByteArray.mk (Array.mk [])) num (6 : Int) ++ Oct.put (ByteArray.mk (Array.mk [])) trip (2 : Int) ++ data)))))))))) (.need (a.size + b.size ≤ 9223372036854775807) (.need (1 ≤ maxLen ∧ (a ++ b).size ≤ 1000000000000 ∧ (catL [Oct.put (Oct.put (ByteArray.mk #[]) (1 : Int) (1 : Int)) side (1 : Int) ++ Oct.put (ByteArray.mk #[]) num (6 : Int) ++ Oct.put (ByteArray.mk #[]) trip (2 : Int)]).size ≤ 100000000000) (.leaf (Value.string (macOf (a ++ b) (Oct.put (ByteArray.mk (Array.mk ((Array.mk []).toList ++ Oct.be 1 1))) side (1 : Int) ++ Oct.put (ByteArray.mk (Array.mk [])) num (6 : Int) ++ Oct.put (ByteArray.mk (Array.mk [])) trip (2 : Int))))))))))) (.need (a.size + b.size ≤ 9223372036854775807) (.need (1 ≤ maxLen ∧ (a ++ b).size ≤ 1000000000000 ∧ (catL [Oct.put (Oct.put (ByteArray.mk #[]) (1 : Int) (1 : Int)) side (1 : Int) ++ Oct.put (ByteArray.mk #[]) num (6 : Int)]).size ≤ 100000000000) (.leaf (Value.string (macOf (a ++ b) (Oct.put (ByteArray.mk (Array.mk ((Array.mk []).toList ++ Oct.be 1 1))) side (1 : Int) ++ Oct.put (ByteArray.mk (Array.mk [])) num (6 : Int))))))))))) (.need (a.size + b.size ≤ 9223372036854775807) (.need (1 ≤ maxLen ∧ (a ++ b).size ≤ 1000000000000 ∧ (catL [Oct.put (Oct.put (ByteArray.mk #[]) (1 : Int) (1 : Int)) side (1 : Int)]).size ≤ 100000000000) (.leaf (Value.string (macOf (a ++ b) (Oct.put (ByteArray.mk (Array.mk ((Array.mk []).toList ++ Oct.be 1 1))) side (1 : Int)))))))))))) := by kernel_rfl
set_option maxRecDepth 100000 in
theorem cfm_run (a b : ByteArray) (side num : Int) : runV Tryz.prog (CK Tryz.prog (SKey2 Tryz.prog Tryz.f35) Tryz.f35 Tryz.f51) noL Tryz.f38 [.agg #[.string a, .string b], .int .i64 side, .int .i64 num] = .need ((0 : Int) ≤ (4 : Int) ∧ (4 : Int) ≤ (8 : Int) ∧ (ByteArray.mk #[]).size ≤ 1099511627776) (.ite (!!(decide (a = ByteArray.mk (Array.mk [])) && (decide (b = ByteArray.mk (Array.mk [])) && true))) (.leaf (Value.string (ByteArray.mk (Array.mk [])))) (.need ((0 : Int) ≤ (1 : Int) ∧ (1 : Int) ≤ (8 : Int) ∧ (ByteArray.mk #[]).size ≤ 1099511627776) (.need ((0 : Int) ≤ (1 : Int) ∧ (1 : Int) ≤ (8 : Int) ∧ (Oct.put (ByteArray.mk #[]) (3 : Int) (1 : Int)).size ≤ 1099511627776) (.ite true (.need ((0 : Int) ≤ (0 : Int) ∧ (0 : Int) < (↑1 : Int)) (.need (0 < 1) (.need ((Oct.put (ByteArray.mk (Array.mk ((Array.mk []).toList ++ Oct.be 3 1))) side (1 : Int)).size + (Oct.put (ByteArray.mk (Array.mk [])) num (4 : Int)).size ≤ 9223372036854775807) (.ite false (.need ((0 : Int) ≤ IntKind.i64.wrap ((0 : Int) + (1 : Int)) ∧ IntKind.i64.wrap ((0 : Int) + (1 : Int)) < (↑1 : Int)) (.need (1 < 1) (T.stuck 61))) (.need (a.size + b.size ≤ 9223372036854775807) (.need (1 ≤ maxLen ∧ (a ++ b).size ≤ 1000000000000 ∧ (catL [Oct.put (Oct.put (ByteArray.mk #[]) (3 : Int) (1 : Int)) side (1 : Int) ++ Oct.put (ByteArray.mk #[]) num (4 : Int)]).size ≤ 100000000000) (.leaf (Value.string (macOf (a ++ b) (Oct.put (ByteArray.mk (Array.mk ((Array.mk []).toList ++ Oct.be 3 1))) side (1 : Int) ++ Oct.put (ByteArray.mk (Array.mk [])) num (4 : Int))))))))))) (.need (a.size + b.size ≤ 9223372036854775807) (.need (1 ≤ maxLen ∧ (a ++ b).size ≤ 1000000000000 ∧ (catL [Oct.put (Oct.put (ByteArray.mk #[]) (3 : Int) (1 : Int)) side (1 : Int)]).size ≤ 100000000000) (.leaf (Value.string (macOf (a ++ b) (Oct.put (ByteArray.mk (Array.mk ((Array.mk []).toList ++ Oct.be 3 1))) side (1 : Int))))))))))) := by kernel_rfl
set_option maxRecDepth 100000 in
theorem ctl_run (a b : ByteArray) (side num kind addr prio : Int) : runV Tryz.prog (CK Tryz.prog (SKey2 Tryz.prog Tryz.f35) Tryz.f35 Tryz.f51) (LTag Tryz.prog (CK Tryz.prog (SKey2 Tryz.prog Tryz.f35) Tryz.f35 Tryz.f51) Tryz.f36) Tryz.f36 [.agg #[.string a, .string b], .int .i64 side, .agg #[.int .i64 num, .int .i64 kind, .int .i64 addr, .int .i64 prio]] = .need ((0 : Int) ≤ (4 : Int) ∧ (4 : Int) ≤ (8 : Int) ∧ (ByteArray.mk #[]).size ≤ 1099511627776) (.ite true (.need ((0 : Int) ≤ (0 : Int) ∧ (0 : Int) < (↑3 : Int)) (.need (0 < 3) (.need ((0 : Int) ≤ (1 : Int) ∧ (1 : Int) ≤ (8 : Int) ∧ (Oct.put (ByteArray.mk #[]) num (4 : Int)).size ≤ 1099511627776) (.ite true (.need ((0 : Int) ≤ IntKind.i64.wrap ((0 : Int) + (1 : Int)) ∧ IntKind.i64.wrap ((0 : Int) + (1 : Int)) < (↑3 : Int)) (.need (1 < 3) (.need ((0 : Int) ≤ (1 : Int) ∧ (1 : Int) ≤ (8 : Int) ∧ (Oct.put (Oct.put (ByteArray.mk #[]) num (4 : Int)) kind (1 : Int)).size ≤ 1099511627776) (.ite true (.need ((0 : Int) ≤ IntKind.i64.wrap (IntKind.i64.wrap ((0 : Int) + (1 : Int)) + (1 : Int)) ∧ IntKind.i64.wrap (IntKind.i64.wrap ((0 : Int) + (1 : Int)) + (1 : Int)) < (↑3 : Int)) (.need (2 < 3) (.need ((0 : Int) ≤ (1 : Int) ∧ (1 : Int) ≤ (8 : Int) ∧ (Oct.put (Oct.put (Oct.put (ByteArray.mk #[]) num (4 : Int)) kind (1 : Int)) addr (1 : Int)).size ≤ 1099511627776) (.ite false (.need ((0 : Int) ≤ IntKind.i64.wrap (IntKind.i64.wrap (IntKind.i64.wrap ((0 : Int) + (1 : Int)) + (1 : Int)) + (1 : Int)) ∧ IntKind.i64.wrap (IntKind.i64.wrap (IntKind.i64.wrap ((0 : Int) + (1 : Int)) + (1 : Int)) + (1 : Int)) < (↑3 : Int)) (.need (3 < 3) (T.stuck 61))) (.ite (!!(decide (a = ByteArray.mk (Array.mk [])) && (decide (b = ByteArray.mk (Array.mk [])) && true))) (.leaf (Value.string (ByteArray.mk (Array.mk [])))) (.need ((0 : Int) ≤ (1 : Int) ∧ (1 : Int) ≤ (8 : Int) ∧ (ByteArray.mk #[]).size ≤ 1099511627776) (.need ((0 : Int) ≤ (1 : Int) ∧ (1 : Int) ≤ (8 : Int) ∧ (Oct.put (ByteArray.mk #[]) (2 : Int) (1 : Int)).size ≤ 1099511627776) (.ite true (.need ((0 : Int) ≤ (0 : Int) ∧ (0 : Int) < (↑1 : Int)) (.need (0 < 1) (.need ((Oct.put (ByteArray.mk (Array.mk ((Array.mk []).toList ++ Oct.be 2 1))) side (1 : Int)).size + (Oct.put (Oct.put (Oct.put (Oct.put (ByteArray.mk (Array.mk [])) num (4 : Int)) kind (1 : Int)) addr (1 : Int)) prio (1 : Int)).size ≤ 9223372036854775807) (.ite false (.need ((0 : Int) ≤ IntKind.i64.wrap ((0 : Int) + (1 : Int)) ∧ IntKind.i64.wrap ((0 : Int) + (1 : Int)) < (↑1 : Int)) (.need (1 < 1) (T.stuck 61))) (.need (a.size + b.size ≤ 9223372036854775807) (.need (1 ≤ maxLen ∧ (a ++ b).size ≤ 1000000000000 ∧ (catL [Oct.put (Oct.put (ByteArray.mk #[]) (2 : Int) (1 : Int)) side (1 : Int) ++ Oct.put (Oct.put (Oct.put (Oct.put (ByteArray.mk #[]) num (4 : Int)) kind (1 : Int)) addr (1 : Int)) prio (1 : Int)]).size ≤ 100000000000) (.leaf (Value.string (macOf (a ++ b) (Oct.put (ByteArray.mk (Array.mk ((Array.mk []).toList ++ Oct.be 2 1))) side (1 : Int) ++ Oct.put (Oct.put (Oct.put (Oct.put (ByteArray.mk (Array.mk [])) num (4 : Int)) kind (1 : Int)) addr (1 : Int)) prio (1 : Int))))))))))) (.need (a.size + b.size ≤ 9223372036854775807) (.need (1 ≤ maxLen ∧ (a ++ b).size ≤ 1000000000000 ∧ (catL [Oct.put (Oct.put (ByteArray.mk #[]) (2 : Int) (1 : Int)) side (1 : Int)]).size ≤ 100000000000) (.leaf (Value.string (macOf (a ++ b) (Oct.put (ByteArray.mk (Array.mk ((Array.mk []).toList ++ Oct.be 2 1))) side (1 : Int))))))))))))))) (.ite (!!(decide (a = ByteArray.mk (Array.mk [])) && (decide (b = ByteArray.mk (Array.mk [])) && true))) (.leaf (Value.string (ByteArray.mk (Array.mk [])))) (.need ((0 : Int) ≤ (1 : Int) ∧ (1 : Int) ≤ (8 : Int) ∧ (ByteArray.mk #[]).size ≤ 1099511627776) (.need ((0 : Int) ≤ (1 : Int) ∧ (1 : Int) ≤ (8 : Int) ∧ (Oct.put (ByteArray.mk #[]) (2 : Int) (1 : Int)).size ≤ 1099511627776) (.ite true (.need ((0 : Int) ≤ (0 : Int) ∧ (0 : Int) < (↑1 : Int)) (.need (0 < 1) (.need ((Oct.put (ByteArray.mk (Array.mk ((Array.mk []).toList ++ Oct.be 2 1))) side (1 : Int)).size + (Oct.put (Oct.put (Oct.put (ByteArray.mk (Array.mk [])) num (4 : Int)) kind (1 : Int)) addr (1 : Int)).size ≤ 9223372036854775807) (.ite false (.need ((0 : Int) ≤ IntKind.i64.wrap ((0 : Int) + (1 : Int)) ∧ IntKind.i64.wrap ((0 : Int) + (1 : Int)) < (↑1 : Int)) (.need (1 < 1) (T.stuck 61))) (.need (a.size + b.size ≤ 9223372036854775807) (.need (1 ≤ maxLen ∧ (a ++ b).size ≤ 1000000000000 ∧ (catL [Oct.put (Oct.put (ByteArray.mk #[]) (2 : Int) (1 : Int)) side (1 : Int) ++ Oct.put (Oct.put (Oct.put (ByteArray.mk #[]) num (4 : Int)) kind (1 : Int)) addr (1 : Int)]).size ≤ 100000000000) (.leaf (Value.string (macOf (a ++ b) (Oct.put (ByteArray.mk (Array.mk ((Array.mk []).toList ++ Oct.be 2 1))) side (1 : Int) ++ Oct.put (Oct.put (Oct.put (ByteArray.mk (Array.mk [])) num (4 : Int)) kind (1 : Int)) addr (1 : Int))))))))))) (.need (a.size + b.size ≤ 9223372036854775807) (.need (1 ≤ maxLen ∧ (a ++ b).size ≤ 1000000000000 ∧ (catL [Oct.put (Oct.put (ByteArray.mk #[]) (2 : Int) (1 : Int)) side (1 : Int)]).size ≤ 100000000000) (.leaf (Value.string (macOf (a ++ b) (Oct.put (ByteArray.mk (Array.mk ((Array.mk []).toList ++ Oct.be 2 1))) side (1 : Int))))))))))))))) (.ite (!!(decide (a = ByteArray.mk (Array.mk [])) && (decide (b = ByteArray.mk (Array.mk [])) && true))) (.leaf (Value.string (ByteArray.mk (Array.mk [])))) (.need ((0 : Int) ≤ (1 : Int) ∧ (1 : Int) ≤ (8 : Int) ∧ (ByteArray.mk #[]).size ≤ 1099511627776) (.need ((0 : Int) ≤ (1 : Int) ∧ (1 : Int) ≤ (8 : Int) ∧ (Oct.put (ByteArray.mk #[]) (2 : Int) (1 : Int)).size ≤ 1099511627776) (.ite true (.need ((0 : Int) ≤ (0 : Int) ∧ (0 : Int) < (↑1 : Int)) (.need (0 < 1) (.need ((Oct.put (ByteArray.mk (Array.mk ((Array.mk []).toList ++ Oct.be 2 1))) side (1 : Int)).size + (Oct.put (Oct.put (ByteArray.mk (Array.mk [])) num (4 : Int)) kind (1 : Int)).size ≤ 9223372036854775807) (.ite false (.need ((0 : Int) ≤ IntKind.i64.wrap ((0 : Int) + (1 : Int)) ∧ IntKind.i64.wrap ((0 : Int) + (1 : Int)) < (↑1 : Int)) (.need (1 < 1) (T.stuck 61))) (.need (a.size + b.size ≤ 9223372036854775807) (.need (1 ≤ maxLen ∧ (a ++ b).size ≤ 1000000000000 ∧ (catL [Oct.put (Oct.put (ByteArray.mk #[]) (2 : Int) (1 : Int)) side (1 : Int) ++ Oct.put (Oct.put (ByteArray.mk #[]) num (4 : Int)) kind (1 : Int)]).size ≤ 100000000000) (.leaf (Value.string (macOf (a ++ b) (Oct.put (ByteArray.mk (Array.mk ((Array.mk []).toList ++ Oct.be 2 1))) side (1 : Int) ++ Oct.put (Oct.put (ByteArray.mk (Array.mk [])) num (4 : Int)) kind (1 : Int))))))))))) (.need (a.size + b.size ≤ 9223372036854775807) (.need (1 ≤ maxLen ∧ (a ++ b).size ≤ 1000000000000 ∧ (catL [Oct.put (Oct.put (ByteArray.mk #[]) (2 : Int) (1 : Int)) side (1 : Int)]).size ≤ 100000000000) (.leaf (Value.string (macOf (a ++ b) (Oct.put (ByteArray.mk (Array.mk ((Array.mk []).toList ++ Oct.be 2 1))) side (1 : Int))))))))))))))) (.ite (!!(decide (a = ByteArray.mk (Array.mk [])) && (decide (b = ByteArray.mk (Array.mk [])) && true))) (.leaf (Value.string (ByteArray.mk (Array.mk [])))) (.need ((0 : Int) ≤ (1 : Int) ∧ (1 : Int) ≤ (8 : Int) ∧ (ByteArray.mk #[]).size ≤ 1099511627776) (.need ((0 : Int) ≤ (1 : Int) ∧ (1 : Int) ≤ (8 : Int) ∧ (Oct.put (ByteArray.mk #[]) (2 : Int) (1 : Int)).size ≤ 1099511627776) (.ite true (.need ((0 : Int) ≤ (0 : Int) ∧ (0 : Int) < (↑1 : Int)) (.need (0 < 1) (.need ((Oct.put (ByteArray.mk (Array.mk ((Array.mk []).toList ++ Oct.be 2 1))) side (1 : Int)).size + (Oct.put (ByteArray.mk (Array.mk [])) num (4 : Int)).size ≤ 9223372036854775807) (.ite false (.need ((0 : Int) ≤ IntKind.i64.wrap ((0 : Int) + (1 : Int)) ∧ IntKind.i64.wrap ((0 : Int) + (1 : Int)) < (↑1 : Int)) (.need (1 < 1) (T.stuck 61))) (.need (a.size + b.size ≤ 9223372036854775807) (.need (1 ≤ maxLen ∧ (a ++ b).size ≤ 1000000000000 ∧ (catL [Oct.put (Oct.put (ByteArray.mk #[]) (2 : Int) (1 : Int)) side (1 : Int) ++ Oct.put (ByteArray.mk #[]) num (4 : Int)]).size ≤ 100000000000) (.leaf (Value.string (macOf (a ++ b) (Oct.put (ByteArray.mk (Array.mk ((Array.mk []).toList ++ Oct.be 2 1))) side (1 : Int) ++ Oct.put (ByteArray.mk (Array.mk [])) num (4 : Int))))))))))) (.need (a.size + b.size ≤ 9223372036854775807) (.need (1 ≤ maxLen ∧ (a ++ b).size ≤ 1000000000000 ∧ (catL [Oct.put (Oct.put (ByteArray.mk #[]) (2 : Int) (1 : Int)) side (1 : Int)]).size ≤ 100000000000) (.leaf (Value.string (macOf (a ++ b) (Oct.put (ByteArray.mk (Array.mk ((Array.mk []).toList ++ Oct.be 2 1))) side (1 : Int)))))))))))) := by kernel_rfl
set_option maxRecDepth 100000 in
theorem join_run (a b : ByteArray) (side f t x y : Int) : runV Tryz.prog (CK Tryz.prog (SKey2 Tryz.prog Tryz.f35) Tryz.f35 Tryz.f51) (LTag Tryz.prog (CK Tryz.prog (SKey2 Tryz.prog Tryz.f35) Tryz.f35 Tryz.f51) Tryz.f47) Tryz.f47 [.agg #[.string a, .string b], .int .i64 side, .agg #[.int .i64 f, .int .i64 t], .int .i64 x, .int .i64 y] = .ite true (.need ((0 : Int) ≤ (0 : Int) ∧ (0 : Int) < (↑4 : Int)) (.need (0 < 4) (.need ((0 : Int) ≤ (4 : Int) ∧ (4 : Int) ≤ (8 : Int) ∧ (ByteArray.mk #[]).size ≤ 1099511627776) (.ite true (.need ((0 : Int) ≤ IntKind.i64.wrap ((0 : Int) + (1 : Int)) ∧ IntKind.i64.wrap ((0 : Int) + (1 : Int)) < (↑4 : Int)) (.need (1 < 4) (.need ((0 : Int) ≤ (4 : Int) ∧ (4 : Int) ≤ (8 : Int) ∧ (Oct.put (ByteArray.mk #[]) f (4 : Int)).size ≤ 1099511627776) (.ite true (.need ((0 : Int) ≤ IntKind.i64.wrap (IntKind.i64.wrap ((0 : Int) + (1 : Int)) + (1 : Int)) ∧ IntKind.i64.wrap (IntKind.i64.wrap ((0 : Int) + (1 : Int)) + (1 : Int)) < (↑4 : Int)) (.need (2 < 4) (.need ((0 : Int) ≤ (4 : Int) ∧ (4 : Int) ≤ (8 : Int) ∧ (Oct.put (Oct.put (ByteArray.mk #[]) f (4 : Int)) t (4 : Int)).size ≤ 1099511627776) (.ite true (.need ((0 : Int) ≤ IntKind.i64.wrap (IntKind.i64.wrap (IntKind.i64.wrap ((0 : Int) + (1 : Int)) + (1 : Int)) + (1 : Int)) ∧ IntKind.i64.wrap (IntKind.i64.wrap (IntKind.i64.wrap ((0 : Int) + (1 : Int)) + (1 : Int)) + (1 : Int)) < (↑4 : Int)) (.need (3 < 4) (.need ((0 : Int) ≤ (4 : Int) ∧ (4 : Int) ≤ (8 : Int) ∧ (Oct.put (Oct.put (Oct.put (ByteArray.mk #[]) f (4 : Int)) t (4 : Int)) x (4 : Int)).size ≤ 1099511627776) (.ite false (.need ((0 : Int) ≤ IntKind.i64.wrap (IntKind.i64.wrap (IntKind.i64.wrap (IntKind.i64.wrap ((0 : Int) + (1 : Int)) + (1 : Int)) + (1 : Int)) + (1 : Int)) ∧ IntKind.i64.wrap (IntKind.i64.wrap (IntKind.i64.wrap (IntKind.i64.wrap ((0 : Int) + (1 : Int)) + (1 : Int)) + (1 : Int)) + (1 : Int)) < (↑4 : Int)) (.need (4 < 4) (T.stuck 61))) (.ite (!!(decide (a = ByteArray.mk (Array.mk [])) && (decide (b = ByteArray.mk (Array.mk [])) && true))) (.leaf (Value.string (ByteArray.mk (Array.mk [])))) (.need ((0 : Int) ≤ (1 : Int) ∧ (1 : Int) ≤ (8 : Int) ∧ (ByteArray.mk #[]).size ≤ 1099511627776) (.need ((0 : Int) ≤ (1 : Int) ∧ (1 : Int) ≤ (8 : Int) ∧ (Oct.put (ByteArray.mk #[]) (4 : Int) (1 : Int)).size ≤ 1099511627776) (.ite true (.need ((0 : Int) ≤ (0 : Int) ∧ (0 : Int) < (↑1 : Int)) (.need (0 < 1) (.need ((Oct.put (ByteArray.mk (Array.mk ((Array.mk []).toList ++ Oct.be 4 1))) side (1 : Int)).size + (Oct.put (Oct.put (Oct.put (Oct.put (ByteArray.mk (Array.mk [])) f (4 : Int)) t (4 : Int)) x (4 : Int)) y (4 : Int)).size ≤ 9223372036854775807) (.ite false (.need ((0 : Int) ≤ IntKind.i64.wrap ((0 : Int) + (1 : Int)) ∧ IntKind.i64.wrap ((0 : Int) + (1 : Int)) < (↑1 : Int)) (.need (1 < 1) (T.stuck 61))) (.need (a.size + b.size ≤ 9223372036854775807) (.need (1 ≤ maxLen ∧ (a ++ b).size ≤ 1000000000000 ∧ (catL [Oct.put (Oct.put (ByteArray.mk #[]) (4 : Int) (1 : Int)) side (1 : Int) ++ Oct.put (Oct.put (Oct.put (Oct.put (ByteArray.mk #[]) f (4 : Int)) t (4 : Int)) x (4 : Int)) y (4 : Int)]).size ≤ 100000000000) (.leaf (Value.string (macOf (a ++ b) (Oct.put (ByteArray.mk (Array.mk ((Array.mk []).toList ++ Oct.be 4 1))) side (1 : Int) ++ Oct.put (Oct.put (Oct.put (Oct.put (ByteArray.mk (Array.mk [])) f (4 : Int)) t (4 : Int)) x (4 : Int)) y (4 : Int))))))))))) (.need (a.size + b.size ≤ 9223372036854775807) (.need (1 ≤ maxLen ∧ (a ++ b).size ≤ 1000000000000 ∧ (catL [Oct.put (Oct.put (ByteArray.mk #[]) (4 : Int) (1 : Int)) side (1 : Int)]).size ≤ 100000000000) (.leaf (Value.string (macOf (a ++ b) (Oct.put (ByteArray.mk (Array.mk ((Array.mk []).toList ++ Oct.be 4 1))) side (1 : Int))))))))))))))) (.ite (!!(decide (a = ByteArray.mk (Array.mk [])) && (decide (b = ByteArray.mk (Array.mk [])) && true))) (.leaf (Value.string (ByteArray.mk (Array.mk [])))) (.need ((0 : Int) ≤ (1 : Int) ∧ (1 : Int) ≤ (8 : Int) ∧ (ByteArray.mk #[]).size ≤ 1099511627776) (.need ((0 : Int) ≤ (1 : Int) ∧ (1 : Int) ≤ (8 : Int) ∧ (Oct.put (ByteArray.mk #[]) (4 : Int) (1 : Int)).size ≤ 1099511627776) (.ite true (.need ((0 : Int) ≤ (0 : Int) ∧ (0 : Int) < (↑1 : Int)) (.need (0 < 1) (.need ((Oct.put (ByteArray.mk (Array.mk ((Array.mk []).toList ++ Oct.be 4 1))) side (1 : Int)).size + (Oct.put (Oct.put (Oct.put (ByteArray.mk (Array.mk [])) f (4 : Int)) t (4 : Int)) x (4 : Int)).size ≤ 9223372036854775807) (.ite false (.need ((0 : Int) ≤ IntKind.i64.wrap ((0 : Int) + (1 : Int)) ∧ IntKind.i64.wrap ((0 : Int) + (1 : Int)) < (↑1 : Int)) (.need (1 < 1) (T.stuck 61))) (.need (a.size + b.size ≤ 9223372036854775807) (.need (1 ≤ maxLen ∧ (a ++ b).size ≤ 1000000000000 ∧ (catL [Oct.put (Oct.put (ByteArray.mk #[]) (4 : Int) (1 : Int)) side (1 : Int) ++ Oct.put (Oct.put (Oct.put (ByteArray.mk #[]) f (4 : Int)) t (4 : Int)) x (4 : Int)]).size ≤ 100000000000) (.leaf (Value.string (macOf (a ++ b) (Oct.put (ByteArray.mk (Array.mk ((Array.mk []).toList ++ Oct.be 4 1))) side (1 : Int) ++ Oct.put (Oct.put (Oct.put (ByteArray.mk (Array.mk [])) f (4 : Int)) t (4 : Int)) x (4 : Int))))))))))) (.need (a.size + b.size ≤ 9223372036854775807) (.need (1 ≤ maxLen ∧ (a ++ b).size ≤ 1000000000000 ∧ (catL [Oct.put (Oct.put (ByteArray.mk #[]) (4 : Int) (1 : Int)) side (1 : Int)]).size ≤ 100000000000) (.leaf (Value.string (macOf (a ++ b) (Oct.put (ByteArray.mk (Array.mk ((Array.mk []).toList ++ Oct.be 4 1))) side (1 : Int))))))))))))))) (.ite (!!(decide (a = ByteArray.mk (Array.mk [])) && (decide (b = ByteArray.mk (Array.mk [])) && true))) (.leaf (Value.string (ByteArray.mk (Array.mk [])))) (.need ((0 : Int) ≤ (1 : Int) ∧ (1 : Int) ≤ (8 : Int) ∧ (ByteArray.mk #[]).size ≤ 1099511627776) (.need ((0 : Int) ≤ (1 : Int) ∧ (1 : Int) ≤ (8 : Int) ∧ (Oct.put (ByteArray.mk #[]) (4 : Int) (1 : Int)).size ≤ 1099511627776) (.ite true (.need ((0 : Int) ≤ (0 : Int) ∧ (0 : Int) < (↑1 : Int)) (.need (0 < 1) (.need ((Oct.put (ByteArray.mk (Array.mk ((Array.mk []).toList ++ Oct.be 4 1))) side (1 : Int)).size + (Oct.put (Oct.put (ByteArray.mk (Array.mk [])) f (4 : Int)) t (4 : Int)).size ≤ 9223372036854775807) (.ite false (.need ((0 : Int) ≤ IntKind.i64.wrap ((0 : Int) + (1 : Int)) ∧ IntKind.i64.wrap ((0 : Int) + (1 : Int)) < (↑1 : Int)) (.need (1 < 1) (T.stuck 61))) (.need (a.size + b.size ≤ 9223372036854775807) (.need (1 ≤ maxLen ∧ (a ++ b).size ≤ 1000000000000 ∧ (catL [Oct.put (Oct.put (ByteArray.mk #[]) (4 : Int) (1 : Int)) side (1 : Int) ++ Oct.put (Oct.put (ByteArray.mk #[]) f (4 : Int)) t (4 : Int)]).size ≤ 100000000000) (.leaf (Value.string (macOf (a ++ b) (Oct.put (ByteArray.mk (Array.mk ((Array.mk []).toList ++ Oct.be 4 1))) side (1 : Int) ++ Oct.put (Oct.put (ByteArray.mk (Array.mk [])) f (4 : Int)) t (4 : Int))))))))))) (.need (a.size + b.size ≤ 9223372036854775807) (.need (1 ≤ maxLen ∧ (a ++ b).size ≤ 1000000000000 ∧ (catL [Oct.put (Oct.put (ByteArray.mk #[]) (4 : Int) (1 : Int)) side (1 : Int)]).size ≤ 100000000000) (.leaf (Value.string (macOf (a ++ b) (Oct.put (ByteArray.mk (Array.mk ((Array.mk []).toList ++ Oct.be 4 1))) side (1 : Int))))))))))))))) (.ite (!!(decide (a = ByteArray.mk (Array.mk [])) && (decide (b = ByteArray.mk (Array.mk [])) && true))) (.leaf (Value.string (ByteArray.mk (Array.mk [])))) (.need ((0 : Int) ≤ (1 : Int) ∧ (1 : Int) ≤ (8 : Int) ∧ (ByteArray.mk #[]).size ≤ 1099511627776) (.need ((0 : Int) ≤ (1 : Int) ∧ (1 : Int) ≤ (8 : Int) ∧ (Oct.put (ByteArray.mk #[]) (4 : Int) (1 : Int)).size ≤ 1099511627776) (.ite true (.need ((0 : Int) ≤ (0 : Int) ∧ (0 : Int) < (↑1 : Int)) (.need (0 < 1) (.need ((Oct.put (ByteArray.mk (Array.mk ((Array.mk []).toList ++ Oct.be 4 1))) side (1 : Int)).size + (Oct.put (ByteArray.mk (Array.mk [])) f (4 : Int)).size ≤ 9223372036854775807) (.ite false (.need ((0 : Int) ≤ IntKind.i64.wrap ((0 : Int) + (1 : Int)) ∧ IntKind.i64.wrap ((0 : Int) + (1 : Int)) < (↑1 : Int)) (.need (1 < 1) (T.stuck 61))) (.need (a.size + b.size ≤ 9223372036854775807) (.need (1 ≤ maxLen ∧ (a ++ b).size ≤ 1000000000000 ∧ (catL [Oct.put (Oct.put (ByteArray.mk #[]) (4 : Int) (1 : Int)) side (1 : Int) ++ Oct.put (ByteArray.mk #[]) f (4 : Int)]).size ≤ 100000000000) (.leaf (Value.string (macOf (a ++ b) (Oct.put (ByteArray.mk (Array.mk ((Array.mk []).toList ++ Oct.be 4 1))) side (1 : Int) ++ Oct.put (ByteArray.mk (Array.mk [])) f (4 : Int))))))))))) (.need (a.size + b.size ≤ 9223372036854775807) (.need (1 ≤ maxLen ∧ (a ++ b).size ≤ 1000000000000 ∧ (catL [Oct.put (Oct.put (ByteArray.mk #[]) (4 : Int) (1 : Int)) side (1 : Int)]).size ≤ 100000000000) (.leaf (Value.string (macOf (a ++ b) (Oct.put (ByteArray.mk (Array.mk ((Array.mk []).toList ++ Oct.be 4 1))) side (1 : Int))))))))))))))) (.ite (!!(decide (a = ByteArray.mk (Array.mk [])) && (decide (b = ByteArray.mk (Array.mk [])) && true))) (.leaf (Value.string (ByteArray.mk (Array.mk [])))) (.need ((0 : Int) ≤ (1 : Int) ∧ (1 : Int) ≤ (8 : Int) ∧ (ByteArray.mk #[]).size ≤ 1099511627776) (.need ((0 : Int) ≤ (1 : Int) ∧ (1 : Int) ≤ (8 : Int) ∧ (Oct.put (ByteArray.mk #[]) (4 : Int) (1 : Int)).size ≤ 1099511627776) (.ite true (.need ((0 : Int) ≤ (0 : Int) ∧ (0 : Int) < (↑1 : Int)) (.need (0 < 1) (.need ((Oct.put (ByteArray.mk (Array.mk ((Array.mk []).toList ++ Oct.be 4 1))) side (1 : Int)).size + 0 ≤ 9223372036854775807) (.ite false (.need ((0 : Int) ≤ IntKind.i64.wrap ((0 : Int) + (1 : Int)) ∧ IntKind.i64.wrap ((0 : Int) + (1 : Int)) < (↑1 : Int)) (.need (1 < 1) (T.stuck 61))) (.need (a.size + b.size ≤ 9223372036854775807) (.need (1 ≤ maxLen ∧ (a ++ b).size ≤ 1000000000000 ∧ (catL [Oct.put (Oct.put (ByteArray.mk #[]) (4 : Int) (1 : Int)) side (1 : Int) ++ ByteArray.mk #[]]).size ≤ 100000000000) (.leaf (Value.string (macOf (a ++ b) (Oct.put (ByteArray.mk (Array.mk ((Array.mk []).toList ++ Oct.be 4 1))) side (1 : Int) ++ ByteArray.mk (Array.mk []))))))))))) (.need (a.size + b.size ≤ 9223372036854775807) (.need (1 ≤ maxLen ∧ (a ++ b).size ≤ 1000000000000 ∧ (catL [Oct.put (Oct.put (ByteArray.mk #[]) (4 : Int) (1 : Int)) side (1 : Int)]).size ≤ 100000000000) (.leaf (Value.string (macOf (a ++ b) (Oct.put (ByteArray.mk (Array.mk ((Array.mk []).toList ++ Oct.be 4 1))) side (1 : Int))))))))))) := by kernel_rfl
end Go.Proofs.YthacfgaacleaeaaGreatDoor
namespace Go.Proofs.YthacfgaacleaeaaGreatDoor
open Go.RowKit Sym Sha Go.ChangeShapes Go.WideShapes Go.ChangeMaps
theorem put_split (s : ByteArray) (n : Int) (k : Int) : Oct.put s n k = s ++ Oct.put ⟨⟨[]⟩⟩ n k := by
  apply ByteArray.ext
  apply Array.toList_inj.1
  rw [ByteArray.data_append]
  simp [Oct.put]
theorem put_sz (s : ByteArray) (n k : Int) : (Oct.put s n k).size = s.size + k.toNat := Oct.put_size s n k
def dataText (side num trip : Int) (data : ByteArray) : ByteArray := Oct.put (Oct.put (Oct.put (ba [1]) side 1) num 6) trip 2 ++ data
def ctlText (side num kind addr prio : Int) : ByteArray := Oct.put (Oct.put (Oct.put (Oct.put (Oct.put (ba [2]) side 1) num 4) kind 1) addr 1) prio 1
def cfmText (side num : Int) : ByteArray := Oct.put (Oct.put (ba [3]) side 1) num 4
def joinText (side f t a b : Int) : ByteArray := Oct.put (Oct.put (Oct.put (Oct.put (Oct.put (ba [4]) side 1) f 4) t 4) a 4) b 4
theorem dataText_size (side num trip : Int) (data : ByteArray) : (dataText side num trip data).size = 10 + data.size := by unfold dataText; rw [ByteArray.size_append, put_sz, put_sz, put_sz, ba_len]; rfl
theorem ctlText_size (side num kind addr prio : Int) : (ctlText side num kind addr prio).size = 9 := by unfold ctlText; rw [put_sz, put_sz, put_sz, put_sz, put_sz, ba_len]; rfl
theorem cfmText_size (side num : Int) : (cfmText side num).size = 6 := by unfold cfmText; rw [put_sz, put_sz, ba_len]; rfl
theorem joinText_size (side f t a b : Int) : (joinText side f t a b).size = 18 := by unfold joinText; rw [put_sz, put_sz, put_sz, put_sz, put_sz, ba_len]; rfl
theorem b1 (k : List UInt8) : (ByteArray.mk ⟨k⟩).size = k.length := ba_len k
theorem ref26_data (side num trip : Int) (data : ByteArray) (h : data.size ≤ 1000000) (w : World) : Calls Tryz.prog 31 #[.int .i64 side, .int .i64 num, .int .i64 trip, .string data] w fun e w' => e = .returned (.string (dataText side num trip data)) ∧ Below w.heap.size w w' := by
  refine calls_runV (onlyS_ok SKey1_ok) follows Tryz.func31 (by kernel_rfl) (by kernel_rfl) noL_ok (dataText_run side num trip data) ?_ w
  simp only [T.ok, put_sz, b1, List.length_cons, List.length_nil]
  refine ⟨by omega, ?_, ?_, ?_, rfl⟩ <;> omega
theorem ref26_ctl (side num kind addr prio : Int) (w : World) : Calls Tryz.prog 37 #[.int .i64 side, .agg #[.int .i64 num, .int .i64 kind, .int .i64 addr, .int .i64 prio]] w fun e w' => e = .returned (.string (ctlText side num kind addr prio)) ∧ Below w.heap.size w w' := by
  refine calls_runV (onlyS_ok SKey1_ok) follows Tryz.func37 (by kernel_rfl) (by kernel_rfl) noL_ok (ctlText_run side num kind addr prio) ?_ w
  simp only [T.ok, put_sz, b1, List.length_cons, List.length_nil]
  refine ⟨by omega, ?_, ?_, ?_, ?_, rfl⟩ <;> omega
theorem ref26_cfm (side num : Int) (w : World) : Calls Tryz.prog 39 #[.int .i64 side, .int .i64 num] w fun e w' => e = .returned (.string (cfmText side num)) ∧ Below w.heap.size w w' := by
  refine calls_runV (onlyS_ok SKey1_ok) follows Tryz.func39 (by kernel_rfl) (by kernel_rfl) noL_ok (cfmText_run side num) ?_ w
  simp only [T.ok, put_sz, b1, List.length_cons, List.length_nil]
  refine ⟨by omega, ?_, rfl⟩ <;> omega
theorem ref26_join (side f t a b : Int) (w : World) : Calls Tryz.prog 50 #[.int .i64 side, .agg #[.int .i64 f, .int .i64 t], .int .i64 a, .int .i64 b] w fun e w' => e = .returned (.string (joinText side f t a b)) ∧ Below w.heap.size w w' := by
  refine calls_runV (onlyS_ok SKey1_ok) follows Tryz.func50 (by kernel_rfl) (by kernel_rfl) noL_ok (joinText_run side f t a b) ?_ w
  simp only [T.ok, put_sz, b1, List.length_cons, List.length_nil]
  refine ⟨by omega, ?_, ?_, ?_, ?_, rfl⟩ <;> omega
def nilB : ByteArray := ⟨⟨[]⟩⟩
def tagP (a b x : ByteArray) : ByteArray := if a = nilB ∧ b = nilB then nilB else macOf (a ++ b) x
def tagR (a b x : ByteArray) : ByteArray := if a = nilB then nilB else macOf (a ++ b) x
theorem ref26_tag (a b x : ByteArray) (h : a.size ≤ 1000 ∧ b.size ≤ 1000 ∧ x.size ≤ 1000000000) (w : World) : Calls Tryz.prog 30 #[.string a, .string b, .string x] w fun e w' => e = .returned (.string (tagR a b x)) ∧ Below w.heap.size w w' := by
  refine calls_runV (onlyS_ok SKey1_ok) follows Tryz.func30 (by kernel_rfl) (by kernel_rfl) noL_ok (tag26_run a b x) ?_ w
  have e : (a ++ b).size = a.size + b.size := by rw [ByteArray.size_append]
  refine ⟨fun h => ?_, fun h => ⟨by omega, ⟨by omega, by omega⟩, ?_⟩⟩
  · have h : a = nilB := of_decide_eq_true h
    show Value.string nilB = _
    unfold tagR; rw [if_pos h]
  · have h : ¬ a = nilB := of_decide_eq_false h
    show Value.string _ = _
    unfold tagR; rw [if_neg h]
theorem wr1 : IntKind.i64.wrap (0 + 1) = 1 := by decide
theorem wr2 : IntKind.i64.wrap (1 + 1) = 2 := by decide
theorem wr3 : IntKind.i64.wrap (2 + 1) = 3 := by decide
theorem wr4 : IntKind.i64.wrap (3 + 1) = 4 := by decide
theorem known_if {a b x : ByteArray} (hb : (!!(decide (a = ByteArray.mk (Array.mk [])) && (decide (b = ByteArray.mk (Array.mk [])) && true))) = true) : Value.string nilB = Value.string (tagP a b x) := by
  have h : a = nilB ∧ b = nilB := by simpa [nilB] using hb
  unfold tagP; rw [if_pos h]
theorem keys_Data (a b : ByteArray) (side num trip : Int) (data : ByteArray) (h : a.size ≤ 1000 ∧ b.size ≤ 1000 ∧ data.size ≤ 1000000) (w : World) : Calls Tryz.prog 24 #[.agg #[.string a, .string b], .int .i64 side, .int .i64 num, .int .i64 trip, .string data] w fun e w' => e = .returned (.string (tagP a b (dataText side num trip data))) ∧ Below w.heap.size w w' := by
  refine calls_runV (CK_ok SKey2_ok) follows Tryz.func24 (by kernel_rfl) (by kernel_rfl) (noloops (by kernel_rfl)) (data_run a b side num trip data) ?_ w
  have et : Oct.put (ByteArray.mk ⟨[] ++ Oct.be 1 1⟩) side 1 ++ Oct.put ⟨⟨[]⟩⟩ num 6 ++ Oct.put ⟨⟨[]⟩⟩ trip 2 ++ data = dataText side num trip data := by
    unfold dataText
    rw [← put_split, ← put_split]; rfl
  have es := dataText_size side num trip data
  have hc : (catL [Oct.put (ByteArray.mk ⟨[] ++ Oct.be 1 1⟩) side 1 ++ Oct.put ⟨⟨[]⟩⟩ num 6 ++ Oct.put ⟨⟨[]⟩⟩ trip 2 ++ data]).size ≤ 100000000000 := by
    show (Oct.put (ByteArray.mk ⟨[] ++ Oct.be 1 1⟩) side 1 ++ Oct.put ⟨⟨[]⟩⟩ num 6 ++ Oct.put ⟨⟨[]⟩⟩ trip 2 ++ data).size ≤ _
    rw [et, es]; omega
  have hm : 1 ≤ maxLen := by decide
  have hv : ¬ (a = nilB ∧ b = nilB) → Value.string (macOf (a ++ b) (Oct.put (ByteArray.mk ⟨[] ++ Oct.be 1 1⟩) side 1 ++ Oct.put ⟨⟨[]⟩⟩ num 6 ++ Oct.put ⟨⟨[]⟩⟩ trip 2 ++ data)) = Value.string (tagP a b (dataText side num trip data)) := fun hn => by rw [et]; unfold tagP; rw [if_neg hn]
  have kf : (!!(decide (a = ByteArray.mk (Array.mk [])) && (decide (b = ByteArray.mk (Array.mk [])) && true))) = false → ¬ (a = nilB ∧ b = nilB) := fun hb => by simpa [nilB] using hb
  simp only [T.ok, wr1, wr2, wr3, wr4, put_sz, b1, ByteArray.size_append, List.length_cons, List.length_nil, List.length_append, Oct.be_length, Bool.true_eq_false, Bool.false_eq_true, reduceCtorEq, false_implies, true_implies, and_true, true_and]
  repeat' (first | refine And.intro ?_ ?_ | intro _)
  all_goals first | omega | contradiction | exact hm | exact hc | exact hv (kf (by assumption)) | exact known_if (by assumption) | skip
theorem keys_Confirm (a b : ByteArray) (side num : Int) (h : a.size ≤ 1000 ∧ b.size ≤ 1000) (w : World) : Calls Tryz.prog 38 #[.agg #[.string a, .string b], .int .i64 side, .int .i64 num] w fun e w' => e = .returned (.string (tagP a b (cfmText side num))) ∧ Below w.heap.size w w' := by
  refine calls_runV (CK_ok SKey2_ok) follows Tryz.func38 (by kernel_rfl) (by kernel_rfl) (noloops (by kernel_rfl)) (cfm_run a b side num) ?_ w
  have et : Oct.put (ByteArray.mk ⟨[] ++ Oct.be 3 1⟩) side 1 ++ Oct.put ⟨⟨[]⟩⟩ num 4 = cfmText side num := by
    unfold cfmText
    rw [← put_split]; rfl
  have es := cfmText_size side num
  have hc : (catL [Oct.put (ByteArray.mk ⟨[] ++ Oct.be 3 1⟩) side 1 ++ Oct.put ⟨⟨[]⟩⟩ num 4]).size ≤ 100000000000 := by
    show (Oct.put (ByteArray.mk ⟨[] ++ Oct.be 3 1⟩) side 1 ++ Oct.put ⟨⟨[]⟩⟩ num 4).size ≤ _
    rw [et, es]; omega
  have hm : 1 ≤ maxLen := by decide
  have hv : ¬ (a = nilB ∧ b = nilB) → Value.string (macOf (a ++ b) (Oct.put (ByteArray.mk ⟨[] ++ Oct.be 3 1⟩) side 1 ++ Oct.put ⟨⟨[]⟩⟩ num 4)) = Value.string (tagP a b (cfmText side num)) := fun hn => by rw [et]; unfold tagP; rw [if_neg hn]
  have kf : (!!(decide (a = ByteArray.mk (Array.mk [])) && (decide (b = ByteArray.mk (Array.mk [])) && true))) = false → ¬ (a = nilB ∧ b = nilB) := fun hb => by simpa [nilB] using hb
  simp only [T.ok, wr1, wr2, wr3, wr4, put_sz, b1, ByteArray.size_append, List.length_cons, List.length_nil, List.length_append, Oct.be_length, Bool.true_eq_false, Bool.false_eq_true, reduceCtorEq, false_implies, true_implies, and_true, true_and]
  repeat' (first | refine And.intro ?_ ?_ | intro _)
  all_goals first | omega | contradiction | exact hm | exact hc | exact hv (kf (by assumption)) | exact known_if (by assumption) | skip
set_option maxHeartbeats 800000 in
theorem keys_Control (a b : ByteArray) (side num kind addr prio : Int) (h : a.size ≤ 1000 ∧ b.size ≤ 1000) (w : World) : Calls Tryz.prog 36 #[.agg #[.string a, .string b], .int .i64 side, .agg #[.int .i64 num, .int .i64 kind, .int .i64 addr, .int .i64 prio]] w fun e w' => e = .returned (.string (tagP a b (ctlText side num kind addr prio))) ∧ Below w.heap.size w w' := by
  refine calls_runV (CK_ok SKey2_ok) follows Tryz.func36 (by kernel_rfl) (by kernel_rfl) (one_loop (b := loopAt Tryz.f36 0) (id := 0) (by kernel_rfl) fun st t h => by rw [addL_same h]; exact unroll_ok (CK_ok SKey2_ok) follows (by kernel_rfl) (noloops (by kernel_rfl)) 6 st) (ctl_run a b side num kind addr prio) ?_ w
  have et : Oct.put (ByteArray.mk ⟨[] ++ Oct.be 2 1⟩) side 1 ++ Oct.put (Oct.put (Oct.put (Oct.put ⟨⟨[]⟩⟩ num 4) kind 1) addr 1) prio 1 = ctlText side num kind addr prio := by
    unfold ctlText
    rw [put_split (Oct.put (Oct.put (Oct.put ⟨⟨[]⟩⟩ num 4) kind 1) addr 1), put_split (Oct.put (Oct.put ⟨⟨[]⟩⟩ num 4) kind 1), put_split (Oct.put ⟨⟨[]⟩⟩ num 4), ← ByteArray.append_assoc, ← ByteArray.append_assoc, ← ByteArray.append_assoc, ← put_split, ← put_split, ← put_split, ← put_split]; rfl
  have es := ctlText_size side num kind addr prio
  have hc : (catL [Oct.put (ByteArray.mk ⟨[] ++ Oct.be 2 1⟩) side 1 ++ Oct.put (Oct.put (Oct.put (Oct.put ⟨⟨[]⟩⟩ num 4) kind 1) addr 1) prio 1]).size ≤ 100000000000 := by
    show (Oct.put (ByteArray.mk ⟨[] ++ Oct.be 2 1⟩) side 1 ++ Oct.put (Oct.put (Oct.put (Oct.put ⟨⟨[]⟩⟩ num 4) kind 1) addr 1) prio 1).size ≤ _
    rw [et, es]; omega
  have hm : 1 ≤ maxLen := by decide
  have hv : ¬ (a = nilB ∧ b = nilB) → Value.string (macOf (a ++ b) (Oct.put (ByteArray.mk ⟨[] ++ Oct.be 2 1⟩) side 1 ++ Oct.put (Oct.put (Oct.put (Oct.put ⟨⟨[]⟩⟩ num 4) kind 1) addr 1) prio 1)) = Value.string (tagP a b (ctlText side num kind addr prio)) := fun hn => by rw [et]; unfold tagP; rw [if_neg hn]
  have kf : (!!(decide (a = ByteArray.mk (Array.mk [])) && (decide (b = ByteArray.mk (Array.mk [])) && true))) = false → ¬ (a = nilB ∧ b = nilB) := fun hb => by simpa [nilB] using hb
  simp only [T.ok, wr1, wr2, wr3, wr4, put_sz, b1, ByteArray.size_append, List.length_cons, List.length_nil, List.length_append, Oct.be_length, Bool.true_eq_false, Bool.false_eq_true, reduceCtorEq, false_implies, true_implies, and_true, true_and]
  repeat' (first | refine And.intro ?_ ?_ | intro _)
  all_goals first | omega | contradiction | exact hm | exact hc | exact hv (kf (by assumption)) | exact known_if (by assumption) | skip
set_option maxHeartbeats 800000 in
theorem keys_Join (a b : ByteArray) (side f t x y : Int) (h : a.size ≤ 1000 ∧ b.size ≤ 1000) (w : World) : Calls Tryz.prog 47 #[.agg #[.string a, .string b], .int .i64 side, .agg #[.int .i64 f, .int .i64 t], .int .i64 x, .int .i64 y] w fun e w' => e = .returned (.string (tagP a b (joinText side f t x y))) ∧ Below w.heap.size w w' := by
  refine calls_runV (CK_ok SKey2_ok) follows Tryz.func47 (by kernel_rfl) (by kernel_rfl) (one_loop (b := loopAt Tryz.f47 0) (id := 0) (by kernel_rfl) fun st t h => by rw [addL_same h]; exact unroll_ok (CK_ok SKey2_ok) follows (by kernel_rfl) (noloops (by kernel_rfl)) 6 st) (join_run a b side f t x y) ?_ w
  have et : Oct.put (ByteArray.mk ⟨[] ++ Oct.be 4 1⟩) side 1 ++ Oct.put (Oct.put (Oct.put (Oct.put ⟨⟨[]⟩⟩ f 4) t 4) x 4) y 4 = joinText side f t x y := by
    unfold joinText
    rw [put_split (Oct.put (Oct.put (Oct.put ⟨⟨[]⟩⟩ f 4) t 4) x 4), put_split (Oct.put (Oct.put ⟨⟨[]⟩⟩ f 4) t 4), put_split (Oct.put ⟨⟨[]⟩⟩ f 4), ← ByteArray.append_assoc, ← ByteArray.append_assoc, ← ByteArray.append_assoc, ← put_split, ← put_split, ← put_split, ← put_split]; rfl
  have es := joinText_size side f t x y
  have hc : (catL [Oct.put (ByteArray.mk ⟨[] ++ Oct.be 4 1⟩) side 1 ++ Oct.put (Oct.put (Oct.put (Oct.put ⟨⟨[]⟩⟩ f 4) t 4) x 4) y 4]).size ≤ 100000000000 := by
    show (Oct.put (ByteArray.mk ⟨[] ++ Oct.be 4 1⟩) side 1 ++ Oct.put (Oct.put (Oct.put (Oct.put ⟨⟨[]⟩⟩ f 4) t 4) x 4) y 4).size ≤ _
    rw [et, es]; omega
  have hm : 1 ≤ maxLen := by decide
  have hv : ¬ (a = nilB ∧ b = nilB) → Value.string (macOf (a ++ b) (Oct.put (ByteArray.mk ⟨[] ++ Oct.be 4 1⟩) side 1 ++ Oct.put (Oct.put (Oct.put (Oct.put ⟨⟨[]⟩⟩ f 4) t 4) x 4) y 4)) = Value.string (tagP a b (joinText side f t x y)) := fun hn => by rw [et]; unfold tagP; rw [if_neg hn]
  have kf : (!!(decide (a = ByteArray.mk (Array.mk [])) && (decide (b = ByteArray.mk (Array.mk [])) && true))) = false → ¬ (a = nilB ∧ b = nilB) := fun hb => by simpa [nilB] using hb
  simp only [T.ok, wr1, wr2, wr3, wr4, put_sz, b1, ByteArray.size_append, List.length_cons, List.length_nil, List.length_append, Oct.be_length, Bool.true_eq_false, Bool.false_eq_true, reduceCtorEq, false_implies, true_implies, and_true, true_and]
  repeat' (first | refine And.intro ?_ ?_ | intro _)
  all_goals first | omega | contradiction | exact hm | exact hc | exact hv (kf (by assumption)) | exact known_if (by assumption) | skip
def tDataText : List Value → Option (List Prop × Value) | [.int .i64 a, .int .i64 b, .int .i64 c, .string d] => some ([d.size ≤ 1000000], .string (dataText a b c d)) | _ => none
def tCtlText : List Value → Option (List Prop × Value) | [.int .i64 a, .agg ⟨[.int .i64 b, .int .i64 c, .int .i64 d, .int .i64 e]⟩] => some ([], .string (ctlText a b c d e)) | _ => none
def tCfmText : List Value → Option (List Prop × Value) | [.int .i64 a, .int .i64 b] => some ([], .string (cfmText a b)) | _ => none
def tJoinText : List Value → Option (List Prop × Value) | [.int .i64 a, .agg ⟨[.int .i64 b, .int .i64 c]⟩, .int .i64 d, .int .i64 e] => some ([], .string (joinText a b c d e)) | _ => none
def tTagR : List Value → Option (List Prop × Value) | [.string a, .string b, .string x] => some ([a.size ≤ 1000 ∧ b.size ≤ 1000 ∧ x.size ≤ 1000000000], .string (tagR a b x)) | _ => none
def tData : List Value → Option (List Prop × Value) | [.agg ⟨[.string a, .string b]⟩, .int .i64 x, .int .i64 y, .int .i64 z, .string d] => some ([a.size ≤ 1000 ∧ b.size ≤ 1000 ∧ d.size ≤ 1000000], .string (tagP a b (dataText x y z d))) | _ => none
def tCtl : List Value → Option (List Prop × Value) | [.agg ⟨[.string a, .string b]⟩, .int .i64 x, .agg ⟨[.int .i64 b1, .int .i64 c, .int .i64 d, .int .i64 e]⟩] => some ([a.size ≤ 1000 ∧ b.size ≤ 1000], .string (tagP a b (ctlText x b1 c d e))) | _ => none
def tCfm : List Value → Option (List Prop × Value) | [.agg ⟨[.string a, .string b]⟩, .int .i64 x, .int .i64 y] => some ([a.size ≤ 1000 ∧ b.size ≤ 1000], .string (tagP a b (cfmText x y))) | _ => none
def tJoin : List Value → Option (List Prop × Value) | [.agg ⟨[.string a, .string b]⟩, .int .i64 x, .agg ⟨[.int .i64 f, .int .i64 t]⟩, .int .i64 y, .int .i64 z] => some ([a.size ≤ 1000 ∧ b.size ≤ 1000], .string (tagP a b (joinText x f t y z))) | _ => none
def okK (a b : ByteArray) : Bool := Nat.beq a.size 8 && Nat.beq b.size 8
def kA (a b : ByteArray) : ByteArray := if okK a b = true then a else nilB
def kB (a b : ByteArray) : ByteArray := if okK a b = true then b else nilB
def kE (a b : ByteArray) : Int := if okK a b = true then 0 else 11
theorem okK_iff (a b : ByteArray) : okK a b = true ↔ a.size = 8 ∧ b.size = 8 := by unfold okK; rw [Bool.and_eq_true, Nat.beq_eq, Nat.beq_eq]
set_option maxRecDepth 100000 in
theorem new_run (a b : ByteArray) : runV Tryz.prog (onlyS Tryz.prog noS) noL Tryz.f23 [.string a, .string b] = .ite (!decide ((↑a.size : Int) = (8 : Int))) (.leaf (Value.tuple (Array.mk [Value.agg (Array.mk [Value.string (ByteArray.mk (Array.mk [])), Value.string (ByteArray.mk (Array.mk []))]), Value.int IntKind.i64 11]))) (.ite (!decide ((↑b.size : Int) = (8 : Int))) (.leaf (Value.tuple (Array.mk [Value.agg (Array.mk [Value.string (ByteArray.mk (Array.mk [])), Value.string (ByteArray.mk (Array.mk []))]), Value.int IntKind.i64 11]))) (.leaf (Value.tuple (Array.mk [Value.agg (Array.mk [Value.string a, Value.string b]), Value.int IntKind.i64 0])))) := by kernel_rfl
theorem keys_New (a b : ByteArray) (w : World) : Calls Tryz.prog 23 #[.string a, .string b] w fun e w' => e = .returned (.tuple #[.agg #[.string (kA a b), .string (kB a b)], .int .i64 (kE a b)]) ∧ Below w.heap.size w w' := by
  refine calls_runV (onlyS_ok noS_ok) follows Tryz.func23 (by kernel_rfl) (by kernel_rfl) noL_ok (new_run a b) ?_ w
  have hk := okK_iff a b
  unfold kA kB kE
  cases ho : okK a b
  · have hn : ¬ (a.size = 8 ∧ b.size = 8) := fun h => by rw [ho] at hk; exact absurd (hk.2 h) (by decide)
    refine ⟨fun _ => rfl, fun h1 => ⟨fun _ => rfl, fun h2 => ?_⟩⟩
    have := ndf h1
    have := ndf h2
    exact (hn ⟨by omega, by omega⟩).elim
  · have hy := hk.1 ho
    refine ⟨fun h => (ndt h (by omega)).elim, fun h1 => ⟨fun h => (ndt h (by omega)).elim, fun _ => rfl⟩⟩
def tNew : List Value → Option (List Prop × Value) | [.string a, .string b] => some ([], .tuple #[.agg #[.string (kA a b), .string (kB a b)], .int .i64 (kE a b)]) | _ => none
def SNew : Tab := addS 23 tNew noS
theorem SNew_ok : TabOk Tryz.prog SNew := addS_ok noS_ok (by kernel_rfl) (by (intro xs p v h hp w; unfold tNew at h; (split at h) <;> first | (cases h; done) | (simp only [Option.some.injEq, Prod.mk.injEq] at h; obtain ⟨rfl, rfl⟩ := h; exact keys_New _ _ w)))
end Go.Proofs.YthacfgaacleaeaaGreatDoor
namespace Go.Proofs.YthacfgaacleaeaaGreatDoor.Head
def known (k : Int) : Bool := decide (0 ≤ k ∧ k ≤ 9)
def acks (k : Int) : Bool := decide (k = 1 ∨ (3 ≤ k ∧ k ≤ 9))
def bears (k : Int) : Bool := decide (k = 0 ∨ k = 1 ∨ k = 2 ∨ k = 4)
def more (k : Int) : Bool := decide (k = 0 ∨ k = 1 ∨ k = 7)
def brief (k : Int) : Bool := decide (k = 2 ∨ k = 3 ∨ k = 4)
def size (k : Int) (long : Bool) : Int :=
  if known k = false ∨ (long = false ∧ brief k = false) then 0
  else (if long then 16 else 12) + (if acks k then (if long then 8 else 4) else 0) + (if more k then 4 else 0)
structure H where
  src : Int
  dst : Int
  words : Int
  ccval : Int
  cover : Int
  sum : Int
  kind : Int
  long : Bool
  seq : Int
  deriving DecidableEq
def wi (n m : Int) : Bool := decide (0 ≤ n ∧ n ≤ m)
def most (long : Bool) : Int := if long = true then 281474976710656 else 16777216
def check (h : H) : Int :=
  if known h.kind = false then 7 else if h.long = false ∧ brief h.kind = false then 4
  else if wi h.src 65535 = false ∨ wi h.dst 65535 = false ∨ wi h.sum 65535 = false ∨ wi h.ccval 15 = false ∨ wi h.cover 15 = false then 3
  else if wi h.seq (most h.long - 1) = false ∨ wi h.words 255 = false then 3
  else if 4 * h.words < size h.kind h.long then 1 else 0
def put (h : H) : List UInt8 :=
  Oct.be (Oct.u64 h.src) 2 ++ Oct.be (Oct.u64 h.dst) 2 ++ Oct.be (Oct.u64 h.words) 1 ++ Oct.be (Oct.u64 (16 * h.ccval + h.cover)) 1 ++ Oct.be (Oct.u64 h.sum) 2 ++
    (if h.long = true then Oct.be (Oct.u64 (2 * h.kind + 1)) 1 ++ [0] ++ Oct.be (Oct.u64 h.seq) 6 else Oct.be (Oct.u64 (2 * h.kind)) 1 ++ Oct.be (Oct.u64 h.seq) 3)
end Go.Proofs.YthacfgaacleaeaaGreatDoor.Head
namespace Go.Proofs.YthacfgaacleaeaaGreatDoor.Head
end Go.Proofs.YthacfgaacleaeaaGreatDoor.Head
namespace Go.Proofs.YthacfgaacleaeaaGreatDoor
open Go.RowKit
end Go.Proofs.YthacfgaacleaeaaGreatDoor
namespace Go.Proofs.YthacfgaacleaeaaGreatDoor
open Go.RowKit
end Go.Proofs.YthacfgaacleaeaaGreatDoor
namespace Go.Proofs.YthacfgaacleaeaaGreatDoor
open Go.RowKit
end Go.Proofs.YthacfgaacleaeaaGreatDoor
namespace Go.Proofs.YthacfgaacleaeaaGreatDoor
open Go.RowKit
end Go.Proofs.YthacfgaacleaeaaGreatDoor
namespace Go.Proofs.YthacfgaacleaeaaGreatDoor
open Go.RowKit
end Go.Proofs.YthacfgaacleaeaaGreatDoor
namespace Go.Proofs.YthacfgaacleaeaaGreatDoor
open Go.RowKit
end Go.Proofs.YthacfgaacleaeaaGreatDoor
namespace Go.Proofs.YthacfgaacleaeaaGreatDoor
open Go.RowKit
def nu (s : ByteArray) (a b : Nat) : Nat := Oct.val (s.extract a b).data.toList
def hd (s : ByteArray) (long : Bool) : Head.H := ⟨nu s 0 2, nu s 2 4, nu s 4 5, (nu s 5 6 : Int) / 16, (nu s 5 6 : Int) % 16, nu s 6 8, (nu s 8 9 : Int) / 2 % 16, long, if long = true then nu s 10 16 else nu s 9 12⟩
def hnone : Head.H := ⟨0, 0, 0, 0, 0, 0, 0, false, 0⟩
def get (s : ByteArray) : Head.H × ByteArray × Int :=
  if s.size < 12 then (hnone, ⟨#[]⟩, 1)
  else if nu s 8 9 % 2 = 1 then
    if s.size < 16 then (hnone, ⟨#[]⟩, 1)
    else if nu s 8 9 / 32 = 0 ∧ nu s 9 10 = 0 then
      if Head.check (hd s true) = 0 then (hd s true, s.extract 16 s.size, 0) else (hnone, ⟨#[]⟩, Head.check (hd s true))
    else (hnone, ⟨#[]⟩, 4)
  else if nu s 8 9 / 32 = 0 then
    if Head.check (hd s false) = 0 then (hd s false, s.extract 12 s.size, 0) else (hnone, ⟨#[]⟩, Head.check (hd s false))
  else (hnone, ⟨#[]⟩, 4)
end Go.Proofs.YthacfgaacleaeaaGreatDoor
namespace Go.Proofs.YthacfgaacleaeaaGreatDoor
end Go.Proofs.YthacfgaacleaeaaGreatDoor
namespace Go.Proofs.YthacfgaacleaeaaGreatDoor
open Go.RowKit Sym
end Go.Proofs.YthacfgaacleaeaaGreatDoor
namespace Go.Proofs.YthacfgaacleaeaaGreatDoor
open Go.RowKit Sym
end Go.Proofs.YthacfgaacleaeaaGreatDoor
namespace Go.Proofs.YthacfgaacleaeaaGreatDoor
open Go.RowKit
end Go.Proofs.YthacfgaacleaeaaGreatDoor
namespace Go.Proofs.YthacfgaacleaeaaGreatDoor.Inet
end Go.Proofs.YthacfgaacleaeaaGreatDoor.Inet
namespace Go.Proofs.YthacfgaacleaeaaGreatDoor
open Go.RowKit Sym Sha Go.ChangeShapes Go.WideShapes Go.ChangeMaps Inet
end Go.Proofs.YthacfgaacleaeaaGreatDoor
namespace Go.Proofs.YthacfgaacleaeaaGreatDoor
open Go.RowKit Sym Sha Go.ChangeShapes Go.WideShapes Go.ChangeMaps Inet
end Go.Proofs.YthacfgaacleaeaaGreatDoor
namespace Go.Proofs.YthacfgaacleaeaaGreatDoor
open Go.RowKit Sym Go.ChangeShapes Go.WideShapes Go.ChangeMaps Inet
structure Pk where
  kind : Int
  long : Bool
  src : Int
  dst : Int
  ccval : Int
  cover : Int
  seq : Int
  ack : Int
  service : Int
  code : Int
  detail : Int
  data : ByteArray
def Pk.v (p : Pk) (o : Value) : Value := .agg #[.int .i64 p.kind, .bool p.long, .int .i64 p.src, .int .i64 p.dst, .int .i64 p.ccval, .int .i64 p.cover, .int .i64 p.seq, .int .i64 p.ack, .int .i64 p.service, .int .i64 p.code, .int .i64 p.detail, o, .string p.data]
abbrev Pk.s (p : Pk) (o : SV) : SV := .agg [.v (.int .i64 p.kind), .v (.bool p.long), .v (.int .i64 p.src), .v (.int .i64 p.dst), .v (.int .i64 p.ccval), .v (.int .i64 p.cover), .v (.int .i64 p.seq), .v (.int .i64 p.ack), .v (.int .i64 p.service), .v (.int .i64 p.code), .v (.int .i64 p.detail), o, .v (.string p.data)]
end Go.Proofs.YthacfgaacleaeaaGreatDoor
namespace Go.Proofs.YthacfgaacleaeaaGreatDoor
open Go.RowKit Sym
def opCells (l : List Op) : List Value := l.flatMap fun o => [.int .i64 o.kind, .string o.val]
def opN (l : List Op) (i : Nat) : Op := l.getD i ⟨0, ⟨⟨[]⟩⟩⟩
theorem opCells_cons (o : Op) (l : List Op) : opCells (o :: l) = .int .i64 o.kind :: .string o.val :: opCells l := rfl
theorem opCells_append (l m : List Op) : opCells (l ++ m) = opCells l ++ opCells m := by simp [opCells]
theorem opCells_length : ∀ l : List Op, (opCells l).length = l.length * 2
  | [] => rfl
  | o :: l => by rw [opCells_cons]; simp only [List.length_cons, opCells_length l]; omega
theorem opCells_at : ∀ (l : List Op) (i : Nat), i < l.length → cellAt (opCells l) (i * 2 + 0) = .int .i64 (opN l i).kind ∧ cellAt (opCells l) (i * 2 + 1) = .string (opN l i).val
  | [], _, h => absurd h (Nat.not_lt_zero _)
  | o :: l, 0, _ => ⟨rfl, rfl⟩
  | o :: l, i + 1, h => by
    have := opCells_at l i (by simp at h; omega)
    rw [opCells_cons]
    rw [show (i + 1) * 2 + 0 = (i * 2 + 0) + 1 + 1 by omega, show (i + 1) * 2 + 1 = (i * 2 + 1) + 1 + 1 by omega]
    exact this
end Go.Proofs.YthacfgaacleaeaaGreatDoor
namespace Go.Proofs.YthacfgaacleaeaaGreatDoor
open Go.RowKit Sym Go.ChangeShapes Go.WideShapes Go.ChangeMaps Inet
end Go.Proofs.YthacfgaacleaeaaGreatDoor
namespace Go.Proofs.YthacfgaacleaeaaGreatDoor
open Go.RowKit Sym Go.ChangeShapes Go.WideShapes Go.ChangeMaps Inet
end Go.Proofs.YthacfgaacleaeaaGreatDoor
namespace Go.Proofs.YthacfgaacleaeaaGreatDoor
open Go.RowKit Sym Go.ChangeShapes Go.WideShapes Go.ChangeMaps Inet
end Go.Proofs.YthacfgaacleaeaaGreatDoor
namespace Go.Proofs.YthacfgaacleaeaaGreatDoor
open Go.RowKit Sym Go.ChangeShapes Go.WideShapes Go.ChangeMaps Inet
end Go.Proofs.YthacfgaacleaeaaGreatDoor
namespace Go.Proofs.YthacfgaacleaeaaGreatDoor
open Go.RowKit Sym
structure BelowF (W : World) where
  w : World
  h : Below W.heap.size W w
instance (W : World) : Inhabited (BelowF W) := ⟨⟨W, Below.refl _ _⟩⟩
theorem wp_region_belowF {P : Program} {id : Nat} {Q : Exit → Act → World → Prop} {a : Act} {w : World} {l : List Oper} (hm : P.follows .mixedOrders = true) (hB : Region.lexB .any l.toArray = true)
    (h : wpQuiet P l.toArray (fun w' => ∃ p : BelowF w, w' = p.w) (fun a' => ∀ w', (∃ p : BelowF w, w' = p.w) → Q .normal a' w') l a) : (Code.region id l.toArray true).wp P Q a w :=
  wp_region_quiet (C := fun w' => ∃ p : BelowF w, w' = p.w) hm hB ⟨⟨w.drew, (Below.refl _ _).drew⟩, rfl⟩ (by simpa using h)
theorem below_leftF {P : Program} {f : FuncId} {args : Array Value} {W : World} {p : BelowF W} {v : Value}
    (h : Calls P f args p.w fun e w' => e = .returned v ∧ Below p.w.heap.size p.w w') : Calls P f args p.w fun e w'' => e = .returned v ∧ ∃ q : BelowF W, w'' = q.w :=
  h.mono fun _ w' ⟨he, hb⟩ => ⟨he, ⟨w', p.h.trans (hb.mono p.h.size)⟩, rfl⟩
theorem cell_byF {W : World} {a : Addr} {v : Value} (h : W.cell? a = some v) (p : BelowF W) : p.w.cell? a = some v := (p.h.cell (p := a) (lt_of_cell h)).trans h
def knP (a b : ByteArray) : Bool := !(decide (a = nilB) && decide (b = nilB))
set_option maxRecDepth 100000 in
theorem knownP_run (a b : ByteArray) : runV Tryz.prog (onlyS Tryz.prog noS) noL Tryz.f35 [.agg #[.string a, .string b]] = .leaf (Value.bool !(decide (a = ByteArray.mk (Array.mk [])) && (decide (b = ByteArray.mk (Array.mk [])) && true))) := by kernel_rfl
theorem known_at (a b : ByteArray) (w : World) : Calls Tryz.prog 35 #[.agg #[.string a, .string b]] w fun e w' => e = .returned (.bool (knP a b)) ∧ Below w.heap.size w w' := by
  refine calls_runV (onlyS_ok noS_ok) follows Tryz.func35 (by kernel_rfl) (by kernel_rfl) noL_ok (knownP_run a b) ?_ w
  show _ = _
  unfold knP nilB
  by_cases h1 : a = ByteArray.mk (Array.mk []) <;> by_cases h2 : b = ByteArray.mk (Array.mk []) <;> simp [h1, h2]
def chkD (a b : ByteArray) (side : Int) (L : List Mp) (data : ByteArray) : Int :=
  if knP a b = false then 10 else if ¬ (fS L 4 = true ∧ fS L 6 = true ∧ fS L 5 = true) then 8
  else if (fD L 5).bytes = tagP a b (dataText side (fD L 4).num (fD L 6).num data) then 0 else 14
def DatP (z : Int) (e : Ending) : Prop := (z = 0 ∧ e = .returned .nilIface) ∨ (z ≠ 0 ∧ ∃ part, e = .returned (.iface 126 (.agg #[.int .i64 part, .int .i64 z])))
theorem lacks_at {w : World} {v : Value} {L : List Mp} (hL : L.length ≤ 1000) (h : MusAt w v L) : Calls Tryz.prog 63 #[v] w fun e w' => e = .returned (lackV L (a3 L 4) (a3 L 6) (a3 L 5)) ∧ Below w.heap.size w w' := lacks_key hL h
def lkB (L : List Mp) : Bool := fS L 4 && fS L 6 && fS L 5
def lkX (L : List Mp) : Value := match lackV L (a3 L 4) (a3 L 6) (a3 L 5) with | .tuple ⟨[x, _]⟩ => x | x => x
def lkI (L : List Mp) : Int := if i3 L 4 < 0 then 0 else if i3 L 6 < 0 then 1 else 2
theorem lackV_yes {L : List Mp} (h : lkB L = true) : lackV L (a3 L 4) (a3 L 6) (a3 L 5) = .tuple #[.agg (acc3 (fD L 4) (fD L 6) (fD L 5)), .nilIface] := by
  unfold lkB at h
  simp only [Bool.and_eq_true] at h
  obtain ⟨⟨s4, s6⟩, s5⟩ := h
  rcases i3_at L 4 with ⟨-, q⟩ | ⟨g4, -, -, -, d4⟩
  · rw [q] at s4; cases s4
  rcases i3_at L 6 with ⟨-, q⟩ | ⟨g6, -, -, -, d6⟩
  · rw [q] at s6; cases s6
  rcases i3_at L 5 with ⟨-, q⟩ | ⟨g5, -, -, -, d5⟩
  · rw [q] at s5; cases s5
  unfold lackV
  rw [if_neg (by omega), if_neg (by omega), if_neg (by omega), d4, d6, d5]
theorem lackV_no {L : List Mp} (h : lkB L = false) : lackV L (a3 L 4) (a3 L 6) (a3 L 5) = .tuple #[lkX L, .iface 126 (.agg #[.int .i64 (lkI L), .int .i64 8])] := by
  unfold lkX lkI
  have hc : i3 L 4 < 0 ∨ i3 L 6 < 0 ∨ i3 L 5 < 0 := by
    rcases i3_at L 4 with ⟨q, -⟩ | ⟨-, -, -, s4, -⟩
    · exact .inl q
    rcases i3_at L 6 with ⟨q, -⟩ | ⟨-, -, -, s6, -⟩
    · exact .inr (.inl q)
    rcases i3_at L 5 with ⟨q, -⟩ | ⟨-, -, -, s5, -⟩
    · exact .inr (.inr q)
    unfold lkB at h
    rw [s4, s6, s5] at h; cases h
  unfold lackV
  by_cases h4 : i3 L 4 < 0
  · simp only [if_pos h4]
  · by_cases h6 : i3 L 6 < 0
    · simp only [if_neg h4, if_pos h6]
    · have h5 : i3 L 5 < 0 := by omega
      simp only [if_neg h4, if_neg h6, if_pos h5]
def lkC (L : List Mp) (i : Nat) : Value := match lkX L with | .agg ⟨l⟩ => l.getD i undef | _ => undef
def lkN (L : List Mp) (i : Nat) : Int := intV (lkC L i)
def lkT (L : List Mp) (i : Nat) : ByteArray := strV (lkC L i)
theorem lkX_cells {L : List Mp} (h : lkB L = false) : lkX L = .agg ⟨[.int .i64 (lkN L 0), .int .i64 (lkN L 1), .int .i64 (lkN L 2), .int .i64 (lkN L 3), .int .i64 (lkN L 4), .int .i64 (lkN L 5), .string (lkT L 6), .int .i64 (lkN L 7), .int .i64 (lkN L 8), .int .i64 (lkN L 9), .int .i64 (lkN L 10), .int .i64 (lkN L 11), .int .i64 (lkN L 12), .string (lkT L 13), .int .i64 (lkN L 14), .int .i64 (lkN L 15), .int .i64 (lkN L 16), .int .i64 (lkN L 17), .int .i64 (lkN L 18), .int .i64 (lkN L 19), .string (lkT L 20)]⟩ := by
  have hc : i3 L 4 < 0 ∨ i3 L 6 < 0 ∨ i3 L 5 < 0 := by
    rcases i3_at L 4 with ⟨q, -⟩ | ⟨-, -, -, s4, -⟩
    · exact .inl q
    rcases i3_at L 6 with ⟨q, -⟩ | ⟨-, -, -, s6, -⟩
    · exact .inr (.inl q)
    rcases i3_at L 5 with ⟨q, -⟩ | ⟨-, -, -, s5, -⟩
    · exact .inr (.inr q)
    unfold lkB at h
    rw [s4, s6, s5] at h; cases h
  unfold lkN lkT lkC lkX lackV
  by_cases h4 : i3 L 4 < 0
  · simp only [if_pos h4]; rfl
  · by_cases h6 : i3 L 6 < 0
    · simp only [if_neg h4, if_pos h6]; rfl
    · have h5 : i3 L 5 < 0 := by omega
      simp only [if_neg h4, if_neg h6, if_pos h5]; rfl
def fAllF : List SV → List Blk → Option (T (SV × List Blk))
  | [.ref 0], [.row n 2 f] => some (.need (OpP n f) (.leaf (.ref 1, [.row n 2 f, .vec true 65 7 (allM (opF f) n).length (cellsM (allM (opF f) n))])))
  | _, _ => none
set_option maxRecDepth 100000 in
theorem fAllF_ok : EntryOk Tryz.prog 33 fAllF := by
  intro ss H t h bs B w vs hm hv Qs hq
  unfold fAllF at h
  split at h
  · rename_i n f
    simp only [Option.some.injEq] at h
    subst h
    obtain ⟨hp, hq⟩ := hq
    obtain ⟨x0, r0, e0, v0, rfl⟩ := tos_cons hv
    obtain rfl := tos_nil v0
    simp only [SV.to] at e0
    have hrow := hm.sat.blk 0 _ x0 rfl e0
    have hO : OptsAt w x0 n (opF f) := optsAt_row (op_row (fun B' => hrow) hp.1)
    refine (mall_any hp.2 hO).mono ?_
    rintro e w' ⟨u, rfl, ho, hb⟩
    have hnew : ∀ b, blockOf u = some b → w.heap.size ≤ b := fun b hb => by
      rcases ho.2 with ⟨rfl, -⟩ | ⟨g, cap, cur, rfl, hbase, -⟩
      · cases hb
      · simp only [blockOf, Option.some.injEq] at hb; omega
    have ho0 : w'.ownsRow 0 65 7 u (allM (opF f) n).length (cellsM (allM (opF f) n)) := by
      refine ⟨ho.1, ?_⟩
      rcases ho.2 with q | ⟨g, cap, cur, q, -, q2⟩
      · exact .inl q
      · exact .inr ⟨g, cap, cur, q, Nat.zero_le _, q2⟩
    refine ⟨_, _, B ++ [u], u, hq, List.prefix_append _ _, rfl, ?_, hm.add (Sym.below_grown hb) hnew (.inl ho0)⟩
    have := ref_to hm.sat.len u
    simpa using this
  · cases h
def fLackF : List SV → List Blk → Option (T (SV × List Blk))
  | [.ref 0], [.row n 7 f] => some (.need (n ≤ 1000 ∧ AllM n f) (.ite (lkB (lstM n f)) (.leaf (.tup [.v (.agg ⟨[.int .i64 (fD (lstM n f) 4).kind, .int .i64 (fD (lstM n f) 4).addr, .int .i64 (fD (lstM n f) 4).prio, .int .i64 (fD (lstM n f) 4).num, .int .i64 (fD (lstM n f) 4).token, .int .i64 (fD (lstM n f) 4).nonce, .string (fD (lstM n f) 4).bytes, .int .i64 (fD (lstM n f) 6).kind, .int .i64 (fD (lstM n f) 6).addr, .int .i64 (fD (lstM n f) 6).prio, .int .i64 (fD (lstM n f) 6).num, .int .i64 (fD (lstM n f) 6).token, .int .i64 (fD (lstM n f) 6).nonce, .string (fD (lstM n f) 6).bytes, .int .i64 (fD (lstM n f) 5).kind, .int .i64 (fD (lstM n f) 5).addr, .int .i64 (fD (lstM n f) 5).prio, .int .i64 (fD (lstM n f) 5).num, .int .i64 (fD (lstM n f) 5).token, .int .i64 (fD (lstM n f) 5).nonce, .string (fD (lstM n f) 5).bytes]⟩), .c .nilIface], [.row n 7 f])) (.leaf (.tup [.v (.agg ⟨[.int .i64 (lkN (lstM n f) 0), .int .i64 (lkN (lstM n f) 1), .int .i64 (lkN (lstM n f) 2), .int .i64 (lkN (lstM n f) 3), .int .i64 (lkN (lstM n f) 4), .int .i64 (lkN (lstM n f) 5), .string (lkT (lstM n f) 6), .int .i64 (lkN (lstM n f) 7), .int .i64 (lkN (lstM n f) 8), .int .i64 (lkN (lstM n f) 9), .int .i64 (lkN (lstM n f) 10), .int .i64 (lkN (lstM n f) 11), .int .i64 (lkN (lstM n f) 12), .string (lkT (lstM n f) 13), .int .i64 (lkN (lstM n f) 14), .int .i64 (lkN (lstM n f) 15), .int .i64 (lkN (lstM n f) 16), .int .i64 (lkN (lstM n f) 17), .int .i64 (lkN (lstM n f) 18), .int .i64 (lkN (lstM n f) 19), .string (lkT (lstM n f) 20)]⟩), .v (.iface 126 (.agg ⟨[.int .i64 (lkI (lstM n f)), .int .i64 8]⟩))], [.row n 7 f]))))
  | _, _ => none
set_option maxRecDepth 100000 in
theorem fLackF_ok : EntryOk Tryz.prog 63 fLackF := by
  intro ss H t h bs B w vs hm hv Qs hq
  unfold fLackF at h
  split at h
  · rename_i n f
    simp only [Option.some.injEq] at h
    subst h
    obtain ⟨⟨hn, hall⟩, hq⟩ := hq
    obtain ⟨x0, r0, e0, v0, rfl⟩ := tos_cons hv
    obtain rfl := tos_nil v0
    simp only [SV.to] at e0
    have hrow := hm.sat.blk 0 _ x0 rfl e0
    have hM : MusAt w x0 (lstM n f) := musAt_row hrow (lstM_len n f).symm hall
    refine (lacks_at (by rw [lstM_len]; exact hn) hM).mono ?_
    rintro e w' ⟨rfl, hb⟩
    cases hk : lkB (lstM n f) with
    | true =>
      rw [lackV_yes hk]
      exact ⟨_, _, B, _, hq.1 hk, List.prefix_refl _, rfl, rfl, hm.below hb⟩
    | false =>
      rw [lackV_no hk, lkX_cells hk]
      exact ⟨_, _, B, _, hq.2 hk, List.prefix_refl _, rfl, rfl, hm.below hb⟩
  · cases h
def rdMu (r : List Mp → Value) : List SV → List Blk → Option (List Prop × Value)
  | [s], H => match rowIn 7 H s with
    | some (n, f) => some ([n ≤ 1000 ∧ AllM n f], r (lstM n f))
    | none => none
  | _, _ => none
theorem rdMu_ok {P : Program} {k : FuncId} {r : List Mp → Value} (hc : ∀ (L : List Mp) (v : Value) (w : World), L.length ≤ 1000 → MusAt w v L → Calls P k #[v] w fun e w' => e = .returned (r L) ∧ Below w.heap.size w w') : ReadOk P k (rdMu r) := by
  intro ss H q v h bs B w vs hm hv hp
  unfold rdMu at h
  split at h
  · split at h
    · rename_i n fr hr
      simp only [Option.some.injEq, Prod.mk.injEq] at h
      obtain ⟨rfl, rfl⟩ := h
      obtain ⟨x0, r0, e0, v0, rfl⟩ := tos_cons hv
      obtain rfl := tos_nil v0
      have hh := hp _ (List.mem_cons_self ..)
      exact hc (lstM n fr) x0 w (by rw [lstM_len]; exact hh.1) (musAt_row (rowIn_ok hm e0 hr B) (lstM_len n fr).symm hh.2)
    · cases h
  · cases h
def rdK (r : Int → Nat → (Nat → Op) → Value) : List SV → List Blk → Option (List Prop × Value)
  | [s, .v (.int .i64 k)], H => match rowIn 2 H s with
    | some (n, f) => some ([OpP n f], r k n (opF f))
    | none => none
  | _, _ => none
theorem rdK_ok {P : Program} {fn : FuncId} {r : Int → Nat → (Nat → Op) → Value} (hc : ∀ (k : Int) (n : Nat) (g : Nat → Op) (v : Value) (w : World), Few n g → OptsAt w v n g → Calls P fn #[v, .int .i64 k] w fun e w' => e = .returned (r k n g) ∧ Below w.heap.size w w') : ReadOk P fn (rdK r) := by
  intro ss H q v h bs B w vs hm hv hp
  unfold rdK at h
  split at h
  · split at h
    · rename_i n fr hr
      simp only [Option.some.injEq, Prod.mk.injEq] at h
      obtain ⟨rfl, rfl⟩ := h
      obtain ⟨x0, r0, e0, v0, rfl⟩ := tos_cons hv
      obtain ⟨x1, r1, e1, v1, rfl⟩ := tos_cons v0
      obtain rfl := tos_nil v1
      simp only [SV.to, Option.some.injEq] at e1
      subst e1
      have hh := hp _ (List.mem_cons_self ..)
      exact hc _ n (opF fr) x0 w hh.2 (optsAt_row (op_row (fun B' => rowIn_ok hm e0 hr B') hh.1))
    · cases h
  · cases h
def rdKK (r : Int → Int → Nat → (Nat → Op) → Value) : List SV → List Blk → Option (List Prop × Value)
  | [s, .v (.int .i64 k), .v (.int .i64 l)], H => match rowIn 2 H s with
    | some (n, f) => some ([OpP n f], r k l n (opF f))
    | none => none
  | _, _ => none
theorem rdKK_ok {P : Program} {fn : FuncId} {r : Int → Int → Nat → (Nat → Op) → Value} (hc : ∀ (k l : Int) (n : Nat) (g : Nat → Op) (v : Value) (w : World), Few n g → OptsAt w v n g → Calls P fn #[v, .int .i64 k, .int .i64 l] w fun e w' => e = .returned (r k l n g) ∧ Below w.heap.size w w') : ReadOk P fn (rdKK r) := by
  intro ss H q v h bs B w vs hm hv hp
  unfold rdKK at h
  split at h
  · split at h
    · rename_i n fr hr
      simp only [Option.some.injEq, Prod.mk.injEq] at h
      obtain ⟨rfl, rfl⟩ := h
      obtain ⟨x0, r0, e0, v0, rfl⟩ := tos_cons hv
      obtain ⟨x1, r1, e1, v1, rfl⟩ := tos_cons v0
      obtain ⟨x2, r2, e2, v2, rfl⟩ := tos_cons v1
      obtain rfl := tos_nil v2
      simp only [SV.to, Option.some.injEq] at e1 e2
      subst e1; subst e2
      have hh := hp _ (List.mem_cons_self ..)
      exact hc _ _ n (opF fr) x0 w hh.2 (optsAt_row (op_row (fun B' => rowIn_ok hm e0 hr B') hh.1))
    · cases h
  · cases h
def fstD (g : Nat → Op) (n : Nat) (a b : Int) : Mp := (fstM g n a b).getD Mp.none
def fstB (g : Nat → Op) (n : Nat) (a b : Int) : Bool := (fstM g n a b).isSome
def findFV (k : Int) (n : Nat) (g : Nat → Op) : Value := .tuple ⟨[.agg ⟨[.int .i64 (fstD g n k k).kind, .int .i64 (fstD g n k k).addr, .int .i64 (fstD g n k k).prio, .int .i64 (fstD g n k k).num, .int .i64 (fstD g n k k).token, .int .i64 (fstD g n k k).nonce, .string (fstD g n k k).bytes]⟩, .bool (fstB g n k k)]⟩
def firstV (k l : Int) (n : Nat) (g : Nat → Op) : Value := .tuple ⟨[.agg ⟨[.int .i64 (fstD g n k l).kind, .int .i64 (fstD g n k l).addr, .int .i64 (fstD g n k l).prio, .int .i64 (fstD g n k l).num, .int .i64 (fstD g n k l).token, .int .i64 (fstD g n k l).nonce, .string (fstD g n k l).bytes]⟩, .bool (fstB g n k l)]⟩
def ctlV (L : List Mp) : Value := .tuple ⟨[.agg ⟨[.int .i64 (ctlN (L.find? (inK 7 10))), .int .i64 (ctlK (L.find? (inK 7 10))), .int .i64 (ctlA (L.find? (inK 7 10))), .int .i64 (ctlP (L.find? (inK 7 10)))]⟩, .bool (L.find? (inK 7 10)).isSome]⟩
def FFg : LTab := addT 33 (fAllF) <| addT 63 (fLackF) <| addR 32 (rdMu ctlV) <| addR 34 (rdK findFV) <| addR 29 (rdKK firstV) <| noF
theorem FFg_ok : LOk Tryz.prog FFg := addT_ok (addT_ok (addR_ok (addR_ok (addR_ok (noF_ok) (by kernel_rfl) (rdKK_ok fun k l n g v w hf h => first_any k l hf h)) (by kernel_rfl) (rdK_ok fun k n g v w hf h => mfind_any k hf h)) (by kernel_rfl) (rdMu_ok fun L v w hL h => control_any hL h)) (by kernel_rfl) (fLackF_ok)) (by kernel_rfl) (fAllF_ok)
def tKnP : List Value → Option (List Prop × Value) | [.agg ⟨[.string a, .string b]⟩] => some ([], .bool (knP a b)) | _ => none
def SFg  : Tab := addS 35 tKnP <| addS 24 tData <| addS 36 tCtl <| addS 38 tCfm <| addS 47 tJoin <| addS 30 tTagR <| addS 31 tDataText <| addS 37 tCtlText <| addS 39 tCfmText <| addS 50 tJoinText <| noS
theorem SFg_ok : TabOk Tryz.prog (SFg) := by
  refine addS_ok (addS_ok (addS_ok (addS_ok (addS_ok (addS_ok (addS_ok (addS_ok (addS_ok (addS_ok (noS_ok) (by kernel_rfl) ?_) (by kernel_rfl) ?_) (by kernel_rfl) ?_) (by kernel_rfl) ?_) (by kernel_rfl) ?_) (by kernel_rfl) ?_) (by kernel_rfl) ?_) (by kernel_rfl) ?_) (by kernel_rfl) ?_) (by kernel_rfl) ?_
  · (intro xs p v h hp w; unfold tJoinText at h; (split at h) <;> first | (cases h; done) | (simp only [Option.some.injEq, Prod.mk.injEq] at h; obtain ⟨rfl, rfl⟩ := h; exact ref26_join _ _ _ _ _ w))
  · (intro xs p v h hp w; unfold tCfmText at h; (split at h) <;> first | (cases h; done) | (simp only [Option.some.injEq, Prod.mk.injEq] at h; obtain ⟨rfl, rfl⟩ := h; exact ref26_cfm _ _ w))
  · (intro xs p v h hp w; unfold tCtlText at h; (split at h) <;> first | (cases h; done) | (simp only [Option.some.injEq, Prod.mk.injEq] at h; obtain ⟨rfl, rfl⟩ := h; exact ref26_ctl _ _ _ _ _ w))
  · (intro xs p v h hp w; unfold tDataText at h; (split at h) <;> first | (cases h; done) | (simp only [Option.some.injEq, Prod.mk.injEq] at h; obtain ⟨rfl, rfl⟩ := h; exact ref26_data _ _ _ _ (hp _ (List.mem_cons_self ..)) w))
  · (intro xs p v h hp w; unfold tTagR at h; (split at h) <;> first | (cases h; done) | (simp only [Option.some.injEq, Prod.mk.injEq] at h; obtain ⟨rfl, rfl⟩ := h; exact ref26_tag _ _ _ (hp _ (List.mem_cons_self ..)) w))
  · (intro xs p v h hp w; unfold tJoin at h; (split at h) <;> first | (cases h; done) | (simp only [Option.some.injEq, Prod.mk.injEq] at h; obtain ⟨rfl, rfl⟩ := h; exact keys_Join _ _ _ _ _ _ _ (hp _ (List.mem_cons_self ..)) w))
  · (intro xs p v h hp w; unfold tCfm at h; (split at h) <;> first | (cases h; done) | (simp only [Option.some.injEq, Prod.mk.injEq] at h; obtain ⟨rfl, rfl⟩ := h; exact keys_Confirm _ _ _ _ (hp _ (List.mem_cons_self ..)) w))
  · (intro xs p v h hp w; unfold tCtl at h; (split at h) <;> first | (cases h; done) | (simp only [Option.some.injEq, Prod.mk.injEq] at h; obtain ⟨rfl, rfl⟩ := h; exact keys_Control _ _ _ _ _ _ _ (hp _ (List.mem_cons_self ..)) w))
  · (intro xs p v h hp w; unfold tData at h; (split at h) <;> first | (cases h; done) | (simp only [Option.some.injEq, Prod.mk.injEq] at h; obtain ⟨rfl, rfl⟩ := h; exact keys_Data _ _ _ _ _ _ (hp _ (List.mem_cons_self ..)) w))
  · (intro xs p v h hp w; unfold tKnP at h; (split at h) <;> first | (cases h; done) | (simp only [Option.some.injEq, Prod.mk.injEq] at h; obtain ⟨rfl, rfl⟩ := h; exact known_at _ _ w))
abbrev CFg (P : Program) : Cfg := both P SFg FFg [33, 63, 32, 34, 29]
theorem CFg_ok : CfgOk Tryz.prog (CFg Tryz.prog) := both_ok SFg_ok FFg_ok
end Go.Proofs.YthacfgaacleaeaaGreatDoor
namespace Go.Proofs.YthacfgaacleaeaaGreatDoor
open Go.RowKit Sym Sha Go.ChangeShapes Go.WideShapes Go.ChangeMaps
set_option maxRecDepth 100000 in
theorem dat_run (a b : ByteArray) (side : Int) (p : Pk) (n : Nat) (f : Nat → Nat → Value) : runO Tryz.prog (CFg Tryz.prog) noL Tryz.f27 [.v (.agg ⟨[.string a, .string b]⟩), .v (.int .i64 side), p.s (.ref 0)] [.row n 2 f] = .ite (!knP a b) (.leaf (Value.iface 126 (Value.agg (Array.mk [Value.int IntKind.i64 0, Value.int IntKind.i64 10])))) (.need (OpP n f) (.need ((allM (opF f) n).length ≤ 1000 ∧ AllM (allM (opF f) n).length fun i j => cellAt (cellsM (allM (opF f) n)) (i * 7 + j)) (.ite (lkB (lstM (allM (opF f) n).length fun i j => cellAt (cellsM (allM (opF f) n)) (i * 7 + j))) (.need ((0 : Int) ≤ (2 : Int) ∧ (2 : Int) < (3 : Int)) (.need ((0 : Int) ≤ (0 : Int) ∧ (0 : Int) < (3 : Int)) (.need ((0 : Int) ≤ (1 : Int) ∧ (1 : Int) < (3 : Int)) (.need (a.size ≤ 1000 ∧ b.size ≤ 1000 ∧ p.12.size ≤ 1000000) (.ite (!decide ((fD (lstM (allM (opF f) n).length fun i j => cellAt (cellsM (allM (opF f) n)) (i * 7 + j)) (5 : Int)).7 = tagP a b (dataText side (fD (lstM (allM (opF f) n).length fun i j => cellAt (cellsM (allM (opF f) n)) (i * 7 + j)) (4 : Int)).4 (fD (lstM (allM (opF f) n).length fun i j => cellAt (cellsM (allM (opF f) n)) (i * 7 + j)) (6 : Int)).4 p.12))) (.leaf (Value.iface 126 (Value.agg (Array.mk [Value.int IntKind.i64 2, Value.int IntKind.i64 14])))) (.leaf Value.nilIface)))))) (.ite true (.leaf (Value.iface 126 (Value.agg (Array.mk [Value.int IntKind.i64 (lkI (lstM (allM (opF f) n).length fun i j => cellAt (cellsM (allM (opF f) n)) (i * 7 + j))), Value.int IntKind.i64 8])))) (.need ((0 : Int) ≤ (2 : Int) ∧ (2 : Int) < (3 : Int)) (.need ((0 : Int) ≤ (0 : Int) ∧ (0 : Int) < (3 : Int)) (.need ((0 : Int) ≤ (1 : Int) ∧ (1 : Int) < (3 : Int)) (.need (a.size ≤ 1000 ∧ b.size ≤ 1000 ∧ p.12.size ≤ 1000000) (.ite (!decide (lkT (lstM (allM (opF f) n).length fun i j => cellAt (cellsM (allM (opF f) n)) (i * 7 + j)) 20 = tagP a b (dataText side (lkN (lstM (allM (opF f) n).length fun i j => cellAt (cellsM (allM (opF f) n)) (i * 7 + j)) 3) (lkN (lstM (allM (opF f) n).length fun i j => cellAt (cellsM (allM (opF f) n)) (i * 7 + j)) 10) p.12))) (.leaf (Value.iface 126 (Value.agg (Array.mk [Value.int IntKind.i64 2, Value.int IntKind.i64 14])))) (.leaf Value.nilIface)))))))))) := by kernel_rfl
set_option maxRecDepth 100000 in
theorem says_run (a b : ByteArray) (side : Int) (p : Pk) (n : Nat) (f : Nat → Nat → Value) : runO Tryz.prog (CFg Tryz.prog) noL Tryz.f13 [.v (.agg ⟨[.string a, .string b]⟩), .v (.int .i64 side), p.s (.ref 0)] [.row n 2 f] = .need (OpP n f)
  (.need ((allM (opF f) n).length ≤ 1000 ∧ AllM (allM (opF f) n).length fun i j => cellAt (cellsM (allM (opF f) n)) (i * 7 + j))
    (.need (OpP n f)
      (.ite (knP a b)
        (.ite
          (match List.find? (inK (7 : Int) (10 : Int)) (lstM (allM (opF f) n).length fun i j => cellAt (cellsM (allM (opF f) n)) (i * 7 + j)) with
          | some val => true
          | none => false)
          (.ite (fstB (opF f) n (5 : Int) (5 : Int)) (.need (a.size ≤ 1000 ∧ b.size ≤ 1000) (.leaf (Value.bool (decide ((fstD (opF f) n (5 : Int) (5 : Int)).7 = tagP a b (ctlText side (ctlN (List.find? (inK (7 : Int) (10 : Int)) (lstM (allM (opF f) n).length fun i j => cellAt (cellsM (allM (opF f) n)) (i * 7 + j)))) (ctlK (List.find? (inK (7 : Int) (10 : Int)) (lstM (allM (opF f) n).length fun i j => cellAt (cellsM (allM (opF f) n)) (i * 7 + j)))) (ctlA (List.find? (inK (7 : Int) (10 : Int)) (lstM (allM (opF f) n).length fun i j => cellAt (cellsM (allM (opF f) n)) (i * 7 + j)))) (ctlP (List.find? (inK (7 : Int) (10 : Int)) (lstM (allM (opF f) n).length fun i j => cellAt (cellsM (allM (opF f) n)) (i * 7 + j)))))))))) (.leaf (Value.bool false))) (.leaf (Value.bool false)))
        (.leaf (Value.bool false))))) := by kernel_rfl
set_option maxRecDepth 100000 in
theorem hears_run (a b : ByteArray) (side : Int) (p : Pk) (n : Nat) (f : Nat → Nat → Value) : runO Tryz.prog (CFg Tryz.prog) noL Tryz.f15 [.v (.agg ⟨[.string a, .string b]⟩), .v (.int .i64 side), p.s (.ref 0)] [.row n 2 f] = .need (OpP n f) (.ite (knP a b) (.ite (fstB (opF f) n (0 : Int) (0 : Int)) (.need (a.size ≤ 1000 ∧ b.size ≤ 1000) (.leaf (Value.bool (decide ((fstD (opF f) n (0 : Int) (0 : Int)).7 = tagP a b (cfmText side (fstD (opF f) n (0 : Int) (0 : Int)).4)))))) (.leaf (Value.bool false))) (.leaf (Value.bool false))) := by kernel_rfl
set_option maxRecDepth 100000 in
theorem rchk_run (a b : ByteArray) (side : Int) (p : Pk) (n : Nat) (f : Nat → Nat → Value) : runO Tryz.prog (CFg Tryz.prog) noL Tryz.f12 [.v (.string a), .v (.string b), .v (.int .i64 side), p.s (.ref 0)] [.row n 2 f] = .need (OpP n f) (.need (OpP n f) (.need (OpP n f) (.ite (decide (a = ByteArray.mk (Array.mk []))) (.leaf (Value.int IntKind.i64 10)) (.ite (!fstB (opF f) n (4 : Int) (4 : Int)) (.leaf (Value.int IntKind.i64 8)) (.ite (!fstB (opF f) n (6 : Int) (6 : Int)) (.leaf (Value.int IntKind.i64 8)) (.ite (!fstB (opF f) n (5 : Int) (5 : Int)) (.leaf (Value.int IntKind.i64 8)) (.need (p.12.size ≤ 1000000) (.need (a.size ≤ 1000 ∧ b.size ≤ 1000 ∧ (dataText side (fstD (opF f) n (4 : Int) (4 : Int)).4 (fstD (opF f) n (6 : Int) (6 : Int)).4 p.12).size ≤ 1000000000) (.ite (!decide ((fstD (opF f) n (5 : Int) (5 : Int)).7 = tagR a b (dataText side (fstD (opF f) n (4 : Int) (4 : Int)).4 (fstD (opF f) n (6 : Int) (6 : Int)).4 p.12))) (.leaf (Value.int IntKind.i64 14)) (.leaf (Value.int IntKind.i64 0))))))))))) := by kernel_rfl
set_option maxRecDepth 100000 in
theorem rsays_run (a b : ByteArray) (side : Int) (p : Pk) (n : Nat) (f : Nat → Nat → Value) : runO Tryz.prog (CFg Tryz.prog) noL Tryz.f14 [.v (.string a), .v (.string b), .v (.int .i64 side), p.s (.ref 0)] [.row n 2 f] = .need (OpP n f) (.need (OpP n f) (.ite (!decide (a = ByteArray.mk (Array.mk []))) (.ite (fstB (opF f) n (7 : Int) (10 : Int)) (.ite (fstB (opF f) n (5 : Int) (5 : Int)) (.need (a.size ≤ 1000 ∧ b.size ≤ 1000 ∧ (ctlText side (fstD (opF f) n (7 : Int) (10 : Int)).4 (IntKind.i64.wrap ((fstD (opF f) n (7 : Int) (10 : Int)).1 - (6 : Int))) (fstD (opF f) n (7 : Int) (10 : Int)).2 (fstD (opF f) n (7 : Int) (10 : Int)).3).size ≤ 1000000000) (.leaf (Value.bool (decide ((fstD (opF f) n (5 : Int) (5 : Int)).7 = tagR a b (ctlText side (fstD (opF f) n (7 : Int) (10 : Int)).4 (IntKind.i64.wrap ((fstD (opF f) n (7 : Int) (10 : Int)).1 - (6 : Int))) (fstD (opF f) n (7 : Int) (10 : Int)).2 (fstD (opF f) n (7 : Int) (10 : Int)).3)))))) (.leaf (Value.bool false))) (.leaf (Value.bool false))) (.leaf (Value.bool false)))) := by kernel_rfl
set_option maxRecDepth 100000 in
theorem rhears_run (a b : ByteArray) (side : Int) (p : Pk) (n : Nat) (f : Nat → Nat → Value) : runO Tryz.prog (CFg Tryz.prog) noL Tryz.f16 [.v (.string a), .v (.string b), .v (.int .i64 side), p.s (.ref 0)] [.row n 2 f] = .need (OpP n f) (.ite (!decide (a = ByteArray.mk (Array.mk []))) (.ite (fstB (opF f) n (0 : Int) (0 : Int)) (.need (a.size ≤ 1000 ∧ b.size ≤ 1000 ∧ (cfmText side (fstD (opF f) n (0 : Int) (0 : Int)).4).size ≤ 1000000000) (.leaf (Value.bool (decide ((fstD (opF f) n (0 : Int) (0 : Int)).7 = tagR a b (cfmText side (fstD (opF f) n (0 : Int) (0 : Int)).4)))))) (.leaf (Value.bool false))) (.leaf (Value.bool false))) := by kernel_rfl
theorem row_cellsM (L : List Mp) (i j : Nat) (hi : i < L.length) (hj : j < 7) : cellAt (cellsM L) (i * 7 + j) = rowM L i j := by
  have e := cellsM_at L i j hi hj
  have e2 : mAt L i = L[i] := by unfold mAt; rw [List.getD_eq_getElem?_getD, List.getElem?_eq_getElem hi]; rfl
  unfold rowM
  rw [e2]
  have e3 : (cellsM L)[i * 7 + j]? = some (L[i].c j) := by
    rw [e]
    match j, hj with
    | 0, _ => rfl
    | 1, _ => rfl
    | 2, _ => rfl
    | 3, _ => rfl
    | 4, _ => rfl
    | 5, _ => rfl
    | 6, _ => rfl
  unfold cellAt
  rw [List.getD_eq_getElem?_getD, e3]; rfl
theorem lst_congr (n : Nat) (f h : Nat → Nat → Value) (e : ∀ i j, i < n → j < 7 → f i j = h i j) : lstM n f = lstM n h := by
  unfold lstM
  apply List.map_congr_left
  intro i hi
  have hi := List.mem_range.1 hi
  rw [e i 0 hi (by omega), e i 1 hi (by omega), e i 2 hi (by omega), e i 3 hi (by omega), e i 4 hi (by omega), e i 5 hi (by omega), e i 6 hi (by omega)]
theorem lst_cells (L : List Mp) : (lstM L.length fun i j => cellAt (cellsM L) (i * 7 + j)) = L := by
  rw [lst_congr _ _ (rowM L) (fun i j hi hj => row_cellsM L i j hi hj), lstM_row]
theorem all_cells (L : List Mp) : AllM L.length fun i j => cellAt (cellsM L) (i * 7 + j) := fun i j hi hj => by
  rw [lst_cells]; exact row_cellsM L i j hi hj
def datV (a b : ByteArray) (side : Int) (L : List Mp) (data : ByteArray) : Value :=
  if knP a b = false then .iface 126 (.agg #[.int .i64 0, .int .i64 10])
  else if lkB L = false then .iface 126 (.agg #[.int .i64 (lkI L), .int .i64 8])
  else if (fD L 5).bytes = tagP a b (dataText side (fD L 4).num (fD L 6).num data) then .nilIface else .iface 126 (.agg #[.int .i64 2, .int .i64 14])
theorem lkB_iff {L : List Mp} : lkB L = true ↔ fS L 4 = true ∧ fS L 6 = true ∧ fS L 5 = true := by
  unfold lkB; rw [Bool.and_eq_true, Bool.and_eq_true, and_assoc]
theorem datV_P (a b : ByteArray) (side : Int) (L : List Mp) (data : ByteArray) : DatP (chkD a b side L data) (.returned (datV a b side L data)) := by
  unfold datV chkD DatP
  by_cases h1 : knP a b = false
  · rw [if_pos h1, if_pos h1]; exact .inr ⟨by decide, 0, rfl⟩
  · rw [if_neg h1, if_neg h1]
    by_cases h2 : lkB L = true
    · have c := lkB_iff.1 h2
      have e1 : (if lkB L = false then (Value.iface 126 (.agg #[.int .i64 (lkI L), .int .i64 8])) else if (fD L 5).bytes = tagP a b (dataText side (fD L 4).num (fD L 6).num data) then .nilIface else .iface 126 (.agg #[.int .i64 2, .int .i64 14])) = if (fD L 5).bytes = tagP a b (dataText side (fD L 4).num (fD L 6).num data) then .nilIface else .iface 126 (.agg #[.int .i64 2, .int .i64 14]) := if_neg (by rw [h2]; decide)
      have e2 : (if ¬ (fS L 4 = true ∧ fS L 6 = true ∧ fS L 5 = true) then (8 : Int) else if (fD L 5).bytes = tagP a b (dataText side (fD L 4).num (fD L 6).num data) then 0 else 14) = if (fD L 5).bytes = tagP a b (dataText side (fD L 4).num (fD L 6).num data) then 0 else 14 := if_neg (fun q => q c)
      rw [e1, e2]
      by_cases h3 : (fD L 5).bytes = tagP a b (dataText side (fD L 4).num (fD L 6).num data)
      · rw [if_pos h3, if_pos h3]; exact .inl ⟨rfl, rfl⟩
      · rw [if_neg h3, if_neg h3]; exact .inr ⟨by decide, 2, rfl⟩
    · have h2' : lkB L = false := by simpa using h2
      rw [if_pos h2', if_pos (fun q => h2 (lkB_iff.2 q) : ¬ (fS L 4 = true ∧ fS L 6 = true ∧ fS L 5 = true))]
      exact .inr ⟨by decide, lkI L, rfl⟩
theorem pk_s_tos (a b : ByteArray) (side : Int) (p : Pk) (o : Value) : SV.tos [o] [.v (.agg ⟨[.string a, .string b]⟩), .v (.int .i64 side), p.s (.ref 0)] = some [.agg ⟨[.string a, .string b]⟩, .int .i64 side, p.v o] := by
  simp [SV.tos, SV.to, Pk.s, Pk.v]
theorem pk_s_tos4 (a b : ByteArray) (side : Int) (p : Pk) (o : Value) : SV.tos [o] [.v (.string a), .v (.string b), .v (.int .i64 side), p.s (.ref 0)] = some [.string a, .string b, .int .i64 side, p.v o] := by
  simp [SV.tos, SV.to, Pk.s, Pk.v]
set_option maxRecDepth 100000 in
theorem datagram_any {w : World} {o : Value} {n : Nat} {g : Nat → Op} (a b : ByteArray) (side : Int) (p : Pk) (hf : Few n g) (h : ∀ B, BlkSat B w o (.row n 2 fun i j => (g i).c j)) (hs : a.size ≤ 1000 ∧ b.size ≤ 1000 ∧ p.data.size ≤ 1000000) :
    Calls Tryz.prog 27 #[.agg #[.string a, .string b], .int .i64 side, p.v o] w fun e w' => DatP (chkD a b side (allM g n) p.data) e ∧ Below w.heap.size w w' := by
  have key : Calls Tryz.prog 27 #[.agg #[.string a, .string b], .int .i64 side, p.v o] w fun e w' => e = .returned (datV a b side (allM g n) p.data) ∧ Below w.heap.size w w' := by
    refine calls_runO CFg_ok follows Tryz.func27 (by kernel_rfl) (by kernel_rfl) (noloops (by kernel_rfl)) (dat_run a b side p n fun i j => (g i).c j) ?_ (mem_row (h [o])) (pk_s_tos a b side p o)
    have hO : OpP n fun i j => (g i).c j := ⟨allOp_c n g, hf⟩
    rw [opF_c]
    have hL : (allM g n).length ≤ 1000 := Nat.le_trans (allM_len g n) hf.1
    have hA := all_cells (allM g n)
    rw [lst_cells]
    unfold datV
    refine ⟨fun q => ?_, fun q => ⟨hO, ⟨hL, hA⟩, fun q2 => ⟨⟨by omega, by omega⟩, ⟨by omega, by omega⟩, ⟨by omega, by omega⟩, hs, fun q3 => ?_, fun q3 => ?_⟩, fun q2 => ⟨fun _ => ?_, fun q3 => by cases q3⟩⟩⟩
    · have q : knP a b = false := by simpa using q
      rw [if_pos q]; rfl
    · have q : ¬ knP a b = false := by simpa using q
      have q3 : ¬ _ := of_decide_eq_false (by simpa using q3 : decide ((fD (allM g n) 5).bytes = tagP a b (dataText side (fD (allM g n) 4).num (fD (allM g n) 6).num p.data)) = false)
      rw [if_neg q, if_neg (by rw [q2]; decide), if_neg q3]; rfl
    · have q : ¬ knP a b = false := by simpa using q
      have q3 := of_decide_eq_true (by simpa using q3 : decide ((fD (allM g n) 5).bytes = tagP a b (dataText side (fD (allM g n) 4).num (fD (allM g n) 6).num p.data)) = true)
      rw [if_neg q, if_neg (by rw [q2]; decide), if_pos q3]; rfl
    · have q : ¬ knP a b = false := by simpa using q
      rw [if_neg q, if_pos q2]; rfl
  refine key.mono ?_
  rintro e w' ⟨rfl, hb⟩
  exact ⟨datV_P _ _ _ _ _, hb⟩
def chkG (kn : Bool) (tag : ByteArray → ByteArray) (side : Int) (g : Nat → Op) (n : Nat) (data : ByteArray) : Int :=
  if kn = false then 10 else if ¬ (fstB g n 4 4 = true ∧ fstB g n 6 6 = true ∧ fstB g n 5 5 = true) then 8
  else if (fstD g n 5 5).bytes = tag (dataText side (fstD g n 4 4).num (fstD g n 6 6).num data) then 0 else 14
def saysG (kn : Bool) (tag : ByteArray → ByteArray) (side : Int) (g : Nat → Op) (n : Nat) : Bool :=
  kn && (fstB g n 7 10 && (fstB g n 5 5 && decide ((fstD g n 5 5).bytes = tag (ctlText side (fstD g n 7 10).num ((fstD g n 7 10).kind - 6) (fstD g n 7 10).addr (fstD g n 7 10).prio))))
def hearsG (kn : Bool) (tag : ByteArray → ByteArray) (side : Int) (g : Nat → Op) (n : Nat) : Bool :=
  kn && (fstB g n 0 0 && decide ((fstD g n 0 0).bytes = tag (cfmText side (fstD g n 0 0).num)))
theorem ctl_some {g : Nat → Op} {n : Nat} (h : fstB g n 7 10 = true) : ctlK ((allM g n).find? (inK 7 10)) = (fstD g n 7 10).kind - 6 ∧ 7 ≤ (fstD g n 7 10).kind ∧ (fstD g n 7 10).kind ≤ 10 := by
  unfold fstB at h
  obtain ⟨m, hm⟩ := Option.isSome_iff_exists.1 h
  have e : fstD g n 7 10 = m := by unfold fstD; rw [hm]; rfl
  have hm' : (allM g n).find? (inK 7 10) = some m := hm
  have := inK_iff.1 (List.find?_some hm')
  rw [hm', e]
  exact ⟨rfl, this⟩
theorem ctl_get (g : Nat → Op) (n : Nat) : ctlN ((allM g n).find? (inK 7 10)) = (fstD g n 7 10).num ∧ ctlA ((allM g n).find? (inK 7 10)) = (fstD g n 7 10).addr ∧ ctlP ((allM g n).find? (inK 7 10)) = (fstD g n 7 10).prio := ⟨rfl, rfl, rfl⟩
set_option maxRecDepth 100000 in
theorem says_any {w : World} {o : Value} {n : Nat} {g : Nat → Op} (a b : ByteArray) (side : Int) (p : Pk) (hf : Few n g) (h : ∀ B, BlkSat B w o (.row n 2 fun i j => (g i).c j)) (hs : a.size ≤ 1000 ∧ b.size ≤ 1000) :
    Calls Tryz.prog 13 #[.agg #[.string a, .string b], .int .i64 side, p.v o] w fun e w' => e = .returned (.bool (saysG (knP a b) (tagP a b) side g n)) ∧ Below w.heap.size w w' := by
  refine calls_runO CFg_ok follows Tryz.func13 (by kernel_rfl) (by kernel_rfl) (noloops (by kernel_rfl)) (says_run a b side p n fun i j => (g i).c j) ?_ (mem_row (h [o])) (pk_s_tos a b side p o)
  have hO : OpP n fun i j => (g i).c j := ⟨allOp_c n g, hf⟩
  rw [opF_c]
  have hL : (allM g n).length ≤ 1000 := Nat.le_trans (allM_len g n) hf.1
  have hA := all_cells (allM g n)
  obtain ⟨c1, c2, c3⟩ := ctl_get g n
  have c0 := @ctl_some g n
  rw [lst_cells, c1, c2, c3]
  have hB : (allM g n).find? (inK 7 10) = fstM g n 7 10 := rfl
  unfold saysG
  refine ⟨hO, ⟨hL, hA⟩, hO, fun q1 => ⟨fun q2 => ⟨fun q3 => ⟨hs, ?_⟩, fun q3 => ?_⟩, fun q2 => ?_⟩, fun q1 => ?_⟩
  · have q2 : fstB g n 7 10 = true := by rw [← q2]; unfold fstB; rw [← hB]; cases (allM g n).find? (inK 7 10) <;> rfl
    rw [(c0 q2).1, q1, q2, q3]; rfl
  · rw [q3]; simp [T.ok]
  · have q2 : fstB g n 7 10 = false := by rw [← q2]; unfold fstB; rw [← hB]; cases (allM g n).find? (inK 7 10) <;> rfl
    rw [q2]; simp [T.ok]
  · rw [q1]; rfl
set_option maxRecDepth 100000 in
theorem hears_any {w : World} {o : Value} {n : Nat} {g : Nat → Op} (a b : ByteArray) (side : Int) (p : Pk) (hf : Few n g) (h : ∀ B, BlkSat B w o (.row n 2 fun i j => (g i).c j)) (hs : a.size ≤ 1000 ∧ b.size ≤ 1000) :
    Calls Tryz.prog 15 #[.agg #[.string a, .string b], .int .i64 side, p.v o] w fun e w' => e = .returned (.bool (hearsG (knP a b) (tagP a b) side g n)) ∧ Below w.heap.size w w' := by
  refine calls_runO CFg_ok follows Tryz.func15 (by kernel_rfl) (by kernel_rfl) (noloops (by kernel_rfl)) (hears_run a b side p n fun i j => (g i).c j) ?_ (mem_row (h [o])) (pk_s_tos a b side p o)
  have hO : OpP n fun i j => (g i).c j := ⟨allOp_c n g, hf⟩
  rw [opF_c]
  unfold hearsG
  refine ⟨hO, fun q1 => ⟨fun q2 => ⟨hs, ?_⟩, fun q2 => ?_⟩, fun q1 => ?_⟩
  · rw [q1, q2]; rfl
  · rw [q2]; simp [T.ok]
  · rw [q1]; rfl
set_option maxRecDepth 100000 in
theorem rhears_any {w : World} {o : Value} {n : Nat} {g : Nat → Op} (a b : ByteArray) (side : Int) (p : Pk) (hf : Few n g) (h : ∀ B, BlkSat B w o (.row n 2 fun i j => (g i).c j)) (hs : a.size ≤ 1000 ∧ b.size ≤ 1000) :
    Calls Tryz.prog 16 #[.string a, .string b, .int .i64 side, p.v o] w fun e w' => e = .returned (.bool (hearsG (!decide (a = nilB)) (tagR a b) side g n)) ∧ Below w.heap.size w w' := by
  refine calls_runO CFg_ok follows Tryz.func16 (by kernel_rfl) (by kernel_rfl) (noloops (by kernel_rfl)) (rhears_run a b side p n fun i j => (g i).c j) ?_ (mem_row (h [o])) (pk_s_tos4 a b side p o)
  have hO : OpP n fun i j => (g i).c j := ⟨allOp_c n g, hf⟩
  rw [opF_c]
  have hz : (cfmText side (fstD g n 0 0).num).size ≤ 1000000000 := by rw [cfmText_size]; decide
  unfold hearsG nilB
  refine ⟨hO, fun q1 => ⟨fun q2 => ⟨⟨hs.1, hs.2, hz⟩, ?_⟩, fun q2 => ?_⟩, fun q1 => ?_⟩
  · rw [q1, q2]; rfl
  · rw [q2]; simp [T.ok]
  · rw [q1]; rfl
set_option maxRecDepth 100000 in
theorem rsays_any {w : World} {o : Value} {n : Nat} {g : Nat → Op} (a b : ByteArray) (side : Int) (p : Pk) (hf : Few n g) (h : ∀ B, BlkSat B w o (.row n 2 fun i j => (g i).c j)) (hs : a.size ≤ 1000 ∧ b.size ≤ 1000) :
    Calls Tryz.prog 14 #[.string a, .string b, .int .i64 side, p.v o] w fun e w' => e = .returned (.bool (saysG (!decide (a = nilB)) (tagR a b) side g n)) ∧ Below w.heap.size w w' := by
  refine calls_runO CFg_ok follows Tryz.func14 (by kernel_rfl) (by kernel_rfl) (noloops (by kernel_rfl)) (rsays_run a b side p n fun i j => (g i).c j) ?_ (mem_row (h [o])) (pk_s_tos4 a b side p o)
  have hO : OpP n fun i j => (g i).c j := ⟨allOp_c n g, hf⟩
  rw [opF_c]
  have c0 := @ctl_some g n
  unfold saysG nilB
  refine ⟨hO, hO, fun q1 => ⟨fun q2 => ⟨fun q3 => ⟨⟨hs.1, hs.2, ?_⟩, ?_⟩, fun q3 => ?_⟩, fun q2 => ?_⟩, fun q1 => ?_⟩
  · rw [ctlText_size]; decide
  · obtain ⟨-, k1, k2⟩ := c0 q2
    have hw : IntKind.i64.wrap ((fstD g n 7 10).kind - 6) = (fstD g n 7 10).kind - 6 := w64 _ (by omega) (by omega)
    rw [hw, q1, q2, q3]; rfl
  · rw [q3]; simp [T.ok]
  · rw [q2]; simp [T.ok]
  · rw [q1]; rfl
set_option maxRecDepth 100000 in
theorem rchk_any {w : World} {o : Value} {n : Nat} {g : Nat → Op} (a b : ByteArray) (side : Int) (p : Pk) (hf : Few n g) (h : ∀ B, BlkSat B w o (.row n 2 fun i j => (g i).c j)) (hs : a.size ≤ 1000 ∧ b.size ≤ 1000 ∧ p.data.size ≤ 1000000) :
    Calls Tryz.prog 12 #[.string a, .string b, .int .i64 side, p.v o] w fun e w' => e = .returned (.int .i64 (chkG (!decide (a = nilB)) (tagR a b) side g n p.data)) ∧ Below w.heap.size w w' := by
  refine calls_runO CFg_ok follows Tryz.func12 (by kernel_rfl) (by kernel_rfl) (noloops (by kernel_rfl)) (rchk_run a b side p n fun i j => (g i).c j) ?_ (mem_row (h [o])) (pk_s_tos4 a b side p o)
  have hO : OpP n fun i j => (g i).c j := ⟨allOp_c n g, hf⟩
  rw [opF_c]
  unfold chkG nilB
  refine ⟨hO, hO, hO, fun q1 => ?_, fun q1 => ⟨fun q2 => ?_, fun q2 => ⟨fun q3 => ?_, fun q3 => ⟨fun q4 => ?_, fun q4 => ⟨hs.2.2, ⟨hs.1, hs.2.1, ?_⟩, fun q5 => ?_, fun q5 => ?_⟩⟩⟩⟩⟩
  · rw [if_pos (by rw [q1]; rfl)]; rfl
  · rw [if_neg (by rw [q1]; decide), if_pos (by simp at q2; simp [q2])]; rfl
  · rw [if_neg (by rw [q1]; decide), if_pos (by simp at q3; simp [q3])]; rfl
  · rw [if_neg (by rw [q1]; decide), if_pos (by simp at q4; simp [q4])]; rfl
  · have := hs.2.2
    rw [dataText_size]; omega
  · have q5 : ¬ (fstD g n 5 5).bytes = tagR a b (dataText side (fstD g n 4 4).num (fstD g n 6 6).num p.data) := by simpa using q5
    rw [if_neg (by rw [q1]; decide), if_neg (by simp at q2 q3 q4; simp [q2, q3, q4]), if_neg q5]; rfl
  · have q5 : (fstD g n 5 5).bytes = tagR a b (dataText side (fstD g n 4 4).num (fstD g n 6 6).num p.data) := by simpa using q5
    rw [if_neg (by rw [q1]; decide), if_neg (by simp at q2 q3 q4; simp [q2, q3, q4]), if_pos q5]; rfl
end Go.Proofs.YthacfgaacleaeaaGreatDoor
namespace Go.Proofs.YthacfgaacleaeaaGreatDoor
open Go.RowKit Sym
theorem row_belowF {w w' : World} {v : Value} {n : Nat} {f : Nat → Nat → Value} (h : ∀ B, BlkSat B w v (.row n 2 f)) (hb : Below w.heap.size w w') : ∀ B, BlkSat B w' v (.row n 2 f) := fun B => by
  obtain ⟨p, cap, rfl, h1, h2, h3⟩ := h B
  refine ⟨p, cap, rfl, h1, h2, fun i j hi hj => ?_⟩
  obtain ⟨a, rfl, hc⟩ := h3 i j hi hj
  exact ⟨a, rfl, old_cell hb hc⟩
set_option maxRecDepth 100000 in
set_option maxHeartbeats 4000000 in
theorem check_any {w : World} {o : Value} {n : Nat} {g : Nat → Op} (a b : ByteArray) (side : Int) (p : Pk) (hE : ErrT w) (hf : Few n g) (h : ∀ B, BlkSat B w o (.row n 2 fun i j => (g i).c j)) (hs : a.size ≤ 1000 ∧ b.size ≤ 1000 ∧ p.data.size ≤ 1000000) :
    Calls Tryz.prog 11 #[.agg #[.string a, .string b], .int .i64 side, p.v o] w fun e w' => e = .returned (.int .i64 (chkG (knP a b) (tagP a b) side g n p.data)) ∧ Below w.heap.size w w' := by
  have hdat : ∀ W, Below w.heap.size w W → Calls Tryz.prog 27 #[.agg #[.string a, .string b], .int .i64 side, p.v o] W fun e w' => DatP (chkG (knP a b) (tagP a b) side g n p.data) e ∧ Below W.heap.size W w' := fun W hb => datagram_any a b side p hf (row_belowF h hb) hs
  generalize chkG (knP a b) (tagP a b) side g n p.data = Z at *
  unfold Pk.v at *
  obtain ⟨pk, pl, ps, pd, pc, pv, pq, pa, pe, po, pt, px⟩ := p
  dsimp only at hdat hs ⊢
  clear hs h
  by_cases hZ : Z = 0
  · subst hZ
    have hdat : ∀ W, Below w.heap.size w W → Calls Tryz.prog 27 #[.agg #[.string a, .string b], .int .i64 side, .agg #[.int .i64 pk, .bool pl, .int .i64 ps, .int .i64 pd, .int .i64 pc, .int .i64 pv, .int .i64 pq, .int .i64 pa, .int .i64 pe, .int .i64 po, .int .i64 pt, o, .string px]] W fun e w' => e = .returned .nilIface ∧ Below W.heap.size W w' := fun W hb => (hdat W hb).mono fun e w' ⟨hP, hb⟩ => by
      rcases hP with ⟨-, he⟩ | ⟨hn, -⟩
      · exact ⟨he, hb⟩
      · exact absurd rfl hn
    go_enter Tryz.func11, Tryz.ntmps11
    go_wp2_with (first
      | (go_at_call 27; refine (hdat _ (by (repeat' (first | (with_reducible exact Below.refl _ _) | (with_reducible refine below_alloc ?_ _) | (with_reducible refine Below.drew ?_) | (with_reducible refine below_drewN ?_ _) | (with_reducible refine Below.setCell ?_ ?_ _) | (with_reducible assumption) | (with_reducible refine below_of ?_ (by assumption)) | omega | (simp only [World.size_alloc, World.size_setCell, World.size_drew, size_drewN] at *; omega) | (simp; omega))))).mono ?_; rintro e w1 ⟨rfl, hb⟩; have hbw : Below w.heap.size w w1 := below_of (by (repeat' (first | (with_reducible exact Below.refl _ _) | (with_reducible refine below_alloc ?_ _) | (with_reducible refine Below.drew ?_) | (with_reducible refine below_drewN ?_ _) | (with_reducible refine Below.setCell ?_ ?_ _) | (with_reducible assumption) | (with_reducible refine below_of ?_ (by assumption)) | omega | (simp only [World.size_alloc, World.size_setCell, World.size_drew, size_drewN] at *; omega) | (simp; omega)))) hb))
    go_ret
    exact ⟨rfl, hbw⟩
  · have hdat : ∀ W, Below w.heap.size w W → Calls Tryz.prog 27 #[.agg #[.string a, .string b], .int .i64 side, .agg #[.int .i64 pk, .bool pl, .int .i64 ps, .int .i64 pd, .int .i64 pc, .int .i64 pv, .int .i64 pq, .int .i64 pa, .int .i64 pe, .int .i64 po, .int .i64 pt, o, .string px]] W fun e w' => (∃ part, e = .returned (.iface 126 (.agg #[.int .i64 part, .int .i64 Z]))) ∧ Below W.heap.size W w' := fun W hb => (hdat W hb).mono fun e w' ⟨hP, hb⟩ => by
      rcases hP with ⟨h0, -⟩ | ⟨-, hp⟩
      · exact absurd h0 hZ
      · exact ⟨hp, hb⟩
    go_enter Tryz.func11, Tryz.ntmps11
    go_wp2_with (first
      | (go_at_call 27; refine (hdat _ (by (repeat' (first | (with_reducible exact Below.refl _ _) | (with_reducible refine below_alloc ?_ _) | (with_reducible refine Below.drew ?_) | (with_reducible refine below_drewN ?_ _) | (with_reducible refine Below.setCell ?_ ?_ _) | (with_reducible assumption) | (with_reducible refine below_of ?_ (by assumption)) | omega | (simp only [World.size_alloc, World.size_setCell, World.size_drew, size_drewN] at *; omega) | (simp; omega))))).mono ?_; rintro e w1 ⟨⟨part, rfl⟩, hb⟩; have hbw : Below w.heap.size w w1 := below_of (by (repeat' (first | (with_reducible exact Below.refl _ _) | (with_reducible refine below_alloc ?_ _) | (with_reducible refine Below.drew ?_) | (with_reducible refine below_drewN ?_ _) | (with_reducible refine Below.setCell ?_ ?_ _) | (with_reducible assumption) | (with_reducible refine below_of ?_ (by assumption)) | omega | (simp only [World.size_alloc, World.size_setCell, World.size_drew, size_drewN] at *; omega) | (simp; omega)))) hb; have hz := hb.size; (try simp only [World.size_alloc, World.size_setCell, World.size_drew, size_drewN] at hz); apply own_step (B := w.heap.size + 1 + 1) hb; (focus (repeat (first | (with_reducible assumption) | (with_reducible exact own_new _ _ _) | ((with_reducible apply own_new'); focus (first | omega | (simp; done) | (simp; omega))) | (with_reducible apply own_drewN) | (with_reducible apply own_drew) | (with_reducible apply own_alloc) | (with_reducible apply own_setT) | ((with_reducible apply own_set_otherH); focus (first | (simp; done) | (simp; omega)))))); intro hO0; have hk0 := hO0.2.1; have hl0 := hO0.1; have hf0 := hO0.2.2; (try simp only [List.setIfInBounds_toArray, List.set_cons_zero, List.set_cons_succ] at hO0 hk0))
      | (go_at_call 28; refine (as_any part Z ⟨w.heap.size + 1 + 1, 0, none⟩ _ w1 (hE.below hbw) (hk0 0) (hf0 0)).mono ?_; rintro e w2 ⟨rfl, W1, hbW, rfl⟩; have hbx : Below w.heap.size w W1 := below_of hbw hbW; have hOx := own_set (own_below hO0 hbW) 0 (by simp) (.int .i64 Z); have hcx := hOx.2.1 0))
    go_ret
    exact ⟨rfl, by (repeat' (first | (with_reducible exact Below.refl _ _) | (with_reducible refine below_alloc ?_ _) | (with_reducible refine Below.drew ?_) | (with_reducible refine below_drewN ?_ _) | (with_reducible refine Below.setCell ?_ ?_ _) | (with_reducible assumption) | (with_reducible refine below_of ?_ (by assumption)) | omega | (simp only [World.size_alloc, World.size_setCell, World.size_drew, size_drewN] at *; omega) | (simp; omega)))⟩
end Go.Proofs.YthacfgaacleaeaaGreatDoor
namespace Go.Proofs.YthacfgaacleaeaaGreatDoor
open Go.RowKit Sym Sha Go.ChangeShapes Go.WideShapes Go.ChangeMaps
structure MpF2 where
  nchk : Func
  bchk : Func
  nput : Func
  bput : Func
  spare : Func
  chk : Func
  cont : Func
  idx : Func
def FPm0 (P : Program) (N : MpFn) (M : MpF2) : LTab := addT 149 (inl P (onlyS P noS) noL N.num) <| addT 100 (inl P (onlyS P noS) noL N.of) <| addT 233 (inl P (onlyS P noS) (addL 0 (unrollB (runC P (onlyS P noS) noL M.idx.ntmps (loopAt M.idx 0)) 0 4) noL) M.idx) noF
abbrev CPm0 (P : Program) (N : MpFn) (M : MpF2) : Cfg := both P SOct (FPm0 P N M) [149, 100, 233]
def FPm1 (P : Program) (N : MpFn) (M : MpF2) : LTab := addT 232 (inl P (CPm0 P N M) noL M.cont) <| FPm0 P N M
abbrev CPm1 (P : Program) (N : MpFn) (M : MpF2) : Cfg := both P SOct (FPm1 P N M) [149, 100, 233, 232]
def FPm2 (P : Program) (N : MpFn) (M : MpF2) : LTab := addT 226 (inl P (CPm1 P N M) noL M.nchk) <| addT 229 (inl P (CPm1 P N M) noL M.bchk) <| addT 227 (inl P (CPm1 P N M) noL M.nput) <| addT 230 (inl P (CPm1 P N M) noL M.bput) <| addT 148 (inl P (CPm1 P N M) (addL 0 (unrollB (runC P (CPm1 P N M) noL M.spare.ntmps (loopAt M.spare 0)) 0 4) noL) M.spare) <| FPm1 P N M
abbrev CPm2 (P : Program) (N : MpFn) (M : MpF2) : Cfg := both P SOct (FPm2 P N M) [149, 100, 233, 232, 226, 229, 227, 230, 148]
def FPm3 (P : Program) (N : MpFn) (M : MpF2) : LTab := addT 99 (inl P (CPm2 P N M) (addL 0 (unrollB (runC P (CPm2 P N M) noL M.chk.ntmps (loopAt M.chk 0)) 0 4) noL) M.chk) <| FPm2 P N M
abbrev CPm3 (P : Program) (N : MpFn) (M : MpF2) : Cfg := both P SOct (FPm3 P N M) [149, 100, 233, 232, 226, 229, 227, 230, 148, 99]
def LPm (P : Program) (N : MpFn) (M : MpF2) (put : Func) : Nat → St → Option (T (Ex × St)) := addL 0 (unrollB (runC P (CPm3 P N M) noL put.ntmps (loopAt put 0)) 0 4) noL
set_option maxRecDepth 100000 in
theorem put4_run (z : Int) : runO Tryz.prog (CPm3 Tryz.prog (MpFn.mk Tryz.f149 Tryz.f150 Tryz.f153 Tryz.f151 Tryz.f152 Tryz.f100 Tryz.f228 Tryz.f231) (MpF2.mk Tryz.f226 Tryz.f229 Tryz.f227 Tryz.f230 Tryz.f148 Tryz.f99 Tryz.f232 Tryz.f233)) (LPm Tryz.prog (MpFn.mk Tryz.f149 Tryz.f150 Tryz.f153 Tryz.f151 Tryz.f152 Tryz.f100 Tryz.f228 Tryz.f231) (MpF2.mk Tryz.f226 Tryz.f229 Tryz.f227 Tryz.f230 Tryz.f148 Tryz.f99 Tryz.f232 Tryz.f233) Tryz.f54) Tryz.f54 [.agg [.c (.int .i64 4), .c (.int .i64 0), .c (.int .i64 0), .v (.int .i64 z), .c (.int .i64 0), .c (.int .i64 0), .c (.string ⟨⟨[]⟩⟩)]] [] = .ite false (.need ((0 : Int) ≤ (0 : Int) ∧ (0 : Int) < (2 : Int)) (.ite (decide (z < (0 : Int))) (.leaf (Value.tuple (Array.mk [Value.agg (Array.mk [Value.int IntKind.i64 0, Value.string (ByteArray.mk (Array.mk []))]), Value.int IntKind.i64 3]))) (.ite (!decide (z.fdiv (4294967296 : Int) = (0 : Int))) (.leaf (Value.tuple (Array.mk [Value.agg (Array.mk [Value.int IntKind.i64 0, Value.string (ByteArray.mk (Array.mk []))]), Value.int IntKind.i64 3]))) (.need ((0 : Int) ≤ (1 : Int) ∧ (1 : Int) < (2 : Int)) (.ite true (.need ((0 : Int) ≤ (0 : Int) ∧ (0 : Int) < (1 : Int)) (.need (0 < 1) (.ite false (.need ((0 : Int) ≤ (0 : Int) ∧ (0 : Int) < (2 : Int)) (.need ((0 : Int) ≤ (1 : Int) ∧ (1 : Int) < (2 : Int)) (.ite false (.leaf (Value.tuple (Array.mk [Value.agg (Array.mk [Value.int IntKind.i64 0, Value.string (ByteArray.mk (Array.mk []))]), Value.int IntKind.i64 4]))) (.need ((0 : Int) ≤ (1 : Int) ∧ (1 : Int) ≤ (8 : Int) ∧ 0 ≤ 1099511627776) (.need ((0 : Int) ≤ (0 : Int) ∧ (0 : Int) < (1 : Int)) (.need ((0 : Int) ≤ (6 : Int) ∧ (6 : Int) ≤ (8 : Int) ∧ 1 ≤ 1099511627776) (.leaf (Value.tuple (Array.mk [Value.agg (Array.mk [Value.int IntKind.i64 46, Value.string (Oct.put (ByteArray.mk (Array.mk ((Array.mk []).toList ++ Oct.be 4 1))) z (6 : Int))]), Value.int IntKind.i64 0]))))))))) (.ite false (.need ((0 : Int) ≤ (1 : Int) ∧ (1 : Int) < (1 : Int)) (.need (1 < 1) (T.stuck 61))) (.leaf (Value.tuple (Array.mk [Value.agg (Array.mk [Value.int IntKind.i64 0, Value.string (ByteArray.mk (Array.mk []))]), Value.int IntKind.i64 11]))))))) (.leaf (Value.tuple (Array.mk [Value.agg (Array.mk [Value.int IntKind.i64 0, Value.string (ByteArray.mk (Array.mk []))]), Value.int IntKind.i64 11])))))))) (.ite false (.need ((0 : Int) ≤ (0 : Int) ∧ (0 : Int) < (3 : Int)) (T.stuck 2150)) (.ite false (.need ((0 : Int) ≤ (0 : Int) ∧ (0 : Int) < (1 : Int)) (.ite true (.need ((0 : Int) ≤ (0 : Int) ∧ (0 : Int) < (2 : Int)) (.need (0 < 2) (.ite false (.need ((0 : Int) ≤ (0 : Int) ∧ (0 : Int) < (1 : Int)) (.ite (!(true && (true && (true && (decide (z = (0 : Int)) && true))))) (.leaf (Value.tuple (Array.mk [Value.agg (Array.mk [Value.int IntKind.i64 0, Value.string (ByteArray.mk (Array.mk []))]), Value.int IntKind.i64 4]))) (.need ((0 : Int) ≤ (1 : Int) ∧ (1 : Int) ≤ (8 : Int) ∧ 0 ≤ 1099511627776) (.need ((0 : Int) ≤ (0 : Int) ∧ (0 : Int) < (1 : Int)) (.need ((0 : Int) ≤ (6 : Int) ∧ (6 : Int) ≤ (8 : Int) ∧ 1 ≤ 1099511627776) (.leaf (Value.tuple (Array.mk [Value.agg (Array.mk [Value.int IntKind.i64 46, Value.string (Oct.put (ByteArray.mk (Array.mk ((Array.mk []).toList ++ Oct.be 4 1))) z (6 : Int))]), Value.int IntKind.i64 0])))))))) (.ite true (.need ((0 : Int) ≤ (1 : Int) ∧ (1 : Int) < (2 : Int)) (.need (1 < 2) (.ite false (.need ((0 : Int) ≤ (0 : Int) ∧ (0 : Int) < (1 : Int)) (.ite (!(true && (true && (true && (decide (z = (0 : Int)) && true))))) (.leaf (Value.tuple (Array.mk [Value.agg (Array.mk [Value.int IntKind.i64 0, Value.string (ByteArray.mk (Array.mk []))]), Value.int IntKind.i64 4]))) (.need ((0 : Int) ≤ (1 : Int) ∧ (1 : Int) ≤ (8 : Int) ∧ 0 ≤ 1099511627776) (.need ((0 : Int) ≤ (0 : Int) ∧ (0 : Int) < (1 : Int)) (.need ((0 : Int) ≤ (6 : Int) ∧ (6 : Int) ≤ (8 : Int) ∧ 1 ≤ 1099511627776) (.leaf (Value.tuple (Array.mk [Value.agg (Array.mk [Value.int IntKind.i64 46, Value.string (Oct.put (ByteArray.mk (Array.mk ((Array.mk []).toList ++ Oct.be 4 1))) z (6 : Int))]), Value.int IntKind.i64 0])))))))) (.ite false (.need ((0 : Int) ≤ (2 : Int) ∧ (2 : Int) < (2 : Int)) (.need (2 < 2) (T.stuck 61))) (.leaf (Value.tuple (Array.mk [Value.agg (Array.mk [Value.int IntKind.i64 0, Value.string (ByteArray.mk (Array.mk []))]), Value.int IntKind.i64 11]))))))) (.leaf (Value.tuple (Array.mk [Value.agg (Array.mk [Value.int IntKind.i64 0, Value.string (ByteArray.mk (Array.mk []))]), Value.int IntKind.i64 11]))))))) (.leaf (Value.tuple (Array.mk [Value.agg (Array.mk [Value.int IntKind.i64 0, Value.string (ByteArray.mk (Array.mk []))]), Value.int IntKind.i64 11]))))) (.ite true (.need ((0 : Int) ≤ (0 : Int) ∧ (0 : Int) < (1 : Int)) (.ite (decide (z < (0 : Int))) (.leaf (Value.tuple (Array.mk [Value.agg (Array.mk [Value.int IntKind.i64 0, Value.string (ByteArray.mk (Array.mk []))]), Value.int IntKind.i64 3]))) (.ite (!decide (z.fdiv (281474976710656 : Int) = (0 : Int))) (.leaf (Value.tuple (Array.mk [Value.agg (Array.mk [Value.int IntKind.i64 0, Value.string (ByteArray.mk (Array.mk []))]), Value.int IntKind.i64 3]))) (.need ((0 : Int) ≤ (0 : Int) ∧ (0 : Int) < (1 : Int)) (.ite false (.leaf (Value.tuple (Array.mk [Value.agg (Array.mk [Value.int IntKind.i64 0, Value.string (ByteArray.mk (Array.mk []))]), Value.int IntKind.i64 4]))) (.need ((0 : Int) ≤ (1 : Int) ∧ (1 : Int) ≤ (8 : Int) ∧ 0 ≤ 1099511627776) (.need ((0 : Int) ≤ (0 : Int) ∧ (0 : Int) < (1 : Int)) (.need ((0 : Int) ≤ (6 : Int) ∧ (6 : Int) ≤ (8 : Int) ∧ 1 ≤ 1099511627776) (.leaf (Value.tuple (Array.mk [Value.agg (Array.mk [Value.int IntKind.i64 46, Value.string (Oct.put (ByteArray.mk (Array.mk ((Array.mk []).toList ++ Oct.be 4 1))) z (6 : Int))]), Value.int IntKind.i64 0]))))))))))) (.ite false (.need ((0 : Int) ≤ (0 : Int) ∧ (0 : Int) < (1 : Int)) (.ite true (.need ((0 : Int) ≤ (0 : Int) ∧ (0 : Int) < (1 : Int)) (.need (0 < 1) (.ite false (.need ((0 : Int) ≤ (0 : Int) ∧ (0 : Int) < (1 : Int)) (.ite (!(true && (true && (true && (decide (z = (0 : Int)) && true))))) (.leaf (Value.tuple (Array.mk [Value.agg (Array.mk [Value.int IntKind.i64 0, Value.string (ByteArray.mk (Array.mk []))]), Value.int IntKind.i64 4]))) (.need ((0 : Int) ≤ (1 : Int) ∧ (1 : Int) ≤ (8 : Int) ∧ 0 ≤ 1099511627776) (.need ((0 : Int) ≤ (0 : Int) ∧ (0 : Int) < (1 : Int)) (.need ((0 : Int) ≤ (6 : Int) ∧ (6 : Int) ≤ (8 : Int) ∧ 1 ≤ 1099511627776) (.leaf (Value.tuple (Array.mk [Value.agg (Array.mk [Value.int IntKind.i64 46, Value.string (Oct.put (ByteArray.mk (Array.mk ((Array.mk []).toList ++ Oct.be 4 1))) z (6 : Int))]), Value.int IntKind.i64 0])))))))) (.ite false (.need ((0 : Int) ≤ (1 : Int) ∧ (1 : Int) < (1 : Int)) (.need (1 < 1) (T.stuck 61))) (.leaf (Value.tuple (Array.mk [Value.agg (Array.mk [Value.int IntKind.i64 0, Value.string (ByteArray.mk (Array.mk []))]), Value.int IntKind.i64 11]))))))) (.leaf (Value.tuple (Array.mk [Value.agg (Array.mk [Value.int IntKind.i64 0, Value.string (ByteArray.mk (Array.mk []))]), Value.int IntKind.i64 11]))))) (.ite false (.need ((0 : Int) ≤ (0 : Int) ∧ (0 : Int) < (1 : Int)) (.ite (decide (z < (0 : Int))) (.leaf (Value.tuple (Array.mk [Value.agg (Array.mk [Value.int IntKind.i64 0, Value.string (ByteArray.mk (Array.mk []))]), Value.int IntKind.i64 3]))) (.ite (!decide (z.fdiv (65536 : Int) = (0 : Int))) (.leaf (Value.tuple (Array.mk [Value.agg (Array.mk [Value.int IntKind.i64 0, Value.string (ByteArray.mk (Array.mk []))]), Value.int IntKind.i64 3]))) (.need ((0 : Int) ≤ (0 : Int) ∧ (0 : Int) < (1 : Int)) (.ite false (.leaf (Value.tuple (Array.mk [Value.agg (Array.mk [Value.int IntKind.i64 0, Value.string (ByteArray.mk (Array.mk []))]), Value.int IntKind.i64 4]))) (.need ((0 : Int) ≤ (1 : Int) ∧ (1 : Int) ≤ (8 : Int) ∧ 0 ≤ 1099511627776) (.need ((0 : Int) ≤ (0 : Int) ∧ (0 : Int) < (1 : Int)) (.need ((0 : Int) ≤ (6 : Int) ∧ (6 : Int) ≤ (8 : Int) ∧ 1 ≤ 1099511627776) (.leaf (Value.tuple (Array.mk [Value.agg (Array.mk [Value.int IntKind.i64 46, Value.string (Oct.put (ByteArray.mk (Array.mk ((Array.mk []).toList ++ Oct.be 4 1))) z (6 : Int))]), Value.int IntKind.i64 0]))))))))))) (.ite false (.need ((0 : Int) ≤ (0 : Int) ∧ (0 : Int) < (2 : Int)) (T.stuck 2150)) (.ite false (.need ((0 : Int) ≤ (0 : Int) ∧ (0 : Int) < (2 : Int)) (T.stuck 2150)) (.ite false (.need ((0 : Int) ≤ (0 : Int) ∧ (0 : Int) < (3 : Int)) (T.stuck 2150)) (.ite false (.need ((0 : Int) ≤ (0 : Int) ∧ (0 : Int) < (1 : Int)) (.ite (decide (z < (0 : Int))) (.leaf (Value.tuple (Array.mk [Value.agg (Array.mk [Value.int IntKind.i64 0, Value.string (ByteArray.mk (Array.mk []))]), Value.int IntKind.i64 3]))) (.ite (!decide (z.fdiv (4294967296 : Int) = (0 : Int))) (.leaf (Value.tuple (Array.mk [Value.agg (Array.mk [Value.int IntKind.i64 0, Value.string (ByteArray.mk (Array.mk []))]), Value.int IntKind.i64 3]))) (.need ((0 : Int) ≤ (0 : Int) ∧ (0 : Int) < (1 : Int)) (.ite false (.leaf (Value.tuple (Array.mk [Value.agg (Array.mk [Value.int IntKind.i64 0, Value.string (ByteArray.mk (Array.mk []))]), Value.int IntKind.i64 4]))) (.need ((0 : Int) ≤ (1 : Int) ∧ (1 : Int) ≤ (8 : Int) ∧ 0 ≤ 1099511627776) (.need ((0 : Int) ≤ (0 : Int) ∧ (0 : Int) < (1 : Int)) (.need ((0 : Int) ≤ (6 : Int) ∧ (6 : Int) ≤ (8 : Int) ∧ 1 ≤ 1099511627776) (.leaf (Value.tuple (Array.mk [Value.agg (Array.mk [Value.int IntKind.i64 46, Value.string (Oct.put (ByteArray.mk (Array.mk ((Array.mk []).toList ++ Oct.be 4 1))) z (6 : Int))]), Value.int IntKind.i64 0]))))))))))) (.ite false (.need ((0 : Int) ≤ (0 : Int) ∧ (0 : Int) < (1 : Int)) (.ite (decide (z < (0 : Int))) (.leaf (Value.tuple (Array.mk [Value.agg (Array.mk [Value.int IntKind.i64 0, Value.string (ByteArray.mk (Array.mk []))]), Value.int IntKind.i64 3]))) (.ite (!decide (z.fdiv (256 : Int) = (0 : Int))) (.leaf (Value.tuple (Array.mk [Value.agg (Array.mk [Value.int IntKind.i64 0, Value.string (ByteArray.mk (Array.mk []))]), Value.int IntKind.i64 3]))) (.need ((0 : Int) ≤ (0 : Int) ∧ (0 : Int) < (1 : Int)) (.ite false (.leaf (Value.tuple (Array.mk [Value.agg (Array.mk [Value.int IntKind.i64 0, Value.string (ByteArray.mk (Array.mk []))]), Value.int IntKind.i64 4]))) (.need ((0 : Int) ≤ (1 : Int) ∧ (1 : Int) ≤ (8 : Int) ∧ 0 ≤ 1099511627776) (.need ((0 : Int) ≤ (0 : Int) ∧ (0 : Int) < (1 : Int)) (.need ((0 : Int) ≤ (6 : Int) ∧ (6 : Int) ≤ (8 : Int) ∧ 1 ≤ 1099511627776) (.leaf (Value.tuple (Array.mk [Value.agg (Array.mk [Value.int IntKind.i64 46, Value.string (Oct.put (ByteArray.mk (Array.mk ((Array.mk []).toList ++ Oct.be 4 1))) z (6 : Int))]), Value.int IntKind.i64 0]))))))))))) (.ite true (.leaf (Value.tuple (Array.mk [Value.agg (Array.mk [Value.int IntKind.i64 0, Value.string (ByteArray.mk (Array.mk []))]), Value.int IntKind.i64 7]))) (.ite false (T.stuck 2) (.ite false (T.stuck 2) (.ite (!(true && (true && (true && (decide (z = (0 : Int)) && true))))) (.leaf (Value.tuple (Array.mk [Value.agg (Array.mk [Value.int IntKind.i64 0, Value.string (ByteArray.mk (Array.mk []))]), Value.int IntKind.i64 4]))) (.need ((0 : Int) ≤ (1 : Int) ∧ (1 : Int) ≤ (8 : Int) ∧ 0 ≤ 1099511627776) (.need ((0 : Int) ≤ (0 : Int) ∧ (0 : Int) < (1 : Int)) (.need ((0 : Int) ≤ (6 : Int) ∧ (6 : Int) ≤ (8 : Int) ∧ 1 ≤ 1099511627776) (.leaf (Value.tuple (Array.mk [Value.agg (Array.mk [Value.int IntKind.i64 46, Value.string (Oct.put (ByteArray.mk (Array.mk ((Array.mk []).toList ++ Oct.be 4 1))) z (6 : Int))]), Value.int IntKind.i64 0])))))))))))))))))))) := by kernel_rfl
set_option maxRecDepth 100000 in
theorem put6_run (z : Int) : runO Tryz.prog (CPm3 Tryz.prog (MpFn.mk Tryz.f149 Tryz.f150 Tryz.f153 Tryz.f151 Tryz.f152 Tryz.f100 Tryz.f228 Tryz.f231) (MpF2.mk Tryz.f226 Tryz.f229 Tryz.f227 Tryz.f230 Tryz.f148 Tryz.f99 Tryz.f232 Tryz.f233)) (LPm Tryz.prog (MpFn.mk Tryz.f149 Tryz.f150 Tryz.f153 Tryz.f151 Tryz.f152 Tryz.f100 Tryz.f228 Tryz.f231) (MpF2.mk Tryz.f226 Tryz.f229 Tryz.f227 Tryz.f230 Tryz.f148 Tryz.f99 Tryz.f232 Tryz.f233) Tryz.f54) Tryz.f54 [.agg [.c (.int .i64 6), .c (.int .i64 0), .c (.int .i64 0), .v (.int .i64 z), .c (.int .i64 0), .c (.int .i64 0), .c (.string ⟨⟨[]⟩⟩)]] [] = .ite false (.need ((0 : Int) ≤ (0 : Int) ∧ (0 : Int) < (2 : Int)) (.ite (decide (z < (0 : Int))) (.leaf (Value.tuple (Array.mk [Value.agg (Array.mk [Value.int IntKind.i64 0, Value.string (ByteArray.mk (Array.mk []))]), Value.int IntKind.i64 3]))) (.ite (!decide (z.fdiv (4294967296 : Int) = (0 : Int))) (.leaf (Value.tuple (Array.mk [Value.agg (Array.mk [Value.int IntKind.i64 0, Value.string (ByteArray.mk (Array.mk []))]), Value.int IntKind.i64 3]))) (.need ((0 : Int) ≤ (1 : Int) ∧ (1 : Int) < (2 : Int)) (.ite true (.need ((0 : Int) ≤ (0 : Int) ∧ (0 : Int) < (1 : Int)) (.need (0 < 1) (.ite false (.need ((0 : Int) ≤ (0 : Int) ∧ (0 : Int) < (2 : Int)) (.need ((0 : Int) ≤ (1 : Int) ∧ (1 : Int) < (2 : Int)) (.ite false (.leaf (Value.tuple (Array.mk [Value.agg (Array.mk [Value.int IntKind.i64 0, Value.string (ByteArray.mk (Array.mk []))]), Value.int IntKind.i64 4]))) (.need ((0 : Int) ≤ (1 : Int) ∧ (1 : Int) ≤ (8 : Int) ∧ 0 ≤ 1099511627776) (.need ((0 : Int) ≤ (0 : Int) ∧ (0 : Int) < (1 : Int)) (.need ((0 : Int) ≤ (2 : Int) ∧ (2 : Int) ≤ (8 : Int) ∧ 1 ≤ 1099511627776) (.leaf (Value.tuple (Array.mk [Value.agg (Array.mk [Value.int IntKind.i64 46, Value.string (Oct.put (ByteArray.mk (Array.mk ((Array.mk []).toList ++ Oct.be 6 1))) z (2 : Int))]), Value.int IntKind.i64 0]))))))))) (.ite false (.need ((0 : Int) ≤ (1 : Int) ∧ (1 : Int) < (1 : Int)) (.need (1 < 1) (T.stuck 61))) (.leaf (Value.tuple (Array.mk [Value.agg (Array.mk [Value.int IntKind.i64 0, Value.string (ByteArray.mk (Array.mk []))]), Value.int IntKind.i64 11]))))))) (.leaf (Value.tuple (Array.mk [Value.agg (Array.mk [Value.int IntKind.i64 0, Value.string (ByteArray.mk (Array.mk []))]), Value.int IntKind.i64 11])))))))) (.ite false (.need ((0 : Int) ≤ (0 : Int) ∧ (0 : Int) < (3 : Int)) (T.stuck 2150)) (.ite false (.need ((0 : Int) ≤ (0 : Int) ∧ (0 : Int) < (1 : Int)) (.ite true (.need ((0 : Int) ≤ (0 : Int) ∧ (0 : Int) < (2 : Int)) (.need (0 < 2) (.ite false (.need ((0 : Int) ≤ (0 : Int) ∧ (0 : Int) < (1 : Int)) (.ite (!(true && (true && (true && (decide (z = (0 : Int)) && true))))) (.leaf (Value.tuple (Array.mk [Value.agg (Array.mk [Value.int IntKind.i64 0, Value.string (ByteArray.mk (Array.mk []))]), Value.int IntKind.i64 4]))) (.need ((0 : Int) ≤ (1 : Int) ∧ (1 : Int) ≤ (8 : Int) ∧ 0 ≤ 1099511627776) (.need ((0 : Int) ≤ (0 : Int) ∧ (0 : Int) < (1 : Int)) (.need ((0 : Int) ≤ (2 : Int) ∧ (2 : Int) ≤ (8 : Int) ∧ 1 ≤ 1099511627776) (.leaf (Value.tuple (Array.mk [Value.agg (Array.mk [Value.int IntKind.i64 46, Value.string (Oct.put (ByteArray.mk (Array.mk ((Array.mk []).toList ++ Oct.be 6 1))) z (2 : Int))]), Value.int IntKind.i64 0])))))))) (.ite true (.need ((0 : Int) ≤ (1 : Int) ∧ (1 : Int) < (2 : Int)) (.need (1 < 2) (.ite false (.need ((0 : Int) ≤ (0 : Int) ∧ (0 : Int) < (1 : Int)) (.ite (!(true && (true && (true && (decide (z = (0 : Int)) && true))))) (.leaf (Value.tuple (Array.mk [Value.agg (Array.mk [Value.int IntKind.i64 0, Value.string (ByteArray.mk (Array.mk []))]), Value.int IntKind.i64 4]))) (.need ((0 : Int) ≤ (1 : Int) ∧ (1 : Int) ≤ (8 : Int) ∧ 0 ≤ 1099511627776) (.need ((0 : Int) ≤ (0 : Int) ∧ (0 : Int) < (1 : Int)) (.need ((0 : Int) ≤ (2 : Int) ∧ (2 : Int) ≤ (8 : Int) ∧ 1 ≤ 1099511627776) (.leaf (Value.tuple (Array.mk [Value.agg (Array.mk [Value.int IntKind.i64 46, Value.string (Oct.put (ByteArray.mk (Array.mk ((Array.mk []).toList ++ Oct.be 6 1))) z (2 : Int))]), Value.int IntKind.i64 0])))))))) (.ite false (.need ((0 : Int) ≤ (2 : Int) ∧ (2 : Int) < (2 : Int)) (.need (2 < 2) (T.stuck 61))) (.leaf (Value.tuple (Array.mk [Value.agg (Array.mk [Value.int IntKind.i64 0, Value.string (ByteArray.mk (Array.mk []))]), Value.int IntKind.i64 11]))))))) (.leaf (Value.tuple (Array.mk [Value.agg (Array.mk [Value.int IntKind.i64 0, Value.string (ByteArray.mk (Array.mk []))]), Value.int IntKind.i64 11]))))))) (.leaf (Value.tuple (Array.mk [Value.agg (Array.mk [Value.int IntKind.i64 0, Value.string (ByteArray.mk (Array.mk []))]), Value.int IntKind.i64 11]))))) (.ite false (.need ((0 : Int) ≤ (0 : Int) ∧ (0 : Int) < (1 : Int)) (.ite (decide (z < (0 : Int))) (.leaf (Value.tuple (Array.mk [Value.agg (Array.mk [Value.int IntKind.i64 0, Value.string (ByteArray.mk (Array.mk []))]), Value.int IntKind.i64 3]))) (.ite (!decide (z.fdiv (281474976710656 : Int) = (0 : Int))) (.leaf (Value.tuple (Array.mk [Value.agg (Array.mk [Value.int IntKind.i64 0, Value.string (ByteArray.mk (Array.mk []))]), Value.int IntKind.i64 3]))) (.need ((0 : Int) ≤ (0 : Int) ∧ (0 : Int) < (1 : Int)) (.ite false (.leaf (Value.tuple (Array.mk [Value.agg (Array.mk [Value.int IntKind.i64 0, Value.string (ByteArray.mk (Array.mk []))]), Value.int IntKind.i64 4]))) (.need ((0 : Int) ≤ (1 : Int) ∧ (1 : Int) ≤ (8 : Int) ∧ 0 ≤ 1099511627776) (.need ((0 : Int) ≤ (0 : Int) ∧ (0 : Int) < (1 : Int)) (.need ((0 : Int) ≤ (2 : Int) ∧ (2 : Int) ≤ (8 : Int) ∧ 1 ≤ 1099511627776) (.leaf (Value.tuple (Array.mk [Value.agg (Array.mk [Value.int IntKind.i64 46, Value.string (Oct.put (ByteArray.mk (Array.mk ((Array.mk []).toList ++ Oct.be 6 1))) z (2 : Int))]), Value.int IntKind.i64 0]))))))))))) (.ite false (.need ((0 : Int) ≤ (0 : Int) ∧ (0 : Int) < (1 : Int)) (.ite true (.need ((0 : Int) ≤ (0 : Int) ∧ (0 : Int) < (1 : Int)) (.need (0 < 1) (.ite false (.need ((0 : Int) ≤ (0 : Int) ∧ (0 : Int) < (1 : Int)) (.ite (!(true && (true && (true && (decide (z = (0 : Int)) && true))))) (.leaf (Value.tuple (Array.mk [Value.agg (Array.mk [Value.int IntKind.i64 0, Value.string (ByteArray.mk (Array.mk []))]), Value.int IntKind.i64 4]))) (.need ((0 : Int) ≤ (1 : Int) ∧ (1 : Int) ≤ (8 : Int) ∧ 0 ≤ 1099511627776) (.need ((0 : Int) ≤ (0 : Int) ∧ (0 : Int) < (1 : Int)) (.need ((0 : Int) ≤ (2 : Int) ∧ (2 : Int) ≤ (8 : Int) ∧ 1 ≤ 1099511627776) (.leaf (Value.tuple (Array.mk [Value.agg (Array.mk [Value.int IntKind.i64 46, Value.string (Oct.put (ByteArray.mk (Array.mk ((Array.mk []).toList ++ Oct.be 6 1))) z (2 : Int))]), Value.int IntKind.i64 0])))))))) (.ite false (.need ((0 : Int) ≤ (1 : Int) ∧ (1 : Int) < (1 : Int)) (.need (1 < 1) (T.stuck 61))) (.leaf (Value.tuple (Array.mk [Value.agg (Array.mk [Value.int IntKind.i64 0, Value.string (ByteArray.mk (Array.mk []))]), Value.int IntKind.i64 11]))))))) (.leaf (Value.tuple (Array.mk [Value.agg (Array.mk [Value.int IntKind.i64 0, Value.string (ByteArray.mk (Array.mk []))]), Value.int IntKind.i64 11]))))) (.ite true (.need ((0 : Int) ≤ (0 : Int) ∧ (0 : Int) < (1 : Int)) (.ite (decide (z < (0 : Int))) (.leaf (Value.tuple (Array.mk [Value.agg (Array.mk [Value.int IntKind.i64 0, Value.string (ByteArray.mk (Array.mk []))]), Value.int IntKind.i64 3]))) (.ite (!decide (z.fdiv (65536 : Int) = (0 : Int))) (.leaf (Value.tuple (Array.mk [Value.agg (Array.mk [Value.int IntKind.i64 0, Value.string (ByteArray.mk (Array.mk []))]), Value.int IntKind.i64 3]))) (.need ((0 : Int) ≤ (0 : Int) ∧ (0 : Int) < (1 : Int)) (.ite false (.leaf (Value.tuple (Array.mk [Value.agg (Array.mk [Value.int IntKind.i64 0, Value.string (ByteArray.mk (Array.mk []))]), Value.int IntKind.i64 4]))) (.need ((0 : Int) ≤ (1 : Int) ∧ (1 : Int) ≤ (8 : Int) ∧ 0 ≤ 1099511627776) (.need ((0 : Int) ≤ (0 : Int) ∧ (0 : Int) < (1 : Int)) (.need ((0 : Int) ≤ (2 : Int) ∧ (2 : Int) ≤ (8 : Int) ∧ 1 ≤ 1099511627776) (.leaf (Value.tuple (Array.mk [Value.agg (Array.mk [Value.int IntKind.i64 46, Value.string (Oct.put (ByteArray.mk (Array.mk ((Array.mk []).toList ++ Oct.be 6 1))) z (2 : Int))]), Value.int IntKind.i64 0]))))))))))) (.ite false (.need ((0 : Int) ≤ (0 : Int) ∧ (0 : Int) < (2 : Int)) (T.stuck 2150)) (.ite false (.need ((0 : Int) ≤ (0 : Int) ∧ (0 : Int) < (2 : Int)) (T.stuck 2150)) (.ite false (.need ((0 : Int) ≤ (0 : Int) ∧ (0 : Int) < (3 : Int)) (T.stuck 2150)) (.ite false (.need ((0 : Int) ≤ (0 : Int) ∧ (0 : Int) < (1 : Int)) (.ite (decide (z < (0 : Int))) (.leaf (Value.tuple (Array.mk [Value.agg (Array.mk [Value.int IntKind.i64 0, Value.string (ByteArray.mk (Array.mk []))]), Value.int IntKind.i64 3]))) (.ite (!decide (z.fdiv (4294967296 : Int) = (0 : Int))) (.leaf (Value.tuple (Array.mk [Value.agg (Array.mk [Value.int IntKind.i64 0, Value.string (ByteArray.mk (Array.mk []))]), Value.int IntKind.i64 3]))) (.need ((0 : Int) ≤ (0 : Int) ∧ (0 : Int) < (1 : Int)) (.ite false (.leaf (Value.tuple (Array.mk [Value.agg (Array.mk [Value.int IntKind.i64 0, Value.string (ByteArray.mk (Array.mk []))]), Value.int IntKind.i64 4]))) (.need ((0 : Int) ≤ (1 : Int) ∧ (1 : Int) ≤ (8 : Int) ∧ 0 ≤ 1099511627776) (.need ((0 : Int) ≤ (0 : Int) ∧ (0 : Int) < (1 : Int)) (.need ((0 : Int) ≤ (2 : Int) ∧ (2 : Int) ≤ (8 : Int) ∧ 1 ≤ 1099511627776) (.leaf (Value.tuple (Array.mk [Value.agg (Array.mk [Value.int IntKind.i64 46, Value.string (Oct.put (ByteArray.mk (Array.mk ((Array.mk []).toList ++ Oct.be 6 1))) z (2 : Int))]), Value.int IntKind.i64 0]))))))))))) (.ite false (.need ((0 : Int) ≤ (0 : Int) ∧ (0 : Int) < (1 : Int)) (.ite (decide (z < (0 : Int))) (.leaf (Value.tuple (Array.mk [Value.agg (Array.mk [Value.int IntKind.i64 0, Value.string (ByteArray.mk (Array.mk []))]), Value.int IntKind.i64 3]))) (.ite (!decide (z.fdiv (256 : Int) = (0 : Int))) (.leaf (Value.tuple (Array.mk [Value.agg (Array.mk [Value.int IntKind.i64 0, Value.string (ByteArray.mk (Array.mk []))]), Value.int IntKind.i64 3]))) (.need ((0 : Int) ≤ (0 : Int) ∧ (0 : Int) < (1 : Int)) (.ite false (.leaf (Value.tuple (Array.mk [Value.agg (Array.mk [Value.int IntKind.i64 0, Value.string (ByteArray.mk (Array.mk []))]), Value.int IntKind.i64 4]))) (.need ((0 : Int) ≤ (1 : Int) ∧ (1 : Int) ≤ (8 : Int) ∧ 0 ≤ 1099511627776) (.need ((0 : Int) ≤ (0 : Int) ∧ (0 : Int) < (1 : Int)) (.need ((0 : Int) ≤ (2 : Int) ∧ (2 : Int) ≤ (8 : Int) ∧ 1 ≤ 1099511627776) (.leaf (Value.tuple (Array.mk [Value.agg (Array.mk [Value.int IntKind.i64 46, Value.string (Oct.put (ByteArray.mk (Array.mk ((Array.mk []).toList ++ Oct.be 6 1))) z (2 : Int))]), Value.int IntKind.i64 0]))))))))))) (.ite true (.leaf (Value.tuple (Array.mk [Value.agg (Array.mk [Value.int IntKind.i64 0, Value.string (ByteArray.mk (Array.mk []))]), Value.int IntKind.i64 7]))) (.ite false (T.stuck 2) (.ite false (T.stuck 2) (.ite (!(true && (true && (true && (decide (z = (0 : Int)) && true))))) (.leaf (Value.tuple (Array.mk [Value.agg (Array.mk [Value.int IntKind.i64 0, Value.string (ByteArray.mk (Array.mk []))]), Value.int IntKind.i64 4]))) (.need ((0 : Int) ≤ (1 : Int) ∧ (1 : Int) ≤ (8 : Int) ∧ 0 ≤ 1099511627776) (.need ((0 : Int) ≤ (0 : Int) ∧ (0 : Int) < (1 : Int)) (.need ((0 : Int) ≤ (2 : Int) ∧ (2 : Int) ≤ (8 : Int) ∧ 1 ≤ 1099511627776) (.leaf (Value.tuple (Array.mk [Value.agg (Array.mk [Value.int IntKind.i64 46, Value.string (Oct.put (ByteArray.mk (Array.mk ((Array.mk []).toList ++ Oct.be 6 1))) z (2 : Int))]), Value.int IntKind.i64 0])))))))))))))))))))) := by kernel_rfl
set_option maxRecDepth 100000 in
theorem put5_run (s : ByteArray) : runO Tryz.prog (CPm3 Tryz.prog (MpFn.mk Tryz.f149 Tryz.f150 Tryz.f153 Tryz.f151 Tryz.f152 Tryz.f100 Tryz.f228 Tryz.f231) (MpF2.mk Tryz.f226 Tryz.f229 Tryz.f227 Tryz.f230 Tryz.f148 Tryz.f99 Tryz.f232 Tryz.f233)) (LPm Tryz.prog (MpFn.mk Tryz.f149 Tryz.f150 Tryz.f153 Tryz.f151 Tryz.f152 Tryz.f100 Tryz.f228 Tryz.f231) (MpF2.mk Tryz.f226 Tryz.f229 Tryz.f227 Tryz.f230 Tryz.f148 Tryz.f99 Tryz.f232 Tryz.f233) Tryz.f54) Tryz.f54 [.agg [.c (.int .i64 5), .c (.int .i64 0), .c (.int .i64 0), .c (.int .i64 0), .c (.int .i64 0), .c (.int .i64 0), .v (.string s)]] [] = .ite false (.need ((0 : Int) ≤ (0 : Int) ∧ (0 : Int) < (2 : Int)) (.ite false (.leaf (Value.tuple (Array.mk [Value.agg (Array.mk [Value.int IntKind.i64 0, Value.string (ByteArray.mk (Array.mk []))]), Value.int IntKind.i64 3]))) (.ite false (.leaf (Value.tuple (Array.mk [Value.agg (Array.mk [Value.int IntKind.i64 0, Value.string (ByteArray.mk (Array.mk []))]), Value.int IntKind.i64 3]))) (.need ((0 : Int) ≤ (1 : Int) ∧ (1 : Int) < (2 : Int)) (.ite true (.need ((0 : Int) ≤ (0 : Int) ∧ (0 : Int) < (1 : Int)) (.need (0 < 1) (.ite (decide ((↑s.size : Int) = (32 : Int))) (.need ((0 : Int) ≤ (0 : Int) ∧ (0 : Int) < (2 : Int)) (.need ((0 : Int) ≤ (1 : Int) ∧ (1 : Int) < (2 : Int)) (.ite false (.leaf (Value.tuple (Array.mk [Value.agg (Array.mk [Value.int IntKind.i64 0, Value.string (ByteArray.mk (Array.mk []))]), Value.int IntKind.i64 4]))) (.need ((0 : Int) ≤ (1 : Int) ∧ (1 : Int) ≤ (8 : Int) ∧ 0 ≤ 1099511627776) (.need ((0 : Int) ≤ (0 : Int) ∧ (0 : Int) < (1 : Int)) (.need (1 + s.size ≤ 9223372036854775807) (.leaf (Value.tuple (Array.mk [Value.agg (Array.mk [Value.int IntKind.i64 46, Value.string (ByteArray.mk (Array.mk ((Array.mk []).toList ++ Oct.be 5 1)) ++ s)]), Value.int IntKind.i64 0]))))))))) (.ite false (.need ((0 : Int) ≤ (1 : Int) ∧ (1 : Int) < (1 : Int)) (.need (1 < 1) (T.stuck 61))) (.leaf (Value.tuple (Array.mk [Value.agg (Array.mk [Value.int IntKind.i64 0, Value.string (ByteArray.mk (Array.mk []))]), Value.int IntKind.i64 11]))))))) (.leaf (Value.tuple (Array.mk [Value.agg (Array.mk [Value.int IntKind.i64 0, Value.string (ByteArray.mk (Array.mk []))]), Value.int IntKind.i64 11])))))))) (.ite false (.need ((0 : Int) ≤ (0 : Int) ∧ (0 : Int) < (3 : Int)) (T.stuck 2150)) (.ite false (.need ((0 : Int) ≤ (0 : Int) ∧ (0 : Int) < (1 : Int)) (.ite true (.need ((0 : Int) ≤ (0 : Int) ∧ (0 : Int) < (2 : Int)) (.need (0 < 2) (.ite (decide ((↑s.size : Int) = (8 : Int))) (.need ((0 : Int) ≤ (0 : Int) ∧ (0 : Int) < (1 : Int)) (.ite false (.leaf (Value.tuple (Array.mk [Value.agg (Array.mk [Value.int IntKind.i64 0, Value.string (ByteArray.mk (Array.mk []))]), Value.int IntKind.i64 4]))) (.need ((0 : Int) ≤ (1 : Int) ∧ (1 : Int) ≤ (8 : Int) ∧ 0 ≤ 1099511627776) (.need ((0 : Int) ≤ (0 : Int) ∧ (0 : Int) < (1 : Int)) (.need (1 + s.size ≤ 9223372036854775807) (.leaf (Value.tuple (Array.mk [Value.agg (Array.mk [Value.int IntKind.i64 46, Value.string (ByteArray.mk (Array.mk ((Array.mk []).toList ++ Oct.be 5 1)) ++ s)]), Value.int IntKind.i64 0])))))))) (.ite true (.need ((0 : Int) ≤ (1 : Int) ∧ (1 : Int) < (2 : Int)) (.need (1 < 2) (.ite (decide ((↑s.size : Int) = (16 : Int))) (.need ((0 : Int) ≤ (0 : Int) ∧ (0 : Int) < (1 : Int)) (.ite false (.leaf (Value.tuple (Array.mk [Value.agg (Array.mk [Value.int IntKind.i64 0, Value.string (ByteArray.mk (Array.mk []))]), Value.int IntKind.i64 4]))) (.need ((0 : Int) ≤ (1 : Int) ∧ (1 : Int) ≤ (8 : Int) ∧ 0 ≤ 1099511627776) (.need ((0 : Int) ≤ (0 : Int) ∧ (0 : Int) < (1 : Int)) (.need (1 + s.size ≤ 9223372036854775807) (.leaf (Value.tuple (Array.mk [Value.agg (Array.mk [Value.int IntKind.i64 46, Value.string (ByteArray.mk (Array.mk ((Array.mk []).toList ++ Oct.be 5 1)) ++ s)]), Value.int IntKind.i64 0])))))))) (.ite false (.need ((0 : Int) ≤ (2 : Int) ∧ (2 : Int) < (2 : Int)) (.need (2 < 2) (T.stuck 61))) (.leaf (Value.tuple (Array.mk [Value.agg (Array.mk [Value.int IntKind.i64 0, Value.string (ByteArray.mk (Array.mk []))]), Value.int IntKind.i64 11]))))))) (.leaf (Value.tuple (Array.mk [Value.agg (Array.mk [Value.int IntKind.i64 0, Value.string (ByteArray.mk (Array.mk []))]), Value.int IntKind.i64 11]))))))) (.leaf (Value.tuple (Array.mk [Value.agg (Array.mk [Value.int IntKind.i64 0, Value.string (ByteArray.mk (Array.mk []))]), Value.int IntKind.i64 11]))))) (.ite false (.need ((0 : Int) ≤ (0 : Int) ∧ (0 : Int) < (1 : Int)) (.ite false (.leaf (Value.tuple (Array.mk [Value.agg (Array.mk [Value.int IntKind.i64 0, Value.string (ByteArray.mk (Array.mk []))]), Value.int IntKind.i64 3]))) (.ite false (.leaf (Value.tuple (Array.mk [Value.agg (Array.mk [Value.int IntKind.i64 0, Value.string (ByteArray.mk (Array.mk []))]), Value.int IntKind.i64 3]))) (.need ((0 : Int) ≤ (0 : Int) ∧ (0 : Int) < (1 : Int)) (.ite (!(true && (true && (true && (true && (true && (true && (decide (s = ByteArray.mk (Array.mk [])) && true)))))))) (.leaf (Value.tuple (Array.mk [Value.agg (Array.mk [Value.int IntKind.i64 0, Value.string (ByteArray.mk (Array.mk []))]), Value.int IntKind.i64 4]))) (.need ((0 : Int) ≤ (1 : Int) ∧ (1 : Int) ≤ (8 : Int) ∧ 0 ≤ 1099511627776) (.need ((0 : Int) ≤ (0 : Int) ∧ (0 : Int) < (1 : Int)) (.need (1 + s.size ≤ 9223372036854775807) (.leaf (Value.tuple (Array.mk [Value.agg (Array.mk [Value.int IntKind.i64 46, Value.string (ByteArray.mk (Array.mk ((Array.mk []).toList ++ Oct.be 5 1)) ++ s)]), Value.int IntKind.i64 0]))))))))))) (.ite true (.need ((0 : Int) ≤ (0 : Int) ∧ (0 : Int) < (1 : Int)) (.ite true (.need ((0 : Int) ≤ (0 : Int) ∧ (0 : Int) < (1 : Int)) (.need (0 < 1) (.ite (decide ((↑s.size : Int) = (32 : Int))) (.need ((0 : Int) ≤ (0 : Int) ∧ (0 : Int) < (1 : Int)) (.ite false (.leaf (Value.tuple (Array.mk [Value.agg (Array.mk [Value.int IntKind.i64 0, Value.string (ByteArray.mk (Array.mk []))]), Value.int IntKind.i64 4]))) (.need ((0 : Int) ≤ (1 : Int) ∧ (1 : Int) ≤ (8 : Int) ∧ 0 ≤ 1099511627776) (.need ((0 : Int) ≤ (0 : Int) ∧ (0 : Int) < (1 : Int)) (.need (1 + s.size ≤ 9223372036854775807) (.leaf (Value.tuple (Array.mk [Value.agg (Array.mk [Value.int IntKind.i64 46, Value.string (ByteArray.mk (Array.mk ((Array.mk []).toList ++ Oct.be 5 1)) ++ s)]), Value.int IntKind.i64 0])))))))) (.ite false (.need ((0 : Int) ≤ (1 : Int) ∧ (1 : Int) < (1 : Int)) (.need (1 < 1) (T.stuck 61))) (.leaf (Value.tuple (Array.mk [Value.agg (Array.mk [Value.int IntKind.i64 0, Value.string (ByteArray.mk (Array.mk []))]), Value.int IntKind.i64 11]))))))) (.leaf (Value.tuple (Array.mk [Value.agg (Array.mk [Value.int IntKind.i64 0, Value.string (ByteArray.mk (Array.mk []))]), Value.int IntKind.i64 11]))))) (.ite false (.need ((0 : Int) ≤ (0 : Int) ∧ (0 : Int) < (1 : Int)) (.ite false (.leaf (Value.tuple (Array.mk [Value.agg (Array.mk [Value.int IntKind.i64 0, Value.string (ByteArray.mk (Array.mk []))]), Value.int IntKind.i64 3]))) (.ite false (.leaf (Value.tuple (Array.mk [Value.agg (Array.mk [Value.int IntKind.i64 0, Value.string (ByteArray.mk (Array.mk []))]), Value.int IntKind.i64 3]))) (.need ((0 : Int) ≤ (0 : Int) ∧ (0 : Int) < (1 : Int)) (.ite (!(true && (true && (true && (true && (true && (true && (decide (s = ByteArray.mk (Array.mk [])) && true)))))))) (.leaf (Value.tuple (Array.mk [Value.agg (Array.mk [Value.int IntKind.i64 0, Value.string (ByteArray.mk (Array.mk []))]), Value.int IntKind.i64 4]))) (.need ((0 : Int) ≤ (1 : Int) ∧ (1 : Int) ≤ (8 : Int) ∧ 0 ≤ 1099511627776) (.need ((0 : Int) ≤ (0 : Int) ∧ (0 : Int) < (1 : Int)) (.need (1 + s.size ≤ 9223372036854775807) (.leaf (Value.tuple (Array.mk [Value.agg (Array.mk [Value.int IntKind.i64 46, Value.string (ByteArray.mk (Array.mk ((Array.mk []).toList ++ Oct.be 5 1)) ++ s)]), Value.int IntKind.i64 0]))))))))))) (.ite false (.need ((0 : Int) ≤ (0 : Int) ∧ (0 : Int) < (2 : Int)) (T.stuck 2150)) (.ite false (.need ((0 : Int) ≤ (0 : Int) ∧ (0 : Int) < (2 : Int)) (T.stuck 2150)) (.ite false (.need ((0 : Int) ≤ (0 : Int) ∧ (0 : Int) < (3 : Int)) (T.stuck 2150)) (.ite false (.need ((0 : Int) ≤ (0 : Int) ∧ (0 : Int) < (1 : Int)) (.ite false (.leaf (Value.tuple (Array.mk [Value.agg (Array.mk [Value.int IntKind.i64 0, Value.string (ByteArray.mk (Array.mk []))]), Value.int IntKind.i64 3]))) (.ite false (.leaf (Value.tuple (Array.mk [Value.agg (Array.mk [Value.int IntKind.i64 0, Value.string (ByteArray.mk (Array.mk []))]), Value.int IntKind.i64 3]))) (.need ((0 : Int) ≤ (0 : Int) ∧ (0 : Int) < (1 : Int)) (.ite (!(true && (true && (true && (true && (true && (true && (decide (s = ByteArray.mk (Array.mk [])) && true)))))))) (.leaf (Value.tuple (Array.mk [Value.agg (Array.mk [Value.int IntKind.i64 0, Value.string (ByteArray.mk (Array.mk []))]), Value.int IntKind.i64 4]))) (.need ((0 : Int) ≤ (1 : Int) ∧ (1 : Int) ≤ (8 : Int) ∧ 0 ≤ 1099511627776) (.need ((0 : Int) ≤ (0 : Int) ∧ (0 : Int) < (1 : Int)) (.need (1 + s.size ≤ 9223372036854775807) (.leaf (Value.tuple (Array.mk [Value.agg (Array.mk [Value.int IntKind.i64 46, Value.string (ByteArray.mk (Array.mk ((Array.mk []).toList ++ Oct.be 5 1)) ++ s)]), Value.int IntKind.i64 0]))))))))))) (.ite false (.need ((0 : Int) ≤ (0 : Int) ∧ (0 : Int) < (1 : Int)) (.ite false (.leaf (Value.tuple (Array.mk [Value.agg (Array.mk [Value.int IntKind.i64 0, Value.string (ByteArray.mk (Array.mk []))]), Value.int IntKind.i64 3]))) (.ite false (.leaf (Value.tuple (Array.mk [Value.agg (Array.mk [Value.int IntKind.i64 0, Value.string (ByteArray.mk (Array.mk []))]), Value.int IntKind.i64 3]))) (.need ((0 : Int) ≤ (0 : Int) ∧ (0 : Int) < (1 : Int)) (.ite (!(true && (true && (true && (true && (true && (true && (decide (s = ByteArray.mk (Array.mk [])) && true)))))))) (.leaf (Value.tuple (Array.mk [Value.agg (Array.mk [Value.int IntKind.i64 0, Value.string (ByteArray.mk (Array.mk []))]), Value.int IntKind.i64 4]))) (.need ((0 : Int) ≤ (1 : Int) ∧ (1 : Int) ≤ (8 : Int) ∧ 0 ≤ 1099511627776) (.need ((0 : Int) ≤ (0 : Int) ∧ (0 : Int) < (1 : Int)) (.need (1 + s.size ≤ 9223372036854775807) (.leaf (Value.tuple (Array.mk [Value.agg (Array.mk [Value.int IntKind.i64 46, Value.string (ByteArray.mk (Array.mk ((Array.mk []).toList ++ Oct.be 5 1)) ++ s)]), Value.int IntKind.i64 0]))))))))))) (.ite true (.leaf (Value.tuple (Array.mk [Value.agg (Array.mk [Value.int IntKind.i64 0, Value.string (ByteArray.mk (Array.mk []))]), Value.int IntKind.i64 7]))) (.ite false (T.stuck 2) (.ite false (T.stuck 2) (.ite (!(true && (true && (true && (true && (true && (true && (decide (s = ByteArray.mk (Array.mk [])) && true)))))))) (.leaf (Value.tuple (Array.mk [Value.agg (Array.mk [Value.int IntKind.i64 0, Value.string (ByteArray.mk (Array.mk []))]), Value.int IntKind.i64 4]))) (.need ((0 : Int) ≤ (1 : Int) ∧ (1 : Int) ≤ (8 : Int) ∧ 0 ≤ 1099511627776) (.need ((0 : Int) ≤ (0 : Int) ∧ (0 : Int) < (1 : Int)) (.need (1 + s.size ≤ 9223372036854775807) (.leaf (Value.tuple (Array.mk [Value.agg (Array.mk [Value.int IntKind.i64 46, Value.string (ByteArray.mk (Array.mk ((Array.mk []).toList ++ Oct.be 5 1)) ++ s)]), Value.int IntKind.i64 0])))))))))))))))))))) := by kernel_rfl
end Go.Proofs.YthacfgaacleaeaaGreatDoor
namespace Go.Proofs.YthacfgaacleaeaaGreatDoor
open Go.RowKit Sym Go.ChangeShapes Go.WideShapes Go.ChangeMaps Inet
end Go.Proofs.YthacfgaacleaeaaGreatDoor
namespace Go.Proofs.YthacfgaacleaeaaGreatDoor
open Go.RowKit Sym Go.ChangeShapes Go.WideShapes Go.ChangeMaps Inet
end Go.Proofs.YthacfgaacleaeaaGreatDoor
namespace Go.Proofs.YthacfgaacleaeaaGreatDoor
open Go.RowKit Sym
end Go.Proofs.YthacfgaacleaeaaGreatDoor
namespace Go.Proofs.YthacfgaacleaeaaGreatDoor
open Go.RowKit Sym Sha Go.ChangeShapes Go.WideShapes Go.ChangeMaps Inet
end Go.Proofs.YthacfgaacleaeaaGreatDoor
namespace Go.Proofs.YthacfgaacleaeaaGreatDoor
open Go.RowKit Sym Sha Go.ChangeShapes Go.WideShapes Go.ChangeMaps Inet
end Go.Proofs.YthacfgaacleaeaaGreatDoor
namespace Go.Proofs.YthacfgaacleaeaaGreatDoor
open Go.RowKit Sym Sha Go.ChangeShapes Go.WideShapes Go.ChangeMaps Inet
end Go.Proofs.YthacfgaacleaeaaGreatDoor
namespace Go.Proofs.YthacfgaacleaeaaGreatDoor
open Go.RowKit
end Go.Proofs.YthacfgaacleaeaaGreatDoor
namespace Go.Proofs.YthacfgaacleaeaaGreatDoor
open Go.RowKit Sym Go.ChangeShapes Go.WideShapes Go.ChangeMaps
end Go.Proofs.YthacfgaacleaeaaGreatDoor
namespace Go.Proofs.YthacfgaacleaeaaGreatDoor
open Go.RowKit Sym Go.ChangeShapes Go.WideShapes Go.ChangeMaps
end Go.Proofs.YthacfgaacleaeaaGreatDoor
namespace Go.Proofs.YthacfgaacleaeaaGreatDoor
open Go.RowKit Sym Go.ChangeShapes Go.WideShapes Go.ChangeMaps
end Go.Proofs.YthacfgaacleaeaaGreatDoor
namespace Go.Proofs.YthacfgaacleaeaaGreatDoor
open Go.RowKit Sym Go.ChangeShapes Go.WideShapes Go.ChangeMaps
end Go.Proofs.YthacfgaacleaeaaGreatDoor
namespace Go.Proofs.YthacfgaacleaeaaGreatDoor
open Go.RowKit Sym Go.ChangeShapes Go.WideShapes Go.ChangeMaps
end Go.Proofs.YthacfgaacleaeaaGreatDoor
namespace Go.Proofs.YthacfgaacleaeaaGreatDoor
open Go.RowKit Sym Go.ChangeShapes Go.WideShapes Go.ChangeMaps
end Go.Proofs.YthacfgaacleaeaaGreatDoor
namespace Go.Proofs.YthacfgaacleaeaaGreatDoor
open Go.RowKit Sym Go.ChangeShapes Go.WideShapes Go.ChangeMaps
end Go.Proofs.YthacfgaacleaeaaGreatDoor
namespace Go.Proofs.YthacfgaacleaeaaGreatDoor
open Go.RowKit Sym Go.ChangeShapes Go.WideShapes Go.ChangeMaps
end Go.Proofs.YthacfgaacleaeaaGreatDoor
namespace Go.Proofs.YthacfgaacleaeaaGreatDoor
open Go.RowKit Sym Go.ChangeShapes Go.WideShapes Go.ChangeMaps Inet
end Go.Proofs.YthacfgaacleaeaaGreatDoor
namespace Go.Proofs.YthacfgaacleaeaaGreatDoor
open Go.RowKit Sym Go.ChangeShapes Go.WideShapes Go.ChangeMaps Inet
theorem mem_none (w : World) : Mem w [] [] [] w :=
  ⟨⟨rfl, fun k x u h => by simp at h, fun k j b ⟨x, u, h, _⟩ => by simp at h, fun k j b ⟨x, u, h, _⟩ => by simp at h⟩, .refl _ _, fun k b ⟨x, u, h, _⟩ => by simp at h⟩
end Go.Proofs.YthacfgaacleaeaaGreatDoor
namespace Go.Proofs.YthacfgaacleaeaaGreatDoor
open Go.RowKit Sym Sha Go.ChangeShapes Go.WideShapes Go.ChangeMaps
theorem fdiv_zero {z c : Int} (h0 : 0 ≤ z) (h1 : z < c) : z.fdiv c = 0 := by
  rw [Int.fdiv_eq_ediv_of_nonneg _ (by omega)]
  exact Int.ediv_eq_zero_of_lt h0 h1
theorem FPm0_ok : LOk Tryz.prog (FPm0 Tryz.prog (MpFn.mk Tryz.f149 Tryz.f150 Tryz.f153 Tryz.f151 Tryz.f152 Tryz.f100 Tryz.f228 Tryz.f231) (MpF2.mk Tryz.f226 Tryz.f229 Tryz.f227 Tryz.f230 Tryz.f148 Tryz.f99 Tryz.f232 Tryz.f233)) :=
  addT_ok (addT_ok (addT_ok noF_ok
    (by kernel_rfl) (inl_ok (onlyS_ok noS_ok) follows Tryz.func233 (by kernel_rfl) (by kernel_rfl) (one_loop (b := loopAt Tryz.f233 0) (id := 0) (by kernel_rfl) fun st t h => by rw [addL_same h]; exact unroll_ok (onlyS_ok noS_ok) follows (by kernel_rfl) (noloops (by kernel_rfl)) 4 st)))
    (by kernel_rfl) (inl_ok (onlyS_ok noS_ok) follows Tryz.func100 (by kernel_rfl) (by kernel_rfl) (noloops (by kernel_rfl))))
    (by kernel_rfl) (inl_ok (onlyS_ok noS_ok) follows Tryz.func149 (by kernel_rfl) (by kernel_rfl) (noloops (by kernel_rfl)))
theorem CPm0_ok : CfgOk Tryz.prog (CPm0 Tryz.prog (MpFn.mk Tryz.f149 Tryz.f150 Tryz.f153 Tryz.f151 Tryz.f152 Tryz.f100 Tryz.f228 Tryz.f231) (MpF2.mk Tryz.f226 Tryz.f229 Tryz.f227 Tryz.f230 Tryz.f148 Tryz.f99 Tryz.f232 Tryz.f233)) := both_ok SOct_ok FPm0_ok
theorem FPm1_ok : LOk Tryz.prog (FPm1 Tryz.prog (MpFn.mk Tryz.f149 Tryz.f150 Tryz.f153 Tryz.f151 Tryz.f152 Tryz.f100 Tryz.f228 Tryz.f231) (MpF2.mk Tryz.f226 Tryz.f229 Tryz.f227 Tryz.f230 Tryz.f148 Tryz.f99 Tryz.f232 Tryz.f233)) := addT_ok FPm0_ok (by kernel_rfl) (inl_ok CPm0_ok follows Tryz.func232 (by kernel_rfl) (by kernel_rfl) (noloops (by kernel_rfl)))
theorem CPm1_ok : CfgOk Tryz.prog (CPm1 Tryz.prog (MpFn.mk Tryz.f149 Tryz.f150 Tryz.f153 Tryz.f151 Tryz.f152 Tryz.f100 Tryz.f228 Tryz.f231) (MpF2.mk Tryz.f226 Tryz.f229 Tryz.f227 Tryz.f230 Tryz.f148 Tryz.f99 Tryz.f232 Tryz.f233)) := both_ok SOct_ok FPm1_ok
theorem FPm2_ok : LOk Tryz.prog (FPm2 Tryz.prog (MpFn.mk Tryz.f149 Tryz.f150 Tryz.f153 Tryz.f151 Tryz.f152 Tryz.f100 Tryz.f228 Tryz.f231) (MpF2.mk Tryz.f226 Tryz.f229 Tryz.f227 Tryz.f230 Tryz.f148 Tryz.f99 Tryz.f232 Tryz.f233)) :=
  addT_ok (addT_ok (addT_ok (addT_ok (addT_ok FPm1_ok
    (by kernel_rfl) (inl_ok CPm1_ok follows Tryz.func148 (by kernel_rfl) (by kernel_rfl) (one_loop (b := loopAt Tryz.f148 0) (id := 0) (by kernel_rfl) fun st t h => by rw [addL_same h]; exact unroll_ok CPm1_ok follows (by kernel_rfl) (noloops (by kernel_rfl)) 4 st)))
    (by kernel_rfl) (inl_ok CPm1_ok follows Tryz.func230 (by kernel_rfl) (by kernel_rfl) (noloops (by kernel_rfl))))
    (by kernel_rfl) (inl_ok CPm1_ok follows Tryz.func227 (by kernel_rfl) (by kernel_rfl) (noloops (by kernel_rfl))))
    (by kernel_rfl) (inl_ok CPm1_ok follows Tryz.func229 (by kernel_rfl) (by kernel_rfl) (noloops (by kernel_rfl))))
    (by kernel_rfl) (inl_ok CPm1_ok follows Tryz.func226 (by kernel_rfl) (by kernel_rfl) (noloops (by kernel_rfl)))
theorem CPm2_ok : CfgOk Tryz.prog (CPm2 Tryz.prog (MpFn.mk Tryz.f149 Tryz.f150 Tryz.f153 Tryz.f151 Tryz.f152 Tryz.f100 Tryz.f228 Tryz.f231) (MpF2.mk Tryz.f226 Tryz.f229 Tryz.f227 Tryz.f230 Tryz.f148 Tryz.f99 Tryz.f232 Tryz.f233)) := both_ok SOct_ok FPm2_ok
theorem FPm3_ok : LOk Tryz.prog (FPm3 Tryz.prog (MpFn.mk Tryz.f149 Tryz.f150 Tryz.f153 Tryz.f151 Tryz.f152 Tryz.f100 Tryz.f228 Tryz.f231) (MpF2.mk Tryz.f226 Tryz.f229 Tryz.f227 Tryz.f230 Tryz.f148 Tryz.f99 Tryz.f232 Tryz.f233)) := addT_ok FPm2_ok (by kernel_rfl) (inl_ok CPm2_ok follows Tryz.func99 (by kernel_rfl) (by kernel_rfl) (one_loop (b := loopAt Tryz.f99 0) (id := 0) (by kernel_rfl) fun st t h => by rw [addL_same h]; exact unroll_ok CPm2_ok follows (by kernel_rfl) (noloops (by kernel_rfl)) 4 st))
theorem CPm3_ok : CfgOk Tryz.prog (CPm3 Tryz.prog (MpFn.mk Tryz.f149 Tryz.f150 Tryz.f153 Tryz.f151 Tryz.f152 Tryz.f100 Tryz.f228 Tryz.f231) (MpF2.mk Tryz.f226 Tryz.f229 Tryz.f227 Tryz.f230 Tryz.f148 Tryz.f99 Tryz.f232 Tryz.f233)) := both_ok SOct_ok FPm3_ok
def m4 (z : Int) : Mp := ⟨4, 0, 0, z, 0, 0, ⟨⟨[]⟩⟩⟩
def m6 (z : Int) : Mp := ⟨6, 0, 0, z, 0, 0, ⟨⟨[]⟩⟩⟩
def m5 (s : ByteArray) : Mp := ⟨5, 0, 0, 0, 0, 0, s⟩
def tM (m : Mp) : ByteArray := if m.kind = 4 then Oct.put (Oct.put ⟨⟨[]⟩⟩ 4 1) m.num 6 else if m.kind = 6 then Oct.put (Oct.put ⟨⟨[]⟩⟩ 6 1) m.num 2 else Oct.put ⟨⟨[]⟩⟩ 5 1 ++ m.bytes
def PutM (m : Mp) : Prop := ∀ W, Calls Tryz.prog 54 #[mulV m] W fun e w' => e = .returned (.tuple #[.agg #[.int .i64 46, .string (tM m)], .int .i64 0]) ∧ Below W.heap.size W w'
set_option maxRecDepth 100000 in
theorem put_4 (z : Int) (h0 : 0 ≤ z) (h1 : z < 281474976710656) : PutM (m4 z) := fun W => by
  refine calls_runO CPm3_ok follows Tryz.func54 (by kernel_rfl) (by kernel_rfl) (one_loop (b := loopAt Tryz.f54 0) (id := 0) (by kernel_rfl) fun st t h => by rw [addL_same h]; exact unroll_ok CPm3_ok follows (by kernel_rfl) (noloops (by kernel_rfl)) 4 st) (put4_run z) ?_ (mem_none W) rfl
  have e1 : z.fdiv 281474976710656 = 0 := fdiv_zero h0 h1
  have e0 : ¬ z < 0 := by omega
  simp only [T.ok, e0, e1, Int.reduceEq, Int.reduceLE, Int.reduceLT, Nat.reduceLT, Nat.reduceLeDiff, Nat.lt_irrefl, decide_true, decide_false, Bool.true_eq_false, Bool.false_eq_true, Bool.not_true, Bool.not_false, reduceCtorEq, false_implies, true_implies, implies_true, and_true, true_and, and_self]
  first | rfl | (refine ⟨?_, ?_⟩ <;> first | rfl | decide | omega) | skip
set_option maxRecDepth 100000 in
theorem put_6 (z : Int) (h0 : 0 ≤ z) (h1 : z < 65536) : PutM (m6 z) := fun W => by
  refine calls_runO CPm3_ok follows Tryz.func54 (by kernel_rfl) (by kernel_rfl) (one_loop (b := loopAt Tryz.f54 0) (id := 0) (by kernel_rfl) fun st t h => by rw [addL_same h]; exact unroll_ok CPm3_ok follows (by kernel_rfl) (noloops (by kernel_rfl)) 4 st) (put6_run z) ?_ (mem_none W) rfl
  have e1 : z.fdiv 65536 = 0 := fdiv_zero h0 h1
  have e0 : ¬ z < 0 := by omega
  simp only [T.ok, e0, e1, Int.reduceEq, Int.reduceLE, Int.reduceLT, Nat.reduceLT, Nat.reduceLeDiff, Nat.lt_irrefl, decide_true, decide_false, Bool.true_eq_false, Bool.false_eq_true, Bool.not_true, Bool.not_false, reduceCtorEq, false_implies, true_implies, implies_true, and_true, true_and, and_self]
  first | rfl | (refine ⟨?_, ?_⟩ <;> first | rfl | decide | omega) | skip
set_option maxRecDepth 100000 in
theorem put_5 (s : ByteArray) (hs : s.size = 32) : PutM (m5 s) := fun W => by
  refine calls_runO CPm3_ok follows Tryz.func54 (by kernel_rfl) (by kernel_rfl) (one_loop (b := loopAt Tryz.f54 0) (id := 0) (by kernel_rfl) fun st t h => by rw [addL_same h]; exact unroll_ok CPm3_ok follows (by kernel_rfl) (noloops (by kernel_rfl)) 4 st) (put5_run s) ?_ (mem_none W) rfl
  have e1 : (s.size : Int) = 32 := by omega
  simp only [T.ok, e1, Int.reduceEq, Int.reduceLE, Int.reduceLT, Nat.reduceLT, Nat.reduceLeDiff, Nat.lt_irrefl, decide_true, decide_false, Bool.true_eq_false, Bool.false_eq_true, Bool.not_true, Bool.not_false, reduceCtorEq, false_implies, true_implies, implies_true, and_true, true_and, and_self]
  have : 1 + s.size ≤ 9223372036854775807 := by omega
  first | rfl | (refine ⟨?_, ?_⟩ <;> first | rfl | decide | omega) | skip
theorem opt_infoP : (Tryz.prog.info? 70).map (fun i => (i.zero, i.size, i.bytes)) = some (some (.agg #[.int .i64 0, .string ⟨#[]⟩]), 2, 24) := by kernel_rfl
def oM (m : Mp) : Op := ⟨46, tM m⟩
def gM (L : List Mp) : Nat → Op := opN (L.map oM)
theorem chkO_zero {n : Nat} {g : Nat → Op} (h1 : ∀ i, i < n → rightO (g i) = 0) (h2 : ∀ i, i < n → (g i).kind ≠ 1) (h3 : sizeL g n ≤ 400) : chkO n g = 0 := by
  obtain ⟨b1, -, b3⟩ := firstOf_le (badO g) n
  obtain ⟨m1, -, m3⟩ := firstOf_le (mandO n g) n
  have hb : ¬ badE n g < n := fun q => by
    have t : badO g (badE n g) = true := b3 q
    have e : badO g (badE n g) = !decide (rightO (g (badE n g)) = 0) := rfl
    rw [e, h1 _ q] at t
    simp at t
  have hm : ¬ mandE n g < n := fun q => by
    have t : mandO n g (mandE n g) = true := m3 q
    have e : mandO n g (mandE n g) = (decide ((g (mandE n g)).kind = 1) && (decide (mandE n g + 1 = n) || decide ((g (mandE n g + 1)).kind = 1))) := rfl
    rw [e, Bool.and_eq_true] at t
    exact h2 _ q (of_decide_eq_true t.1)
  unfold chkO
  rw [if_neg hb, if_neg hm, if_neg (by omega)]
theorem row_opN {w : World} {u : Value} {l : List Op} {base : Nat} (h : w.ownsRow base 70 2 u l.length (opCells l)) : ∀ B, BlkSat B w u (.row l.length 2 fun i j => (opN l i).c j) := fun B => by
  have h0 : VecSat w 70 2 u l.length (opCells l) := by
    refine .inl ⟨h.1, ?_⟩
    rcases h.2 with q | ⟨g, cap, cur, q, -, q2⟩
    · exact .inl q
    · exact .inr ⟨g, cap, cur, q, Nat.zero_le _, q2⟩
  have h1 : BlkSat B w u (.vec true 70 2 l.length (opCells l)) := h0
  have h2 : BlkSat B w u (.row l.length 2 fun i j => cellAt (opCells l) (i * 2 + j)) := rowBlk_sat h1
  refine row_congr h2 fun i j hi hj => ?_
  obtain ⟨e0, e1⟩ := opCells_at l i hi
  match j, hj with
  | 0, _ => exact e0
  | 1, _ => exact e1
theorem clone_nilP (w : World) : Calls Tryz.prog 53 #[.slice none 0 0] w fun e w' => e = .returned (.slice none 0 0) ∧ w = w' := by
  have qT : ∀ (w : World) (a : Option Addr) (n c n' c' : Nat), (binOp .eql 23 (.slice a n c) (.slice none n' c')).run Tryz.prog w = .ok (.bool a.isNone) w := fun w a n c n' c' => Lib.run_eql_slice_nil w _ _ a n c n' c' Tryz.underlying23
  go_enter Tryz.func53, Tryz.ntmps53
  go_wp2
  go_ret
  exact ⟨rfl, rfl⟩
theorem few_gM {L : List Mp} (hL : L.length ≤ 1000) (hs : ∀ m ∈ L, (tM m).size ≤ 1000000) : Few (L.map oM).length (gM L) := by
  refine ⟨by rw [List.length_map]; exact hL, fun i hi => ?_⟩
  unfold gM opN
  rw [List.getD_eq_getElem?_getD, List.getElem?_eq_getElem hi]
  simp only [List.length_map] at hi
  simp only [Option.getD_some, List.getElem_map]
  exact hs _ (List.getElem_mem hi)
set_option maxRecDepth 100000 in
set_option maxHeartbeats 4000000 in
theorem say_any {w : World} {v : Value} {L : List Mp} (hL : L.length ≤ 1000) (h : MusAt w v L) (hp : ∀ m ∈ L, PutM m) (hs : ∀ m ∈ L, (tM m).size ≤ 1000000) (hc : chkO (L.map oM).length (gM L) = 0) :
    Calls Tryz.prog 25 #[.slice none 0 0, v] w fun e w' => ∃ u, e = .returned (.tuple #[u, .int .i64 0]) ∧ w'.ownsRow w.heap.size 70 2 u (L.map oM).length (opCells (L.map oM)) ∧ Below w.heap.size w w' := by
  obtain ⟨p, cap, rfl, hcap, hcell⟩ := h.cells
  obtain ⟨i0, hi, hz0, hz1, hz2⟩ := info_parts opt_infoP
  have hchk : ∀ (W : World) (u : Value), W.ownsRow w.heap.size 70 2 u (L.map oM).length (opCells (L.map oM)) → Calls Tryz.prog 55 #[u] W fun e w' => e = .returned (.int .i64 0) ∧ Below W.heap.size W w' := fun W u ho => by
    rw [← hc]
    exact opts_Check _ _ (few_gM hL hs) u W (row_opN ho)
  have hcl := clone_nilP
  go_enter Tryz.func25, Tryz.ntmps25
  go_wp2_with (go_at_call 53; refine (hcl _).mono ?_; rintro e w1 ⟨rfl, rfl⟩)
  go_loopw [6, 16] (fun u6 u16 wr => ∃ i : Nat, u16 = .int .i64 i ∧ i ≤ L.length ∧ wr.ownsRow w.heap.size 70 2 u6 i (opCells ((L.take i).map oM)) ∧ Below w.heap.size w wr)
    (fun _ u16 _ => L.length - natM u16)
  case atStart => exact ⟨0, rfl, Nat.zero_le _, World.ownsRow_nil _ _ _ _, Below.refl _ _⟩
  case round =>
    obtain ⟨i, rfl, hile, hrow, hb⟩ := hrel
    by_cases hlt : i < L.length
    · obtain ⟨bb, o, rfl, hbl, hc7⟩ := hcell i hlt
      obtain ⟨c0, c1, c2, c3, c4, c5, c6⟩ := hc7.below hbl hb
      have hput := hp _ (List.getElem_mem hlt)
      have hnx : opCells ((L.take (i + 1)).map oM) = opCells ((L.take i).map oM) ++ [.int .i64 46, .string (tM L[i])] := by
        rw [List.take_succ_eq_append_getElem hlt, List.map_append, opCells_append]; rfl
      unfold PutM at hput
      have hput : ∀ W, Calls Tryz.prog 54 #[.agg #[.int .i64 L[i].kind, .int .i64 L[i].addr, .int .i64 L[i].prio, .int .i64 L[i].num, .int .i64 L[i].token, .int .i64 L[i].nonce, .string L[i].bytes]] W fun e w' => e = .returned (.tuple #[.agg #[.int .i64 46, .string (tM L[i])], .int .i64 0]) ∧ Below W.heap.size W w' := hput
      generalize tM L[i] = tx at *
      generalize L[i] = m at *
      have hltz : (i : Int) < (L.length : Int) := by omega
      clear hcell hc7 hchk
      generalize (L.take i).map oM = T at *
      go_wp2_with (first
        | (go_at_call 54; (with_reducible refine (hput _).mono ?_); rintro e w1 ⟨rfl, hb1⟩)
        | (at_builtin
           have hbw : Below w.heap.size w w1 := (hb.alloc hb.size _).trans (hb1.mono (by have := hb.size; simp; omega))
           have hrow1 : w1.ownsRow w.heap.size 70 2 u6 i (opCells T) := row_belowM (hrow.alloc _) hb1
           go_loud (refine wpList_append_lies _ rfl _ _ 23 rfl w.heap.size 70 i0 (.agg #[.int .i64 0, .string ⟨#[]⟩]) 2 24 Tryz.underlying23 hi hz0 hz1 hz2 rfl (by decide) _ _ _ rfl ((hrow1.alloc _).alloc _) ⟨w1.heap.size + 1, 0, none⟩ 1 1 [.int .i64 46, .string tx] rfl rfl (by
             intro j u hj
             have := cells_newM (w1.alloc (.cells #[.int .i64 46, .string tx] 70)) #[.int .i64 46, .string tx] 70 j u hj
             simpa using this) (by simp [Value.oneCell']) (by decide) (by unfold maxLen; omega) (by omega) (by have := hbw.size; simp; omega) (w1.heap.size + 2) (by simp) ?_)
           intro g1 cg w3 hown' hg3 hat hgl
           have hb3 : Below w.heap.size w w3 := ((hbw.alloc (by have := hbw.size; omega) _).alloc (by have := hbw.size; simp; omega) _).grown hg3 (by have := hbw.size; simp; omega) (fun j hj => (hrow1.lt j hj).1)))
      go_roundw
      case rel =>
        refine ⟨i + 1, by first | rfl | go_num, hlt, ?_, hb3⟩
        rw [hnx]
        exact hown'
      case measure => simp [natM]; omega
    · obtain rfl : i = L.length := by omega
      rw [List.take_length] at hrow
      have hltz : ¬ (L.length : Int) < (L.length : Int) := by omega
      have hrow2 : wr.ownsRow w.heap.size 70 2 u6 (L.map oM).length (opCells (L.map oM)) := by rw [List.length_map]; exact hrow
      have hck := hchk wr u6 hrow2
      clear hcell hchk hrow
      go_wp2_with (go_at_call 55; refine hck.mono ?_; rintro e w1 ⟨rfl, hb1⟩)
      go_ret2
      exact ⟨_, rfl, row_belowM hrow2 hb1, below_of hb hb1⟩
end Go.Proofs.YthacfgaacleaeaaGreatDoor
namespace Go.Proofs.YthacfgaacleaeaaGreatDoor
open Go.RowKit Sym Sha
theorem valU_beF (z : Int) (k : Nat) (hk : k ≤ 7) (h0 : 0 ≤ z) (h1 : z < 256 ^ k) : valU (ba (Oct.be (Oct.u64 z) k)) = z := by
  unfold valU
  rw [ba_data, val_be]
  have hp : (256 : Nat) ^ k ≤ 256 ^ 7 := Nat.pow_le_pow_right (by omega) hk
  have h7 : (256 : Nat) ^ 7 = 72057594037927936 := by decide
  have hz : z.toNat < 256 ^ k := by
    have : ((256 ^ k : Nat) : Int) = 256 ^ k := by simp
    omega
  have hu : Oct.u64 z = z.toNat := by unfold Oct.u64; omega
  rw [hu, Nat.mod_eq_of_lt hz]
  omega
theorem ext_one (x : UInt8) (l : List UInt8) (n : Nat) (hn : n = l.length + 1) : (ba (x :: l)).extract 1 n = ba l := by
  subst hn
  apply ByteArray.ext
  simp [ba]
theorem ext_head (x : UInt8) (l : List UInt8) : (ba (x :: l)).extract 0 1 = ba [x] := by
  apply ByteArray.ext
  simp [ba]
theorem ba_sizeF (l : List UInt8) : (ba l).size = l.length := by show l.toArray.size = l.length; simp
theorem kind_ba (x : UInt8) (l : List UInt8) : kindM (ba (x :: l)) = (x.toNat : Int) := by
  unfold kindM
  rw [ext_head]
  unfold valU
  rw [ba_data]
  have := x.toNat_lt
  show ((Oct.val [x] % 18446744073709551616 : Nat) : Int) = _
  have e : Oct.val [x] = x.toNat := by simp [Oct.val]
  rw [e]; omega
theorem tM_4 (z : Int) : tM (m4 z) = ba (4 :: Oct.be (Oct.u64 z) 6) := rfl
theorem tM_6 (z : Int) : tM (m6 z) = ba (6 :: Oct.be (Oct.u64 z) 2) := rfl
theorem tM_5 (s : ByteArray) : tM (m5 s) = ba (5 :: s.data.toList) := by
  apply ByteArray.ext
  show ((Oct.put ⟨⟨[]⟩⟩ 5 1) ++ s).data = _
  rw [ByteArray.data_append]
  apply Array.ext'
  rw [Array.toList_append]
  rfl
theorem get_4 (z : Int) (h0 : 0 ≤ z) (h1 : z < 281474976710656) : errM 46 (tM (m4 z)) = 0 ∧ getM 46 (tM (m4 z)) = m4 z := by
  have hl : (Oct.be (Oct.u64 z) 6).length = 6 := Oct.be_length _ _
  have hz : (tM (m4 z)).size = 7 := by rw [tM_4, ba_sizeF, List.length_cons, hl]
  have hk : kindM (tM (m4 z)) = 4 := by rw [tM_4, kind_ba]; rfl
  have he : errM 46 (tM (m4 z)) = 0 := by
    rw [errM_at (n := 7) (by omega) (by rw [hk]; rfl) (by decide), if_neg (by omega), if_neg (by omega)]
  refine ⟨he, ?_⟩
  unfold getM
  rw [if_pos he, hk]
  unfold sayM
  simp only [Int.reduceEq, if_true, if_false]
  rw [tM_4, ext_one _ _ 7 (by rw [hl]), valU_beF z 6 (by omega) h0 (by omega)]
  rfl
theorem get_6 (z : Int) (h0 : 0 ≤ z) (h1 : z < 65536) : errM 46 (tM (m6 z)) = 0 ∧ getM 46 (tM (m6 z)) = m6 z := by
  have hl : (Oct.be (Oct.u64 z) 2).length = 2 := Oct.be_length _ _
  have hz : (tM (m6 z)).size = 3 := by rw [tM_6, ba_sizeF, List.length_cons, hl]
  have hk : kindM (tM (m6 z)) = 6 := by rw [tM_6, kind_ba]; rfl
  have he : errM 46 (tM (m6 z)) = 0 := by
    rw [errM_at (n := 3) (by omega) (by rw [hk]; rfl) (by decide), if_neg (by omega), if_neg (by omega)]
  refine ⟨he, ?_⟩
  unfold getM
  rw [if_pos he, hk]
  unfold sayM
  simp only [Int.reduceEq, if_true, if_false]
  rw [tM_6, ext_one _ _ 3 (by rw [hl]), valU_beF z 2 (by omega) h0 (by omega)]
  rfl
theorem get_5 (s : ByteArray) (hs : s.size = 32) : errM 46 (tM (m5 s)) = 0 ∧ getM 46 (tM (m5 s)) = m5 s := by
  have hl : s.data.toList.length = 32 := by simpa using hs
  have hz : (tM (m5 s)).size = 33 := by rw [tM_5, ba_sizeF, List.length_cons, hl]
  have hk : kindM (tM (m5 s)) = 5 := by rw [tM_5, kind_ba]; rfl
  have he : errM 46 (tM (m5 s)) = 0 := by
    rw [errM_at (n := 33) (by omega) (by rw [hk]; rfl) (by decide), if_neg (by omega), if_neg (by omega)]
  refine ⟨he, ?_⟩
  unfold getM
  rw [if_pos he, hk]
  unfold sayM
  simp only [Int.reduceEq, if_true, if_false]
  rw [tM_5, ext_one _ _ 33 (by rw [hl])]
  rfl
def L3 (n t : Int) (s : ByteArray) : List Mp := [m4 n, m6 t, m5 s]
structure In3 (n t : Int) (s : ByteArray) : Prop where
  n0 : 0 ≤ n
  n1 : n < 281474976710656
  t0 : 0 ≤ t
  t1 : t < 65536
  s0 : s.size = 32
theorem L3_put {n t : Int} {s : ByteArray} (h : In3 n t s) : ∀ m ∈ L3 n t s, PutM m := by
  intro m hm
  unfold L3 at hm
  simp only [List.mem_cons, List.not_mem_nil, or_false] at hm
  rcases hm with rfl | rfl | rfl
  · exact put_4 n h.n0 h.n1
  · exact put_6 t h.t0 h.t1
  · exact put_5 s h.s0
theorem tM_sizes {n t : Int} {s : ByteArray} (h : In3 n t s) : (tM (m4 n)).size = 7 ∧ (tM (m6 t)).size = 3 ∧ (tM (m5 s)).size = 33 := by
  refine ⟨?_, ?_, ?_⟩
  · rw [tM_4, ba_sizeF, List.length_cons, Oct.be_length]
  · rw [tM_6, ba_sizeF, List.length_cons, Oct.be_length]
  · rw [tM_5, ba_sizeF, List.length_cons]; have := h.s0; simp; exact this
theorem L3_small {n t : Int} {s : ByteArray} (h : In3 n t s) : ∀ m ∈ L3 n t s, (tM m).size ≤ 1000000 := by
  obtain ⟨a, b, c⟩ := tM_sizes h
  intro m hm
  unfold L3 at hm
  simp only [List.mem_cons, List.not_mem_nil, or_false] at hm
  rcases hm with rfl | rfl | rfl <;> omega
theorem gM_0 (n t : Int) (s : ByteArray) : gM (L3 n t s) 0 = ⟨46, tM (m4 n)⟩ := rfl
theorem gM_1 (n t : Int) (s : ByteArray) : gM (L3 n t s) 1 = ⟨46, tM (m6 t)⟩ := rfl
theorem gM_2 (n t : Int) (s : ByteArray) : gM (L3 n t s) 2 = ⟨46, tM (m5 s)⟩ := rfl
theorem L3_chk {n t : Int} {s : ByteArray} (h : In3 n t s) : chkO 3 (gM (L3 n t s)) = 0 := by
  obtain ⟨a, b, c⟩ := tM_sizes h
  have hr : ∀ x : ByteArray, x.size ≤ 253 → rightO ⟨46, x⟩ = 0 := fun x hx => by
    show (if (46 : Int) ≤ 0 then (7 : Int) else if (46 : Int) > 255 then 7 else if (46 : Int) ≤ 31 ∧ ¬ x.size = 0 then 11 else if x.size > 253 then 11 else 0) = 0
    rw [if_neg (by decide), if_neg (by decide), if_neg (fun q => absurd q.1 (by decide)), if_neg (by omega)]
  have h3 : ∀ i, i < 3 → i = 0 ∨ i = 1 ∨ i = 2 := fun i hi => by omega
  refine chkO_zero (fun i hi => ?_) (fun i hi => ?_) ?_
  · rcases h3 i hi with rfl | rfl | rfl
    · rw [gM_0]; exact hr _ (by omega)
    · rw [gM_1]; exact hr _ (by omega)
    · rw [gM_2]; exact hr _ (by omega)
  · rcases h3 i hi with rfl | rfl | rfl
    · rw [gM_0]; exact (by decide : (46 : Int) ≠ 1)
    · rw [gM_1]; exact (by decide : (46 : Int) ≠ 1)
    · rw [gM_2]; exact (by decide : (46 : Int) ≠ 1)
  · show 0 + sizeO (gM (L3 n t s) 0) + sizeO (gM (L3 n t s) 1) + sizeO (gM (L3 n t s) 2) ≤ 400
    rw [gM_0, gM_1, gM_2]
    have hz : ∀ x : ByteArray, sizeO ⟨46, x⟩ = 2 + (x.size : Int) := fun x => if_neg (by decide : ¬ (46 : Int) ≤ 31)
    rw [hz, hz, hz]; omega
theorem L3_all {n t : Int} {s : ByteArray} (h : In3 n t s) : allM (gM (L3 n t s)) 3 = L3 n t s := by
  have g4 := get_4 n h.n0 h.n1
  have g6 := get_6 t h.t0 h.t1
  have g5 := get_5 s h.s0
  have o0 : okM (gM (L3 n t s) 0) = true := by rw [gM_0]; exact decide_eq_true g4.1
  have o1 : okM (gM (L3 n t s) 1) = true := by rw [gM_1]; exact decide_eq_true g6.1
  have o2 : okM (gM (L3 n t s) 2) = true := by rw [gM_2]; exact decide_eq_true g5.1
  have u0 : muO (gM (L3 n t s) 0) = m4 n := by rw [gM_0]; exact g4.2
  have u1 : muO (gM (L3 n t s) 1) = m6 t := by rw [gM_1]; exact g6.2
  have u2 : muO (gM (L3 n t s) 2) = m5 s := by rw [gM_2]; exact g5.2
  rw [allM_yes o2, allM_yes o1, allM_yes o0, u0, u1, u2]
  rfl
theorem L3_fst {n t : Int} {s : ByteArray} (h : In3 n t s) : fstM (gM (L3 n t s)) 3 4 4 = some (m4 n) ∧ fstM (gM (L3 n t s)) 3 6 6 = some (m6 t) ∧ fstM (gM (L3 n t s)) 3 5 5 = some (m5 s) ∧ fstM (gM (L3 n t s)) 3 7 10 = none ∧ fstM (gM (L3 n t s)) 3 0 0 = none := by
  unfold fstM
  rw [L3_all h]
  exact ⟨rfl, rfl, rfl, rfl, rfl⟩
theorem L3_chkG {n t : Int} {s : ByteArray} (h : In3 n t s) (kn : Bool) (tag : ByteArray → ByteArray) (side : Int) (data : ByteArray) : chkG kn tag side (gM (L3 n t s)) 3 data = if kn = false then 10 else if s = tag (dataText side n t data) then 0 else 14 := by
  obtain ⟨f4, f6, f5, -, -⟩ := L3_fst h
  have e4 : fstD (gM (L3 n t s)) 3 4 4 = m4 n := by unfold fstD; rw [f4]; rfl
  have e6 : fstD (gM (L3 n t s)) 3 6 6 = m6 t := by unfold fstD; rw [f6]; rfl
  have e5 : fstD (gM (L3 n t s)) 3 5 5 = m5 s := by unfold fstD; rw [f5]; rfl
  have b4 : fstB (gM (L3 n t s)) 3 4 4 = true := by unfold fstB; rw [f4]; rfl
  have b6 : fstB (gM (L3 n t s)) 3 6 6 = true := by unfold fstB; rw [f6]; rfl
  have b5 : fstB (gM (L3 n t s)) 3 5 5 = true := by unfold fstB; rw [f5]; rfl
  unfold chkG
  rw [e4, e6, e5]
  by_cases hk : kn = false
  · rw [if_pos hk, if_pos hk]
  · rw [if_neg hk, if_neg hk, if_neg (fun q => q ⟨b4, b6, b5⟩)]
    rfl
theorem L3_says {n t : Int} {s : ByteArray} (h : In3 n t s) (kn : Bool) (tag : ByteArray → ByteArray) (side : Int) : saysG kn tag side (gM (L3 n t s)) 3 = false ∧ hearsG kn tag side (gM (L3 n t s)) 3 = false := by
  obtain ⟨-, -, -, f7, f0⟩ := L3_fst h
  have b7 : fstB (gM (L3 n t s)) 3 7 10 = false := by unfold fstB; rw [f7]; rfl
  have b0 : fstB (gM (L3 n t s)) 3 0 0 = false := by unfold fstB; rw [f0]; rfl
  unfold saysG hearsG
  rw [b7, b0]
  simp
end Go.Proofs.YthacfgaacleaeaaGreatDoor
namespace Go.Proofs.YthacfgaacleaeaaGreatDoor
open Go.RowKit Sym Sha Go.ChangeShapes Go.WideShapes Go.ChangeMaps
def kA8 : ByteArray := ⟨#[97, 97, 97, 97, 97, 97, 97, 97]⟩
def kB8 : ByteArray := ⟨#[98, 98, 98, 98, 98, 98, 98, 98]⟩
def xX : ByteArray := ⟨#[120]⟩
def tagW : ByteArray := tagP kA8 kB8 (dataText 1 5 8 xX)
set_option maxRecDepth 1000000 in
theorem tag_ne : (tagW = tagP kA8 kB8 (dataText 0 5 8 xX)) = False := by
  have : ¬ tagW = tagP kA8 kB8 (dataText 0 5 8 xX) := by decide +kernel
  simp [this]
theorem tagW_size : tagW.size = 32 := by
  unfold tagW tagP
  rw [if_neg (by decide)]
  exact macOf_size _ _
set_option maxRecDepth 100000 in
theorem pair40_run (a b : ByteArray) : runV Tryz.prog (onlyS Tryz.prog SNew) noL Tryz.f10 [.string a, .string b] = .ite (!decide (kE a b = (0 : Int))) (.leaf (Value.tuple (Array.mk [Value.agg (Array.mk [Value.string (ByteArray.mk (Array.mk [])), Value.string (ByteArray.mk (Array.mk []))]), Value.string (ByteArray.mk (Array.mk [])), Value.string (ByteArray.mk (Array.mk []))]))) (.leaf (Value.tuple (Array.mk [Value.agg (Array.mk [Value.string (kA a b), Value.string (kB a b)]), Value.string a, Value.string b]))) := by kernel_rfl
theorem pair40 (a b : ByteArray) (w : World) : Calls Tryz.prog 10 #[.string a, .string b] w fun e w' => e = .returned (.tuple #[.agg #[.string (kA a b), .string (kB a b)], .string (kA a b), .string (kB a b)]) ∧ Below w.heap.size w w' := by
  refine calls_runV (onlyS_ok SNew_ok) follows Tryz.func10 (by kernel_rfl) (by kernel_rfl) noL_ok (pair40_run a b) ?_ w
  unfold kA kB kE
  cases okK a b with
  | false => simp [T.ok]; rfl
  | true => simp [T.ok]
end Go.Proofs.YthacfgaacleaeaaGreatDoor
