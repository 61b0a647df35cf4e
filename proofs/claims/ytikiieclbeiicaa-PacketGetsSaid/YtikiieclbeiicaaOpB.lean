/- Options that bytes say: trees of the reference's, and of the first one. No conditions. -/
import Derived.Test.YtikiieclbeiicaaPaA
namespace Go.Proofs.Ytikiieclbeiicaa
set_option linter.unusedVariables false
set_option linter.unusedSimpArgs false
open Go.RowKit Sym Go.ChangeShapes Go.WideShapes Go.ChangeMaps

set_option maxRecDepth 100000 in
theorem first_run (s : ByteArray) : runV Try.prog (onlyS Try.prog noS) noL Try.f135 [.string s] = T.need ((0 : Int) ≤ (0 : Int) ∧ (0 : Int) < (↑s.size : Int)) (T.ite (decide (IntKind.i64.wrap (byteAt s (0 : Int)) ≤ (31 : Int))) (T.need ((0 : Int) ≤ (1 : Int) ∧ (1 : Int) ≤ (↑s.size : Int) ∧ (↑s.size : Int) ≤ (↑s.size : Int)) (T.leaf (Value.tuple (Array.mk [Value.agg (Array.mk [Value.int IntKind.i64 (IntKind.i64.wrap (byteAt s (0 : Int))), Value.string (ByteArray.mk (Array.mk []))]), Value.string (s.extract (1 : Nat) (↑s.size : Int).toNat), Value.int IntKind.i64 (0 : Int)])))) (T.ite (decide ((↑s.size : Int) < (2 : Int))) (T.leaf (Value.tuple (Array.mk [Value.agg (Array.mk [Value.int IntKind.i64 (0 : Int), Value.string (ByteArray.mk (Array.mk []))]), Value.string (ByteArray.mk (Array.mk [])), Value.int IntKind.i64 (1 : Int)]))) (T.need ((0 : Int) ≤ (1 : Int) ∧ (1 : Int) < (↑s.size : Int)) (T.ite (decide (IntKind.i64.wrap (byteAt s (1 : Int)) < (2 : Int))) (T.leaf (Value.tuple (Array.mk [Value.agg (Array.mk [Value.int IntKind.i64 (0 : Int), Value.string (ByteArray.mk (Array.mk []))]), Value.string (ByteArray.mk (Array.mk [])), Value.int IntKind.i64 (4 : Int)]))) (T.ite (decide (IntKind.i64.wrap (byteAt s (1 : Int)) > (↑s.size : Int))) (T.leaf (Value.tuple (Array.mk [Value.agg (Array.mk [Value.int IntKind.i64 (0 : Int), Value.string (ByteArray.mk (Array.mk []))]), Value.string (ByteArray.mk (Array.mk [])), Value.int IntKind.i64 (1 : Int)]))) (T.need ((0 : Int) ≤ (2 : Int) ∧ (2 : Int) ≤ IntKind.i64.wrap (byteAt s (1 : Int)) ∧ IntKind.i64.wrap (byteAt s (1 : Int)) ≤ (↑s.size : Int)) (T.need ((0 : Int) ≤ IntKind.i64.wrap (byteAt s (1 : Int)) ∧ IntKind.i64.wrap (byteAt s (1 : Int)) ≤ (↑s.size : Int) ∧ (↑s.size : Int) ≤ (↑s.size : Int)) (T.leaf (Value.tuple (Array.mk [Value.agg (Array.mk [Value.int IntKind.i64 (IntKind.i64.wrap (byteAt s (0 : Int))), Value.string (s.extract (2 : Nat) (IntKind.i64.wrap (byteAt s (1 : Int))).toNat)]), Value.string (s.extract (IntKind.i64.wrap (byteAt s (1 : Int))).toNat (↑s.size : Int).toNat), Value.int IntKind.i64 (0 : Int)])))))))))) := by kernel_rfl
def rd_st (s : ByteArray) (l : List Op) (a : Int) : St := ⟨[(4, some (.ref 0)), (0, some (.v (.string s))), (5, some (.v (.int .i64 a)))], [.vec true 78 2 l.length (opCells l)]⟩
set_option maxRecDepth 100000 in
theorem rd_round (s : ByteArray) (l : List Op) (a : Int) : roundM Try.prog (onlyS Try.prog noS) noL Try.f118.ntmps 0 (loopAt Try.f118 0) 0 [0, 5] [(4, 78, 2)] [] (rd_st s l a) = T.ite (decide (a < (↑s.size : Int))) (T.need ((0 : Int) ≤ a ∧ a < (↑s.size : Int)) (T.ite (decide (IntKind.i64.wrap (byteAt s a) < (32 : Int))) (T.ite (decide (IntKind.i64.wrap (byteAt s a) > (0 : Int))) (T.need (l.length + (1 : Nat) ≤ (9223372036854775807 : Nat) ∧ (l.length + (1 : Nat)) * Try.prog.types[(78 : Nat)].bytes ≤ (140737488355328 : Nat)) (T.need (allOneP [Value.int IntKind.i64 (IntKind.i64.wrap (byteAt s a)), Value.string (ByteArray.mk (Array.mk []))]) (T.leaf (Ex.normal, St.mk [((4 : Nat), some (SV.ref (0 : Nat))), ((0 : Nat), some (SV.v (Value.string s))), ((5 : Nat), some (SV.v (Value.int IntKind.i64 (IntKind.i64.wrap (a + (1 : Int))))))] [Blk.vec true (78 : Nat) (2 : Nat) (l.length + (1 : Nat)) (opCells l ++ [Value.int IntKind.i64 (IntKind.i64.wrap (byteAt s a)), Value.string (ByteArray.mk (Array.mk []))])])))) (T.leaf (Ex.normal, St.mk [((4 : Nat), some (SV.ref (0 : Nat))), ((0 : Nat), some (SV.v (Value.string s))), ((5 : Nat), some (SV.v (Value.int IntKind.i64 (IntKind.i64.wrap (a + (1 : Int))))))] [Blk.vec true (78 : Nat) (2 : Nat) l.length (opCells l)]))) (T.ite (decide (IntKind.i64.wrap (a + (1 : Int)) ≥ (↑s.size : Int))) (T.leaf (Ex.ret, St.mk [((3 : Nat), some (SV.c (Value.int IntKind.i64 (1 : Int)))), ((2 : Nat), some (SV.ref (0 : Nat))), ((32 : Nat), some (SV.ref (0 : Nat))), ((31 : Nat), some SV.tt), ((31 : Nat), some (SV.v (Value.bool (decide (IntKind.i64.wrap (a + (1 : Int)) ≥ (↑s.size : Int)))))), ((30 : Nat), some (SV.v (Value.int IntKind.i64 (↑s.size : Int)))), ((29 : Nat), some (SV.v (Value.string s))), ((28 : Nat), some (SV.v (Value.int IntKind.i64 (IntKind.i64.wrap (a + (1 : Int)))))), ((27 : Nat), some (SV.v (Value.int IntKind.i64 a))), ((17 : Nat), some SV.ff), ((17 : Nat), some (SV.v (Value.bool (decide (IntKind.i64.wrap (byteAt s a) < (32 : Int)))))), ((16 : Nat), some (SV.v (Value.int IntKind.i64 (IntKind.i64.wrap (byteAt s a))))), ((6 : Nat), some (SV.v (Value.int IntKind.i64 (IntKind.i64.wrap (byteAt s a))))), ((15 : Nat), some (SV.v (Value.int IntKind.i64 (IntKind.i64.wrap (byteAt s a))))), ((14 : Nat), some (SV.v (Value.int IntKind.u8 (byteAt s a)))), ((13 : Nat), some (SV.v (Value.int IntKind.i64 a))), ((12 : Nat), some (SV.v (Value.string s))), ((11 : Nat), some SV.tt), ((11 : Nat), some (SV.v (Value.bool (decide (a < (↑s.size : Int)))))), ((10 : Nat), some (SV.v (Value.int IntKind.i64 (↑s.size : Int)))), ((9 : Nat), some (SV.v (Value.string s))), ((8 : Nat), some (SV.v (Value.int IntKind.i64 a))), ((4 : Nat), some (SV.ref (0 : Nat))), ((0 : Nat), some (SV.v (Value.string s))), ((5 : Nat), some (SV.v (Value.int IntKind.i64 a)))] [Blk.vec true (78 : Nat) (2 : Nat) l.length (opCells l)])) (T.need ((0 : Int) ≤ IntKind.i64.wrap (a + (1 : Int)) ∧ IntKind.i64.wrap (a + (1 : Int)) < (↑s.size : Int)) (T.ite (decide (IntKind.i64.wrap (byteAt s (IntKind.i64.wrap (a + (1 : Int)))) < (2 : Int))) (T.leaf (Ex.ret, St.mk [((3 : Nat), some (SV.c (Value.int IntKind.i64 (4 : Int)))), ((2 : Nat), some (SV.ref (0 : Nat))), ((41 : Nat), some (SV.ref (0 : Nat))), ((38 : Nat), some SV.tt), ((38 : Nat), some (SV.v (Value.bool (decide (IntKind.i64.wrap (byteAt s (IntKind.i64.wrap (a + (1 : Int)))) < (2 : Int)))))), ((40 : Nat), some (SV.v (Value.bool (decide (IntKind.i64.wrap (byteAt s (IntKind.i64.wrap (a + (1 : Int)))) < (2 : Int)))))), ((39 : Nat), some (SV.v (Value.int IntKind.i64 (IntKind.i64.wrap (byteAt s (IntKind.i64.wrap (a + (1 : Int)))))))), ((7 : Nat), some (SV.v (Value.int IntKind.i64 (IntKind.i64.wrap (byteAt s (IntKind.i64.wrap (a + (1 : Int)))))))), ((37 : Nat), some (SV.v (Value.int IntKind.i64 (IntKind.i64.wrap (byteAt s (IntKind.i64.wrap (a + (1 : Int)))))))), ((36 : Nat), some (SV.v (Value.int IntKind.u8 (byteAt s (IntKind.i64.wrap (a + (1 : Int))))))), ((35 : Nat), some (SV.v (Value.int IntKind.i64 (IntKind.i64.wrap (a + (1 : Int)))))), ((34 : Nat), some (SV.v (Value.int IntKind.i64 a))), ((33 : Nat), some (SV.v (Value.string s))), ((31 : Nat), some SV.ff), ((31 : Nat), some (SV.v (Value.bool (decide (IntKind.i64.wrap (a + (1 : Int)) ≥ (↑s.size : Int)))))), ((30 : Nat), some (SV.v (Value.int IntKind.i64 (↑s.size : Int)))), ((29 : Nat), some (SV.v (Value.string s))), ((28 : Nat), some (SV.v (Value.int IntKind.i64 (IntKind.i64.wrap (a + (1 : Int)))))), ((27 : Nat), some (SV.v (Value.int IntKind.i64 a))), ((17 : Nat), some SV.ff), ((17 : Nat), some (SV.v (Value.bool (decide (IntKind.i64.wrap (byteAt s a) < (32 : Int)))))), ((16 : Nat), some (SV.v (Value.int IntKind.i64 (IntKind.i64.wrap (byteAt s a))))), ((6 : Nat), some (SV.v (Value.int IntKind.i64 (IntKind.i64.wrap (byteAt s a))))), ((15 : Nat), some (SV.v (Value.int IntKind.i64 (IntKind.i64.wrap (byteAt s a))))), ((14 : Nat), some (SV.v (Value.int IntKind.u8 (byteAt s a)))), ((13 : Nat), some (SV.v (Value.int IntKind.i64 a))), ((12 : Nat), some (SV.v (Value.string s))), ((11 : Nat), some SV.tt), ((11 : Nat), some (SV.v (Value.bool (decide (a < (↑s.size : Int)))))), ((10 : Nat), some (SV.v (Value.int IntKind.i64 (↑s.size : Int)))), ((9 : Nat), some (SV.v (Value.string s))), ((8 : Nat), some (SV.v (Value.int IntKind.i64 a))), ((4 : Nat), some (SV.ref (0 : Nat))), ((0 : Nat), some (SV.v (Value.string s))), ((5 : Nat), some (SV.v (Value.int IntKind.i64 a)))] [Blk.vec true (78 : Nat) (2 : Nat) l.length (opCells l)])) (T.ite (decide (IntKind.i64.wrap (a + IntKind.i64.wrap (byteAt s (IntKind.i64.wrap (a + (1 : Int))))) > (↑s.size : Int))) (T.leaf (Ex.ret, St.mk [((3 : Nat), some (SV.c (Value.int IntKind.i64 (1 : Int)))), ((2 : Nat), some (SV.ref (0 : Nat))), ((49 : Nat), some (SV.ref (0 : Nat))), ((42 : Nat), some SV.tt), ((42 : Nat), some (SV.v (Value.bool (decide (IntKind.i64.wrap (a + IntKind.i64.wrap (byteAt s (IntKind.i64.wrap (a + (1 : Int))))) > (↑s.size : Int)))))), ((48 : Nat), some (SV.v (Value.bool (decide (IntKind.i64.wrap (a + IntKind.i64.wrap (byteAt s (IntKind.i64.wrap (a + (1 : Int))))) > (↑s.size : Int)))))), ((47 : Nat), some (SV.v (Value.int IntKind.i64 (↑s.size : Int)))), ((46 : Nat), some (SV.v (Value.string s))), ((45 : Nat), some (SV.v (Value.int IntKind.i64 (IntKind.i64.wrap (a + IntKind.i64.wrap (byteAt s (IntKind.i64.wrap (a + (1 : Int))))))))), ((44 : Nat), some (SV.v (Value.int IntKind.i64 (IntKind.i64.wrap (byteAt s (IntKind.i64.wrap (a + (1 : Int)))))))), ((43 : Nat), some (SV.v (Value.int IntKind.i64 a))), ((38 : Nat), some SV.ff), ((38 : Nat), some (SV.v (Value.bool (decide (IntKind.i64.wrap (byteAt s (IntKind.i64.wrap (a + (1 : Int)))) < (2 : Int)))))), ((40 : Nat), some (SV.v (Value.bool (decide (IntKind.i64.wrap (byteAt s (IntKind.i64.wrap (a + (1 : Int)))) < (2 : Int)))))), ((39 : Nat), some (SV.v (Value.int IntKind.i64 (IntKind.i64.wrap (byteAt s (IntKind.i64.wrap (a + (1 : Int)))))))), ((7 : Nat), some (SV.v (Value.int IntKind.i64 (IntKind.i64.wrap (byteAt s (IntKind.i64.wrap (a + (1 : Int)))))))), ((37 : Nat), some (SV.v (Value.int IntKind.i64 (IntKind.i64.wrap (byteAt s (IntKind.i64.wrap (a + (1 : Int)))))))), ((36 : Nat), some (SV.v (Value.int IntKind.u8 (byteAt s (IntKind.i64.wrap (a + (1 : Int))))))), ((35 : Nat), some (SV.v (Value.int IntKind.i64 (IntKind.i64.wrap (a + (1 : Int)))))), ((34 : Nat), some (SV.v (Value.int IntKind.i64 a))), ((33 : Nat), some (SV.v (Value.string s))), ((31 : Nat), some SV.ff), ((31 : Nat), some (SV.v (Value.bool (decide (IntKind.i64.wrap (a + (1 : Int)) ≥ (↑s.size : Int)))))), ((30 : Nat), some (SV.v (Value.int IntKind.i64 (↑s.size : Int)))), ((29 : Nat), some (SV.v (Value.string s))), ((28 : Nat), some (SV.v (Value.int IntKind.i64 (IntKind.i64.wrap (a + (1 : Int)))))), ((27 : Nat), some (SV.v (Value.int IntKind.i64 a))), ((17 : Nat), some SV.ff), ((17 : Nat), some (SV.v (Value.bool (decide (IntKind.i64.wrap (byteAt s a) < (32 : Int)))))), ((16 : Nat), some (SV.v (Value.int IntKind.i64 (IntKind.i64.wrap (byteAt s a))))), ((6 : Nat), some (SV.v (Value.int IntKind.i64 (IntKind.i64.wrap (byteAt s a))))), ((15 : Nat), some (SV.v (Value.int IntKind.i64 (IntKind.i64.wrap (byteAt s a))))), ((14 : Nat), some (SV.v (Value.int IntKind.u8 (byteAt s a)))), ((13 : Nat), some (SV.v (Value.int IntKind.i64 a))), ((12 : Nat), some (SV.v (Value.string s))), ((11 : Nat), some SV.tt), ((11 : Nat), some (SV.v (Value.bool (decide (a < (↑s.size : Int)))))), ((10 : Nat), some (SV.v (Value.int IntKind.i64 (↑s.size : Int)))), ((9 : Nat), some (SV.v (Value.string s))), ((8 : Nat), some (SV.v (Value.int IntKind.i64 a))), ((4 : Nat), some (SV.ref (0 : Nat))), ((0 : Nat), some (SV.v (Value.string s))), ((5 : Nat), some (SV.v (Value.int IntKind.i64 a)))] [Blk.vec true (78 : Nat) (2 : Nat) l.length (opCells l)])) (T.need ((0 : Int) ≤ IntKind.i64.wrap (a + (2 : Int)) ∧ IntKind.i64.wrap (a + (2 : Int)) ≤ IntKind.i64.wrap (a + IntKind.i64.wrap (byteAt s (IntKind.i64.wrap (a + (1 : Int))))) ∧ IntKind.i64.wrap (a + IntKind.i64.wrap (byteAt s (IntKind.i64.wrap (a + (1 : Int))))) ≤ (↑s.size : Int)) (T.need (l.length + (1 : Nat) ≤ (9223372036854775807 : Nat) ∧ (l.length + (1 : Nat)) * Try.prog.types[(78 : Nat)].bytes ≤ (140737488355328 : Nat)) (T.need (allOneP [Value.int IntKind.i64 (IntKind.i64.wrap (byteAt s a)), Value.string (s.extract (IntKind.i64.wrap (a + (2 : Int))).toNat (IntKind.i64.wrap (a + IntKind.i64.wrap (byteAt s (IntKind.i64.wrap (a + (1 : Int)))))).toNat)]) (T.leaf (Ex.normal, St.mk [((4 : Nat), some (SV.ref (0 : Nat))), ((0 : Nat), some (SV.v (Value.string s))), ((5 : Nat), some (SV.v (Value.int IntKind.i64 (IntKind.i64.wrap (a + IntKind.i64.wrap (byteAt s (IntKind.i64.wrap (a + (1 : Int)))))))))] [Blk.vec true (78 : Nat) (2 : Nat) (l.length + (1 : Nat)) (opCells l ++ [Value.int IntKind.i64 (IntKind.i64.wrap (byteAt s a)), Value.string (s.extract (IntKind.i64.wrap (a + (2 : Int))).toNat (IntKind.i64.wrap (a + IntKind.i64.wrap (byteAt s (IntKind.i64.wrap (a + (1 : Int)))))).toNat)])]))))))))))) (T.leaf (Ex.exit (0 : Nat), St.mk [((4 : Nat), some (SV.ref (0 : Nat))), ((0 : Nat), some (SV.v (Value.string s))), ((5 : Nat), some (SV.v (Value.int IntKind.i64 a)))] [Blk.vec true (78 : Nat) (2 : Nat) l.length (opCells l)])) := by kernel_rfl
def Lrd (P : Program) (fn : Func) (s : ByteArray) (lE : List Op) (aE : Int) : Nat → St → Option (T (Ex × St)) :=
  addL 0 (fun st => .need (st.H.length = 0) (.need (st.tidy 0 [0, 5] [(4, 78, 2)] [] = rd_st s [] (0 : Nat)) ((roundM P (onlyS P noS) noL fn.ntmps 0 (loopAt fn 0) 0 [0, 5] [(4, 78, 2)] [] (closeAt [] (rd_st s lE aE))).bind (lastX 0)))) noL
set_option maxRecDepth 100000 in
theorem rd_run (s : ByteArray) (lE : List Op) (aE : Int) : runF Try.prog (onlyS Try.prog noS) (Lrd Try.prog Try.f118 s lE aE) Try.f118 (Try.f118.body.getD .skip) [.v (.string s)] [] = T.need ((0 : Nat) = (0 : Nat)) (T.need (St.mk [((4 : Nat), some (SV.ref (0 : Nat))), ((0 : Nat), some (SV.v (Value.string s))), ((5 : Nat), some (SV.v (Value.int IntKind.i64 (0 : Int))))] [Blk.vec true (78 : Nat) (2 : Nat) (0 : Nat) []] = rd_st s [] (0 : Int)) (T.ite (decide (aE < (↑s.size : Int))) (T.need ((0 : Int) ≤ aE ∧ aE < (↑s.size : Int)) (T.ite (decide (IntKind.i64.wrap (byteAt s aE) < (32 : Int))) (T.ite (decide (IntKind.i64.wrap (byteAt s aE) > (0 : Int))) (T.need (lE.length + (1 : Nat) ≤ (9223372036854775807 : Nat) ∧ (lE.length + (1 : Nat)) * Try.prog.types[(78 : Nat)].bytes ≤ (140737488355328 : Nat)) (T.need (allOneP [Value.int IntKind.i64 (IntKind.i64.wrap (byteAt s aE)), Value.string (ByteArray.mk (Array.mk []))]) (T.stuck (39 : Nat)))) (T.stuck (39 : Nat))) (T.ite (decide (IntKind.i64.wrap (aE + (1 : Int)) ≥ (↑s.size : Int))) (T.leaf (SV.tup [SV.ref (0 : Nat), SV.c (Value.int IntKind.i64 (1 : Int))], [Blk.vec true (78 : Nat) (2 : Nat) lE.length (opCells lE)])) (T.need ((0 : Int) ≤ IntKind.i64.wrap (aE + (1 : Int)) ∧ IntKind.i64.wrap (aE + (1 : Int)) < (↑s.size : Int)) (T.ite (decide (IntKind.i64.wrap (byteAt s (IntKind.i64.wrap (aE + (1 : Int)))) < (2 : Int))) (T.leaf (SV.tup [SV.ref (0 : Nat), SV.c (Value.int IntKind.i64 (4 : Int))], [Blk.vec true (78 : Nat) (2 : Nat) lE.length (opCells lE)])) (T.ite (decide (IntKind.i64.wrap (aE + IntKind.i64.wrap (byteAt s (IntKind.i64.wrap (aE + (1 : Int))))) > (↑s.size : Int))) (T.leaf (SV.tup [SV.ref (0 : Nat), SV.c (Value.int IntKind.i64 (1 : Int))], [Blk.vec true (78 : Nat) (2 : Nat) lE.length (opCells lE)])) (T.need ((0 : Int) ≤ IntKind.i64.wrap (aE + (2 : Int)) ∧ IntKind.i64.wrap (aE + (2 : Int)) ≤ IntKind.i64.wrap (aE + IntKind.i64.wrap (byteAt s (IntKind.i64.wrap (aE + (1 : Int))))) ∧ IntKind.i64.wrap (aE + IntKind.i64.wrap (byteAt s (IntKind.i64.wrap (aE + (1 : Int))))) ≤ (↑s.size : Int)) (T.need (lE.length + (1 : Nat) ≤ (9223372036854775807 : Nat) ∧ (lE.length + (1 : Nat)) * Try.prog.types[(78 : Nat)].bytes ≤ (140737488355328 : Nat)) (T.need (allOneP [Value.int IntKind.i64 (IntKind.i64.wrap (byteAt s aE)), Value.string (s.extract (IntKind.i64.wrap (aE + (2 : Int))).toNat (IntKind.i64.wrap (aE + IntKind.i64.wrap (byteAt s (IntKind.i64.wrap (aE + (1 : Int)))))).toNat)]) (T.stuck (39 : Nat))))))))))) (T.leaf (SV.tup [SV.ref (0 : Nat), SV.c (Value.int IntKind.i64 (0 : Int))], [Blk.vec true (78 : Nat) (2 : Nat) lE.length (opCells lE)])))) := by kernel_rfl
end Go.Proofs.Ytikiieclbeiicaa
namespace Go.Proofs.Ytikiieclbeiicaa
set_option linter.unusedVariables false
set_option linter.unusedSimpArgs false
open Go.RowKit Sym Go.ChangeShapes Go.WideShapes Go.ChangeMaps

def fstK (s : ByteArray) : Int := if err1 s 0 = 0 then kindR s 0 else 0
def fstV (s : ByteArray) : ByteArray := if err1 s 0 = 0 ∧ ¬ kindR s 0 < 32 then s.extract 2 (manyR s 0).toNat else ⟨⟨[]⟩⟩
def fstR (s : ByteArray) : ByteArray := if err1 s 0 = 0 then s.extract (pos1 s 0) s.size else ⟨⟨[]⟩⟩
theorem opts_first (s : ByteArray) (h : 0 < s.size ∧ s.size ≤ 1000000) (w : World) : Calls Try.prog 135 #[.string s] w fun e w' => e = .returned (.tuple #[.agg #[.int .i64 (fstK s), .string (fstV s)], .string (fstR s), .int .i64 (err1 s 0)]) ∧ Below w.heap.size w w' := by
  refine calls_runV (onlyS_ok noS_ok) follows Try.func135 (by kernel_rfl) (by kernel_rfl) noL_ok (first_run s) ?_ w
  obtain ⟨h0, h1⟩ := h
  have b0 := byteAt_in s 0
  have b1 := byteAt_in s 1
  have w0 : IntKind.i64.wrap (byteAt s 0) = byteAt s 0 := w64 _ (by omega) (by omega)
  have w1 : IntKind.i64.wrap (byteAt s 1) = byteAt s 1 := w64 _ (by omega) (by omega)
  have k0 : kindR s 0 = byteAt s 0 := rfl
  have m0 : manyR s 0 = byteAt s 1 := rfl
  have z0 : ((0 : Nat) : Int) + byteAt s 1 = byteAt s 1 := by omega
  rw [w0, w1]
  unfold fstK fstV fstR pos1 err1
  rw [k0, m0]
  by_cases hk : byteAt s 0 < 32
  · have hk' : byteAt s 0 ≤ 31 := by omega
    simp [T.ok, hk, hk']
    omega
  · have hk' : ¬ byteAt s 0 ≤ 31 := by omega
    by_cases h2 : s.size ≤ 1
    · have h2' : (s.size : Int) < 2 := by omega
      simp [T.ok, hk, hk', h2, h2']
      omega
    · have h2' : ¬ (s.size : Int) < 2 := by omega
      have h2'' : (1 : Int) < s.size := by omega
      by_cases h3 : byteAt s 1 < 2
      · simp [T.ok, hk, hk', h2, h2', h2'', h3]
        omega
      · have h3' : 2 ≤ byteAt s 1 := by omega
        by_cases h4 : (s.size : Int) < byteAt s 1
        · have h4' : ¬ byteAt s 1 ≤ (s.size : Int) := by omega
          simp [T.ok, hk, hk', h2, h2', h2'', h3, h4]
          omega
        · have h4' : byteAt s 1 ≤ (s.size : Int) := by omega
          simp [T.ok, hk, hk', h2, h2', h2'', h3, h3', h4, h4']
          omega
def tFirst : List Value → Option (List Prop × Value) | [.string s] => some ([0 < s.size ∧ s.size ≤ 1000000], .tuple #[.agg #[.int .i64 (fstK s), .string (fstV s)], .string (fstR s), .int .i64 (err1 s 0)]) | _ => none
/-! the reference's -/
theorem rd_cons (s : ByteArray) (l : List Op) (o : Op) (a : Int) : rd_st s (l ++ [o]) a = ⟨[(4, some (.ref 0)), (0, some (.v (.string s))), (5, some (.v (.int .i64 a)))], [.vec true 78 2 (l.length + 1) (opCells l ++ [.int .i64 o.kind, .string o.val])]⟩ := by
  unfold rd_st
  rw [opCells_append, List.length_append]
  rfl
set_option maxRecDepth 100000 in
theorem opt_bytes : Try.prog.types[78].bytes = 24 := by kernel_rfl
set_option maxRecDepth 100000 in
theorem rd_step (s : ByteArray) (hs : s.size ≤ 1000000) : ∀ i : Nat, i ≤ endR s → i ≠ endR s → (roundM Try.prog (onlyS Try.prog noS) noL Try.f118.ntmps 0 (loopAt Try.f118 0) 0 [0, 5] [(4, 78, 2)] [] (rd_st s (accR s i) (posR s i : Nat))).ok fun r => r.1 = .normal ∧ ∃ j, j ≤ endR s ∧ endR s - j < endR s - i ∧ r.2 = rd_st s (accR s j) (posR s j : Nat) := by
  intro i hi hne
  obtain ⟨p1, p2⟩ := (endR_le s).2 i (by omega)
  have hl := accR_len s i
  have he := endR_size s
  have fin : ∀ (l : List Op) (a : Int), l = accR s (i + 1) → a = (posR s (i + 1) : Nat) → ∃ j, j ≤ endR s ∧ endR s - j < endR s - i ∧ rd_st s l a = rd_st s (accR s j) (posR s j : Nat) := fun l a h1 h2 => ⟨i + 1, by omega, by omega, by rw [h1, h2]⟩
  simp only [accR, posR] at fin
  generalize accR s i = l at *
  generalize posR s i = a at *
  have b0 := byteAt_in s (a : Nat)
  have b1 := byteAt_in s (a + 1 : Nat)
  have w0 : IntKind.i64.wrap (byteAt s (a : Nat)) = byteAt s (a : Nat) := w64 _ (by omega) (by omega)
  have w1 : IntKind.i64.wrap (byteAt s (a + 1 : Nat)) = byteAt s (a + 1 : Nat) := w64 _ (by omega) (by omega)
  have wa : IntKind.i64.wrap ((a : Int) + 1) = ((a + 1 : Nat) : Int) := by rw [w64 _ (by omega) (by omega)]; rfl
  have wb : IntKind.i64.wrap ((a : Int) + 2) = ((a + 2 : Nat) : Int) := by rw [w64 _ (by omega) (by omega)]; rfl
  have wm : IntKind.i64.wrap ((a : Int) + byteAt s (a + 1 : Nat)) = (a : Int) + byteAt s (a + 1 : Nat) := w64 _ (by omega) (by omega)
  have wn : ((a : Int) + byteAt s (a + 1 : Nat)).toNat = a + (byteAt s (a + 1 : Nat)).toNat := by omega
  have one : ∀ (k : Int) (v : ByteArray), allOneP [Value.int .i64 k, Value.string v] := fun k v u hu => by
    simp only [List.mem_cons, List.not_mem_nil, or_false] at hu
    rcases hu with rfl | rfl <;> rfl
  rw [rd_round]
  rw [w0, wa, w1, wb, wm, opt_bytes]
  unfold err1 kindR manyR at p2
  unfold acc1 pos1 kindR manyR at fin
  refine ⟨fun _ => ⟨⟨by omega, by omega⟩, fun h => ⟨fun h2 => ⟨⟨by omega, by omega⟩, one _ _, rfl, ?_⟩, fun h2 => ⟨rfl, ?_⟩⟩, fun h => ⟨fun h2 => ?_, fun h2 => ⟨⟨by omega, by have := of_decide_eq_false h2; omega⟩, fun h3 => ?_, fun h3 => ⟨fun h4 => ?_, fun h4 => ⟨?_, ⟨by omega, by omega⟩, one _ _, rfl, ?_⟩⟩⟩⟩⟩, fun h => ?_⟩
  · have h := of_decide_eq_true h
    have h2 := of_decide_eq_true h2
    rw [if_pos h, if_pos h, if_pos h2] at fin
    have := fin _ _ rfl rfl
    rw [rd_cons] at this
    exact this
  · have h := of_decide_eq_true h
    have h2 := of_decide_eq_false h2
    rw [if_pos h, if_pos h, if_neg h2] at fin
    exact fin _ _ (List.append_nil _).symm rfl
  · have h := of_decide_eq_false h
    have h2 := of_decide_eq_true h2
    rw [if_neg h, if_pos (by omega)] at p2
    cases p2
  · have h := of_decide_eq_false h
    have h2 := of_decide_eq_false h2
    have h3 := of_decide_eq_true h3
    rw [if_neg h, if_neg (by omega), if_pos h3] at p2
    cases p2
  · have h := of_decide_eq_false h
    have h2 := of_decide_eq_false h2
    have h3 := of_decide_eq_false h3
    have h4 := of_decide_eq_true h4
    rw [if_neg h, if_neg (by omega), if_neg h3, if_pos h4] at p2
    cases p2
  · have h2 := of_decide_eq_false h2
    have h3 := of_decide_eq_false h3
    have h4 := of_decide_eq_false h4
    exact ⟨by omega, by omega, by omega⟩
  · have h := of_decide_eq_false h
    rw [if_neg h, if_neg h] at fin
    have := fin _ ((a : Int) + byteAt s (a + 1 : Nat)) rfl (by omega)
    rw [rd_cons] at this
    rw [wn, Int.toNat_natCast]
    exact this
  · have h := of_decide_eq_false h
    omega
def fRead : List SV → List Blk → Option (T (SV × List Blk))
  | [.v (.string s)], [] => some (.need (s.size ≤ 1000000) (.leaf (.tup [.ref 0, .v (.int .i64 (errR s))], [.vec true 78 2 (optsOf s).length (opCells (optsOf s))])))
  | _, _ => none
set_option maxRecDepth 100000 in
theorem fRead_ok : EntryOk Try.prog 118 fRead := by
  intro ss H t ht bs B w vs hm hv Qs hq
  unfold fRead at ht
  split at ht
  · rename_i s
    simp only [Option.some.injEq] at ht
    subst ht
    obtain ⟨hs, hq⟩ := hq
    have hpos := posR_up s (endR s) (Nat.le_refl _)
    have hst := endR_stop s
    have hl := accR_len s (endR s)
    have he := endR_size s
    have key := inl_ok (onlyS_ok noS_ok) follows Try.func118 (by kernel_rfl) (by kernel_rfl) (L := Lrd Try.prog Try.f118 s (accR s (endR s)) (posR s (endR s) : Nat)) (one_loop (b := loopAt Try.f118 0) (id := 0) (by kernel_rfl) fun st t h => by
      rw [addL_same h]
      exact loop_cnt (onlyS_ok noS_ok) follows (by kernel_rfl) (noloops (by kernel_rfl)) (fun i => i ≤ endR s) (fun i => rd_st s (accR s i) (posR s i : Nat)) (fun i => endR s - i) 0 [0, 5] [(4, 78, 2)] [] (endR s) [] (rd_step s hs) (Nat.zero_le _))
      [.v (.string s)] [] _ rfl bs B w vs hm hv (fun r => r = (.tup [.ref 0, .c (.int .i64 (errR s))], [.vec true 78 2 (optsOf s).length (opCells (optsOf s))])) (by
        obtain ⟨q, hq⟩ : ∃ q, q = errR s := ⟨_, rfl⟩
        rw [← hq]
        have fin : ∀ k : Int, k = q → ((SV.tup [.ref 0, .c (.int .i64 k)], [Blk.vec true 78 2 (accR s (endR s)).length (opCells (accR s (endR s)))]) : SV × List Blk) = (.tup [.ref 0, .c (.int .i64 q)], [.vec true 78 2 (optsOf s).length (opCells (optsOf s))]) := fun k hk => by rw [hk]; rfl
        rw [rd_run]
        unfold errR at hq
        generalize accR s (endR s) = l at *
        generalize posR s (endR s) = a at *
        have b0 := byteAt_in s (a : Nat)
        have b1 := byteAt_in s (a + 1 : Nat)
        have w0 : IntKind.i64.wrap (byteAt s (a : Nat)) = byteAt s (a : Nat) := w64 _ (by omega) (by omega)
        have w1 : IntKind.i64.wrap (byteAt s (a + 1 : Nat)) = byteAt s (a + 1 : Nat) := w64 _ (by omega) (by omega)
        have wa : IntKind.i64.wrap ((a : Int) + 1) = ((a + 1 : Nat) : Int) := by rw [w64 _ (by omega) (by omega)]; rfl
        have wm : IntKind.i64.wrap ((a : Int) + byteAt s (a + 1 : Nat)) = (a : Int) + byteAt s (a + 1 : Nat) := w64 _ (by omega) (by omega)
        rw [w0, wa, w1, wm]
        unfold err1 kindR manyR at hst hq
        refine ⟨rfl, rfl, fun h => ⟨⟨by omega, by have := of_decide_eq_true h; omega⟩, fun h1 => ?_, fun h1 => ⟨fun h2 => ?_, fun h2 => ⟨⟨by omega, by have := of_decide_eq_false h2; omega⟩, fun h3 => ?_, fun h3 => ⟨fun h4 => ?_, fun h4 => ?_⟩⟩⟩⟩, fun h => ?_⟩
        · exfalso
          have h := of_decide_eq_true h
          have h1 := of_decide_eq_true h1
          rw [if_pos h1] at hst
          rcases hst with x | x
          · omega
          · exact x rfl
        · have h := of_decide_eq_true h
          have h1 := of_decide_eq_false h1
          have h2 := of_decide_eq_true h2
          exact fin _ (by rw [hq, if_neg (by omega), if_neg h1, if_pos (by omega)])
        · have h := of_decide_eq_true h
          have h1 := of_decide_eq_false h1
          have h2 := of_decide_eq_false h2
          have h3 := of_decide_eq_true h3
          exact fin _ (by rw [hq, if_neg (by omega), if_neg h1, if_neg (by omega), if_pos h3])
        · have h := of_decide_eq_true h
          have h1 := of_decide_eq_false h1
          have h2 := of_decide_eq_false h2
          have h3 := of_decide_eq_false h3
          have h4 := of_decide_eq_true h4
          exact fin _ (by rw [hq, if_neg (by omega), if_neg h1, if_neg (by omega), if_neg h3, if_pos h4])
        · exfalso
          have h := of_decide_eq_true h
          have h1 := of_decide_eq_false h1
          have h2 := of_decide_eq_false h2
          have h3 := of_decide_eq_false h3
          have h4 := of_decide_eq_false h4
          rw [if_neg h1, if_neg (by omega), if_neg h3, if_neg h4] at hst
          rcases hst with x | x
          · omega
          · exact x rfl
        · have h := of_decide_eq_false h
          exact fin _ (by rw [hq, if_pos (by omega)]))
    refine key.mono ?_
    rintro e w' ⟨s1, H1, B1, x, hr, hp, he', hx, hm'⟩
    simp only [Prod.mk.injEq] at hr
    obtain ⟨rfl, rfl⟩ := hr
    exact ⟨_, _, B1, x, hq, hp, he', hx, hm'⟩
  · cases ht
end Go.Proofs.Ytikiieclbeiicaa
namespace Go.Proofs.Ytikiieclbeiicaa
set_option linter.unusedVariables false
set_option linter.unusedSimpArgs false
open Go.RowKit Sym Go.ChangeShapes Go.WideShapes Go.ChangeMaps

def SW : Tab := addS 135 tFirst noS
theorem SW_ok : TabOk Try.prog SW := addS_ok noS_ok (by kernel_rfl) (by (intro xs p v h hp w; unfold tFirst at h; (split at h) <;> first | (cases h; done) | (simp only [Option.some.injEq, Prod.mk.injEq] at h; obtain ⟨rfl, rfl⟩ := h; exact opts_first _ (hp _ (List.mem_cons_self ..)) w)))
def FW (P : Program) (fG : Func) : LTab := addT 113 (inl P (onlyS P noS) noL fG) noF
theorem FW_ok : LOk Try.prog (FW Try.prog Try.f113) := addT_ok noF_ok (by kernel_rfl) (inl_ok (onlyS_ok noS_ok) follows Try.func113 (by kernel_rfl) (by kernel_rfl) (noloops (by kernel_rfl)))
abbrev CW (P : Program) (fG : Func) : Cfg := both P SW (FW P fG) [113]
theorem CW_ok : CfgOk Try.prog (CW Try.prog Try.f113) := both_ok SW_ok FW_ok
def wk_st (u : ByteArray) (l : List Op) : St := ⟨[(0, some (.v (.string u))), (1, some (.clo (.func 113) [] [.ptr 0 0]))], [.own [.ref 1], .vec true 78 2 l.length (opCells l)]⟩
abbrev tauW : St → St := St.ord 1 [0, 1] [(.cell 0 0 [], 78, 2)] []
set_option maxRecDepth 100000 in
theorem wk_round (u : ByteArray) (l : List Op) : roundG Try.prog (CW Try.prog Try.f113) noL Try.f112.ntmps 0 (loopAt Try.f112 0) tauW (wk_st u l) = T.ite (!decide (u = ByteArray.mk (Array.mk []))) (T.need ((0 : Nat) < u.size ∧ u.size ≤ (1000000 : Nat)) (T.ite (!decide (err1 u (0 : Nat) = (0 : Int))) (T.leaf (Ex.ret, St.mk [((4 : Nat), some (SV.v (Value.int IntKind.i64 (err1 u (0 : Nat))))), ((18 : Nat), some (SV.v (Value.int IntKind.i64 (err1 u (0 : Nat))))), ((17 : Nat), some SV.tt), ((17 : Nat), some (SV.v (Value.bool !decide (err1 u (0 : Nat) = (0 : Int))))), ((16 : Nat), some (SV.v (Value.int IntKind.i64 (err1 u (0 : Nat))))), ((7 : Nat), some (SV.v (Value.int IntKind.i64 (err1 u (0 : Nat))))), ((6 : Nat), some (SV.v (Value.string (fstR u)))), ((5 : Nat), some (SV.ptr (2 : Nat) (0 : Nat))), ((15 : Nat), some (SV.v (Value.int IntKind.i64 (err1 u (0 : Nat))))), ((14 : Nat), some (SV.v (Value.string (fstR u)))), ((13 : Nat), some (SV.v (Value.agg (Array.mk [Value.int IntKind.i64 (fstK u), Value.string (fstV u)])))), ((10 : Nat), some (SV.v (Value.tuple (Array.mk [Value.agg (Array.mk [Value.int IntKind.i64 (fstK u), Value.string (fstV u)]), Value.string (fstR u), Value.int IntKind.i64 (err1 u (0 : Nat))])))), ((12 : Nat), some (SV.v (Value.tuple (Array.mk [Value.agg (Array.mk [Value.int IntKind.i64 (fstK u), Value.string (fstV u)]), Value.string (fstR u), Value.int IntKind.i64 (err1 u (0 : Nat))])))), ((11 : Nat), some (SV.v (Value.string u))), ((9 : Nat), some SV.tt), ((9 : Nat), some (SV.v (Value.bool !decide (u = ByteArray.mk (Array.mk []))))), ((8 : Nat), some (SV.v (Value.string u))), ((0 : Nat), some (SV.v (Value.string u))), ((1 : Nat), some (SV.clo (Fn.func (113 : Nat)) [] [SV.ptr (0 : Nat) (0 : Nat)]))] [Blk.own [SV.ref (1 : Nat)], Blk.vec true (78 : Nat) (2 : Nat) l.length (opCells l), Blk.own [SV.v (Value.int IntKind.i64 (fstK u)), SV.v (Value.string (fstV u))]])) (T.ite (!decide (fstK u = (0 : Int))) (T.need (l.length + (1 : Nat) ≤ (9223372036854775807 : Nat) ∧ (l.length + (1 : Nat)) * Try.prog.types[(78 : Nat)].bytes ≤ (140737488355328 : Nat)) (T.need (allOneP [Value.int IntKind.i64 (fstK u), Value.string (fstV u)]) (T.leaf (Ex.normal, St.mk [((0 : Nat), some (SV.v (Value.string (fstR u)))), ((1 : Nat), some (SV.clo (Fn.func (113 : Nat)) [] [SV.ptr (0 : Nat) (0 : Nat)]))] [Blk.own [SV.ref (1 : Nat)], Blk.vec true (78 : Nat) (2 : Nat) (l.length + (1 : Nat)) (opCells l ++ [Value.int IntKind.i64 (fstK u), Value.string (fstV u)])])))) (T.leaf (Ex.normal, St.mk [((0 : Nat), some (SV.v (Value.string (fstR u)))), ((1 : Nat), some (SV.clo (Fn.func (113 : Nat)) [] [SV.ptr (0 : Nat) (0 : Nat)]))] [Blk.own [SV.ref (1 : Nat)], Blk.vec true (78 : Nat) (2 : Nat) l.length (opCells l)]))))) (T.leaf (Ex.exit (0 : Nat), St.mk [((0 : Nat), some (SV.v (Value.string u))), ((1 : Nat), some (SV.clo (Fn.func (113 : Nat)) [] [SV.ptr (0 : Nat) (0 : Nat)]))] [Blk.own [SV.ref (1 : Nat)], Blk.vec true (78 : Nat) (2 : Nat) l.length (opCells l)])) := by kernel_rfl
def Lwk (P : Program) (C : Cfg) (fn : Func) (s uE : ByteArray) (lE : List Op) : Nat → St → Option (T (Ex × St)) :=
  addL 0 (fun st => .need (st.H.length = 1) (.need (tauW st = wk_st s []) ((roundG P C noL fn.ntmps 0 (loopAt fn 0) tauW (closeAt [] (wk_st uE lE))).bind (lastX 0)))) noL
def FGet (P : Program) (fG fW : Func) (s uE : ByteArray) (lE : List Op) : LTab := addT 112 (inl P (CW P fG) (Lwk P (CW P fG) fW s uE lE) fW) FOpt2
abbrev CGet (P : Program) (fG fW : Func) (s uE : ByteArray) (lE : List Op) : Cfg := both P noS (FGet P fG fW s uE lE) (112 :: fsOpt)
set_option maxRecDepth 100000 in
theorem get_run (s uE : ByteArray) (lE : List Op) : runF Try.prog (CGet Try.prog Try.f113 Try.f112 s uE lE) noL Try.f58 (Try.f58.body.getD .skip) [.v (.string s)] [] = T.need ((1 : Nat) = (1 : Nat)) (T.need (St.mk [((0 : Nat), some (SV.v (Value.string s))), ((1 : Nat), some (SV.clo (Fn.func (113 : Nat)) [] [SV.ptr (0 : Nat) (0 : Nat)]))] [Blk.own [SV.ref (1 : Nat)], Blk.vec true (78 : Nat) (2 : Nat) (0 : Nat) []] = wk_st s []) (T.ite (!decide (uE = ByteArray.mk (Array.mk []))) (T.need ((0 : Nat) < uE.size ∧ uE.size ≤ (1000000 : Nat)) (T.ite (!decide (err1 uE (0 : Nat) = (0 : Int))) (T.ite (decide (err1 uE (0 : Nat) = (0 : Int))) (T.need (OpP lE.length fun i j => cellAt (opCells lE) (i * (2 : Nat) + j)) (T.ite (!decide (chkO lE.length (opF fun i j => cellAt (opCells lE) (i * (2 : Nat) + j)) = (0 : Int))) (T.leaf (SV.v (Value.tuple (Array.mk [Value.slice none (0 : Nat) (0 : Nat), Value.int IntKind.i64 (chkO lE.length (opF fun i j => cellAt (opCells lE) (i * (2 : Nat) + j)))])), [Blk.own [SV.ref (1 : Nat)], Blk.vec true (78 : Nat) (2 : Nat) lE.length (opCells lE), Blk.own [SV.v (Value.int IntKind.i64 (fstK uE)), SV.v (Value.string (fstV uE))]])) (T.leaf (SV.tup [SV.ref (1 : Nat), SV.c (Value.int IntKind.i64 (0 : Int))], [Blk.own [SV.ref (1 : Nat)], Blk.vec true (78 : Nat) (2 : Nat) lE.length (opCells lE), Blk.own [SV.v (Value.int IntKind.i64 (fstK uE)), SV.v (Value.string (fstV uE))]])))) (T.ite (!decide (err1 uE (0 : Nat) = (0 : Int))) (T.leaf (SV.v (Value.tuple (Array.mk [Value.slice none (0 : Nat) (0 : Nat), Value.int IntKind.i64 (err1 uE (0 : Nat))])), [Blk.own [SV.ref (1 : Nat)], Blk.vec true (78 : Nat) (2 : Nat) lE.length (opCells lE), Blk.own [SV.v (Value.int IntKind.i64 (fstK uE)), SV.v (Value.string (fstV uE))]])) (T.leaf (SV.tup [SV.ref (1 : Nat), SV.c (Value.int IntKind.i64 (0 : Int))], [Blk.own [SV.ref (1 : Nat)], Blk.vec true (78 : Nat) (2 : Nat) lE.length (opCells lE), Blk.own [SV.v (Value.int IntKind.i64 (fstK uE)), SV.v (Value.string (fstV uE))]])))) (T.ite (!decide (fstK uE = (0 : Int))) (T.need (lE.length + (1 : Nat) ≤ (9223372036854775807 : Nat) ∧ (lE.length + (1 : Nat)) * Try.prog.types[(78 : Nat)].bytes ≤ (140737488355328 : Nat)) (T.need (allOneP [Value.int IntKind.i64 (fstK uE), Value.string (fstV uE)]) (T.stuck (39 : Nat)))) (T.stuck (39 : Nat))))) (T.need (OpP lE.length fun i j => cellAt (opCells lE) (i * (2 : Nat) + j)) (T.ite (!decide (chkO lE.length (opF fun i j => cellAt (opCells lE) (i * (2 : Nat) + j)) = (0 : Int))) (T.leaf (SV.v (Value.tuple (Array.mk [Value.slice none (0 : Nat) (0 : Nat), Value.int IntKind.i64 (chkO lE.length (opF fun i j => cellAt (opCells lE) (i * (2 : Nat) + j)))])), [Blk.own [SV.ref (1 : Nat)], Blk.vec true (78 : Nat) (2 : Nat) lE.length (opCells lE)])) (T.leaf (SV.tup [SV.ref (1 : Nat), SV.c (Value.int IntKind.i64 (0 : Int))], [Blk.own [SV.ref (1 : Nat)], Blk.vec true (78 : Nat) (2 : Nat) lE.length (opCells lE)])))))) := by kernel_rfl
def FGetR : LTab := addF 118 fRead FOpt2
theorem FGetR_ok : LOk Try.prog FGetR := addF_ok FOpt2_ok (by kernel_rfl) fRead_ok
set_option maxRecDepth 100000 in
theorem getR_run (s : ByteArray) : runF Try.prog (both Try.prog noS FGetR (118 :: fsOpt)) noL Try.f62 (Try.f62.body.getD .skip) [.v (.string s)] [] = T.need (s.size ≤ (1000000 : Nat)) (T.ite (decide (errR s = (0 : Int))) (T.need (OpP (optsOf s).length fun i j => cellAt (opCells (optsOf s)) (i * (2 : Nat) + j)) (T.ite (!decide (chkO (optsOf s).length (opF fun i j => cellAt (opCells (optsOf s)) (i * (2 : Nat) + j)) = (0 : Int))) (T.leaf (SV.v (Value.tuple (Array.mk [Value.slice none (0 : Nat) (0 : Nat), Value.int IntKind.i64 (chkO (optsOf s).length (opF fun i j => cellAt (opCells (optsOf s)) (i * (2 : Nat) + j)))])), [Blk.vec true (78 : Nat) (2 : Nat) (optsOf s).length (opCells (optsOf s))])) (T.leaf (SV.tup [SV.ref (0 : Nat), SV.c (Value.int IntKind.i64 (0 : Int))], [Blk.vec true (78 : Nat) (2 : Nat) (optsOf s).length (opCells (optsOf s))])))) (T.ite (!decide (errR s = (0 : Int))) (T.leaf (SV.v (Value.tuple (Array.mk [Value.slice none (0 : Nat) (0 : Nat), Value.int IntKind.i64 (errR s)])), [Blk.vec true (78 : Nat) (2 : Nat) (optsOf s).length (opCells (optsOf s))])) (T.leaf (SV.tup [SV.ref (0 : Nat), SV.c (Value.int IntKind.i64 (0 : Int))], [Blk.vec true (78 : Nat) (2 : Nat) (optsOf s).length (opCells (optsOf s))])))) := by kernel_rfl
end Go.Proofs.Ytikiieclbeiicaa
namespace Go.Proofs.Ytikiieclbeiicaa
set_option linter.unusedVariables false
set_option linter.unusedSimpArgs false
open Go.RowKit Sym Go.ChangeShapes Go.WideShapes Go.ChangeMaps

theorem byteAt_suf (s : ByteArray) (p j : Nat) (hp : p ≤ s.size) : byteAt (s.extract p s.size) (j : Nat) = byteAt s (p + j : Nat) := by
  have hs : s.data.size = s.size := rfl
  unfold byteAt
  simp only [Int.toNat_natCast, List.getD_eq_getElem?_getD, ByteArray.data_extract, Array.toList_extract, List.extract_eq_take_drop, List.getElem?_take, List.getElem?_drop]
  by_cases h : j < s.size - p
  · rw [if_pos h]
  · rw [if_neg h, List.getElem?_eq_none (by simp; omega)]
theorem ext_suf (s : ByteArray) (p a b : Nat) (h : p + b ≤ s.size) : (s.extract p s.size).extract a b = s.extract (p + a) (p + b) := by
  have hs : s.data.size = s.size := rfl
  apply ByteArray.ext
  apply Array.ext'
  apply List.ext_getElem?
  intro i
  simp only [ByteArray.data_extract, Array.toList_extract, List.extract_eq_take_drop, List.getElem?_take, List.getElem?_drop]
  by_cases hi : i < b - a
  · rw [if_pos hi, if_pos (by omega), if_pos (by omega), Nat.add_assoc]
  · rw [if_neg hi, if_neg (by omega)]
theorem size_suf (s : ByteArray) (p : Nat) : (s.extract p s.size).size = s.size - p := by rw [ByteArray.size_extract, Nat.min_self]
theorem kind_suf (s : ByteArray) (p : Nat) (hp : p ≤ s.size) : kindR (s.extract p s.size) 0 = kindR s p := byteAt_suf s p 0 hp
theorem many_suf (s : ByteArray) (p : Nat) (hp : p ≤ s.size) : manyR (s.extract p s.size) 0 = manyR s p := byteAt_suf s p 1 hp
theorem err_suf (s : ByteArray) (p : Nat) (hp : p ≤ s.size) : err1 (s.extract p s.size) 0 = err1 s p := by
  unfold err1
  rw [kind_suf s p hp, many_suf s p hp, size_suf]
  have e1 : s.size - p ≤ 0 + 1 ↔ s.size ≤ p + 1 := by omega
  have e2 : ((s.size - p : Nat) : Int) < ((0 : Nat) : Int) + manyR s p ↔ (s.size : Int) < p + manyR s p := by omega
  simp only [e1, e2]
theorem fst_suf (s : ByteArray) (p : Nat) (hp : p < s.size) (he : err1 s p = 0) :
    fstR (s.extract p s.size) = s.extract (pos1 s p) s.size ∧ (if fstK (s.extract p s.size) = 0 then [] else [⟨fstK (s.extract p s.size), fstV (s.extract p s.size)⟩]) = acc1 s p := by
  have hp' : p ≤ s.size := by omega
  obtain ⟨u1, u2⟩ := pos1_up s p hp he
  have hk0 := byteAt_in s (p : Nat)
  have hm0 := byteAt_in s (p + 1 : Nat)
  have hm : kindR s p < 32 ∨ p + (manyR s p).toNat ≤ s.size := by
    by_cases h : kindR s p < 32
    · exact .inl h
    · unfold pos1 at u2; rw [if_neg h] at u2; exact .inr u2
  have hq : pos1 (s.extract p s.size) 0 + p = pos1 s p := by
    unfold pos1
    rw [kind_suf s p hp', many_suf s p hp']
    split <;> omega
  have eK : fstK (s.extract p s.size) = kindR s p := by unfold fstK; rw [err_suf s p hp', he, if_pos rfl, kind_suf s p hp']
  constructor
  · have hz := size_suf s p
    unfold fstR
    rw [err_suf s p hp', he, if_pos rfl, hz, ext_suf s p _ _ (by omega)]
    congr 1 <;> omega
  · unfold acc1
    by_cases h : kindR s p < 32
    · have eV : fstV (s.extract p s.size) = ⟨⟨[]⟩⟩ := by
        unfold fstV
        rw [err_suf s p hp', he, kind_suf s p hp', many_suf s p hp']
        exact if_neg (fun x => x.2 h)
      rw [eK, eV, if_pos h]
      by_cases h0 : kindR s p = 0
      · rw [if_pos h0, if_neg (by omega)]
      · have h1 : kindR s p > 0 := by unfold kindR at *; omega
        rw [if_neg h0, if_pos h1]
    · have eV : fstV (s.extract p s.size) = s.extract (p + 2) (p + (manyR s p).toNat) := by
        unfold fstV
        rw [err_suf s p hp', he, kind_suf s p hp', many_suf s p hp']
        exact (if_pos ⟨rfl, h⟩).trans (ext_suf s p _ _ (by rcases hm with x | x; exact absurd x h; exact x))
      rw [eK, eV, if_neg h, if_neg (by omega)]
def sufR (s : ByteArray) (i : Nat) : ByteArray := s.extract (posR s i) s.size
theorem sufR_zero (s : ByteArray) : sufR s 0 = s := by
  unfold sufR posR
  exact ByteArray.extract_zero_size
theorem sufR_empty {s : ByteArray} {i : Nat} (h : i ≤ endR s) : sufR s i = ⟨⟨[]⟩⟩ ↔ s.size ≤ posR s i := by
  have := (posR_up s i h).2
  have hz := size_suf s (posR s i)
  unfold sufR
  constructor
  · intro e
    rw [e] at hz
    have : (ByteArray.mk (Array.mk [])).size = 0 := rfl
    omega
  · intro e
    have : (s.extract (posR s i) s.size).size = 0 := by omega
    exact ByteArray.size_eq_zero_iff.1 this
theorem wk_cons (u : ByteArray) (l : List Op) (o : Op) : wk_st u (l ++ [o]) = ⟨[(0, some (.v (.string u))), (1, some (.clo (.func 113) [] [.ptr 0 0]))], [.own [.ref 1], .vec true 78 2 (l.length + 1) (opCells l ++ [.int .i64 o.kind, .string o.val])]⟩ := by
  unfold wk_st
  rw [opCells_append, List.length_append]
  rfl
set_option maxRecDepth 100000 in
theorem wk_step (s : ByteArray) (hs : s.size ≤ 1000000) : ∀ i : Nat, i ≤ endR s → i ≠ endR s → (roundG Try.prog (CW Try.prog Try.f113) noL Try.f112.ntmps 0 (loopAt Try.f112 0) tauW (wk_st (sufR s i) (accR s i))).ok fun r => r.1 = .normal ∧ ∃ j, j ≤ endR s ∧ endR s - j < endR s - i ∧ r.2 = wk_st (sufR s j) (accR s j) := by
  intro i hi hne
  obtain ⟨p1, p2⟩ := (endR_le s).2 i (by omega)
  have hl := accR_len s i
  have hes := endR_size s
  have hne0 : ¬ sufR s i = ⟨⟨[]⟩⟩ := fun e => by have := (sufR_empty hi).1 e; omega
  have hz : (sufR s i).size = s.size - posR s i := size_suf s _
  have he : err1 (sufR s i) 0 = 0 := (err_suf s (posR s i) (by omega)).trans p2
  obtain ⟨f1, f2⟩ := fst_suf s (posR s i) p1 p2
  have f1 : fstR (sufR s i) = sufR s (i + 1) := f1
  have f2 : (if fstK (sufR s i) = 0 then [] else [⟨fstK (sufR s i), fstV (sufR s i)⟩]) = acc1 s (posR s i) := f2
  have fin : ∀ u l, u = sufR s (i + 1) → l = accR s (i + 1) → ∃ j, j ≤ endR s ∧ endR s - j < endR s - i ∧ wk_st u l = wk_st (sufR s j) (accR s j) := fun u l h1 h2 => ⟨i + 1, by omega, by omega, by rw [h1, h2]⟩
  simp only [accR] at fin
  have one : ∀ (k : Int) (v : ByteArray), allOneP [Value.int .i64 k, Value.string v] := fun k v u hu => by
    simp only [List.mem_cons, List.not_mem_nil, or_false] at hu
    rcases hu with rfl | rfl <;> rfl
  rw [wk_round]
  generalize accR s i = l at *
  generalize sufR s i = u at *
  rw [f1, opt_bytes]
  refine ⟨fun _ => ⟨⟨by omega, by omega⟩, fun h => ?_, fun _ => ⟨fun h => ⟨⟨by omega, by omega⟩, one _ _, rfl, ?_⟩, fun h => ⟨rfl, ?_⟩⟩⟩, fun h => ?_⟩
  · rw [he] at h; cases h
  · have h : ¬ fstK u = 0 := by
      intro e
      rw [e] at h
      cases h
    rw [if_neg h] at f2
    have := fin _ _ rfl (by rw [← f2])
    rw [wk_cons] at this
    exact this
  · have h : fstK u = 0 := by
      by_cases e : fstK u = 0
      · exact e
      · rw [decide_eq_false e] at h; cases h
    rw [if_pos h] at f2
    exact fin _ _ rfl (by rw [← f2, List.append_nil])
  · rw [decide_eq_false hne0] at h; cases h
end Go.Proofs.Ytikiieclbeiicaa
namespace Go.Proofs.Ytikiieclbeiicaa
set_option linter.unusedVariables false
set_option linter.unusedSimpArgs false
open Go.RowKit Sym Go.ChangeShapes Go.WideShapes Go.ChangeMaps

def getE (s : ByteArray) : Int := if errR s = 0 then chkO (optsOf s).length (opN (optsOf s)) else errR s
theorem optsOf_P (s : ByteArray) (hs : s.size ≤ 1000) : OpP (optsOf s).length (fun i j => cellAt (opCells (optsOf s)) (i * 2 + j)) := by
  obtain ⟨h1, h2⟩ := opCells_row (optsOf s)
  have hl := accR_len s (endR s)
  have he := endR_size s
  have hv := accR_val s (endR s)
  refine ⟨h1, by unfold optsOf; omega, fun i hi => ?_⟩
  rw [h2 i hi]
  unfold opN
  rw [List.getD_eq_getElem?_getD, List.getElem?_eq_getElem hi]
  have := hv _ (List.getElem_mem hi)
  show (optsOf s)[i].val.size ≤ _
  omega
theorem optsOf_chk (s : ByteArray) : chkO (optsOf s).length (opF fun i j => cellAt (opCells (optsOf s)) (i * 2 + j)) = chkO (optsOf s).length (opN (optsOf s)) := chkO_congr (opCells_row (optsOf s)).2
def invW (s : ByteArray) (i : Nat) : St := wk_st (sufR s i) (accR s i)
theorem invW_zero (s : ByteArray) : invW s 0 = wk_st s [] := by unfold invW; rw [sufR_zero]; rfl
set_option maxRecDepth 100000 in
theorem FGet_ok (s : ByteArray) (hs : s.size ≤ 1000000) : LOk Try.prog (FGet Try.prog Try.f113 Try.f112 s (sufR s (endR s)) (accR s (endR s))) :=
  addT_ok FOpt2_ok (by kernel_rfl) (inl_ok CW_ok follows Try.func112 (by kernel_rfl) (by kernel_rfl) (one_loop (b := loopAt Try.f112 0) (id := 0) (by kernel_rfl) fun st t h => by
    rw [addL_same h]
    have k := fun st => loopG_cnt (N := Try.f112.ntmps) (st := st) (id := 0) (body := loopAt Try.f112 0) CW_ok follows (by kernel_rfl) (noloops (by kernel_rfl)) (fun i => i ≤ endR s) (invW s) (fun i => endR s - i) 1 (τ := tauW) (ord_ok [0, 1] [(.cell 0 0 [], 78, 2)] []) (endR s) [] (wk_step s hs) (i0 := 0) (Nat.zero_le _)
    rw [invW_zero] at k
    exact k _))
def fGet : List SV → List Blk → Option (T (SV × List Blk))
  | [.v (.string s)], [] => some (.need (s.size ≤ 1000) (.ite (decide (getE s = 0)) (.leaf (.tup [.ref 1, .v (.int .i64 0)], [.own [.ref 1], .vec true 78 2 (optsOf s).length (opCells (optsOf s))])) (.leaf (.v (.tuple #[.slice none 0 0, .int .i64 (getE s)]), []))))
  | _, _ => none
def fGetR : List SV → List Blk → Option (T (SV × List Blk))
  | [.v (.string s)], [] => some (.need (s.size ≤ 1000) (.ite (decide (getE s = 0)) (.leaf (.tup [.ref 0, .v (.int .i64 0)], [.vec true 78 2 (optsOf s).length (opCells (optsOf s))])) (.leaf (.v (.tuple #[.slice none 0 0, .int .i64 (getE s)]), []))))
  | _, _ => none
set_option maxRecDepth 100000 in
theorem fGet_ok : EntryOk Try.prog 58 fGet := by
  intro ss H t ht bs B w vs hm hv Qs hq
  unfold fGet at ht
  split at ht
  · rename_i s
    simp only [Option.some.injEq] at ht
    subst ht
    obtain ⟨hs, hq1, hq2⟩ := hq
    have hp := optsOf_P s hs
    have hc := optsOf_chk s
    have h1 := sufR_empty (s := s) (Nat.le_refl (endR s))
    have hz : (sufR s (endR s)).size = s.size - posR s (endR s) := size_suf s _
    have hpo := (posR_up s (endR s) (Nat.le_refl _)).2
    have h2 : err1 (sufR s (endR s)) 0 = err1 s (posR s (endR s)) := err_suf s _ hpo
    have h3 := endR_stop s
    have key := inl_ok (both_ok (fs := 112 :: fsOpt) noS_ok (FGet_ok s (by omega))) follows Try.func58 (by kernel_rfl) (by kernel_rfl) (noloops (by kernel_rfl)) [.v (.string s)] [] _ rfl bs B w vs hm hv
      (fun r => (getE s = 0 ∧ r.1 = .tup [.ref 1, .c (.int .i64 0)] ∧ ∃ H', r.2 = .own [.ref 1] :: .vec true 78 2 (optsOf s).length (opCells (optsOf s)) :: H') ∨ (¬ getE s = 0 ∧ r.1 = .v (.tuple #[.slice none 0 0, .int .i64 (getE s)]))) (by
        rw [show runF Try.prog (both Try.prog noS (FGet Try.prog Try.f113 Try.f112 s (sufR s (endR s)) (accR s (endR s))) (112 :: fsOpt)) noL Try.f58 (Try.f58.body.getD .skip) [.v (.string s)] [] = _ from get_run s (sufR s (endR s)) (accR s (endR s))]
        rw [show accR s (endR s) = optsOf s from rfl, hc]
        generalize sufR s (endR s) = u at *
        unfold getE errR
        generalize optsOf s = l at *
        rw [← h2] at h3 ⊢
        by_cases hA : s.size ≤ posR s (endR s)
        · have hu := h1.2 hA
          rw [if_pos hA, if_pos rfl]
          refine ⟨rfl, rfl, fun h => ?_, fun _ => ⟨hp, fun h => .inr ⟨?_, rfl⟩, fun h => .inl ⟨?_, rfl, _, rfl⟩⟩⟩
          · rw [decide_eq_true hu] at h; cases h
          · intro e; rw [decide_eq_true e] at h; cases h
          · by_cases e : chkO l.length (opN l) = 0
            · exact e
            · rw [decide_eq_false e] at h; cases h
        · have hu : ¬ u = ⟨⟨[]⟩⟩ := fun e => hA (h1.1 e)
          have he : ¬ err1 u 0 = 0 := by rcases h3 with x | x; exact absurd x hA; exact x
          rw [if_neg hA, if_neg he]
          refine ⟨rfl, rfl, fun _ => ⟨⟨by omega, by omega⟩, fun _ => ⟨fun h => absurd (of_decide_eq_true h) he, fun _ => ⟨fun _ => .inr ⟨he, rfl⟩, fun h => ?_⟩⟩, fun h => ?_⟩, fun h => ?_⟩
          · rw [decide_eq_false he] at h; cases h
          · rw [decide_eq_false he] at h; cases h
          · rw [decide_eq_false hu] at h; cases h)
    refine key.mono ?_
    rintro e w' ⟨s1, H1, B1, x, hr, hpr, he', hx, hm'⟩
    obtain rfl : B = [] := List.length_eq_zero_iff.1 hm.sat.len
    rcases hr with ⟨h0, hr, H', hr2⟩ | ⟨h0, hr⟩
    · simp only at hr hr2
      subst hr hr2
      have hl : (B1.take 2).length = 2 := by
        have := hm'.sat.len
        simp only [List.length_cons] at this
        rw [List.length_take]; omega
      have hm2 := only_mem hm' (List.take_prefix 2 B1)
      rw [hl] at hm2
      refine ⟨_, _, B1.take 2, x, hq1 (decide_eq_true h0), List.nil_prefix, he', ?_, hm2⟩
      rw [← hx]
      exact SV.under_to (List.take_prefix 2 B1) (by rw [hl]; rfl)
    · simp only at hr
      subst hr
      have hm2 := only_mem hm' List.nil_prefix
      exact ⟨_, _, [], x, hq2 (decide_eq_false h0), List.prefix_refl _, he', hx, hm2⟩
  · cases ht
set_option maxRecDepth 100000 in
theorem fGetR_ok : EntryOk Try.prog 62 fGetR := by
  intro ss H t ht bs B w vs hm hv Qs hq
  unfold fGetR at ht
  split at ht
  · rename_i s
    simp only [Option.some.injEq] at ht
    subst ht
    obtain ⟨hs, hq1, hq2⟩ := hq
    have hp := optsOf_P s hs
    have hc := optsOf_chk s
    have key := inl_ok (both_ok (fs := 118 :: fsOpt) noS_ok FGetR_ok) follows Try.func62 (by kernel_rfl) (by kernel_rfl) (noloops (by kernel_rfl)) [.v (.string s)] [] _ rfl bs B w vs hm hv
      (fun r => (getE s = 0 ∧ r.1 = .tup [.ref 0, .c (.int .i64 0)] ∧ r.2 = [.vec true 78 2 (optsOf s).length (opCells (optsOf s))]) ∨ (¬ getE s = 0 ∧ r.1 = .v (.tuple #[.slice none 0 0, .int .i64 (getE s)]))) (by
        rw [getR_run, hc]
        unfold getE
        generalize optsOf s = l at *
        refine ⟨by omega, fun h => ?_, fun h => ⟨fun _ => .inr ?_, fun h' => ?_⟩⟩
        · rw [if_pos (of_decide_eq_true h)]
          refine ⟨hp, fun h => .inr ⟨?_, rfl⟩, fun h => .inl ⟨?_, rfl, rfl⟩⟩
          · intro e; rw [decide_eq_true e] at h; cases h
          · by_cases e : chkO l.length (opN l) = 0
            · exact e
            · rw [decide_eq_false e] at h; cases h
        · have he := of_decide_eq_false h
          rw [if_neg he]
          exact ⟨he, rfl⟩
        · rw [h] at h'; cases h')
    refine key.mono ?_
    rintro e w' ⟨s1, H1, B1, x, hr, hpr, he', hx, hm'⟩
    obtain rfl : B = [] := List.length_eq_zero_iff.1 hm.sat.len
    rcases hr with ⟨h0, hr, hr2⟩ | ⟨h0, hr⟩
    · simp only at hr hr2
      subst hr hr2
      exact ⟨_, _, B1, x, hq1 (decide_eq_true h0), List.nil_prefix, he', hx, hm'⟩
    · simp only at hr
      subst hr
      have hm2 := only_mem hm' List.nil_prefix
      exact ⟨_, _, [], x, hq2 (decide_eq_false h0), List.prefix_refl _, he', hx, hm2⟩
  · cases ht
end Go.Proofs.Ytikiieclbeiicaa
