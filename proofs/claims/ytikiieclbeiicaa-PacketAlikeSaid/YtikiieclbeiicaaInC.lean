/- The Internet's checksum: the sums of both: trees. No conditions. -/
import Derived.Test.YtikiieclbeiicaaInA
import Derived.Test.YtikiieclbeiicaaCuA
import Derived.Test.YtikiieclbeiicaaHdB
namespace Go.Proofs.Ytikiieclbeiicaa
set_option linter.unusedVariables false
set_option linter.unusedSimpArgs false
open Go.RowKit Sym Sha Go.ChangeShapes Go.WideShapes Go.ChangeMaps Inet

def tFold : List Value → Option (List Prop × Value) | [.int .i64 n] => some ([0 ≤ n ∧ n ≤ 131070], .int .i64 (foldN n)) | _ => none
def SFold : Tab := addS 132 tFold noS
theorem SFold_ok : TabOk Try.prog SFold := addS_ok noS_ok (by kernel_rfl) (by (intro xs p v h hp w; unfold tFold at h; (split at h) <;> first | (cases h; done) | (simp only [Option.some.injEq, Prod.mk.injEq] at h; obtain ⟨rfl, rfl⟩ := h; exact inet_fold _ (hp _ (List.mem_cons_self ..)) w)))
abbrev CSum (P : Program) (fNew : Func) : Cfg := CC P SFold fNew
def sO (m : Nat) (ps : Nat → ByteArray) (n i : Int) : St := ⟨[(3, some (.v (.int .i64 n))), (7, some (.ref 0)), (8, some (.v (.int .i64 m))), (9, some (.v (.int .i64 i)))], [.row m 1 fun i _ => .string (ps i)]⟩
def sI (m : Nat) (ps : Nat → ByteArray) (n i : Int) (s : ByteArray) (a : Int) : St := ⟨[(3, some (.v (.int .i64 n))), (6, some (.ptr 1 0)), (7, some (.ref 0)), (8, some (.v (.int .i64 m))), (9, some (.v (.int .i64 i)))], [.row m 1 fun i _ => .string (ps i), .own [.v (.string s), .v (.int .i64 a), .v (.int .i64 0)]]⟩
set_option maxRecDepth 100000 in
theorem sI_round (m : Nat) (ps : Nat → ByteArray) (n i : Int) (s : ByteArray) (a : Int) : roundM Try.prog (CSum Try.prog Try.f55) noL Try.f93.ntmps 2 (loopIn (loopAt Try.f93 0) 0) 2 [3, 6, 7, 8, 9] [] [] (sI m ps n i s a) = T.need ((0 : Int) ≤ a ∧ a ≤ (↑s.size : Int) ∧ s.size ≤ (1000000 : Nat)) (T.ite (decide ((↑s.size : Int) - a > (0 : Int))) (T.need ((0 : Int) = (0 : Int) ∧ (0 : Int) ≤ a ∧ (1 : Int) ≤ (2 : Int) ∧ (2 : Int) ≤ (7 : Int) ∧ a + (2 : Int) ≤ (↑s.size : Int) ∧ s.size ≤ (1000000 : Nat)) (T.need ((0 : Int) ≤ IntKind.i64.wrap (n + valU (s.extract a.toNat (a + (2 : Int)).toNat)) ∧ IntKind.i64.wrap (n + valU (s.extract a.toNat (a + (2 : Int)).toNat)) ≤ (131070 : Int)) (T.leaf (Ex.normal, St.mk [((3 : Nat), some (SV.v (Value.int IntKind.i64 (foldN (IntKind.i64.wrap (n + valU (s.extract a.toNat (a + (2 : Int)).toNat))))))), ((6 : Nat), some (SV.ptr (1 : Nat) (0 : Nat))), ((7 : Nat), some (SV.ref (0 : Nat))), ((8 : Nat), some (SV.v (Value.int IntKind.i64 (↑m : Int)))), ((9 : Nat), some (SV.v (Value.int IntKind.i64 i)))] [Blk.row m (1 : Nat) fun i x => Value.string (ps i), Blk.own [SV.v (Value.string s), SV.v (Value.int IntKind.i64 (a + (2 : Int))), SV.v (Value.int IntKind.i64 (0 : Int))]])))) (T.leaf (Ex.exit (2 : Nat), St.mk [((3 : Nat), some (SV.v (Value.int IntKind.i64 n))), ((6 : Nat), some (SV.ptr (1 : Nat) (0 : Nat))), ((7 : Nat), some (SV.ref (0 : Nat))), ((8 : Nat), some (SV.v (Value.int IntKind.i64 (↑m : Int)))), ((9 : Nat), some (SV.v (Value.int IntKind.i64 i)))] [Blk.row m (1 : Nat) fun i x => Value.string (ps i), Blk.own [SV.v (Value.string s), SV.v (Value.int IntKind.i64 a), SV.v (Value.int IntKind.i64 (0 : Int))]]))) := by kernel_rfl
def preS (s : ByteArray) (n : Int) : Prop := s.size % 2 = 0 ∧ s.size ≤ 100000 ∧ 0 ≤ n ∧ n ≤ 65535
def LSi (m : Nat) (ps : Nat → ByteArray) : Nat → St → Option (T (Ex × St)) :=
  addL 2 (fun st => withStr st 5 fun s => withInt st 3 fun n => withInt st 9 fun i => .need (preS s n) (.need (st.H.length = 2) (.need (st.tidy 2 [3, 6, 7, 8, 9] [] [] = sI m ps n i s ((2 * 0 : Nat) : Int)) (.leaf (.normal, sI m ps (foldN (n + tot16 (s.data.toList.take (2 * (s.size / 2))))) i s ((2 * (s.size / 2) : Nat) : Int)))))) noL
set_option maxRecDepth 100000 in
theorem sO_round (m : Nat) (ps : Nat → ByteArray) (n i : Int) : roundM Try.prog (CSum Try.prog Try.f55) (LSi m ps) Try.f93.ntmps 0 (loopAt Try.f93 0) 1 [3, 7, 8, 9] [] [] (sO m ps n i) = T.ite (decide (i < (↑m : Int))) (T.need ((0 : Int) ≤ i ∧ i < (↑m : Int)) (T.need (i.toNat < m) (T.ite (!decide ((↑(ps i.toNat).size : Int).tmod (2 : Int) = (0 : Int))) (T.need ((ps i.toNat).size + (1 : Nat) ≤ (9223372036854775807 : Nat)) (T.need (preS (ps i.toNat ++ ByteArray.mk (Array.mk [UInt8.ofBitVec (BitVec.ofFin (Fin.mk (0 : Nat) (Nat.mod_lt (0 : Nat) (BitVec.ofNat._proof_1 (8 : Nat)))))])) n) (T.need ((2 : Nat) = (2 : Nat)) (T.need (St.mk [((3 : Nat), some (SV.v (Value.int IntKind.i64 n))), ((6 : Nat), some (SV.ptr (1 : Nat) (0 : Nat))), ((7 : Nat), some (SV.ref (0 : Nat))), ((8 : Nat), some (SV.v (Value.int IntKind.i64 (↑m : Int)))), ((9 : Nat), some (SV.v (Value.int IntKind.i64 i)))] [Blk.row m (1 : Nat) fun i x => Value.string (ps i), Blk.own [SV.v (Value.string (ps i.toNat ++ ByteArray.mk (Array.mk [UInt8.ofBitVec (BitVec.ofFin (Fin.mk (0 : Nat) (Nat.mod_lt (0 : Nat) (BitVec.ofNat._proof_1 (8 : Nat)))))]))), SV.v (Value.int IntKind.i64 (0 : Int)), SV.v (Value.int IntKind.i64 (0 : Int))]] = sI m ps n i (ps i.toNat ++ ByteArray.mk (Array.mk [UInt8.ofBitVec (BitVec.ofFin (Fin.mk (0 : Nat) (Nat.mod_lt (0 : Nat) (BitVec.ofNat._proof_1 (8 : Nat)))))])) (0 : Int)) (T.leaf (Ex.normal, St.mk [((3 : Nat), some (SV.v (Value.int IntKind.i64 (foldN (n + (↑(tot16 (List.take ((2 : Nat) * (ps i.toNat ++ ByteArray.mk (Array.mk [UInt8.ofBitVec (BitVec.ofFin (Fin.mk (0 : Nat) (Nat.mod_lt (0 : Nat) (BitVec.ofNat._proof_1 (8 : Nat)))))])).size.div (2 : Nat)) (Array.mk ((ps i.toNat).1.toList ++ (Array.mk [UInt8.ofBitVec (BitVec.ofFin (Fin.mk (0 : Nat) (Nat.mod_lt (0 : Nat) (BitVec.ofNat._proof_1 (8 : Nat)))))]).toList)).toList)) : Int)))))), ((7 : Nat), some (SV.ref (0 : Nat))), ((8 : Nat), some (SV.v (Value.int IntKind.i64 (↑m : Int)))), ((9 : Nat), some (SV.v (Value.int IntKind.i64 (IntKind.i64.wrap (i + (1 : Int))))))] [Blk.row m (1 : Nat) fun i x => Value.string (ps i)])))))) (T.need (preS (ps i.toNat) n) (T.need ((2 : Nat) = (2 : Nat)) (T.need (St.mk [((3 : Nat), some (SV.v (Value.int IntKind.i64 n))), ((6 : Nat), some (SV.ptr (1 : Nat) (0 : Nat))), ((7 : Nat), some (SV.ref (0 : Nat))), ((8 : Nat), some (SV.v (Value.int IntKind.i64 (↑m : Int)))), ((9 : Nat), some (SV.v (Value.int IntKind.i64 i)))] [Blk.row m (1 : Nat) fun i x => Value.string (ps i), Blk.own [SV.v (Value.string (ps i.toNat)), SV.v (Value.int IntKind.i64 (0 : Int)), SV.v (Value.int IntKind.i64 (0 : Int))]] = sI m ps n i (ps i.toNat) (0 : Int)) (T.leaf (Ex.normal, St.mk [((3 : Nat), some (SV.v (Value.int IntKind.i64 (foldN (n + (↑(tot16 (List.take ((2 : Nat) * (ps i.toNat).size.div (2 : Nat)) (ps i.toNat).1.toList)) : Int)))))), ((7 : Nat), some (SV.ref (0 : Nat))), ((8 : Nat), some (SV.v (Value.int IntKind.i64 (↑m : Int)))), ((9 : Nat), some (SV.v (Value.int IntKind.i64 (IntKind.i64.wrap (i + (1 : Int))))))] [Blk.row m (1 : Nat) fun i x => Value.string (ps i)])))))))) (T.leaf (Ex.exit (0 : Nat), St.mk [((3 : Nat), some (SV.v (Value.int IntKind.i64 n))), ((7 : Nat), some (SV.ref (0 : Nat))), ((8 : Nat), some (SV.v (Value.int IntKind.i64 (↑m : Int)))), ((9 : Nat), some (SV.v (Value.int IntKind.i64 i)))] [Blk.row m (1 : Nat) fun i x => Value.string (ps i)])) := by kernel_rfl
def LSum (P : Program) (C : Cfg) (fn : Func) (m : Nat) (ps : Nat → ByteArray) (nE : Int) : Nat → St → Option (T (Ex × St)) :=
  addL 0 (fun st => .need (st.H.length = 1) (.need (st.tidy 1 [3, 7, 8, 9] [] [] = sO m ps (foldN 0) (0 : Nat)) ((roundM P C (LSi m ps) fn.ntmps 0 (loopAt fn 0) 1 [3, 7, 8, 9] [] [] (closeAt [] (sO m ps nE (m : Nat)))).bind (lastX 0)))) noL
set_option maxRecDepth 100000 in
theorem sum_run (m : Nat) (ps : Nat → ByteArray) (nE : Int) : runO Try.prog (CSum Try.prog Try.f55) (LSum Try.prog (CSum Try.prog Try.f55) Try.f93 m ps nE) Try.f93 [.ref 0] [.row m 1 fun i _ => .string (ps i)] = T.need ((1 : Nat) = (1 : Nat)) (T.need (St.mk [((3 : Nat), some (SV.v (Value.int IntKind.i64 (0 : Int)))), ((7 : Nat), some (SV.ref (0 : Nat))), ((8 : Nat), some (SV.v (Value.int IntKind.i64 (↑m : Int)))), ((9 : Nat), some (SV.v (Value.int IntKind.i64 (0 : Int))))] [Blk.row m (1 : Nat) fun i x => Value.string (ps i)] = sO m ps (0 : Int) (0 : Int)) (T.ite (decide ((↑m : Int) < (↑m : Int))) (T.need ((0 : Int) ≤ (↑m : Int) ∧ (↑m : Int) < (↑m : Int)) (T.need ((↑m : Int).toNat < m) (T.ite (!decide ((↑(ps (↑m : Int).toNat).size : Int).tmod (2 : Int) = (0 : Int))) (T.need ((ps (↑m : Int).toNat).size + (1 : Nat) ≤ (9223372036854775807 : Nat)) (T.need (preS (ps (↑m : Int).toNat ++ ByteArray.mk (Array.mk [UInt8.ofBitVec (BitVec.ofFin (Fin.mk (0 : Nat) (Nat.mod_lt (0 : Nat) (BitVec.ofNat._proof_1 (8 : Nat)))))])) nE) (T.need ((2 : Nat) = (2 : Nat)) (T.need (St.mk [((3 : Nat), some (SV.v (Value.int IntKind.i64 nE))), ((6 : Nat), some (SV.ptr (1 : Nat) (0 : Nat))), ((7 : Nat), some (SV.ref (0 : Nat))), ((8 : Nat), some (SV.v (Value.int IntKind.i64 (↑m : Int)))), ((9 : Nat), some (SV.v (Value.int IntKind.i64 (↑m : Int))))] [Blk.row m (1 : Nat) fun i x => Value.string (ps i), Blk.own [SV.v (Value.string (ps (↑m : Int).toNat ++ ByteArray.mk (Array.mk [UInt8.ofBitVec (BitVec.ofFin (Fin.mk (0 : Nat) (Nat.mod_lt (0 : Nat) (BitVec.ofNat._proof_1 (8 : Nat)))))]))), SV.v (Value.int IntKind.i64 (0 : Int)), SV.v (Value.int IntKind.i64 (0 : Int))]] = sI m ps nE (↑m : Int) (ps (↑m : Int).toNat ++ ByteArray.mk (Array.mk [UInt8.ofBitVec (BitVec.ofFin (Fin.mk (0 : Nat) (Nat.mod_lt (0 : Nat) (BitVec.ofNat._proof_1 (8 : Nat)))))])) (0 : Int)) (T.stuck (39 : Nat)))))) (T.need (preS (ps (↑m : Int).toNat) nE) (T.need ((2 : Nat) = (2 : Nat)) (T.need (St.mk [((3 : Nat), some (SV.v (Value.int IntKind.i64 nE))), ((6 : Nat), some (SV.ptr (1 : Nat) (0 : Nat))), ((7 : Nat), some (SV.ref (0 : Nat))), ((8 : Nat), some (SV.v (Value.int IntKind.i64 (↑m : Int)))), ((9 : Nat), some (SV.v (Value.int IntKind.i64 (↑m : Int))))] [Blk.row m (1 : Nat) fun i x => Value.string (ps i), Blk.own [SV.v (Value.string (ps (↑m : Int).toNat)), SV.v (Value.int IntKind.i64 (0 : Int)), SV.v (Value.int IntKind.i64 (0 : Int))]] = sI m ps nE (↑m : Int) (ps (↑m : Int).toNat) (0 : Int)) (T.stuck (39 : Nat)))))))) (T.leaf (Value.int IntKind.i64 (IntKind.i64.wrap (↑(Nat.bitwise bne (nE % (18446744073709551616 : Int)).toNat (65535 : Nat)) : Int)))))) := by kernel_rfl
/-! the reference's -/
def rO (m : Nat) (ps : Nat → ByteArray) (n i : Int) : St := ⟨[(0, some (.ref 0)), (3, some (.v (.int .i64 n))), (4, some (.v (.int .i64 i)))], [.row m 1 fun i _ => .string (ps i)]⟩
def rI (m : Nat) (ps : Nat → ByteArray) (n i k : Int) : St := ⟨[(0, some (.ref 0)), (3, some (.v (.int .i64 n))), (4, some (.v (.int .i64 i))), (5, some (.v (.int .i64 k)))], [.row m 1 fun i _ => .string (ps i)]⟩
set_option maxRecDepth 100000 in
theorem rI_round (m : Nat) (ps : Nat → ByteArray) (n i k : Int) : roundM Try.prog (onlyS Try.prog noS) noL Try.f95.ntmps 2 (loopIn (loopAt Try.f95 0) 0) 1 [0, 3, 4, 5] [] [] (rI m ps n i k) = T.need ((0 : Int) ≤ i ∧ i < (↑m : Int)) (T.need (i.toNat < m) (T.ite (decide (k < (↑(ps i.toNat).size : Int))) (T.need ((0 : Int) ≤ i ∧ i < (↑m : Int)) (T.need (i.toNat < m) (T.need ((0 : Int) ≤ k ∧ k < (↑(ps i.toNat).size : Int)) (T.need ((0 : Int) ≤ i ∧ i < (↑m : Int)) (T.need (i.toNat < m) (T.ite (decide (IntKind.i64.wrap (k + (1 : Int)) < (↑(ps i.toNat).size : Int))) (T.need ((0 : Int) ≤ i ∧ i < (↑m : Int)) (T.need (i.toNat < m) (T.need ((0 : Int) ≤ IntKind.i64.wrap (k + (1 : Int)) ∧ IntKind.i64.wrap (k + (1 : Int)) < (↑(ps i.toNat).size : Int)) (T.leaf (Ex.normal, St.mk [((0 : Nat), some (SV.ref (0 : Nat))), ((3 : Nat), some (SV.v (Value.int IntKind.i64 (IntKind.i64.wrap (IntKind.i64.wrap (n + IntKind.i64.wrap ((256 : Int) * IntKind.i64.wrap (byteAt (ps i.toNat) k))) + IntKind.i64.wrap (byteAt (ps i.toNat) (IntKind.i64.wrap (k + (1 : Int))))))))), ((4 : Nat), some (SV.v (Value.int IntKind.i64 i))), ((5 : Nat), some (SV.v (Value.int IntKind.i64 (IntKind.i64.wrap (k + (2 : Int))))))] [Blk.row m (1 : Nat) fun i x => Value.string (ps i)]))))) (T.leaf (Ex.normal, St.mk [((0 : Nat), some (SV.ref (0 : Nat))), ((3 : Nat), some (SV.v (Value.int IntKind.i64 (IntKind.i64.wrap (n + IntKind.i64.wrap ((256 : Int) * IntKind.i64.wrap (byteAt (ps i.toNat) k))))))), ((4 : Nat), some (SV.v (Value.int IntKind.i64 i))), ((5 : Nat), some (SV.v (Value.int IntKind.i64 (IntKind.i64.wrap (k + (2 : Int))))))] [Blk.row m (1 : Nat) fun i x => Value.string (ps i)])))))))) (T.leaf (Ex.exit (2 : Nat), St.mk [((0 : Nat), some (SV.ref (0 : Nat))), ((3 : Nat), some (SV.v (Value.int IntKind.i64 n))), ((4 : Nat), some (SV.v (Value.int IntKind.i64 i))), ((5 : Nat), some (SV.v (Value.int IntKind.i64 k)))] [Blk.row m (1 : Nat) fun i x => Value.string (ps i)])))) := by kernel_rfl
def preR (m : Nat) (ps : Nat → ByteArray) (n i : Int) : Prop := 0 ≤ i ∧ i < m ∧ (ps i.toNat).size ≤ 100000 ∧ 0 ≤ n ∧ n ≤ 4000000000
def LRi (m : Nat) (ps : Nat → ByteArray) : Nat → St → Option (T (Ex × St)) :=
  addL 2 (fun st => withInt st 3 fun n => withInt st 4 fun i => .need (preR m ps n i) (.need (st.H.length = 1) (.need (st.tidy 1 [0, 3, 4, 5] [] [] = rI m ps n i ((2 * 0 : Nat) : Int)) (.leaf (.normal, rI m ps (n + tot16 ((ps i.toNat).data.toList.take (2 * (((ps i.toNat).size + 1) / 2)))) i ((2 * (((ps i.toNat).size + 1) / 2) : Nat) : Int)))))) noL
set_option maxRecDepth 100000 in
theorem rO_round (m : Nat) (ps : Nat → ByteArray) (n i : Int) : roundM Try.prog (onlyS Try.prog noS) (LRi m ps) Try.f95.ntmps 0 (loopAt Try.f95 0) 1 [0, 3, 4] [] [] (rO m ps n i) = T.ite (decide (i < (↑m : Int))) (T.need (preR m ps n i) (T.need ((1 : Nat) = (1 : Nat)) (T.need (St.mk [((0 : Nat), some (SV.ref (0 : Nat))), ((3 : Nat), some (SV.v (Value.int IntKind.i64 n))), ((4 : Nat), some (SV.v (Value.int IntKind.i64 i))), ((5 : Nat), some (SV.v (Value.int IntKind.i64 (0 : Int))))] [Blk.row m (1 : Nat) fun i x => Value.string (ps i)] = rI m ps n i (0 : Int)) (T.leaf (Ex.normal, St.mk [((0 : Nat), some (SV.ref (0 : Nat))), ((3 : Nat), some (SV.v (Value.int IntKind.i64 (n + (↑(tot16 (List.take ((2 : Nat) * ((ps i.toNat).size + (1 : Nat)).div (2 : Nat)) (ps i.toNat).1.toList)) : Int))))), ((4 : Nat), some (SV.v (Value.int IntKind.i64 (IntKind.i64.wrap (i + (1 : Int))))))] [Blk.row m (1 : Nat) fun i x => Value.string (ps i)]))))) (T.leaf (Ex.exit (0 : Nat), St.mk [((0 : Nat), some (SV.ref (0 : Nat))), ((3 : Nat), some (SV.v (Value.int IntKind.i64 n))), ((4 : Nat), some (SV.v (Value.int IntKind.i64 i)))] [Blk.row m (1 : Nat) fun i x => Value.string (ps i)])) := by kernel_rfl
def LRum (P : Program) (C : Cfg) (fn : Func) (m : Nat) (ps : Nat → ByteArray) (nE : Int) : Nat → St → Option (T (Ex × St)) :=
  addL 4 (unrollB (runC P C noL fn.ntmps (loopAt fn 1)) 4 3) <|
  addL 0 (fun st => .need (st.H.length = 1) (.need (st.tidy 1 [0, 3, 4] [] [] = rO m ps 0 (0 : Nat)) ((roundM P C (LRi m ps) fn.ntmps 0 (loopAt fn 0) 1 [0, 3, 4] [] [] (closeAt [] (rO m ps nE (m : Nat)))).bind (lastX 0)))) noL
set_option maxRecDepth 100000 in
theorem rum_run (m : Nat) (ps : Nat → ByteArray) (nE : Int) : runO Try.prog (onlyS Try.prog noS) (LRum Try.prog (onlyS Try.prog noS) Try.f95 m ps nE) Try.f95 [.ref 0] [.row m 1 fun i _ => .string (ps i)] = T.need ((1 : Nat) = (1 : Nat)) (T.need (St.mk [((0 : Nat), some (SV.ref (0 : Nat))), ((3 : Nat), some (SV.v (Value.int IntKind.i64 (0 : Int)))), ((4 : Nat), some (SV.v (Value.int IntKind.i64 (0 : Int))))] [Blk.row m (1 : Nat) fun i x => Value.string (ps i)] = rO m ps (0 : Int) (0 : Int)) (T.ite (decide ((↑m : Int) < (↑m : Int))) (T.need (preR m ps nE (↑m : Int)) (T.need ((1 : Nat) = (1 : Nat)) (T.need (St.mk [((0 : Nat), some (SV.ref (0 : Nat))), ((3 : Nat), some (SV.v (Value.int IntKind.i64 nE))), ((4 : Nat), some (SV.v (Value.int IntKind.i64 (↑m : Int)))), ((5 : Nat), some (SV.v (Value.int IntKind.i64 (0 : Int))))] [Blk.row m (1 : Nat) fun i x => Value.string (ps i)] = rI m ps nE (↑m : Int) (0 : Int)) (T.stuck (39 : Nat))))) (T.ite (decide (nE > (65535 : Int))) (T.ite (decide (IntKind.i64.wrap (nE.tmod (65536 : Int) + IntKind.i64.wrap (nE.tdiv (65536 : Int))) > (65535 : Int))) (T.ite (decide (IntKind.i64.wrap ((IntKind.i64.wrap (nE.tmod (65536 : Int) + IntKind.i64.wrap (nE.tdiv (65536 : Int)))).tmod (65536 : Int) + IntKind.i64.wrap ((IntKind.i64.wrap (nE.tmod (65536 : Int) + IntKind.i64.wrap (nE.tdiv (65536 : Int)))).tdiv (65536 : Int))) > (65535 : Int))) (T.stuck (38 : Nat)) (T.leaf (Value.int IntKind.i64 (IntKind.i64.wrap ((65535 : Int) - IntKind.i64.wrap ((IntKind.i64.wrap (nE.tmod (65536 : Int) + IntKind.i64.wrap (nE.tdiv (65536 : Int)))).tmod (65536 : Int) + IntKind.i64.wrap ((IntKind.i64.wrap (nE.tmod (65536 : Int) + IntKind.i64.wrap (nE.tdiv (65536 : Int)))).tdiv (65536 : Int)))))))) (T.leaf (Value.int IntKind.i64 (IntKind.i64.wrap ((65535 : Int) - IntKind.i64.wrap (nE.tmod (65536 : Int) + IntKind.i64.wrap (nE.tdiv (65536 : Int)))))))) (T.leaf (Value.int IntKind.i64 (IntKind.i64.wrap ((65535 : Int) - nE))))))) := by kernel_rfl
end Go.Proofs.Ytikiieclbeiicaa
namespace Go.Proofs.Ytikiieclbeiicaa
set_option linter.unusedVariables false
set_option linter.unusedSimpArgs false
open Go.RowKit Sym Sha Go.ChangeShapes Go.WideShapes Go.ChangeMaps Inet

/-- the first i parts, added -/
def totR (ps : Nat → ByteArray) : Nat → Nat
  | 0 => 0
  | i + 1 => totR ps i + tot16 (ps i).data.toList
def FewS (m : Nat) (ps : Nat → ByteArray) : Prop := m ≤ 6 ∧ ∀ i, i < m → (ps i).size ≤ 10000
theorem totR_bd (ps : Nat → ByteArray) : ∀ i, (∀ j, j < i → (ps j).size ≤ 10000) → totR ps i ≤ 655350000 * i
  | 0, _ => Nat.le_refl _
  | i + 1, h => by
    have h1 := totR_bd ps i (fun j hj => h j (by omega))
    have h2 := tot_bd (ps i).data.toList
    have h3 := h i (by omega)
    have h4 : (ps i).data.toList.length = (ps i).size := by simp
    simp only [totR]
    omega
theorem valU_two (s : ByteArray) (a : Nat) (h : a + 2 ≤ s.size) : valU (s.extract a (a + 2)) = byteAt s a * 256 + byteAt s (a + 1 : Nat) := by
  rw [valU_nu s a (a + 2) (by omega), nu_two s a h]
theorem tot_take (l : List UInt8) : ∀ k, 2 * k + 2 ≤ l.length → tot16 (l.take (2 * (k + 1))) = tot16 (l.take (2 * k)) + (256 * (l.getD (2 * k) 0).toNat + (l.getD (2 * k + 1) 0).toNat) := by
  intro k h
  have e : l.take (2 * (k + 1)) = l.take (2 * k) ++ [l.getD (2 * k) 0, l.getD (2 * k + 1) 0] := by
    apply List.ext_getElem?
    intro i
    by_cases h1 : i < 2 * k
    · rw [List.getElem?_append_left (by rw [List.length_take]; omega), List.getElem?_take_of_lt (by omega), List.getElem?_take_of_lt h1]
    · rw [List.getElem?_append_right (by rw [List.length_take]; omega), List.length_take, Nat.min_eq_left (by omega)]
      by_cases h2 : i = 2 * k
      · subst h2
        rw [List.getElem?_take_of_lt (by omega), Nat.sub_self]
        simp [List.getD_eq_getElem?_getD, List.getElem?_eq_getElem (show 2 * k < l.length by omega)]
      · by_cases h3 : i = 2 * k + 1
        · subst h3
          rw [List.getElem?_take_of_lt (by omega), show 2 * k + 1 - 2 * k = 1 by omega]
          simp [List.getD_eq_getElem?_getD, List.getElem?_eq_getElem (show 2 * k + 1 < l.length by omega)]
        · rw [List.getElem?_eq_none (by rw [List.length_take]; omega), List.getElem?_eq_none (by simp; omega)]
  rw [e, tot_append _ _ (by rw [List.length_take]; omega)]
  rfl
theorem tot_step (s : ByteArray) (k : Nat) (h : 2 * k + 2 ≤ s.size) : (tot16 (s.data.toList.take (2 * (k + 1))) : Int) = tot16 (s.data.toList.take (2 * k)) + (byteAt s (2 * k : Nat) * 256 + byteAt s (2 * k + 1 : Nat)) := by
  rw [tot_take _ k (by rw [show s.data.toList.length = s.size by simp]; omega)]
  unfold byteAt
  simp only [Int.toNat_natCast]
  omega
theorem tot_last (s : ByteArray) (k : Nat) (h : s.size = 2 * k + 1) : (tot16 (s.data.toList.take (2 * (k + 1))) : Int) = tot16 (s.data.toList.take (2 * k)) + byteAt s (2 * k : Nat) * 256 := by
  have hl : s.data.toList.length = 2 * k + 1 := by rw [show s.data.toList.length = s.size by simp]; exact h
  have e : s.data.toList.take (2 * (k + 1)) = s.data.toList.take (2 * k) ++ [s.data.toList.getD (2 * k) 0] := by
    rw [List.take_of_length_le (by omega)]
    have := List.take_append_drop (2 * k) s.data.toList
    conv => lhs; rw [← this]
    congr 1
    rw [List.drop_eq_getElem_cons (by omega), List.drop_of_length_le (by omega)]
    simp [List.getD_eq_getElem?_getD, List.getElem?_eq_getElem (show 2 * k < s.data.toList.length by omega)]
  rw [e, tot_append _ _ (by rw [List.length_take]; omega)]
  unfold byteAt
  rw [Int.toNat_natCast]
  simp only [tot16]
  omega
theorem tot_all (s : ByteArray) (k : Nat) (h : s.size ≤ k) : tot16 (s.data.toList.take k) = tot16 s.data.toList := by
  rw [List.take_of_length_le (by rw [show s.data.toList.length = s.size by simp]; exact h)]
set_option maxRecDepth 100000 in
theorem sI_step (m : Nat) (ps : Nat → ByteArray) (n i : Int) (s : ByteArray) (hp : preS s n) : ∀ k : Nat, k ≤ s.size / 2 → k ≠ s.size / 2 → (roundM Try.prog (CSum Try.prog Try.f55) noL Try.f93.ntmps 2 (loopIn (loopAt Try.f93 0) 0) 2 [3, 6, 7, 8, 9] [] [] (sI m ps (foldN (n + tot16 (s.data.toList.take (2 * k)))) i s ((2 * k : Nat) : Int))).ok fun r => r.1 = .normal ∧ ∃ j, j ≤ s.size / 2 ∧ s.size / 2 - j < s.size / 2 - k ∧ r.2 = sI m ps (foldN (n + tot16 (s.data.toList.take (2 * j)))) i s ((2 * j : Nat) : Int) := by
  intro k hk hne
  obtain ⟨p1, p2, p3, p4⟩ := hp
  have hb := fold_bd (n := n + tot16 (s.data.toList.take (2 * k))) (by omega)
  have ht := tot_step s k (by omega)
  have hv := valU_two s (2 * k) (by omega)
  have b1 := byteAt_bd s (2 * k : Nat)
  have b2 := byteAt_bd s (2 * k + 1 : Nat)
  have e1 : (((2 * k : Nat) : Int) + 2) = ((2 * (k + 1) : Nat) : Int) := by omega
  rw [sI_round]
  rw [e1, Int.toNat_natCast, Int.toNat_natCast, show 2 * (k + 1) = 2 * k + 2 by omega, hv]
  have ew : IntKind.i64.wrap (foldN (n + tot16 (s.data.toList.take (2 * k))) + (byteAt s (2 * k : Nat) * 256 + byteAt s (2 * k + 1 : Nat))) = foldN (n + tot16 (s.data.toList.take (2 * k))) + (byteAt s (2 * k : Nat) * 256 + byteAt s (2 * k + 1 : Nat)) := w64 _ (by omega) (by omega)
  rw [ew, fold_add (by omega) (by omega), Int.add_assoc, ← ht]
  refine ⟨⟨by omega, by omega, by omega⟩, fun _ => ⟨⟨rfl, by omega, by decide, by decide, by omega, by omega⟩, ⟨by omega, by omega⟩, rfl, k + 1, by omega, by omega, rfl⟩, fun h => ?_⟩
  have h := of_decide_eq_false h
  omega
set_option maxRecDepth 100000 in
theorem sI_end (m : Nat) (ps : Nat → ByteArray) (n i : Int) (s : ByteArray) (hp : preS s n) : (roundM Try.prog (CSum Try.prog Try.f55) noL Try.f93.ntmps 2 (loopIn (loopAt Try.f93 0) 0) 2 [3, 6, 7, 8, 9] [] [] (sI m ps (foldN (n + tot16 (s.data.toList.take (2 * (s.size / 2))))) i s ((2 * (s.size / 2) : Nat) : Int))).ok fun r => r = (.exit 2, sI m ps (foldN (n + tot16 (s.data.toList.take (2 * (s.size / 2))))) i s ((2 * (s.size / 2) : Nat) : Int)) := by
  obtain ⟨p1, p2, p3, p4⟩ := hp
  rw [sI_round]
  refine ⟨⟨by omega, by omega, by omega⟩, fun h => ?_, fun _ => rfl⟩
  have h := of_decide_eq_true h
  omega
theorem LSi_ok (m : Nat) (ps : Nat → ByteArray) : ∀ id b, (id, b) ∈ loopsOf (loopAt Try.f93 0) → ∀ st t, LSi m ps id st = some t → RunOk Try.prog Try.f93.ntmps (.block id (.loop b)) st t :=
  one_loop (by kernel_rfl) fun st t h => by
    rw [addL_same h]
    refine .str fun s => .int fun n => .int fun i => .need fun hp => ?_
    have e : foldN (n + (tot16 (s.data.toList.take (2 * 0)) : Nat)) = n := by
      rw [Nat.mul_zero, List.take_zero]
      show foldN (n + 0) = n
      rw [Int.add_zero, fold_small hp.2.2.1 hp.2.2.2]
    have key := loop_fin (st := st) (CC_ok SFold_ok) follows (by kernel_rfl) (noloops (by kernel_rfl)) (fun k : Nat => k ≤ s.size / 2) (fun k => sI m ps (foldN (n + tot16 (s.data.toList.take (2 * k)))) i s ((2 * k : Nat) : Int)) (fun k => s.size / 2 - k) 2 [3, 6, 7, 8, 9] [] [] (s.size / 2) _ (sI_step m ps n i s hp) (sI_end m ps n i s hp) (Nat.zero_le _)
    rw [e] at key
    exact key
end Go.Proofs.Ytikiieclbeiicaa
namespace Go.Proofs.Ytikiieclbeiicaa
set_option linter.unusedVariables false
set_option linter.unusedSimpArgs false
open Go.RowKit Sym Sha Go.ChangeShapes Go.WideShapes Go.ChangeMaps Inet

theorem tot_nul (s : ByteArray) : tot16 (s ++ ⟨#[0]⟩).data.toList = tot16 s.data.toList := by
  have : (s ++ ⟨#[0]⟩ : ByteArray).data.toList = s.data.toList ++ [0] := by simp
  rw [this, tot_pad]
set_option maxRecDepth 100000 in
theorem sO_step (m : Nat) (ps : Nat → ByteArray) (hf : FewS m ps) : ∀ i : Nat, i ≤ m → i ≠ m → (roundM Try.prog (CSum Try.prog Try.f55) (LSi m ps) Try.f93.ntmps 0 (loopAt Try.f93 0) 1 [3, 7, 8, 9] [] [] (sO m ps (foldN (totR ps i)) (i : Nat))).ok fun r => r.1 = .normal ∧ ∃ j, j ≤ m ∧ m - j < m - i ∧ r.2 = sO m ps (foldN (totR ps j)) (j : Nat) := by
  intro i hi hne
  obtain ⟨f1, f2⟩ := hf
  have hz := f2 i (by omega)
  have hb := fold_bd (n := (totR ps i : Nat)) (by omega)
  have hw : IntKind.i64.wrap ((i : Int) + 1) = ((i + 1 : Nat) : Int) := by rw [w64 _ (by omega) (by omega)]; rfl
  have fin : ∀ n : Int, n = foldN (totR ps (i + 1)) → ∃ j, j ≤ m ∧ m - j < m - i ∧ sO m ps n ((i + 1 : Nat) : Int) = sO m ps (foldN (totR ps j)) (j : Nat) := fun n hn => ⟨i + 1, by omega, by omega, by rw [hn]⟩
  have hs : ∀ s : ByteArray, s.size % 2 = 0 → tot16 s.data.toList = tot16 (ps i).data.toList → foldN (foldN (totR ps i) + (tot16 (s.data.toList.take (2 * (s.size / 2))) : Nat)) = foldN (totR ps (i + 1)) := by
    intro s h1 h2
    rw [tot_all s _ (by omega), h2, fold_add (by omega) (by omega)]
    simp only [totR, Int.natCast_add]
  rw [sO_round]
  rw [hw, Int.toNat_natCast]
  refine ⟨fun _ => ⟨⟨by omega, by omega⟩, by omega, fun h => ?_, fun h => ?_⟩, fun h => ?_⟩
  · have ho : (ps i).size % 2 = 1 := by
      simp only [Bool.not_eq_true', decide_eq_false_iff_not] at h
      rw [Int.tmod_eq_emod_of_nonneg (by omega)] at h
      omega
    have sz : (ps i ++ ⟨#[0]⟩ : ByteArray).size = (ps i).size + 1 := ByteArray.size_append ..
    have h1 : (ps i ++ ⟨#[0]⟩ : ByteArray).size % 2 = 0 := by omega
    have pre : preS (ps i ++ ⟨#[0]⟩) (foldN (totR ps i)) := ⟨h1, by omega, hb.1, hb.2⟩
    exact ⟨by omega, pre, rfl, rfl, rfl, fin _ (hs (ps i ++ ⟨#[0]⟩) h1 (tot_nul _))⟩
  · have ho : (ps i).size % 2 = 0 := by
      simp only [Bool.not_eq_false', decide_eq_true_eq] at h
      rw [Int.tmod_eq_emod_of_nonneg (by omega)] at h
      omega
    have pre : preS (ps i) (foldN (totR ps i)) := ⟨ho, by omega, hb.1, hb.2⟩
    exact ⟨pre, rfl, rfl, rfl, fin _ (hs (ps i) ho rfl)⟩
  · have h := of_decide_eq_false h
    omega
def sumR (m : Nat) (ps : Nat → ByteArray) : Int := 65535 - foldN (totR ps m)
theorem xor_low (n : Int) (h0 : 0 ≤ n) (h1 : n ≤ 65535) : IntKind.i64.wrap ((Nat.bitwise bne (n % 18446744073709551616).toNat 65535 : Nat) : Int) = 65535 - n := by
  have key : ∀ x : Nat, x < 65536 → x ^^^ 65535 = 65535 - x := by
    intro x hx
    have : (BitVec.ofNat 16 x ^^^ BitVec.allOnes 16) = ~~~ BitVec.ofNat 16 x := BitVec.xor_allOnes
    have h := congrArg BitVec.toNat this
    rw [BitVec.toNat_xor, BitVec.toNat_not, BitVec.toNat_allOnes, BitVec.toNat_ofNat, Nat.mod_eq_of_lt (by omega)] at h
    exact h
  have e : (n % 18446744073709551616).toNat = n.toNat := by omega
  have k := key n.toNat (by omega)
  have k : Nat.bitwise bne n.toNat 65535 = 65535 - n.toNat := k
  rw [e, k, w64 _ (by omega) (by omega)]
  omega
set_option maxRecDepth 100000 in
theorem inet_Sum (m : Nat) (ps : Nat → ByteArray) (hf : FewS m ps) (v : Value) (w : World) (hv : ∀ B, BlkSat B w v (.row m 1 fun i _ => .string (ps i))) : Calls Try.prog 93 #[v] w fun e w' => e = .returned (.int .i64 (sumR m ps)) ∧ Below w.heap.size w w' := by
  have hC := CC_ok SFold_ok
  refine calls_runO hC follows Try.func93 (by kernel_rfl) (by kernel_rfl) (one_loop (b := loopAt Try.f93 0) (id := 0) (by kernel_rfl) fun st t h => ?_) (sum_run m ps (foldN (totR ps m))) ?_ (mem_row (hv [v])) rfl
  · rw [addL_same h]
    exact loop_cnt hC follows (by kernel_rfl) (LSi_ok m ps) (fun i => i ≤ m) (fun i => sO m ps (foldN (totR ps i)) (i : Nat)) (fun i => m - i) 1 [3, 7, 8, 9] [] [] m [] (sO_step m ps hf) (Nat.zero_le _)
  · have hb := fold_bd (n := (totR ps m : Nat)) (by omega)
    refine ⟨rfl, rfl, fun h => ?_, fun _ => ?_⟩
    · have h := of_decide_eq_true h; omega
    · show Value.int .i64 _ = Value.int .i64 (sumR m ps)
      rw [xor_low _ hb.1 hb.2]; rfl
/-! the reference's -/
set_option maxRecDepth 100000 in
theorem rI_step (m : Nat) (ps : Nat → ByteArray) (n i : Int) (hp : preR m ps n i) : ∀ k : Nat, k ≤ ((ps i.toNat).size + 1) / 2 → k ≠ ((ps i.toNat).size + 1) / 2 → (roundM Try.prog (onlyS Try.prog noS) noL Try.f95.ntmps 2 (loopIn (loopAt Try.f95 0) 0) 1 [0, 3, 4, 5] [] [] (rI m ps (n + tot16 ((ps i.toNat).data.toList.take (2 * k))) i ((2 * k : Nat) : Int))).ok fun r => r.1 = .normal ∧ ∃ j, j ≤ ((ps i.toNat).size + 1) / 2 ∧ ((ps i.toNat).size + 1) / 2 - j < ((ps i.toNat).size + 1) / 2 - k ∧ r.2 = rI m ps (n + tot16 ((ps i.toNat).data.toList.take (2 * j))) i ((2 * j : Nat) : Int) := by
  intro k hk hne
  obtain ⟨p0, p1, p2, p3, p4⟩ := hp
  have hb := tot_bd ((ps i.toNat).data.toList.take (2 * k))
  have hl : ((ps i.toNat).data.toList.take (2 * k)).length ≤ (ps i.toNat).size := by rw [List.length_take]; simp; omega
  have b1 := byteAt_bd (ps i.toNat) (2 * k : Nat)
  have b2 := byteAt_bd (ps i.toNat) (2 * k + 1 : Nat)
  have e1 : (((2 * k : Nat) : Int) + 2) = ((2 * (k + 1) : Nat) : Int) := by omega
  have e2 : (((2 * k : Nat) : Int) + 1) = ((2 * k + 1 : Nat) : Int) := by omega
  have w1 : IntKind.i64.wrap ((2 * k + 1 : Nat) : Int) = ((2 * k + 1 : Nat) : Int) := w64 _ (by omega) (by omega)
  have w2 : IntKind.i64.wrap ((2 * (k + 1) : Nat) : Int) = ((2 * (k + 1) : Nat) : Int) := w64 _ (by omega) (by omega)
  have c1 : IntKind.i64.wrap (byteAt (ps i.toNat) ((2 * k : Nat) : Int)) = byteAt (ps i.toNat) ((2 * k : Nat) : Int) := w64 _ (by omega) (by omega)
  have c2 : IntKind.i64.wrap (byteAt (ps i.toNat) ((2 * k + 1 : Nat) : Int)) = byteAt (ps i.toNat) ((2 * k + 1 : Nat) : Int) := w64 _ (by omega) (by omega)
  have c3 : IntKind.i64.wrap (256 * byteAt (ps i.toNat) ((2 * k : Nat) : Int)) = 256 * byteAt (ps i.toNat) ((2 * k : Nat) : Int) := w64 _ (by omega) (by omega)
  rw [rI_round]
  rw [e1, e2, w1, w2, c1, c2, c3]
  generalize hT : tot16 ((ps i.toNat).data.toList.take (2 * k)) = T0 at *
  have w3 : IntKind.i64.wrap (n + (T0 : Int) + 256 * byteAt (ps i.toNat) ((2 * k : Nat) : Int)) = n + (T0 : Int) + 256 * byteAt (ps i.toNat) ((2 * k : Nat) : Int) := w64 _ (by omega) (by omega)
  have w4 : IntKind.i64.wrap (n + (T0 : Int) + 256 * byteAt (ps i.toNat) ((2 * k : Nat) : Int) + byteAt (ps i.toNat) ((2 * k + 1 : Nat) : Int)) = n + (T0 : Int) + 256 * byteAt (ps i.toNat) ((2 * k : Nat) : Int) + byteAt (ps i.toNat) ((2 * k + 1 : Nat) : Int) := w64 _ (by omega) (by omega)
  rw [w3, w4]
  have fin : ∀ N : Int, N = n + tot16 ((ps i.toNat).data.toList.take (2 * (k + 1))) → ∃ j, j ≤ ((ps i.toNat).size + 1) / 2 ∧ ((ps i.toNat).size + 1) / 2 - j < ((ps i.toNat).size + 1) / 2 - k ∧ rI m ps N i ((2 * (k + 1) : Nat) : Int) = rI m ps (n + tot16 ((ps i.toNat).data.toList.take (2 * j))) i ((2 * j : Nat) : Int) := fun N hN => ⟨k + 1, by omega, by omega, by rw [hN]⟩
  have hi : i.toNat < m := by omega
  refine ⟨⟨p0, p1⟩, hi, fun _ => ⟨⟨p0, p1⟩, hi, ⟨by omega, by omega⟩, ⟨p0, p1⟩, hi, fun h => ⟨⟨p0, p1⟩, hi, ⟨by omega, ?_⟩, rfl, ?_⟩, fun h => ⟨rfl, ?_⟩⟩, fun h => ?_⟩
  · exact of_decide_eq_true h
  · have h := of_decide_eq_true h
    refine fin _ ?_
    rw [tot_step _ k (by omega), hT]
    omega
  · have h := of_decide_eq_false h
    refine fin _ ?_
    rw [tot_last _ k (by omega), hT]
    omega
  · have h := of_decide_eq_false h
    omega
set_option maxRecDepth 100000 in
theorem rI_end (m : Nat) (ps : Nat → ByteArray) (n i N : Int) (hp : preR m ps n i) : (roundM Try.prog (onlyS Try.prog noS) noL Try.f95.ntmps 2 (loopIn (loopAt Try.f95 0) 0) 1 [0, 3, 4, 5] [] [] (rI m ps N i ((2 * (((ps i.toNat).size + 1) / 2) : Nat) : Int))).ok fun r => r = (.exit 2, rI m ps N i ((2 * (((ps i.toNat).size + 1) / 2) : Nat) : Int)) := by
  obtain ⟨p0, p1, p2, p3, p4⟩ := hp
  rw [rI_round]
  refine ⟨⟨p0, p1⟩, by omega, fun h => ?_, fun _ => rfl⟩
  have h := of_decide_eq_true h
  omega
set_option maxRecDepth 100000 in
theorem LRi_ok (m : Nat) (ps : Nat → ByteArray) : ∀ id b, (id, b) ∈ loopsOf (loopAt Try.f95 0) → ∀ st t, LRi m ps id st = some t → RunOk Try.prog Try.f95.ntmps (.block id (.loop b)) st t :=
  one_loop (by kernel_rfl) fun st t h => by
    rw [addL_same h]
    refine .int fun n => .int fun i => .need fun hp => ?_
    have key := loop_fin (st := st) (onlyS_ok noS_ok) follows (by kernel_rfl) (noloops (by kernel_rfl)) (fun k : Nat => k ≤ ((ps i.toNat).size + 1) / 2) (fun k => rI m ps (n + tot16 ((ps i.toNat).data.toList.take (2 * k))) i ((2 * k : Nat) : Int)) (fun k => ((ps i.toNat).size + 1) / 2 - k) 1 [0, 3, 4, 5] [] [] (((ps i.toNat).size + 1) / 2) _ (rI_step m ps n i hp) (rI_end m ps n i _ hp) (Nat.zero_le _)
    have e : n + (tot16 ((ps i.toNat).data.toList.take (2 * 0)) : Nat) = n := by
      rw [Nat.mul_zero, List.take_zero]
      show n + 0 = n
      rw [Int.add_zero]
    rw [e] at key
    exact key
set_option maxRecDepth 100000 in
theorem rO_step (m : Nat) (ps : Nat → ByteArray) (hf : FewS m ps) : ∀ i : Nat, i ≤ m → i ≠ m → (roundM Try.prog (onlyS Try.prog noS) (LRi m ps) Try.f95.ntmps 0 (loopAt Try.f95 0) 1 [0, 3, 4] [] [] (rO m ps (totR ps i : Nat) (i : Nat))).ok fun r => r.1 = .normal ∧ ∃ j, j ≤ m ∧ m - j < m - i ∧ r.2 = rO m ps (totR ps j : Nat) (j : Nat) := by
  intro i hi hne
  obtain ⟨f1, f2⟩ := hf
  have hz := f2 i (by omega)
  have hb := totR_bd ps i (fun j hj => f2 j (by omega))
  have hw : IntKind.i64.wrap ((i : Int) + 1) = ((i + 1 : Nat) : Int) := by rw [w64 _ (by omega) (by omega)]; rfl
  have pre : preR m ps (totR ps i : Nat) (i : Nat) := ⟨by omega, by omega, by rw [Int.toNat_natCast]; omega, by omega, by omega⟩
  rw [rO_round]
  rw [hw, Int.toNat_natCast]
  refine ⟨fun _ => ⟨pre, rfl, rfl, rfl, ?_⟩, fun h => ?_⟩
  · refine ⟨i + 1, by omega, by omega, ?_⟩
    have e : tot16 ((ps i).data.toList.take (2 * (((ps i).size + 1) / 2))) = tot16 (ps i).data.toList := tot_all _ _ (by omega)
    have e' : tot16 ((ps i).data.toList.take (2 * ((ps i).size + 1).div 2)) = tot16 (ps i).data.toList := tot_all _ _ (by show (ps i).size ≤ 2 * (((ps i).size + 1) / 2); omega)
    show rO m ps ((totR ps i : Nat) + (tot16 _ : Nat)) ((i + 1 : Nat) : Int) = _
    first | rw [e] | rw [e']
    simp only [totR, Int.natCast_add]
  · have h := of_decide_eq_false h
    omega
set_option maxRecDepth 100000 in
theorem ref04_Sum (m : Nat) (ps : Nat → ByteArray) (hf : FewS m ps) (v : Value) (w : World) (hv : ∀ B, BlkSat B w v (.row m 1 fun i _ => .string (ps i))) : Calls Try.prog 95 #[v] w fun e w' => e = .returned (.int .i64 (sumR m ps)) ∧ Below w.heap.size w w' := by
  have hC : CfgOk Try.prog (onlyS Try.prog noS) := onlyS_ok noS_ok
  refine calls_runO hC follows Try.func95 (by kernel_rfl) (by kernel_rfl) (two_loops (b1 := loopAt Try.f95 0) (b2 := loopAt Try.f95 1) (id1 := 0) (id2 := 4) (by kernel_rfl) (fun st t h => ?_) (fun st t h => ?_)) (rum_run m ps (totR ps m : Nat)) ?_ (mem_row (hv [v])) rfl
  · rw [addL_same (addL_other (by decide) h)]
    exact loop_cnt hC follows (by kernel_rfl) (LRi_ok m ps) (fun i => i ≤ m) (fun i => rO m ps (totR ps i : Nat) (i : Nat)) (fun i => m - i) 1 [0, 3, 4] [] [] m [] (rO_step m ps hf) (Nat.zero_le _)
  · rw [addL_same h]
    exact unroll_ok hC follows (by kernel_rfl) (noloops (by kernel_rfl)) 3 st
  · have hb := totR_bd ps m (fun j hj => hf.2 j hj)
    have hm := hf.1
    unfold sumR
    generalize hT : ((totR ps m : Nat) : Int) = n at *
    have n0 : 0 ≤ n ∧ n ≤ 4000000000 := by omega
    have td : ∀ x : Int, 0 ≤ x → x ≤ 4000000000 → IntKind.i64.wrap (x.tmod 65536 + IntKind.i64.wrap (x.tdiv 65536)) = x % 65536 + x / 65536 := fun x h0 h1 => by
      rw [Int.tdiv_eq_ediv_of_nonneg h0, Int.tmod_eq_emod_of_nonneg h0, w64 (x / 65536) (by omega) (by omega), w64 _ (by omega) (by omega)]
    rw [td n n0.1 n0.2]
    rw [td (n % 65536 + n / 65536) (by omega) (by omega)]
    have fb := fold_bd (n := n) n0.1
    have last : ∀ x : Int, x = foldN n → IntKind.i64.wrap (65535 - x) = 65535 - foldN n := fun x hx => by rw [hx]; exact w64 _ (by omega) (by omega)
    refine ⟨rfl, rfl, fun h => ?_, fun _ => ⟨fun h1 => ⟨fun h2 => ⟨fun h3 => ?_, fun h3 => ?_⟩, fun h2 => ?_⟩, fun h1 => ?_⟩⟩
    · have h := of_decide_eq_true h; omega
    · have h3 := of_decide_eq_true h3; omega
    · have h1 := of_decide_eq_true h1
      have h2 := of_decide_eq_true h2
      have h3 := of_decide_eq_false h3
      show Value.int .i64 _ = Value.int .i64 _
      rw [last]
      rw [← fold_step h1, ← fold_step h2, fold_small (by omega) (by omega)]
    · have h1 := of_decide_eq_true h1
      have h2 := of_decide_eq_false h2
      show Value.int .i64 _ = Value.int .i64 _
      rw [last]
      rw [← fold_step h1, fold_small (by omega) (by omega)]
    · have h1 := of_decide_eq_false h1
      show Value.int .i64 _ = Value.int .i64 _
      rw [last]
      rw [fold_small (by omega) (by omega)]
end Go.Proofs.Ytikiieclbeiicaa
