/- Sums with a key: bytes turned, texts compared. No conditions. -/
import Derived.Test.YtcighnkhfamloaaShaP
import Derived.Test.YtcighnkhfamloaaPlA
namespace Go.Proofs.Ytcighnkhfamloaa
set_option linter.unusedVariables false
set_option linter.unusedSimpArgs false
open Go.RowKit Sym Sha Go.ChangeShapes Go.WideShapes Go.ChangeMaps

def FMac1 (P : Program) (fw f1 fAdd fNew : Func) : LTab := addT 255 (inl P (onlyS P noS) noL fw) (addT 267 (inl P (onlyS P noS) noL f1) (FSha2 P fAdd fNew))
theorem FMac1_ok : LOk Try.prog (FMac1 Try.prog Try.f255 Try.f267 Try.f203 Try.f202) :=
  addT_ok (addT_ok FSha2_ok (by kernel_rfl) (inl_ok (onlyS_ok noS_ok) follows Try.func267 (by kernel_rfl) (by kernel_rfl) (noloops (by kernel_rfl)))) (by kernel_rfl) (inl_ok (onlyS_ok noS_ok) follows Try.func255 (by kernel_rfl) (by kernel_rfl) (noloops (by kernel_rfl)))
abbrev CM (P : Program) (S : Tab) (fw f1 fAdd fNew : Func) : Cfg := both P S (FMac1 P fw f1 fAdd fNew) [228, 203, 204, 202, 255, 267]
theorem CM_ok {S : Tab} (h : TabOk Try.prog S) : CfgOk Try.prog (CM Try.prog S Try.f255 Try.f267 Try.f203 Try.f202) := both_ok h FMac1_ok
def stT (n : Int) (m : Nat) (xs : List Value) (i : Int) : St := ⟨[(1, some (.clo (.func 267) [] [.ptr 0 0])), (5, some (.ref 1)), (10, some (.ref 1)), (11, some (.v (.int .i64 m))), (12, some (.v (.int .i64 i)))], [.own [.v (.int .u8 n)], .vec true noGrow 1 m xs]⟩
set_option maxRecDepth 100000 in
theorem stT_round (n : Int) (m : Nat) (xs : List Value) (i : Int) : roundM Try.prog (CM Try.prog noS Try.f255 Try.f267 Try.f203 Try.f202) noL 26 0 (loopAt Try.f254 0) 2 [1, 5, 10, 11, 12] [] [] (stT n m xs i) = T.ite (decide (i < (↑m : Int))) (T.need ((0 : Int) ≤ i ∧ i < (↑m : Int)) (T.need (i.toNat < m) (T.need (List.take (1 : Nat) (List.drop (i.toNat * (1 : Nat) + (0 : Nat)) xs) = [Value.int IntKind.u8 (intV (cellAt xs (i.toNat * (1 : Nat) + (0 : Nat))))]) (T.need ((0 : Int) ≤ i ∧ i < (↑m : Int)) (T.need (i.toNat < m) (T.leaf (Ex.normal, St.mk [((1 : Nat), some (SV.clo (Fn.func (267 : Nat)) [] [SV.ptr (0 : Nat) (0 : Nat)])), ((5 : Nat), some (SV.ref (1 : Nat))), ((10 : Nat), some (SV.ref (1 : Nat))), ((11 : Nat), some (SV.v (Value.int IntKind.i64 (↑m : Int)))), ((12 : Nat), some (SV.v (Value.int IntKind.i64 (IntKind.i64.wrap (i + (1 : Int))))))] [Blk.own [SV.v (Value.int IntKind.u8 n)], Blk.vec true (1000000007 : Nat) (1 : Nat) m (List.take (i.toNat * (1 : Nat) + (0 : Nat)) xs ++ [Value.int IntKind.u8 (IntKind.u8.wrap (↑(Nat.bitwise bne (intV (cellAt xs (i.toNat * (1 : Nat) + (0 : Nat))) % (256 : Int)).toNat (n % (256 : Int)).toNat) : Int))] ++ List.drop (i.toNat * (1 : Nat) + (0 : Nat) + (1 : Nat)) xs)]))))))) (T.leaf (Ex.exit (0 : Nat), St.mk [((1 : Nat), some (SV.clo (Fn.func (267 : Nat)) [] [SV.ptr (0 : Nat) (0 : Nat)])), ((5 : Nat), some (SV.ref (1 : Nat))), ((10 : Nat), some (SV.ref (1 : Nat))), ((11 : Nat), some (SV.v (Value.int IntKind.i64 (↑m : Int)))), ((12 : Nat), some (SV.v (Value.int IntKind.i64 i)))] [Blk.own [SV.v (Value.int IntKind.u8 n)], Blk.vec true (1000000007 : Nat) (1 : Nat) m xs])) := by kernel_rfl
def stS (a b : ByteArray) (z : Int) (i : Int) : St := ⟨[(0, some (.v (.string a))), (1, some (.v (.string b))), (5, some (.v (.int .u8 z))), (13, some (.v (.int .i64 a.size))), (14, some (.v (.int .i64 i)))], []⟩

def stU (s : ByteArray) (n : Int) (t : ByteArray) (i : Int) : St := ⟨[(0, some (.v (.string s))), (1, some (.v (.int .u8 n))), (5, some (.v (.string t))), (6, some (.v (.int .i64 i)))], []⟩

def stK (k all : ByteArray) : St := ⟨[(0, some (.v (.string k))), (1, some (.v (.string all)))], []⟩

end Go.Proofs.Ytcighnkhfamloaa
