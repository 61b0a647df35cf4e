/- Sums with a key: the reference's sum; the program's own. No conditions. -/
import Derived.Test.YtcighnkhfamloaaMacC
namespace Go.Proofs.Ytcighnkhfamloaa
set_option linter.unusedVariables false
set_option linter.unusedSimpArgs false
open Go.RowKit Sym Sha Go.ChangeShapes Go.WideShapes Go.ChangeMaps

theorem ba_app (x : List UInt8) (y : ByteArray) : (ba x ++ y).data.toList = x ++ y.data.toList := by rw [ByteArray.data_append]; simp [ba]
theorem app_nil (k : ByteArray) : k ++ ba [] = k := by apply ByteArray.ext; rw [ByteArray.data_append]; simp [ba]
theorem nil_app (k : ByteArray) : ba [] ++ k = k := by apply ByteArray.ext; rw [ByteArray.data_append]; simp [ba]
def padK (k : ByteArray) : ByteArray := k ++ ba (List.replicate (64 - k.size) 0)
theorem padK_size (k : ByteArray) (h : k.size ≤ 64) : (padK k).size = 64 := by unfold padK; rw [ByteArray.size_append, ba_len, List.length_replicate]; omega
def keyB (key : ByteArray) : ByteArray := if 64 < key.size then shaOf key else key
theorem keyB_size (key : ByteArray) : (keyB key).size ≤ 64 := by
  unfold keyB
  by_cases h : 64 < key.size
  · simp only [if_pos h, shaOf_size]; omega
  · simp only [if_neg h]; omega
theorem padK_key (key : ByteArray) : (padK (keyB key)).data.toList = Mac.key64 key.data.toList := by
  unfold padK keyB Mac.key64
  have hs : key.data.toList.length = key.size := by simp
  by_cases h : 64 < key.size
  · have hz := shaOf_size key
    have hl := Sha.shaL_length key.data.toList
    simp only [hs, if_pos h, hz, hl]
    rw [ByteArray.data_append]; simp [ba, shaOf]
  · simp only [hs, if_neg h]
    rw [ByteArray.data_append]; simp [ba]
theorem turn_length (n : UInt8) (l : List UInt8) : (Mac.turn n l).length = l.length := by simp [Mac.turn]
theorem mac_val (key all : ByteArray) {K : List UInt8} (hK : K = Mac.key64 key.data.toList) : shaOf (ba (Mac.turn 92 K) ++ shaOf (ba (Mac.turn 54 K) ++ all)) = macOf key all := by
  subst hK
  unfold macOf Mac.macL
  show ba (shaL (ba _ ++ shaOf _).data.toList) = _
  rw [ba_app]
  show ba (shaL (_ ++ shaL (ba _ ++ all).data.toList)) = _
  rw [ba_app]
  rfl
def tMac06 : List Value → Option (List Prop × Value) | [.string k, .string a] => some ([k.size ≤ 1000000000000 ∧ a.size ≤ 100000000000], .string (macOf k a)) | _ => none
def SMac2  : Tab := SMac1
theorem SMac2_ok : TabOk Try.prog (SMac2) := SMac1_ok
/-! the program's sum with a key -/
def FMac2 (P : Program) (fw f1 fAdd fNew : Func) : LTab := addF 254 fTurned (FMac1 P fw f1 fAdd fNew)
theorem FMac2_ok : LOk Try.prog (FMac2 Try.prog Try.f255 Try.f267 Try.f203 Try.f202) := addF_ok FMac1_ok (by kernel_rfl) fTurned_ok
abbrev CN (P : Program) (S : Tab) (fw f1 fAdd fNew : Func) : Cfg := both P S (FMac2 P fw f1 fAdd fNew) [228, 203, 204, 202, 255, 267, 254]
theorem CN_ok {S : Tab} (h : TabOk Try.prog S) : CfgOk Try.prog (CN Try.prog S Try.f255 Try.f267 Try.f203 Try.f202) := both_ok h FMac2_ok
def stM (key : ByteArray) (n : Nat) (g : Nat → ByteArray) (h : H8) (r : ByteArray) (m : Int) (i : Int) : St := ⟨[(0, some (.v (.string key))), (5, some (.ptr 1 0)), (25, some (.ref 0)), (26, some (.v (.int .i64 n))), (27, some (.v (.int .i64 i)))], [.row n 1 (fun i _ => .string (g i)), .own (stC h r m), .own [.v (.int .u8 54)]]⟩
set_option maxRecDepth 100000 in
theorem stM_round (key : ByteArray) (n : Nat) (g : Nat → ByteArray) (h : H8) (r : ByteArray) (m : Int) (i : Int) : roundM Try.prog (CN Try.prog SMac2 Try.f255 Try.f267 Try.f203 Try.f202) noL 42 0 (loopAt Try.f231 0) 3 [0, 5, 25, 26, 27] [] [] (stM key n g h r m i) = T.ite (decide (i < (↑n : Int))) (T.need ((0 : Int) ≤ i ∧ i < (↑n : Int)) (T.need (i.toNat < n) (T.need (r.size + (g i.toNat).size ≤ (9223372036854775807 : Nat)) (T.leaf (Ex.normal, St.mk [((0 : Nat), some (SV.v (Value.string key))), ((5 : Nat), some (SV.ptr (1 : Nat) (0 : Nat))), ((25 : Nat), some (SV.ref (0 : Nat))), ((26 : Nat), some (SV.v (Value.int IntKind.i64 (↑n : Int)))), ((27 : Nat), some (SV.v (Value.int IntKind.i64 (IntKind.i64.wrap (i + (1 : Int))))))] [Blk.row n (1 : Nat) fun i x => Value.string (g i), Blk.own [SV.v (Value.int IntKind.u32 (foldA h (Array.mk (r.1.toList ++ (g i.toNat).1.toList)).toList).a), SV.v (Value.int IntKind.u32 (foldA h (Array.mk (r.1.toList ++ (g i.toNat).1.toList)).toList).b), SV.v (Value.int IntKind.u32 (foldA h (Array.mk (r.1.toList ++ (g i.toNat).1.toList)).toList).c), SV.v (Value.int IntKind.u32 (foldA h (Array.mk (r.1.toList ++ (g i.toNat).1.toList)).toList).d), SV.v (Value.int IntKind.u32 (foldA h (Array.mk (r.1.toList ++ (g i.toNat).1.toList)).toList).e), SV.v (Value.int IntKind.u32 (foldA h (Array.mk (r.1.toList ++ (g i.toNat).1.toList)).toList).f), SV.v (Value.int IntKind.u32 (foldA h (Array.mk (r.1.toList ++ (g i.toNat).1.toList)).toList).g), SV.v (Value.int IntKind.u32 (foldA h (Array.mk (r.1.toList ++ (g i.toNat).1.toList)).toList).h), SV.v (Value.string (ba (restA (Array.mk (r.1.toList ++ (g i.toNat).1.toList)).toList))), SV.v (Value.int IntKind.i64 (IntKind.i64.wrap (m + (↑(g i.toNat).size : Int))))], Blk.own [SV.v (Value.int IntKind.u8 (54 : Int))]]))))) (T.leaf (Ex.exit (0 : Nat), St.mk [((0 : Nat), some (SV.v (Value.string key))), ((5 : Nat), some (SV.ptr (1 : Nat) (0 : Nat))), ((25 : Nat), some (SV.ref (0 : Nat))), ((26 : Nat), some (SV.v (Value.int IntKind.i64 (↑n : Int)))), ((27 : Nat), some (SV.v (Value.int IntKind.i64 i)))] [Blk.row n (1 : Nat) fun i x => Value.string (g i), Blk.own [SV.v (Value.int IntKind.u32 h.a), SV.v (Value.int IntKind.u32 h.b), SV.v (Value.int IntKind.u32 h.c), SV.v (Value.int IntKind.u32 h.d), SV.v (Value.int IntKind.u32 h.e), SV.v (Value.int IntKind.u32 h.f), SV.v (Value.int IntKind.u32 h.g), SV.v (Value.int IntKind.u32 h.h), SV.v (Value.string r), SV.v (Value.int IntKind.i64 m)], Blk.own [SV.v (Value.int IntKind.u8 (54 : Int))]])) := by kernel_rfl
end Go.Proofs.Ytcighnkhfamloaa
