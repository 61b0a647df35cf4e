/- Sums with a key: the reference's sum; the program's own. No conditions. -/
import Derived.Test.YtjlgcfcejdeecaaMacC
namespace Go.Proofs.Ytjlgcfcejdeecaa
set_option linter.unusedVariables false
set_option linter.unusedSimpArgs false
open Go.RowKit Sym Sha Go.ChangeShapes Go.WideShapes Go.ChangeMaps

theorem ba_app (x : List UInt8) (y : ByteArray) : (ba x ++ y).data.toList = x ++ y.data.toList := by rw [ByteArray.data_append]; simp [ba]
theorem app_nil (k : ByteArray) : k ++ ba [] = k := by apply ByteArray.ext; rw [ByteArray.data_append]; simp [ba]
theorem nil_app (k : ByteArray) : ba [] ++ k = k := by apply ByteArray.ext; rw [ByteArray.data_append]; simp [ba]
def padK (k : ByteArray) : ByteArray := k ++ ba (List.replicate (64 - k.size) 0)
theorem padK_size (k : ByteArray) (h : k.size ≤ 64) : (padK k).size = 64 := by unfold padK; rw [ByteArray.size_append, ba_len, List.length_replicate]; omega
def keyB (key : ByteArray) : ByteArray := if 64 < key.size then shaOf key else key
theorem keyB_size (key : ByteArray) : (keyB key).size ≤ 64 := by
  unfold keyB
  by_cases h : 64 < key.size
  · simp only [if_pos h, shaOf_size]; omega
  · simp only [if_neg h]; omega
theorem padK_key (key : ByteArray) : (padK (keyB key)).data.toList = Mac.key64 key.data.toList := by
  unfold padK keyB Mac.key64
  have hs : key.data.toList.length = key.size := by simp
  by_cases h : 64 < key.size
  · have hz := shaOf_size key
    have hl := Sha.shaL_length key.data.toList
    simp only [hs, if_pos h, hz, hl]
    rw [ByteArray.data_append]; simp [ba, shaOf]
  · simp only [hs, if_neg h]
    rw [ByteArray.data_append]; simp [ba]
theorem turn_length (n : UInt8) (l : List UInt8) : (Mac.turn n l).length = l.length := by simp [Mac.turn]
theorem mac_val (key all : ByteArray) {K : List UInt8} (hK : K = Mac.key64 key.data.toList) : shaOf (ba (Mac.turn 92 K) ++ shaOf (ba (Mac.turn 54 K) ++ all)) = macOf key all := by
  subst hK
  unfold macOf Mac.macL
  show ba (shaL (ba _ ++ shaOf _).data.toList) = _
  rw [ba_app]
  show ba (shaL (_ ++ shaL (ba _ ++ all).data.toList)) = _
  rw [ba_app]
  rfl
set_option maxRecDepth 100000 in
theorem ref06_Of (key all : ByteArray) (hk : key.size ≤ 1000000000000) (ha : all.size ≤ 100000000000) (w : World) : Calls Try.prog 153 #[.string key, .string all] w fun e w' => e = .returned (.string (macOf key all)) ∧ Below w.heap.size w w' := by
  refine calls_runV (onlyS_ok SMac1_ok) follows Try.func153 (by kernel_rfl) (by kernel_rfl) (one_loop (b := loopAt Try.f153 0) (id := 0) (by kernel_rfl) fun st t h => ?_) (of06_run key all) ?_ w
  · rw [addL_same h]
    exact .str fun k => .str fun all => .need fun h1 => loop_cnt (onlyS_ok noS_ok) follows (by kernel_rfl) (noloops (by kernel_rfl)) (fun i : Nat => i ≤ 64 - k.size) (fun i => stKI k all i) (fun i => 64 - k.size - i) 0 [0, 1] [] [] (64 - k.size) [] (stKI_step k all h1) (Nat.zero_le _)
  · have h0 : ∀ k : ByteArray, stK k all = stKI k all 0 := fun k => by unfold stKI; rw [List.replicate_zero, app_nil]
    have hz := padK_size _ (keyB_size key)
    have hK := padK_key key
    have t1 : ∀ n, (ba (Mac.turn n (padK (keyB key)).data.toList)).size = 64 := fun n => by rw [ba_len, turn_length]; show (padK (keyB key)).data.toList.length = 64; rw [show (padK (keyB key)).data.toList.length = (padK (keyB key)).size by simp, hz]
    have hv := mac_val key all hK
    have s1 := keyB_size key
    by_cases hb : 64 < key.size
    · have e : keyB key = shaOf key := by unfold keyB; rw [if_pos hb]
      rw [e] at hz t1 hv s1
      refine ⟨fun _ => ⟨hk, s1, rfl, h0 _, (fun h => ?_), fun _ => ⟨?_, ?_, ?_, ?_, ?_, ?_, ?_⟩⟩, fun h => ?_⟩
      · have h := of_decide_eq_true h
        have h : ((padK (shaOf key)).size : Int) < 64 := h
        omega
      · exact ⟨by show (padK (shaOf key)).size ≤ maxLen; rw [hz]; unfold maxLen; omega, by omega, by omega⟩
      · exact ⟨by show (padK (shaOf key)).size ≤ maxLen; rw [hz]; unfold maxLen; omega, by omega, by omega⟩
      · show (ba (Mac.turn 54 (padK (shaOf key)).data.toList)).size + all.size ≤ _
        rw [t1]; omega
      · show (ba (Mac.turn 54 (padK (shaOf key)).data.toList) ++ all).size ≤ _
        rw [ByteArray.size_append, t1]; omega
      · show (ba (Mac.turn 92 (padK (shaOf key)).data.toList)).size + (shaOf _).size ≤ _
        rw [t1, shaOf_size]; omega
      · show (ba (Mac.turn 92 (padK (shaOf key)).data.toList) ++ shaOf _).size ≤ _
        rw [ByteArray.size_append, t1, shaOf_size]; omega
      · exact congrArg Value.string hv
      · have h := of_decide_eq_false h; omega
    · have e : keyB key = key := by unfold keyB; rw [if_neg hb]
      rw [e] at hz t1 hv s1
      refine ⟨fun h => ?_, fun _ => ⟨s1, rfl, h0 _, (fun h => ?_), fun _ => ⟨?_, ?_, ?_, ?_, ?_, ?_, ?_⟩⟩⟩
      · have h := of_decide_eq_true h; omega
      · have h := of_decide_eq_true h
        have h : ((padK key).size : Int) < 64 := h
        omega
      · exact ⟨by show (padK key).size ≤ maxLen; rw [hz]; unfold maxLen; omega, by omega, by omega⟩
      · exact ⟨by show (padK key).size ≤ maxLen; rw [hz]; unfold maxLen; omega, by omega, by omega⟩
      · show (ba (Mac.turn 54 (padK key).data.toList)).size + all.size ≤ _
        rw [t1]; omega
      · show (ba (Mac.turn 54 (padK key).data.toList) ++ all).size ≤ _
        rw [ByteArray.size_append, t1]; omega
      · show (ba (Mac.turn 92 (padK key).data.toList)).size + (shaOf _).size ≤ _
        rw [t1, shaOf_size]; omega
      · show (ba (Mac.turn 92 (padK key).data.toList) ++ shaOf _).size ≤ _
        rw [ByteArray.size_append, t1, shaOf_size]; omega
      · exact congrArg Value.string hv
def tMac06 : List Value → Option (List Prop × Value) | [.string k, .string a] => some ([k.size ≤ 1000000000000 ∧ a.size ≤ 100000000000], .string (macOf k a)) | _ => none
def SMac2 : Tab := addS 153 tMac06 SMac1
theorem SMac2_ok : TabOk Try.prog SMac2 := addS_ok SMac1_ok (by kernel_rfl) (by (intro xs p v h hp w; unfold tMac06 at h; (split at h) <;> first | (cases h; done) | (simp only [Option.some.injEq, Prod.mk.injEq] at h; obtain ⟨rfl, rfl⟩ := h; exact ref06_Of _ _ (hp _ (List.mem_cons_self ..)).1 (hp _ (List.mem_cons_self ..)).2 w)))
/-! the program's sum with a key -/
def FMac2 (P : Program) (fw f1 fAdd fNew : Func) : LTab := addF 260 fTurned (FMac1 P fw f1 fAdd fNew)
theorem FMac2_ok : LOk Try.prog (FMac2 Try.prog Try.f261 Try.f271 Try.f212 Try.f211) := addF_ok FMac1_ok (by kernel_rfl) fTurned_ok
abbrev CN (P : Program) (S : Tab) (fw f1 fAdd fNew : Func) : Cfg := both P S (FMac2 P fw f1 fAdd fNew) [240, 212, 213, 211, 261, 271, 260]
theorem CN_ok {S : Tab} (h : TabOk Try.prog S) : CfgOk Try.prog (CN Try.prog S Try.f261 Try.f271 Try.f212 Try.f211) := both_ok h FMac2_ok
def stM (key : ByteArray) (n : Nat) (g : Nat → ByteArray) (h : H8) (r : ByteArray) (m : Int) (i : Int) : St := ⟨[(0, some (.v (.string key))), (5, some (.ptr 1 0)), (25, some (.ref 0)), (26, some (.v (.int .i64 n))), (27, some (.v (.int .i64 i)))], [.row n 1 (fun i _ => .string (g i)), .own (stC h r m), .own [.v (.int .u8 54)]]⟩
set_option maxRecDepth 100000 in
theorem stM_round (key : ByteArray) (n : Nat) (g : Nat → ByteArray) (h : H8) (r : ByteArray) (m : Int) (i : Int) : roundM Try.prog (CN Try.prog SMac2 Try.f261 Try.f271 Try.f212 Try.f211) noL 42 0 (loopAt Try.f235 0) 3 [0, 5, 25, 26, 27] [] [] (stM key n g h r m i) = T.ite (decide (i < (↑n : Int))) (T.need ((0 : Int) ≤ i ∧ i < (↑n : Int)) (T.need (i.toNat < n) (T.need (r.size + (g i.toNat).size ≤ (9223372036854775807 : Nat)) (T.leaf (Ex.normal, St.mk [((0 : Nat), some (SV.v (Value.string key))), ((5 : Nat), some (SV.ptr (1 : Nat) (0 : Nat))), ((25 : Nat), some (SV.ref (0 : Nat))), ((26 : Nat), some (SV.v (Value.int IntKind.i64 (↑n : Int)))), ((27 : Nat), some (SV.v (Value.int IntKind.i64 (IntKind.i64.wrap (i + (1 : Int))))))] [Blk.row n (1 : Nat) fun i x => Value.string (g i), Blk.own [SV.v (Value.int IntKind.u32 (foldA h (Array.mk (r.1.toList ++ (g i.toNat).1.toList)).toList).a), SV.v (Value.int IntKind.u32 (foldA h (Array.mk (r.1.toList ++ (g i.toNat).1.toList)).toList).b), SV.v (Value.int IntKind.u32 (foldA h (Array.mk (r.1.toList ++ (g i.toNat).1.toList)).toList).c), SV.v (Value.int IntKind.u32 (foldA h (Array.mk (r.1.toList ++ (g i.toNat).1.toList)).toList).d), SV.v (Value.int IntKind.u32 (foldA h (Array.mk (r.1.toList ++ (g i.toNat).1.toList)).toList).e), SV.v (Value.int IntKind.u32 (foldA h (Array.mk (r.1.toList ++ (g i.toNat).1.toList)).toList).f), SV.v (Value.int IntKind.u32 (foldA h (Array.mk (r.1.toList ++ (g i.toNat).1.toList)).toList).g), SV.v (Value.int IntKind.u32 (foldA h (Array.mk (r.1.toList ++ (g i.toNat).1.toList)).toList).h), SV.v (Value.string (ba (restA (Array.mk (r.1.toList ++ (g i.toNat).1.toList)).toList))), SV.v (Value.int IntKind.i64 (IntKind.i64.wrap (m + (↑(g i.toNat).size : Int))))], Blk.own [SV.v (Value.int IntKind.u8 (54 : Int))]]))))) (T.leaf (Ex.exit (0 : Nat), St.mk [((0 : Nat), some (SV.v (Value.string key))), ((5 : Nat), some (SV.ptr (1 : Nat) (0 : Nat))), ((25 : Nat), some (SV.ref (0 : Nat))), ((26 : Nat), some (SV.v (Value.int IntKind.i64 (↑n : Int)))), ((27 : Nat), some (SV.v (Value.int IntKind.i64 i)))] [Blk.row n (1 : Nat) fun i x => Value.string (g i), Blk.own [SV.v (Value.int IntKind.u32 h.a), SV.v (Value.int IntKind.u32 h.b), SV.v (Value.int IntKind.u32 h.c), SV.v (Value.int IntKind.u32 h.d), SV.v (Value.int IntKind.u32 h.e), SV.v (Value.int IntKind.u32 h.f), SV.v (Value.int IntKind.u32 h.g), SV.v (Value.int IntKind.u32 h.h), SV.v (Value.string r), SV.v (Value.int IntKind.i64 m)], Blk.own [SV.v (Value.int IntKind.u8 (54 : Int))]])) := by kernel_rfl
end Go.Proofs.Ytjlgcfcejdeecaa
