/- Sums with a key: the reference's sum; the program's own. No conditions. -/
import Derived.Test.YtjjnolpkifhbnaaGreatMacC
namespace Go.Proofs.YtjjnolpkifhbnaaGreat
set_option linter.unusedVariables false
set_option linter.unusedSimpArgs false
open Go.RowKit Sym Sha Go.ChangeShapes Go.WideShapes Go.ChangeMaps

theorem ba_app (x : List UInt8) (y : ByteArray) : (ba x ++ y).data.toList = x ++ y.data.toList := by rw [ByteArray.data_append]; simp [ba]
theorem app_nil (k : ByteArray) : k ++ ba [] = k := by apply ByteArray.ext; rw [ByteArray.data_append]; simp [ba]
theorem nil_app (k : ByteArray) : ba [] ++ k = k := by apply ByteArray.ext; rw [ByteArray.data_append]; simp [ba]
def padK (k : ByteArray) : ByteArray := k ++ ba (List.replicate (64 - k.size) 0)
theorem padK_size (k : ByteArray) (h : k.size ≤ 64) : (padK k).size = 64 := by unfold padK; rw [ByteArray.size_append, ba_len, List.length_replicate]; omega
def keyB (key : ByteArray) : ByteArray := if 64 < key.size then shaOf key else key
theorem keyB_size (key : ByteArray) : (keyB key).size ≤ 64 := by
  unfold keyB
  by_cases h : 64 < key.size
  · simp only [if_pos h, shaOf_size]; omega
  · simp only [if_neg h]; omega
theorem padK_key (key : ByteArray) : (padK (keyB key)).data.toList = Mac.key64 key.data.toList := by
  unfold padK keyB Mac.key64
  have hs : key.data.toList.length = key.size := by simp
  by_cases h : 64 < key.size
  · have hz := shaOf_size key
    have hl := Sha.shaL_length key.data.toList
    simp only [hs, if_pos h, hz, hl]
    rw [ByteArray.data_append]; simp [ba, shaOf]
  · simp only [hs, if_neg h]
    rw [ByteArray.data_append]; simp [ba]
theorem turn_length (n : UInt8) (l : List UInt8) : (Mac.turn n l).length = l.length := by simp [Mac.turn]
theorem mac_val (key all : ByteArray) {K : List UInt8} (hK : K = Mac.key64 key.data.toList) : shaOf (ba (Mac.turn 92 K) ++ shaOf (ba (Mac.turn 54 K) ++ all)) = macOf key all := by
  subst hK
  unfold macOf Mac.macL
  show ba (shaL (ba _ ++ shaOf _).data.toList) = _
  rw [ba_app]
  show ba (shaL (_ ++ shaL (ba _ ++ all).data.toList)) = _
  rw [ba_app]
  rfl
set_option maxRecDepth 100000 in
theorem ref06_Of (key all : ByteArray) (hk : key.size ≤ 1000000000000) (ha : all.size ≤ 100000000000) (w : World) : Calls Tryz.prog 77 #[.string key, .string all] w fun e w' => e = .returned (.string (macOf key all)) ∧ Below w.heap.size w w' := by
  refine calls_runV (onlyS_ok SMac1_ok) follows Tryz.func77 (by kernel_rfl) (by kernel_rfl) (one_loop (b := loopAt Tryz.f77 0) (id := 0) (by kernel_rfl) fun st t h => ?_) (of06_run key all) ?_ w
  · rw [addL_same h]
    exact .str fun k => .str fun all => .need fun h1 => loop_cnt (onlyS_ok noS_ok) follows (by kernel_rfl) (noloops (by kernel_rfl)) (fun i : Nat => i ≤ 64 - k.size) (fun i => stKI k all i) (fun i => 64 - k.size - i) 0 [0, 1] [] [] (64 - k.size) [] (stKI_step k all h1) (Nat.zero_le _)
  · have h0 : ∀ k : ByteArray, stK k all = stKI k all 0 := fun k => by unfold stKI; rw [List.replicate_zero, app_nil]
    have hz := padK_size _ (keyB_size key)
    have hK := padK_key key
    have t1 : ∀ n, (ba (Mac.turn n (padK (keyB key)).data.toList)).size = 64 := fun n => by rw [ba_len, turn_length]; show (padK (keyB key)).data.toList.length = 64; rw [show (padK (keyB key)).data.toList.length = (padK (keyB key)).size by simp, hz]
    have hv := mac_val key all hK
    have s1 := keyB_size key
    by_cases hb : 64 < key.size
    · have e : keyB key = shaOf key := by unfold keyB; rw [if_pos hb]
      rw [e] at hz t1 hv s1
      refine ⟨fun _ => ⟨hk, s1, rfl, h0 _, (fun h => ?_), fun _ => ⟨?_, ?_, ?_, ?_, ?_, ?_, ?_⟩⟩, fun h => ?_⟩
      · have h := of_decide_eq_true h
        have h : ((padK (shaOf key)).size : Int) < 64 := h
        omega
      · exact ⟨by show (padK (shaOf key)).size ≤ maxLen; rw [hz]; unfold maxLen; omega, by omega, by omega⟩
      · exact ⟨by show (padK (shaOf key)).size ≤ maxLen; rw [hz]; unfold maxLen; omega, by omega, by omega⟩
      · show (ba (Mac.turn 54 (padK (shaOf key)).data.toList)).size + all.size ≤ _
        rw [t1]; omega
      · show (ba (Mac.turn 54 (padK (shaOf key)).data.toList) ++ all).size ≤ _
        rw [ByteArray.size_append, t1]; omega
      · show (ba (Mac.turn 92 (padK (shaOf key)).data.toList)).size + (shaOf _).size ≤ _
        rw [t1, shaOf_size]; omega
      · show (ba (Mac.turn 92 (padK (shaOf key)).data.toList) ++ shaOf _).size ≤ _
        rw [ByteArray.size_append, t1, shaOf_size]; omega
      · exact congrArg Value.string hv
      · have h := of_decide_eq_false h; omega
    · have e : keyB key = key := by unfold keyB; rw [if_neg hb]
      rw [e] at hz t1 hv s1
      refine ⟨fun h => ?_, fun _ => ⟨s1, rfl, h0 _, (fun h => ?_), fun _ => ⟨?_, ?_, ?_, ?_, ?_, ?_, ?_⟩⟩⟩
      · have h := of_decide_eq_true h; omega
      · have h := of_decide_eq_true h
        have h : ((padK key).size : Int) < 64 := h
        omega
      · exact ⟨by show (padK key).size ≤ maxLen; rw [hz]; unfold maxLen; omega, by omega, by omega⟩
      · exact ⟨by show (padK key).size ≤ maxLen; rw [hz]; unfold maxLen; omega, by omega, by omega⟩
      · show (ba (Mac.turn 54 (padK key).data.toList)).size + all.size ≤ _
        rw [t1]; omega
      · show (ba (Mac.turn 54 (padK key).data.toList) ++ all).size ≤ _
        rw [ByteArray.size_append, t1]; omega
      · show (ba (Mac.turn 92 (padK key).data.toList)).size + (shaOf _).size ≤ _
        rw [t1, shaOf_size]; omega
      · show (ba (Mac.turn 92 (padK key).data.toList) ++ shaOf _).size ≤ _
        rw [ByteArray.size_append, t1, shaOf_size]; omega
      · exact congrArg Value.string hv
def tMac06 : List Value → Option (List Prop × Value) | [.string k, .string a] => some ([k.size ≤ 1000000000000 ∧ a.size ≤ 100000000000], .string (macOf k a)) | _ => none
def SMac2  : Tab := addS 77 tMac06 <| SMac1
theorem SMac2_ok : TabOk Tryz.prog (SMac2) := by
  refine addS_ok (SMac1_ok) (by kernel_rfl) ?_
  · (intro xs p v h hp w; unfold tMac06 at h; (split at h) <;> first | (cases h; done) | (simp only [Option.some.injEq, Prod.mk.injEq] at h; obtain ⟨rfl, rfl⟩ := h; exact ref06_Of _ _ (hp _ (List.mem_cons_self ..)).1 (hp _ (List.mem_cons_self ..)).2 w))
/-! the program's sum with a key -/
def FMac2 (P : Program) (fw f1 fAdd fNew : Func) : LTab := addF 96 fTurned (FMac1 P fw f1 fAdd fNew)
theorem FMac2_ok : LOk Tryz.prog (FMac2 Tryz.prog Tryz.f97 Tryz.f109 Tryz.f95 Tryz.f94) := addF_ok FMac1_ok (by kernel_rfl) fTurned_ok
abbrev CN (P : Program) (S : Tab) (fw f1 fAdd fNew : Func) : Cfg := both P S (FMac2 P fw f1 fAdd fNew) [108, 95, 98, 94, 97, 109, 96]
theorem CN_ok {S : Tab} (h : TabOk Tryz.prog S) : CfgOk Tryz.prog (CN Tryz.prog S Tryz.f97 Tryz.f109 Tryz.f95 Tryz.f94) := both_ok h FMac2_ok
def stM (key : ByteArray) (n : Nat) (g : Nat → ByteArray) (h : H8) (r : ByteArray) (m : Int) (i : Int) : St := ⟨[(0, some (.v (.string key))), (5, some (.ptr 1 0)), (25, some (.ref 0)), (26, some (.v (.int .i64 n))), (27, some (.v (.int .i64 i)))], [.row n 1 (fun i _ => .string (g i)), .own (stC h r m), .own [.v (.int .u8 54)]]⟩
set_option maxRecDepth 100000 in
theorem stM_round (key : ByteArray) (n : Nat) (g : Nat → ByteArray) (h : H8) (r : ByteArray) (m : Int) (i : Int) : roundM Tryz.prog (CN Tryz.prog SMac2 Tryz.f97 Tryz.f109 Tryz.f95 Tryz.f94) noL 42 0 (loopAt Tryz.f71 0) 3 [0, 5, 25, 26, 27] [] [] (stM key n g h r m i) = .ite (decide (i < (↑n : Int))) (.need ((0 : Int) ≤ i ∧ i < (↑n : Int)) (.need (i.toNat < n) (.need (r.size + (g i.toNat).size ≤ 9223372036854775807) (.leaf (Ex.normal, St.mk [(0, some (.v (.string key))), (5, some (.ptr 1 0)), (25, some (SV.ref 0)), (26, some (.v (.int .i64 (↑n : Int)))), (27, some (.v (.int .i64 (IntKind.i64.wrap (i + (1 : Int))))))] [Blk.row n 1 fun i x => Value.string (g i), .own [.v (.int .u32 (foldA h (Array.mk (r.1.toList ++ (g i.toNat).1.toList)).toList).a), .v (.int .u32 (foldA h (Array.mk (r.1.toList ++ (g i.toNat).1.toList)).toList).b), .v (.int .u32 (foldA h (Array.mk (r.1.toList ++ (g i.toNat).1.toList)).toList).c), .v (.int .u32 (foldA h (Array.mk (r.1.toList ++ (g i.toNat).1.toList)).toList).d), .v (.int .u32 (foldA h (Array.mk (r.1.toList ++ (g i.toNat).1.toList)).toList).e), .v (.int .u32 (foldA h (Array.mk (r.1.toList ++ (g i.toNat).1.toList)).toList).f), .v (.int .u32 (foldA h (Array.mk (r.1.toList ++ (g i.toNat).1.toList)).toList).g), .v (.int .u32 (foldA h (Array.mk (r.1.toList ++ (g i.toNat).1.toList)).toList).h), .v (.string (ba (restA (Array.mk (r.1.toList ++ (g i.toNat).1.toList)).toList))), .v (.int .i64 (IntKind.i64.wrap (m + (↑(g i.toNat).size : Int))))], .own [.v (.int .u8 54)]]))))) (.leaf (Ex.exit 0, St.mk [(0, some (.v (.string key))), (5, some (.ptr 1 0)), (25, some (SV.ref 0)), (26, some (.v (.int .i64 (↑n : Int)))), (27, some (.v (.int .i64 i)))] [Blk.row n 1 fun i x => Value.string (g i), .own [.v (.int .u32 h.a), .v (.int .u32 h.b), .v (.int .u32 h.c), .v (.int .u32 h.d), .v (.int .u32 h.e), .v (.int .u32 h.f), .v (.int .u32 h.g), .v (.int .u32 h.h), .v (.string r), .v (.int .i64 m)], .own [.v (.int .u8 54)]])) := by kernel_rfl
end Go.Proofs.YtjjnolpkifhbnaaGreat
namespace Go.Proofs.YtjjnolpkifhbnaaGreat
set_option linter.unusedVariables false
set_option linter.unusedSimpArgs false
open Go.RowKit Sym Sha Go.ChangeShapes Go.WideShapes Go.ChangeMaps

/-- behind i texts; p: the bytes ahead of these -/
def stMI (key : ByteArray) (n : Nat) (g : Nat → ByteArray) (p : List UInt8) (i : Nat) : St := stM key n g (foldA H0 (p ++ (catR g i).data.toList)) (ba (restA (p ++ (catR g i).data.toList))) ((p.length : Int) + ((catR g i).size : Int)) (i : Int)
theorem stMI_step (key : ByteArray) (n : Nat) (g : Nat → ByteArray) (p : List UInt8) (hn : n ≤ maxLen) (hp : p.length ≤ 64) (hc : (catR g n).size ≤ 100000000000) : ∀ i : Nat, i ≤ n → i ≠ n → (roundM Tryz.prog (CN Tryz.prog SMac2 Tryz.f97 Tryz.f109 Tryz.f95 Tryz.f94) noL 42 0 (loopAt Tryz.f71 0) 3 [0, 5, 25, 26, 27] [] [] (stMI key n g p i)).ok fun r => r.1 = .normal ∧ ∃ j, j ≤ n ∧ n - j < n - i ∧ r.2 = stMI key n g p j := by
  intro i hi hne
  unfold maxLen at hn
  have hlt : i < n := by omega
  have hm := catR_mono g (show i + 1 ≤ n by omega)
  have hsz : (catR g (i + 1)).size = (catR g i).size + (g i).size := by show (catR g i ++ g i).size = _; rw [ByteArray.size_append]
  have hr := restA_length (p ++ (catR g i).data.toList)
  unfold stMI
  rw [stM_round]
  simp only [Int.toNat_natCast]
  have e : (p ++ (catR g i).data.toList) ++ (g i).data.toList = p ++ (catR g (i + 1)).data.toList := by rw [cat_data, List.append_assoc]
  have hw : IntKind.i64.wrap ((p.length : Int) + ((catR g i).size : Int) + ((g i).size : Int)) = (p.length : Int) + ((catR g (i + 1)).size : Int) := by rw [w64 _ (by omega) (by omega)]; omega
  have hw1 : IntKind.i64.wrap ((i : Int) + 1) = ((i + 1 : Nat) : Int) := by rw [w64 _ (by omega) (by omega)]; rfl
  refine ⟨fun _ => ⟨by omega, by omega, ?_, rfl, i + 1, by omega, by omega, ?_⟩, fun h => ?_⟩
  · rw [ba_len, hr]; omega
  · show stM key n g (foldA (foldA H0 (p ++ (catR g i).data.toList)) (restA (p ++ (catR g i).data.toList) ++ (g i).data.toList)) (ba (restA (restA (p ++ (catR g i).data.toList) ++ (g i).data.toList))) (IntKind.i64.wrap ((p.length : Int) + ((catR g i).size : Int) + ((g i).size : Int))) (IntKind.i64.wrap ((i : Int) + 1)) = _
    rw [foldA_append, restA_append, hw, hw1, e]
  · have h := of_decide_eq_false h; omega
def LMac (P : Program) (C : Cfg) (fn : Func) (n : Nat) (g : Nat → ByteArray) (p : List UInt8) : Nat → St → Option (T (Ex × St)) :=
  addL 0 (fun st => withStr st 0 fun key => .need (p.length = 64) (.need (st.H.length = 3) (.need (st.tidy 3 [0, 5, 25, 26, 27] [] [] = stMI key n g p 0) ((roundM P C noL 42 0 (loopAt fn 0) 3 [0, 5, 25, 26, 27] [] [] (closeAt [] (stMI key n g p n))).bind (lastX 0))))) noL
set_option maxRecDepth 100000 in
theorem macOf_run (key : ByteArray) (n : Nat) (g : Nat → ByteArray) (p : List UInt8) : trimT 1 (runF Tryz.prog (CN Tryz.prog SMac2 Tryz.f97 Tryz.f109 Tryz.f95 Tryz.f94) (LMac Tryz.prog (CN Tryz.prog SMac2 Tryz.f97 Tryz.f109 Tryz.f95 Tryz.f94) Tryz.f71 n g p) Tryz.f71 (Tryz.f71.body.getD .skip) [.v (.string key), .ref 0] [.row n 1 fun i _ => .string (g i)]) = .ite (decide ((↑key.size : Int) > (64 : Int))) (.need (key.size ≤ 1000000000000) (.need ((0 : Int) ≤ IntKind.i64.wrap ((64 : Int) - (↑(shaOf key).size : Int)) ∧ IntKind.i64.wrap ((64 : Int) - (↑(shaOf key).size : Int)) ≤ (9223372036854775807 : Int) ∧ (ByteArray.mk #[(0 : UInt8)]).size * (IntKind.i64.wrap ((64 : Int) - (↑(shaOf key).size : Int))).toNat ≤ 140737488355328) (.need ((shaOf key).size + (ba (Lib.repeatL (Array.mk [UInt8.ofBitVec (BitVec.ofFin (Fin.mk 0 (Nat.mod_lt 0 (BitVec.ofNat._proof_1 8))))]).toList (IntKind.i64.wrap ((64 : Int) - (↑(shaOf key).size : Int))).toNat)).size ≤ 9223372036854775807) (.need ((shaOf key ++ ba (Lib.repeatL (ByteArray.mk #[(0 : UInt8)]).data.toList (IntKind.i64.wrap ((64 : Int) - (↑(shaOf key).size : Int))).toNat)).size ≤ 9223372036854775807 ∧ (0 : Int) ≤ (54 : Int) ∧ (54 : Int) < (256 : Int)) (.need (0 + (ba (Mac.turn (UInt8.ofBitVec (BitVec.ofFin (Fin.mk 54 (Nat.mod_lt 54 (BitVec.ofNat._proof_1 8))))) (Array.mk ((shaOf key).1.toList ++ (ba (Lib.repeatL (ByteArray.mk #[(0 : UInt8)]).data.toList (IntKind.i64.wrap ((64 : Int) - (↑(shaOf key).size : Int))).toNat)).1.toList)).toList)).size ≤ 9223372036854775807) (.need (p.length = 64) (.need (3 = 3) (.need (St.mk [(0, some (.v (.string (shaOf key ++ ba (Lib.repeatL (Array.mk [UInt8.ofBitVec (BitVec.ofFin (Fin.mk 0 (Nat.mod_lt 0 (BitVec.ofNat._proof_1 8))))]).toList (IntKind.i64.wrap ((64 : Int) - (↑(shaOf key).size : Int))).toNat))))), (5, some (.ptr 1 0)), (25, some (SV.ref 0)), (26, some (.v (.int .i64 (↑n : Int)))), (27, some (.v (.int .i64 0)))] [Blk.row n 1 fun i x => Value.string (g i), .own [.v (.int .u32 (foldA (H8.mk (1779033703 : Int) (3144134277 : Int) (1013904242 : Int) (2773480762 : Int) (1359893119 : Int) (2600822924 : Int) (528734635 : Int) (1541459225 : Int)) (Array.mk ((Array.mk []).toList ++ (ba (Mac.turn (UInt8.ofNat (Int.toNat (54 : Int))) (shaOf key ++ ba (Lib.repeatL (ByteArray.mk #[(0 : UInt8)]).data.toList (IntKind.i64.wrap ((64 : Int) - (↑(shaOf key).size : Int))).toNat)).data.toList)).1.toList)).toList).a), .v (.int .u32 (foldA (H8.mk (1779033703 : Int) (3144134277 : Int) (1013904242 : Int) (2773480762 : Int) (1359893119 : Int) (2600822924 : Int) (528734635 : Int) (1541459225 : Int)) (Array.mk ((Array.mk []).toList ++ (ba (Mac.turn (UInt8.ofNat (Int.toNat (54 : Int))) (shaOf key ++ ba (Lib.repeatL (ByteArray.mk #[(0 : UInt8)]).data.toList (IntKind.i64.wrap ((64 : Int) - (↑(shaOf key).size : Int))).toNat)).data.toList)).1.toList)).toList).b), .v (.int .u32 (foldA (H8.mk (1779033703 : Int) (3144134277 : Int) (1013904242 : Int) (2773480762 : Int) (1359893119 : Int) (2600822924 : Int) (528734635 : Int) (1541459225 : Int)) (Array.mk ((Array.mk []).toList ++ (ba (Mac.turn (UInt8.ofNat (Int.toNat (54 : Int))) (shaOf key ++ ba (Lib.repeatL (ByteArray.mk #[(0 : UInt8)]).data.toList (IntKind.i64.wrap ((64 : Int) - (↑(shaOf key).size : Int))).toNat)).data.toList)).1.toList)).toList).c), .v (.int .u32 (foldA (H8.mk (1779033703 : Int) (3144134277 : Int) (1013904242 : Int) (2773480762 : Int) (1359893119 : Int) (2600822924 : Int) (528734635 : Int) (1541459225 : Int)) (Array.mk ((Array.mk []).toList ++ (ba (Mac.turn (UInt8.ofNat (Int.toNat (54 : Int))) (shaOf key ++ ba (Lib.repeatL (ByteArray.mk #[(0 : UInt8)]).data.toList (IntKind.i64.wrap ((64 : Int) - (↑(shaOf key).size : Int))).toNat)).data.toList)).1.toList)).toList).d), .v (.int .u32 (foldA (H8.mk (1779033703 : Int) (3144134277 : Int) (1013904242 : Int) (2773480762 : Int) (1359893119 : Int) (2600822924 : Int) (528734635 : Int) (1541459225 : Int)) (Array.mk ((Array.mk []).toList ++ (ba (Mac.turn (UInt8.ofNat (Int.toNat (54 : Int))) (shaOf key ++ ba (Lib.repeatL (ByteArray.mk #[(0 : UInt8)]).data.toList (IntKind.i64.wrap ((64 : Int) - (↑(shaOf key).size : Int))).toNat)).data.toList)).1.toList)).toList).e), .v (.int .u32 (foldA (H8.mk (1779033703 : Int) (3144134277 : Int) (1013904242 : Int) (2773480762 : Int) (1359893119 : Int) (2600822924 : Int) (528734635 : Int) (1541459225 : Int)) (Array.mk ((Array.mk []).toList ++ (ba (Mac.turn (UInt8.ofNat (Int.toNat (54 : Int))) (shaOf key ++ ba (Lib.repeatL (ByteArray.mk #[(0 : UInt8)]).data.toList (IntKind.i64.wrap ((64 : Int) - (↑(shaOf key).size : Int))).toNat)).data.toList)).1.toList)).toList).f), .v (.int .u32 (foldA (H8.mk (1779033703 : Int) (3144134277 : Int) (1013904242 : Int) (2773480762 : Int) (1359893119 : Int) (2600822924 : Int) (528734635 : Int) (1541459225 : Int)) (Array.mk ((Array.mk []).toList ++ (ba (Mac.turn (UInt8.ofNat (Int.toNat (54 : Int))) (shaOf key ++ ba (Lib.repeatL (ByteArray.mk #[(0 : UInt8)]).data.toList (IntKind.i64.wrap ((64 : Int) - (↑(shaOf key).size : Int))).toNat)).data.toList)).1.toList)).toList).g), .v (.int .u32 (foldA (H8.mk (1779033703 : Int) (3144134277 : Int) (1013904242 : Int) (2773480762 : Int) (1359893119 : Int) (2600822924 : Int) (528734635 : Int) (1541459225 : Int)) (Array.mk ((Array.mk []).toList ++ (ba (Mac.turn (UInt8.ofNat (Int.toNat (54 : Int))) (shaOf key ++ ba (Lib.repeatL (ByteArray.mk #[(0 : UInt8)]).data.toList (IntKind.i64.wrap ((64 : Int) - (↑(shaOf key).size : Int))).toNat)).data.toList)).1.toList)).toList).h), .v (.string (ba (restA (Array.mk ((Array.mk []).toList ++ (ba (Mac.turn (UInt8.ofNat (Int.toNat (54 : Int))) (shaOf key ++ ba (Lib.repeatL (ByteArray.mk #[(0 : UInt8)]).data.toList (IntKind.i64.wrap ((64 : Int) - (↑(shaOf key).size : Int))).toNat)).data.toList)).1.toList)).toList))), .v (.int .i64 (IntKind.i64.wrap ((0 : Int) + (↑(ba (Mac.turn (UInt8.ofBitVec (BitVec.ofFin (Fin.mk 54 (Nat.mod_lt 54 (BitVec.ofNat._proof_1 8))))) (Array.mk ((shaOf key).1.toList ++ (ba (Lib.repeatL (ByteArray.mk #[(0 : UInt8)]).data.toList (IntKind.i64.wrap ((64 : Int) - (↑(shaOf key).size : Int))).toNat)).1.toList)).toList)).size : Int))))], .own [.v (.int .u8 54)]] = stMI (shaOf key ++ ba (Lib.repeatL (Array.mk [UInt8.ofBitVec (BitVec.ofFin (Fin.mk 0 (Nat.mod_lt 0 (BitVec.ofNat._proof_1 8))))]).toList (IntKind.i64.wrap ((64 : Int) - (↑(shaOf key).size : Int))).toNat)) n g p 0) (.ite (decide ((↑n : Int) < (↑n : Int))) (.need ((0 : Int) ≤ (↑n : Int) ∧ (↑n : Int) < (↑n : Int)) (.need ((↑n : Int).toNat < n) (.need ((ba (restA (p ++ (catR g n).1.toList))).size + (g (↑n : Int).toNat).size ≤ 9223372036854775807) (T.stuck 39)))) (.need ((shaOf key ++ ba (Lib.repeatL (ByteArray.mk #[(0 : UInt8)]).data.toList (IntKind.i64.wrap ((64 : Int) - (↑(shaOf key).size : Int))).toNat)).size ≤ 9223372036854775807 ∧ (0 : Int) ≤ (92 : Int) ∧ (92 : Int) < (256 : Int)) (.need ((ba (restA (p ++ (catR g n).data.toList))).size < 64 ∧ (0 : Int) ≤ (↑p.length : Int) + (↑(catR g n).size : Int) ∧ (↑p.length : Int) + (↑(catR g n).size : Int) ≤ (1099511627776 : Int)) (.need ((ba (Mac.turn (UInt8.ofBitVec (BitVec.ofFin (Fin.mk 92 (Nat.mod_lt 92 (BitVec.ofNat._proof_1 8))))) (Array.mk ((shaOf key).1.toList ++ (ba (Lib.repeatL (ByteArray.mk #[(0 : UInt8)]).data.toList (IntKind.i64.wrap ((64 : Int) - (↑(shaOf key).size : Int))).toNat)).1.toList)).toList)).size + (ba (txt (foldA (foldA (H8.mk (1779033703 : Int) (3144134277 : Int) (1013904242 : Int) (2773480762 : Int) (1359893119 : Int) (2600822924 : Int) (528734635 : Int) (1541459225 : Int)) (p ++ (catR g n).1.toList)) ((ba (restA (p ++ (catR g n).data.toList))).1.toList ++ tail (ba (restA (p ++ (catR g n).1.toList))).size ((↑p.length : Int) + (↑(catR g n).size : Int)).toNat)))).size ≤ 9223372036854775807) (.need ((ba (Mac.turn (UInt8.ofBitVec (BitVec.ofFin (Fin.mk 92 (Nat.mod_lt 92 (BitVec.ofNat._proof_1 8))))) (Array.mk ((shaOf key).1.toList ++ (ba (Lib.repeatL (ByteArray.mk #[(0 : UInt8)]).data.toList (IntKind.i64.wrap ((64 : Int) - (↑(shaOf key).size : Int))).toNat)).1.toList)).toList) ++ ba (txt (foldA (foldA (H8.mk (1779033703 : Int) (3144134277 : Int) (1013904242 : Int) (2773480762 : Int) (1359893119 : Int) (2600822924 : Int) (528734635 : Int) (1541459225 : Int)) (p ++ (catR g n).1.toList)) ((ba (restA (p ++ (catR g n).data.toList))).1.toList ++ tail (ba (restA (p ++ (catR g n).1.toList))).size ((↑p.length : Int) + (↑(catR g n).size : Int)).toNat)))).size ≤ 1000000000000) (.leaf (.v (.string (shaOf (ba (Mac.turn (UInt8.ofBitVec (BitVec.ofFin (Fin.mk 92 (Nat.mod_lt 92 (BitVec.ofNat._proof_1 8))))) (Array.mk ((shaOf key).1.toList ++ (ba (Lib.repeatL (ByteArray.mk #[(0 : UInt8)]).data.toList (IntKind.i64.wrap ((64 : Int) - (↑(shaOf key).size : Int))).toNat)).1.toList)).toList) ++ ba (txt (foldA (foldA (H8.mk (1779033703 : Int) (3144134277 : Int) (1013904242 : Int) (2773480762 : Int) (1359893119 : Int) (2600822924 : Int) (528734635 : Int) (1541459225 : Int)) (p ++ (catR g n).1.toList)) ((ba (restA (p ++ (catR g n).data.toList))).1.toList ++ tail (ba (restA (p ++ (catR g n).1.toList))).size ((↑p.length : Int) + (↑(catR g n).size : Int)).toNat)))))), [Blk.row n 1 fun i x => Value.string (g i)]))))))))))))))) (.need ((0 : Int) ≤ IntKind.i64.wrap ((64 : Int) - (↑key.size : Int)) ∧ IntKind.i64.wrap ((64 : Int) - (↑key.size : Int)) ≤ (9223372036854775807 : Int) ∧ (ByteArray.mk #[(0 : UInt8)]).size * (IntKind.i64.wrap ((64 : Int) - (↑key.size : Int))).toNat ≤ 140737488355328) (.need (key.size + (ba (Lib.repeatL (Array.mk [UInt8.ofBitVec (BitVec.ofFin (Fin.mk 0 (Nat.mod_lt 0 (BitVec.ofNat._proof_1 8))))]).toList (IntKind.i64.wrap ((64 : Int) - (↑key.size : Int))).toNat)).size ≤ 9223372036854775807) (.need ((key ++ ba (Lib.repeatL (ByteArray.mk #[(0 : UInt8)]).data.toList (IntKind.i64.wrap ((64 : Int) - (↑key.size : Int))).toNat)).size ≤ 9223372036854775807 ∧ (0 : Int) ≤ (54 : Int) ∧ (54 : Int) < (256 : Int)) (.need (0 + (ba (Mac.turn (UInt8.ofBitVec (BitVec.ofFin (Fin.mk 54 (Nat.mod_lt 54 (BitVec.ofNat._proof_1 8))))) (Array.mk (key.1.toList ++ (ba (Lib.repeatL (ByteArray.mk #[(0 : UInt8)]).data.toList (IntKind.i64.wrap ((64 : Int) - (↑key.size : Int))).toNat)).1.toList)).toList)).size ≤ 9223372036854775807) (.need (p.length = 64) (.need (3 = 3) (.need (St.mk [(0, some (.v (.string (key ++ ba (Lib.repeatL (Array.mk [UInt8.ofBitVec (BitVec.ofFin (Fin.mk 0 (Nat.mod_lt 0 (BitVec.ofNat._proof_1 8))))]).toList (IntKind.i64.wrap ((64 : Int) - (↑key.size : Int))).toNat))))), (5, some (.ptr 1 0)), (25, some (SV.ref 0)), (26, some (.v (.int .i64 (↑n : Int)))), (27, some (.v (.int .i64 0)))] [Blk.row n 1 fun i x => Value.string (g i), .own [.v (.int .u32 (foldA (H8.mk (1779033703 : Int) (3144134277 : Int) (1013904242 : Int) (2773480762 : Int) (1359893119 : Int) (2600822924 : Int) (528734635 : Int) (1541459225 : Int)) (Array.mk ((Array.mk []).toList ++ (ba (Mac.turn (UInt8.ofNat (Int.toNat (54 : Int))) (key ++ ba (Lib.repeatL (ByteArray.mk #[(0 : UInt8)]).data.toList (IntKind.i64.wrap ((64 : Int) - (↑key.size : Int))).toNat)).data.toList)).1.toList)).toList).a), .v (.int .u32 (foldA (H8.mk (1779033703 : Int) (3144134277 : Int) (1013904242 : Int) (2773480762 : Int) (1359893119 : Int) (2600822924 : Int) (528734635 : Int) (1541459225 : Int)) (Array.mk ((Array.mk []).toList ++ (ba (Mac.turn (UInt8.ofNat (Int.toNat (54 : Int))) (key ++ ba (Lib.repeatL (ByteArray.mk #[(0 : UInt8)]).data.toList (IntKind.i64.wrap ((64 : Int) - (↑key.size : Int))).toNat)).data.toList)).1.toList)).toList).b), .v (.int .u32 (foldA (H8.mk (1779033703 : Int) (3144134277 : Int) (1013904242 : Int) (2773480762 : Int) (1359893119 : Int) (2600822924 : Int) (528734635 : Int) (1541459225 : Int)) (Array.mk ((Array.mk []).toList ++ (ba (Mac.turn (UInt8.ofNat (Int.toNat (54 : Int))) (key ++ ba (Lib.repeatL (ByteArray.mk #[(0 : UInt8)]).data.toList (IntKind.i64.wrap ((64 : Int) - (↑key.size : Int))).toNat)).data.toList)).1.toList)).toList).c), .v (.int .u32 (foldA (H8.mk (1779033703 : Int) (3144134277 : Int) (1013904242 : Int) (2773480762 : Int) (1359893119 : Int) (2600822924 : Int) (528734635 : Int) (1541459225 : Int)) (Array.mk ((Array.mk []).toList ++ (ba (Mac.turn (UInt8.ofNat (Int.toNat (54 : Int))) (key ++ ba (Lib.repeatL (ByteArray.mk #[(0 : UInt8)]).data.toList (IntKind.i64.wrap ((64 : Int) - (↑key.size : Int))).toNat)).data.toList)).1.toList)).toList).d), .v (.int .u32 (foldA (H8.mk (1779033703 : Int) (3144134277 : Int) (1013904242 : Int) (2773480762 : Int) (1359893119 : Int) (2600822924 : Int) (528734635 : Int) (1541459225 : Int)) (Array.mk ((Array.mk []).toList ++ (ba (Mac.turn (UInt8.ofNat (Int.toNat (54 : Int))) (key ++ ba (Lib.repeatL (ByteArray.mk #[(0 : UInt8)]).data.toList (IntKind.i64.wrap ((64 : Int) - (↑key.size : Int))).toNat)).data.toList)).1.toList)).toList).e), .v (.int .u32 (foldA (H8.mk (1779033703 : Int) (3144134277 : Int) (1013904242 : Int) (2773480762 : Int) (1359893119 : Int) (2600822924 : Int) (528734635 : Int) (1541459225 : Int)) (Array.mk ((Array.mk []).toList ++ (ba (Mac.turn (UInt8.ofNat (Int.toNat (54 : Int))) (key ++ ba (Lib.repeatL (ByteArray.mk #[(0 : UInt8)]).data.toList (IntKind.i64.wrap ((64 : Int) - (↑key.size : Int))).toNat)).data.toList)).1.toList)).toList).f), .v (.int .u32 (foldA (H8.mk (1779033703 : Int) (3144134277 : Int) (1013904242 : Int) (2773480762 : Int) (1359893119 : Int) (2600822924 : Int) (528734635 : Int) (1541459225 : Int)) (Array.mk ((Array.mk []).toList ++ (ba (Mac.turn (UInt8.ofNat (Int.toNat (54 : Int))) (key ++ ba (Lib.repeatL (ByteArray.mk #[(0 : UInt8)]).data.toList (IntKind.i64.wrap ((64 : Int) - (↑key.size : Int))).toNat)).data.toList)).1.toList)).toList).g), .v (.int .u32 (foldA (H8.mk (1779033703 : Int) (3144134277 : Int) (1013904242 : Int) (2773480762 : Int) (1359893119 : Int) (2600822924 : Int) (528734635 : Int) (1541459225 : Int)) (Array.mk ((Array.mk []).toList ++ (ba (Mac.turn (UInt8.ofNat (Int.toNat (54 : Int))) (key ++ ba (Lib.repeatL (ByteArray.mk #[(0 : UInt8)]).data.toList (IntKind.i64.wrap ((64 : Int) - (↑key.size : Int))).toNat)).data.toList)).1.toList)).toList).h), .v (.string (ba (restA (Array.mk ((Array.mk []).toList ++ (ba (Mac.turn (UInt8.ofNat (Int.toNat (54 : Int))) (key ++ ba (Lib.repeatL (ByteArray.mk #[(0 : UInt8)]).data.toList (IntKind.i64.wrap ((64 : Int) - (↑key.size : Int))).toNat)).data.toList)).1.toList)).toList))), .v (.int .i64 (IntKind.i64.wrap ((0 : Int) + (↑(ba (Mac.turn (UInt8.ofBitVec (BitVec.ofFin (Fin.mk 54 (Nat.mod_lt 54 (BitVec.ofNat._proof_1 8))))) (Array.mk (key.1.toList ++ (ba (Lib.repeatL (ByteArray.mk #[(0 : UInt8)]).data.toList (IntKind.i64.wrap ((64 : Int) - (↑key.size : Int))).toNat)).1.toList)).toList)).size : Int))))], .own [.v (.int .u8 54)]] = stMI (key ++ ba (Lib.repeatL (Array.mk [UInt8.ofBitVec (BitVec.ofFin (Fin.mk 0 (Nat.mod_lt 0 (BitVec.ofNat._proof_1 8))))]).toList (IntKind.i64.wrap ((64 : Int) - (↑key.size : Int))).toNat)) n g p 0) (.ite (decide ((↑n : Int) < (↑n : Int))) (.need ((0 : Int) ≤ (↑n : Int) ∧ (↑n : Int) < (↑n : Int)) (.need ((↑n : Int).toNat < n) (.need ((ba (restA (p ++ (catR g n).1.toList))).size + (g (↑n : Int).toNat).size ≤ 9223372036854775807) (T.stuck 39)))) (.need ((key ++ ba (Lib.repeatL (ByteArray.mk #[(0 : UInt8)]).data.toList (IntKind.i64.wrap ((64 : Int) - (↑key.size : Int))).toNat)).size ≤ 9223372036854775807 ∧ (0 : Int) ≤ (92 : Int) ∧ (92 : Int) < (256 : Int)) (.need ((ba (restA (p ++ (catR g n).data.toList))).size < 64 ∧ (0 : Int) ≤ (↑p.length : Int) + (↑(catR g n).size : Int) ∧ (↑p.length : Int) + (↑(catR g n).size : Int) ≤ (1099511627776 : Int)) (.need ((ba (Mac.turn (UInt8.ofBitVec (BitVec.ofFin (Fin.mk 92 (Nat.mod_lt 92 (BitVec.ofNat._proof_1 8))))) (Array.mk (key.1.toList ++ (ba (Lib.repeatL (ByteArray.mk #[(0 : UInt8)]).data.toList (IntKind.i64.wrap ((64 : Int) - (↑key.size : Int))).toNat)).1.toList)).toList)).size + (ba (txt (foldA (foldA (H8.mk (1779033703 : Int) (3144134277 : Int) (1013904242 : Int) (2773480762 : Int) (1359893119 : Int) (2600822924 : Int) (528734635 : Int) (1541459225 : Int)) (p ++ (catR g n).1.toList)) ((ba (restA (p ++ (catR g n).data.toList))).1.toList ++ tail (ba (restA (p ++ (catR g n).1.toList))).size ((↑p.length : Int) + (↑(catR g n).size : Int)).toNat)))).size ≤ 9223372036854775807) (.need ((ba (Mac.turn (UInt8.ofBitVec (BitVec.ofFin (Fin.mk 92 (Nat.mod_lt 92 (BitVec.ofNat._proof_1 8))))) (Array.mk (key.1.toList ++ (ba (Lib.repeatL (ByteArray.mk #[(0 : UInt8)]).data.toList (IntKind.i64.wrap ((64 : Int) - (↑key.size : Int))).toNat)).1.toList)).toList) ++ ba (txt (foldA (foldA (H8.mk (1779033703 : Int) (3144134277 : Int) (1013904242 : Int) (2773480762 : Int) (1359893119 : Int) (2600822924 : Int) (528734635 : Int) (1541459225 : Int)) (p ++ (catR g n).1.toList)) ((ba (restA (p ++ (catR g n).data.toList))).1.toList ++ tail (ba (restA (p ++ (catR g n).1.toList))).size ((↑p.length : Int) + (↑(catR g n).size : Int)).toNat)))).size ≤ 1000000000000) (.leaf (.v (.string (shaOf (ba (Mac.turn (UInt8.ofBitVec (BitVec.ofFin (Fin.mk 92 (Nat.mod_lt 92 (BitVec.ofNat._proof_1 8))))) (Array.mk (key.1.toList ++ (ba (Lib.repeatL (ByteArray.mk #[(0 : UInt8)]).data.toList (IntKind.i64.wrap ((64 : Int) - (↑key.size : Int))).toNat)).1.toList)).toList) ++ ba (txt (foldA (foldA (H8.mk (1779033703 : Int) (3144134277 : Int) (1013904242 : Int) (2773480762 : Int) (1359893119 : Int) (2600822924 : Int) (528734635 : Int) (1541459225 : Int)) (p ++ (catR g n).1.toList)) ((ba (restA (p ++ (catR g n).data.toList))).1.toList ++ tail (ba (restA (p ++ (catR g n).1.toList))).size ((↑p.length : Int) + (↑(catR g n).size : Int)).toNat)))))), [Blk.row n 1 fun i x => Value.string (g i)])))))))))))))) := by kernel_rfl
def strsF (f : Nat → Nat → Value) (i : Nat) : ByteArray := strV (f i 0)
def fMac : List SV → List Blk → Option (T (SV × List Blk))
  | [.v (.string key), .ref 0], [.row n 1 f] => some (.need (n ≤ maxLen ∧ key.size ≤ 1000000000000 ∧ (catR (strsF f) n).size ≤ 100000000000 ∧ ∀ i, i < n → f i 0 = .string (strsF f i)) (.leaf (.v (.string (macOf key (catR (strsF f) n))), [.row n 1 fun i _ => .string (strsF f i)])))
  | _, _ => none
theorem sum_at (p : List UInt8) (c : ByteArray) : ba (txt (foldA (foldA H0 (p ++ c.data.toList)) (restA (p ++ c.data.toList) ++ tail (ba (restA (p ++ c.data.toList))).size ((p.length : Int) + (c.size : Int)).toNat))) = shaOf (ba p ++ c) := by
  rw [ba_len, show ((p.length : Int) + (c.size : Int)).toNat = (p ++ c.data.toList).length by rw [List.length_append, show c.data.toList.length = c.size by simp]; omega, sum_pieces]
  unfold shaOf
  rw [ba_app]
  rfl
set_option maxRecDepth 100000 in
theorem fMac_ok : EntryOk Tryz.prog 71 fMac := by
  intro ss H t ht bs B w vs hm hv0 Qs hq
  unfold fMac at ht
  split at ht
  · rename_i key n f
    simp only [Option.some.injEq] at ht
    subst ht
    obtain ⟨⟨q1, q2, q3, q4⟩, hq⟩ := hq
    have hm := mem_row_congr hm (k := 0) (g := fun i _ => .string (strsF f i)) rfl (fun i j hi hj => by obtain rfl : j = 0 := (by omega); exact q4 i hi)
    generalize strsF f = g at hq hm q3
    have hm : Mem w bs [.row n 1 fun i _ => .string (g i)] B w := hm
    have s0 := keyB_size key
    generalize hp : Mac.turn 54 (padK (keyB key)).data.toList = p
    have hK := padK_key key
    have hpl : p.length = 64 := by rw [← hp, turn_length, show (padK (keyB key)).data.toList.length = (padK (keyB key)).size by simp, padK_size _ s0]
    have hsum := sum_at p (catR g n)
    have hv := mac_val key (catR g n) hK
    rw [hp] at hv
    have hrl := restA_length (p ++ (catR g n).data.toList)
    refine trimT_ok (CN_ok SMac2_ok) follows Tryz.func71 (by kernel_rfl) (by kernel_rfl) (one_loop (b := loopAt Tryz.f71 0) (id := 0) (by kernel_rfl) fun st t h => ?_) (macOf_run key n g p) hm hv0 ?_
    · rw [addL_same h]
      exact .str fun key => .need fun h1 => loop_cnt (CN_ok SMac2_ok) follows (by kernel_rfl) (noloops (by kernel_rfl)) (fun i : Nat => i ≤ n) (fun i => stMI key n g p i) (fun i => n - i) 3 [0, 5, 25, 26, 27] [] [] n [] (stMI_step key n g p q1 (by omega) q3) (Nat.zero_le _)
    clear hm hv0
    by_cases hb : 64 < key.size
    · have e : keyB key = shaOf key := by unfold keyB; rw [if_pos hb]
      rw [e] at hp hK hv
      have s1 : (shaOf key).size ≤ 64 := by rw [shaOf_size]; omega
      have hw : IntKind.i64.wrap (64 - ((shaOf key).size : Int)) = 64 - ((shaOf key).size : Int) := w64 _ (by omega) (by omega)
      have hr : Lib.repeatL [(0 : UInt8)] (IntKind.i64.wrap (64 - ((shaOf key).size : Int))).toNat = List.replicate (64 - (shaOf key).size) 0 := by rw [hw, repeatL_one, show (64 - ((shaOf key).size : Int)).toNat = 64 - (shaOf key).size by omega]
      have hKe : (shaOf key) ++ ba (Lib.repeatL [(0 : UInt8)] (IntKind.i64.wrap (64 - ((shaOf key).size : Int))).toNat) = padK (shaOf key) := by rw [hr]; rfl
      have hKz := padK_size (shaOf key) s1
      have hKl : (padK (shaOf key)).data.toList.length = 64 := by rw [show (padK (shaOf key)).data.toList.length = (padK (shaOf key)).size by simp, hKz]
      have m1 : (shaOf key).size + (ba (Lib.repeatL [(0 : UInt8)] (IntKind.i64.wrap (64 - ((shaOf key).size : Int))).toNat)).size ≤ 9223372036854775807 := by rw [hr, ba_len, List.length_replicate]; omega
      have m2 : ((shaOf key) ++ ba (Lib.repeatL [(0 : UInt8)] (IntKind.i64.wrap (64 - ((shaOf key).size : Int))).toNat)).size ≤ 9223372036854775807 := by rw [hKe, hKz]; omega
      have m3 : 0 + (ba (Mac.turn 54 ((shaOf key) ++ ba (Lib.repeatL [(0 : UInt8)] (IntKind.i64.wrap (64 - ((shaOf key).size : Int))).toNat)).data.toList)).size ≤ 9223372036854775807 := by rw [hKe, ba_len, turn_length, hKl]; omega
      have m4 : stM ((shaOf key) ++ ba (Lib.repeatL [(0 : UInt8)] (IntKind.i64.wrap (64 - ((shaOf key).size : Int))).toNat)) n g (foldA H0 ([] ++ Mac.turn 54 ((shaOf key) ++ ba (Lib.repeatL [(0 : UInt8)] (IntKind.i64.wrap (64 - ((shaOf key).size : Int))).toNat)).data.toList)) (ba (restA ([] ++ Mac.turn 54 ((shaOf key) ++ ba (Lib.repeatL [(0 : UInt8)] (IntKind.i64.wrap (64 - ((shaOf key).size : Int))).toNat)).data.toList))) (IntKind.i64.wrap (0 + ((ba (Mac.turn 54 ((shaOf key) ++ ba (Lib.repeatL [(0 : UInt8)] (IntKind.i64.wrap (64 - ((shaOf key).size : Int))).toNat)).data.toList)).size : Int))) 0 = stMI ((shaOf key) ++ ba (Lib.repeatL [(0 : UInt8)] (IntKind.i64.wrap (64 - ((shaOf key).size : Int))).toNat)) n g p 0 := by
        rw [hKe, ba_len, hp, hpl]
        unfold stMI
        rw [show (catR g 0).data.toList = [] from rfl, show (catR g 0).size = 0 from rfl, List.append_nil, List.nil_append, hpl]
        rfl
      have m5 : (ba (Mac.turn 92 ((shaOf key) ++ ba (Lib.repeatL [(0 : UInt8)] (IntKind.i64.wrap (64 - ((shaOf key).size : Int))).toNat)).data.toList)).size = 64 := by rw [hKe, ba_len, turn_length, hKl]
      have m6 : shaOf (ba (Mac.turn 92 ((shaOf key) ++ ba (Lib.repeatL [(0 : UInt8)] (IntKind.i64.wrap (64 - ((shaOf key).size : Int))).toNat)).data.toList) ++ ba (txt (foldA (foldA H0 (p ++ (catR g n).data.toList)) (restA (p ++ (catR g n).data.toList) ++ tail (ba (restA (p ++ (catR g n).data.toList))).size ((p.length : Int) + ((catR g n).size : Int)).toNat)))) = macOf key (catR g n) := by rw [hKe, hsum]; exact hv
      refine ⟨fun _ => ⟨q2, ⟨by omega, by omega, ?_⟩, m1, ⟨m2, by omega, by omega⟩, m3, hpl, rfl, m4, (fun h => ?_), fun _ => ⟨⟨m2, by omega, by omega⟩, ⟨?_, by omega, by omega⟩, ?_, ?_, ?_⟩⟩, fun h => ?_⟩
      · show 1 * _ ≤ _
        rw [hw]; omega
      · have h := of_decide_eq_true h; omega
      · rw [ba_len, hrl]; omega
      · refine Nat.le_trans (Nat.add_le_add (Nat.le_of_eq m5) (Nat.le_of_eq ?_)) (m := 64 + 32) (by omega)
        rw [ba_len, txt_length]
      · rw [ByteArray.size_append]
        refine Nat.le_trans (Nat.add_le_add (Nat.le_of_eq m5) (Nat.le_of_eq ?_)) (m := 64 + 32) (by omega)
        rw [ba_len, txt_length]
      · rw [← m6] at hq
        exact hq
      · have h := of_decide_eq_false h; omega
    · have e : keyB key = key := by unfold keyB; rw [if_neg hb]
      rw [e] at hp hK hv
      have s1 : key.size ≤ 64 := by omega
      have hw : IntKind.i64.wrap (64 - ((key).size : Int)) = 64 - ((key).size : Int) := w64 _ (by omega) (by omega)
      have hr : Lib.repeatL [(0 : UInt8)] (IntKind.i64.wrap (64 - ((key).size : Int))).toNat = List.replicate (64 - (key).size) 0 := by rw [hw, repeatL_one, show (64 - ((key).size : Int)).toNat = 64 - (key).size by omega]
      have hKe : (key) ++ ba (Lib.repeatL [(0 : UInt8)] (IntKind.i64.wrap (64 - ((key).size : Int))).toNat) = padK (key) := by rw [hr]; rfl
      have hKz := padK_size (key) s1
      have hKl : (padK (key)).data.toList.length = 64 := by rw [show (padK (key)).data.toList.length = (padK (key)).size by simp, hKz]
      have m1 : (key).size + (ba (Lib.repeatL [(0 : UInt8)] (IntKind.i64.wrap (64 - ((key).size : Int))).toNat)).size ≤ 9223372036854775807 := by rw [hr, ba_len, List.length_replicate]; omega
      have m2 : ((key) ++ ba (Lib.repeatL [(0 : UInt8)] (IntKind.i64.wrap (64 - ((key).size : Int))).toNat)).size ≤ 9223372036854775807 := by rw [hKe, hKz]; omega
      have m3 : 0 + (ba (Mac.turn 54 ((key) ++ ba (Lib.repeatL [(0 : UInt8)] (IntKind.i64.wrap (64 - ((key).size : Int))).toNat)).data.toList)).size ≤ 9223372036854775807 := by rw [hKe, ba_len, turn_length, hKl]; omega
      have m4 : stM ((key) ++ ba (Lib.repeatL [(0 : UInt8)] (IntKind.i64.wrap (64 - ((key).size : Int))).toNat)) n g (foldA H0 ([] ++ Mac.turn 54 ((key) ++ ba (Lib.repeatL [(0 : UInt8)] (IntKind.i64.wrap (64 - ((key).size : Int))).toNat)).data.toList)) (ba (restA ([] ++ Mac.turn 54 ((key) ++ ba (Lib.repeatL [(0 : UInt8)] (IntKind.i64.wrap (64 - ((key).size : Int))).toNat)).data.toList))) (IntKind.i64.wrap (0 + ((ba (Mac.turn 54 ((key) ++ ba (Lib.repeatL [(0 : UInt8)] (IntKind.i64.wrap (64 - ((key).size : Int))).toNat)).data.toList)).size : Int))) 0 = stMI ((key) ++ ba (Lib.repeatL [(0 : UInt8)] (IntKind.i64.wrap (64 - ((key).size : Int))).toNat)) n g p 0 := by
        rw [hKe, ba_len, hp, hpl]
        unfold stMI
        rw [show (catR g 0).data.toList = [] from rfl, show (catR g 0).size = 0 from rfl, List.append_nil, List.nil_append, hpl]
        rfl
      have m5 : (ba (Mac.turn 92 ((key) ++ ba (Lib.repeatL [(0 : UInt8)] (IntKind.i64.wrap (64 - ((key).size : Int))).toNat)).data.toList)).size = 64 := by rw [hKe, ba_len, turn_length, hKl]
      have m6 : shaOf (ba (Mac.turn 92 ((key) ++ ba (Lib.repeatL [(0 : UInt8)] (IntKind.i64.wrap (64 - ((key).size : Int))).toNat)).data.toList) ++ ba (txt (foldA (foldA H0 (p ++ (catR g n).data.toList)) (restA (p ++ (catR g n).data.toList) ++ tail (ba (restA (p ++ (catR g n).data.toList))).size ((p.length : Int) + ((catR g n).size : Int)).toNat)))) = macOf key (catR g n) := by rw [hKe, hsum]; exact hv
      refine ⟨fun h => ?_, fun _ => ⟨⟨by omega, by omega, ?_⟩, m1, ⟨m2, by omega, by omega⟩, m3, hpl, rfl, m4, (fun h => ?_), fun _ => ⟨⟨m2, by omega, by omega⟩, ⟨?_, by omega, by omega⟩, ?_, ?_, ?_⟩⟩⟩
      · have h := of_decide_eq_true h; omega
      · show 1 * _ ≤ _
        rw [hw]; omega
      · have h := of_decide_eq_true h; omega
      · rw [ba_len, hrl]; omega
      · refine Nat.le_trans (Nat.add_le_add (Nat.le_of_eq m5) (Nat.le_of_eq ?_)) (m := 64 + 32) (by omega)
        rw [ba_len, txt_length]
      · rw [ByteArray.size_append]
        refine Nat.le_trans (Nat.add_le_add (Nat.le_of_eq m5) (Nat.le_of_eq ?_)) (m := 64 + 32) (by omega)
        rw [ba_len, txt_length]
      · rw [← m6] at hq
        exact hq
  · cases ht
end Go.Proofs.YtjjnolpkifhbnaaGreat
namespace Go.Proofs.YtjjnolpkifhbnaaGreat
set_option linter.unusedVariables false
set_option linter.unusedSimpArgs false
open Go.RowKit Sym Sha Go.ChangeShapes Go.WideShapes Go.ChangeMaps

def strsL : List Value → Option (List ByteArray)
  | [] => some []
  | .string s :: l => (match strsL l with | some m => some (s :: m) | none => none)
  | _ => none
theorem strsL_eq : ∀ {xs : List Value} {l : List ByteArray}, strsL xs = some l → xs = l.map .string
  | [], l, h => by simp only [strsL, Option.some.injEq] at h; subst h; rfl
  | x :: xs, l, h => by
    cases x with
    | string s =>
      simp only [strsL] at h
      split at h
      · rename_i m hm
        simp only [Option.some.injEq] at h
        subst h
        rw [strsL_eq hm]; rfl
      · cases h
    | _ => simp [strsL] at h
def catA : List ByteArray → ByteArray
  | [] => ⟨⟨[]⟩⟩
  | s :: l => s ++ catA l
def catL : List ByteArray → ByteArray
  | [] => ⟨⟨[]⟩⟩
  | [s] => s
  | s :: l => s ++ catL l
theorem catL_eq : ∀ l, catL l = catA l
  | [] => rfl
  | [s] => (app_nil s).symm
  | s :: t :: l => by
    show s ++ catL (t :: l) = s ++ catA (t :: l)
    rw [catL_eq (t :: l)]
theorem catA_snoc : ∀ (l : List ByteArray) (s : ByteArray), catA (l ++ [s]) = catA l ++ s
  | [], s => (app_nil s).trans (nil_app s).symm
  | t :: l, s => by
    show t ++ catA (l ++ [s]) = t ++ catA l ++ s
    rw [catA_snoc l s, ByteArray.append_assoc]
theorem catR_list (l : List ByteArray) (g : Nat → ByteArray) : ∀ n, n ≤ l.length → (∀ i (h : i < l.length), g i = l[i]) → catR g n = catA (l.take n)
  | 0, _, _ => rfl
  | n + 1, h, e => by
    show catR g n ++ g n = _
    rw [catR_list l g n (by omega) e, List.take_succ_eq_append_getElem (by omega), catA_snoc, e n (by omega)]
def fMacV : List SV → List Blk → Option (T (SV × List Blk))
  | [.v (.string key), .ref 0], [.vec o e 1 n xs] => (match strsL xs with
    | some l => bif Nat.beq l.length n then some (.need (n ≤ maxLen ∧ key.size ≤ 1000000000000 ∧ (catL l).size ≤ 100000000000) (.leaf (.v (.string (macOf key (catL l))), [.vec o e 1 n xs]))) else none
    | none => none)
  | ss, H => fMac ss H
theorem fMacV_ok : EntryOk Tryz.prog 71 fMacV := by
  intro ss H t ht bs B w vs hm hv Qs hq
  unfold fMacV at ht
  split at ht
  · rename_i key o e n xs
    split at ht
    · rename_i l hl
      cases hb : Nat.beq l.length n
      · rw [hb] at ht; cases ht
      · rw [hb, cond_true, Option.some.injEq] at ht
        have hn := Nat.eq_of_beq_eq_true hb
        subst ht
        obtain ⟨⟨q1, q2, q3⟩, hq⟩ := hq
        have hx := strsL_eq hl
        have hf : ∀ i (h : i < l.length), strsF (fun i j => cellAt xs (i * 1 + j)) i = l[i] ∧ cellAt xs (i * 1 + 0) = .string l[i] := by
          intro i h
          have : cellAt xs (i * 1 + 0) = .string l[i] := by
            rw [hx]; unfold cellAt; simp [List.getD_eq_getElem?_getD, h]
          refine ⟨?_, this⟩
          show strV (cellAt xs (i * 1 + 0)) = _
          rw [this]; rfl
        have hc : catR (strsF fun i j => cellAt xs (i * 1 + j)) n = catL l := by
          rw [catR_list l _ n (by omega) (fun i h => (hf i h).1), catL_eq, List.take_of_length_le (by omega)]
        have hF : LOk Tryz.prog (addF 71 fMac noF) := addF_ok noF_ok (by kernel_rfl) fMac_ok
        have key2 : liftG (addF 71 fMac noF) 71 [.v (.string key), .ref 0] (fun k => [Blk.vec o e 1 n xs][k]?) 1 = some (.need (n ≤ maxLen ∧ key.size ≤ 1000000000000 ∧ (catR (strsF fun i j => cellAt xs (i * 1 + j)) n).size ≤ 100000000000 ∧ ∀ i, i < n → (fun i j => cellAt xs (i * 1 + j)) i 0 = .string (strsF (fun i j => cellAt xs (i * 1 + j)) i)) (.leaf (.v (.string (macOf key (catR (strsF fun i j => cellAt xs (i * 1 + j)) n))), ⟨[], []⟩))) := by kernel_rfl
        refine ((liftG_ok hF _ _ _ _ _ key2).2 w bs _ B w vs hm (fun k x h => h) rfl hv (fun r => Qs (r.1, [.vec o e 1 n xs]) ∧ r.2 = ⟨[], []⟩) ?_).mono ?_
        · refine ⟨⟨q1, q2, by rw [hc]; exact q3, fun i hi => ?_⟩, ?_, rfl⟩
          · obtain ⟨h1, h2⟩ := hf i (by omega)
            rw [h1]; exact h2
          · rw [hc]; exact hq
        · rintro e' w' ⟨s, ef, B', x, ⟨h1, rfl⟩, h2, h3, h4, h5⟩
          exact ⟨s, _, B', x, h1, h2, h3, h4, h5⟩
    · cases ht
  · exact fMac_ok _ _ t ht bs B w vs hm hv Qs hq
end Go.Proofs.YtjjnolpkifhbnaaGreat
namespace Go.Proofs.YtjjnolpkifhbnaaGreat
set_option linter.unusedVariables false
set_option linter.unusedSimpArgs false
open Go.RowKit Sym Sha Go.ChangeShapes Go.WideShapes Go.ChangeMaps

def FMac : LTab := addF 71 fMacV noF
theorem FMac_ok : LOk Tryz.prog FMac := addF_ok noF_ok (by kernel_rfl) fMacV_ok
abbrev CL (P : Program) (S : Tab) : Cfg := both P S FMac [71]
theorem CL_ok {S : Tab} (h : TabOk Tryz.prog S) : CfgOk Tryz.prog (CL Tryz.prog S) := both_ok h FMac_ok





def tokenOf (k : ByteArray) : Int := valU ((shaOf k).extract 0 4)
def span (size : Int) : Int := if 7 < if 1 > size then 1 else size then 7 else if 1 > size then 1 else size
def drawOf (k : ByteArray) (a size : Int) : Int := valU ((macOf k (Oct.put ⟨⟨[]⟩⟩ a 8)).extract 0 (span size).toNat)
theorem span_in (size : Int) : 1 ≤ span size ∧ span size ≤ 7 := by unfold span; split <;> split <;> (try split at *) <;> omega
def tToken : List Value → Option (List Prop × Value) | [.string k] => some ([k.size ≤ 1000000000000], .int .i64 (tokenOf k)) | _ => none
def tDraw : List Value → Option (List Prop × Value) | [.string k, .int .i64 a, .int .i64 z] => some ([k.size ≤ 1000000000000], .int .i64 (drawOf k a z)) | _ => none
def SMac3  : Tab := SMac2
theorem SMac3_ok : TabOk Tryz.prog (SMac3) := SMac2_ok
end Go.Proofs.YtjjnolpkifhbnaaGreat
